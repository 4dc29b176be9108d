/-
  Texts joined, part 5: StEnv, LgEq, UnRows, UnEnv, LgCut, UnMask, UnFind, UnTag, UnCur, UnBin, UnMp4, UnRefA, UnRefB, UnBs, UnTxt, UnTab, UnRefC, UnRefD, UnRefE, UnMp3, UnRefF, UnMed, UnKind, UnWebm, UnTop, UnRefG, SnBug, SnLive, SnTop, StFld, SnFld, SnRule, UnSame, UnLawPl, UnLaws, LgObj, StBldW, MiCur, MiTwo, StBs, MiQuo, MiCol, MiTrim, ObJson, ObJsonB, SnEnv, SnRules, SnObs, SnPart, SnGrp, SnGrpB, SnGrpC, MiVal, MiAll, MiEnds, Rp, MiSplit, UrCode, UrCodeB, UrCodeC, UrSplit, UrDots, NuPlain, NuParts, UrNum, UrGood, UrLens, UrParse, HdPlain, HdBack, HdCode.
-/
import Derived.Test.YtcgiaiimbnoknaaGreatDoorM4
import Derived.MapKept
import Derived.Test.YtcgiaiimbnoknaaGreatDoorM1
import Derived.Test.YtcgiaiimbnoknaaGreatDoorM3
import Derived.Lib.IndexAny
import Derived.Lib.SlTrimSet
import Derived.Lib.ItoaNum
set_option linter.unusedSimpArgs false
set_option linter.unusedVariables false
namespace Go.Proofs.YtcgiaiimbnoknaaGreatDoor
open Go.Lg Go.Tg
noncomputable def EJ:Ext:=extLL specsStr [73,74]
@[simp] theorem EJ_ch {n id k:Nat} :EJ.loud.ch n id k=chT n id k:=rfl
@[simp] theorem EJ_cv {s d:TypeId} :EJ.loud.cv s d=false:=rfl
@[simp] theorem EJ_pm {n id k:Nat} :EJ.loud.pm n id k= []:=rfl
@[simp] theorem EJ_loud {g:FuncId} :EJ.loud g=(decide (g=73)||decide (g=74)):=by
 unfold EJ extLL
 simp only [List.contains_cons,List.contains_nil,Bool.or_false]
 rw [Bool.eq_iff_iff];simp
theorem extOk:ExtOk Tryz.prog EJ:=extL_ok str_ok
theorem tOk:TOk Tryz.prog (LC Tryz.prog EJ):=LC_ok extOk mixed
section
variable {H:LH} {s t p:List UInt8}
@[simp] theorem indexByte_l {c:UInt8} :LC Tryz.prog EJ 172 [str s,.int .u8 c.toNat] H=some (.int .i64 (Lib.indexByte s c),H):=LC_flat (g:=gIndexByte) rfl (by simp [gIndexByte,str])
@[simp] theorem hasPrefix_l:LC Tryz.prog EJ 156 [str s,str p] H=some (.bool (Lib.hasPrefix s p),H):=LC_flat (g:=gHasPrefix) rfl (by simp [gHasPrefix,str])
@[simp] theorem index1_l {c:UInt8} :LC Tryz.prog EJ 327 [str s,str [c]] H=some (.int .i64 (Lib.indexByte s c),H):=LC_ext (s:=specIndexA) rfl (by unfold specIndexA str;rfl)
theorem join_l {l o n c:Nat} {b:LB} {xs:List (List UInt8)} (hb:H.get l=some b) (h0:n≠0) (hc:n≤c) (hn:n≤140737488355328) (hx:xs.length=n) (hcs:(b.cells.drop o).take n=xs.map str) (hl:(Lib.join xs p).length≤140737488355328):
  LC Tryz.prog EJ 298 [.slice (some ⟨l,o,none⟩) n c,str p] H=some (str (Lib.join xs p),H):=LC_ext (s:=specJoin) rfl (by
 have hex: ∃(b:LB) (xs:List (List UInt8)),H.get l=some b∧n≠0∧n≤c∧n≤140737488355328∧xs.length=n∧(b.cells.drop o).take n=xs.map str∧(Lib.join xs (⟨p.toArray⟩:ByteArray).data.toList).length≤140737488355328:=⟨b,xs,hb,h0,hc,hn,hx,hcs,hl⟩
 have e:Classical.choose (Classical.choose_spec hex)=xs:=by
  obtain⟨g1,_,_,_,_,g6,_⟩:=Classical.choose_spec (Classical.choose_spec hex)
  have hbe:=congrArg LB.cells (Option.some.inj (hb.symm.trans g1))
  exact(map_str_inj (hcs.symm.trans ((congrArg (fun z=>(z.drop o).take n) hbe).trans g6))).symm
 show specJoin [.slice (some ⟨l,o,none⟩) n c,.string ⟨p.toArray⟩] H=_
 unfold specJoin
 simp only
 rw [dif_pos hex,e])
theorem lower_l (h:s.length≤maxLen):LC Tryz.prog EJ 317 [str s] H=some (str (Tg.Lo.lower s),H):=LC_flat (g:=gLower) rfl (by
 unfold gLower str
 dsimp only
 rw [if_pos (by rw [ba_size];exact h)])
theorem lz8_l {c:UInt8} :LC Tryz.prog EJ 348 [.int .u8 c.toNat] H=some (.int .i64 (8-(Lib.bitLen c.toNat:Int)),H):=LC_flat (g:=gLz8) rfl (by
 have h:=c.toNat_lt
 unfold gLz8
 dsimp only
 rw [if_pos ⟨by omega,by omega⟩]
 simp)
end
end Go.Proofs.YtcgiaiimbnoknaaGreatDoor
set_option maxRecDepth 100000
namespace Go.Lg
theorem lbin_agg {P:Program} {t:TypeId} {xs ys:List Value} {b:Bool} (hx:flatB (.agg ⟨xs⟩)=true) (hy:flatB (.agg ⟨ys⟩)=true) (hg:P.eqGuardType P.depth t=false)
  (he:pureVal P (Op.equalIn Op.maxDepth t (.agg ⟨xs⟩) (.agg ⟨ys⟩))=some b):lbin P .eql t (.agg ⟨xs⟩) (.agg ⟨ys⟩)=some (.bool b):=by
 unfold lbin
 simp only
 rw [if_pos (by rw [hx,hy];rfl)]
 unfold pureFlat eqGuard
 simp only [binOp,Op.equal,pureVal_bind]
 have e1: ∀X Y:Value,pureVal P (if(!true)=true then(pure ():Sem Unit)else do
   let __do_lift←program
   let __do_lift_1←program
   if(!__do_lift.eqGuardType __do_lift_1.depth t)=true then pure ()
   else do
    let __do_lift←Op.eqGuardIn Op.maxDepth t X Y
    if __do_lift=true then unsupported (Unsupported.noEntry "binop/eql: two nil values of an interface type with methods, in a part of a struct or an array")else pure ())=some ():=by
  intro X Y
  rw [if_neg (by decide)]
  simp only [pureVal_bind,pureVal_program,Option.bind_some,hg,Bool.not_false,if_true,pureVal_pure]
 rw [e1,he]
 rfl
end Go.Lg
namespace Tg.Un
open Go
def pcells:List Pat→List Value
 | []=> []
 |p::l=>Go.Lg.str p.b::Go.Lg.str p.m::Go.Lg.str p.s::Go.Lg.str p.t::pcells l
theorem pcells_len: ∀l:List Pat,(pcells l).length=l.length*4
 | []=>rfl
 |p::l=>by simp [pcells,pcells_len l];omega
theorem pcells_at: ∀ {l:List Pat} {i:Nat} (h:i<l.length) (rest:List Value),((pcells l++rest).drop (i*4)).take 4= [Go.Lg.str l[i].b,Go.Lg.str l[i].m,Go.Lg.str l[i].s,Go.Lg.str l[i].t]
 |p::l,0,h,rest=>by simp [pcells]
 |p::l,i+1,h,rest=>by
  have:=pcells_at (l:=l) (i:=i) (by simpa using h) rest
  rw [Nat.succ_mul]
  simpa [pcells]using this
end Tg.Un
namespace Go.Proofs.YtcgiaiimbnoknaaGreatDoor
open Go.Lg Go.Tg
@[simp ↓] theorem loud_makeSlice {L:Loud} {t:TypeId} {x y:Operand} :loudOp L (.makeSlice t x y)=false:=rfl
theorem wrapI {x:Int} (h1: -9223372036854775808≤x) (h2:x≤9223372036854775807):IntKind.i64.wrap x=x:=wrap64_in h1 h2
theorem at_in {s:List UInt8} {i:Nat} (h:i<s.length):at_ s (i:Int)=s[i]:=by
 unfold at_
 rw [show((i:Nat):Int).toNat=i by omega,List.getD_eq_getElem?_getD,List.getElem?_eq_getElem h];rfl
theorem idx_lt (l:List UInt8) (c:UInt8):l.contains c=!decide (Lib.indexByte l c<0):=by
 induction l with
 |nil=>rfl
 |cons x l ih=>
  have hge:=Lib.indexByte_ge l c
  rw [List.contains_cons]
  unfold Lib.indexByte
  by_cases hx:x=c
  ·subst hx;simp
  ·have hx1:(x==c)=false:=by simp [hx]
   have hx2:(c==x)=false:=by simp;exact fun e=>hx e.symm
   rw [hx1,hx2,ih]
   simp only [Bool.false_or,Bool.false_eq_true,if_false]
   by_cases h1:Lib.indexByte l c= -1
   ·simp [h1]
   ·have:(Lib.indexByte l c== -1)=false:=by simp [h1]
    rw [this]
    simp only [Bool.false_eq_true,if_false]
    congr 2
    rw [eq_iff_iff];omega
theorem idxU (l:List UInt8) (c:UInt8):l.contains c=decide (0≤Lib.indexByte l c):=by
 rw [idx_lt]
 by_cases h:Lib.indexByte l c<0
 ·rw [decide_eq_true h,decide_eq_false (by omega)];rfl
 ·rw [decide_eq_false h,decide_eq_true (by omega)];rfl
theorem tn_ne {c b:UInt8} (h: ¬c=b):((c.toNat:Int)=(b.toNat:Int))=False:=eq_false (fun e=>h (UInt8.toNat_inj.mp (by omega)))
theorem lfill_p3 {a b d:List UInt8} :lfill Tryz.prog 189 [str [],str [],str [],str []] [(0,str a),(1,str b),(3,str d)]=some [str a,str b,str [],str d]:=by
 rw [lfill_cell (o:=0) (n:=1) (g:=false) (by simp) rfl (by simp) (by simp),lfill_cell (o:=1) (n:=1) (g:=false) (by simp) rfl (by simp) (by simp),lfill_cell (o:=3) (n:=1) (g:=false) (by simp) rfl (by simp) (by simp)]
 simp
abbrev pv (p:Tg.Un.Pat):Value:=.agg #[str p.b,str p.m,str p.s,str p.t]
def PRow (H:LH) (v:Value) (l:List Tg.Un.Pat):Prop:=
 (v=.slice none 0 0∧l= [])∨ ∃(k o c:Nat),v=.slice (some ⟨k,o,none⟩) l.length c∧(l≠ []→ ∃b:LB,H.get k=some b∧k<H.n∧ ∀(i:Nat) (h:i<l.length),o+i*4+4≤b.cells.length∧(b.cells.drop (o+i*4)).take 4= [str l[i].b,str l[i].m,str l[i].s,str l[i].t])
def SRow (H:LH) (v:Value) (l:List (List UInt8)):Prop:=
 (v=.slice none 0 0∧l= [])∨ ∃(k o c:Nat),v=.slice (some ⟨k,o,none⟩) l.length c∧(l≠ []→ ∃b:LB,H.get k=some b∧k<H.n∧ ∀(i:Nat) (h:i<l.length),b.cells[o+i]?=some (str l[i]))
def IRow (H:LH) (v:Value) (l:List Int):Prop:=
 (v=.slice none 0 0∧l= [])∨ ∃(k o c:Nat),v=.slice (some ⟨k,o,none⟩) l.length c∧(l≠ []→ ∃b:LB,H.get k=some b∧k<H.n∧ ∀(i:Nat) (h:i<l.length),b.cells[o+i]?=some (.int .i64 l[i]))
section
variable {H H':LH} {v:Value} {l:List Tg.Un.Pat} {xs:List (List UInt8)} {ns:List Int}
theorem PRow.keep (h:PRow H v l) (hn:H.n≤H'.n) (hk: ∀k,k<H.n→H'.get k=H.get k):PRow H' v l:=by
 rcases h with h|⟨k,o,c,h1,h2⟩
 ·exact .inl h
 ·refine .inr ⟨k,o,c,h1,fun hne=>?_⟩
  obtain⟨b,h2,h3,h4⟩:=h2 hne
  exact⟨b,by rw [hk k h3];exact h2,by omega,h4⟩
theorem SRow.keep (h:SRow H v xs) (hn:H.n≤H'.n) (hk: ∀k,k<H.n→H'.get k=H.get k):SRow H' v xs:=by
 rcases h with h|⟨k,o,c,h1,h2⟩
 ·exact .inl h
 ·refine .inr ⟨k,o,c,h1,fun hne=>?_⟩
  obtain⟨b,h2,h3,h4⟩:=h2 hne
  exact⟨b,by rw [hk k h3];exact h2,by omega,h4⟩
theorem IRow.keep (h:IRow H v ns) (hn:H.n≤H'.n) (hk: ∀k,k<H.n→H'.get k=H.get k):IRow H' v ns:=by
 rcases h with h|⟨k,o,c,h1,h2⟩
 ·exact .inl h
 ·refine .inr ⟨k,o,c,h1,fun hne=>?_⟩
  obtain⟨b,h2,h3,h4⟩:=h2 hne
  exact⟨b,by rw [hk k h3];exact h2,by omega,h4⟩
theorem PRow.of {k c:Nat} {rest:List Value} {e:TypeId} {rw_:Bool} (h:H.get k=some ⟨Tg.Un.pcells l++rest,e,rw_⟩) (hk:k<H.n):PRow H (.slice (some ⟨k,0,none⟩) l.length c) l:=by
 refine .inr ⟨k,0,c,rfl,fun _=>⟨_,h,hk,fun i hi=>?_⟩⟩
 have g:=Tg.Un.pcells_at hi rest
 have hl:=Tg.Un.pcells_len l
 simp only [Nat.zero_add]
 refine⟨?_,g⟩
 rw [List.length_append,hl];omega
theorem SRow.of {k c:Nat} {rest:List Value} {e:TypeId} {rw_:Bool} (h:H.get k=some ⟨xs.map str++rest,e,rw_⟩) (hk:k<H.n):SRow H (.slice (some ⟨k,0,none⟩) xs.length c) xs:=by
 refine .inr ⟨k,0,c,rfl,fun _=>⟨_,h,hk,fun i hi=>?_⟩⟩
 simp only [Nat.zero_add]
 rw [List.getElem?_append_left (by simpa using hi),List.getElem?_map,List.getElem?_eq_getElem hi];rfl
theorem IRow.of {k c:Nat} {rest:List Value} {e:TypeId} {rw_:Bool} (h:H.get k=some ⟨ns.map (Value.int .i64)++rest,e,rw_⟩) (hk:k<H.n):IRow H (.slice (some ⟨k,0,none⟩) ns.length c) ns:=by
 refine .inr ⟨k,0,c,rfl,fun _=>⟨_,h,hk,fun i hi=>?_⟩⟩
 simp only [Nat.zero_add]
 rw [List.getElem?_append_left (by simpa using hi),List.getElem?_map,List.getElem?_eq_getElem hi];rfl
theorem PRow.len (h:PRow H v l):lbuiltin Tryz.prog .len [275] [v] H'=some (.int .i64 l.length,H'):=by
 rcases h with⟨rfl,rfl⟩|⟨k,o,c,rfl,h2⟩
 ·simp
 ·simp
theorem SRow.len (h:SRow H v xs):lbuiltin Tryz.prog .len [84] [v] H'=some (.int .i64 xs.length,H'):=by
 rcases h with⟨rfl,rfl⟩|⟨k,o,c,rfl,h2⟩
 ·simp
 ·simp
theorem IRow.len (h:IRow H v ns):lbuiltin Tryz.prog .len [146] [v] H'=some (.int .i64 ns.length,H'):=by
 rcases h with⟨rfl,rfl⟩|⟨k,o,c,rfl,h2⟩
 ·simp
 ·simp
theorem PRow.at (h:PRow H v l) {i:Nat} (hi:i<l.length): ∃k o,(∀H':LH,lixa Tryz.prog 275 v (.int .i64 i) H'=some (ptr k o,H'))∧k<H.n∧ ∀H':LH,H'.get k=H.get k→
  lld Tryz.prog 189 (ptr k o) H'=some (pv l[i])∧lld Tryz.prog 9 (ptr k o) H'=some (str l[i].b)∧lld Tryz.prog 9 (ptr k (o+1)) H'=some (str l[i].m)∧lld Tryz.prog 9 (ptr k (o+2)) H'=some (str l[i].s)∧lld Tryz.prog 9 (ptr k (o+3)) H'=some (str l[i].t):=by
 rcases h with⟨rfl,rfl⟩|⟨k,o,c,rfl,h2⟩
 ·simp at hi
 ·obtain⟨b,h2,h3,h4⟩:=h2 (fun e=>by rw [e]at hi;simp at hi)
  obtain⟨g1,g2⟩:=h4 i hi
  refine⟨k,o+i*4,fun H'=>?_,h3,fun H' e=>?_⟩
  ·have q:=eq_true (show(i:Int)<(l.length:Int) by omega)
   simp [q]
  ·rw [h2]at e
   have key: ∀j,j<4→b.cells[o+i*4+j]?= [str l[i].b,str l[i].m,str l[i].s,str l[i].t][j]?:=fun j hj=>by
    rw [←g2,List.getElem?_take,if_pos hj,List.getElem?_drop]
   have k0:=key 0 (by decide)
   have k1:=key 1 (by decide)
   have k2:=key 2 (by decide)
   have k3:=key 3 (by decide)
   simp only [List.getElem?_cons_zero,List.getElem?_cons_succ,Nat.add_zero]at k0 k1 k2 k3
   have l0:o+i*4<b.cells.length:=by omega
   have l1:o+i*4+1<b.cells.length:=by omega
   have l2:o+i*4+2<b.cells.length:=by omega
   have l3:o+i*4+3<b.cells.length:=by omega
   rw [List.getElem?_eq_getElem l0]at k0
   rw [List.getElem?_eq_getElem l1]at k1
   rw [List.getElem?_eq_getElem l2]at k2
   rw [List.getElem?_eq_getElem l3]at k3
   injection k0 with k0
   injection k1 with k1
   injection k2 with k2
   injection k3 with k3
   simp [e,g1,g2,k0,k1,k2,k3,l0,l1,l2,l3]
theorem SRow.at (h:SRow H v xs) {i:Nat} (hi:i<xs.length): ∃k o,(∀H':LH,lixa Tryz.prog 84 v (.int .i64 i) H'=some (ptr k o,H'))∧k<H.n∧ ∀H':LH,H'.get k=H.get k→lld Tryz.prog 9 (ptr k o) H'=some (str xs[i]):=by
 rcases h with⟨rfl,rfl⟩|⟨k,o,c,rfl,h2⟩
 ·simp at hi
 ·obtain⟨b,h2,h3,h4⟩:=h2 (fun e=>by rw [e]at hi;simp at hi)
  have g1:=h4 i hi
  refine⟨k,o+i,fun H'=>?_,h3,fun H' e=>?_⟩
  ·have q:=eq_true (show(i:Int)<(xs.length:Int) by omega)
   simp [q]
  ·rw [h2]at e
   have l0:o+i<b.cells.length:=(List.getElem?_eq_some_iff.1 g1).1
   rw [List.getElem?_eq_getElem l0]at g1
   injection g1 with g1
   simp [e,g1,l0]
theorem IRow.at (h:IRow H v ns) {i:Nat} (hi:i<ns.length): ∃k o,(∀H':LH,lixa Tryz.prog 146 v (.int .i64 i) H'=some (ptr k o,H'))∧k<H.n∧ ∀H':LH,H'.get k=H.get k→lld Tryz.prog 3 (ptr k o) H'=some (.int .i64 ns[i]):=by
 rcases h with⟨rfl,rfl⟩|⟨k,o,c,rfl,h2⟩
 ·simp at hi
 ·obtain⟨b,h2,h3,h4⟩:=h2 (fun e=>by rw [e]at hi;simp at hi)
  have g1:=h4 i hi
  refine⟨k,o+i,fun H'=>?_,h3,fun H' e=>?_⟩
  ·have q:=eq_true (show(i:Int)<(ns.length:Int) by omega)
   simp [q]
  ·rw [h2]at e
   have l0:o+i<b.cells.length:=(List.getElem?_eq_some_iff.1 g1).1
   rw [List.getElem?_eq_getElem l0]at g1
   injection g1 with g1
   simp [e,g1,l0]
end
def specThrow:PSpec:=fun args H r H'=> ∃x y:Int,args= [.int .i64 x,.int .i64 y]∧r=.pan (.agg #[.int .i64 x,.int .i64 (if y=0 then 1 else y)])∧H'=H
theorem throw_ok {args:List Value} {H H':LH} {r:Res} (h:specThrow args H r H'):Entered Tryz.prog 254∧CallOkR Tryz.prog 159 254 args H r H':=by
 obtain⟨x,y,rfl,rfl,rfl⟩:=h
 refine⟨⟨_,Tryz.func254,rfl,by decide⟩,fun ι w args' hrel h1 h2=>?_⟩
 have e:args'=#[.int .i64 x,.int .i64 y]:=by
  obtain⟨l⟩:=args'
  match l,h1 with
  | [u,v],_=>
   have e1:u=.int .i64 x:=flat_eq (h2 0 _ _ rfl rfl) rfl
   have e2:v=.int .i64 y:=flat_eq (h2 1 _ _ rfl rfl) rfl
   rw [e1,e2]
 subst e
 refine(throw_w x y w).mono ?_
 rintro e w' ⟨rfl,rfl⟩
 exact⟨ι,⟨_,rfl,.flat _ rfl⟩,Out.refl hrel⟩
def upsL:List FuncId:=
 254::
 216::
 213::
 359::
 365::
 256::
 360::
 347::
 346::
 330::
 312::
 313::
 329::
 310::
 285::
 257::
 220::
 159::
 162::
 163::
 160::
 121::
 219::
 198::
 197::
 201::
 202::
 200::
 195::
 240::
 194::
 []
noncomputable def EPu:PEnv:= { E:=EJ,pl:=EJ.loud,px:=(fun f=>if f=254 then some specThrow else none),cat:=some 213,tF:=159,ps:=(fun f=>upsL.contains f) }
@[simp] theorem EPu_E:EPu.E=EJ:=rfl
@[simp] theorem EPu_pl:EPu.pl=EJ.loud:=rfl
@[simp] theorem EPu_ps {f:FuncId} :EPu.ps f=upsL.contains f:=rfl
attribute [simp] upsL
theorem soundU {j:J} (h:R Tryz.prog EPu j):Sound Tryz.prog EPu j:=by
 refine sound tOk mixed (fun f s hs args H r H' hr=>?_) (fun f hf=>?_) h
 ·unfold EPu at hs
  simp only at hs
  split at hs
  ·rename_i e;injection hs with hs;subst hs;subst e;exact throw_ok hr
  ·cases hs
 ·have e:213=f:=Option.some.inj hf
  subst e;exact cat_ok
section
variable {H:LH} {s:List UInt8} {l:Nat}
theorem throw_r {x y:Int} :R Tryz.prog EPu (.call 254 [.int .i64 x,.int .i64 y] H (.pan (.agg #[.int .i64 x,.int .i64 (if y=0 then 1 else y)])) H):=
 .px (s:=specThrow) (by unfold EPu;simp) ⟨x,y,rfl,rfl,rfl⟩
theorem check_ok {x y:Int} :R Tryz.prog EPu (.call 216 [.bool true,.int .i64 x,.int .i64 y] H (.ret (.tuple #[])) H):=by
 refine pcall_flat Tryz.func216 rfl (Nat.le_of_ble_eq_true rfl) (by decide) (by kernel_rfl) rfl ?_
 simp
theorem check_bad {x y:Int} (hy:y≠0):R Tryz.prog EPu (.call 216 [.bool false,.int .i64 x,.int .i64 y] H (.pan (.agg #[.int .i64 x,.int .i64 y])) H):=by
 have ht:=throw_r (H:=H) (x:=x) (y:=y)
 rw [if_neg hy]at ht
 refine pcall_flat Tryz.func216 rfl (Nat.le_of_ble_eq_true rfl) (by decide) (by kernel_rfl) rfl ?_
 simp
 refine hand_call_pan (g:=254) (first:=#[]) (caps:=#[]) (H1:=H) rfl rfl rfl (by simp) (by simpa using ht) ?_
 simp
end
end Go.Proofs.YtcgiaiimbnoknaaGreatDoor
namespace Go.Lg
open Go.Tg Go.RowKit
def seqDrop:Nat→Code→Code
 |0,c=>c
 |n+1,.seq _ b=>seqDrop n b
 |_+1,c=>c
def seqPre:Nat→Code→Code→Code
 |0,_,K=>K
 |n+1,.seq a b,K=>.seq a (seqPre n b K)
 |_+1,c,_=>c
@[simp ↓] theorem seqDrop_zero {c:Code} :seqDrop 0 c=c:=by cases c<;>rfl
@[simp ↓] theorem seqDrop_succ {n:Nat} {a b:Code} :seqDrop (n+1) (.seq a b)=seqDrop n b:=rfl
@[simp ↓] theorem seqPre_zero {c K:Code} :seqPre 0 c K=K:=by cases c<;>rfl
@[simp ↓] theorem seqPre_succ {n:Nat} {a b K:Code} :seqPre (n+1) (.seq a b) K=.seq a (seqPre n b K):=rfl
@[simp] theorem splice_all {cs vs:List Value} (h:cs.length=vs.length):splice cs 0 vs=vs:=by
 unfold splice;simp [h]
section
variable {n m:Nat}
end
theorem lbin_fn_ne {P:Program} {t:TypeId} {g:FuncId} {f cp:Array Value} {a b c:_} (hu:P.underlying t=some (.func a b c)):lbin P .neq t (.func (.func g) f cp) .nilFunc=some (.bool true):=by
 simp [lbin,hu]
theorem lbin_fn_eq {P:Program} {t:TypeId} {g:FuncId} {f cp:Array Value} {a b c:_} (hu:P.underlying t=some (.func a b c)):lbin P .eql t (.func (.func g) f cp) .nilFunc=some (.bool false):=by
 simp [lbin,hu]
attribute [simp] lbin_fn_eq
attribute [simp] lbin_fn_ne
@[simp ↓] theorem ev_nilIface {fr:Fr} :ev fr (.const .nilIface)=.nilIface:=rfl
@[simp ↓] theorem ev_nilFunc {fr:Fr} :ev fr (.const .nilFunc)=.nilFunc:=rfl
@[simp] theorem flat_nilIface:flatB .nilIface=true:=by simp only [flatB,flat1B,atomB]
@[simp] theorem cell_nilIface:cellB .nilIface=true:=by simp only [cellB]
@[simp] theorem cell_nilFunc:cellB .nilFunc=true:=by simp only [cellB]
@[simp] theorem atom_str {l:List UInt8} :atomB (str l)=true:=by simp only [atomB,str]
@[simp] theorem atom_int {k:IntKind} {n:Int} :atomB (.int k n)=true:=by simp only [atomB]
@[simp] theorem atom_bool {b:Bool} :atomB (.bool b)=true:=by simp only [atomB]
@[simp] theorem atom_nil:atomB (.pointer none)=true:=by simp only [atomB]
@[simp] theorem atom_nilslice:atomB (.slice none 0 0)=true:=by simp [atomB]
@[simp] theorem lbE_nil {P:Program} {t:TypeId} {z:List Value} (hp:plcB P t=true) (hz:z.all atomB=true):lbE P t (some (.agg ⟨z⟩)) []=some (.agg ⟨z⟩):=by
 rw [lbE_agg (by simp only [knownL]) hz,lfill_nil hp];rfl
section
variable {H H':LH} {b:LB} {l:Nat}
@[simp] theorem le_new_iff (h:H.n≤H'.n):H.le (H'.new b)↔H.le H':=by
 constructor
 ·intro hl;exact⟨h,fun k hk=>by rw [←hl.2 k hk,get_new_ne (by omega)]⟩
 ·intro hl;exact hl.new
@[simp] theorem le_set_iff (h:H.n≤l):H.le (H'.set l b)↔H.le H':=by
 constructor
 ·intro hl;exact⟨hl.1,fun k hk=>by rw [←hl.2 k hk,get_set_ne (by omega)]⟩
 ·intro hl;exact hl.set h
@[simp] theorem le_kill_iff (h:H.n≤l):H.le (H'.kill l)↔H.le H':=by
 constructor
 ·intro hl;exact⟨hl.1,fun k hk=>by rw [←hl.2 k hk,get_kill_ne (by omega)]⟩
 ·intro hl;exact hl.kill h
end
section
variable {P:Program} {E:Ext} {fn:Func} {k:List Item} {fr:Fr} {H:LH} {Q:Value×LH→Prop} {c:Code}
theorem runs_cut (n:Nat) (Inv:Fr→LH→Prop) (h1: ∀fr H,Inv fr H→Runs P E fn (.code (seqDrop n c)::k) fr H Q)
  (h2: ∀K,(∀fr H,Inv fr H→Runs P E fn (.code K::k) fr H Q)→Runs P E fn (.code (seqPre n c K)::k) fr H Q) (hc:seqPre n c (seqDrop n c)=c):Runs P E fn (.code c::k) fr H Q:=by
 have:=h2 (seqDrop n c) h1
 rw [hc]at this
 exact this
inductive Dir where
 |d (n:Nat)
 |l
 |t
 |e
 |b
def cAt:List Dir→Code→Code
 | [],c=>c
 |.d n::p,c=>cAt p (seqDrop n c)
 |.l::p,.seq a _=>cAt p a
 |.t::p,.cond _ a _=>cAt p a
 |.e::p,.cond _ _ a=>cAt p a
 |.b::p,.block _ a=>cAt p a
 |_::_,c=>c
def cPut:List Dir→Code→Code→Code
 | [],_,K=>K
 |.d n::p,c,K=>seqPre n c (cPut p (seqDrop n c) K)
 |.l::p,.seq a b,K=>.seq (cPut p a K) b
 |.t::p,.cond x a b,K=>.cond x (cPut p a K) b
 |.e::p,.cond x a b,K=>.cond x a (cPut p b K)
 |.b::p,.block i a,K=>.block i (cPut p a K)
 |_::_,c,_=>c
def cK:List Dir→Code→List Item→List Item
 | [],_,k=>k
 |.d n::p,c,k=>cK p (seqDrop n c) k
 |.l::p,.seq a b,k=>cK p a (.code b::k)
 |.t::p,.cond _ a _,k=>cK p a k
 |.e::p,.cond _ _ a,k=>cK p a k
 |.b::p,.block i a,k=>cK p a (.inBlock i::k)
 |_::_,_,k=>k
section
variable {p:List Dir} {n i:Nat} {a b K:Code} {x:Operand}
@[simp ↓] theorem cAt_nil:cAt [] c=c:=by cases c<;>rfl
@[simp ↓] theorem cAt_d:cAt (.d n::p) c=cAt p (seqDrop n c):=by cases c<;>rfl
@[simp ↓] theorem cAt_l:cAt (.l::p) (.seq a b)=cAt p a:=rfl
@[simp ↓] theorem cAt_t:cAt (.t::p) (.cond x a b)=cAt p a:=rfl
@[simp ↓] theorem cAt_e:cAt (.e::p) (.cond x a b)=cAt p b:=rfl
@[simp ↓] theorem cAt_b:cAt (.b::p) (.block i a)=cAt p a:=rfl
@[simp ↓] theorem cPut_nil:cPut [] c K=K:=by cases c<;>rfl
@[simp ↓] theorem cPut_d:cPut (.d n::p) c K=seqPre n c (cPut p (seqDrop n c) K):=by cases c<;>rfl
@[simp ↓] theorem cPut_l:cPut (.l::p) (.seq a b) K=.seq (cPut p a K) b:=rfl
@[simp ↓] theorem cPut_t:cPut (.t::p) (.cond x a b) K=.cond x (cPut p a K) b:=rfl
@[simp ↓] theorem cPut_e:cPut (.e::p) (.cond x a b) K=.cond x a (cPut p b K):=rfl
@[simp ↓] theorem cPut_b:cPut (.b::p) (.block i a) K=.block i (cPut p a K):=rfl
@[simp ↓] theorem cK_nil:cK [] c k=k:=by cases c<;>rfl
@[simp ↓] theorem cK_d:cK (.d n::p) c k=cK p (seqDrop n c) k:=by cases c<;>rfl
@[simp ↓] theorem cK_l:cK (.l::p) (.seq a b) k=cK p a (.code b::k):=rfl
@[simp ↓] theorem cK_t:cK (.t::p) (.cond x a b) k=cK p a k:=rfl
@[simp ↓] theorem cK_e:cK (.e::p) (.cond x a b) k=cK p b k:=rfl
@[simp ↓] theorem cK_b:cK (.b::p) (.block i a) k=cK p a (.inBlock i::k):=rfl
end
end
end Go.Lg
namespace Go.Proofs.YtcgiaiimbnoknaaGreatDoor
open Go.Lg Go.Tg
section
variable {H:LH} {s t:List UInt8} {c:UInt8} {p:Tg.Un.Pat}
theorem good_cl:LC Tryz.prog EJ 278 [pv p] H=some (.bool (Tg.Un.good p),H):=by
 refine LC_pure rfl Tryz.func278 rfl (Nat.le_of_ble_eq_true rfl) (by decide) (by kernel_rfl) rfl ?_
 unfold Tg.Un.good
 by_cases h1:1≤p.b.length
 ·have q1:=eq_true (show(1:Int)≤(p.b.length:Int) by omega)
  by_cases h2:p.b.length≤64
  ·have q2:=eq_true (show(p.b.length:Int)≤64 by omega)
   by_cases h3:p.m.length=p.b.length
   ·have q3:=eq_true (show(p.m.length:Int)=(p.b.length:Int) by omega)
    simp [h1,h2,h3,q1,q2,q3]
   ·have q3:=eq_false (show¬(p.m.length:Int)=(p.b.length:Int) by omega)
    simp [h1,h2,h3,q1,q2,q3]
  ·have q2:=eq_false (show¬(p.b.length:Int)≤64 by omega)
   simp [h1,h2,q1,q2]
 ·have q1:=eq_false (show¬(1:Int)≤(p.b.length:Int) by omega)
  simp [h1,q1]
theorem begins_cl (hs:s.length≤1048576):LC Tryz.prog EJ 281 [str s,pv p] H=some (.int .i64 (Tg.Un.begins p.s s),H):=by
 refine LC_pure rfl Tryz.func281 rfl (Nat.le_of_ble_eq_true rfl) (by decide) (by kernel_rfl) rfl ?_
 obtain⟨x,hx⟩: ∃x,x=Tg.Un.begins p.s s:=⟨_,rfl⟩
 rw [←hx]
 simp
 refine loop_ind (fun(i:Nat) fr' H'=>fr' 0=str s∧fr' 3=ptr H.n 0∧fr' 5=.int .i64 i∧i≤s.length∧x=i+Tg.Un.begins p.s (s.drop i)∧H'=H.new ⟨[str p.b,str p.m,str p.s,str p.t],189,true⟩) (fun i=>s.length-i) 0 ⟨by simp,by simp,by simp,Nat.zero_le _,by rw [hx];simp,by simp⟩ ?_
 rintro i fr' H' ⟨h0,h3,h5,hi,hc,rfl⟩ ih
 by_cases hlt:i<s.length
 ·have q:=eq_true (show(i:Int)<(s.length:Int) by omega)
  have hat:at_ s (i:Int)=s[i]:=at_in hlt
  have hw:IntKind.i64.wrap ((i:Int)+1)=((i+1:Nat):Int):=by rw [wrapI (by omega) (by omega)];omega
  rw [List.drop_eq_getElem_cons hlt]at hc
  have hix:=idxU p.s s[i]
  unfold Tg.Un.begins at hc
  generalize s[i]=b at*
  cases hb:p.s.contains b with
  |true=>
   rw [hb,if_pos rfl]at hc
   rw [hb]at hix
   have qq:=eq_true (of_decide_eq_true hix.symm)
   simp [h0,h3,h5,q,hat,qq]
   refine ih (i+1) _ _ (by omega) ⟨?_,?_,?_,by omega,by omega,rfl⟩
   all_goals simp [h0,h3,hw]
  |false=>
   rw [hb,if_neg (by decide)]at hc
   rw [hb]at hix
   have qq:=eq_false (of_decide_eq_false hix.symm)
   simp [h0,h3,h5,q,hat,qq,hc]
 ·have q:=eq_false (show¬(i:Int)<(s.length:Int) by omega)
  rw [List.drop_of_length_le (by omega)]at hc
  have hc:x=i:=by rw [hc];simp [Tg.Un.begins]
  simp [h0,h3,h5,q,hc]
theorem bAnd8 {a b:UInt8} :bAnd .u8 (a.toNat:Int) (b.toNat:Int)=((a&&&b).toNat:Int):=by
 have h1:=a.toNat_lt
 have h2:=b.toNat_lt
 unfold bAnd
 rw [BitVec.toNat_and,show IntKind.u8.bits=8 from rfl,ofInt_nat,ofInt_nat,Nat.mod_eq_of_lt (by omega),Nat.mod_eq_of_lt (by omega),UInt8.toNat_and]
 have:=Nat.and_le_left (n:=a.toNat) (m:=b.toNat)
 rw [show IntKind.u8.wrap ((a.toNat&&&b.toNat:Nat):Int)=((a.toNat&&&b.toNat:Nat):Int)%256 from IntKind.wrap_u8 _];omega
theorem fits_cl (hs:s.length≤1048576) (hb:p.b.length≤1048576) (hm:p.m.length=p.b.length):LC Tryz.prog EJ 279 [str s,pv p] H=some (.tuple #[.int .i64 (Tg.Un.fitN (Tg.Un.rest p s) p.b p.m).1,.bool (Tg.Un.fitN (Tg.Un.rest p s) p.b p.m).2],H):=by
 refine LC_pure rfl Tryz.func279 rfl (Nat.le_of_ble_eq_true rfl) (by decide) (by kernel_rfl) rfl ?_
 have hbl:=Tg.Un.begins_le p.s s
 have h1:=fun H:LH=>begins_cl (H:=H) (s:=s) (p:=p) hs
 obtain⟨r,hr⟩: ∃r,r=Tg.Un.rest p s:=⟨_,rfl⟩
 have hr2:s.drop (Tg.Un.begins p.s s)=r:=hr.symm
 have hrl:r.length≤1048576:=by rw [hr];unfold Tg.Un.rest;simp;omega
 rw [←hr]
 obtain⟨x,hx⟩: ∃x,x=Tg.Un.fitN r p.b p.m:=⟨_,rfl⟩
 rw [←hx]
 have q0:=eq_true (show(Tg.Un.begins p.s s:Int)≤(s.length:Int) by omega)
 obtain⟨n,hn⟩: ∃n,n=min r.length p.b.length:=⟨_,rfl⟩
 have hmin:(if(p.b.length:Int)<(r.length:Int)then(p.b.length:Int)else(r.length:Int))=(n:Int):=by split<;>omega
 have hmin2:(if p.b.length<r.length then(p.b.length:Int)else(r.length:Int))=(n:Int):=by split<;>omega
 simp [h1,q0,hr2,hmin,hmin2]
 refine loop_ind (fun(i:Nat) fr' H'=>fr' 0=str r∧fr' 3=ptr H.n 0∧fr' 6=.int .i64 n∧fr' 19=.int .i64 n∧fr' 20=.int .i64 i∧i≤n∧x=(i+(Tg.Un.fitN (r.drop i) (p.b.drop i) (p.m.drop i)).1,(Tg.Un.fitN (r.drop i) (p.b.drop i) (p.m.drop i)).2)∧H'=H.new ⟨[str p.b,str p.m,str p.s,str p.t],189,true⟩) (fun i=>n-i) 0 ⟨by simp,by simp,by simp,by simp,by simp,Nat.zero_le _,by rw [hx];simp,by simp⟩ ?_
 rintro i fr' H' ⟨g0,g3,g6,g19,g20,hi,hc,rfl⟩ ih
 by_cases hlt:i<n
 ·have q:=eq_true (show(i:Int)<(n:Int) by omega)
  have l1:i<r.length:=by omega
  have l2:i<p.b.length:=by omega
  have l3:i<p.m.length:=by omega
  have hat:at_ r (i:Int)=r[i]:=at_in l1
  have hat2:at_ p.b (i:Int)=p.b[i]:=at_in l2
  have hat3:at_ p.m (i:Int)=p.m[i]:=at_in l3
  have q1:=eq_true (show(i:Int)<(r.length:Int) by omega)
  have q2:=eq_true (show(i:Int)<(p.b.length:Int) by omega)
  have q3:=eq_true (show(i:Int)<(p.m.length:Int) by omega)
  have hw:IntKind.i64.wrap ((i:Int)+1)=((i+1:Nat):Int):=by rw [wrapI (by omega) (by omega)];omega
  rw [List.drop_eq_getElem_cons l1,List.drop_eq_getElem_cons l2,List.drop_eq_getElem_cons l3]at hc
  generalize r[i]=c at*
  generalize p.b[i]=b at*
  generalize p.m[i]=m at*
  unfold Tg.Un.fitN at hc
  by_cases hcb:c&&&m=b
  ·rw [if_pos hcb]at hc
   simp [g0,g3,g6,g19,g20,q,hat,hat2,hat3,q1,q2,q3,bAnd8,hcb]
   refine ih (i+1) _ _ (by omega) ⟨?_,?_,?_,?_,?_,by omega,by rw [hc];simp only [Prod.mk.injEq];exact⟨by omega,trivial⟩,rfl⟩
   all_goals simp [g0,g3,g6,g19,g20,hw]
  ·rw [if_neg hcb]at hc
   have hne:=tn_ne hcb
   simp only [UInt8.toNat_and]at hne
   simp [g0,g3,g6,g19,g20,q,hat,hat2,hat3,q1,q2,q3,bAnd8,hne,hc]
 ·have q:=eq_false (show¬(i:Int)<(n:Int) by omega)
  have hin:i=n:=by omega
  have he:Tg.Un.fitN (r.drop i) (p.b.drop i) (p.m.drop i)=(0,true):=by
   by_cases h:r.length≤i
   ·rw [List.drop_of_length_le h];unfold Tg.Un.fitN;rfl
   ·rw [show p.b.drop i= [] from List.drop_of_length_le (by omega)];unfold Tg.Un.fitN;split<;>simp_all
  rw [he]at hc
  subst hin
  simp [g0,g3,g6,g19,g20,q,hc]
theorem match_cl (hs:s.length≤1048576):LC Tryz.prog EJ 245 [str s,pv p] H=some (.bool (Tg.Un.hits p s),H):=by
 refine LC_pure rfl Tryz.func245 rfl (Nat.le_of_ble_eq_true rfl) (by decide) (by kernel_rfl) rfl ?_
 have h1:=fun H:LH=>good_cl (H:=H) (p:=p)
 unfold Tg.Un.hits
 cases hg:Tg.Un.good p with
 |false=>rw [hg]at h1;simp [h1]
 |true=>
  rw [hg]at h1
  obtain⟨⟨g1,g2⟩,g3⟩:(1≤p.b.length∧p.b.length≤64)∧p.m.length=p.b.length:=by simpa [Tg.Un.good]using hg
  have h2:=fun H:LH=>fits_cl (H:=H) (s:=s) (p:=p) hs (by omega) g3
  have e2:=Tg.Un.fitN_2 (Tg.Un.rest p s) p.b p.m
  have e1:=Tg.Un.fitN_1 (Tg.Un.rest p s) p.b p.m g3
  generalize Tg.Un.fitN (Tg.Un.rest p s) p.b p.m=x at*
  obtain⟨k,f⟩:=x
  simp only at e1 e2
  subst e2
  cases hf:Tg.Un.fit (Tg.Un.rest p s) p.b p.m with
  |false=>rw [hf]at h2;simp [h1,h2]
  |true=>
   rw [hf]at h2
   have e1:=e1 hf
   subst e1
   by_cases hl:p.b.length≤(Tg.Un.rest p s).length
   ·have q:=eq_true (show((min (Tg.Un.rest p s).length p.b.length:Nat):Int)=(p.b.length:Int) by omega)
    simp [h1,h2,q,hl]
   ·have q:=eq_false (show¬((min (Tg.Un.rest p s).length p.b.length:Nat):Int)=(p.b.length:Int) by omega)
    simp [h1,h2,q,hl]
theorem Match_cl (hs:s.length≤1048576):LC Tryz.prog EJ 207 [str s,pv p] H=some (.bool (Tg.Un.hits p s),H):=by
 refine LC_pure rfl Tryz.func207 rfl (Nat.le_of_ble_eq_true rfl) (by decide) (by kernel_rfl) rfl ?_
 have h1:=fun H:LH=>match_cl (H:=H) (s:=s) (p:=p) hs
 simp [h1]
end
end Go.Proofs.YtcgiaiimbnoknaaGreatDoor
namespace Tg.Un
def idx {α:Type} (q:α→Bool):List α→Nat→Int
 | [],_=> -1
 |x::l,i=>if q x=true then i else idx q l (i+1)
theorem idx_any {α:Type} (q:α→Bool): ∀(l:List α) (i:Nat),decide (0≤idx q l i)=l.any q
 | [],i=>by simp [idx]
 |x::l,i=>by
  unfold idx
  cases h:q x with
  |true=>rw [if_pos rfl];simp [h]
  |false=>rw [if_neg (by decide),idx_any q l (i+1)];simp [h]
def or_:List (List UInt8)→List UInt8
 | []=> []
 |s::l=>if s= []then or_ l else s
end Tg.Un
namespace Go.Proofs.YtcgiaiimbnoknaaGreatDoor
open Go.Lg Go.Tg
section
variable {H:LH} {s t:List UInt8} {c:UInt8} {p:Tg.Un.Pat} {v:Value} {l:List Tg.Un.Pat} {xs:List (List UInt8)}
theorem indexS_cl {g:FuncId} {caps:List Value} {q:List UInt8→Bool} (hr:SRow H v xs) (hl:xs.length≤1000000) (hg: ∀x∈xs,LC Tryz.prog EJ g (str x::caps) H=some (.bool (q x),H)):
  LC Tryz.prog EJ 205 [v,.func (.func g) #[] ⟨caps⟩] H=some (.int .i64 (Tg.Un.idx q xs 0),H):=by
 refine LC_pure rfl Tryz.func205 rfl (Nat.le_of_ble_eq_true rfl) (by decide) (by kernel_rfl) rfl ?_
 obtain⟨x,hx⟩: ∃x,x=Tg.Un.idx q xs 0:=⟨_,rfl⟩
 rw [←hx]
 simp [hr.len]
 refine loop_ind (fun(i:Nat) fr' H'=>fr' 0=v∧fr' 1=.func (.func g) #[] ⟨caps⟩∧fr' 7=.int .i64 xs.length∧fr' 8=.int .i64 i∧i≤xs.length∧x=Tg.Un.idx q (xs.drop i) i∧H'=H) (fun i=>xs.length-i) 0 ⟨by simp,by simp,by simp,by simp,Nat.zero_le _,hx,rfl⟩ ?_
 rintro i fr' H' ⟨h0,h1,h7,h8,hi,hc,rfl⟩ ih
 have hcal: ∀a H2,lcallee Tryz.prog (LC Tryz.prog EJ) (.func (.func g) #[] ⟨caps⟩) [a] H2=LC Tryz.prog EJ g (a::caps) H2:=fun a H2=>rfl
 by_cases hlt:i<xs.length
 ·have qq:=eq_true (show(i:Int)<(xs.length:Int) by omega)
  have hw:IntKind.i64.wrap ((i:Int)+1)=((i+1:Nat):Int):=by rw [wrapI (by omega) (by omega)];omega
  obtain⟨k2,o,g1,g2,g3⟩:=hr.at hlt
  have g4:=g3 H' rfl
  have ho:=hg xs[i] (List.getElem_mem hlt)
  rw [List.drop_eq_getElem_cons hlt]at hc
  generalize xs[i]=a at*
  unfold Tg.Un.idx at hc
  cases hf:q a with
  |true=>
   rw [hf,if_pos rfl]at hc
   rw [hf]at ho
   subst hc
   simp [h0,h1,h7,h8,qq,hlt,g1,g4,hcal,ho]
  |false=>
   rw [hf,if_neg (by decide)]at hc
   rw [hf]at ho
   simp [h0,h1,h7,h8,qq,hlt,g1,g4,hcal,ho]
   refine ih (i+1) _ _ (by omega) ⟨?_,?_,?_,?_,by omega,hc,rfl⟩
   all_goals simp [h0,h1,h7,hw]
 ·have qq:=eq_false (show¬(i:Int)<(xs.length:Int) by omega)
  rw [List.drop_of_length_le (by omega)]at hc
  have hc:x= -1:=hc
  subst hc
  simp [h0,h1,h7,h8,qq,hlt]
theorem containsS_cl {g:FuncId} {caps:List Value} {q:List UInt8→Bool} (hr:SRow H v xs) (hl:xs.length≤1000000) (hg: ∀x∈xs,LC Tryz.prog EJ g (str x::caps) H=some (.bool (q x),H)):
  LC Tryz.prog EJ 154 [v,.func (.func g) #[] ⟨caps⟩] H=some (.bool (xs.any q),H):=by
 refine LC_pure rfl Tryz.func154 rfl (Nat.le_of_ble_eq_true rfl) (by decide) (by kernel_rfl) rfl ?_
 have h1:=indexS_cl hr hl hg
 have h2:=Tg.Un.idx_any q xs 0
 rw [←h2]
 simp [h1]
theorem or_cl (hr:SRow H v xs) (hl:xs.length≤1000000):LC Tryz.prog EJ 309 [v] H=some (str (Tg.Un.or_ xs),H):=by
 refine LC_pure rfl Tryz.func309 rfl (Nat.le_of_ble_eq_true rfl) (by decide) (by kernel_rfl) rfl ?_
 obtain⟨x,hx⟩: ∃x,x=Tg.Un.or_ xs:=⟨_,rfl⟩
 rw [←hx]
 simp [hr.len]
 refine loop_ind (fun(i:Nat) fr' H'=>fr' 0=v∧fr' 3=str []∧fr' 6=v∧fr' 7=.int .i64 xs.length∧fr' 8=.int .i64 i∧i≤xs.length∧x=Tg.Un.or_ (xs.drop i)∧H'=H) (fun i=>xs.length-i) 0 ⟨by simp,by simp,by simp,by simp,by simp,Nat.zero_le _,hx,rfl⟩ ?_
 rintro i fr' H' ⟨h0,h3,h6,h7,h8,hi,hc,rfl⟩ ih
 by_cases hlt:i<xs.length
 ·have qq:=eq_true (show(i:Int)<(xs.length:Int) by omega)
  have hw:IntKind.i64.wrap ((i:Int)+1)=((i+1:Nat):Int):=by rw [wrapI (by omega) (by omega)];omega
  obtain⟨k2,o,g1,g2,g3⟩:=hr.at hlt
  have g4:=g3 H' rfl
  rw [List.drop_eq_getElem_cons hlt]at hc
  generalize xs[i]=a at*
  unfold Tg.Un.or_ at hc
  by_cases hf:a= []
  ·subst hf
   rw [if_pos rfl]at hc
   simp [h0,h3,h6,h7,h8,qq,hlt,g1,g4]
   refine ih (i+1) _ _ (by omega) ⟨?_,?_,?_,?_,?_,by omega,hc,rfl⟩
   all_goals simp [h0,h3,h6,h7,hw]
  ·rw [if_neg hf]at hc
   subst hc
   simp [h0,h3,h6,h7,h8,qq,hlt,g1,g4,hf]
 ·have qq:=eq_false (show¬(i:Int)<(xs.length:Int) by omega)
  rw [List.drop_of_length_le (by omega)]at hc
  have hc:x= []:=hc
  subst hc
  simp [h0,h3,h6,h7,h8,qq,hlt]
end
def u8c (l:List UInt8):List Value:=l.map fun b=>Value.int .u8 b.toNat
theorem u8c_len (l:List UInt8):(u8c l).length=l.length:=by simp [u8c]
theorem lst_u8 {H:LH} {k i:Nat} {l:List UInt8} {e:TypeId} (hk:H.get k=some ⟨u8c l,e,true⟩) (hi:i<l.length) (b:UInt8):lst Tryz.prog 5 (ptr k i) (.int .u8 b.toNat) H=some (undef,H.set k ⟨u8c (l.set i b),e,true⟩):=by
 rw [lst_cell hk rfl (by kernel_rfl) rfl (by rw [u8c_len];exact hi)]
 simp [u8c,List.map_set]
theorem lld_u8 {H:LH} {k i:Nat} {l:List UInt8} {e:TypeId} {r:Bool} (hk:H.get k=some ⟨u8c l,e,r⟩) (hi:i<l.length):lld Tryz.prog 5 (ptr k i) H=some (.int .u8 l[i].toNat):=by
 rw [lld_ptr hk,show aggB Tryz.prog 5=some false by kernel_rfl,lldb_cell]
 simp [u8c,hi]
theorem lbs_u8c: ∀l:List UInt8,lbs (u8c l)=some l
 | []=>rfl
 |b::l=>by
  show(lbyte (.int .u8 b.toNat)).bind _=_
  have:lbyte (.int .u8 (b.toNat:Int))=some b:=by simp [lbyte]
  rw [this]
  show(lbs (u8c l)).map (b:: ·)=_
  rw [lbs_u8c l];rfl
theorem lconv_u8 {H:LH} {k c:Nat} {l:List UInt8} {e:TypeId} {r:Bool} (hk:H.get k=some ⟨u8c l,e,r⟩):lconv Tryz.prog 106 9 (.slice (some ⟨k,0,none⟩) l.length c) H=some (str l):=
 lconv_bs (b:=⟨u8c l,e,r⟩) Tryz.underlying106 Tryz.underlying9 Tryz.underlying5 hk (by rw [u8c_len];omega) (by
  show lbs (((u8c l).drop 0).take l.length)=some l
  rw [List.drop_zero,List.take_of_length_le (by rw [u8c_len];exact Nat.le_refl _),lbs_u8c])
structure TagAt (H:LH) (s:List UInt8) (i:Nat) (H':LH):Prop where
 n:H'.n=H.n+3
 z:H'.get H.n=some ⟨[str [],str [],str [],str []],189,true⟩
 b:H'.get (H.n+1)=some ⟨u8c ((s.take i).map Tg.Un.up++s.drop i),MK Tryz.prog 5,true⟩
 m:H'.get (H.n+2)=some ⟨u8c ((s.take i).map Tg.Un.msk++(List.replicate s.length 0).drop i),5,true⟩
 old: ∀l,l<H.n→H'.get l=H.get l
section
variable {H:LH} {s t:List UInt8}
end
end Go.Proofs.YtcgiaiimbnoknaaGreatDoor
namespace Tg.Un
open Go
def numL:List UInt8→Nat→Nat
 | [],n=>n
 |c::s,n=>numL s (n*256+c.toNat)
theorem num4_l (s:List UInt8) (h:4≤s.length):numL (s.take 4) 0=num4 s:=by
 match s,h with
 |a::b::c::d::r,_=>simp [numL,num4]
 | [],h=>simp at h
 | [_],h=>simp at h
 | [_,_],h=>simp at h
 | [_,_,_],h=>simp at h
theorem or_add {m n:Nat} (hn:n<256):m*256|||n=m*256+n:=by
 have:=Nat.shiftLeft_add_eq_or_of_lt (i:=8) (b:=n) (by omega) m
 rw [Nat.shiftLeft_eq]at this
 exact this.symm
theorem step32 {n:Nat} (h:n<16777216) (c:UInt8):Go.Lg.bOr .u32 (IntKind.u32.wrap ((n:Int)*2^min 8 IntKind.u32.bits)) (IntKind.u32.wrap (c.toNat:Int))=((n*256+c.toNat:Nat):Int):=by
 have hc:=c.toNat_lt
 have w1:IntKind.u32.wrap ((n:Int)*2^min 8 IntKind.u32.bits)=((n*256:Nat):Int):=by
  rw [show(2:Int)^min 8 IntKind.u32.bits=256 from rfl,IntKind.wrap_u32];omega
 have w2:IntKind.u32.wrap (c.toNat:Int)=(c.toNat:Int):=by rw [IntKind.wrap_u32];omega
 rw [w1,w2]
 unfold Go.Lg.bOr
 rw [BitVec.toNat_or,show IntKind.u32.bits=32 from rfl,Go.Lg.ofInt_nat,Go.Lg.ofInt_nat,Nat.mod_eq_of_lt (by omega),Nat.mod_eq_of_lt (by omega),or_add (by omega),IntKind.wrap_u32]
 omega
end Tg.Un
namespace Go.Proofs.YtcgiaiimbnoknaaGreatDoor
open Go.Lg Go.Tg
abbrev cb (s:List UInt8) (i:Int):LB:=⟨[str s,.int .i64 i],194,true⟩
section
variable {H:LH} {s:List UInt8} {l:Nat}
theorem rest_cl (hk:H.get l=some (cb s 0)):LC Tryz.prog EJ 242 [ptr l 0] H=some (str s,H):=by
 refine LC_pure rfl Tryz.func242 rfl (Nat.le_of_ble_eq_true rfl) (by decide) (by kernel_rfl) rfl ?_
 simp [hk]
theorem take_ok (hk:H.get l=some (cb s 0)) (h4:4≤s.length):R Tryz.prog EPu (.call 256 [ptr l 0,.int .i64 4] H (.ret (str (s.take 4))) (H.set l (cb s 4))):=by
 have h1:=rest_cl hk
 have q:=eq_true (show(4:Int)≤(s.length:Int) by omega)
 refine pcall_is Tryz.func256 rfl (Nat.le_of_ble_eq_true rfl) (by decide) (by kernel_rfl) ?_
 have hC:=fun(x y:Int)=>check_ok (H:=H) (x:=x) (y:=y)
 simp [h1]
 refine hand_call_ret (g:=216) (first:=#[]) (caps:=#[]) (H1:=H) rfl rfl rfl (by simp) (by simpa using hC 0 8) rfl ?_
 simp [hk]
 refine hand_call_ret (g:=216) (first:=#[]) (caps:=#[]) (H1:=H) rfl rfl rfl (by simp) (by simpa using hC 0 9) rfl ?_
 simp [hk,q]
 refine hand_call_ret (g:=216) (first:=#[]) (caps:=#[]) (H1:=H) rfl rfl rfl (by simp) (by simpa using hC 0 8) rfl ?_
 simp [hk,q]
theorem take_bad (hk:H.get l=some (cb s 0)) (h4:s.length<4):R Tryz.prog EPu (.call 256 [ptr l 0,.int .i64 4] H (.pan (.agg #[.int .i64 0,.int .i64 8])) H):=by
 have h1:=rest_cl hk
 have q:=eq_false (show¬(4:Int)≤(s.length:Int) by omega)
 refine pcall_is Tryz.func256 rfl (Nat.le_of_ble_eq_true rfl) (by decide) (by kernel_rfl) ?_
 have hC:=fun(x y:Int)=>check_ok (H:=H) (x:=x) (y:=y)
 have hB:=check_bad (H:=H) (x:=0) (y:=8) (by decide)
 simp [h1]
 refine hand_call_ret (g:=216) (first:=#[]) (caps:=#[]) (H1:=H) rfl rfl rfl (by simp) (by simpa using hC 0 8) rfl ?_
 simp [hk]
 refine hand_call_ret (g:=216) (first:=#[]) (caps:=#[]) (H1:=H) rfl rfl rfl (by simp) (by simpa using hC 0 9) rfl ?_
 simp [hk,q]
 refine hand_call_pan (g:=216) (first:=#[]) (caps:=#[]) (H1:=H) rfl rfl rfl (by simp) (by simpa using hB) ?_
 simp
theorem u32_bad (hk:H.get l=some (cb s 0)) (h4:s.length<4):R Tryz.prog EPu (.call 360 [ptr l 0] H (.pan (.agg #[.int .i64 0,.int .i64 8])) H):=by
 have ht:=take_bad hk h4
 refine pcall_is Tryz.func360 rfl (Nat.le_of_ble_eq_true rfl) (by decide) (by kernel_rfl) ?_
 simp
 refine hand_call_pan (g:=256) (first:=#[]) (caps:=#[]) (H1:=H) rfl rfl rfl (by simp) (by simpa using ht) ?_
 simp
theorem u32_ok (hk:H.get l=some (cb s 0)) (h4:4≤s.length) (hl:l<H.n): ∃H1,R Tryz.prog EPu (.call 360 [ptr l 0] H (.ret (.int .u32 (Tg.Un.num4 s))) H1)∧H.n≤H1.n∧ ∀k,k<H.n→k≠l→H1.get k=H.get k:=by
 have key: ∃r H1,R Tryz.prog EPu (.call 360 [ptr l 0] H r H1)∧(r=.ret (.int .u32 (Tg.Un.num4 s))∧H.n≤H1.n∧ ∀k,k<H.n→k≠l→H1.get k=H.get k):=by
  have ht:=take_ok hk h4
  have hnum:=Tg.Un.num4_l s h4
  have hlen:(s.take 4).length=4:=by rw [List.length_take];omega
  refine pcall Tryz.func360 rfl (Nat.le_of_ble_eq_true rfl) (by decide) (by kernel_rfl) (Q:=fun r H1=>r=.ret (.int .u32 (Tg.Un.num4 s))∧H.n≤H1.n∧ ∀k,k<H.n→k≠l→H1.get k=H.get k) ?_
  rw [←hnum]
  generalize s.take 4=L at*
  have q0:=eq_true (show L.length≤maxLen by rw [hlen];decide)
  simp
  refine hand_call_ret (g:=256) (first:=#[]) (caps:=#[]) (H1:=H.set l (cb s 4)) rfl rfl rfl (by simp) (by simpa using ht) rfl ?_
  simp [q0,hlen]
  refine ploop_ind (fun(i:Nat) fr' H' p'=>fr' 8=sl H.n 4 4∧fr' 9=.int .i64 4∧fr' 10=.int .i64 i∧i≤4∧(∃n:Nat,fr' 3=.int .u32 n∧n<256^i∧Tg.Un.numL (L.drop i) n=Tg.Un.numL L 0)∧H'=(H.set l (cb s 4)).new ⟨u8c L,MK Tryz.prog 5,true⟩∧p'=none) (fun i=>4-i) 0 ⟨by simp,by simp,by simp,Nat.zero_le _,⟨0,by simp,by decide,rfl⟩,by simp [u8c,show 4≤maxLen by decide],rfl⟩ ?_
  rintro i fr' H' p' ⟨g8,g9,g10,hi,⟨n,g3,hn,he⟩,rfl,rfl⟩ ih
  by_cases hlt:i<4
  ·have q:=eq_true (show(i:Int)<4 by omega)
   have hw:IntKind.i64.wrap ((i:Int)+1)=((i+1:Nat):Int):=by rw [wrapI (by omega) (by omega)];omega
   have hil:i<L.length:=by omega
   have hb:=lld_u8 (H:=(H.set l (cb s 4)).new ⟨u8c L,MK Tryz.prog 5,true⟩) (k:=H.n) (i:=i) (r:=true) (e:=MK Tryz.prog 5) (l:=L) (by rw [show H.n=(H.set l (cb s 4)).n from rfl,get_new]) hil
   rw [List.drop_eq_getElem_cons hil]at he
   generalize L[i]=c at*
   have hp:256^i≤256^3:=Nat.pow_le_pow_right (by decide) (by omega)
   have hs:=Tg.Un.step32 (n:=n) (by omega) c
   simp [g3,g8,g9,g10,q,hb,hs]
   refine ih (i+1) _ _ _ (by omega) ⟨?_,?_,?_,by omega,⟨n*256+c.toNat,?_,?_,he⟩,rfl,rfl⟩
   ·simp [g8]
   ·simp [g9]
   ·simp [hw]
   ·simp
   ·have:=c.toNat_lt;rw [Nat.pow_succ];omega
  ·have q:=eq_false (show¬(i:Int)<4 by omega)
   rw [List.drop_of_length_le (by omega)]at he
   have he:n=Tg.Un.numL L 0:=he
   subst he
   simp [g3,g8,g9,g10,q]
   intro k hk hkl
   rw [get_new_ne (by rw [n_set];omega),get_set_ne hkl]
 obtain⟨r,H1,h1,rfl,h2,h3⟩:=key
 exact⟨H1,h1,h2,h3⟩
abbrev fU (l:Nat):Value:=.func (.func 360) #[ptr l 0] #[]
@[simp] theorem agg_fn:aggB Tryz.prog 307=some false:=by kernel_rfl
@[simp] theorem sz_fn:sz Tryz.prog 307=some 1:=by kernel_rfl
theorem v1_ok {f v:Nat} {e:TypeId} {b:Bool} {x:Int} (hk:H.get l=some (cb s 0)) (h4:4≤s.length) (hl:l<H.n) (hf:H.get f=some ⟨[fU l],e,b⟩) (hv:H.get v=some ⟨[.int .u32 x],220,true⟩) (hvn:v<H.n) (hvl:v≠l):
  ∃H1 u,R Tryz.prog EPu (.call 365 [ptr f 0,ptr v 0] H (.ret u) H1)∧H.n≤H1.n∧H1.get v=some ⟨[.int .u32 (Tg.Un.num4 s)],220,true⟩∧ ∀k,k<H.n→k≠l→k≠v→H1.get k=H.get k:=by
 obtain⟨H1,hu,hn,ho⟩:=u32_ok hk h4 hl
 have key: ∃r H2,R Tryz.prog EPu (.call 365 [ptr f 0,ptr v 0] H r H2)∧((∃u,r=.ret u)∧H2=H1.set v ⟨[.int .u32 (Tg.Un.num4 s)],220,true⟩):=by
  refine pcall Tryz.func365 rfl (Nat.le_of_ble_eq_true rfl) (by decide) (by kernel_rfl) (Q:=fun r H2=>(∃u,r=.ret u)∧H2=H1.set v ⟨[.int .u32 (Tg.Un.num4 s)],220,true⟩) ?_
  have hv1:=ho v hvn hvl
  rw [hv]at hv1
  simp [hf]
  refine hand_call_ret (g:=360) (first:=#[ptr l 0]) (caps:=#[]) (H1:=H1) rfl rfl rfl (by simp) (by simpa using hu) rfl ?_
  simp [hv1]
 obtain⟨r,H2,h1,⟨u,rfl⟩,rfl⟩:=key
 exact⟨_,u,h1,by rw [n_set];exact hn,get_set,fun k hk hkl hkv=>by rw [get_set_ne hkv,ho k hk hkl]⟩
theorem v1_bad {f v:Nat} {e:TypeId} {b:Bool} (hk:H.get l=some (cb s 0)) (h4:s.length<4) (hf:H.get f=some ⟨[fU l],e,b⟩):
  R Tryz.prog EPu (.call 365 [ptr f 0,ptr v 0] H (.pan (.agg #[.int .i64 0,.int .i64 8])) H):=by
 have hu:=u32_bad hk h4
 refine pcall_is Tryz.func365 rfl (Nat.le_of_ble_eq_true rfl) (by decide) (by kernel_rfl) ?_
 simp [hf]
 refine hand_call_pan (g:=360) (first:=#[ptr l 0]) (caps:=#[]) (H1:=H) rfl rfl rfl (by simp) (by simpa using hu) ?_
 simp
theorem value_ok (hk:H.get l=some (cb s 0)) (h4:4≤s.length) (hl:l<H.n): ∃H1,R Tryz.prog EPu (.call 359 [fU l] H (.ret (.tuple #[.int .u32 (Tg.Un.num4 s),fault0])) H1)∧H.n≤H1.n∧ ∀k,k<H.n→k≠l→H1.get k=H.get k:=by
 have key: ∃r H1,R Tryz.prog EPu (.call 359 [fU l] H r H1)∧(r=.ret (.tuple #[.int .u32 (Tg.Un.num4 s),fault0])∧H.n≤H1.n∧ ∀k,k<H.n→k≠l→H1.get k=H.get k):=by
  refine pcall Tryz.func359 rfl (Nat.le_of_ble_eq_true rfl) (by decide) (by kernel_rfl) (Q:=fun r H1=>r=.ret (.tuple #[.int .u32 (Tg.Un.num4 s),fault0])∧H.n≤H1.n∧ ∀k,k<H.n→k≠l→H1.get k=H.get k) ?_
  have g0: ∀a b c:LB,(((H.new a).new b).new c).get H.n=some a:=fun a b c=>by rw [get_new_ne (by simp only [n_new];omega),get_new_ne (by simp only [n_new];omega),get_new]
  have g1: ∀a b c:LB,(((H.new a).new b).new c).get (H.n+1+1)=some c:=fun a b c=>by rw [show H.n+1+1=((H.new a).new b).n from rfl,get_new]
  have go: ∀(a b c:LB) k,k<H.n→(((H.new a).new b).new c).get k=H.get k:=fun a b c k hk=>by rw [get_new_ne (by simp only [n_new];omega),get_new_ne (by simp only [n_new];omega),get_new_ne (by omega)]
  have hq:lbin Tryz.prog .eql 307 (fU l) .nilFunc=some (.bool false):=lbin_fn_eq Tryz.underlying307
  obtain⟨H1,u,r1,n1,e1,o1⟩:=v1_ok (H:=((H.new ⟨[fU l],307,true⟩).new ⟨[.int .i64 0,.int .i64 0],159,true⟩).new ⟨[.int .u32 0],220,true⟩) (l:=l) (f:=H.n) (v:=H.n+1+1) (x:=0) (by rw [go _ _ _ _ hl];exact hk) h4 (by simp only [n_new];omega) (g0 _ _ _) (g1 _ _ _) (by simp only [n_new];omega) (by omega)
  have hcat:R Tryz.prog EPu (.call 213 [.func (.func 365) #[] #[ptr H.n 0,ptr (H.n+1+1) 0]] _ (.ret (.tuple #[fault0,.bool false])) H1):=R.cat (E:=EPu) rfl (by simpa using r1)
  have n2:H.n+3≤H1.n:=by simp only [n_new]at n1;omega
  have c2:H1.get (H.n+1)=some ⟨[.int .i64 0,.int .i64 0],159,true⟩:=by
   rw [o1 _ (by simp only [n_new];omega) (by omega) (by omega),get_new_ne (by simp only [n_new];omega),show H.n+1=(H.new ⟨[fU l],307,true⟩).n from rfl,get_new]
  have d1:(H.n+1=H1.n)=False:=eq_false (by omega)
  have d2:(H.n+1+1=H1.n)=False:=eq_false (by omega)
  have oo: ∀k,k<H.n→k≠l→H1.get k=H.get k:=fun k hk hkl=>by rw [o1 k (by simp only [n_new];omega) hkl (by omega),go _ _ _ k hk]
  simp [g0,hq]
  refine hand_call_ret (g:=213) (first:=#[]) (caps:=#[]) (H1:=H1) rfl rfl rfl (by simp) (by simpa using hcat) rfl ?_
  simp [fault0,e1,c2,d1,d2]
  exact⟨by omega,fun k hk hkl=>by rw [get_set_ne (by omega),get_new_ne (by omega)];exact oo k hk hkl⟩
 obtain⟨r,H1,h1,rfl,h2,h3⟩:=key
 exact⟨H1,h1,h2,h3⟩
theorem value_bad (hk:H.get l=some (cb s 0)) (h4:s.length<4) (hl:l<H.n): ∃H1,R Tryz.prog EPu (.call 359 [fU l] H (.ret (.tuple #[.int .u32 0,.agg #[.int .i64 0,.int .i64 8]])) H1)∧H.n≤H1.n∧ ∀k,k<H.n→H1.get k=H.get k:=by
 have key: ∃r H1,R Tryz.prog EPu (.call 359 [fU l] H r H1)∧(r=.ret (.tuple #[.int .u32 0,.agg #[.int .i64 0,.int .i64 8]])∧H.n≤H1.n∧ ∀k,k<H.n→H1.get k=H.get k):=by
  refine pcall Tryz.func359 rfl (Nat.le_of_ble_eq_true rfl) (by decide) (by kernel_rfl) (Q:=fun r H1=>r=.ret (.tuple #[.int .u32 0,.agg #[.int .i64 0,.int .i64 8]])∧H.n≤H1.n∧ ∀k,k<H.n→H1.get k=H.get k) ?_
  have g0: ∀a b c:LB,(((H.new a).new b).new c).get H.n=some a:=fun a b c=>by rw [get_new_ne (by simp only [n_new];omega),get_new_ne (by simp only [n_new];omega),get_new]
  have go: ∀(a b c:LB) k,k<H.n→(((H.new a).new b).new c).get k=H.get k:=fun a b c k hk=>by rw [get_new_ne (by simp only [n_new];omega),get_new_ne (by simp only [n_new];omega),get_new_ne (by omega)]
  have hq:lbin Tryz.prog .eql 307 (fU l) .nilFunc=some (.bool false):=lbin_fn_eq Tryz.underlying307
  have r1:=v1_bad (H:=((H.new ⟨[fU l],307,true⟩).new ⟨[.int .i64 0,.int .i64 0],159,true⟩).new ⟨[.int .u32 0],220,true⟩) (l:=l) (f:=H.n) (v:=H.n+1+1) (by rw [go _ _ _ _ hl];exact hk) h4 (g0 _ _ _)
  have hcat:R Tryz.prog EPu (.call 213 [.func (.func 365) #[] #[ptr H.n 0,ptr (H.n+1+1) 0]] _ (.ret (.tuple #[.agg #[.int .i64 0,.int .i64 8],.bool true])) _):=R.catp (E:=EPu) rfl (by simpa using r1)
  have c2: ∀(a b c d:LB),((((H.new a).new b).new c).new d).get (H.n+1)=some b:=fun a b c d=>by rw [get_new_ne (by simp only [n_new];omega),get_new_ne (by simp only [n_new];omega),show H.n+1=(H.new a).n from rfl,get_new]
  have d3:(H.n+1=H.n+1+1+1)=False:=eq_false (by omega)
  have d4:(H.n+1+1+1=H.n+1)=False:=eq_false (by omega)
  simp [g0,hq]
  refine hand_call_ret (g:=213) (first:=#[]) (caps:=#[]) rfl rfl rfl (by simp) (by simpa using hcat) rfl ?_
  simp [c2,d3,d4]
  exact⟨by omega,fun k hk=>by rw [get_set_ne (by omega),get_new_ne (by simp only [n_new];omega),go _ _ _ k hk]⟩
 obtain⟨r,H1,h1,rfl,h2,h3⟩:=key
 exact⟨H1,h1,h2,h3⟩
theorem New_l:LC Tryz.prog EJ 161 [str s] H=some (ptr H.n 0,H.new (cb s 0)):=by
 obtain⟨r,h,e⟩: ∃r,LC Tryz.prog EJ 161 [str s] H=some (Lg.trunc H r)∧r=(ptr H.n 0,H.new (cb s 0)):=by
  refine LC_runs (P:=Tryz.prog) (E:=EJ) (f:=161) rfl Tryz.func161 rfl (Nat.le_of_ble_eq_true rfl) (by decide) (by kernel_rfl) ?_
  have hf:lfill Tryz.prog 194 [str [],.int .i64 0] [(0,str s)]=some [str s,.int .i64 0]:=by
   rw [lfill_cell (o:=0) (n:=1) (g:=false) (by simp) rfl (by simp) (by simp)];simp
  simp [hf]
 rw [h,e,trunc_no (by simp [flatB,flat1B,atomB])]
theorem num4_lt (s:List UInt8):Tg.Un.num4 s<4294967296:=by
 unfold Tg.Un.num4
 split
 ·rename_i a b c d r
  have h1:=a.toNat_lt
  have h2:=b.toNat_lt
  have h3:=c.toNat_lt
  have h4:=d.toNat_lt
  omega
 ·decide
theorem size_ok (h4:4≤s.length):R Tryz.prog EPu (.call 347 [str s] H (.ret (.tuple #[.int .i64 (Tg.Un.num4 s),.bool true])) H):=by
 have hN:=New_l (H:=H) (s:=s)
 obtain⟨H1,r1,n1,o1⟩:=value_ok (H:=H.new (cb s 0)) (l:=H.n) (by rw [get_new]) h4 (Nat.lt_succ_self _)
 have hlt:=num4_lt s
 have hw:IntKind.i64.wrap (Tg.Un.num4 s:Int)=(Tg.Un.num4 s:Int):=wrapI (by omega) (by omega)
 refine pcall_flat Tryz.func347 rfl (Nat.le_of_ble_eq_true rfl) (by decide) (by kernel_rfl) rfl ?_
 simp [hN]
 refine hand_mkf (g:=360) rfl rfl (by decide) rfl ?_
 simp
 refine hand_call_ret (g:=359) (first:=#[]) (caps:=#[]) (H1:=H1) rfl rfl rfl (by simp) (by simpa using r1) rfl ?_
 simp [fault0,hw]
 simp only [n_new]at n1
 exact⟨by show H.n≤H1.n+1;omega,fun k hk=>by rw [get_new_ne (by omega),o1 k (by simp only [n_new];omega) (by omega),get_new_ne (by omega)]⟩
theorem size_bad (h4:s.length<4):R Tryz.prog EPu (.call 347 [str s] H (.ret (.tuple #[.int .i64 0,.bool false])) H):=by
 have hN:=New_l (H:=H) (s:=s)
 obtain⟨H1,r1,n1,o1⟩:=value_bad (H:=H.new (cb s 0)) (l:=H.n) (by rw [get_new]) h4 (Nat.lt_succ_self _)
 refine pcall_flat Tryz.func347 rfl (Nat.le_of_ble_eq_true rfl) (by decide) (by kernel_rfl) rfl ?_
 simp [hN]
 refine hand_mkf (g:=360) rfl rfl (by decide) rfl ?_
 simp
 refine hand_call_ret (g:=359) (first:=#[]) (caps:=#[]) (H1:=H1) rfl rfl rfl (by simp) (by simpa using r1) rfl ?_
 simp
 simp only [n_new]at n1
 exact⟨by show H.n≤H1.n+1;omega,fun k hk=>by rw [get_new_ne (by omega),o1 k (by simp only [n_new];omega),get_new_ne (by omega)]⟩
end
end Go.Proofs.YtcgiaiimbnoknaaGreatDoor
namespace Tg.Un
open Go
theorem width_lit: ∀k:Fin 256,(width (UInt8.ofNat k.1):Int)=if 8<8-(Go.Lib.bitLen k.1:Int)+1 then 8 else 8-(Go.Lib.bitLen k.1:Int)+1:=by decide+kernel
theorem width_eq (c:UInt8):(width c:Int)=if 8<8-(Go.Lib.bitLen c.toNat:Int)+1 then 8 else 8-(Go.Lib.bitLen c.toNat:Int)+1:=by
 have:=width_lit ⟨c.toNat,c.toNat_lt⟩
 simpa using this
theorem pre_eq: ∀s p:List UInt8,Go.Lib.hasPrefix s p=pre s p
 |_,[]=>by unfold pre;simp [Go.Lib.hasPrefix]
 | [],_::_=>by unfold pre;simp [Go.Lib.hasPrefix]
 |c::s,d::p=>by
  have:=pre_eq s p
  unfold Go.Lib.hasPrefix at this⊢
  unfold pre
  rw [←this]
  by_cases h:c=d
  ·subst h;simp
  ·have h2: ¬d=c:=fun e=>h e.symm
   have h3:(c==d)=false:=by simp [h]
   have h4:(d==c)=false:=by simp [h2]
   simp [List.isPrefixOf,h3,h4]
theorem pre_take: ∀s p:List UInt8,pre s p=decide (s.take p.length=p)
 |_,[]=>by unfold pre;simp
 | [],_::_=>by unfold pre;simp
 |c::s,d::p=>by
  unfold pre
  rw [pre_take s p]
  by_cases h:c=d
  ·subst h;simp
  ·have h3:(c==d)=false:=by simp [h]
   simp [h]
end Tg.Un
namespace Go.Proofs.YtcgiaiimbnoknaaGreatDoor
open Go.Lg Go.Tg
section
variable {H:LH} {s t:List UInt8} {c:UInt8}
theorem named_cl {b:Bool} :LC Tryz.prog EJ 311 [str s,.bool b] H=some (str (if b=true then s else []),H):=by
 refine LC_pure rfl Tryz.func311 rfl (Nat.le_of_ble_eq_true rfl) (by decide) (by kernel_rfl) rfl ?_
 cases b<;>simp
theorem width_cl:LC Tryz.prog EJ 333 [.int .u8 c.toNat] H=some (.int .i64 (Tg.Un.width c),H):=by
 refine LC_pure rfl Tryz.func333 rfl (Nat.le_of_ble_eq_true rfl) (by decide) (by kernel_rfl) rfl ?_
 have h1:=fun H:LH=>lz8_l (H:=H) (c:=c)
 rw [Tg.Un.width_eq c]
 have h2:(Go.Lib.bitLen c.toNat:Int)≤8:=by
  have:=Tg.Un.width_eq c
  have:0<Tg.Un.width c:=by
   unfold Tg.Un.width;repeat (split;omega)
   omega
  split at* <;>omega
 have h3:(0:Int)≤(Go.Lib.bitLen c.toNat:Int):=Int.natCast_nonneg _
 generalize (Go.Lib.bitLen c.toNat:Int)=x at*
 have hw:IntKind.i64.wrap (8-x+1)=8-x+1:=wrapI (by omega) (by omega)
 simp [h1,hw]
theorem pad_cl (hs:s.length≤1048576):LC Tryz.prog EJ 334 [str s,str [119,101,98,109]] H=some (.bool (Tg.Un.padded s),H):=by
 refine LC_pure rfl Tryz.func334 rfl (Nat.le_of_ble_eq_true rfl) (by decide) (by kernel_rfl) rfl ?_
 obtain⟨x,hx⟩: ∃x,x=Tg.Un.padded s:=⟨_,rfl⟩
 rw [←hx]
 simp
 refine loop_ind (fun(t:List UInt8) fr' H'=>fr' 0=str t∧fr' 1=str [119,101,98,109]∧x=Tg.Un.padded t∧H'=H) (fun t=>t.length) s ⟨by simp,by simp,hx,rfl⟩ ?_
 rintro t fr' H' ⟨h0,h1,hc,rfl⟩ ih
 cases t with
 |nil=>
  have hp:Go.Lib.hasPrefix ([]:List UInt8) [119,101,98,109]=false:=rfl
  have hc:x=false:=hc
  simp [h0,h1,hp,hc]
 |cons a t=>
  have hat:at_ (a::t) 0=a:=rfl
  have q1:=eq_true (show(1:Int)≤(t.length:Int)+1 by omega)
  have hp:=Tg.Un.pre_eq (a::t) [119,101,98,109]
  unfold Tg.Un.padded at hc
  by_cases ha:a=0
  ·subst ha
   rw [if_pos rfl]at hc
   have hp2:Go.Lib.hasPrefix ((0:UInt8)::t) [119,101,98,109]=false:=by rw [hp];rfl
   simp [h0,h1,hat,hp2,q1]
   refine ih t _ _ (by simp) ⟨?_,?_,hc,rfl⟩
   all_goals simp [h1]
  ·rw [if_neg ha]at hc
   have q:=tn_ne ha
   rw [show((0:UInt8).toNat:Int)=0 from rfl]at q
   have q2:(a.toNat=0)=False:=eq_false (fun e=>ha (UInt8.toNat_inj.mp (by rw [e];rfl)))
   rw [show Tg.Un.webmS= [119,101,98,109] from rfl,←hp]at hc
   simp [h0,h1,hat,q,q2,hc]
theorem wbegins_cl:LC Tryz.prog EJ 332 [str s] H=some (.bool (Tg.Un.pre s Tg.Un.mark),H):=by
 refine LC_pure rfl Tryz.func332 rfl (Nat.le_of_ble_eq_true rfl) (by decide) (by kernel_rfl) rfl ?_
 have hp:=Tg.Un.pre_eq s [26,69,223,163]
 rw [show Tg.Un.mark= [26,69,223,163] from rfl,←hp]
 simp
end
section
variable {H:LH} {s:List UInt8} {l:Nat}
theorem sub48:sub s 4 8=(s.drop 4).take 4:=by unfold sub;exact List.drop_take
theorem subn {i j:Nat} (h:i≤j):sub s (i:Int) (j:Int)=(s.drop i).take (j-i):=by unfold sub;exact List.drop_take
theorem str_app {v:Value} {N:Nat} {l:List (List UInt8)} {x:List UInt8} (h:RowN N H 9 1 v l.length (l.map str)) (hN:N≤H.n) (hl:l.length≤1000000):
  ∃v' H2,lapp Tryz.prog 84 v (some (1,[str x])) (H.new ⟨[str x],9,true⟩)=some (v',H2)∧RowN N H2 9 1 v' (l++ [x]).length ((l++ [x]).map str)∧N≤H2.n∧ ∀k,k<N→H2.get k=H.get k:=by
 have h2:RowN N (H.new ⟨[str x],9,true⟩) 9 1 v l.length (l.map str):=h.keep (Nat.le_succ _) (fun k _ _ hk=>get_new_ne (by omega))
 obtain⟨v',H2,ha,hr,hk,_⟩:=h2.app (t:=84) (new:= [x].map str) (m:=1) Tryz.underlying84 (by kernel_rfl) (by simp) (by simp) (by unfold maxElems;omega) (by rw [n_new];omega) (.inl (Nat.le_refl 1))
 refine⟨v',H2,ha,by rw [List.length_append,List.map_append];exact hr,Nat.le_trans (by rw [n_new];omega) hk.le,fun k hkn=>?_⟩
 rw [hk.get k (by rw [n_new];omega) (h.off_lt hkn),get_new_ne (by omega)]
theorem srow_n {N:Nat} {v:Value} {xs:List (List UInt8)} (h:RowN N H 9 1 v xs.length (xs.map str)):SRow H v xs:=by
 rcases h.2 with⟨e,h0⟩|⟨k,c,rest,rfl,_,h1,h2,_⟩
 ·exact .inl ⟨e,List.eq_nil_of_length_eq_zero h0⟩
 ·exact SRow.of h2 h1
theorem bs1s {x:List UInt8} :lbuildSlice Tryz.prog 84 1 [(0,str x)] H=some (sl H.n 1 1,H.new ⟨[str x],9,true⟩):=lbs_dense (z:=str []) Tryz.underlying84 (by kernel_rfl) (by kernel_rfl) rfl rfl rfl (by decide) rfl
def piece (s:List UInt8) (i:Nat):List UInt8:=(s.drop (16+4*i)).take 4
theorem begins_r:R Tryz.prog EPu (.call 346 [str s] H (.ret (.bool (Tg.Un.mp4h s))) H):=by
 refine pcall_flat Tryz.func346 rfl (Nat.le_of_ble_eq_true rfl) (by decide) (by kernel_rfl) rfl ?_
 unfold Tg.Un.mp4h
 by_cases h4:s.length<4
 ·have hs:=size_bad (H:=H) h4
  have e:decide (12≤s.length)=false:=decide_eq_false (by omega)
  rw [e]
  simp
  refine hand_call_ret (g:=347) (first:=#[]) (caps:=#[]) (H1:=H) rfl rfl rfl (by simp) (by simpa using hs) rfl ?_
  simp
 ·have hs:=size_ok (H:=H) (s:=s) (by omega)
  simp
  refine hand_call_ret (g:=347) (first:=#[]) (caps:=#[]) (H1:=H) rfl rfl rfl (by simp) (by simpa using hs) rfl ?_
  have tm:(Tg.Un.num4 s:Int).tmod 4=((Tg.Un.num4 s%4:Nat):Int):=by rw [Int.tmod_eq_emod_of_nonneg (by omega)];rfl
  generalize Tg.Un.num4 s=n at*
  by_cases a1:12≤s.length
  ·have q1:=eq_true (show(12:Int)≤(s.length:Int) by omega)
   by_cases a2:n≤s.length
   ·have q2:=eq_true (show(n:Int)≤(s.length:Int) by omega)
    by_cases a3:n%4=0
    ·rw [a3]at tm
     have q8:=eq_true (show(8:Int)≤(s.length:Int) by omega)
     by_cases a4:(s.drop 4).take 4=Tg.Un.ftyp
     ·simp [q1,q2,q8,tm,a1,a2,a3,a4]
      rw [sub48];exact a4
     ·simp [q1,q2,q8,tm,a1,a2,a3,a4]
      rw [sub48]
      exact(decide_eq_false a4).trans (beq_eq_false_iff_ne.2 a4).symm
    ·have q3:=eq_false (show¬((n%4:Nat):Int)=0 by omega)
     have q4:=eq_false (show¬(n:Int)%4=0 by omega)
     simp [q1,q2,tm,q3,q4,a1,a2,a3]
   ·have q2:=eq_false (show¬(n:Int)≤(s.length:Int) by omega)
    simp [q1,q2,a1,a2]
  ·have q1:=eq_false (show¬(12:Int)≤(s.length:Int) by omega)
   simp [q1,a1]
theorem brands_r (hs:s.length≤1000000): ∃v H1,R Tryz.prog EPu (.call 330 [str s] H (.ret v) H1)∧SRow H1 v (if Tg.Un.mp4h s=true then Tg.Un.brands s else [])∧H.n≤H1.n∧ ∀k,k<H.n→H1.get k=H.get k:=by
 have key: ∃r H1,R Tryz.prog EPu (.call 330 [str s] H r H1)∧ ∃v,r=.ret v∧SRow H1 v (if Tg.Un.mp4h s=true then Tg.Un.brands s else [])∧H.n≤H1.n∧ ∀k,k<H.n→H1.get k=H.get k:=by
  refine pcall Tryz.func330 rfl (Nat.le_of_ble_eq_true rfl) (by decide) (by kernel_rfl) (Q:=fun r H1=> ∃v,r=.ret v∧SRow H1 v (if Tg.Un.mp4h s=true then Tg.Un.brands s else [])∧H.n≤H1.n∧ ∀k,k<H.n→H1.get k=H.get k) ?_
  have hb:=begins_r (H:=H) (s:=s)
  cases hm:Tg.Un.mp4h s with
  |false=>
   rw [hm]at hb
   simp
   refine hand_call_ret (g:=346) (first:=#[]) (caps:=#[]) (H1:=H) rfl rfl rfl (by simp) (by simpa using hb) rfl ?_
   simp
   exact .inl ⟨rfl,rfl⟩
  |true=>
   rw [hm]at hb
   obtain⟨a1,a2,a3,_⟩:12≤s.length∧Tg.Un.num4 s≤s.length∧Tg.Un.num4 s%4=0∧(s.drop 4).take 4=Tg.Un.ftyp:=by
    unfold Tg.Un.mp4h at hm;simpa using hm
   have hz:=size_ok (H:=H) (s:=s) (by omega)
   unfold Tg.Un.brands
   generalize Tg.Un.num4 s=n at*
   have q1:=eq_true (show(12:Int)≤(s.length:Int) by omega)
   have e8:sub s 8 12=(s.drop 8).take 4:=List.drop_take
   simp
   refine hand_call_ret (g:=346) (first:=#[]) (caps:=#[]) (H1:=H) rfl rfl rfl (by simp) (by simpa using hb) rfl ?_
   simp
   refine hand_call_ret (g:=347) (first:=#[]) (caps:=#[]) (H1:=H) rfl rfl rfl (by simp) (by simpa using hz) rfl ?_
   simp [q1,bs1s,e8]
   refine ploop_ind (fun(i:Nat) fr' H' p'=>fr' 0=str s∧fr' 3=.int .i64 n∧fr' 6=.int .i64 ((16+4*i:Nat):Int)∧i≤(n-16)/4∧(∃v,fr' 5=v∧RowN H.n H' 9 1 v ((s.drop 8).take 4::(List.range i).map (piece s)).length (((s.drop 8).take 4::(List.range i).map (piece s)).map str))∧H.n≤H'.n∧(∀k,k<H.n→H'.get k=H.get k)∧p'=none) (fun i=>(n-16)/4-i) 0 ⟨by simp,by simp,by simp,Nat.zero_le _,⟨sl H.n 1 1,by simp,?_⟩,by simp,fun k hk=>get_new_ne (by omega),rfl⟩ ?_
   ·exact⟨by simp,.inr ⟨H.n,1,[],rfl,Nat.le_refl _,by simp,by simp,Nat.le_refl _,by simp⟩⟩
   rintro i fr' H' p' ⟨g0,g3,g6,hi,⟨v,g5,hr⟩,hn,ho,rfl⟩ ih
   by_cases hlt:i<(n-16)/4
   ·have q:=eq_true (show((16+4*i:Nat):Int)<(n:Int) by omega)
    have w1:IntKind.i64.wrap (((16+4*i:Nat):Int)+4)=((16+4*(i+1):Nat):Int):=by rw [wrapI (by omega) (by omega)];omega
    have q2:=eq_true (show((16+4*i:Nat):Int)≤((16+4*(i+1):Nat):Int) by omega)
    have q3:=eq_true (show((16+4*(i+1):Nat):Int)≤(s.length:Int) by omega)
    have hp:sub s ((16+4*i:Nat):Int) ((16+4*(i+1):Nat):Int)=piece s i:=by
     rw [subn (by omega),show 16+4*(i+1)-(16+4*i)=4 by omega];rfl
    have hn0:=eq_true (show(0:Int)≤((16+4*i:Nat):Int) by omega)
    obtain⟨v2,H2,b1,b2,b3,b4⟩:=str_app (x:=piece s i) hr hn (by simp;omega)
    have hnew:((s.drop 8).take 4::(List.range i).map (piece s))++ [piece s i]=(s.drop 8).take 4::(List.range (i+1)).map (piece s):=by
     rw [List.range_succ,List.map_append];rfl
    rw [hnew]at b2
    have hcv:=b2.cell
    generalize ((16+4*i:Nat):Int)=A at*
    generalize hB:((16+4*(i+1):Nat):Int)=B at*
    simp [g0,g3,g6,q,w1,q2,q3,hn0,g5,hp,bs1s,b1,hcv]
    refine ih (i+1) _ _ _ (by omega) ⟨?_,?_,?_,by omega,⟨v2,?_,b2⟩,b3,fun k hk=>by rw [b4 k hk,ho k hk],rfl⟩
    ·simp [g0]
    ·simp [g3]
    ·simp [w1,hB]
    ·simp
   ·have q:=eq_false (show¬((16+4*i:Nat):Int)<(n:Int) by omega)
    obtain rfl:i=(n-16)/4:=by omega
    have hsr:=srow_n hr
    generalize ((16+4*((n-16)/4):Nat):Int)=A at*
    simp [g0,g3,g6,q,g5]
    exact⟨hsr,hn,ho⟩
 obtain⟨r,H1,h1,v,rfl,h2,h3⟩:=key
 exact⟨v,H1,h1,h2,h3⟩
theorem is1_cl:LC Tryz.prog EJ 331 [str s] H=some (.bool (s.take 3== [109,112,52]),H):=by
 refine LC_pure rfl Tryz.func331 rfl (Nat.le_of_ble_eq_true rfl) (by decide) (by kernel_rfl) rfl ?_
 have hp:Lib.hasPrefix s [109,112,52]=(s.take 3== [109,112,52]):=by
  rw [Tg.Un.pre_eq,Tg.Un.pre_take]
  by_cases h:s.take 3= [109,112,52]
  ·exact(decide_eq_true h).trans (beq_iff_eq.2 h).symm
  ·exact(decide_eq_false h).trans (beq_eq_false_iff_ne.2 h).symm
 rw [←hp]
 simp
theorem mp4_r (hs:s.length≤1000000):R Tryz.prog EPu (.call 312 [str s] H (.ret (.bool (Tg.Un.mp4 s))) H):=by
 obtain⟨v,H1,r1,sr,n1,o1⟩:=brands_r (H:=H) hs
 refine pcall_flat Tryz.func312 rfl (Nat.le_of_ble_eq_true rfl) (by decide) (by kernel_rfl) rfl ?_
 have hlen:(if Tg.Un.mp4h s=true then Tg.Un.brands s else []).length≤1000000:=by
  cases hm:Tg.Un.mp4h s with
  |false=>simp
  |true=>
   rw [if_pos rfl]
   have:Tg.Un.num4 s≤s.length:=by
    unfold Tg.Un.mp4h at hm
    simp at hm;exact hm.2.1
   simp [Tg.Un.brands];omega
 have h2:=containsS_cl (g:=331) (caps:= []) (q:=fun b=>b.take 3== [109,112,52]) sr hlen (fun x _=>is1_cl)
 have he:(if Tg.Un.mp4h s=true then Tg.Un.brands s else []).any (fun b=>b.take 3== [109,112,52])=Tg.Un.mp4 s:=by
  unfold Tg.Un.mp4
  cases Tg.Un.mp4h s<;>simp
 rw [he]at h2
 have hc:=fun H:LH=>sr.len (H':=H)
 simp
 refine hand_call_ret (g:=330) (first:=#[]) (caps:=#[]) (H1:=H1) rfl rfl rfl (by simp) (by simpa using r1) rfl ?_
 simp [h2]
 exact⟨n1,fun k hk=>o1 k hk⟩
end
section
variable {H:LH} {b:UInt8} {s p t:List UInt8}
end
section
variable {H:LH} {s:List UInt8} {p:Tg.Un.Pat} {v:Value} {l:List Tg.Un.Pat} {a c:UInt8}
end
section
variable {H:LH} {s t:List UInt8} {p:Tg.Un.Pat} {v:Value} {l:List Tg.Un.Pat} {a c:UInt8}
end
section
variable {H:LH} {s t:List UInt8} {c:UInt8}
end
end Go.Proofs.YtcgiaiimbnoknaaGreatDoor
namespace Tg.Un
end Tg.Un
namespace Go.Proofs.YtcgiaiimbnoknaaGreatDoor
open Go.Lg Go.Tg
section
variable {H:LH} {s t:List UInt8}
end
end Go.Proofs.YtcgiaiimbnoknaaGreatDoor
namespace Tg.Un
end Tg.Un
namespace Go.Proofs.YtcgiaiimbnoknaaGreatDoor
open Go.Lg Go.Tg
section
variable {H:LH} {s t l:List UInt8}
end
end Go.Proofs.YtcgiaiimbnoknaaGreatDoor
namespace Tg.Un
end Tg.Un
namespace Go.Proofs.YtcgiaiimbnoknaaGreatDoor
open Go.Lg Go.Tg
section
variable {H:LH} {c:UInt8} {s p t:List UInt8}
end
end Go.Proofs.YtcgiaiimbnoknaaGreatDoor
namespace Tg.Un
end Tg.Un
namespace Go.Proofs.YtcgiaiimbnoknaaGreatDoor
open Go.Lg Go.Tg
section
variable {H:LH} {c:UInt8} {s p t:List UInt8}
end
end Go.Proofs.YtcgiaiimbnoknaaGreatDoor
namespace Tg.Un
open Go
theorem fdivn (n m:Nat):((n:Int).fdiv (m:Int))=((n/m:Nat):Int):=by
 rw [Int.fdiv_eq_ediv_of_nonneg _ (Int.natCast_nonneg m)];rfl
theorem and3 {n:Nat} (h:n<256):Go.Lg.bAnd .u8 (n:Int) 3=((n%4:Nat):Int):=by
 have: ∀k:Fin 256,Go.Lg.bAnd .u8 (k.1:Int) 3=((k.1%4:Nat):Int):=by decide+kernel
 exact this ⟨n,h⟩
theorem and1 {n:Nat} (h:n<256):Go.Lg.bAnd .u8 (n:Int) 1=((n%2:Nat):Int):=by
 have: ∀k:Fin 256,Go.Lg.bAnd .u8 (k.1:Int) 1=((k.1%2:Nat):Int):=by decide+kernel
 exact this ⟨n,h⟩
theorem and1i {n:Nat} (h:n<4):Go.Lg.bAnd .i64 (n:Int) 1=((n%2:Nat):Int):=by
 have: ∀k:Fin 4,Go.Lg.bAnd .i64 (k.1:Int) 1=((k.1%2:Nat):Int):=by decide+kernel
 exact this ⟨n,h⟩
def ratesL (o:Bool):List Nat:=if o=true then rateO else rateE
theorem ratesL_len (o:Bool):(ratesL o).length=15:=by cases o<;>rfl
theorem ratesL_le (o:Bool): ∀x∈ratesL o,x≤320:=by cases o<;>decide
structure FrmOk (f:Frm):Prop where
 v:f.v<4
 r: ∃x∈ratesL (decide (f.v%2=1)),f.r=1000*x
 f:f.f∈freqs
end Tg.Un
namespace Go.Proofs.YtcgiaiimbnoknaaGreatDoor
open Go.Lg Go.Tg
def icells (l:List Nat):List Value:=l.map fun(n:Nat)=>Value.int .i64 (n:Int)
abbrev fvF (f:Tg.Un.Frm):Value:=.agg #[.int .i64 f.v,.int .i64 3,.int .i64 f.r,.int .i64 f.f,.bool f.p]
abbrev fv0:Value:=.agg #[.int .i64 0,.int .i64 0,.int .i64 0,.int .i64 0,.bool false]
def fvO:Option Tg.Un.Frm→Value
 |some f=>fvF f
 |none=>fv0
section
variable {H:LH} {s t:List UInt8} {v:Value} {l:List Nat}
theorem odd3_g {V:Nat} (h:V<4) {b r f:Int} {p:Bool} :LC Tryz.prog EJ 351 [.agg #[.int .i64 V,.int .i64 b,.int .i64 r,.int .i64 f,.bool p]] H=some (.bool (decide (V%2=1)),H):=by
 refine LC_pure rfl Tryz.func351 rfl (Nat.le_of_ble_eq_true rfl) (by decide) (by kernel_rfl) rfl ?_
 have h1:=Tg.Un.and1i h
 have h2:V%2<2:=Nat.mod_lt _ (by decide)
 generalize V%2=y at*
 by_cases hy:y=1
 ·subst hy;simp [h1]
 ·have q:=eq_false (show¬(y:Int)=1 by omega)
  simp [h1,hy,q]
theorem odd3_cl {a:Tg.Un.Frm} (h:a.v<4):LC Tryz.prog EJ 351 [fvF a] H=some (.bool (decide (a.v%2=1)),H):=odd3_g h
theorem rates_l {o:Bool} :LC Tryz.prog EJ 350 [.bool o] H=some (sl H.n 15 15,H.new ⟨icells (Tg.Un.ratesL o),3,true⟩):=by
 obtain⟨r,h,e⟩: ∃r,LC Tryz.prog EJ 350 [.bool o] H=some (Lg.trunc H r)∧r=(sl H.n 15 15,H.new ⟨icells (Tg.Un.ratesL o),3,true⟩):=by
  refine LC_runs (P:=Tryz.prog) (E:=EJ) (f:=350) rfl Tryz.func350 rfl (Nat.le_of_ble_eq_true rfl) (by decide) (by kernel_rfl) ?_
  have b1: ∀ {ps:List (Nat×Value)} {H:LH},ps.length=15→denseB ps 0=true→lbuildSlice Tryz.prog 146 15 ps H=some (sl H.n 15 15,H.new ⟨ps.map Prod.snd,3,true⟩):=fun h1 h2=>lbs_dense (z:=.int .i64 0) Tryz.underlying146 (by kernel_rfl) (by kernel_rfl) rfl rfl h1.symm (by decide) h2
  cases o
  ·simp [b1,denseB];rfl
  ·simp [b1,denseB];rfl
 rw [h,e,trunc_no (by simp [flatB,flat1B,atomB])]
theorem freqs_l:LC Tryz.prog EJ 352 [] H=some (sl H.n 3 3,H.new ⟨icells Tg.Un.freqs,3,true⟩):=by
 obtain⟨r,h,e⟩: ∃r,LC Tryz.prog EJ 352 [] H=some (Lg.trunc H r)∧r=(sl H.n 3 3,H.new ⟨icells Tg.Un.freqs,3,true⟩):=by
  refine LC_runs (P:=Tryz.prog) (E:=EJ) (f:=352) rfl Tryz.func352 rfl (Nat.le_of_ble_eq_true rfl) (by decide) (by kernel_rfl) ?_
  have b1: ∀ {ps:List (Nat×Value)} {H:LH},ps.length=3→denseB ps 0=true→lbuildSlice Tryz.prog 146 3 ps H=some (sl H.n 3 3,H.new ⟨ps.map Prod.snd,3,true⟩):=fun h1 h2=>lbs_dense (z:=.int .i64 0) Tryz.underlying146 (by kernel_rfl) (by kernel_rfl) rfl rfl h1.symm (by decide) h2
  simp [b1,denseB];rfl
 rw [h,e,trunc_no (by simp [flatB,flat1B,atomB])]
theorem lld_i {k i:Nat} {e:TypeId} {r:Bool} (hk:H.get k=some ⟨icells l,e,r⟩) (hi:i<l.length):lld Tryz.prog 3 (ptr k i) H=some (.int .i64 l[i]):=by
 rw [lld_ptr hk,show aggB Tryz.prog 3=some false by kernel_rfl,lldb_cell]
 simp [icells,hi]
theorem cont_cl {k c:Nat} {e:TypeId} {r:Bool} {x:Nat} (hk:H.get k=some ⟨icells l,e,r⟩) (hl:l.length≤1000):LC Tryz.prog EJ 143 [.slice (some ⟨k,0,none⟩) l.length c,.int .i64 x] H=some (.bool (decide (x∈l)),H):=by
 have hix: ∃i:Int,LC Tryz.prog EJ 184 [.slice (some ⟨k,0,none⟩) l.length c,.int .i64 x] H=some (.int .i64 i,H)∧(0≤i↔x∈l):=by
  obtain⟨i,hi⟩: ∃i:Int,i=Tg.Un.idx (fun y=>decide (x=y)) l 0:=⟨_,rfl⟩
  refine⟨i,?_,?_⟩
  ·refine LC_pure rfl Tryz.func184 rfl (Nat.le_of_ble_eq_true rfl) (by decide) (by kernel_rfl) rfl ?_
   simp
   refine loop_ind (fun(j:Nat) fr' H'=>fr' 0=.slice (some ⟨k,0,none⟩) l.length c∧fr' 1=.int .i64 x∧fr' 7=.int .i64 l.length∧fr' 8=.int .i64 j∧j≤l.length∧i=Tg.Un.idx (fun y=>decide (x=y)) (l.drop j) j∧H'=H) (fun j=>l.length-j) 0 ⟨by simp,by simp,by simp,by simp,Nat.zero_le _,hi,rfl⟩ ?_
   rintro j fr' H' ⟨h0,h1,h7,h8,hj,hc,rfl⟩ ih
   by_cases hlt:j<l.length
   ·have q:=eq_true (show(j:Int)<(l.length:Int) by omega)
    have hw:IntKind.i64.wrap ((j:Int)+1)=((j+1:Nat):Int):=by rw [wrapI (by omega) (by omega)];omega
    have g:=lld_i (i:=j) hk hlt
    rw [List.drop_eq_getElem_cons hlt]at hc
    generalize l[j]=a at*
    unfold Tg.Un.idx at hc
    by_cases hf:x=a
    ·rw [if_pos (decide_eq_true hf)]at hc
     have q2:=eq_true (show(x:Int)=(a:Int) by omega)
     subst hc
     simp [h0,h1,h7,h8,q,g,q2]
    ·rw [if_neg (by simp [hf])]at hc
     have q2:=eq_false (show¬(x:Int)=(a:Int) by omega)
     simp [h0,h1,h7,h8,q,g,q2]
     refine ih (j+1) _ _ (by omega) ⟨?_,?_,?_,?_,by omega,hc,rfl⟩
     all_goals simp [h0,h1,h7,hw]
   ·have q:=eq_false (show¬(j:Int)<(l.length:Int) by omega)
    rw [List.drop_of_length_le (by omega)]at hc
    have hc:i= -1:=hc
    subst hc
    simp [h0,h1,h7,h8,q]
  ·have:=Tg.Un.idx_any (fun y=>decide (x=y)) l 0
   rw [←hi]at this
   constructor
   ·intro h
    rw [decide_eq_true h]at this
    obtain⟨y,hy,e⟩:=List.any_eq_true.1 this.symm
    rw [of_decide_eq_true e];exact hy
   ·intro h
    have h2:l.any (fun y=>decide (x=y))=true:=List.any_eq_true.2 ⟨x,h,by simp⟩
    rw [h2]at this
    exact of_decide_eq_true this
 obtain⟨i,h1,h2⟩:=hix
 refine LC_pure rfl Tryz.func143 rfl (Nat.le_of_ble_eq_true rfl) (by decide) (by kernel_rfl) rfl ?_
 by_cases h:x∈l
 ·have q:=eq_true (h2.2 h)
  simp [h1,q,h]
 ·have q:=eq_false (fun e=>h (h2.1 e))
  simp [h1,q,h]
theorem good3_cl {a:Tg.Un.Frm} (h:Tg.Un.FrmOk a):LC Tryz.prog EJ 362 [fvF a] H=some (.bool true,H):=by
 refine LC_pure rfl Tryz.func362 rfl (Nat.le_of_ble_eq_true rfl) (by decide) (by kernel_rfl) rfl ?_
 obtain⟨hv,⟨x,hx,hr⟩,hf⟩:=h
 have h1:=fun H:LH=>odd3_cl (H:=H) hv
 have h2:=fun H:LH=>rates_l (H:=H) (o:=decide (a.v%2=1))
 have h3:=fun H:LH=>freqs_l (H:=H)
 generalize decide (a.v%2=1)=o at*
 have hxl:=Tg.Un.ratesL_le o x hx
 have hrl:=Tg.Un.ratesL_len o
 have c1:=cont_cl (H:=(H.new ⟨[.int .i64 a.v,.int .i64 3,.int .i64 a.r,.int .i64 a.f,.bool a.p],285,true⟩).new ⟨icells (Tg.Un.ratesL o),3,true⟩) (k:=H.n+1) (c:=15) (l:=Tg.Un.ratesL o) (x:=x) (e:=3) (r:=true) (by rw [show H.n+1=(H.new ⟨[.int .i64 a.v,.int .i64 3,.int .i64 a.r,.int .i64 a.f,.bool a.p],285,true⟩).n from rfl,get_new]) (by omega)
 rw [decide_eq_true hx,hrl]at c1
 have q1:((a.r:Nat):Int).tmod 1000=0:=by rw [hr,Int.tmod_eq_emod_of_nonneg (by omega)];omega
 have q2:((a.r:Nat):Int).tdiv 1000=(x:Int):=by rw [hr,Int.tdiv_eq_ediv_of_nonneg (by omega)];omega
 have hwx:IntKind.i64.wrap (x:Int)=(x:Int):=wrapI (by omega) (by omega)
 have c2:=cont_cl (H:=((H.new ⟨[.int .i64 a.v,.int .i64 3,.int .i64 a.r,.int .i64 a.f,.bool a.p],285,true⟩).new ⟨icells (Tg.Un.ratesL o),3,true⟩).new ⟨icells Tg.Un.freqs,3,true⟩) (k:=H.n+1+1) (c:=3) (l:=Tg.Un.freqs) (x:=a.f) (e:=3) (r:=true) (by rw [show H.n+1+1=((H.new ⟨[.int .i64 a.v,.int .i64 3,.int .i64 a.r,.int .i64 a.f,.bool a.p],285,true⟩).new ⟨icells (Tg.Un.ratesL o),3,true⟩).n from rfl,get_new]) (by decide)
 rw [decide_eq_true hf,show Tg.Un.freqs.length=3 from rfl]at c2
 have q3:=eq_true (show(a.v:Int)≤3 by omega)
 have q4:=eq_true (show(0:Int)≤(a.v:Int) by omega)
 have hg:(((H.new ⟨[.int .i64 a.v,.int .i64 3,.int .i64 a.r,.int .i64 a.f,.bool a.p],285,true⟩).new ⟨icells (Tg.Un.ratesL o),3,true⟩).new ⟨icells Tg.Un.freqs,3,true⟩).get H.n=some ⟨[.int .i64 a.v,.int .i64 3,.int .i64 a.r,.int .i64 a.f,.bool a.p],285,true⟩:=by
  rw [get_new_ne (by simp only [n_new];omega),get_new_ne (by simp only [n_new];omega),get_new]
 simp [h1,h2,h3,c1,c2,q1,q2,q3,q4,hwx,hg]
 exact le_refl.new.new.new
theorem size3_cl {a:Tg.Un.Frm} (h:Tg.Un.FrmOk a):LC Tryz.prog EJ 349 [fvF a] H=some (.int .i64 (Tg.Un.flen a),H):=by
 have h1:=fun H:LH=>good3_cl (H:=H) h
 have h2: ∀H:LH,LC Tryz.prog EJ 363 [fvF a,.int .i64 72] H=some (.int .i64 ((if a.v%2=1 then 144 else 72:Nat):Int),H):=fun H=>by
  have h2:=fun H:LH=>odd3_cl (H:=H) h.v
  refine LC_pure rfl Tryz.func363 rfl (Nat.le_of_ble_eq_true rfl) (by decide) (by kernel_rfl) rfl ?_
  by_cases ho:a.v%2=1
  ·rw [decide_eq_true ho]at h2
   rw [if_pos ho]
   simp [h2]
  ·rw [decide_eq_false ho]at h2
   rw [if_neg ho]
   simp [h2]
 obtain⟨hv,⟨x,hx,hr⟩,hf⟩:=h
 have hxl:=Tg.Un.ratesL_le _ x hx
 have hf0:32000≤a.f∧a.f≤48000:=by
  have: ∀y∈Tg.Un.freqs,32000≤y∧y≤48000:=by decide
  exact this _ hf
 refine LC_pure rfl Tryz.func349 rfl (Nat.le_of_ble_eq_true rfl) (by decide) (by kernel_rfl) rfl ?_
 unfold Tg.Un.flen
 obtain⟨k,hk⟩: ∃k:Nat,k=if a.v%2=1 then 144 else 72:=⟨_,rfl⟩
 have hk2:k≤144:=by rw [hk];split<;>omega
 rw [←hk]at h2⊢
 have hm:a.r*k≤320000*144:=Nat.mul_le_mul (by omega) hk2
 have hw1:IntKind.i64.wrap ((a.r:Int)*(k:Int))=((a.r*k:Nat):Int):=by rw [wrapI (by rw [←Int.natCast_mul];omega) (by rw [←Int.natCast_mul];omega),Int.natCast_mul]
 obtain⟨m,hm0⟩: ∃m,m=a.r*k:=⟨_,rfl⟩
 rw [←hm0]at hw1 hm⊢
 obtain⟨d,hd⟩: ∃d,d=m/a.f:=⟨_,rfl⟩
 have hdl:d≤m:=by rw [hd];exact Nat.div_le_self _ _
 have hq:(m:Int).tdiv (a.f:Int)=(d:Int):=by rw [hd,Int.tdiv_eq_ediv_of_nonneg (by omega)];rfl
 have hw2:IntKind.i64.wrap (d:Int)=(d:Int):=wrapI (by omega) (by omega)
 have hw3:IntKind.i64.wrap ((d:Int)+1)=(d:Int)+1:=wrapI (by omega) (by omega)
 have hne:=eq_false (show¬(a.f:Int)=0 by omega)
 have hne2:=eq_false (show¬a.f=0 by omega)
 rw [←hd]
 clear hk hd hm0 hv hr hx hf
 obtain⟨av,ar,af,ap⟩:=a
 simp only at*
 cases ap with
 |false=>simp [h1,h2,hw1,hq,hw2,hne,hne2]
 |true=>simp [h1,h2,hw1,hq,hw2,hw3,hne,hne2]
@[simp] theorem flat1_fvO {o:Option Tg.Un.Frm} :flat1B (fvO o)=true:=by cases o<;>rfl
theorem flat_hd {o:Option Tg.Un.Frm} {b:Bool} :flatB (.tuple #[fvO o,.bool b])=true:=by cases o<;>rfl
theorem lfill_f3 {a b:Int} {c:Bool} :lfill Tryz.prog 285 [.int .i64 0,.int .i64 0,.int .i64 0,.int .i64 0,.bool false] [(0,.int .i64 a),(1,.int .i64 b),(4,.bool c)]=some [.int .i64 a,.int .i64 b,.int .i64 0,.int .i64 0,.bool c]:=by
 rw [lfill_cell (o:=0) (n:=1) (g:=false) (by simp) rfl (by simp) (by simp),lfill_cell (o:=1) (n:=1) (g:=false) (by simp) rfl (by simp) (by simp),lfill_cell (o:=4) (n:=1) (g:=false) (by simp) rfl (by simp) (by simp)]
 simp
theorem head3_cl (hs:s.length≤1048576):LC Tryz.prog EJ 336 [str s] H=some (.tuple #[fvO (Tg.Un.head3 s),.bool (Tg.Un.head3 s).isSome],H):=by
 refine LC_pure rfl Tryz.func336 rfl (Nat.le_of_ble_eq_true rfl) (by decide) (by kernel_rfl) flat_hd ?_
 by_cases hlen:s.length<4
 ·have q:=eq_true (show(s.length:Int)<4 by omega)
  have e:Tg.Un.head3 s=none:=by
   match s,hlen with
   | [],_=>rfl
   | [_],_=>rfl
   | [_,_],_=>rfl
   | [_,_,_],_=>rfl
  rw [e]
  simp [q,fvO]
 ·obtain⟨A,B,C,D,r,rfl⟩: ∃A B C D r,s=A::B::C::D::r:=by
   match s,hlen with
   |A::B::C::D::r,_=>exact⟨A,B,C,D,r,rfl⟩
   | [],h=>exact absurd (by simp) h
   | [_],h=>exact absurd (by simp) h
   | [_,_],h=>exact absurd (by simp) h
   | [_,_,_],h=>exact absurd (by simp) h
  have q:=eq_false (show¬(r.length:Int)+1+1+1+1<4 by omega)
  have a0:at_ (A::B::C::D::r) 0=A:=rfl
  have a1:at_ (A::B::C::D::r) 1=B:=rfl
  have a2:at_ (A::B::C::D::r) 2=C:=rfl
  have h4:Tg.Un.head3 (A::B::C::D::r)=if A.toNat=255∧224≤B.toNat∧B.toNat/2%4=1∧C.toNat/16<15∧C.toNat/4%4<3 then
   some ⟨B.toNat/8%4,1000*(if B.toNat/8%2=1 then Tg.Un.rateO else Tg.Un.rateE).getD (C.toNat/16) 0,Tg.Un.freqs.getD (C.toNat/4%4) 0,C.toNat/2%2==1⟩else none:=rfl
  have p0:=eq_true (show(0:Int)<(r.length:Int)+1+1+1+1 by omega)
  have p1:=eq_true (show(1:Int)<(r.length:Int)+1+1+1+1 by omega)
  have p2:=eq_true (show(2:Int)<(r.length:Int)+1+1+1+1 by omega)
  have hB:=B.toNat_lt
  have hC:=C.toNat_lt
  have hB:=B.toNat_lt
  have hC:=C.toNat_lt
  by_cases hA:A.toNat=255
  ·have qA:=eq_true (show(A.toNat:Int)=255 by omega)
   have f32:(B.toNat:Int).fdiv (2^min 5 IntKind.u8.bits)=((B.toNat/32:Nat):Int):=by rw [show(2:Int)^min 5 IntKind.u8.bits=((32:Nat):Int) from rfl];exact Tg.Un.fdivn _ 32
   by_cases hB2:224≤B.toNat
   ·rw [show B.toNat/32=7 by omega]at f32
    have f8:(B.toNat:Int).fdiv (2^min 3 IntKind.u8.bits)=((B.toNat/8:Nat):Int):=by rw [show(2:Int)^min 3 IntKind.u8.bits=((8:Nat):Int) from rfl];exact Tg.Un.fdivn _ 8
    have f2:(B.toNat:Int).fdiv (2^min 1 IntKind.u8.bits)=((B.toNat/2:Nat):Int):=by rw [show(2:Int)^min 1 IntKind.u8.bits=((2:Nat):Int) from rfl];exact Tg.Un.fdivn _ 2
    have g2:(C.toNat:Int).fdiv (2^min 1 IntKind.u8.bits)=((C.toNat/2:Nat):Int):=by rw [show(2:Int)^min 1 IntKind.u8.bits=((2:Nat):Int) from rfl];exact Tg.Un.fdivn _ 2
    have g4:(C.toNat:Int).fdiv (2^min 2 IntKind.u8.bits)=((C.toNat/4:Nat):Int):=by rw [show(2:Int)^min 2 IntKind.u8.bits=((4:Nat):Int) from rfl];exact Tg.Un.fdivn _ 4
    have g16:(C.toNat:Int).fdiv (2^min 4 IntKind.u8.bits)=((C.toNat/16:Nat):Int):=by rw [show(2:Int)^min 4 IntKind.u8.bits=((16:Nat):Int) from rfl];exact Tg.Un.fdivn _ 16
    have n8:=Tg.Un.and3 (n:=B.toNat/8) (by omega)
    have n2:=Tg.Un.and3 (n:=B.toNat/2) (by omega)
    have m2:=Tg.Un.and1 (n:=C.toNat/2) (by omega)
    have m4:=Tg.Un.and3 (n:=C.toNat/4) (by omega)
    have e8:B.toNat/8%4<4:=Nat.mod_lt _ (by decide)
    have e2:B.toNat/2%4<4:=Nat.mod_lt _ (by decide)
    have k2:C.toNat/2%2<2:=Nat.mod_lt _ (by decide)
    have k4:C.toNat/4%4<4:=Nat.mod_lt _ (by decide)
    have k16:C.toNat/16<16:=by omega
    have ho:B.toNat/8%2=B.toNat/8%4%2:=by omega
    have hh:Tg.Un.head3 (A::B::C::D::r)=if B.toNat/2%4=1∧C.toNat/16<15∧C.toNat/4%4<3 then some ⟨B.toNat/8%4,1000*(if B.toNat/8%4%2=1 then Tg.Un.rateO else Tg.Un.rateE).getD (C.toNat/16) 0,Tg.Un.freqs.getD (C.toNat/4%4) 0,C.toNat/2%2==1⟩else none:=by
     rw [h4,ho]
     simp only [hA,hB2,true_and]
    rw [hh]
    clear hh ho hB hC
    generalize B.toNat/8%4=V at*
    generalize B.toNat/2%4=Y at*
    generalize C.toNat/2%2=Pd at*
    generalize C.toNat/4%4=Fi at*
    generalize B.toNat/8=B8 at*
    generalize B.toNat/2=B2 at*
    generalize C.toNat/2=C2 at*
    generalize C.toNat/4=C4 at*
    generalize C.toNat/16=Ri at*
    have w1:IntKind.i64.wrap (V:Int)=(V:Int):=wrapI (by omega) (by omega)
    have w2:IntKind.i64.wrap (Y:Int)=(Y:Int):=wrapI (by omega) (by omega)
    have w3:IntKind.i64.wrap (Ri:Int)=(Ri:Int):=wrapI (by omega) (by omega)
    have w4:IntKind.i64.wrap (Fi:Int)=(Fi:Int):=wrapI (by omega) (by omega)
    have w5:IntKind.i64.wrap (4-(Y:Int))=4-(Y:Int):=wrapI (by omega) (by omega)
    have hod:bAnd .i64 (V:Int) 1=((V%2:Nat):Int):=Tg.Un.and1i e8
    have ha:=fun(H:LH) (b r f:Int) (p:Bool)=>odd3_g (H:=H) e8 (b:=b) (r:=r) (f:=f) (p:=p)
    have hr:=fun H:LH=>rates_l (H:=H) (o:=decide (V%2=1))
    have hf:=fun H:LH=>freqs_l (H:=H)
    have z1:(H.n=H.n+1+1)=False:=eq_false (by omega)
    have z2:(H.n=H.n+1+1+1)=False:=eq_false (by omega)
    have z3:(H.n+1=H.n+1+1+1)=False:=eq_false (by omega)
    have z4:(H.n=H.n+1+1+1+1)=False:=eq_false (by omega)
    have z5:(H.n+1=H.n+1+1+1+1)=False:=eq_false (by omega)
    have z6:(H.n+1+1=H.n+1+1+1+1)=False:=eq_false (by omega)
    by_cases hY:Y=1
    ·subst hY
     have qY:(4:Int)-((1:Nat):Int)=3:=by decide
     by_cases hR:Ri<15
     ·have qR:=eq_false (show¬(15:Int)≤(Ri:Int) by omega)
      have qR2:=eq_true (show(Ri:Int)<15 by omega)
      by_cases hF:Fi<3
      ·have qF:=eq_false (show¬(3:Int)≤(Fi:Int) by omega)
       have qF2:=eq_true (show(Fi:Int)<3 by omega)
       rw [if_pos ⟨rfl,hR,hF⟩]
       have r1:=fun(H:LH) (k:Nat) (h:H.get k=some ⟨icells (Tg.Un.ratesL (decide (V%2=1))),3,true⟩)=>lld_i (i:=Ri) h (by rw [Tg.Un.ratesL_len];exact hR)
       have r2:=fun(H:LH) (k:Nat) (h:H.get k=some ⟨icells Tg.Un.freqs,3,true⟩)=>lld_i (i:=Fi) h hF
       have hRl:Ri<(Tg.Un.ratesL (decide (V%2=1))).length:=by rw [Tg.Un.ratesL_len];exact hR
       have eR:(if V%2=1 then Tg.Un.rateO else Tg.Un.rateE).getD Ri 0=(Tg.Un.ratesL (decide (V%2=1)))[Ri]:=by
        have:(if V%2=1 then Tg.Un.rateO else Tg.Un.rateE)=Tg.Un.ratesL (decide (V%2=1)):=by unfold Tg.Un.ratesL;by_cases h:V%2=1<;>simp [h]
        rw [this,List.getD_eq_getElem?_getD,List.getElem?_eq_getElem hRl];rfl
       have eF:Tg.Un.freqs.getD Fi 0=Tg.Un.freqs[Fi]'hF:=by rw [List.getD_eq_getElem?_getD,List.getElem?_eq_getElem hF];rfl
       have hx:=Tg.Un.ratesL_le _ _ (List.getElem_mem hRl)
       rw [eR,eF]
       generalize (Tg.Un.ratesL (decide (V%2=1)))[Ri]=x at*
       generalize Tg.Un.freqs[Fi]=y at*
       have hwr:IntKind.i64.wrap (1000*(x:Int))=1000*(x:Int):=wrapI (by omega) (by omega)
       have z7:(H.n+1+1+1+1=H.n+1)=False:=eq_false (by omega)
       have z8:(H.n=H.n+1)=False:=eq_false (by omega)
       have hpd:(decide ((Pd:Int)=1))=(Pd==1):=by
        by_cases h:Pd=1
        ·subst h;rfl
        ·have h2: ¬(Pd:Int)=1:=by omega
         simp [h,h2]
       have r3: ∀(Hx:LH) (b:LB),Hx.get (H.n+1+1+1+1)=some ⟨icells Tg.Un.freqs,3,true⟩→lld Tryz.prog 3 (ptr (H.n+1+1+1+1) Fi) (Hx.set (H.n+1) b)=some (.int .i64 y):=fun Hx b h=>r2 _ _ (by rw [get_set_ne (by omega)];exact h)
       simp [q,a0,a1,a2,p0,p1,p2,qA,f32,f8,f2,g2,g4,g16,n8,n2,m2,m4,w1,w2,w3,w4,w5,ha,hr,hf,lfill_f3,qR,qR2,qF,qF2,z1,z2,z3,z4,z5,z6,z7,z8,hwr,r1,r2,r3,fvO]
       exact⟨hpd,le_refl.new.new.new.new.new⟩
      ·have qF:=eq_true (show(3:Int)≤(Fi:Int) by omega)
       have qF2:=eq_false (show¬(Fi:Int)<3 by omega)
       rw [if_neg (by omega)]
       simp [q,a0,a1,a2,p0,p1,p2,qA,f32,f8,f2,g2,g4,g16,n8,n2,m2,m4,w1,w2,w3,w4,w5,ha,hr,hf,lfill_f3,qR,qR2,qF,qF2,z1,z2,z3,z4,z5,z6,fvO]
       exact le_refl.new.new.new.new
     ·have qR:=eq_true (show(15:Int)≤(Ri:Int) by omega)
      have qR2:=eq_false (show¬(Ri:Int)<15 by omega)
      rw [if_neg (by omega)]
      simp [q,a0,a1,a2,p0,p1,p2,qA,f32,f8,f2,g2,g4,g16,n8,n2,m2,m4,w1,w2,w3,w4,w5,ha,hr,hf,lfill_f3,qR,qR2,z1,z2,z3,z4,z5,z6,fvO]
      exact le_refl.new.new.new
    ·have qY:=eq_false (show¬(4:Int)-(Y:Int)=3 by omega)
     rw [if_neg (by omega)]
     simp [q,a0,a1,a2,p0,p1,p2,qA,f32,f8,f2,g2,g4,g16,n8,n2,m2,m4,w1,w2,w3,w4,w5,ha,hr,hf,lfill_f3,qY,z1,z2,z3,z4,z5,z6,fvO]
     exact le_refl.new.new.new
   ·have e:Tg.Un.head3 (A::B::C::D::r)=none:=by
     rw [h4,if_neg (by omega)]
    obtain⟨u,hu⟩: ∃u,u=B.toNat/32:=⟨_,rfl⟩
    rw [←hu]at f32
    have qu:=eq_false (show¬(u:Int)=7 by omega)
    have qu2:=eq_false (show¬u=7 by omega)
    rw [e]
    simp [q,a0,a1,p0,p1,qA,f32,qu,qu2,fvO]
  ·have qA:=eq_false (show¬(A.toNat:Int)=255 by omega)
   have e:Tg.Un.head3 (A::B::C::D::r)=none:=by
    rw [h4,if_neg (by omega)]
   rw [e]
   simp [q,a0,p0,qA,fvO]
theorem head3_ok {f:Tg.Un.Frm} (h:Tg.Un.head3 s=some f):Tg.Un.FrmOk f:=by
 match s,h with
 |A::B::C::D::r,h=>
  have h4:Tg.Un.head3 (A::B::C::D::r)=if A.toNat=255∧224≤B.toNat∧B.toNat/2%4=1∧C.toNat/16<15∧C.toNat/4%4<3 then
   some ⟨B.toNat/8%4,1000*(if B.toNat/8%2=1 then Tg.Un.rateO else Tg.Un.rateE).getD (C.toNat/16) 0,Tg.Un.freqs.getD (C.toNat/4%4) 0,C.toNat/2%2==1⟩else none:=rfl
  rw [h4]at h
  split at h
  ·rename_i hc
   obtain⟨_,_,_,hR,hF⟩:=hc
   injection h with h
   subst h
   refine⟨Nat.mod_lt _ (by decide),?_,?_⟩
   ·have ho:B.toNat/8%2=B.toNat/8%4%2:=by omega
    have:(if B.toNat/8%2=1 then Tg.Un.rateO else Tg.Un.rateE)=Tg.Un.ratesL (decide (B.toNat/8%4%2=1)):=by
     unfold Tg.Un.ratesL;rw [ho];by_cases h:B.toNat/8%4%2=1<;>simp [h]
    simp only [this]
    have hl:C.toNat/16<(Tg.Un.ratesL (decide (B.toNat/8%4%2=1))).length:=by rw [Tg.Un.ratesL_len];exact hR
    exact⟨_,List.getElem_mem hl,by rw [List.getD_eq_getElem?_getD,List.getElem?_eq_getElem hl];rfl⟩
   ·show Tg.Un.freqs.getD (C.toNat/4%4) 0∈Tg.Un.freqs
    have hl:C.toNat/4%4<Tg.Un.freqs.length:=hF
    rw [List.getD_eq_getElem?_getD,List.getElem?_eq_getElem hl]
    exact List.getElem_mem hl
  ·cases h
 | [],h=>cases h
 | [_],h=>cases h
 | [_,_],h=>cases h
 | [_,_,_],h=>cases h
theorem next3_none (hs:s.length≤1048576) (h:Tg.Un.head3 s=none):LC Tryz.prog EJ 335 [str s] H=some (.tuple #[fv0,.int .i64 0,.bool false],H):=by
 refine LC_pure rfl Tryz.func335 rfl (Nat.le_of_ble_eq_true rfl) (by decide) (by kernel_rfl) rfl ?_
 have h1:=fun H:LH=>head3_cl (H:=H) (s:=s) hs
 rw [h]at h1
 simp [h1,fvO]
theorem next3_some {f:Tg.Un.Frm} (hs:s.length≤1048576) (h:Tg.Un.head3 s=some f):LC Tryz.prog EJ 335 [str s] H=some (.tuple #[fvF f,.int .i64 (Tg.Un.flen f),.bool (decide (4≤Tg.Un.flen f)&&decide (Tg.Un.flen f≤s.length))],H):=by
 refine LC_pure rfl Tryz.func335 rfl (Nat.le_of_ble_eq_true rfl) (by decide) (by kernel_rfl) rfl ?_
 have h1:=fun H:LH=>head3_cl (H:=H) (s:=s) hs
 have h2:=fun H:LH=>size3_cl (H:=H) (head3_ok h)
 rw [h]at h1
 generalize Tg.Un.flen f=n at*
 by_cases a1:4≤n
 ·have q1:=eq_true (show(4:Int)≤(n:Int) by omega)
  by_cases a2:n≤s.length
  ·have q2:=eq_true (show(n:Int)≤(s.length:Int) by omega)
   simp [h1,h2,fvO,q1,q2,a1,a2]
  ·have q2:=eq_false (show¬(n:Int)≤(s.length:Int) by omega)
   simp [h1,h2,fvO,q1,q2,a1,a2]
 ·have q1:=eq_false (show¬(4:Int)≤(n:Int) by omega)
  simp [h1,h2,fvO,q1,a1]
theorem mp3_cl (hs:s.length≤1048576):LC Tryz.prog EJ 314 [str s] H=some (.bool (Tg.Un.mp3 s),H):=by
 refine LC_pure rfl Tryz.func314 rfl (Nat.le_of_ble_eq_true rfl) (by decide) (by kernel_rfl) rfl ?_
 unfold Tg.Un.mp3
 cases h:Tg.Un.head3 s with
 |none=>
  have h1:=fun H:LH=>next3_none (H:=H) hs h
  simp [h1]
 |some f=>
  dsimp only
  have h1:=fun H:LH=>next3_some (H:=H) hs h
  by_cases a1:4≤Tg.Un.flen f
  ·by_cases a2:Tg.Un.flen f≤s.length
   ·have h2:=fun H:LH=>head3_cl (H:=H) (s:=s.drop (Tg.Un.flen f)) (by rw [List.length_drop];omega)
    have q2:=eq_true (show(Tg.Un.flen f:Int)≤(s.length:Int) by omega)
    rw [decide_eq_true a1,decide_eq_true a2]at h1
    generalize Tg.Un.flen f=n at*
    simp [h1,h2,a1,a2,q2]
   ·rw [decide_eq_true a1,decide_eq_false a2]at h1
    generalize Tg.Un.flen f=n at*
    simp [h1,a1,a2]
  ·rw [decide_eq_false a1]at h1
   generalize Tg.Un.flen f=n at*
   simp [h1,a1]
end
end Go.Proofs.YtcgiaiimbnoknaaGreatDoor
namespace Tg.Un
end Tg.Un
namespace Go.Proofs.YtcgiaiimbnoknaaGreatDoor
open Go.Lg Go.Tg
section
variable {H:LH} {s t:List UInt8}
end
end Go.Proofs.YtcgiaiimbnoknaaGreatDoor
namespace Tg.Un
def mk1 (gap:Bool) (i:Nat):UInt8:=if gap=true∧4≤i∧i<8 then 0 else 255
def maskL (gap:Bool) (n:Nat):List UInt8:=(List.range n).map (mk1 gap)
theorem maskL_at {gap:Bool} {n i:Nat} (h:i<(maskL gap n).length):(maskL gap n)[i]=mk1 gap i:=by simp [maskL]
theorem maskL_len {gap:Bool} {n:Nat} :(maskL gap n).length=n:=by simp [maskL]
theorem part_id {M R:List UInt8} {i:Nat} (hr:R.length=M.length) (hi:i<M.length):(M.take i++R.drop i).set i M[i]=M.take (i+1)++R.drop (i+1):=by
 have h1:(M.take i).length=i:=by simp;omega
 rw [List.set_append_right _ _ (by omega),h1,Nat.sub_self,List.drop_eq_getElem_cons (by omega:i<R.length),List.set_cons_zero,List.take_add_one,List.getElem?_eq_getElem hi,List.append_assoc]
 rfl
theorem part_same {M R:List UInt8} {i:Nat} (hr:R.length=M.length) (hi:i<M.length) (he:M[i]=R[i]):M.take i++R.drop i=M.take (i+1)++R.drop (i+1):=by
 have hi2:i<R.length:=by omega
 rw [List.drop_eq_getElem_cons hi2,List.take_add_one,List.getElem?_eq_getElem hi,he,List.append_assoc]
 rfl
end Tg.Un
namespace Go.Proofs.YtcgiaiimbnoknaaGreatDoor
open Go.Lg Go.Tg
section
variable {H:LH} {s t:List UInt8}
theorem masked_cl {n:Nat} {gap:Bool} (hn:n≤1000):LC Tryz.prog EJ 364 [.int .i64 n,.bool gap] H=some (str (Tg.Un.maskL gap n),H):=by
 refine LC_pure rfl Tryz.func364 rfl (Nat.le_of_ble_eq_true rfl) (by decide) (by kernel_rfl) rfl ?_
 have q0:=eq_true (show(0:Int)≤(n:Int) by omega)
 have q1:=eq_true (show n≤1048576 by omega)
 have q2:=eq_true (show(n:Int)≤1048576 by omega)
 simp [q0,q1,q2]
 refine loop_ind (fun(i:Nat) fr' H'=>fr' 1=.bool gap∧fr' 5=sl H.n n n∧fr' 10=.int .i64 n∧fr' 11=.int .i64 i∧i≤n∧H'.n=H.n+1∧H'.get H.n=some ⟨u8c ((Tg.Un.maskL gap n).take i++(List.replicate n 0).drop i),5,true⟩∧ ∀l,l<H.n→H'.get l=H.get l) (fun i=>n-i) 0 ⟨by simp,by simp,by simp,by simp,Nat.zero_le _,by simp,?_,fun l hl=>?_⟩ ?_
 ·rw [get_new];simp [u8c]
 ·rw [get_new_ne (by omega)]
 rintro i fr' H' ⟨g1,g5,g10,g11,hi,hn',hg,ho⟩ ih
 by_cases hlt:i<n
 ·have q:=eq_true (show(i:Int)<(n:Int) by omega)
  have hw:IntKind.i64.wrap ((i:Int)+1)=((i+1:Nat):Int):=by rw [wrapI (by omega) (by omega)];omega
  have hl:i<(Tg.Un.maskL gap n).length:=by rw [Tg.Un.maskL_len];exact hlt
  have hr:(List.replicate n (0:UInt8)).length=(Tg.Un.maskL gap n).length:=by rw [Tg.Un.maskL_len];simp
  have lm:i<((Tg.Un.maskL gap n).take i++(List.replicate n (0:UInt8)).drop i).length:=by simp [Tg.Un.maskL_len];omega
  have s1:lst Tryz.prog 5 (ptr H.n i) (.int .u8 255) H'=some (undef,_):=lst_u8 (H:=H') hg lm 255
  have p1:=Tg.Un.part_id hr hl
  have p2:=Tg.Un.part_same hr hl
  rw [Tg.Un.maskL_at,List.getElem_replicate]at p2
  rw [Tg.Un.maskL_at]at p1
  unfold Tg.Un.mk1 at p1 p2
  have go:=fun(fr2:Fr) (H2:LH) (a1:fr2 1=.bool gap) (a5:fr2 5=sl H.n n n) (a10:fr2 10=.int .i64 n) (a11:fr2 11=.int .i64 ((i+1:Nat):Int)) (b1:H2.n=H'.n) (b2:H2.get H.n=some ⟨u8c ((Tg.Un.maskL gap n).take (i+1)++(List.replicate n 0).drop (i+1)),5,true⟩) (b3: ∀l,l<H.n→H2.get l=H'.get l)=>ih (i+1) fr2 H2 (by omega) ⟨a1,a5,a10,a11,by omega,by omega,b2,fun l hl=>by rw [b3 l hl,ho l hl]⟩
  clear ih
  cases gap with
  |false=>
   rw [if_neg (by simp)]at p1
   rw [p1]at s1
   generalize hB:(Tg.Un.maskL false n).take (i+1)++(List.replicate n (0:UInt8)).drop (i+1)=M' at*
   simp [g1,g5,g10,g11,q,s1]
   refine go _ _ ?_ ?_ ?_ ?_ rfl ?_ (fun l hl=>get_set_ne (by omega))
   ·simp [g1]
   ·simp [g5]
   ·simp [g10]
   ·simp [hw]
   ·rw [get_set]
  |true=>
   by_cases h4:i<4
   ·have e4:=eq_true (show(i:Int)<4 by omega)
    rw [if_neg (by omega)]at p1
    rw [p1]at s1
    generalize hB:(Tg.Un.maskL true n).take (i+1)++(List.replicate n (0:UInt8)).drop (i+1)=M' at*
    simp [g1,g5,g10,g11,q,s1,e4]
    refine go _ _ ?_ ?_ ?_ ?_ rfl ?_ (fun l hl=>get_set_ne (by omega))
    ·simp [g1]
    ·simp [g5]
    ·simp [g10]
    ·simp [hw]
    ·rw [get_set]
   ·have e4:=eq_false (show¬(i:Int)<4 by omega)
    by_cases h8:8≤i
    ·have e8:=eq_true (show(8:Int)≤(i:Int) by omega)
     rw [if_neg (by omega)]at p1
     rw [p1]at s1
     generalize hB:(Tg.Un.maskL true n).take (i+1)++(List.replicate n (0:UInt8)).drop (i+1)=M' at*
     simp [g1,g5,g10,g11,q,s1,e4,e8]
     refine go _ _ ?_ ?_ ?_ ?_ rfl ?_ (fun l hl=>get_set_ne (by omega))
     ·simp [g1]
     ·simp [g5]
     ·simp [g10]
     ·simp [hw]
     ·rw [get_set]
    ·have e8:=eq_false (show¬(8:Int)≤(i:Int) by omega)
     have p3:=p2 (by rw [if_pos ⟨rfl,by omega,by omega⟩])
     rw [p3]at hg
     simp [g1,g5,g10,g11,q,e4,e8]
     refine go _ _ ?_ ?_ ?_ ?_ rfl hg (fun l hl=>rfl)
     ·simp [g1]
     ·simp [g5]
     ·simp [g10]
     ·simp [hw]
 ·have q:=eq_false (show¬(i:Int)<(n:Int) by omega)
  obtain rfl:i=n:=by omega
  rw [List.take_of_length_le (by rw [Tg.Un.maskL_len];exact Nat.le_refl _),List.drop_of_length_le (by simp),List.append_nil]at hg
  have c1:=fun(c:Nat)=>lconv_u8 (c:=c) hg
  rw [Tg.Un.maskL_len]at c1
  simp [g1,g5,g10,g11,q,c1]
  exact⟨by omega,fun l hl=>ho l hl⟩
theorem plain_cl (hs:s.length≤1000):LC Tryz.prog EJ 358 [str s,str t] H=some (pv ⟨s,Tg.Un.maskL false s.length,[],t⟩,H):=by
 refine LC_pure rfl Tryz.func358 rfl (Nat.le_of_ble_eq_true rfl) (by decide) (by kernel_rfl) rfl ?_
 have h1:=fun H:LH=>masked_cl (H:=H) (n:=s.length) (gap:=false) hs
 simp [h1,lfill_p3]
theorem boxed_cl {h n:List UInt8} (h1:h.length≤100) (h2:n.length≤100):LC Tryz.prog EJ 357 [str h,str n,str t] H=some (pv ⟨h++ [0,0,0,0]++n,Tg.Un.maskL true (h.length+4+n.length),[],t⟩,H):=by
 refine LC_pure rfl Tryz.func357 rfl (Nat.le_of_ble_eq_true rfl) (by decide) (by kernel_rfl) rfl ?_
 have h3:=fun H:LH=>masked_cl (H:=H) (n:=(h++ [0,0,0,0]++n).length) (gap:=true) (by simp;omega)
 have q1:=eq_true (show h.length+4≤9223372036854775807 by omega)
 have q2:=eq_true (show(h++ [0,0,0,0]++n).length≤9223372036854775807 by simp;omega)
 have q3:=eq_true (show(h++ [(0:UInt8),0,0,0]).length+n.length≤9223372036854775807 by simp;omega)
 have q4:=eq_true (show h.length+4+n.length≤9223372036854775807 by omega)
 have q5:=eq_true (show h.length+(4+n.length)≤9223372036854775807 by omega)
 have q6:=eq_true (show h.length+(n.length+4)≤9223372036854775807 by omega)
 have e:(h++ [(0:UInt8),0,0,0]++n).length=h.length+4+n.length:=by simp;omega
 rw [←e]
 generalize hm:Tg.Un.maskL true (h++ [(0:UInt8),0,0,0]++n).length=M at*
 have h5: ∀H:LH,LC Tryz.prog EJ 364 [.int .i64 (h++ [(0:UInt8),0,0,0]++n).length,.bool true] H=some (str M,H):=h3
 simp at h5
 simp [h5,q1,q2,q3,q4,q5,q6,lfill_p3]
end
end Go.Proofs.YtcgiaiimbnoknaaGreatDoor
namespace Tg.Un
def med0:Pat:=⟨[70,79,82,77,0,0,0,0,65,73,70,70],[255,255,255,255,0,0,0,0,255,255,255,255],[],[97,117,100,105,111,47,97,105,102,102]⟩
def med1:Pat:=⟨[73,68,51],[255,255,255],[],[97,117,100,105,111,47,109,112,101,103]⟩
def med2:Pat:=⟨[79,103,103,83,0],[255,255,255,255,255],[],[97,112,112,108,105,99,97,116,105,111,110,47,111,103,103]⟩
def med3:Pat:=⟨[77,84,104,100,0,0,0,6],[255,255,255,255,255,255,255,255],[],[97,117,100,105,111,47,109,105,100,105]⟩
def med4:Pat:=⟨[82,73,70,70,0,0,0,0,65,86,73,32],[255,255,255,255,0,0,0,0,255,255,255,255],[],[118,105,100,101,111,47,97,118,105]⟩
def med5:Pat:=⟨[82,73,70,70,0,0,0,0,87,65,86,69],[255,255,255,255,0,0,0,0,255,255,255,255],[],[97,117,100,105,111,47,119,97,118,101]⟩
theorem mediaL_is:mediaL= [med0,med1,med2,med3,med4,med5]:=rfl
end Tg.Un
namespace Go.Proofs.YtcgiaiimbnoknaaGreatDoor
open Go.Lg Go.Tg
section
variable {H:LH} {s:List UInt8}
theorem pats_run {yc:YC} {I:LH→Prop} {D:List UInt8→LH→Prop} {Q:PQ}
  (hround: ∀p Hc,I Hc→ ∃j H1,R Tryz.prog EPu (.run none 1 yc.fn [.code yc.assign,.beginRound,.code yc.body] (setL yc.fr (yc.params.zip [pv p])) Hc none (.jump j) H1 none)∧((Tg.Un.hits p s=false∧j=none∧I H1)∨(Tg.Un.hits p s=true∧j=some .ret∧D p.t H1)))
  (hp1:yc.params.length=1) (hpN: ∀d∈yc.params,d<yc.fn.ntmps) (hI:I H) (hq1: ∀H1 v,Tg.Un.typeOf s Tg.Un.mediaL= []→I H1→Q (.ret v) H1 none) (hq2: ∀H1 v,D (Tg.Un.typeOf s Tg.Un.mediaL) H1→Q (.ret v) H1 (some .ret)):
  ∃gc,fnOk Tryz.prog EPu 356 Tryz.f356 gc [tok yc.l]∧PR Tryz.prog EPu (some yc) 0 Tryz.f356 [.code gc] (enter [tok yc.l]) H none Q:=by
 refine⟨_,⟨Tryz.func356,rfl,Nat.le_of_ble_eq_true rfl,by decide,by kernel_rfl⟩,?_⟩
 rw [Tg.Un.mediaL_is]at hq1 hq2
 have b0: ∀H:LH,LC Tryz.prog EJ 357 [str [70,79,82,77],str [65,73,70,70],str [97,117,100,105,111,47,97,105,102,102]] H=some (pv Tg.Un.med0,H):=fun H=>boxed_cl (by decide) (by decide)
 have b1: ∀H:LH,LC Tryz.prog EJ 358 [str [73,68,51],str [97,117,100,105,111,47,109,112,101,103]] H=some (pv Tg.Un.med1,H):=fun H=>plain_cl (by decide)
 have b2: ∀H:LH,LC Tryz.prog EJ 358 [str [79,103,103,83,0],str [97,112,112,108,105,99,97,116,105,111,110,47,111,103,103]] H=some (pv Tg.Un.med2,H):=fun H=>plain_cl (by decide)
 have b3: ∀H:LH,LC Tryz.prog EJ 358 [str [77,84,104,100,0,0,0,6],str [97,117,100,105,111,47,109,105,100,105]] H=some (pv Tg.Un.med3,H):=fun H=>plain_cl (by decide)
 have b4: ∀H:LH,LC Tryz.prog EJ 357 [str [82,73,70,70],str [65,86,73,32],str [118,105,100,101,111,47,97,118,105]] H=some (pv Tg.Un.med4,H):=fun H=>boxed_cl (by decide) (by decide)
 have b5: ∀H:LH,LC Tryz.prog EJ 357 [str [82,73,70,70],str [87,65,86,69],str [97,117,100,105,111,47,119,97,118,101]] H=some (pv Tg.Un.med5,H):=fun H=>boxed_cl (by decide) (by decide)
 simp [b0]
 obtain⟨j0,H0,r0,c0⟩:=hround Tg.Un.med0 H hI
 refine hand_yield (yc:=yc) (j:=j0) (H1:=H0) ?_ rfl ?_ ?_ hpN (by simpa using r0) rfl ?_
 ·first|rfl|(rw [lwant_x];simp)
 ·simp
 ·exact hp1.symm
 rcases c0 with⟨h0,rfl,I0⟩|⟨h0,rfl,D0⟩
 rotate_left
 ·simp
  have e:Tg.Un.typeOf s [Tg.Un.med0,Tg.Un.med1,Tg.Un.med2,Tg.Un.med3,Tg.Un.med4,Tg.Un.med5]=Tg.Un.med0.t:=by simp only [Tg.Un.typeOf,h0,Bool.false_eq_true,if_true,if_false]
  exact hq2 _ _ (by rw [e];exact D0)
 simp [b1]
 obtain⟨j1,H1,r1,c1⟩:=hround Tg.Un.med1 H0 I0
 refine hand_yield (yc:=yc) (j:=j1) (H1:=H1) ?_ rfl ?_ ?_ hpN (by simpa using r1) rfl ?_
 ·first|rfl|(rw [lwant_x];simp)
 ·simp
 ·exact hp1.symm
 rcases c1 with⟨h1,rfl,I1⟩|⟨h1,rfl,D1⟩
 rotate_left
 ·simp
  have e:Tg.Un.typeOf s [Tg.Un.med0,Tg.Un.med1,Tg.Un.med2,Tg.Un.med3,Tg.Un.med4,Tg.Un.med5]=Tg.Un.med1.t:=by simp only [Tg.Un.typeOf,h0,h1,Bool.false_eq_true,if_true,if_false]
  exact hq2 _ _ (by rw [e];exact D1)
 simp [b2]
 obtain⟨j2,H2,r2,c2⟩:=hround Tg.Un.med2 H1 I1
 refine hand_yield (yc:=yc) (j:=j2) (H1:=H2) ?_ rfl ?_ ?_ hpN (by simpa using r2) rfl ?_
 ·first|rfl|(rw [lwant_x];simp)
 ·simp
 ·exact hp1.symm
 rcases c2 with⟨h2,rfl,I2⟩|⟨h2,rfl,D2⟩
 rotate_left
 ·simp
  have e:Tg.Un.typeOf s [Tg.Un.med0,Tg.Un.med1,Tg.Un.med2,Tg.Un.med3,Tg.Un.med4,Tg.Un.med5]=Tg.Un.med2.t:=by simp only [Tg.Un.typeOf,h0,h1,h2,Bool.false_eq_true,if_true,if_false]
  exact hq2 _ _ (by rw [e];exact D2)
 simp [b3]
 obtain⟨j3,H3,r3,c3⟩:=hround Tg.Un.med3 H2 I2
 refine hand_yield (yc:=yc) (j:=j3) (H1:=H3) ?_ rfl ?_ ?_ hpN (by simpa using r3) rfl ?_
 ·first|rfl|(rw [lwant_x];simp)
 ·simp
 ·exact hp1.symm
 rcases c3 with⟨h3,rfl,I3⟩|⟨h3,rfl,D3⟩
 rotate_left
 ·simp
  have e:Tg.Un.typeOf s [Tg.Un.med0,Tg.Un.med1,Tg.Un.med2,Tg.Un.med3,Tg.Un.med4,Tg.Un.med5]=Tg.Un.med3.t:=by simp only [Tg.Un.typeOf,h0,h1,h2,h3,Bool.false_eq_true,if_true,if_false]
  exact hq2 _ _ (by rw [e];exact D3)
 simp [b4]
 obtain⟨j4,H4,r4,c4⟩:=hround Tg.Un.med4 H3 I3
 refine hand_yield (yc:=yc) (j:=j4) (H1:=H4) ?_ rfl ?_ ?_ hpN (by simpa using r4) rfl ?_
 ·first|rfl|(rw [lwant_x];simp)
 ·simp
 ·exact hp1.symm
 rcases c4 with⟨h4,rfl,I4⟩|⟨h4,rfl,D4⟩
 rotate_left
 ·simp
  have e:Tg.Un.typeOf s [Tg.Un.med0,Tg.Un.med1,Tg.Un.med2,Tg.Un.med3,Tg.Un.med4,Tg.Un.med5]=Tg.Un.med4.t:=by simp only [Tg.Un.typeOf,h0,h1,h2,h3,h4,Bool.false_eq_true,if_true,if_false]
  exact hq2 _ _ (by rw [e];exact D4)
 simp [b5]
 obtain⟨j5,H5,r5,c5⟩:=hround Tg.Un.med5 H4 I4
 refine hand_yield (yc:=yc) (j:=j5) (H1:=H5) ?_ rfl ?_ ?_ hpN (by simpa using r5) rfl ?_
 ·first|rfl|(rw [lwant_x];simp)
 ·simp
 ·exact hp1.symm
 rcases c5 with⟨h5,rfl,I5⟩|⟨h5,rfl,D5⟩
 rotate_left
 ·simp
  have e:Tg.Un.typeOf s [Tg.Un.med0,Tg.Un.med1,Tg.Un.med2,Tg.Un.med3,Tg.Un.med4,Tg.Un.med5]=Tg.Un.med5.t:=by simp only [Tg.Un.typeOf,h0,h1,h2,h3,h4,h5,Bool.false_eq_true,if_true,if_false]
  exact hq2 _ _ (by rw [e];exact D5)
 simp
 exact hq1 _ _ (by simp only [Tg.Un.typeOf,h0,h1,h2,h3,h4,h5,Bool.false_eq_true,if_false]) I5
theorem patterns_l:LC Tryz.prog EJ 345 [] H=some (.func (.func 356) #[] #[],H):=by
 refine LC_pure rfl Tryz.func345 rfl (Nat.le_of_ble_eq_true rfl) (by decide) (by kernel_rfl) rfl ?_
 simp
end
section
variable {H:LH} {s:List UInt8} {l:Nat}
theorem pr_again {P:Program} {E:PEnv} {Y:Option YC} {rd:Nat} {fn:Func} {k:List Item} {fr:Fr} {H:LH} {p:Option Code} {Q:PQ} {St:Type} (Rl:St→Fr→LH→Prop) (μ:St→Nat) (st:St) (h:Rl st fr H)
  (step: ∀st fr H,Rl st fr H→(∀st' fr' H',μ st'<μ st→Rl st' fr' H'→PR P E Y rd fn k fr' H' p Q)→PR P E Y rd fn k fr H p Q):PR P E Y rd fn k fr H p Q:=by
 have key: ∀m st fr H,μ st<m→Rl st fr H→PR P E Y rd fn k fr H p Q:=by
  intro m
  induction m with
  |zero=>intro st fr H hm;omega
  |succ m ih=>intro st fr H hm hR;exact step st fr H hR (fun st' fr' H' hlt hR'=>ih st' fr' H' (by omega) hR')
 exact key (μ st+1) st fr H (Nat.lt_succ_self _) h
theorem webm_r (hs:s.length≤1000000):R Tryz.prog EPu (.call 313 [str s] H (.ret (.bool (Tg.Un.webm s))) H):=by
 have hb:=fun H:LH=>wbegins_cl (H:=H) (s:=s)
 refine pcall_flat Tryz.func313 rfl (Nat.le_of_ble_eq_true rfl) (by decide) (by kernel_rfl) rfl ?_
 unfold Tg.Un.webm
 cases h:Tg.Un.pre s Tg.Un.mark with
 |false=>rw [h]at hb;simp [hb]
 |true=>
  rw [h]at hb
  obtain⟨x,hx⟩: ∃x,x=Tg.Un.webmAt s 38 4:=⟨_,rfl⟩
  rw [←hx]
  simp [hb,-pr_label]
  rw [pr_label]
  simp only [pr_seq]
  refine pr_again (St:=Nat×Nat) (fun st fr' H'=>fr' 0=str s∧fr' 3=.int .i64 st.1∧H'=H∧x=Tg.Un.webmAt s st.2 st.1∧38≤st.1+st.2) (fun st=>38-st.1) (4,38) ⟨by simp,by simp,rfl,hx,by decide⟩ ?_
  rintro⟨a,n⟩ fr' H' ⟨g0,g3,rfl,he,hf⟩ ih
  simp only at g3 he hf ih
  by_cases c1:s.length≤a∨38≤a
  ·have he:x=false:=by
    rw [he]
    cases n with
    |zero=>rfl
    |succ n=>unfold Tg.Un.webmAt;rw [if_pos c1]
   subst he
   by_cases c2:s.length≤a
   ·have q1:=eq_true (show(s.length:Int)≤(a:Int) by omega)
    simp [g0,g3,q1,c2,-pr_goto]
   ·have q1:=eq_false (show¬(s.length:Int)≤(a:Int) by omega)
    have q2:=eq_true (show(38:Int)≤(a:Int) by omega)
    simp [g0,g3,q1,q2,c2,-pr_goto]
  ·obtain⟨n,rfl⟩: ∃m,n=m+1:=⟨n-1,by omega⟩
   unfold Tg.Un.webmAt at he
   rw [if_neg c1]at he
   have q1:=eq_false (show¬(s.length:Int)≤(a:Int) by omega)
   have q2:=eq_false (show¬(38:Int)≤(a:Int) by omega)
   have q3:=eq_true (show(a:Int)≤(s.length:Int) by omega)
   have q4:=eq_true (show(0:Int)≤(a:Int) by omega)
   have hp:=Tg.Un.pre_eq (s.drop a) [66,130]
   have w1:IntKind.i64.wrap ((a:Int)+1)=((a+1:Nat):Int):=by rw [wrapI (by omega) (by omega)];omega
   cases hpre:Tg.Un.pre (s.drop a) [66,130]with
   |false=>
    rw [hpre]at hp he
    rw [if_neg (by simp)]at he
    simp [g0,g3,q1,q2,q3,q4,hp,-pr_goto]
    rw [pr_goto]
    simp only [gotoIn,findLabel,beq_self_eq_true,if_true,pgoto_some,pr_seq,pr_skip]
    refine ih (a+1,n) _ _ (by simp only;omega) ⟨?_,?_,rfl,he,by simp only;omega⟩
    ·simp [g0]
    ·simp [w1]
   |true=>
    rw [hpre]at hp he
    rw [if_pos rfl]at he
    have w2:IntKind.i64.wrap ((a:Int)+2)=((a+2:Nat):Int):=by rw [wrapI (by omega) (by omega)];omega
    by_cases c3:s.length≤a+2
    ·rw [if_pos c3]at he
     have q5:=eq_true (show(s.length:Int)≤((a+2:Nat):Int) by omega)
     generalize ((a+2:Nat):Int)=A2 at*
     simp [g0,g3,q1,q2,q3,q4,hp,w2,q5,he,-pr_goto]
    ·rw [if_neg c3]at he
     have hlt:a+2<s.length:=by omega
     have hat:at_ s ((a+2:Nat):Int)=s[a+2]:=at_in hlt
     have hgd:s.getD (a+2) 0=s[a+2]:=by rw [List.getD_eq_getElem?_getD,List.getElem?_eq_getElem hlt];rfl
     rw [hgd]at he
     have hW:=fun H:LH=>width_cl (H:=H) (c:=s[a+2])
     have hw8:Tg.Un.width s[a+2]≤8:=by
      unfold Tg.Un.width
      repeat (first|omega|split)
     generalize s[a+2]=c at*
     generalize Tg.Un.width c=w at*
     have q5:=eq_false (show¬(s.length:Int)≤((a+2:Nat):Int) by omega)
     have q6:=eq_true (show((a+2:Nat):Int)<(s.length:Int) by omega)
     have q7:=eq_true (show(0:Int)≤((a+2:Nat):Int) by omega)
     have w3:IntKind.i64.wrap (((a+2:Nat):Int)+(w:Int))=((a+2+w:Nat):Int):=by rw [wrapI (by omega) (by omega)];omega
     have w4:IntKind.i64.wrap ((s.length:Int)-4)=(s.length:Int)-4:=wrapI (by omega) (by omega)
     by_cases c4:s.length≤a+2+w+4
     ·rw [if_pos c4]at he
      have q8:=eq_true (show(s.length:Int)-4≤((a+2+w:Nat):Int) by omega)
      generalize ((a+2+w:Nat):Int)=A3 at*
      generalize ((a+2:Nat):Int)=A2 at*
      simp [g0,g3,q1,q2,q3,q4,hp,w2,q5,q6,q7,hat,hW,w3,w4,q8,he,-pr_goto]
     ·rw [if_neg c4]at he
      have q8:=eq_false (show¬(s.length:Int)-4≤((a+2+w:Nat):Int) by omega)
      have q9:=eq_true (show((a+2+w:Nat):Int)≤(s.length:Int) by omega)
      have q10:=eq_true (show(0:Int)≤((a+2+w:Nat):Int) by omega)
      have hd:s.drop (((a+2+w:Nat):Int)).toNat=s.drop (a+2+w):=by rw [Int.toNat_natCast]
      have hP:=fun H:LH=>pad_cl (H:=H) (s:=s.drop (a+2+w)) (by rw [List.length_drop];omega)
      have w5:IntKind.i64.wrap (((a+2+w:Nat):Int)+1)=((a+2+w+1:Nat):Int):=by rw [wrapI (by omega) (by omega)];omega
      cases hpd:Tg.Un.padded (s.drop (a+2+w))with
      |true=>
       rw [hpd]at hP he
       rw [if_pos rfl]at he
       generalize ((a+2+w:Nat):Int)=A3 at*
       generalize ((a+2:Nat):Int)=A2 at*
       simp [g0,g3,q1,q2,q3,q4,hp,w2,q5,q6,q7,hat,hW,w3,w4,q8,q9,q10,hd,hP,he,-pr_goto]
      |false=>
       rw [hpd]at hP he
       rw [if_neg (by simp)]at he
       generalize ((a+2+w:Nat):Int)=A3 at*
       generalize ((a+2:Nat):Int)=A2 at*
       simp [g0,g3,q1,q2,q3,q4,hp,w2,q5,q6,q7,hat,hW,w3,w4,q8,q9,q10,hd,hP,-pr_goto]
       rw [pr_goto]
       simp only [gotoIn,findLabel,beq_self_eq_true,if_true,pgoto_some,pr_seq,pr_skip]
       refine ih (a+2+w+1,n) _ _ (by simp only;omega) ⟨?_,?_,rfl,he,by simp only;omega⟩
       ·simp [g0]
       ·simp [w5]
end
end Go.Proofs.YtcgiaiimbnoknaaGreatDoor
namespace Tg.Un
theorem orS_eq: ∀l:List (List UInt8),orS l=or_ l
 | []=>rfl
 |s::l=>by unfold orS or_;rw [orS_eq l]
end Tg.Un
namespace Go.Proofs.YtcgiaiimbnoknaaGreatDoor
open Go.Lg Go.Tg
section
variable {H:LH} {s:List UInt8}
theorem mkind_r (hs:s.length≤1000000):R Tryz.prog EPu (.call 329 [str s] H (.ret (str (Tg.Un.typeOf s Tg.Un.mediaL))) H):=by
 have hp:=fun H:LH=>patterns_l (H:=H)
 refine pcall_flat Tryz.func329 rfl (Nat.le_of_ble_eq_true rfl) (by decide) (by kernel_rfl) rfl ?_
 simp [hp]
 refine pr_rangeE (g:=356) (gfn:=Tryz.f356) (caps:=#[]) ?_ ?_
 ·simp
 refine pats_run (s:=s) (I:=fun Hc=>Hc.get H.n=some ⟨[str s],9,true⟩∧Hc.get (H.n+1)=some ⟨[str []],9,true⟩∧H.n+2≤Hc.n∧ ∀k,k<H.n→Hc.get k=H.get k) (D:=fun t Hc=>Hc.get (H.n+1)=some ⟨[str t],9,true⟩∧H.n≤Hc.n∧ ∀k,k<H.n→Hc.get k=H.get k) ?_ rfl ?_ ?_ ?_ ?_
 ·rintro p Hc ⟨i1,i2,i3,i4⟩
  have hM:=fun H:LH=>Match_cl (H:=H) (s:=s) (p:=p) (by omega)
  have d1:(H.n=Hc.n)=False:=eq_false (by omega)
  have d2:(H.n+1=Hc.n)=False:=eq_false (by omega)
  refine round_of ?_
  simp [setL]
  refine pr_begin ?_
  cases hh:Tg.Un.hits p s with
  |false=>
   rw [hh]at hM
   simp [i1,i2,d1,d2,hM]
   exact⟨by omega,fun k hk=>by rw [get_new_ne (by omega)];exact i4 k hk⟩
  |true=>
   rw [hh]at hM
   simp [i1,i2,d1,d2,hM]
   exact⟨by omega,fun k hk=>by rw [get_set_ne (by omega),get_new_ne (by omega)];exact i4 k hk⟩
 ·intro d hd
  simp at hd
  subst hd
  exact of_decide_eq_true rfl
 ·refine⟨?_,?_,?_,fun k hk=>?_⟩
  ·show((H.new _).new _).get H.n=_
   rw [get_new_ne (by simp),get_new]
  ·show((H.new _).new _).get (H.n+1)=_
   rw [show H.n+1=(H.new ⟨[str s],9,true⟩).n from rfl,get_new]
  ·show H.n+2≤((H.new _).new _).n+1
   simp only [n_new];omega
  ·show((H.new _).new _).get k=_
   rw [get_new_ne (by simp only [n_new];omega),get_new_ne (by omega)]
 ·rintro H1 v e ⟨i1,i2,i3,i4⟩
  refine⟨⟨v,rfl⟩,?_⟩
  rw [e]
  simp [i2]
  exact⟨by omega,fun k hk=>i4 k hk⟩
 ·rintro H1 v ⟨i1,i2,i3⟩
  refine⟨⟨v,rfl⟩,?_⟩
  simp [i1]
  exact⟨i2,fun k hk=>i3 k hk⟩
theorem mtype_r (hs:s.length≤1000000):R Tryz.prog EPu (.call 310 [str s] H (.ret (str (Tg.Un.typeOf s Tg.Un.mediaL))) H):=by
 have h1:=mkind_r (H:=H) hs
 refine pcall_flat Tryz.func310 rfl (Nat.le_of_ble_eq_true rfl) (by decide) (by kernel_rfl) rfl ?_
 simp
 refine hand_call_ret (g:=329) (first:=#[]) (caps:=#[]) (H1:=H) rfl rfl rfl (by simp) (by simpa using h1) rfl ?_
 simp
theorem bsS {n:Nat} {ps:List (Nat×Value)} (h1:n=ps.length) (h2:n≤65536) (h3:denseB ps 0=true):lbuildSlice Tryz.prog 84 n ps H=some (sl H.n n n,H.new ⟨ps.map Prod.snd,9,true⟩):=lbs_dense (z:=str []) Tryz.underlying84 (by kernel_rfl) (by kernel_rfl) rfl rfl h1 h2 h3
theorem or_at {xs:List (List UInt8)} {n:Nat} (hn:n=xs.length) (hl:n≤1000):LC Tryz.prog EJ 309 [sl H.n n n] (H.new ⟨xs.map str,9,true⟩)=some (str (Tg.Un.orS xs),H.new ⟨xs.map str,9,true⟩):=by
 subst hn
 rw [Tg.Un.orS_eq]
 exact or_cl (SRow.of (k:=H.n) (c:=xs.length) (rest:= []) (by rw [get_new,List.append_nil]) (Nat.lt_succ_self _)) (by omega)
theorem film_r (hs:s.length≤1000000):R Tryz.prog EPu (.call 285 [str s] H (.ret (str (Tg.Un.film s))) H):=by
 have h1:=mtype_r (H:=H) hs
 have h2:=mp4_r (H:=H) hs
 have h3:=webm_r (H:=H) hs
 have h4:=fun H:LH=>mp3_cl (H:=H) (s:=s) (by omega)
 have h5:=fun(H:LH) (s:List UInt8) (b:Bool)=>named_cl (H:=H) (s:=s) (b:=b)
 have h6:=or_at (H:=H) (n:=4) (xs:= [Tg.Un.typeOf s Tg.Un.mediaL,if Tg.Un.mp4 s=true then [118,105,100,101,111,47,109,112,52]else [],if Tg.Un.webm s=true then [118,105,100,101,111,47,119,101,98,109]else [],if Tg.Un.mp3 s=true then [97,117,100,105,111,47,109,112,101,103]else []]) rfl (by decide)
 have e:Tg.Un.orS [Tg.Un.typeOf s Tg.Un.mediaL,if Tg.Un.mp4 s=true then [118,105,100,101,111,47,109,112,52]else [],if Tg.Un.webm s=true then [118,105,100,101,111,47,119,101,98,109]else [],if Tg.Un.mp3 s=true then [97,117,100,105,111,47,109,112,101,103]else []]=Tg.Un.film s:=rfl
 rw [e]at h6
 clear e
 generalize Tg.Un.film s=res at*
 generalize hx1:(if Tg.Un.mp4 s=true then [118,105,100,101,111,47,109,112,52]else([]:List UInt8))=x1 at*
 generalize hx2:(if Tg.Un.webm s=true then [118,105,100,101,111,47,119,101,98,109]else([]:List UInt8))=x2 at*
 generalize hx3:(if Tg.Un.mp3 s=true then [97,117,100,105,111,47,109,112,101,103]else([]:List UInt8))=x3 at*
 simp only [List.map_cons,List.map_nil]at h6
 refine pcall_flat Tryz.func285 rfl (Nat.le_of_ble_eq_true rfl) (by decide) (by kernel_rfl) rfl ?_
 simp
 refine hand_call_ret (g:=310) (first:=#[]) (caps:=#[]) (H1:=H) rfl rfl rfl (by simp) (by simpa using h1) rfl ?_
 simp
 refine hand_call_ret (g:=312) (first:=#[]) (caps:=#[]) (H1:=H) rfl rfl rfl (by simp) (by simpa using h2) rfl ?_
 simp [h5,hx1]
 refine hand_call_ret (g:=313) (first:=#[]) (caps:=#[]) (H1:=H) rfl rfl rfl (by simp) (by simpa using h3) rfl ?_
 simp [h5,hx2,h4,hx3,bsS,denseB,h6]
theorem Media_r (hs:s.length≤1000000):R Tryz.prog EPu (.call 257 [str s] H (.ret (str (Tg.Un.film s))) H):=by
 have h1:=film_r (H:=H) hs
 refine pcall_flat Tryz.func257 rfl (Nat.le_of_ble_eq_true rfl) (by decide) (by kernel_rfl) rfl ?_
 simp
 refine hand_call_ret (g:=285) (first:=#[]) (caps:=#[]) (H1:=H) rfl rfl rfl (by simp) (by simpa using h1) rfl ?_
 simp
end
section
variable {H:LH} {s t l:List UInt8}
end
end Go.Proofs.YtcgiaiimbnoknaaGreatDoor
namespace Tg.Sn
def plainT:List UInt8:= [116,101,120,116,47,112,108,97,105,110]
def setT:List UInt8:= [116,101,120,116,47,112,108,97,105,110,59,32,99,104,97,114,115,101,116,61]
def setsL:List (List UInt8):= [[73,83,79,45,56,56,53,57,45,49],[105,115,111,45,56,56,53,57,45,49],[85,84,70,45,56]]
def bug (s:List UInt8):Bool:=decide (s=plainT)||setsL.any fun t=>decide (s=setT++t)
end Tg.Sn
namespace Go.Proofs.YtcgiaiimbnoknaaGreatDoor
open Go.Lg Go.Tg
section
variable {H:LH} {s:List UInt8}
theorem bug_cl:LC Tryz.prog EJ 106 [str s] H=some (.bool (Tg.Sn.bug s),H):=by
 refine LC_pure rfl Tryz.func106 rfl (Nat.le_of_ble_eq_true rfl) (by decide) (by kernel_rfl) rfl ?_
 unfold Tg.Sn.bug
 by_cases h0:s= [116,101,120,116,47,112,108,97,105,110]
 ·have e:decide (s=Tg.Sn.plainT)=true:=decide_eq_true h0
  rw [e,Bool.true_or]
  simp [h0]
 ·have e:decide (s=Tg.Sn.plainT)=false:=decide_eq_false h0
  rw [e,Bool.false_or]
  obtain⟨x,hx⟩: ∃x,x=Tg.Sn.setsL.any fun t=>decide (s=Tg.Sn.setT++t):=⟨_,rfl⟩
  rw [←hx]
  have hr:SRow (H.new ⟨Tg.Sn.setsL.map str,9,true⟩) (sl H.n 3 3) Tg.Sn.setsL:=SRow.of (k:=H.n) (c:=3) (rest:= []) (by rw [get_new,List.append_nil]) (Nat.lt_succ_self _)
  have hl: ∀x∈Tg.Sn.setsL,x.length≤100:=by decide
  have hm:Tg.Sn.setsL.map str= [str [73,83,79,45,56,56,53,57,45,49],str [105,115,111,45,56,56,53,57,45,49],str [85,84,70,45,56]]:=rfl
  rw [hm]at hr
  simp [h0,bsS,denseB]
  refine loop_ind (fun(i:Nat) fr' H'=>fr' 0=str s∧fr' 7=sl H.n 3 3∧fr' 8=.int .i64 3∧fr' 9=.int .i64 i∧i≤3∧x=((Tg.Sn.setsL.drop i).any fun t=>decide (s=Tg.Sn.setT++t))∧H'=H.new ⟨[str [73,83,79,45,56,56,53,57,45,49],str [105,115,111,45,56,56,53,57,45,49],str [85,84,70,45,56]],9,true⟩) (fun i=>3-i) 0 ⟨by simp,by simp,by simp,by simp,Nat.zero_le _,hx,rfl⟩ ?_
  rintro i fr' H' ⟨g0,g7,g8,g9,hi,hc,rfl⟩ ih
  by_cases hlt:i<3
  ·have q:=eq_true (show(i:Int)<3 by omega)
   have hw:IntKind.i64.wrap ((i:Int)+1)=((i+1:Nat):Int):=by rw [wrapI (by omega) (by omega)];omega
   have hlt2:i<Tg.Sn.setsL.length:=hlt
   obtain⟨k2,o,e1,e2,e3⟩:=hr.at hlt2
   have e4:=e3 _ rfl
   have hal:=hl Tg.Sn.setsL[i] (List.getElem_mem hlt2)
   rw [List.drop_eq_getElem_cons hlt2,List.any_cons]at hc
   generalize Tg.Sn.setsL[i]=a at*
   have ha:Tg.Sn.setT++a= [116,101,120,116,47,112,108,97,105,110,59,32,99,104,97,114,115,101,116,61]++a:=rfl
   rw [ha]at hc
   have q1:=eq_true (show 20+a.length≤9223372036854775807 by omega)
   by_cases c1:s= [116,101,120,116,47,112,108,97,105,110,59,32,99,104,97,114,115,101,116,61]++a
   ·have hc:x=true:=by rw [hc,decide_eq_true c1];rfl
    have c2:=eq_true c1
    simp at c2
    clear ih
    subst hc
    simp [g0,g7,g8,g9,q,e1,e4,q1,c2]
   ·have hc:x=(Tg.Sn.setsL.drop (i+1)).any fun t=>decide (s=Tg.Sn.setT++t):=by rw [hc,decide_eq_false c1];rfl
    have c2:=eq_false c1
    simp at c2
    simp [g0,g7,g8,g9,q,e1,e4,q1,c2]
    refine ih (i+1) _ _ (by omega) ⟨?_,?_,?_,?_,by omega,hc,rfl⟩
    all_goals simp [g0,g7,g8,hw]
  ·have q:=eq_false (show¬(i:Int)<3 by omega)
   have hc:x=false:=by rw [hc,List.drop_of_length_le (by show 3≤i;omega)];rfl
   subst hc
   simp [g0,g7,g8,g9,q]
end
abbrev mv (a b:List UInt8):Value:=.agg #[str a,str b,.slice none 0 0]
section
variable {H:LH} {s t:List UInt8}
theorem contS_cl {v:Value} {xs:List (List UInt8)} {x:List UInt8} (hr:SRow H v xs) (hl:xs.length≤1000):LC Tryz.prog EJ 148 [v,str x] H=some (.bool (decide (x∈xs)),H):=by
 have hix: ∃i:Int,LC Tryz.prog EJ 190 [v,str x] H=some (.int .i64 i,H)∧(0≤i↔x∈xs):=by
  obtain⟨i,hi⟩: ∃i:Int,i=Tg.Un.idx (fun y=>decide (x=y)) xs 0:=⟨_,rfl⟩
  refine⟨i,?_,?_⟩
  ·refine LC_pure rfl Tryz.func190 rfl (Nat.le_of_ble_eq_true rfl) (by decide) (by kernel_rfl) rfl ?_
   simp [hr.len]
   refine loop_ind (fun(j:Nat) fr' H'=>fr' 0=v∧fr' 1=str x∧fr' 7=.int .i64 xs.length∧fr' 8=.int .i64 j∧j≤xs.length∧i=Tg.Un.idx (fun y=>decide (x=y)) (xs.drop j) j∧H'=H) (fun j=>xs.length-j) 0 ⟨by simp,by simp,by simp,by simp,Nat.zero_le _,hi,rfl⟩ ?_
   rintro j fr' H' ⟨h0,h1,h7,h8,hj,hc,rfl⟩ ih
   by_cases hlt:j<xs.length
   ·have q:=eq_true (show(j:Int)<(xs.length:Int) by omega)
    have hw:IntKind.i64.wrap ((j:Int)+1)=((j+1:Nat):Int):=by rw [wrapI (by omega) (by omega)];omega
    obtain⟨k2,o,g1,g2,g3⟩:=hr.at hlt
    have g4:=g3 H' rfl
    rw [List.drop_eq_getElem_cons hlt]at hc
    generalize xs[j]=a at*
    unfold Tg.Un.idx at hc
    by_cases hf:x=a
    ·rw [if_pos (decide_eq_true hf)]at hc
     subst hc
     simp [h0,h1,h7,h8,q,g1,g4,hf]
    ·rw [if_neg (by simp [hf])]at hc
     simp [h0,h1,h7,h8,q,g1,g4,hf]
     refine ih (j+1) _ _ (by omega) ⟨?_,?_,?_,?_,by omega,hc,rfl⟩
     all_goals simp [h0,h1,h7,hw]
   ·have q:=eq_false (show¬(j:Int)<(xs.length:Int) by omega)
    rw [List.drop_of_length_le (by omega)]at hc
    have hc:i= -1:=hc
    subst hc
    simp [h0,h1,h7,h8,q]
  ·have:=Tg.Un.idx_any (fun y=>decide (x=y)) xs 0
   rw [←hi]at this
   constructor
   ·intro h
    rw [decide_eq_true h]at this
    obtain⟨y,hy,e⟩:=List.any_eq_true.1 this.symm
    rw [of_decide_eq_true e];exact hy
   ·intro h
    have h2:xs.any (fun y=>decide (x=y))=true:=List.any_eq_true.2 ⟨x,h,by simp⟩
    rw [h2]at this
    exact of_decide_eq_true this
 obtain⟨i,h1,h2⟩:=hix
 refine LC_pure rfl Tryz.func148 rfl (Nat.le_of_ble_eq_true rfl) (by decide) (by kernel_rfl) rfl ?_
 by_cases h:x∈xs
 ·have q:=eq_true (h2.2 h)
  simp [h1,q,h]
 ·have q:=eq_false (fun e=>h (h2.1 e))
  simp [h1,q,h]
end
section
variable {H:LH} {u:List UInt8}
end
def Tab (H:LH):Prop:=0<H.ng∧Lib.TabIs Tryz.prog H.base "strings.asciiSpace" .u8 Lib.asciiSpaceTab
theorem tab_at {P:Program} {H:LH} {ι:Ren} {w:World} (hrel:Rel P H ι w) (h:Tab H):Lib.TabIs Tryz.prog w "strings.asciiSpace" .u8 Lib.asciiSpaceTab:=by
 have h2:=h.2
 unfold Lib.TabIs World.var? at h2⊢
 rw [show Tryz.prog.globalNamed "strings.asciiSpace" =some 0 by kernel_rfl]at h2⊢
 simp only [Option.bind_some]at h2⊢
 rw [pin_block hrel h.1]
 exact h2
open Classical in
noncomputable def specFields:Lg.Spec:=fun args H=>match args with
 | [.string s]=>if s.size<4294967281∧(∀(j:Nat) b,s.data.toList[j]?=some b→b.toNat<128)∧Tab H∧(Lib.fields s.data.toList).length≤maxLen then
   some (sl H.n (Lib.fields s.data.toList).length (Lib.fields s.data.toList).length,H.new ⟨(Lib.fields s.data.toList).map (fun l=>.string ⟨l.toArray⟩),9,true⟩)
  else none
 |_=>none
theorem ok_Fields:SpecOk Tryz.prog 149 specFields:=by
 intro args H v H' h
 refine .inl ⟨⟨_,Tryz.func149,rfl,by decide⟩,?_⟩
 unfold specFields at h
 split at h
 ·rename_i s
  split at h
  ·rename_i hc
   obtain⟨h1,h2,h3,h4⟩:=hc
   simp only [Option.some.injEq,Prod.mk.injEq]at h
   obtain⟨rfl,rfl⟩:=h
   exact callOk_row (flat1 rfl) (fun x hx=>by
    obtain⟨l,_,rfl⟩:=List.mem_map.1 hx
    rfl) (by kernel_rfl) (by simp) h4 (fun ι w hrel=>Tryz.strings_Fields s w h1 h2 (tab_at hrel h3))
  ·cases h
 ·cases h
end Go.Proofs.YtcgiaiimbnoknaaGreatDoor
namespace Tg.Sn
open Tg.Un
def marksL:List (List UInt8):= [[239,187,191],[254,255],[255,254]]
def markOf (s:List UInt8):List (List UInt8)→Int
 | []=>0
 |p::l=>if pre s p=true then p.length else markOf s l
def mark (s:List UInt8):Int:=markOf s marksL
end Tg.Sn
namespace Go.Proofs.YtcgiaiimbnoknaaGreatDoor
open Go.Lg Go.Tg
section
variable {H:LH} {s t:List UInt8}
end
section
variable {H:LH} {v w:Value}
end
end Go.Proofs.YtcgiaiimbnoknaaGreatDoor
namespace Tg.Un
end Tg.Un
namespace Go.Proofs.YtcgiaiimbnoknaaGreatDoor
open Go.Lg Go.Tg
section
variable {H:LH} {s:List UInt8}
end
end Go.Proofs.YtcgiaiimbnoknaaGreatDoor
namespace Go.Lg
open Go.Tg Go.RowKit
structure Kp (p:Nat) (v:Value) (H:LH) (v':Value) (H':LH):Prop where
 n:H.n≤H'.n
 keep: ∀k,k<H.n→k≠p→offRow v k→H'.get k=H.get k
 off: ∀k,k<H.n→k≠p→offRow v k→offRow v' k
 base:H'.base=H.base
 ng:H'.ng=H.ng
section
variable {p:Nat} {v v' v1:Value} {H H' H1:LH} {B:LB}
theorem Kp.refl:Kp p v H v H:=⟨Nat.le_refl _,fun _ _ _ _=>rfl,fun _ _ _ h=>h,rfl,rfl⟩
theorem Kp.trans (h:Kp p v H v1 H1) (k:Kp p v1 H1 v' H'):Kp p v H v' H':=
 ⟨Nat.le_trans h.n k.n,fun l hl hp ho=>(k.keep l (Nat.lt_of_lt_of_le hl h.n) hp (h.off l hl hp ho)).trans (h.keep l hl hp ho),
  fun l hl hp ho=>k.off l (Nat.lt_of_lt_of_le hl h.n) hp (h.off l hl hp ho),k.base.trans h.base,k.ng.trans h.ng⟩
theorem Kp.set (ho: ∀k,offRow v k→offRow v' k):Kp p v H v' (H.set p B):=⟨Nat.le_refl _,fun _ _ hp _=>get_set_ne hp,fun k _ _ h=>ho k h,rfl,rfl⟩
theorem Kp.new:Kp p v H v (H.new B):=⟨Nat.le_succ _,fun _ hl _ _=>get_new_ne (by omega),fun _ _ _ h=>h,rfl,rfl⟩
theorem Kp.le (h:Kp p v H1 v' H') (hn:H.n≤H1.n) (hp:H.n≤p) (hv: ∀k,k<H.n→offRow v k) (hg: ∀k,k<H.n→H1.get k=H.get k):H.le H':=
 ⟨Nat.le_trans hn h.n,fun l hl=>(h.keep l (by omega) (by omega) (hv l hl)).trans (hg l hl)⟩
end
end Go.Lg
namespace Go.Proofs.YtcgiaiimbnoknaaGreatDoor
open Go.Lg Go.Tg
structure Bld (N:Nat) (H:LH) (b:Nat) (l:List UInt8) (v:Value):Prop where
 get: ∃p,H.get b=some ⟨[p,v],207,true⟩∧(p=.pointer none∨p=ptr b 0)
 row:RowN N H 5 1 v l.length (l.map bv)
 full:Full v
 off:offRow v b
 lt:b<H.n
 N:N≤H.n
 nil:l= []→v=.slice none 0 0
section
variable {H:LH} {N b:Nat} {l s:List UInt8} {v:Value} {c:UInt8}
theorem copy_l (h:Bld N H b l v):LC Tryz.prog EJ 269 [ptr b 0] H=some (.tuple #[],H.set b ⟨[ptr b 0,v],207,true⟩)∨(H.get b=some ⟨[ptr b 0,v],207,true⟩∧LC Tryz.prog EJ 269 [ptr b 0] H=some (.tuple #[],H)):=by
 obtain⟨p,hg,hp⟩:=h.get
 rcases hp with rfl|rfl
 ·left
  refine LC_ext (s:=specCopy) rfl ?_
  unfold specCopy
  simp only [hg]
  rw [if_pos trivial]
 ·right
  refine⟨hg,LC_ext (s:=specCopy) rfl ?_⟩
  unfold specCopy
  simp only [hg]
  rw [if_pos trivial]
theorem copy_ex (h:Bld N H b l v): ∃H1,LC Tryz.prog EJ 269 [ptr b 0] H=some (.tuple #[],H1)∧H1.get b=some ⟨[ptr b 0,v],207,true⟩∧H1.n=H.n∧(∀k,k≠b→H1.get k=H.get k)∧H1.base=H.base∧H1.ng=H.ng:=by
 rcases copy_l h with e|⟨hg,e⟩
 ·exact⟨_,e,by simp,by simp,fun k hk=>get_set_ne hk,rfl,rfl⟩
 ·exact⟨_,e,hg,rfl,fun _ _=>rfl,rfl,rfl⟩
theorem row_other {H1:LH} {v:Value} {n:Nat} {xs:List Value} (h:RowN N H 5 1 v n xs) (ho:offRow v b) (hn:H1.n=H.n) (hk: ∀k,k≠b→H1.get k=H.get k):RowN N H1 5 1 v n xs:=by
 refine⟨h.1,?_⟩
 rcases h.2 with h2|⟨k,c,rest,rfl,h1,h2,h3,h4,h5⟩
 ·exact .inl h2
 ·refine .inr ⟨k,c,rest,rfl,h1,by omega,?_,h4,h5⟩
  rw [hk k (fun e=>ho n c (by rw [e]))];exact h3
theorem bv_cells (l:List UInt8):(l.map bv).all cellB=true:=by simp [bv]
theorem bld_trunc {H3:LH} {v' u:Value} {l':List UInt8} (h:Bld N H b l v) (h3:Bld N H3 b l' v') (hk:Kp b v H v' H3): ∃H4,trunc H (u,H3)=(u,H4)∧Bld N H4 b l' v'∧Kp b v H v' H4:=by
 rcases trunc_or u H H3 with e|⟨e,_,hle⟩
 ·exact⟨H3,e,h3,hk⟩
 ·refine⟨H,e,?_⟩
  obtain⟨p,hg,hp⟩:=h.get
  obtain⟨p',hg',hp'⟩:=h3.get
  rw [hle.2 b h.lt,hg]at hg'
  injection hg' with hg'
  injection hg' with hg'
  simp only [List.cons.injEq,and_true]at hg'
  obtain⟨rfl,rfl⟩:=hg'
  refine⟨⟨⟨p,hg,hp⟩,⟨h3.row.1,?_⟩,h.full,h.off,h.lt,h.N,h3.nil⟩,Kp.refl⟩
  rcases h3.row.2 with h2|⟨k,c,rest,rfl,g1,g2,g3,g4,g5⟩
  ·exact .inl h2
  ·have hkn:k<H.n:=by
    rcases h.row.2 with⟨h5,_⟩|⟨k',c',rest',h5,_,h6,_⟩
    ·cases h5
    ·injection h5 with h5;injection h5 with h5;injection h5 with h5;omega
   exact .inr ⟨k,c,rest,rfl,g1,hkn,by rw [←hle.2 k hkn];exact g3,g4,g5⟩
theorem wstr_ex (h:Bld N H b l v) (hlen:l.length+s.length≤maxElems):
  ∃v' H',LC Tryz.prog EJ 232 [ptr b 0,str s] H=some (.tuple #[.int .i64 s.length,.nilIface],H')∧Bld N H' b (l++s) v'∧Kp b v H v' H':=by
 obtain⟨H1,hc,hg1,hn1,hk1,hb1,hng1⟩:=copy_ex h
 have hrow1:=row_other h.row h.off hn1 hk1
 obtain⟨v',H2,ha,hr2,hkept,hf⟩:=hrow1.app (t:=106) (new:=s.map bv) (m:=s.length) Tryz.underlying106 (by kernel_rfl) (bv_cells s) (by simp) hlen (by rw [hn1];exact h.N) (.inr h.full)
 have hblt:b<H1.n:=by rw [hn1];exact h.lt
 have hg2:H2.get b=some ⟨[ptr b 0,v],207,true⟩:=by rw [hkept.get b hblt h.off];exact hg1
 have hap:lbuiltin Tryz.prog .append [106,9] [v,str s] H1=some (v',H2):=by
  rw [lbuiltin_appends (e:=5) (by decide) Tryz.underlying106 Tryz.underlying9 (by kernel_rfl) (by kernel_rfl) (by kernel_rfl)]
  exact ha
 have hcell:cellB v'=true:=hr2.cell
 have hoff':=hkept.off b hblt h.off
 obtain⟨r,hr,h1,h2⟩:=LC_runs (P:=Tryz.prog) (E:=EJ) (f:=232) rfl Tryz.func232 rfl (Nat.le_of_ble_eq_true rfl) (by decide) (by kernel_rfl) (H:=H) (args:= [ptr b 0,str s]) (Q:=fun r=>r.1=.tuple #[.int .i64 s.length,.nilIface]∧r.2=H2.set b ⟨[ptr b 0,v'],207,true⟩) (by
  simp [hc,hg1,hap,hg2,hcell])
 obtain⟨u,H3⟩:=r
 simp only at h1 h2
 subst h1 h2
 have hset:Bld N (H2.set b ⟨[ptr b 0,v'],207,true⟩) b (l++s) v':=by
  refine⟨⟨_,get_set,.inr rfl⟩,?_,hf h.full,hoff',Nat.lt_of_lt_of_le hblt hkept.le,?_,?_⟩
  ·have:=row_other (b:=b) (H1:=H2.set b ⟨[ptr b 0,v'],207,true⟩) hr2 hoff' rfl (fun k hk=>get_set_ne hk)
   rw [List.length_append,List.map_append];exact this
  ·exact Nat.le_trans h.N (by rw [←hn1];exact hkept.le)
  ·intro e
   obtain⟨e1,e2⟩:=List.append_eq_nil_iff.1 e
   have hv:=h.nil e1
   subst hv e2
   rw [List.map_nil,List.length_nil,lapp_nil0 (s:=1) Tryz.underlying106 (by kernel_rfl)]at ha
   simp only [Option.some.injEq,Prod.mk.injEq]at ha
   exact ha.1.symm
 have hkp:Kp b v H v' (H2.set b ⟨[ptr b 0,v'],207,true⟩):=by
  refine⟨by rw [←hn1];exact hkept.le,fun k hk hkb ho=>?_,fun k hk hkb ho=>hkept.off k (by omega) ho,by simp [hkept.base,hb1],by simp [hkept.ng,hng1]⟩
  rw [get_set_ne hkb,hkept.get k (by omega) ho,hk1 k hkb]
 obtain⟨H4,e1,e2,e3⟩:=bld_trunc h hset hkp
 exact⟨_,H4,by rw [hr,e1],e2,e3⟩
theorem wbyte_ex (h:Bld N H b l v) (hlen:l.length+1≤maxElems):
  ∃v' H',LC Tryz.prog EJ 270 [ptr b 0,.int .u8 c.toNat] H=some (.nilIface,H')∧Bld N H' b (l++ [c]) v'∧Kp b v H v' H':=by
 obtain⟨H1,hc,hg1,hn1,hk1,hb1,hng1⟩:=copy_ex h
 have hrow1:=row_other h.row h.off hn1 hk1
 have hblt:b<H1.n:=by rw [hn1];exact h.lt
 have hrow2:RowN N (H1.new ⟨[.int .u8 c.toNat],5,true⟩) 5 1 v l.length (l.map bv):=hrow1.keep (Nat.le_succ _) (fun k _ _ hk=>get_new_ne (by omega))
 obtain⟨v',H2,ha,hr2,hkept,hf⟩:=hrow2.app (t:=106) (new:= [c].map bv) (m:=1) Tryz.underlying106 (by kernel_rfl) (bv_cells [c]) (by simp) hlen (by rw [n_new,hn1];have:=h.N;omega) (.inr h.full)
 have hg2:H2.get b=some ⟨[ptr b 0,v],207,true⟩:=by rw [hkept.get b (by rw [n_new];omega) h.off,get_new_ne (by omega)];exact hg1
 simp only [List.map_cons,List.map_nil,bv]at ha
 have hcell:cellB v'=true:=hr2.cell
 have hoff':=hkept.off b (by rw [n_new];omega) h.off
 obtain⟨r,hr,h1,h2⟩:=LC_runs (P:=Tryz.prog) (E:=EJ) (f:=270) rfl Tryz.func270 rfl (Nat.le_of_ble_eq_true rfl) (by decide) (by kernel_rfl) (H:=H) (args:= [ptr b 0,.int .u8 c.toNat]) (Q:=fun r=>r.1=.nilIface∧r.2=H2.set b ⟨[ptr b 0,v'],207,true⟩) (by
  have hbn:b≠H1.n:=by omega
  simp [hc,hg1,ha,hg2,hcell,hbn])
 obtain⟨u,H3⟩:=r
 simp only at h1 h2
 subst h1 h2
 have hle2:H1.n+1≤H2.n:=hkept.le
 have hset:Bld N (H2.set b ⟨[ptr b 0,v'],207,true⟩) b (l++ [c]) v':=by
  refine⟨⟨_,get_set,.inr rfl⟩,?_,hf h.full,hoff',by rw [n_set];omega,?_,fun e=>by simp at e⟩
  ·have:=row_other (b:=b) (H1:=H2.set b ⟨[ptr b 0,v'],207,true⟩) hr2 hoff' rfl (fun k hk=>get_set_ne hk)
   rw [List.length_append,List.map_append];exact this
  ·have:=h.N;rw [n_set];omega
 have hkp:Kp b v H v' (H2.set b ⟨[ptr b 0,v'],207,true⟩):=by
  refine⟨by rw [n_set];omega,fun k hk hkb ho=>?_,fun k hk hkb ho=>hkept.off k (by rw [n_new];omega) ho,by simp [hkept.base,hb1],by simp [hkept.ng,hng1]⟩
  rw [get_set_ne hkb,hkept.get k (by rw [n_new];omega) ho,get_new_ne (by omega),hk1 k hkb]
 obtain⟨H4,e1,e2,e3⟩:=bld_trunc h hset hkp
 exact⟨_,H4,by rw [hr,e1],e2,e3⟩
end
end Go.Proofs.YtcgiaiimbnoknaaGreatDoor
namespace Tg.Mi
def until_ (stops:List UInt8):List UInt8→Nat
 | []=>0
 |b::r=>if Go.Lib.indexByte stops b<0 then until_ stops r+1 else 0
theorem until_le (stops:List UInt8): ∀s:List UInt8,until_ stops s≤s.length
 | []=>by simp [until_]
 |b::r=>by
  have:=until_le stops r
  unfold until_
  split
  ·simp;omega
  ·omega
def while_ (f:UInt8→Bool):List UInt8→Nat
 | []=>0
 |b::r=>if f b=true then while_ f r+1 else 0
theorem while_le (f:UInt8→Bool): ∀s:List UInt8,while_ f s≤s.length
 | []=>by simp [while_]
 |b::r=>by
  have:=while_le f r
  unfold while_
  split
  ·simp;omega
  ·omega
end Tg.Mi
namespace Go.Proofs.YtcgiaiimbnoknaaGreatDoor.Mi
open Go.Lg Go.Tg
abbrev cu (s:List UInt8) (i:Nat):LB:=⟨[str s,.int .i64 i],194,true⟩
section
variable {H H':LH} {s t:List UInt8} {l i n:Nat}
theorem wrapI {x:Int} (h1: -9223372036854775808≤x) (h2:x≤9223372036854775807):IntKind.i64.wrap x=x:=wrap64_in h1 h2
theorem at_in {s:List UInt8} {i:Nat} (h:i<s.length):at_ s (i:Int)=s[i]:=by
 unfold at_
 rw [show((i:Nat):Int).toNat=i by omega,List.getD_eq_getElem?_getD,List.getElem?_eq_getElem h];rfl
theorem trunc_no {v:Value} (h:flatB v=false):trunc H (v,H')=(v,H'):=by
 rcases trunc_or v H H' with e|⟨_,e,_⟩
 ·exact e
 ·rw [h]at e;cases e
theorem cset {v:Value} {f:FuncId} {args:List Value} (hk:H.get l=some (cu s i)) (hl:l<H.n) {j:Nat} {x:Int} (hx:x=(j:Int)) (h: ∃r,LC Tryz.prog EJ f args H=some (Lg.trunc H r)∧r=(v,H.set l ⟨[str s,.int .i64 x],194,true⟩)):LC Tryz.prog EJ f args H=some (v,H.set l (cu s j)):=by
 obtain⟨r,h,rfl⟩:=h
 subst hx
 rw [h,trunc_set hk hl]
theorem cur_fill:lfill Tryz.prog 194 [str [],.int .i64 0] [(0,str s)]=some [str s,.int .i64 0]:=by
 rw [lfill_cell (o:=0) (n:=1) (g:=false) (by kernel_rfl) rfl rfl (by decide)]
 exact lfill_nil (by kernel_rfl)
theorem cnew_k:LC Tryz.prog EJ 161 [str s] H=some (ptr H.n 0,H.new (cu s 0)):=by
 obtain⟨r,h,e⟩:=LC_runs (P:=Tryz.prog) (E:=EJ) (f:=161) rfl Tryz.func161 rfl (Nat.le_of_ble_eq_true rfl) (by decide) (by kernel_rfl) (H:=H) (args:= [str s]) (Q:=fun r=>r=(ptr H.n 0,H.new (cu s 0))) (by simp [cur_fill];rfl)
 rw [h,e,trunc_no (by simp [flatB,flat1B,atomB])]
theorem crest_k (hk:H.get l=some (cu s i)) (hi:i≤s.length):LC Tryz.prog EJ 242 [ptr l 0] H=some (str (s.drop i),H):=by
 refine LC_pure rfl Tryz.func242 rfl (Nat.le_of_ble_eq_true rfl) (by decide) (by kernel_rfl) rfl ?_
 have q:=eq_true (show(i:Int)≤(s.length:Int) by omega)
 simp [hk,q]
theorem crun_k (hk:H.get l=some (cu s i)) (hl:l<H.n) (hi:i+n≤s.length) (hs:s.length≤1000000):LC Tryz.prog EJ 252 [ptr l 0,.int .i64 n] H=some (str ((s.drop i).take n),H.set l (cu s (i+n))):=by
 refine cset (x:=(i:Int)+(n:Int)) hk hl rfl (LC_runs (P:=Tryz.prog) (E:=EJ) (f:=252) rfl Tryz.func252 rfl (Nat.le_of_ble_eq_true rfl) (by decide) (by kernel_rfl) ?_)
 have h1:=crest_k hk (by omega)
 have q:=eq_true (show(n:Int)≤((s.drop i).length:Int) by rw [List.length_drop];omega)
 have hw:IntKind.i64.wrap ((i:Int)+(n:Int))=(i:Int)+(n:Int):=wrapI (by omega) (by omega)
 generalize s.drop i=t at*
 simp [h1,hk,q,hw]
theorem cskip_k (hk:H.get l=some (cu s i)) (hl:l<H.n) (hi:i≤s.length) (hs:s.length≤1000000) (ht:t.length≤100):LC Tryz.prog EJ 199 [ptr l 0,str t] H=some (.bool (Lib.hasPrefix (s.drop i) t),if Lib.hasPrefix (s.drop i) t=true then H.set l (cu s (i+t.length))else H):=by
 have h1:=crest_k hk hi
 cases hp:Lib.hasPrefix (s.drop i) t with
 |false=>
  simp only [Bool.false_eq_true,if_false]
  refine LC_pure rfl Tryz.func199 rfl (Nat.le_of_ble_eq_true rfl) (by decide) (by kernel_rfl) rfl ?_
  simp [h1,hp]
 |true=>
  simp only [if_true]
  refine cset (x:=(i:Int)+(t.length:Int)) hk hl rfl (LC_runs (P:=Tryz.prog) (E:=EJ) (f:=199) rfl Tryz.func199 rfl (Nat.le_of_ble_eq_true rfl) (by decide) (by kernel_rfl) ?_)
  have hw:IntKind.i64.wrap ((i:Int)+(t.length:Int))=(i:Int)+(t.length:Int):=wrapI (by omega) (by omega)
  simp [h1,hp,hk,hw]
theorem cpeek_k (hk:H.get l=some (cu s i)) (hi:i≤s.length):LC Tryz.prog EJ 233 [ptr l 0,.int .i64 0] H=some (.tuple #[.int .u8 (match s.drop i with| []=>0|b::_=>(b.toNat:Int)),.bool (decide (i<s.length))],H):=by
 have h1:=crest_k hk hi
 have hd:(s.drop i).length=s.length-i:=List.length_drop
 have hlt:decide (i<s.length)=decide (s.drop i≠ []):=by
  rw [decide_eq_decide]
  constructor
  ·intro h e;rw [e]at hd;simp at hd;omega
  ·intro h;have:=List.length_pos_iff.mpr h;omega
 rw [hlt]
 refine LC_pure rfl Tryz.func233 rfl (Nat.le_of_ble_eq_true rfl) (by decide) (by kernel_rfl) rfl ?_
 cases hr:s.drop i with
 |nil=>rw [hr]at h1;simp [h1]
 |cons b r=>
  rw [hr]at h1
  have hat:at_ (b::r) 0=b:=rfl
  have q:=eq_false (show¬((r.length:Int)+1≤0) by omega)
  simp [h1,hat,q]
theorem cuntil_k (hk:H.get l=some (cu s i)) (hl:l<H.n) (hi:i≤s.length) (hs:s.length≤1000000):LC Tryz.prog EJ 218 [ptr l 0,str t] H=some (str ((s.drop i).take (Tg.Mi.until_ t (s.drop i))),H.set l (cu s (i+Tg.Mi.until_ t (s.drop i)))):=by
 have hle:=Tg.Mi.until_le t (s.drop i)
 have hd:(s.drop i).length=s.length-i:=List.length_drop
 refine cset (x:=((i+Tg.Mi.until_ t (s.drop i):Nat):Int)) hk hl rfl (LC_runs (P:=Tryz.prog) (E:=EJ) (f:=218) rfl Tryz.func218 rfl (Nat.le_of_ble_eq_true rfl) (by decide) (by kernel_rfl) ?_)
 have h1:=crest_k hk hi
 have hr:=crun_k (n:=Tg.Mi.until_ t (s.drop i)) hk hl (by omega) hs
 generalize hu:Tg.Mi.until_ t (s.drop i)=u at*
 generalize s.drop i=x at*
 simp [h1]
 refine loop_ind (fun(j:Nat) fr' H'=>fr' 0=ptr l 0∧fr' 1=str t∧fr' 5=.int .i64 j∧fr' 6=str x∧j≤u∧Tg.Mi.until_ t (x.drop j)+j=u∧H=H') (fun j=>u-j) 0 ⟨by simp,by simp,by simp,by simp,Nat.zero_le _,by simpa using hu,rfl⟩ ?_
 rintro j fr' H' ⟨f0,f1,f5,f6,hj,hq,rfl⟩ ih
 by_cases hlt:j<x.length
 ·have q0:=eq_true (show(j:Int)<(x.length:Int) by omega)
  have hw1:IntKind.i64.wrap ((j:Int)+1)=((j+1:Nat):Int):=by rw [wrapI (by omega) (by omega)];omega
  have hat:at_ x (j:Int)=x[j]:=at_in hlt
  rw [List.drop_eq_getElem_cons hlt]at hq
  unfold Tg.Mi.until_ at hq
  generalize x[j]=c at*
  by_cases hc:Lib.indexByte t c<0
  ·rw [if_pos hc]at hq
   have hc:=eq_true hc
   simp [f0,f1,f5,f6,q0,hat,hc]
   refine ih (j+1) _ _ (by omega) ⟨?_,?_,?_,?_,by omega,by omega,rfl⟩
   all_goals simp [f0,f1,f6,hw1]
  ·rw [if_neg hc]at hq
   have hc:=eq_false hc
   obtain rfl:j=u:=by omega
   simp [f0,f1,f5,f6,q0,hat,hc,hr]
   rfl
 ·have q0:=eq_false (show¬(j:Int)<(x.length:Int) by omega)
  rw [List.drop_of_length_le (by omega)]at hq
  unfold Tg.Mi.until_ at hq
  obtain rfl:j=u:=by omega
  simp [f0,f1,f5,f6,q0,hr]
  rfl
theorem crestall_k (hk:H.get l=some (cu s i)) (hl:l<H.n) (hi:i≤s.length) (hs:s.length≤1000000):LC Tryz.prog EJ 272 [ptr l 0] H=some (str (s.drop i),H.set l (cu s s.length)):=by
 refine cset (x:=(s.length:Int)) hk hl rfl (LC_runs (P:=Tryz.prog) (E:=EJ) (f:=272) rfl Tryz.func272 rfl (Nat.le_of_ble_eq_true rfl) (by decide) (by kernel_rfl) ?_)
 have h1:=crest_k hk hi
 have hd:(s.drop i).length=s.length-i:=List.length_drop
 have hr:=crun_k (n:=(s.drop i).length) hk hl (by omega) hs
 rw [List.take_length,hd,show i+(s.length-i)=s.length by omega]at hr
 have hr:LC Tryz.prog EJ 252 [ptr l 0,.int .i64 ((s.drop i).length:Nat)] H=some (str (s.drop i),H.set l (cu s s.length)):=by rw [hd];exact hr
 generalize s.drop i=x at*
 simp [h1,hr]
theorem cend_k (hk:H.get l=some (cu s i)) (hi:i≤s.length):LC Tryz.prog EJ 243 [ptr l 0] H=some (.bool (decide (s.drop i= [])),H):=by
 refine LC_pure rfl Tryz.func243 rfl (Nat.le_of_ble_eq_true rfl) (by decide) (by kernel_rfl) rfl ?_
 have h1:=crest_k hk hi
 simp [h1]
theorem cplace_k (hk:H.get l=some (cu s i)):LC Tryz.prog EJ 255 [ptr l 0] H=some (.int .i64 i,H):=by
 refine LC_pure rfl Tryz.func255 rfl (Nat.le_of_ble_eq_true rfl) (by decide) (by kernel_rfl) rfl ?_
 simp [hk]
theorem cat_k (hk:H.get l=some (cu s i)):LC Tryz.prog EJ 217 [ptr l 0] H=some (.int .i64 i,H):=by
 refine LC_pure rfl Tryz.func217 rfl (Nat.le_of_ble_eq_true rfl) (by decide) (by kernel_rfl) rfl ?_
 have h1:=cplace_k hk
 simp [h1]
theorem check_k {x y:Int} :LC Tryz.prog EJ 216 [.bool true,.int .i64 x,.int .i64 y] H=some (.tuple #[],H):=by
 refine LC_pure rfl Tryz.func216 rfl (Nat.le_of_ble_eq_true rfl) (by decide) (by kernel_rfl) rfl ?_
 simp
theorem ctake_k (hk:H.get l=some (cu s i)) (hl:l<H.n) (hi:i+n≤s.length) (hs:s.length≤1000000):LC Tryz.prog EJ 256 [ptr l 0,.int .i64 n] H=some (str ((s.drop i).take n),H.set l (cu s (i+n))):=by
 refine cset (x:=(i:Int)+(n:Int)) hk hl rfl (LC_runs (P:=Tryz.prog) (E:=EJ) (f:=256) rfl Tryz.func256 rfl (Nat.le_of_ble_eq_true rfl) (by decide) (by kernel_rfl) ?_)
 have h1:=crest_k hk (by omega)
 have q:=eq_true (show(n:Int)≤((s.drop i).length:Int) by rw [List.length_drop];omega)
 have q2:=eq_true (show(0:Int)≤(n:Int) by omega)
 have hw:IntKind.i64.wrap ((i:Int)+(n:Int))=(i:Int)+(n:Int):=wrapI (by omega) (by omega)
 have hc:=fun(H:LH) (x y:Int)=>check_k (H:=H) (x:=x) (y:=y)
 generalize s.drop i=t at*
 simp [h1,hk,q,q2,hw,hc]
theorem cnext_k (hk:H.get l=some (cu s i)) (hl:l<H.n) (hi:i<s.length) (hs:s.length≤1000000):LC Tryz.prog EJ 219 [ptr l 0] H=some (.int .u8 s[i].toNat,H.set l (cu s (i+1))):=by
 refine cset (x:=((i+1:Nat):Int)) hk hl rfl (LC_runs (P:=Tryz.prog) (E:=EJ) (f:=219) rfl Tryz.func219 rfl (Nat.le_of_ble_eq_true rfl) (by decide) (by kernel_rfl) ?_)
 have h1:=ctake_k (n:=1) hk hl (by omega) hs
 rw [List.drop_eq_getElem_cons hi,show(s[i]::s.drop (i+1)).take 1= [s[i]] from rfl]at h1
 have h1:LC Tryz.prog EJ 256 [ptr l 0,.int .i64 1] H=some (str [s[i]],H.set l (cu s (i+1))):=h1
 generalize s[i]=b at*
 have hat:at_ [b] 0=b:=rfl
 simp [h1,hat]
 try rfl
theorem cwhile_k {g:FuncId} {p:UInt8→Bool} (hg: ∀(H:LH) (b:UInt8),LC Tryz.prog EJ g [.int .u8 b.toNat] H=some (.bool (p b),H)) (hk:H.get l=some (cu s i)) (hl:l<H.n) (hi:i≤s.length) (hs:s.length≤1000000):LC Tryz.prog EJ 214 [ptr l 0,.func (.func g) #[] #[]] H=some (str ((s.drop i).take (Tg.Mi.while_ p (s.drop i))),H.set l (cu s (i+Tg.Mi.while_ p (s.drop i)))):=by
 have hle:=Tg.Mi.while_le p (s.drop i)
 have hd:(s.drop i).length=s.length-i:=List.length_drop
 refine cset (x:=((i+Tg.Mi.while_ p (s.drop i):Nat):Int)) hk hl rfl (LC_runs (P:=Tryz.prog) (E:=EJ) (f:=214) rfl Tryz.func214 rfl (Nat.le_of_ble_eq_true rfl) (by decide) (by kernel_rfl) ?_)
 have h1:=crest_k hk hi
 have hr:=crun_k (n:=Tg.Mi.while_ p (s.drop i)) hk hl (by omega) hs
 have hfn:=lbin_fn_ne (g:=g) (f:=#[]) (cp:=#[]) Tryz.underlying127
 generalize hu:Tg.Mi.while_ p (s.drop i)=u at*
 generalize s.drop i=x at*
 simp [h1]
 refine loop_ind (fun(j:Nat) fr' H'=>fr' 0=ptr l 0∧fr' 1=.func (.func g) #[] #[]∧fr' 5=.int .i64 j∧fr' 6=str x∧j≤u∧Tg.Mi.while_ p (x.drop j)+j=u∧H=H') (fun j=>u-j) 0 ⟨by simp,by simp,by simp,by simp,Nat.zero_le _,by simpa using hu,rfl⟩ ?_
 rintro j fr' H' ⟨f0,f1,f5,f6,hj,hq,rfl⟩ ih
 by_cases hlt:j<x.length
 ·have q0:=eq_true (show(j:Int)<(x.length:Int) by omega)
  have hw1:IntKind.i64.wrap ((j:Int)+1)=((j+1:Nat):Int):=by rw [wrapI (by omega) (by omega)];omega
  have hat:at_ x (j:Int)=x[j]:=at_in hlt
  rw [List.drop_eq_getElem_cons hlt]at hq
  unfold Tg.Mi.while_ at hq
  generalize x[j]=c at*
  cases hc:p c with
  |true=>
   rw [if_pos hc]at hq
   have hgc:=fun H=>hg H c
   rw [hc]at hgc
   simp [f0,f1,f5,f6,q0,hat,hgc,hfn]
   refine ih (j+1) _ _ (by omega) ⟨?_,?_,?_,?_,by omega,by omega,rfl⟩
   all_goals simp [f0,f1,f6,hw1]
  |false=>
   rw [if_neg (by rw [hc];decide)]at hq
   have hgc:=fun H=>hg H c
   rw [hc]at hgc
   obtain rfl:j=u:=by omega
   simp [f0,f1,f5,f6,q0,hat,hgc,hr,hfn]
   rfl
 ·have q0:=eq_false (show¬(j:Int)<(x.length:Int) by omega)
  rw [List.drop_of_length_le (by omega)]at hq
  unfold Tg.Mi.while_ at hq
  obtain rfl:j=u:=by omega
  simp [f0,f1,f5,f6,q0,hr,hfn]
  rfl
end
structure Two (N:Nat) (H:LH) (b1 b2:Nat) (l1 l2:List UInt8) (v1 v2:Value):Prop where
 one:Bld N H b1 l1 v1
 two:Bld N H b2 l2 v2
 ne:b1≠b2
 n1:N≤b1
 n2:N≤b2
 sep: ∀k,offRow v1 k∨offRow v2 k
section
variable {H H':LH} {N b1 b2:Nat} {l1 l2 s:List UInt8} {v1 v2 v':Value} {c:UInt8}
theorem Two.swap (h:Two N H b1 b2 l1 l2 v1 v2):Two N H b2 b1 l2 l1 v2 v1:=⟨h.two,h.one,h.ne.symm,h.n2,h.n1,fun k=>(h.sep k).symm⟩
theorem bld_elem_ne {b k:Nat} {l l':List UInt8} {v v':Value} (h:Bld N H b l v) (h':Bld N H k l' v'):offRow v k:=by
 obtain⟨p,hg,_⟩:=h'.get
 exact RowN.off_of_elem h.row hg (by show 207≠5;decide)
theorem Two.step {l1':List UInt8} (h:Two N H b1 b2 l1 l2 v1 v2) (h1:Bld N H' b1 l1' v') (hk:Kp b1 v1 H v' H'):Two N H' b1 b2 l1' l2 v' v2:=by
 have ho2:offRow v1 b2:=bld_elem_ne h.one h.two
 refine⟨h1,?_,h.ne,h.n1,h.n2,fun k=>?_⟩
 ·obtain⟨p,hg,hp⟩:=h.two.get
  refine⟨⟨p,by rw [hk.keep b2 h.two.lt h.ne.symm ho2];exact hg,hp⟩,?_,h.two.full,h.two.off,Nat.lt_of_lt_of_le h.two.lt hk.n,h1.N,h.two.nil⟩
  refine h.two.row.keep hk.n (fun k _ hno hkn=>hk.keep k hkn (fun e=>?_) ((h.sep k).resolve_right hno))
  subst e
  exact hno (bld_elem_ne h.two h.one)
 ·by_cases hno:offRow v2 k
  ·exact .inr hno
  ·by_cases hkb:k=b1
   ·subst hkb;exact absurd (bld_elem_ne h.two h.one) hno
   ·by_cases hkn:k<H.n
    ·exact .inl (hk.off k hkn hkb ((h.sep k).resolve_right hno))
    ·exact absurd (RowN.off_ge h.two.row (by omega)) hno
theorem Two.str1 (h:Two N H b1 b2 l1 l2 v1 v2) (hlen:l1.length+s.length≤maxElems): ∃v' H',LC Tryz.prog EJ 232 [ptr b1 0,str s] H=some (.tuple #[.int .i64 s.length,.nilIface],H')∧Two N H' b1 b2 (l1++s) l2 v' v2∧H.n≤H'.n∧ ∀k,k<N→H'.get k=H.get k:=by
 obtain⟨v',H',e,hb,hk⟩:=wstr_ex h.one hlen
 refine⟨v',H',e,h.step hb hk,hk.n,fun k hk2=>hk.keep k (by have:=h.one.N;omega) (by have:=h.n1;omega) ?_⟩
 rcases h.one.row.2 with⟨rfl,_⟩|⟨k',c',rest,rfl,g1,_⟩
 ·intro n c e;cases e
 ·intro n c e;injection e with e;injection e with e;injection e with e;omega
theorem Two.byte1 (h:Two N H b1 b2 l1 l2 v1 v2) (hlen:l1.length+1≤maxElems): ∃v' H',LC Tryz.prog EJ 270 [ptr b1 0,.int .u8 c.toNat] H=some (.nilIface,H')∧Two N H' b1 b2 (l1++ [c]) l2 v' v2∧H.n≤H'.n∧ ∀k,k<N→H'.get k=H.get k:=by
 obtain⟨v',H',e,hb,hk⟩:=wbyte_ex h.one hlen
 refine⟨v',H',e,h.step hb hk,hk.n,fun k hk2=>hk.keep k (by have:=h.one.N;omega) (by have:=h.n1;omega) ?_⟩
 rcases h.one.row.2 with⟨rfl,_⟩|⟨k',c',rest,rfl,g1,_⟩
 ·intro n c e;cases e
 ·intro n c e;injection e with e;injection e with e;injection e with e;omega
theorem Two.str2 (h:Two N H b1 b2 l1 l2 v1 v2) (hlen:l2.length+s.length≤maxElems): ∃v' H',LC Tryz.prog EJ 232 [ptr b2 0,str s] H=some (.tuple #[.int .i64 s.length,.nilIface],H')∧Two N H' b1 b2 l1 (l2++s) v1 v'∧H.n≤H'.n∧ ∀k,k<N→H'.get k=H.get k:=by
 obtain⟨v',H',e,h2,h3,h4⟩:=h.swap.str1 hlen
 exact⟨v',H',e,h2.swap,h3,h4⟩
theorem Two.byte2 (h:Two N H b1 b2 l1 l2 v1 v2) (hlen:l2.length+1≤maxElems): ∃v' H',LC Tryz.prog EJ 270 [ptr b2 0,.int .u8 c.toNat] H=some (.nilIface,H')∧Two N H' b1 b2 l1 (l2++ [c]) v1 v'∧H.n≤H'.n∧ ∀k,k<N→H'.get k=H.get k:=by
 obtain⟨v',H',e,h2,h3,h4⟩:=h.swap.byte1 hlen
 exact⟨v',H',e,h2.swap,h3,h4⟩
theorem Two.low {k:Nat} {B:LB} (h:Two N H b1 b2 l1 l2 v1 v2) (hk:k<N):Two N (H.set k B) b1 b2 l1 l2 v1 v2:=by
 have hx: ∀j,N≤j→(H.set k B).get j=H.get j:=fun j hj=>get_set_ne (by omega)
 have one: ∀ {b:Nat} {l:List UInt8} {v:Value},N≤b→Bld N H b l v→Bld N (H.set k B) b l v:=fun {b l v} hb h=>
  ⟨by obtain⟨p,hg,hp⟩:=h.get;exact⟨p,by rw [hx b hb];exact hg,hp⟩,h.row.keep (Nat.le_refl _) (fun j hj _ _=>hx j hj),h.full,h.off,h.lt,h.N,h.nil⟩
 exact⟨one h.n1 h.one,one h.n2 h.two,h.ne,h.n1,h.n2,h.sep⟩
theorem Two.first:Two H.n ((H.new ⟨[.pointer none,.slice none 0 0],207,true⟩).new ⟨[.pointer none,.slice none 0 0],207,true⟩) H.n (H.n+1) [] [] (.slice none 0 0) (.slice none 0 0):=by
 have ho: ∀k,offRow (.slice none 0 0) k:=fun k n c e=>by cases e
 refine⟨⟨⟨_,by rw [get_new_ne (by simp)];exact get_new,.inl rfl⟩,RowN.nil,(by unfold Full;simp),ho _,(by simp;omega),(by simp;omega),fun _=>rfl⟩,⟨⟨_,by exact get_new,.inl rfl⟩,RowN.nil,(by unfold Full;simp),ho _,(by simp),(by simp;omega),fun _=>rfl⟩,by omega,Nat.le_refl _,by omega,fun k=>.inl (ho k)⟩
end
end Go.Proofs.YtcgiaiimbnoknaaGreatDoor.Mi
namespace Go.Proofs.YtcgiaiimbnoknaaGreatDoor
open Go.Lg Go.Tg
def SpecBs (s:Lg.Spec):Prop:= ∀args H v H',s args H=some (v,H')→Bs H H'
theorem flat_bs {g:List Value→Option Value} :SpecBs (flatSpec g):=by
 intro args H v H' h
 unfold flatSpec at h
 (repeat' split at h)<;>first|(cases h;done)|(simp only [Option.some.injEq,Prod.mk.injEq]at h;obtain⟨_,rfl⟩:=h;exact⟨rfl,rfl⟩)|(obtain⟨u,_,e⟩:=Option.map_eq_some_iff.1 h;simp only [Prod.mk.injEq]at e;obtain⟨_,rfl⟩:=e;exact⟨rfl,rfl⟩)
theorem index_bs:SpecBs specIndexA:=by
 intro args H v H' h
 unfold specIndexA at h
 (repeat' split at h)<;>first|(cases h;done)|(simp only [Option.some.injEq,Prod.mk.injEq]at h;obtain⟨_,rfl⟩:=h;exact⟨rfl,rfl⟩)
theorem split_bs:SpecBs specSplit:=by
 intro args H v H' h
 unfold specSplit at h
 (repeat' split at h)<;>first|(cases h;done)|(simp only [Option.some.injEq,Prod.mk.injEq]at h;obtain⟨_,rfl⟩:=h;exact⟨rfl,rfl⟩)|(obtain⟨u,_,e⟩:=Option.map_eq_some_iff.1 h;simp only [Prod.mk.injEq]at e;obtain⟨_,rfl⟩:=e;exact⟨rfl,rfl⟩)
theorem join_bs:SpecBs specJoin:=by
 intro args H v H' h
 unfold specJoin at h
 (repeat' split at h)<;>first|(cases h;done)|(simp only [Option.some.injEq,Prod.mk.injEq]at h;obtain⟨_,rfl⟩:=h;exact⟨rfl,rfl⟩)|(obtain⟨u,_,e⟩:=Option.map_eq_some_iff.1 h;simp only [Prod.mk.injEq]at e;obtain⟨_,rfl⟩:=e;exact⟨rfl,rfl⟩)
theorem copy_bs:SpecBs specCopy:=by
 intro args H v H' h
 unfold specCopy at h
 (repeat' split at h)<;>first|(cases h;done)|(simp only [Option.some.injEq,Prod.mk.injEq]at h;obtain⟨_,rfl⟩:=h;exact⟨rfl,rfl⟩)|(obtain⟨u,_,e⟩:=Option.map_eq_some_iff.1 h;simp only [Prod.mk.injEq]at e;obtain⟨_,rfl⟩:=e;exact⟨rfl,rfl⟩)
theorem bstr_bs:SpecBs specBStr:=by
 intro args H v H' h
 unfold specBStr at h
 (repeat' split at h)<;>first|(cases h;done)|(simp only [Option.some.injEq,Prod.mk.injEq]at h;obtain⟨_,rfl⟩:=h;exact⟨rfl,rfl⟩)|(obtain⟨u,_,e⟩:=Option.map_eq_some_iff.1 h;simp only [Prod.mk.injEq]at e;obtain⟨_,rfl⟩:=e;exact⟨rfl,rfl⟩)
theorem str_bs: ∀p∈specsStr,SpecBs p.2:=by
 intro p hp
 unfold specsStr at hp
 rcases List.mem_cons.1 hp with rfl|hp
 ·exact flat_bs
 rcases List.mem_cons.1 hp with rfl|hp
 ·exact flat_bs
 rcases List.mem_cons.1 hp with rfl|hp
 ·exact flat_bs
 rcases List.mem_cons.1 hp with rfl|hp
 ·exact split_bs
 rcases List.mem_cons.1 hp with rfl|hp
 ·exact join_bs
 rcases List.mem_cons.1 hp with rfl|hp
 ·exact copy_bs
 rcases List.mem_cons.1 hp with rfl|hp
 ·exact bstr_bs
 rcases List.mem_cons.1 hp with rfl|hp
 ·exact flat_bs
 rcases List.mem_cons.1 hp with rfl|hp
 ·exact flat_bs
 rcases List.mem_cons.1 hp with rfl|hp
 ·exact index_bs
 cases hp
theorem ext_bs {f:FuncId} {args:List Value} {H H':LH} {v:Value} (h:LC Tryz.prog EJ f args H=some (v,H')):Bs H H':=
 LC_bs (fun f s hs args H v H' hr=>by
  have hs:((specsStr).find? (fun p=>p.1==f)).map (·.2)=some s:=hs
  obtain⟨p,hp,rfl⟩:=Option.map_eq_some_iff.1 hs
  exact str_bs p (List.mem_of_find?_eq_some hp) args H v H' hr) h
theorem MaxL.bs {H H':LH} (h:MaxL H) (hb:Bs H H'):MaxL H':=⟨by rw [hb.2];exact h.1,by rw [hb.1];exact h.2⟩
end Go.Proofs.YtcgiaiimbnoknaaGreatDoor
namespace Tg.Mi
def coll:List UInt8→List UInt8×List UInt8×Nat
 | []=>([],[],0)
 |b::r=>if b=34 then([],[34],1)else if b=92 then(match r with
   | []=>([92],[92],1)
   |c::r'=>(c::(coll r').1,92::c::(coll r').2.1,(coll r').2.2+2))else(b::(coll r).1,b::(coll r).2.1,(coll r).2.2+1)
theorem stop_F: ∀k:Fin 256,(Go.Lib.indexByte [34,92] (UInt8.ofNat k.1)<0↔UInt8.ofNat k.1≠34∧UInt8.ofNat k.1≠92):=by decide+kernel
theorem stop_iff (b:UInt8):Go.Lib.indexByte [34,92] b<0↔b≠34∧b≠92:=by
 have h:=stop_F ⟨b.toNat,b.toNat_lt⟩
 simpa using h
theorem coll_until: ∀x:List UInt8,coll x=(x.take (until_ [34,92] x)++(coll (x.drop (until_ [34,92] x))).1,x.take (until_ [34,92] x)++(coll (x.drop (until_ [34,92] x))).2.1,until_ [34,92] x+(coll (x.drop (until_ [34,92] x))).2.2)
 | []=>by simp [until_,coll]
 |b::r=>by
  by_cases h:Go.Lib.indexByte [34,92] b<0
  ·have ih:=coll_until r
   obtain⟨h1,h2⟩:=(stop_iff b).1 h
   have e:until_ [34,92] (b::r)=until_ [34,92] r+1:=by
    conv=>lhs;unfold until_
    rw [if_pos h]
   rw [e]
   have e2:coll (b::r)=(b::(coll r).1,b::(coll r).2.1,(coll r).2.2+1):=by
    conv=>lhs;unfold coll
    rw [if_neg h1,if_neg h2]
   rw [e2,ih]
   simp only [List.take_succ_cons,List.drop_succ_cons,List.cons_append]
   congr 2
   omega
  ·have e:until_ [34,92] (b::r)=0:=by
    conv=>lhs;unfold until_
    rw [if_neg h]
   rw [e]
   simp
theorem until_stop: ∀ {x:List UInt8} {b:UInt8} {r:List UInt8},x.drop (until_ [34,92] x)=b::r→b=34∨b=92
 | [],b,r,h=>by simp [until_]at h
 |a::y,b,r,h=>by
  unfold until_ at h
  split at h
  ·exact until_stop (x:=y) (by simpa using h)
  ·rename_i hn
   simp only [List.drop_zero,List.cons.injEq]at h
   obtain⟨rfl,_⟩:=h
   by_cases h1:a=34
   ·exact .inl h1
   ·by_cases h2:a=92
    ·exact .inr h2
    ·exact absurd ((stop_iff a).2 ⟨h1,h2⟩) hn
end Tg.Mi
namespace Go.Proofs.YtcgiaiimbnoknaaGreatDoor.Mi
open Go.Lg Go.Tg
section
variable {H H':LH} {N b:Nat} {l s:List UInt8} {v:Value}
theorem bstr_kp (h:Bld N H b l v) (hm:l.length≤maxLen): ∃H',LC Tryz.prog EJ 236 [ptr b 0] H=some (str l,H')∧H'.n=H.n∧ ∀k,offRow v k→H'.get k=H.get k:=by
 obtain⟨p,hg,hp⟩:=h.get
 rcases h.row.2 with⟨rfl,h0⟩|⟨k,c,rest,rfl,g1,g2,g3,g4,g5⟩
 ·have hl:l= []:=List.eq_nil_of_length_eq_zero h0
  subst hl
  refine⟨H,LC_ext (s:=specBStr) rfl ?_,rfl,fun _ _=>rfl⟩
  unfold specBStr
  simp only [hg]
 ·rcases Nat.eq_zero_or_pos l.length with h0|h0
  ·exfalso
   have:=h.nil (List.eq_nil_of_length_eq_zero h0)
   cases this
  ·refine⟨H.kill k,LC_ext (s:=specBStr) rfl ?_,rfl,fun j hj=>get_kill_ne (fun e=>hj l.length c (by rw [e]))⟩
   have htk:(l.map bv++rest).take l.length=l.map bv:=by simp
   unfold specBStr
   simp only [hg,g3]
   rw [if_pos ⟨l,by intro e;rw [e]at h0;simp at h0,htk,rfl,g4,hm,rfl⟩,htk,lbs_map]
   rfl
theorem Two.texts {b1 b2:Nat} {l1 l2:List UInt8} {v1 v2:Value} (h:Two N H b1 b2 l1 l2 v1 v2) (h1:l1.length≤maxLen) (h2:l2.length≤maxLen): ∃H1 H2,LC Tryz.prog EJ 236 [ptr b1 0] H=some (str l1,H1)∧LC Tryz.prog EJ 236 [ptr b2 0] H1=some (str l2,H2)∧H2.n=H.n∧ ∀k,k<N→H2.get k=H.get k:=by
 obtain⟨H1,e1,n1,k1⟩:=bstr_kp h.one h1
 have hb2:Bld N H1 b2 l2 v2:=by
  obtain⟨p,hg,hp⟩:=h.two.get
  exact⟨⟨p,by rw [k1 _ (bld_elem_ne h.one h.two)];exact hg,hp⟩,h.two.row.keep (by omega) (fun k _ hno _=>k1 k ((h.sep k).resolve_right hno)),h.two.full,h.two.off,by rw [n1];exact h.two.lt,by rw [n1];exact h.two.N,h.two.nil⟩
 obtain⟨H2,e2,n2,k2⟩:=bstr_kp hb2 h2
 have low: ∀ {b:Nat} {l:List UInt8} {v:Value} {G:LH},Bld N G b l v→ ∀k,k<N→offRow v k:=fun {b l v G} hb k hk=>by
  rcases hb.row.2 with⟨rfl,_⟩|⟨k',c',rest,rfl,g1,_⟩
  ·intro n c e;cases e
  ·intro n c e;injection e with e;injection e with e;injection e with e;omega
 exact⟨H1,H2,e1,e2,by omega,fun k hk=>by rw [k2 k (low hb2 k hk),k1 k (low h.one k hk)]⟩
end
section
variable {H H':LH} {N b l i:Nat} {s:List UInt8} {v:Value}
structure OutC (H:LH) (l:Nat) (s:List UInt8) (j:Nat) (H':LH):Prop where
 get:H'.get l=some (cu s j)
 n:H.n≤H'.n
 old: ∀k,k<H.n→k≠l→H'.get k=H.get k
theorem collect_ex (hk:H.get l=some (cu s i)) (hl:l<H.n) (hi:i<s.length) (hs:s.length≤100000) (hq:s[i]=34):
  ∃H',LC Tryz.prog EJ 234 [ptr l 0] H=some (.tuple #[str (Tg.Mi.coll (s.drop (i+1))).1,str (34::(Tg.Mi.coll (s.drop (i+1))).2.1)],H')∧OutC H l s (i+1+(Tg.Mi.coll (s.drop (i+1))).2.2) H':=by
 have key: ∃r,LC Tryz.prog EJ 234 [ptr l 0] H=some (Lg.trunc H r)∧r.1=.tuple #[str (Tg.Mi.coll (s.drop (i+1))).1,str (34::(Tg.Mi.coll (s.drop (i+1))).2.1)]∧OutC H l s (i+1+(Tg.Mi.coll (s.drop (i+1))).2.2) r.2:=by
  refine LC_runs (P:=Tryz.prog) (E:=EJ) (f:=234) rfl Tryz.func234 rfl (Nat.le_of_ble_eq_true rfl) (by decide) (by kernel_rfl) ?_
  obtain⟨Hb,hHb⟩: ∃Hb,Hb=(H.new ⟨[.pointer none,.slice none 0 0],207,true⟩).new ⟨[.pointer none,.slice none 0 0],207,true⟩:=⟨_,rfl⟩
  have hnb:Hb.n=H.n+1+1:=by rw [hHb];rfl
  have hkb:Hb.get l=some (cu s i):=by rw [hHb,get_new_ne (by simp;omega),get_new_ne (by omega)];exact hk
  have hob: ∀k,k<H.n→Hb.get k=H.get k:=fun k hk2=>by rw [hHb,get_new_ne (by simp;omega),get_new_ne (by omega)]
  have htw:Two H.n Hb H.n (H.n+1) [] [] (.slice none 0 0) (.slice none 0 0):=by rw [hHb];exact Two.first
  have hsk:=cskip_k (t:= [34]) hkb (by omega) (by omega) (by omega) (by decide)
  have hpre:Lib.hasPrefix (s.drop i) [34]=true:=by rw [List.drop_eq_getElem_cons hi,hq];simp [Lib.hasPrefix]
  rw [hpre,if_pos rfl]at hsk
  have hsk:LC Tryz.prog EJ 199 [ptr l 0,str [34]] Hb=some (.bool true,Hb.set l (cu s (i+1))):=hsk
  have hat:=cat_k (H:=Hb.set l (cu s (i+1))) (l:=l) get_set
  have hck:=fun(H:LH) (x y:Int)=>check_k (H:=H) (x:=x) (y:=y)
  obtain⟨v2,H1,w1,w2,w3,w4⟩:=(htw.low (B:=cu s (i+1)) hl).byte2 (c:=34) (by decide)
  have w1:LC Tryz.prog EJ 270 [ptr (H.n+1) 0,.int .u8 34] (Hb.set l (cu s (i+1)))=some (.nilIface,H1):=w1
  simp [←hHb,hsk,hat,hck,w1]
  obtain⟨T,hT⟩: ∃T,T=Tg.Mi.coll (s.drop (i+1)):=⟨_,rfl⟩
  rw [←hT]
  refine loop_ind (fun(j:Nat) fr' H'=> ∃t a v1 v2,fr' 0=ptr l 0∧fr' 4=ptr H.n 0∧fr' 5=ptr (H.n+1) 0∧i+1≤j∧j≤s.length∧t.length≤j∧a.length≤j∧Two H.n H' H.n (H.n+1) t (34::a) v1 v2∧H'.get l=some (cu s j)∧H.n≤H'.n∧(∀k,k<H.n→k≠l→H'.get k=H.get k)∧T.1=t++(Tg.Mi.coll (s.drop j)).1∧T.2.1=a++(Tg.Mi.coll (s.drop j)).2.1∧i+1+T.2.2=j+(Tg.Mi.coll (s.drop j)).2.2) (fun j=>s.length-j) (i+1) ⟨[],[],_,v2,by simp,by simp,by simp,Nat.le_refl _,by omega,by simp,by simp,w2,by rw [w4 l hl,get_set],by have:=w3;simp at this;omega,fun k hk2 hne=>by rw [w4 k hk2,get_set_ne hne,hob k hk2],by rw [hT];simp,by rw [hT];simp,by rw [hT]⟩ ?_
  rintro j fr' H2 ⟨t,a,v1,v2',f0,f4,f5,hj1,hj2,htl,hal,htw2,hcu,hn2,hold,q1,q2,q3⟩ ih
  have hu:=cuntil_k (t:= [34,92]) hcu (by omega) hj2 (by omega)
  have hul:=Tg.Mi.until_le [34,92] (s.drop j)
  have hdl:(s.drop j).length=s.length-j:=List.length_drop
  have hcoll:=Tg.Mi.coll_until (s.drop j)
  have hstop:=fun b r=>Tg.Mi.until_stop (x:=s.drop j) (b:=b) (r:=r)
  rw [hcoll]at q1 q2 q3
  rw [List.drop_drop]at q1 q2 q3 hstop
  simp only at q1 q2 q3
  have hxl:((s.drop j).take (Tg.Mi.until_ [34,92] (s.drop j))).length=Tg.Mi.until_ [34,92] (s.drop j):=by rw [List.length_take];omega
  generalize (s.drop j).take (Tg.Mi.until_ [34,92] (s.drop j))=x at*
  generalize Tg.Mi.until_ [34,92] (s.drop j)=u at*
  obtain⟨v3,H3,e3,t3,n3,k3⟩:=(htw2.low (B:=cu s (j+u)) hl).str1 (s:=x) (by unfold maxElems;omega)
  obtain⟨v4,H4,e4,t4,n4,k4⟩:=t3.str2 (s:=x) (by unfold maxElems;simp;omega)
  have n3:H2.n≤H3.n:=n3
  have c4:H4.get l=some (cu s (j+u)):=by rw [k4 l hl,k3 l hl,get_set]
  have o4: ∀k,k<H.n→k≠l→H4.get k=H.get k:=fun k hk2 hne=>by rw [k4 k hk2,k3 k hk2,get_set_ne hne,hold k hk2 hne]
  have hpk:=cpeek_k c4 (by omega)
  have hlen4:(s.drop (j+u)).length=s.length-(j+u):=List.length_drop
  clear htw2 t3 hcoll
  cases hy:s.drop (j+u)with
  |nil=>
   rw [hy]at hpk q1 q2 q3 hlen4
   have hlt:decide (j+u<s.length)=false:=decide_eq_false (by simp at hlen4;omega)
   rw [hlt]at hpk
   simp only [Tg.Mi.coll,List.append_nil]at q1 q2 q3
   obtain⟨H5,H6,e5,e6,n6,k6⟩:=t4.texts (by unfold maxLen;simp;omega) (by unfold maxLen;simp;omega)
   clear ih
   simp [f0,f4,f5,hu,e3,e4,hpk,e5,e6]
   rw [q1,q2]
   exact⟨⟨rfl,rfl⟩,by rw [k6 l hl,c4];congr 2;omega,by omega,fun k hk2 hne=>by rw [k6 k hk2,o4 k hk2 hne]⟩
  |cons b r=>
   rw [hy]at hpk q1 q2 q3 hlen4
   have hlt0:j+u<s.length:=by simp at hlen4;omega
   rw [decide_eq_true hlt0]at hpk
   have hpk:LC Tryz.prog EJ 233 [ptr l 0,.int .i64 0] H4=some (.tuple #[.int .u8 b.toNat,.bool true],H4):=hpk
   have hnx:=cnext_k c4 (by omega) hlt0 (by omega)
   obtain⟨v5,H5,e5,t5,n5,k5⟩:=(t4.low (B:=cu s (j+u+1)) hl).byte2 (c:=b) (by unfold maxElems;simp;omega)
   have n5:H4.n≤H5.n:=n5
   have c5:H5.get l=some (cu s (j+u+1)):=by rw [k5 l hl,get_set]
   have o5: ∀k,k<H.n→k≠l→H5.get k=H.get k:=fun k hk2 hne=>by rw [k5 k hk2,get_set_ne hne,o4 k hk2 hne]
   have hr:s.drop (j+u+1)=r:=by rw [←List.drop_drop,hy];rfl
   rcases hstop b r hy with hb|hb
   ·subst hb
    have hc1:Tg.Mi.coll (34::r)=([],[34],1):=by
     conv=>lhs;unfold Tg.Mi.coll
     rw [if_pos rfl]
    rw [hc1]at q1 q2 q3
    simp only [List.append_nil]at q1
    simp only at q2 q3
    obtain⟨H6,H7,e6,e7,n7,k7⟩:=t5.texts (by unfold maxLen;simp;omega) (by unfold maxLen;simp;omega)
    have hb34:((UInt8.toNat 34:Nat):Int)=34:=rfl
    rw [hb34]at hpk e5
    clear ih
    simp [f0,f4,f5,hu,e3,e4,hpk,hnx,e5,e6,e7]
    rw [q1,q2]
    exact⟨⟨rfl,by simp⟩,by rw [k7 l hl,c5];congr 2;omega,by omega,fun k hk2 hne=>by rw [k7 k hk2,o5 k hk2 hne]⟩
   ·subst hb
    have hpk2:=cpeek_k c5 (by omega)
    have hb92:((UInt8.toNat 92:Nat):Int)=92:=rfl
    rw [hb92]at hpk e5
    rw [hr]at hpk2
    cases r with
    |nil=>
     have hlt2:decide (j+u+1<s.length)=false:=decide_eq_false (by simp at hlen4;omega)
     rw [hlt2]at hpk2
     have hc1:Tg.Mi.coll [92]=([92],[92],1):=rfl
     rw [hc1]at q1 q2 q3
     obtain⟨v6,H6,e6,t6,n6,k6⟩:=t5.byte1 (c:=92) (by unfold maxElems;simp;omega)
     have e6:LC Tryz.prog EJ 270 [ptr H.n 0,.int .u8 92] H5=some (.nilIface,H6):=e6
     have hfin:=fun fr2 (g0:fr2 0=ptr l 0) (g4:fr2 4=ptr H.n 0) (g5:fr2 5=ptr (H.n+1) 0)=>ih (j+u+1) fr2 H6 (by omega) ⟨t++x++ [92],a++x++ [92],v6,v5,g0,g4,g5,by omega,by omega,by simp;omega,by simp;omega,t6,by rw [k6 l hl];exact c5,by omega,fun k hk2 hne=>by rw [k6 k hk2,o5 k hk2 hne],by rw [hr,q1];simp [Tg.Mi.coll],by rw [hr,q2];simp [Tg.Mi.coll],by rw [hr,q3];simp [Tg.Mi.coll];omega⟩
     clear ih
     simp [f0,f4,f5,hu,e3,e4,hpk,hnx,e5,hpk2,e6]
     refine hfin _ ?_ ?_ ?_
     all_goals simp [f0,f4,f5]
    |cons c r'=>
     have hlt2:j+u+1<s.length:=by simp at hlen4;omega
     rw [decide_eq_true hlt2]at hpk2
     have hpk2:LC Tryz.prog EJ 233 [ptr l 0,.int .i64 0] H5=some (.tuple #[.int .u8 c.toNat,.bool true],H5):=hpk2
     have hnx2:=cnext_k c5 (by omega) hlt2 (by omega)
     have hc1:Tg.Mi.coll (92::c::r')=(c::(Tg.Mi.coll r').1,92::c::(Tg.Mi.coll r').2.1,(Tg.Mi.coll r').2.2+2):=by
      conv=>lhs;unfold Tg.Mi.coll
      rfl
     rw [hc1]at q1 q2 q3
     have hr2:s.drop (j+u+2)=r':=by
      have:s.drop (j+u+1+1)=r':=by rw [←List.drop_drop,hr];rfl
      exact this
     obtain⟨v6,H6,e6,t6,n6,k6⟩:=(t5.low (B:=cu s (j+u+1+1)) hl).byte1 (c:=c) (by unfold maxElems;simp;omega)
     obtain⟨v7,H7,e7,t7,n7,k7⟩:=t6.byte2 (c:=c) (by unfold maxElems;simp;omega)
     have n6:H5.n≤H6.n:=n6
     have hfin:=fun fr2 (g0:fr2 0=ptr l 0) (g4:fr2 4=ptr H.n 0) (g5:fr2 5=ptr (H.n+1) 0)=>ih (j+u+2) fr2 H7 (by omega) ⟨t++x++ [c],a++x++ [92]++ [c],v6,v7,g0,g4,g5,by omega,by omega,by simp;omega,by simp;omega,by rw [show 34::(a++x++ [92]++ [c])=34::a++x++ [92]++ [c] by simp];exact t7,by rw [k7 l hl,k6 l hl,get_set],by omega,fun k hk2 hne=>by rw [k7 k hk2,k6 k hk2,get_set_ne hne,o5 k hk2 hne],by rw [hr2,q1];simp,by rw [hr2,q2];simp,by rw [hr2,q3];simp;omega⟩
     clear ih
     simp [f0,f4,f5,hu,e3,e4,hpk,hnx,e5,hpk2,hnx2,e6,e7]
     refine hfin _ ?_ ?_ ?_
     all_goals simp [f0,f4,f5]
 obtain⟨⟨r1,r2⟩,e,h1,h2⟩:=key
 simp only at h1 h2
 subst h1
 rcases trunc_or (.tuple #[str (Tg.Mi.coll (s.drop (i+1))).1,str (34::(Tg.Mi.coll (s.drop (i+1))).2.1)]) H r2 with e2|⟨e2,_,hle⟩
 ·exact⟨r2,by rw [e,e2],h2⟩
 ·exact⟨H,by rw [e,e2],⟨by rw [←hle.2 l hl];exact h2.get,Nat.le_refl _,fun _ _ _=>rfl⟩⟩
end
end Go.Proofs.YtcgiaiimbnoknaaGreatDoor.Mi
namespace Tg.Mi
def white (b:UInt8):Bool:=decide ((b.toNat:Int)=9)||decide ((b.toNat:Int)=10)||decide ((b.toNat:Int)=13)||decide ((b.toNat:Int)=32)
def back (f:UInt8→Bool):List UInt8→List UInt8
 | []=> []
 |b::r=>if back f r= []∧f b=true then []else b::back f r
theorem back_snoc (f:UInt8→Bool) (b:UInt8): ∀s:List UInt8,back f (s++ [b])=if f b=true then back f s else s++ [b]
 | []=>by by_cases h:f b=true<;>simp [back,h]
 |a::s=>by
  have ih:=back_snoc f b s
  rw [List.cons_append]
  unfold back
  rw [ih]
  by_cases h:f b=true
  ·simp [h]
  ·simp [h]
end Tg.Mi
namespace Go.Proofs.YtcgiaiimbnoknaaGreatDoor.Mi
open Go.Lg Go.Tg
section
variable {H H':LH} {N b l i:Nat} {s:List UInt8} {v:Value}
theorem OutC.trunc {j:Nat} {u:Value} {H':LH} (h:OutC H l s j H') (hl:l<H.n): ∃H2,Lg.trunc H (u,H')=(u,H2)∧OutC H l s j H2:=by
 rcases trunc_or u H H' with e2|⟨e2,_,hle⟩
 ·exact⟨H',e2,h⟩
 ·exact⟨H,e2,⟨by rw [←hle.2 l hl];exact h.get,Nat.le_refl _,fun _ _ _=>rfl⟩⟩
theorem Collect_ex {x:Bool} (hk:H.get l=some (cu s i)) (hl:l<H.n) (hi:i<s.length) (hs:s.length≤100000) (hq:s[i]=34):
  ∃H',LC Tryz.prog EJ 340 [ptr l 0,.bool x] H=some (str (if x=true then(Tg.Mi.coll (s.drop (i+1))).1 else 34::(Tg.Mi.coll (s.drop (i+1))).2.1),H')∧OutC H l s (i+1+(Tg.Mi.coll (s.drop (i+1))).2.2) H':=by
 have key: ∃r,LC Tryz.prog EJ 340 [ptr l 0,.bool x] H=some (Lg.trunc H r)∧r.1=str (if x=true then(Tg.Mi.coll (s.drop (i+1))).1 else 34::(Tg.Mi.coll (s.drop (i+1))).2.1)∧OutC H l s (i+1+(Tg.Mi.coll (s.drop (i+1))).2.2) r.2:=by
  refine LC_runs (P:=Tryz.prog) (E:=EJ) (f:=340) rfl Tryz.func340 rfl (Nat.le_of_ble_eq_true rfl) (by decide) (by kernel_rfl) ?_
  obtain⟨H1,e1,o1⟩:=collect_ex hk hl hi hs hq
  cases x
  ·simp [e1];exact o1
  ·simp [e1];exact o1
 obtain⟨⟨u,H1⟩,e,h1,h2⟩:=key
 simp only at h1 h2
 subst h1
 obtain⟨H2,e2,o2⟩:=h2.trunc hl (u:=str (if x=true then(Tg.Mi.coll (s.drop (i+1))).1 else 34::(Tg.Mi.coll (s.drop (i+1))).2.1))
 exact⟨H2,by rw [e,e2],o2⟩
theorem white_k {b:UInt8} :LC Tryz.prog EJ 215 [.int .u8 b.toNat] H=some (.bool (Tg.Mi.white b),H):=by
 have h1: ∀H:LH,LC Tryz.prog EJ 253 [.int .u8 b.toNat] H=some (.bool (Tg.Mi.white b),H):=fun H=>by
  refine LC_pure rfl Tryz.func253 rfl (Nat.le_of_ble_eq_true rfl) (by decide) (by kernel_rfl) rfl ?_
  unfold Tg.Mi.white
  by_cases a1:(b.toNat:Int)=9
  ·simp [a1]
  ·by_cases a2:(b.toNat:Int)=10
   ·simp [a2]
   ·by_cases a3:(b.toNat:Int)=13
    ·simp [a3]
    ·have a1:=eq_false a1
     have a2:=eq_false a2
     have a3:=eq_false a3
     simp [a1,a2,a3]
 refine LC_pure rfl Tryz.func215 rfl (Nat.le_of_ble_eq_true rfl) (by decide) (by kernel_rfl) rfl ?_
 simp [h1]
theorem mback_k (hs:s.length≤1000000):LC Tryz.prog EJ 290 [str s] H=some (str (Tg.Mi.back Tg.Mi.white s),H):=by
 refine LC_pure rfl Tryz.func290 rfl (Nat.le_of_ble_eq_true rfl) (by decide) (by kernel_rfl) rfl ?_
 simp
 obtain⟨R,hR⟩: ∃R,R=Tg.Mi.back Tg.Mi.white s:=⟨_,rfl⟩
 rw [←hR]
 refine loop_ind (fun(k:Nat) fr' H'=> ∃j:Nat,fr' 0=str s∧fr' 3=.int .i64 j∧j+k=s.length∧Tg.Mi.back Tg.Mi.white (s.take j)=R∧H=H') (fun k=>s.length-k) 0 ⟨s.length,by simp,by simp,by omega,by rw [List.take_length];exact hR.symm,rfl⟩ ?_
 rintro k fr' H' ⟨j,f0,f3,hj,hq,rfl⟩ ih
 rcases Nat.eq_zero_or_pos j with h0|h0
 ·subst h0
  simp [Tg.Mi.back]at hq
  subst hq
  simp [f0,f3]
 ·obtain⟨m,rfl⟩: ∃m,j=m+1:=⟨j-1,by omega⟩
  have hlt:m<s.length:=by omega
  have q0:=eq_true (show(0:Int)<(m:Int)+1 by omega)
  have hw:IntKind.i64.wrap ((m:Int)+1-1)=(m:Int):=by rw [wrapI (by omega) (by omega)];omega
  have hw2:IntKind.i64.wrap (m:Int)=(m:Int):=wrapI (by omega) (by omega)
  have hat:at_ s (m:Int)=s[m]:=at_in hlt
  have ql:=eq_true (show(m:Int)<(s.length:Int) by omega)
  have ql2:=eq_true (show(m:Int)+1≤(s.length:Int) by omega)
  rw [List.take_succ_eq_append_getElem hlt,Tg.Mi.back_snoc]at hq
  have hwh:=fun H:LH=>white_k (H:=H) (b:=s[m])
  cases hb:Tg.Mi.white s[m]with
  |true=>
   rw [hb]at hq hwh
   simp only [if_true]at hq
   simp [f0,f3,q0,hw,hw2,hat,ql,hwh]
   refine ih (k+1) _ _ (by omega) ⟨m,?_,?_,by omega,hq,rfl⟩
   all_goals simp [f0,hw,hw2]
  |false=>
   rw [hb]at hq hwh
   simp only [Bool.false_eq_true,if_false]at hq
   have ht:s.take (m+1)=R:=by rw [List.take_succ_eq_append_getElem hlt];exact hq
   have ht2:s.take ((m:Int)+1).toNat=R:=by rw [show((m:Int)+1).toNat=m+1 by omega];exact ht
   have qn:=eq_true (show(0:Int)≤(m:Int)+1 by omega)
   simp [f0,f3,q0,hw,hw2,hat,ql,ql2,qn,hwh,ht,ht2]
end
section
variable {H H':LH} {s t:List UInt8} {l i n:Nat}
end
section
variable {H H':LH} {s t:List UInt8} {l i n p:Nat}
end
end Go.Proofs.YtcgiaiimbnoknaaGreatDoor.Mi
namespace Go.Proofs.YtcgiaiimbnoknaaGreatDoor
open Go.Lg Go.Tg
theorem ran_of_sound {P:Program} {E:PEnv} {f:FuncId} {args:List Value} {H H':LH} {v:Value} (h:Sound P E (.call f args H (.ret v) H')):Ran P f args H v H':=by
 obtain⟨he,hc⟩:=h
 refine .inl ⟨he,fun ι w args' h1 h2 h3=>(hc ι w args' h1 h2 h3).mono ?_⟩
 rintro e w' ⟨ι',⟨v',rfl,hv⟩,ho⟩
 exact⟨ι',v',rfl,ho,hv⟩
noncomputable def asEJ (f:FuncId):FuncId×Lg.Spec:=(f,fun args H=>LC Tryz.prog EJ f args H)
theorem asEJ_ok {f:FuncId} :SpecOk Tryz.prog (asEJ f).1 (asEJ f).2:=fun args H v H' h=>tOk _ _ _ _ _ h
def specFilm:Lg.Spec:=fun args H=>match args with
 | [.string s]=>if s.size≤1000000 then some (str (Tg.Un.film s.data.toList),H)else none
 |_=>none
theorem ok_Film:SpecOk Tryz.prog 257 specFilm:=by
 intro args H v H' h
 unfold specFilm at h
 split at h
 ·rename_i s
  split at h
  ·rename_i hs
   simp only [Option.some.injEq,Prod.mk.injEq]at h
   obtain⟨rfl,rfl⟩:=h
   have hl:s.data.toList.length≤1000000:=by simpa using hs
   have:=ran_of_sound (soundU (Media_r (H:=H) (s:=s.data.toList) hl))
   rw [str_ba]
   exact this
  ·cases h
 ·cases h
open Classical in
noncomputable def specJson:Lg.Spec:=fun args H=>match args with
 | [.string s]=>if h: ∃b:Bool,R Tryz.prog EPu (.call 121 [.string s] H (.ret (.bool b)) H)then some (.bool (Classical.choose h),H)else none
 |_=>none
theorem ok_Json:SpecOk Tryz.prog 121 specJson:=by
 intro args H v H' h
 unfold specJson at h
 split at h
 ·rename_i s
  split at h
  ·rename_i hb
   simp only [Option.some.injEq,Prod.mk.injEq]at h
   obtain⟨rfl,rfl⟩:=h
   exact ran_of_sound (soundU (Classical.choose_spec hb))
  ·cases h
 ·cases h
def asL:List FuncId:=
 30::
 89::
 258::
 106::
 222::
 165::
 309::
 148::
 246::
 76::
 18::
 119::
 120::
 118::
 25::
 []
noncomputable def spL:List (FuncId×Lg.Spec):=
 (149,specFields)::
 (257,specFilm)::
 (121,specJson)::
 []
noncomputable def specsSn:List (FuncId×Lg.Spec):=spL++asL.map asEJ
namespace Sn
def pmT (n id k:Nat):List Nat:=if n=58∧id=13∧k=10 then [0,1,3,4,5,6,7,2,8,9]else []
attribute [simp] pmT
noncomputable def EJ:Ext:=⟨(extLL specsSn []).ext,⟨fun _=>false,chT,fun _ _=>false,pmT⟩⟩
@[simp] theorem EJ_cv {s d:TypeId} :EJ.loud.cv s d=false:=rfl
@[simp] theorem EJ_pm {n id k:Nat} :EJ.loud.pm n id k=pmT n id k:=rfl
@[simp] theorem EJ_ch {n id k:Nat} :EJ.loud.ch n id k=chT n id k:=rfl
@[simp] theorem EJ_loud {g:FuncId} :EJ.loud g=false:=rfl
theorem specs_ok: ∀p∈specsSn,SpecOk Tryz.prog p.1 p.2:=by
 intro p hp
 unfold specsSn at hp
 rcases List.mem_append.1 hp with hp|hp
 ·unfold spL at hp
  rcases List.mem_cons.1 hp with rfl|hp
  ·exact ok_Fields
  rcases List.mem_cons.1 hp with rfl|hp
  ·exact ok_Film
  rcases List.mem_cons.1 hp with rfl|hp
  ·exact ok_Json
  cases hp
 ·obtain⟨f,_,rfl⟩:=List.mem_map.1 hp
  exact asEJ_ok
theorem extOk:ExtOk Tryz.prog EJ:=fun f s hs=>extL_ok (loud:= []) specs_ok f s hs
theorem tOk:TOk Tryz.prog (LC Tryz.prog EJ):=LC_ok extOk mixed
section
variable {H:LH} {s t:List UInt8} {v w:Value}
theorem up {f:FuncId} {args:List Value} {r:Value×LH} (hf:EJ f=some (asEJ f).2) (h:LC Tryz.prog Go.Proofs.YtcgiaiimbnoknaaGreatDoor.EJ f args H=some r):LC Tryz.prog EJ f args H=some r:=LC_ext hf h
end
end Sn
section
variable {H:LH}
end
end Go.Proofs.YtcgiaiimbnoknaaGreatDoor
namespace Tg.Sn
open Tg.Un
def kind (s:List UInt8):List UInt8×Bool:=if film (s.take 1445)≠ []then(film (s.take 1445),true)else(typeOf (s.take 1445) imageL,false)
end Tg.Sn
namespace Go.Proofs.YtcgiaiimbnoknaaGreatDoor.Sn
open Go.Lg Go.Tg
section
variable {H:LH} {s t:List UInt8} {v w:Value}
end
abbrev jv (v:Int) (r:List UInt8) (n:Int) (b:Bool):Value:=.agg #[.int .i64 v,str r,.int .i64 n,.bool b]
section
variable {H:LH} {s t:List UInt8} {v w:Value}
end
abbrev mvp (a b:List UInt8) (p:Value):Value:=.agg #[str a,str b,p]
abbrev svp (a b:List UInt8) (p:Value) (h n g:Bool):Value:=.agg #[str a,str b,p,.bool h,.bool n,.bool g]
section
variable {H:LH} {s t:List UInt8} {pa:Option Addr} {pl pc:Nat}
theorem fields_k {u:List UInt8} {ws:List (List UInt8)} {n:Nat} (hl:u.length≤1000000) (ha:(u.all fun b=>decide (b.toNat<128))=true) (hf:Lib.fields u=ws) (hn:ws.length=n) (hw:n≤1000) (ht:Tab H):LC Tryz.prog EJ 149 [str u] H=some (sl H.n n n,H.new ⟨ws.map str,9,true⟩):=by
 refine LC_ext (s:=specFields) rfl ?_
 have e:(⟨u.toArray⟩:ByteArray).data.toList=u:=by simp
 simp only [specFields,str,e,hf,hn]
 have ha': ∀(j:Nat) b,u[j]?=some b→b.toNat<128:=fun j b hb=>by
  have:=List.all_eq_true.1 ha b (List.mem_of_getElem? hb)
  simpa using this
 rw [if_pos ⟨by rw [ba_size];omega,ha',ht,by simp [maxLen,hf,hn];omega⟩]
 rfl
theorem under_k {k u:List UInt8} {ws:List (List UInt8)} {n:Nat} (hl:u.length≤1000000) (ha:(u.all fun b=>decide (b.toNat<128))=true) (hf:Lib.fields u=ws) (hn:ws.length=n) (hw:n≤1000) (ht:Tab H):LC Tryz.prog EJ 107 [mvp s t (.slice pa pl pc),str k,str u] H=some (.bool (decide (s=k)&&decide (t∈ws)),H):=by
 refine LC_pure rfl Tryz.func107 rfl (Nat.le_of_ble_eq_true rfl) (by decide) (by kernel_rfl) rfl ?_
 by_cases h:s=k
 ·have h1:=fields_k (H:=H.new ⟨[str s,str t,.slice pa pl pc],113,true⟩) hl ha hf hn hw (show Tab (H.new _) from ht)
  have h2:LC Tryz.prog EJ 148 [sl (H.n+1) n n,str t] ((H.new ⟨[str s,str t,.slice pa pl pc],113,true⟩).new ⟨ws.map str,9,true⟩)=some (.bool (decide (t∈ws)),(H.new ⟨[str s,str t,.slice pa pl pc],113,true⟩).new ⟨ws.map str,9,true⟩):=by
   refine up rfl (contS_cl ?_ (by omega))
   rw [←hn]
   exact SRow.of (k:=(H.new ⟨[str s,str t,.slice pa pl pc],113,true⟩).n) (c:=ws.length) (rest:= []) (by rw [get_new,List.append_nil]) (Nat.lt_succ_self _)
  rw [decide_eq_true h,Bool.true_and]
  generalize decide (t∈ws)=b at*
  subst h
  simp only [n_new]at h1
  simp [h1,h2]
 ·rw [decide_eq_false h,Bool.false_and]
  have q:=eq_false h
  simp [q]
end
end Go.Proofs.YtcgiaiimbnoknaaGreatDoor.Sn
namespace Tg.Sn
end Tg.Sn
namespace Go.Proofs.YtcgiaiimbnoknaaGreatDoor.Sn
open Go.Lg Go.Tg
section
variable {H:LH} {s t:List UInt8} {pa:Option Addr} {pl pc:Nat}
end
section
variable {H:LH} {s t:List UInt8} {pa:Option Addr} {pl pc:Nat} {h n g:Bool}
theorem ess_k (h:s.length+t.length≤1000000):LC Tryz.prog EJ 115 [mvp s t (.slice pa pl pc)] H=some (str (s++47::t),H):=by
 have h1: ∀H:LH,LC Tryz.prog EJ 152 [mvp s t (.slice pa pl pc)] H=some (str (s++47::t),H):=fun H=>by
  refine LC_pure rfl Tryz.func152 rfl (Nat.le_of_ble_eq_true rfl) (by decide) (by kernel_rfl) rfl ?_
  have q1:=eq_true (show s.length+1≤9223372036854775807 by omega)
  have q2:=eq_true (show s.length+1+t.length≤9223372036854775807 by omega)
  simp [q1,q2]
 refine LC_pure rfl Tryz.func115 rfl (Nat.le_of_ble_eq_true rfl) (by decide) (by kernel_rfl) rfl ?_
 generalize s++47::t=e at*
 simp [h1]
end
end Go.Proofs.YtcgiaiimbnoknaaGreatDoor.Sn
namespace Tg.Mi
def semi (x:List UInt8):Nat:=until_ [59] x
def valP (x:List UInt8):List UInt8×Bool×Nat:=
 match x with
 |34::r=>((coll r).1,true,1+(coll r).2.2+semi (r.drop (coll r).2.2))
 |_=>(back white (x.take (semi x)),decide (back white (x.take (semi x))≠ []),semi x)
theorem coll_le: ∀x:List UInt8,(coll x).2.2≤x.length
 | []=>by simp [coll]
 |b::r=>by
  unfold coll
  split
  ·simp
  ·split
   ·cases r with
    |nil=>simp
    |cons c r'=>
     have:=coll_le r'
     simp only [List.length_cons]
     omega
   ·have:=coll_le r
    simp only [List.length_cons]
    omega
end Tg.Mi
namespace Go.Proofs.YtcgiaiimbnoknaaGreatDoor.Mi
open Go.Lg Go.Tg
section
variable {H H':LH} {N b l i:Nat} {s:List UInt8} {v:Value}
theorem OutC.set {j j':Nat} (h:OutC H l s j H') (hl:l<H.n):OutC H l s j' (H'.set l (cu s j')):=
 ⟨get_set,h.n,fun k hk hne=>by rw [get_set_ne hne];exact h.old k hk hne⟩
theorem val_q (hk:H.get l=some (cu s i)) (hl:l<H.n) (hi:i<s.length) (hs:s.length≤100000) (hq:s[i]=34) (hc:i+1+(Tg.Mi.coll (s.drop (i+1))).2.2≤s.length):
  ∃H',LC Tryz.prog EJ 319 [ptr l 0] H=some (.tuple #[str (Tg.Mi.coll (s.drop (i+1))).1,.bool true],H')∧OutC H l s (i+1+(Tg.Mi.coll (s.drop (i+1))).2.2+Tg.Mi.until_ [59] (s.drop (i+1+(Tg.Mi.coll (s.drop (i+1))).2.2))) H':=by
 have key: ∃r,LC Tryz.prog EJ 319 [ptr l 0] H=some (Lg.trunc H r)∧r.1=.tuple #[str (Tg.Mi.coll (s.drop (i+1))).1,.bool true]∧OutC H l s (i+1+(Tg.Mi.coll (s.drop (i+1))).2.2+Tg.Mi.until_ [59] (s.drop (i+1+(Tg.Mi.coll (s.drop (i+1))).2.2))) r.2:=by
  refine LC_runs (P:=Tryz.prog) (E:=EJ) (f:=319) rfl Tryz.func319 rfl (Nat.le_of_ble_eq_true rfl) (by decide) (by kernel_rfl) ?_
  have hp:=cpeek_k hk (by omega)
  rw [decide_eq_true hi,List.drop_eq_getElem_cons hi,hq]at hp
  have hp:LC Tryz.prog EJ 233 [ptr l 0,.int .i64 0] H=some (.tuple #[.int .u8 34,.bool true],H):=hp
  obtain⟨H1,e1,o1⟩:=Collect_ex (x:=true) hk hl hi hs hq
  simp only [if_true]at e1
  have hu:=cuntil_k (t:= [59]) o1.get (Nat.lt_of_lt_of_le hl o1.n) hc (by omega)
  simp [hp,e1,hu]
  exact o1.set hl
 obtain⟨⟨u,H1⟩,e,h1,h2⟩:=key
 simp only at h1 h2
 subst h1
 obtain⟨H2,e2,o2⟩:=h2.trunc hl (u:=.tuple #[str (Tg.Mi.coll (s.drop (i+1))).1,.bool true])
 exact⟨H2,by rw [e,e2],o2⟩
theorem val_n (hk:H.get l=some (cu s i)) (hl:l<H.n) (hi:i≤s.length) (hs:s.length≤100000) (hq:(s.drop i).head?≠some 34):
  ∃H',LC Tryz.prog EJ 319 [ptr l 0] H=some (.tuple #[str (Tg.Mi.back Tg.Mi.white ((s.drop i).take (Tg.Mi.until_ [59] (s.drop i)))),.bool (decide (Tg.Mi.back Tg.Mi.white ((s.drop i).take (Tg.Mi.until_ [59] (s.drop i)))≠ []))],H')∧OutC H l s (i+Tg.Mi.until_ [59] (s.drop i)) H':=by
 have hp:=cpeek_k hk hi
 have hu:=cuntil_k (t:= [59]) hk hl hi (by omega)
 have hm:=fun H:LH=>mback_k (H:=H) (s:=(s.drop i).take (Tg.Mi.until_ [59] (s.drop i))) (by rw [List.length_take,List.length_drop];omega)
 generalize (s.drop i).take (Tg.Mi.until_ [59] (s.drop i))=x at*
 generalize Tg.Mi.until_ [59] (s.drop i)=u at*
 have key: ∃r,LC Tryz.prog EJ 319 [ptr l 0] H=some (Lg.trunc H r)∧r.1=.tuple #[str (Tg.Mi.back Tg.Mi.white x),.bool (decide (Tg.Mi.back Tg.Mi.white x≠ []))]∧OutC H l s (i+u) r.2:=by
  refine LC_runs (P:=Tryz.prog) (E:=EJ) (f:=319) rfl Tryz.func319 rfl (Nat.le_of_ble_eq_true rfl) (by decide) (by kernel_rfl) ?_
  have fin:OutC H l s (i+u) (H.set l (cu s (i+u))):=⟨get_set,Nat.le_refl _,fun k _ hne=>get_set_ne hne⟩
  cases hd:s.drop i with
  |nil=>
   have hlt:decide (i<s.length)=false:=decide_eq_false (fun h=>by have:=List.length_drop (i:=i) (l:=s);rw [hd]at this;simp at this;omega)
   rw [hd,hlt]at hp
   have hp:LC Tryz.prog EJ 233 [ptr l 0,.int .i64 0] H=some (.tuple #[.int .u8 0,.bool false],H):=hp
   simp [hp,hu,hm]
   exact fin
  |cons b r=>
   rw [hd]at hp hq
   have hb:b≠34:=fun e=>hq (by rw [e];rfl)
   have hb:=eq_false (show¬(b.toNat:Int)=34 from fun e=>hb (UInt8.toNat_inj.mp (by show b.toNat=34;omega)))
   have hlt:decide (i<s.length)=true:=decide_eq_true (by have:=List.length_drop (i:=i) (l:=s);rw [hd]at this;simp at this;omega)
   rw [hlt]at hp
   have hp:LC Tryz.prog EJ 233 [ptr l 0,.int .i64 0] H=some (.tuple #[.int .u8 b.toNat,.bool true],H):=hp
   simp [hp,hb,hu,hm]
   exact fin
 obtain⟨⟨r1,H1⟩,e,h1,h2⟩:=key
 simp only at h1 h2
 subst h1
 obtain⟨H2,e2,o2⟩:=h2.trunc hl (u:=.tuple #[str (Tg.Mi.back Tg.Mi.white x),.bool (decide (Tg.Mi.back Tg.Mi.white x≠ []))])
 exact⟨H2,by rw [e,e2],o2⟩
end
section
variable {H H':LH} {s:List UInt8}
theorem count_k {g:FuncId} {p:UInt8→Bool} (hg: ∀(H:LH) (b:UInt8),LC Tryz.prog EJ g [.int .u8 b.toNat] H=some (.bool (p b),H)) (hs:s.length≤1000000):LC Tryz.prog EJ 323 [str s,.func (.func g) #[] #[]] H=some (.int .i64 (s.countP p:Nat),H):=by
 refine LC_pure rfl Tryz.func323 rfl (Nat.le_of_ble_eq_true rfl) (by decide) (by kernel_rfl) rfl ?_
 have hfn:=lbin_fn_ne (g:=g) (f:=#[]) (cp:=#[]) Tryz.underlying127
 simp
 refine loop_ind (fun(j:Nat) fr' H'=>fr' 0=str s∧fr' 1=.func (.func g) #[] #[]∧fr' 5=.int .i64 ((s.take j).countP p:Nat)∧fr' 6=.int .i64 j∧j≤s.length∧H=H') (fun j=>s.length-j) 0 ⟨by simp,by simp,by simp,by simp,Nat.zero_le _,rfl⟩ ?_
 rintro j fr' H' ⟨f0,f1,f5,f6,hj,rfl⟩ ih
 by_cases hlt:j<s.length
 ·have q0:=eq_true (show(j:Int)<(s.length:Int) by omega)
  have hw1:IntKind.i64.wrap ((j:Int)+1)=((j+1:Nat):Int):=by rw [wrapI (by omega) (by omega)];omega
  have hat:at_ s (j:Int)=s[j]:=at_in hlt
  have hcl:(s.take j).countP p≤j:=Nat.le_trans List.countP_le_length (by rw [List.length_take];omega)
  have hc:(s.take (j+1)).countP p=(s.take j).countP p+if p s[j]=true then 1 else 0:=by
   rw [List.take_succ_eq_append_getElem hlt,List.countP_append]
   simp [List.countP_cons]
  have hfin:=fun fr2 (g0:fr2 0=str s) (g1:fr2 1=.func (.func g) #[] #[]) (g5:fr2 5=.int .i64 ((s.take (j+1)).countP p:Nat)) (g6:fr2 6=.int .i64 ((j+1:Nat):Int))=>ih (j+1) fr2 H (by omega) ⟨g0,g1,g5,g6,by omega,rfl⟩
  rw [hc]at hfin
  have hgc:=fun H=>hg H s[j]
  clear ih hc
  generalize (s.take j).countP p=m at*
  generalize s[j]=c at*
  have hw2:IntKind.i64.wrap ((m:Int)+1)=((m+1:Nat):Int):=by rw [wrapI (by omega) (by omega)];omega
  cases hb:p c with
  |true=>
   rw [hb]at hgc hfin
   simp only [if_true]at hfin
   simp [f0,f1,f5,f6,q0,hat,hfn,hgc]
   refine hfin _ ?_ ?_ ?_ ?_
   all_goals simp [f0,f1,f5,hw1,hw2]
  |false=>
   rw [hb]at hgc hfin
   simp only [Bool.false_eq_true,if_false,Nat.add_zero]at hfin
   simp [f0,f1,f5,f6,q0,hat,hfn,hgc]
   refine hfin _ ?_ ?_ ?_ ?_
   all_goals simp [f0,f1,f5,hw1]
 ·have q0:=eq_false (show¬(j:Int)<(s.length:Int) by omega)
  rw [List.take_of_length_le (by omega)]at f5
  simp [f0,f1,f5,f6,q0,hfn]
theorem all_k {g:FuncId} {p:UInt8→Bool} (hg: ∀(H:LH) (b:UInt8),LC Tryz.prog EJ g [.int .u8 b.toNat] H=some (.bool (p b),H)) (hs:s.length≤1000000):LC Tryz.prog EJ 296 [str s,.func (.func g) #[] #[]] H=some (.bool (s.all p),H):=by
 refine LC_pure rfl Tryz.func296 rfl (Nat.le_of_ble_eq_true rfl) (by decide) (by kernel_rfl) rfl ?_
 have h1:=fun H:LH=>count_k (H:=H) (s:=s) hg hs
 have h2:s.all p=decide (((s.countP p:Nat):Int)=(s.length:Int)):=by
  rw [Bool.eq_iff_iff,decide_eq_true_eq,List.all_eq_true]
  have:=List.countP_eq_length (p:=p) (l:=s)
  constructor
  ·intro h;have:=this.2 h;omega
  ·intro h;exact this.1 (by omega)
 rw [h2]
 simp [h1]
end
end Go.Proofs.YtcgiaiimbnoknaaGreatDoor.Mi
namespace Tg.Mi
def tab (b:UInt8):Bool:=decide ((b.toNat:Int)=9)||decide ((b.toNat:Int)=32)
theorem back_pre (f:UInt8→Bool): ∀s:List UInt8,back f s=s.take (back f s).length
 | []=>by simp [back]
 |b::r=>by
  have ih:=back_pre f r
  unfold back
  split
  ·simp
  ·rw [List.length_cons,List.take_succ_cons,←ih]
theorem back_le (f:UInt8→Bool) (s:List UInt8):(back f s).length≤s.length:=by
 have:=congrArg List.length (back_pre f s)
 rw [List.length_take]at this
 omega
end Tg.Mi
namespace Go.Proofs.YtcgiaiimbnoknaaGreatDoor.Mi
open Go.Lg Go.Tg
section
variable {H H':LH} {s:List UInt8}
theorem tab_k {b:UInt8} :LC Tryz.prog EJ 241 [.int .u8 b.toNat] H=some (.bool (Tg.Mi.tab b),H):=by
 have h1: ∀H:LH,LC Tryz.prog EJ 276 [.int .u8 b.toNat] H=some (.bool (Tg.Mi.tab b),H):=fun H=>by
  refine LC_pure rfl Tryz.func276 rfl (Nat.le_of_ble_eq_true rfl) (by decide) (by kernel_rfl) rfl ?_
  unfold Tg.Mi.tab
  by_cases a1:(b.toNat:Int)=9
  ·simp [a1]
  ·have a1:=eq_false a1
   simp [a1]
 refine LC_pure rfl Tryz.func241 rfl (Nat.le_of_ble_eq_true rfl) (by decide) (by kernel_rfl) rfl ?_
 simp [h1]
theorem tabbed_k {b:UInt8} :LC Tryz.prog EJ 276 [.int .u8 b.toNat] H=some (.bool (Tg.Mi.tab b),H):=by
 refine LC_pure rfl Tryz.func276 rfl (Nat.le_of_ble_eq_true rfl) (by decide) (by kernel_rfl) rfl ?_
 unfold Tg.Mi.tab
 by_cases a1:(b.toNat:Int)=9
 ·simp [a1]
 ·have a1:=eq_false a1
  simp [a1]
theorem end_k {g:FuncId} {p:UInt8→Bool} (hg: ∀(H:LH) (b:UInt8),LC Tryz.prog EJ g [.int .u8 b.toNat] H=some (.bool (p b),H)) (hs:s.length≤1000000):LC Tryz.prog EJ 300 [str s,.func (.func g) #[] #[]] H=some (.int .i64 ((Tg.Mi.back p s).length:Nat),H):=by
 refine LC_pure rfl Tryz.func300 rfl (Nat.le_of_ble_eq_true rfl) (by decide) (by kernel_rfl) rfl ?_
 simp
 obtain⟨R,hR⟩: ∃R,R=Tg.Mi.back p s:=⟨_,rfl⟩
 rw [←hR]
 refine loop_ind (fun(k:Nat) fr' H'=> ∃j:Nat,fr' 0=str s∧fr' 1=.func (.func g) #[] #[]∧fr' 5=.int .i64 j∧j+k=s.length∧Tg.Mi.back p (s.take j)=R∧H=H') (fun k=>s.length-k) 0 ⟨s.length,by simp,by simp,by simp,by omega,by rw [List.take_length];exact hR.symm,rfl⟩ ?_
 rintro k fr' H' ⟨j,f0,f1,f5,hj,hq,rfl⟩ ih
 rcases Nat.eq_zero_or_pos j with h0|h0
 ·subst h0
  simp [Tg.Mi.back]at hq
  subst hq
  simp [f0,f1,f5]
 ·obtain⟨m,rfl⟩: ∃m,j=m+1:=⟨j-1,by omega⟩
  have hlt:m<s.length:=by omega
  have q0:=eq_true (show(0:Int)<(m:Int)+1 by omega)
  have hw2:IntKind.i64.wrap (m:Int)=(m:Int):=wrapI (by omega) (by omega)
  have hat:at_ s (m:Int)=s[m]:=at_in hlt
  have ql:=eq_true (show(m:Int)<(s.length:Int) by omega)
  rw [List.take_succ_eq_append_getElem hlt,Tg.Mi.back_snoc]at hq
  have hwh:=fun H:LH=>hg H s[m]
  cases hb:p s[m]with
  |true=>
   rw [hb]at hq hwh
   simp only [if_true]at hq
   simp [f0,f1,f5,q0,hw2,hat,ql,hwh]
   refine ih (k+1) _ _ (by omega) ⟨m,?_,?_,?_,by omega,hq,rfl⟩
   all_goals simp [f0,f1,hw2]
  |false=>
   rw [hb]at hq hwh
   simp only [Bool.false_eq_true,if_false]at hq
   have hl:R.length=m+1:=by rw [←hq,List.length_append,List.length_take];simp;omega
   have hl2:((m:Int)+1=(R.length:Int))=True:=eq_true (by omega)
   simp [f0,f1,f5,q0,hw2,hat,ql,hwh,hl]
theorem ends_k (hs:s.length≤1000000):LC Tryz.prog EJ 271 [str s] H=some (str (Tg.Mi.back Tg.Mi.tab s),H):=by
 refine LC_pure rfl Tryz.func271 rfl (Nat.le_of_ble_eq_true rfl) (by decide) (by kernel_rfl) rfl ?_
 have h1:=fun H:LH=>end_k (H:=H) (s:=s) (g:=276) (p:=Tg.Mi.tab) (fun H b=>tabbed_k) hs
 have hle:=Tg.Mi.back_le Tg.Mi.tab s
 have hp:=Tg.Mi.back_pre Tg.Mi.tab s
 have q:=eq_true (show(((Tg.Mi.back Tg.Mi.tab s).length:Nat):Int)≤(s.length:Int) by omega)
 generalize Tg.Mi.back Tg.Mi.tab s=y at*
 simp [h1,q,←hp]
theorem trim_k (hs:s.length≤1000000):LC Tryz.prog EJ 235 [str s] H=some (str ((Tg.Mi.back Tg.Mi.tab s).drop (Tg.Mi.while_ Tg.Mi.tab (Tg.Mi.back Tg.Mi.tab s))),H):=by
 refine LC_pure rfl Tryz.func235 rfl (Nat.le_of_ble_eq_true rfl) (by decide) (by kernel_rfl) rfl ?_
 have h1:=fun H:LH=>ends_k (H:=H) (s:=s) hs
 have hle:=Tg.Mi.back_le Tg.Mi.tab s
 generalize Tg.Mi.back Tg.Mi.tab s=y at*
 have h2:=cnew_k (H:=H) (s:=y)
 have h3:=cwhile_k (H:=H.new (cu y 0)) (s:=y) (l:=H.n) (i:=0) (g:=241) (p:=Tg.Mi.tab) (fun H b=>tab_k) get_new (by rw [n_new];omega) (Nat.zero_le _) (by omega)
 rw [List.drop_zero,Nat.zero_add]at h3
 have hw:=Tg.Mi.while_le Tg.Mi.tab y
 have h4:=crestall_k (H:=(H.new (cu y 0)).set H.n (cu y (Tg.Mi.while_ Tg.Mi.tab y))) (l:=H.n) get_set (by rw [n_set,n_new];omega) hw (by omega)
 generalize Tg.Mi.while_ Tg.Mi.tab y=u at*
 obtain⟨G1,hG1⟩: ∃G1,G1=H.new (cu y 0):=⟨_,rfl⟩
 rw [←hG1]at h2 h3 h4
 obtain⟨G2,hG2⟩: ∃G2,G2=G1.set H.n (cu y u):=⟨_,rfl⟩
 rw [←hG2]at h3 h4
 simp [h1,h2,h3,h4]
 rw [hG2,hG1]
 exact⟨by simp,fun k hk=>by simp [show k≠H.n by omega]⟩
end
end Go.Proofs.YtcgiaiimbnoknaaGreatDoor.Mi
namespace Go.Lg
open Go.Tg Go.RowKit
def Keeps (N:Nat) (S:TypeId→Prop) (H H':LH):Prop:=H.n≤H'.n∧ ∀k b,k<H.n→H.get k=some b→k<N∨S b.elem→H'.get k=some b
structure El (α:Type) where
 n:Nat
 S:TypeId→Prop
 ok:Nat→LH→List Value→α→Prop
 len: ∀ {N H cs a},ok N H cs a→cs.length=n
 cell: ∀ {N H cs a},ok N H cs a→cs.all cellB=true
 keep: ∀ {N H H' cs a},Keeps N S H H'→ok N H cs a→ok N H' cs a
 ro: ∀ {N H cs a},ok N H cs a→ok N H.ro cs a
def El.flat {α:Type} (n:Nat) (f:α→List Value) (h1: ∀a,(f a).length=n) (h2: ∀a,(f a).all cellB=true):El α:=
 ⟨n,fun _=>False,fun _ _ cs a=>cs=f a,fun h=>by rw [h];exact h1 _,fun h=>by rw [h];exact h2 _,fun _ h=>h,fun h=>h⟩
def elS:El (List UInt8):=El.flat 1 (fun a=> [str a]) (fun _=>rfl) (fun _=>by simp)
def RowG {α:Type} (E:El α) (e:TypeId) (N:Nat) (H:LH) (v:Value) (l:List α):Prop:=
 (v=.slice none 0 0∧l= [])∨ ∃(k o c:Nat) (b:LB),v=.slice (some ⟨k,o,none⟩) l.length c∧H.get k=some b∧k<H.n∧(k<N∨b.elem=e)∧o+l.length*E.n≤b.cells.length∧ ∀(i:Nat) (h:i<l.length),E.ok N H ((b.cells.drop (o+i*E.n)).take E.n) l[i]
def OwnG {α:Type} (E:El α) (e:TypeId) (N M:Nat) (H:LH) (v:Value) (l:List α):Prop:=
 ∃xs,RowN M H e E.n v l.length xs∧ ∀(i:Nat) (h:i<l.length),E.ok N H ((xs.drop (i*E.n)).take E.n) l[i]
section
variable {α:Type} {E:El α} {P:Program} {H H' H1:LH} {v x:Value} {l:List α} {a:α} {e t u:TypeId} {N M k:Nat} {S S':TypeId→Prop} {b:LB} {cs:List Value}
theorem Keeps.refl:Keeps N S H H:=⟨Nat.le_refl _,fun _ _ _ h _=>h⟩
theorem Keeps.le (h:H.le H'):Keeps N S H H':=⟨h.1,fun k b hk hb _=>by rw [h.2 k hk];exact hb⟩
theorem Keeps.trans (h:Keeps N S H H1) (g:Keeps N S H1 H'):Keeps N S H H':=⟨Nat.le_trans h.1 g.1,fun k b hk hb hs=>g.2 k b (Nat.lt_of_lt_of_le hk h.1) (h.2 k b hk hb hs) hs⟩
theorem Keeps.weak (h:Keeps N S H H') (hs: ∀t,S' t→S t):Keeps N S' H H':=⟨h.1,fun k b hk hb g=>h.2 k b hk hb (g.imp_right (hs _))⟩
theorem Keeps.new:Keeps N S H (H.new b):=⟨Nat.le_succ _,fun k b hk hb _=>by rw [get_new_ne (by omega)];exact hb⟩
theorem RowG.nil:RowG E e N H (.slice none 0 0) []:=.inl ⟨rfl,rfl⟩
theorem RowG.keep (h:RowG E e N H v l) (hk:Keeps N (fun t=>t=e∨E.S t) H H'):RowG E e N H' v l:=by
 rcases h with h|⟨k,o,c,b,h1,g1,g2,g3,g5,g4⟩
 ·exact .inl h
 ·exact .inr ⟨k,o,c,b,h1,hk.2 k b g2 g1 (g3.imp_right .inl),Nat.lt_of_lt_of_le g2 hk.1,g3,g5,fun i hi=>E.keep (hk.weak fun t=>.inr) (g4 i hi)⟩
theorem RowG.le (h:RowG E e N H v l) (hk:H.le H'):RowG E e N H' v l:=h.keep (.le hk)
theorem RowG.ro (h:RowG E e N H v l):RowG E e N H.ro v l:=by
 rcases h with h|⟨k,o,c,b,h1,g1,g2,g3,g5,g4⟩
 ·exact .inl h
 ·exact .inr ⟨k,o,c,{ b with rw:=false },h1,by rw [get_ro,g1];rfl,by rw [n_ro];exact g2,g3,g5,fun i hi=>E.ro (g4 i hi)⟩
theorem RowG.keep1 {c:Nat} (h:RowG E e N H v l) (hn:H.n≤H'.n) (hc:H.get c=some b) (hne:b.elem≠e) (hS: ¬E.S b.elem) (hN:N≤c) (hk: ∀k,k<H.n→k≠c→H'.get k=H.get k):RowG E e N H' v l:=
 h.keep ⟨hn,fun k b' hkn hb hor=>by
  by_cases hkc:k=c
  ·subst hkc
   rw [hc]at hb
   injection hb with hb
   subst hb
   rcases hor with h1|h1|h1
   ·omega
   ·exact absurd h1 hne
   ·exact absurd h1 hS
  ·rw [hk k hkn hkc];exact hb⟩
theorem RowG.slice (h:RowG E e N H v l): ∃ad n c,v=.slice ad n c:=by
 rcases h with⟨rfl,_⟩|⟨k,o,c,b,rfl,_⟩<;>exact⟨_,_,_,rfl⟩
theorem RowG.len (h:RowG E e N H v l) (hu:P.underlying t=some (.slice e)):lbuiltin P .len [t] [v] H'=some (.int .i64 l.length,H'):=by
 rcases h with⟨rfl,rfl⟩|⟨k,o,c,b,rfl,h2⟩
 ·exact lbuiltin_len_slice hu
 ·exact lbuiltin_len_slice hu
theorem RowG.cell (h:RowG E e N H v l):cellB v=true:=by
 obtain⟨ad,n,c,rfl⟩:=h.slice;simp
theorem RowG.flat (h:RowG E e N H v l) (hf:flatB v=true):RowG E e N H' v l:=by
 rcases h with h|⟨k,o,c,b,rfl,_⟩
 ·exact .inl h
 ·simp [flatB,flat1B,atomB]at hf
theorem RowG.at (h:RowG E e N H v l) (hu:P.underlying t=some (.slice e)) (hs:sz P e=some E.n) {i:Nat} (hi:i<l.length): ∃k o cs,(∀H':LH,lixa P t v (.int .i64 i) H'=some (ptr k o,H'))∧k<H.n∧E.ok N H cs l[i]∧ ∀H':LH,H'.get k=H.get k→
  (aggB P e=some true→lld P e (ptr k o) H'=some (.agg cs.toArray))∧(∀(j:Nat) (u:TypeId) (x:Value),aggB P u=some false→cs[j]?=some x→lld P u (ptr k (o+j)) H'=some x)∧(∀(j m:Nat) (u:TypeId),aggB P u=some true→sz P u=some m→j+m≤E.n→lld P u (ptr k (o+j)) H'=some (.agg ((cs.drop j).take m).toArray)):=by
 rcases h with⟨rfl,rfl⟩|⟨k,o,c,b,rfl,g1,g2,g3,g0,g4⟩
 ·simp at hi
 ·have g6:=g4 i hi
  have hm:i*E.n+E.n≤l.length*E.n:=by rw [←Nat.succ_mul];exact Nat.mul_le_mul_right _ hi
  have g5:o+i*E.n+E.n≤b.cells.length:=by omega
  refine⟨k,o+i*E.n,_,fun H'=>?_,g2,g6,fun H' he=>?_⟩
  ·rw [lixa_row hu hs (by omega) (by omega)]
   simp
  ·rw [g1]at he
   refine⟨fun ha=>?_,fun j u x ha hx=>?_,fun j m u ha hm hj=>?_⟩
   ·rw [lld_ptr he,ha,hs,lldb_agg g5]
   ·rw [lld_ptr he,ha,lldb_cell]
    rw [List.getElem?_take]at hx
    split at hx
    ·rw [List.getElem?_drop]at hx;exact hx
    ·cases hx
   ·rw [lld_ptr he,ha,hm,lldb_agg (by omega),List.drop_take,List.take_take,List.drop_drop,Nat.min_eq_left (by omega)]
theorem RowG.src (h:RowG E e N H v l) (hu:P.underlying t=some (.slice e)) (hs:lesz P e=some E.n): ∃xs,lesrc P t v H=some (l.length,xs)∧xs.length=l.length*E.n∧xs.all cellB=true∧ ∀(i:Nat) (h:i<l.length),E.ok N H ((xs.drop (i*E.n)).take E.n) l[i]:=by
 rcases h with⟨rfl,rfl⟩|⟨k,o,c,b,rfl,g1,g2,g3,g0,g4⟩
 ·exact⟨[],lesrc_nil hu hs,by simp,rfl,fun i hi=>by simp at hi⟩
 ·have hi2: ∀(i:Nat) (h:i<l.length),((((b.cells.drop o).take (l.length*E.n)).drop (i*E.n)).take E.n)=(b.cells.drop (o+i*E.n)).take E.n:=fun i hi=>by
   have hm:i*E.n+E.n≤l.length*E.n:=by rw [←Nat.succ_mul];exact Nat.mul_le_mul_right _ hi
   rw [List.drop_take,List.take_take,List.drop_drop,Nat.min_eq_left (by omega)]
  have hl:((b.cells.drop o).take (l.length*E.n)).length=l.length*E.n:=by rw [List.length_take,List.length_drop];omega
  refine⟨_,lesrc_row hu hs g1 g0,hl,?_,fun i hi=>by rw [hi2 i hi];exact g4 i hi⟩
  rw [List.all_eq_true]
  intro x hx
  obtain⟨q,hq,rfl⟩:=List.getElem_of_mem hx
  rw [hl]at hq
  have hn0:0<E.n:=by rcases Nat.eq_zero_or_pos E.n with h|h;rw [h]at hq;omega;exact h
  have hil:q/E.n<l.length:=by rw [Nat.div_lt_iff_lt_mul hn0];exact hq
  have hc:=E.cell (g4 _ hil)
  rw [←hi2 _ hil,List.all_eq_true]at hc
  refine hc _ ?_
  have hd:q=q/E.n*E.n+q%E.n:=by rw [Nat.mul_comm];exact(Nat.div_add_mod q E.n).symm
  have hmod:q%E.n<E.n:=Nat.mod_lt _ hn0
  have hm:q/E.n*E.n+E.n≤l.length*E.n:=by rw [←Nat.succ_mul];exact Nat.mul_le_mul_right _ hil
  generalize (b.cells.drop o).take (l.length*E.n)=ys at*
  rw [List.mem_iff_getElem]
  refine⟨q%E.n,by rw [List.length_take,List.length_drop];omega,?_⟩
  rw [List.getElem_take,List.getElem_drop]
  congr 1
  exact hd.symm
theorem OwnG.nil:OwnG E e N M H (.slice none 0 0) []:=⟨[],RowN.nil,fun i h=>by simp at h⟩
theorem OwnG.row (h:OwnG E e N M H v l):RowG E e N H v l:=by
 obtain⟨xs,h1,h2⟩:=h
 have hl:=h1.1
 rcases h1.2 with⟨rfl,h0⟩|⟨k,c,rest,rfl,g1,g2,g3,g4,g5⟩
 ·exact .inl ⟨rfl,List.eq_nil_of_length_eq_zero h0⟩
 ·refine .inr ⟨k,0,c,_,rfl,g3,g2,.inr rfl,by rw [List.length_append,hl];omega,fun i hi=>?_⟩
  have hm:i*E.n+E.n≤l.length*E.n:=by rw [←Nat.succ_mul];exact Nat.mul_le_mul_right _ hi
  simp only [Nat.zero_add]
  rw [List.drop_append_of_le_length (by omega),List.take_append_of_le_length (by rw [List.length_drop];omega)]
  exact h2 i hi
theorem OwnG.off_lt (h:OwnG E e N M H v l) (hk:k<M):offRow v k:=by obtain⟨xs,h1,_⟩:=h;exact h1.off_lt hk
theorem OwnG.off_elem (h:OwnG E e N M H v l) (hk:H.get k=some b) (hne:b.elem≠e):offRow v k:=by obtain⟨xs,h1,_⟩:=h;exact h1.off_of_elem hk hne
theorem OwnG.off_ge (h:OwnG E e N M H v l) (hk:H.n≤k):offRow v k:=by obtain⟨xs,h1,_⟩:=h;exact h1.off_ge hk
theorem OwnG.keep (h:OwnG E e N M H v l) (hk:Keeps N E.S H H') (hr: ∀k,M≤k→ ¬offRow v k→k<H.n→H'.get k=H.get k):OwnG E e N M H' v l:=by
 obtain⟨xs,h1,h2⟩:=h
 exact⟨xs,h1.keep hk.1 hr,fun i hi=>E.keep hk (h2 i hi)⟩
theorem OwnG.le (h:OwnG E e N M H v l) (hk:H.le H'):OwnG E e N M H' v l:=h.keep (.le hk) fun k _ _ hk2=>hk.2 k hk2
theorem OwnG.keep1 {c:Nat} (h:OwnG E e N M H v l) (hn:H.n≤H'.n) (hc:H.get c=some b) (hne:b.elem≠e) (hS: ¬E.S b.elem) (hN:N≤c) (hk: ∀k,k<H.n→k≠c→H'.get k=H.get k):OwnG E e N M H' v l:=
 h.keep ⟨hn,fun k b' hkn hb hor=>by
  by_cases hkc:k=c
  ·subst hkc
   rw [hc]at hb
   injection hb with hb
   subst hb
   rcases hor with h1|h1
   ·omega
   ·exact absurd h1 hS
  ·rw [hk k hkn hkc];exact hb⟩ fun k _ hno hkn=>hk k hkn fun e=>hno (e▸h.off_elem hc hne)
theorem OwnG.cell (h:OwnG E e N M H v l):cellB v=true:=by obtain⟨xs,h1,_⟩:=h;exact h1.cell
theorem OwnG.weak {M':Nat} (h:OwnG E e N M H v l) (hm:M'≤M):OwnG E e N M' H v l:=by
 obtain⟨xs,h1,h2⟩:=h
 refine⟨xs,⟨h1.1,?_⟩,h2⟩
 rcases h1.2 with h3|⟨k,c,rest,rfl,g1,g2⟩
 ·exact .inl h3
 ·exact .inr ⟨k,c,rest,rfl,Nat.le_trans hm g1,g2⟩
theorem OwnG.flat (h:OwnG E e N M H' v l) (hf:flatB v=true):OwnG E e N M H v l:=by
 obtain⟨xs,h1,h2⟩:=h
 rcases h1.2 with⟨rfl,h0⟩|⟨k,c,rest,rfl,_⟩
 ·obtain rfl:=List.eq_nil_of_length_eq_zero h0
  exact .nil
 ·simp [flatB,flat1B,atomB]at hf
theorem OwnG.app (h:OwnG E e N M H v l) (hu:P.underlying t=some (.slice e)) (hs:lesz P e=some E.n) (hN:N≤M) (hM:M≤H.n) (hl:l.length+1≤maxElems) (hc:E.ok N H cs a) (hS: ¬E.S e):
  ∃v' H2,lapp P t v (some (1,cs)) (H.new ⟨cs,e,true⟩)=some (v',H2)∧OwnG E e N M H2 v' (l++ [a])∧H.n<H2.n∧(∀k,k<H.n→offRow v k→H2.get k=H.get k)∧(∀k,k<H.n→offRow v k→offRow v' k)∧Keeps N (fun t=>t≠e) H H2:=by
 have h':=h.le (H':=H.new ⟨cs,e,true⟩) le_refl.new
 have hc':=E.keep (.le (H':=H.new ⟨cs,e,true⟩) le_refl.new) hc
 obtain⟨xs,h1,h2⟩:=h'
 obtain⟨v',H2,ha,hr,hk,hf⟩:=RowN.app (P:=P) (t:=t) (new:=cs) (m:=1) h1 hu hs (E.cell hc) (by rw [E.len hc,Nat.one_mul]) hl (by rw [n_new];omega) (.inl (Nat.le_refl 1))
 have kp:Keeps N (fun t=>t≠e) (H.new ⟨cs,e,true⟩) H2:=⟨hk.le,fun k b hkn hb hor=>by
  rw [←hb]
  refine hk.get k hkn ?_
  rcases hor with hor|hor
  ·exact h1.off_lt (by omega)
  ·exact h1.off_of_elem hb hor⟩
 refine⟨v',H2,ha,⟨xs++cs,by rw [List.length_append];exact hr,fun i hi=>?_⟩,?_,fun k hkn ho=>?_,fun k hkn ho=>hk.off k (by rw [n_new];omega) ho,Keeps.new.trans kp⟩
 ·have kS:Keeps N E.S (H.new ⟨cs,e,true⟩) H2:=kp.weak fun t ht he=>hS (he▸ht)
  have hxl:xs.length=l.length*E.n:=h1.1
  rcases Nat.lt_or_ge i l.length with hil|hil
  ·have hm:i*E.n+E.n≤l.length*E.n:=by rw [←Nat.succ_mul];exact Nat.mul_le_mul_right _ hil
   rw [List.drop_append_of_le_length (by omega),List.take_append_of_le_length (by rw [List.length_drop];omega),List.getElem_append_left hil]
   exact E.keep kS (h2 i hil)
  ·have hie:i=l.length:=by rw [List.length_append]at hi;simp at hi;omega
   subst hie
   rw [←hxl,List.drop_left,List.take_of_length_le (by rw [E.len hc];exact Nat.le_refl _),List.getElem_append_right (by omega)]
   simpa using E.keep kS hc'
 ·have:=hk.le;rw [n_new]at this;omega
 ·rw [hk.get k (by rw [n_new];omega) ho,get_new_ne (by omega)]
end
section
variable {α:Type} {E:El α} {P:Program} {H H':LH} {v w:Value} {l:List α} {e t:TypeId} {N M:Nat}
theorem OwnG.copy (h:RowG E e N H w l) (hu:P.underlying t=some (.slice e)) (hs:lesz P e=some E.n) (hl:l.length≤maxElems) (hM:M≤H.n):
  ∃v' H2,lapp P t (sl H.n 0 0) (lesrc P t w (H.new ⟨[],e,true⟩)) (H.new ⟨[],e,true⟩)=some (v',H2)∧OwnG E e N M H2 v' l∧H.le H2:=by
 have h':=h.le (H':=H.new ⟨[],e,true⟩) le_refl.new
 obtain⟨xs,x1,x2,x3,x4⟩:=h'.src hu hs
 have h1:RowN H.n (H.new ⟨[],e,true⟩) e E.n (sl H.n 0 0) 0 []:=⟨by simp,.inr ⟨H.n,0,[],rfl,Nat.le_refl _,by simp,by simp,Nat.le_refl _,by simp⟩⟩
 obtain⟨v',H2,ha,hr,hk,hf⟩:=RowN.app (P:=P) (t:=t) (new:=xs) (m:=l.length) h1 hu hs x3 x2 (by omega) (by rw [n_new];omega) (.inr full_new)
 rw [x1]
 have hle:H.le H2:=⟨by have:=hk.le;rw [n_new]at this;omega,fun k hkn=>by rw [hk.get k (by rw [n_new];omega) (h1.off_lt hkn),get_new_ne (by omega)]⟩
 refine⟨v',H2,ha,⟨xs,?_,fun i hi=>?_⟩,hle⟩
 ·rw [Nat.zero_add,List.nil_append]at hr
  refine⟨hr.1,?_⟩
  rcases hr.2 with h2|⟨k,c,rest,rfl,g1,g2,g3,g4,g5⟩
  ·exact .inl h2
  ·exact .inr ⟨k,c,rest,rfl,by omega,g2,g3,g4,g5⟩
 ·obtain⟨ys,y1,y2,y3,y4⟩:=h.src hu hs
  have hxy:lesrc P t w (H.new ⟨[],e,true⟩)=lesrc P t w H:=by
   rcases h with⟨rfl,rfl⟩|⟨k,o,c,b,rfl,g1,g2,g3,g0,g4⟩
   ·rw [lesrc_nil hu hs,lesrc_nil hu hs]
   ·rw [lesrc_row hu hs g1 g0,lesrc_row hu hs (by rw [get_new_ne (by omega)];exact g1) g0]
  rw [hxy,y1]at x1
  injection x1 with x1
  injection x1 with _ x1
  subst x1
  exact E.keep (.le hle) (y4 i hi)
end
section
variable {P:Program} {E:Ext} {f:FuncId} {args:List Value} {H H':LH}
def Gives (P:Program) (E:Ext) (f:FuncId) (args:List Value) (H:LH) (R:LH→Value→Prop):Prop:= ∃v H',LC P E f args H=some (v,H')∧H.le H'∧R H' v
theorem gives_of {R:LH→Value→Prop} (h: ∃r,LC P E f args H=some (trunc H r)∧(H.le r.2∧R r.2 r.1)) (hf: ∀v H',flatB v=true→R H' v→R H v):Gives P E f args H R:=by
 obtain⟨⟨v,H'⟩,h1,h2,h3⟩:=h
 rcases trunc_or v H H' with e|⟨e,g,_⟩
 ·exact⟨v,H',by rw [h1,e],h2,h3⟩
 ·exact⟨v,H,by rw [h1,e],le_refl,hf v H' g h3⟩
end
end Go.Lg
namespace Tg.Mi
def trimP (s:List UInt8):List UInt8:=(back tab s).drop (while_ tab (back tab s))
def cutQ:Nat→List UInt8→List UInt8→List (List UInt8)
 |0,_,acc=> [acc]
 |_+1,[],acc=> [acc]
 |n+1,b::r,acc=>if b=34 then cutQ n (r.drop (coll r).2.2) (acc++34::(coll r).2.1)else if b=44 then acc::cutQ n r []else cutQ n r (acc++ [b])
def splitP (s:List UInt8):List (List UInt8):=(cutQ s.length s []).map trimP
theorem cutQ_fuel: ∀(n m:Nat) (x acc:List UInt8),x.length≤n→x.length≤m→cutQ n x acc=cutQ m x acc
 |0,0,_,_,_,_=>rfl
 |0,m+1,x,acc,h,_=>by
  have:x= []:=List.eq_nil_of_length_eq_zero (by omega)
  subst this;rfl
 |n+1,0,x,acc,_,h=>by
  have:x= []:=List.eq_nil_of_length_eq_zero (by omega)
  subst this;rfl
 |n+1,m+1,[],acc,_,_=>rfl
 |n+1,m+1,b::r,acc,h1,h2=>by
  simp only [List.length_cons]at h1 h2
  have hd:(r.drop (coll r).2.2).length≤r.length:=by rw [List.length_drop];omega
  unfold cutQ
  rw [cutQ_fuel n m (r.drop (coll r).2.2) _ (by omega) (by omega),cutQ_fuel n m r [] (by omega) (by omega),cutQ_fuel n m r (acc++ [b]) (by omega) (by omega)]
theorem comma_F: ∀k:Fin 256,(Go.Lib.indexByte [34,44] (UInt8.ofNat k.1)<0↔UInt8.ofNat k.1≠34∧UInt8.ofNat k.1≠44):=by decide+kernel
theorem comma_iff (b:UInt8):Go.Lib.indexByte [34,44] b<0↔b≠34∧b≠44:=by
 have h:=comma_F ⟨b.toNat,b.toNat_lt⟩
 simpa using h
theorem cutQ_until: ∀(x acc:List UInt8) (n:Nat),x.length≤n→cutQ n x acc=cutQ n (x.drop (until_ [34,44] x)) (acc++x.take (until_ [34,44] x))
 | [],acc,n,_=>by simp [until_]
 |b::r,acc,n,hn=>by
  by_cases h:Go.Lib.indexByte [34,44] b<0
  ·obtain⟨h1,h2⟩:=(comma_iff b).1 h
   have e:until_ [34,44] (b::r)=until_ [34,44] r+1:=by
    conv=>lhs;unfold until_
    rw [if_pos h]
   obtain⟨m,rfl⟩: ∃m,n=m+1:=⟨n-1,by simp at hn;omega⟩
   rw [e,List.drop_succ_cons,List.take_succ_cons]
   simp only [List.length_cons]at hn
   have hd:(r.drop (until_ [34,44] r)).length≤r.length:=by rw [List.length_drop];omega
   conv=>lhs;unfold cutQ
   rw [if_neg h1,if_neg h2,cutQ_until r (acc++ [b]) m (by omega),cutQ_fuel m (m+1) _ _ (by omega) (by omega)]
   simp
  ·have e:until_ [34,44] (b::r)=0:=by
    conv=>lhs;unfold until_
    rw [if_neg h]
   rw [e];simp
theorem coll_all: ∀x:List UInt8,(coll x).2.1=x.take (coll x).2.2
 | []=>by simp [coll]
 |b::r=>by
  unfold coll
  split
  ·rename_i h;subst h;rfl
  ·split
   ·rename_i h;subst h
    cases r with
    |nil=>rfl
    |cons c r'=>
     have:=coll_all r'
     simp only [List.take_succ_cons,←this]
   ·have:=coll_all r
    simp only [List.take_succ_cons,←this]
theorem until_stopG {t:List UInt8} : ∀ {x:List UInt8} {b:UInt8} {r:List UInt8},x.drop (until_ t x)=b::r→ ¬Go.Lib.indexByte t b<0
 | [],b,r,h=>by simp [until_]at h
 |a::y,b,r,h=>by
  unfold until_ at h
  split at h
  ·exact until_stopG (x:=y) (by simpa using h)
  ·rename_i hn
   simp only [List.drop_zero,List.cons.injEq]at h
   obtain⟨rfl,_⟩:=h
   exact hn
end Tg.Mi
namespace Go.Proofs.YtcgiaiimbnoknaaGreatDoor
open Go.Lg Go.Tg
section
variable {H H':LH} {N b c:Nat} {t:List UInt8} {v:Value}
theorem Bld.keep1 (h:Bld N H b t v) (hn:H.n≤H'.n) (hne:b≠c) (ho:offRow v c) (hk: ∀k,k<H.n→k≠c→H'.get k=H.get k):Bld N H' b t v:=by
 obtain⟨p,hg,hp⟩:=h.get
 exact⟨⟨p,by rw [hk b h.lt hne];exact hg,hp⟩,h.row.keep hn fun k _ hno hkn=>hk k hkn (fun e=>hno (e▸ho)),h.full,h.off,Nat.lt_of_lt_of_le h.lt hn,Nat.le_trans h.N hn,h.nil⟩
theorem Bld.off_of {B:LB} (h:Bld N H b t v) (hg:H.get c=some B) (hne:B.elem≠5):offRow v c:=h.row.off_of_elem hg hne
end
end Go.Proofs.YtcgiaiimbnoknaaGreatDoor
namespace Go.Proofs.YtcgiaiimbnoknaaGreatDoor.Mi
open Go.Lg Go.Tg
section
variable {H H':LH} {N M b c l i:Nat} {s t:List UInt8} {v w p:Value} {xs:List (List UInt8)}
theorem reset_k (hg:H.get b=some ⟨[p,v],207,true⟩) (hb:b<H.n):LC Tryz.prog EJ 237 [ptr b 0] H=some (.tuple #[],H.set b ⟨[.pointer none,.slice none 0 0],207,true⟩):=by
 obtain⟨r,h,e⟩:=LC_runs (P:=Tryz.prog) (E:=EJ) (f:=237) rfl Tryz.func237 rfl (Nat.le_of_ble_eq_true rfl) (by decide) (by kernel_rfl) (H:=H) (args:= [ptr b 0]) (Q:=fun r=>r=(.tuple #[],H.set b ⟨[.pointer none,.slice none 0 0],207,true⟩)) (by simp [hg])
 rw [h,e,trunc_set hg hb]
theorem own_no_touch {N':Nat} {α:Type} {E:El α} {e:TypeId} {zs:List α} (h:OwnG E e N M H w zs) (hb:Bld N' H b t v) (hne:e≠5) {k:Nat} (hk: ¬offRow w k):offRow v k:=by
 obtain⟨xs,h1,_⟩:=h
 rcases h1.2 with⟨rfl,_⟩|⟨k',c',rest,rfl,_,_,g,_⟩
 ·exact absurd off_nil hk
 ·by_cases e2:k=k'
  ·subst e2;exact hb.off_of g hne
  ·exact absurd (fun n c e=>e2 (by injection e with e;injection e with e;injection e with e;exact e.symm)) hk
end
end Go.Proofs.YtcgiaiimbnoknaaGreatDoor.Mi
namespace Go.Proofs.YtcgiaiimbnoknaaGreatDoor
open Go.Lg Go.Tg
section
variable {H:LH} {b:UInt8} {s p:List UInt8}
theorem digit_cl:LC Tryz.prog EJ 223 [.int .u8 b.toNat] H=some (.bool (Tg.Ur.isD b),H):=by
 refine LC_pure rfl Tryz.func223 rfl (Nat.le_of_ble_eq_true rfl) (by decide) (by kernel_rfl) rfl ?_
 unfold Tg.Ur.isD
 by_cases h1:(48:Int)≤b.toNat<;>by_cases h2:(b.toNat:Int)≤57<;>simp [h1,h2]
theorem wrap8 {n:Int} :IntKind.u8.wrap n=n%256:=IntKind.wrap_u8 _
theorem great_cl:LC Tryz.prog EJ 273 [.int .u8 b.toNat] H=some (.bool (decide ((65:Int)≤b.toNat)&&decide ((b.toNat:Int)≤90)),H):=by
 refine LC_pure rfl Tryz.func273 rfl (Nat.le_of_ble_eq_true rfl) (by decide) (by kernel_rfl) rfl ?_
 by_cases h1:(65:Int)≤b.toNat<;>by_cases h2:(b.toNat:Int)≤90<;>simp [h1,h2]
theorem low_cl:LC Tryz.prog EJ 238 [.int .u8 b.toNat] H=some (.int .u8 (Tg.Lo.low b).toNat,H):=by
 refine LC_pure rfl Tryz.func238 rfl (Nat.le_of_ble_eq_true rfl) (by decide) (by kernel_rfl) rfl ?_
 unfold Tg.Lo.low
 have hlt:=b.toNat_lt
 by_cases h1:(65:Int)≤b.toNat<;>by_cases h2:(b.toNat:Int)≤90
 ·have e:(b+32).toNat=b.toNat+32:=by rw [UInt8.toNat_add];show(b.toNat+32)%256=_;omega
  have hw:IntKind.u8.wrap ((b.toNat:Int)+32)=((b+32).toNat:Int):=by rw [wrap8,e];omega
  simp [great_cl,h1,h2,hw]
 all_goals simp [great_cl,h1,h2]
theorem low_eq {a b:UInt8} :(((Tg.Lo.low a).toNat:Int)=((Tg.Lo.low b).toNat:Int))=(Tg.Lo.low a=Tg.Lo.low b):=by
 apply propext
 constructor
 ·intro h;exact UInt8.toNat_inj.1 (by omega)
 ·intro h;rw [h]
theorem same_cl (hs:s.length≤9223372036854775806):LC Tryz.prog EJ 189 [str s,str p] H=some (.bool (decide (Tg.Lo.lower s=Tg.Lo.lower p)),H):=by
 refine LC_pure rfl Tryz.func189 rfl (Nat.le_of_ble_eq_true rfl) (by decide) (by kernel_rfl) rfl ?_
 by_cases hl:s.length=p.length
 ·have q1:((s.length:Int)=(p.length:Int))=True:=eq_true (by omega)
  refine runs_cut 2 (fun fr' H'=>fr' 0=str s∧fr' 1=str p∧H'=H) ?_ (fun K hK=>?_) rfl
  ·rintro fr' H' ⟨h0,h1,rfl⟩
   simp [h0,h1]
   refine loop_ind (fun(i:Nat) fr2 H2=>fr2 0=str s∧fr2 1=str p∧fr2 12=.int .i64 s.length∧fr2 13=.int .i64 i∧i≤s.length∧Tg.Lo.lower (s.take i)=Tg.Lo.lower (p.take i)∧H2=H') (fun i=>s.length-i) 0 ⟨by simp [h0],by simp [h1],by simp,by simp,by simp,by simp,rfl⟩ ?_
   rintro i fr2 H2 ⟨g0,g1,g12,g13,hi,he,rfl⟩ ih
   by_cases hlt:i<s.length
   ·have hlp:i<p.length:=by omega
    have a1:=at_in hlt
    have a2:=at_in hlp
    have hw:IntKind.i64.wrap ((i:Int)+1)=((i+1:Nat):Int):=by rw [wrapI (by omega) (by omega)];omega
    have t1:s.take (i+1)=s.take i++ [s[i]]:=List.take_succ_eq_append_getElem hlt
    have t2:p.take (i+1)=p.take i++ [p[i]]:=List.take_succ_eq_append_getElem hlp
    have hle:=@low_eq s[i] p[i]
    by_cases hc:Tg.Lo.low s[i]=Tg.Lo.low p[i]
    ·have qc:=eq_true hc
     rw [qc]at hle
     have hn:Tg.Lo.lower (s.take (i+1))=Tg.Lo.lower (p.take (i+1)):=by
      rw [t1,t2];unfold Tg.Lo.lower at he⊢;rw [List.map_append,List.map_append,he];simp [hc]
     have hc':=congrArg UInt8.toNat hc
     generalize hi1:i+1=i1 at*
     simp [g0,g1,g12,g13,hlt,hlp,a1,a2,low_cl,hle,hc,hw]
     exact ih i1 _ _ (by omega) ⟨by simp [g0],by simp [g1],by simp [g12],by simp,by omega,hn,rfl⟩
    ·have qc:=eq_false hc
     rw [qc]at hle
     have hne: ¬Tg.Lo.lower s=Tg.Lo.lower p:=by
      intro h
      have:=congrArg (fun l=>l[i]?) h
      simp [Tg.Lo.lower,hlt,hlp]at this
      exact hc this
     simp [g0,g1,g12,g13,hlt,hlp,a1,a2,low_cl,hle,hc,hne]
   ·have e1:s.take i=s:=List.take_of_length_le (by omega)
    have e2:p.take i=p:=List.take_of_length_le (by omega)
    rw [e1,e2]at he
    simp [g0,g1,g12,g13,hlt,he]
  ·simp [q1]
   exact hK _ _ ⟨by simp,by simp,rfl⟩
 ·have q1:((s.length:Int)=(p.length:Int))=False:=eq_false (by omega)
  have hne: ¬Tg.Lo.lower s=Tg.Lo.lower p:=by
   intro h
   have:=congrArg List.length h
   simp [Tg.Lo.lower]at this
   exact hl this
  simp [q1,hne]
end
end Go.Proofs.YtcgiaiimbnoknaaGreatDoor
namespace Tg.Ur
end Tg.Ur
namespace Go.Proofs.YtcgiaiimbnoknaaGreatDoor
open Go.Lg Go.Tg
section
variable {H:LH} {b:UInt8} {s p:List UInt8}
theorem dw_le {q:UInt8→Bool} (s:List UInt8):(s.dropWhile q).length≤s.length:=(List.dropWhile_suffix q).length_le
end
end Go.Proofs.YtcgiaiimbnoknaaGreatDoor
namespace Tg.Ur
end Tg.Ur
namespace Go.Proofs.YtcgiaiimbnoknaaGreatDoor
open Go.Lg Go.Tg
section
variable {H:LH} {b:UInt8} {s p:List UInt8}
theorem Bld.new {N b:Nat} {l:List UInt8} {v:Value} {x:LB} (h:Bld N H b l v):Bld N (H.new x) b l v:=
 ⟨by obtain⟨p,hg,hp⟩:=h.get;exact⟨p,by rw [get_new_ne (by have:=h.lt;omega)];exact hg,hp⟩,h.row.keep (Nat.le_succ _) (fun k _ _ hk=>get_new_ne (by omega)),h.full,h.off,by rw [n_new];have:=h.lt;omega,by rw [n_new];have:=h.N;omega,h.nil⟩
theorem Bld.off_lt {N b k:Nat} {l:List UInt8} {v:Value} (h:Bld N H b l v) (hk:k<N):offRow v k:=by
 intro n c e
 rcases h.row.2 with⟨rfl,_⟩|⟨k',c',rest,rfl,g1,_⟩
 ·cases e
 ·injection e with e;injection e with e;injection e with e;omega
theorem Bld.first:Bld H.n (H.new ⟨[.pointer none,.slice none 0 0],207,true⟩) H.n [] (.slice none 0 0):=
 ⟨⟨_,get_new,.inl rfl⟩,RowN.nil,(by unfold Full;simp),(fun _ _ e=>by cases e),(by rw [n_new];omega),(by rw [n_new];omega),fun _=>rfl⟩
end
end Go.Proofs.YtcgiaiimbnoknaaGreatDoor
namespace Tg.Ur
open Go
end Tg.Ur
namespace Go.Proofs.YtcgiaiimbnoknaaGreatDoor
open Go.Lg Go.Tg
section
variable {H:LH} {b:UInt8} {s p:List UInt8}
theorem out_app {v:Value} {acc:List (List UInt8)} {N:Nat} {x:List UInt8} (h:RowN N H 9 1 v acc.length (acc.map str)) (hN:N≤H.n) (hl:acc.length≤100000):
  ∃v' H2,lapp Tryz.prog 84 v (some (1,[str x])) (H.new ⟨[str x],9,true⟩)=some (v',H2)∧RowN N H2 9 1 v' (acc++ [x]).length ((acc++ [x]).map str)∧N≤H2.n∧ ∀k,k<N→H2.get k=H.get k:=by
 have h2:RowN N (H.new ⟨[str x],9,true⟩) 9 1 v acc.length (acc.map str):=h.keep (Nat.le_succ _) (fun k _ _ hk=>get_new_ne (by omega))
 obtain⟨v',H2,ha,hr,hk,_⟩:=h2.app (t:=84) (new:= [x].map str) (m:=1) Tryz.underlying84 (by kernel_rfl) (by simp) (by simp) (by unfold maxElems;omega) (by rw [n_new];omega) (.inl (Nat.le_refl 1))
 refine⟨v',H2,ha,by rw [List.length_append,List.map_append];exact hr,Nat.le_trans (by rw [n_new];omega) hk.le,fun k hkn=>?_⟩
 rw [hk.get k (by rw [n_new];omega) (h.off_lt hkn),get_new_ne (by omega)]
end
end Go.Proofs.YtcgiaiimbnoknaaGreatDoor
namespace Tg.Nu
def isD (b:UInt8):Bool:=decide (48≤(b.toNat:Int))&&decide ((b.toNat:Int)≤57)
def isE (b:UInt8):Bool:=decide (b=101)||decide (b=69)
def wh (st:Nat):Bool:=st==2||st==3||st==5||st==8
def nx (st:Nat) (b:UInt8):Nat:=
 if st=0∨st=1 then
  if b=45∧st=0 then 1 else if b=48 then 2 else if isD b then 3 else 9
 else if(st=4∨st=5)∧isD b then 5
 else if st=6∨st=7∨st=8 then
  if isD b then 8 else if st=6∧(b=43∨b=45)then 7 else 9
 else if st=3∧isD b then 3
 else if b=46∧(st=2∨st=3)then 4
 else if isE b∧wh st then 6 else 9
def en (st:Nat) (s:List UInt8):Nat:=s.foldl nx st
def acc (st:Nat) (s:List UInt8):Bool:=wh (en st s)
def hd:List UInt8→Bool
 | []=>false
 |c::_=>isD c
def all8 (v:List UInt8):Bool:=hd v&&(v.dropWhile isD).isEmpty
def B6 (r:List UInt8):Bool:=
 match r with
 | []=>false
 |c::q=>if c=43∨c=45 then all8 q else all8 r
def B2 (u:List UInt8):Bool:=
 match u with
 | []=>true
 |c::r=>isE c&&B6 r
theorem drop_take (u:List UInt8):u.drop (u.takeWhile isD).length=u.dropWhile isD:=by
 induction u with
 |nil=>rfl
 |cons b u ih=>
  rw [List.takeWhile_cons,List.dropWhile_cons]
  split
  ·simpa using ih
  ·rfl
end Tg.Nu
namespace Tg.Nu
open Go
theorem any_cons (b:UInt8) (l c:List UInt8):Lib.indexAny (b::l) c=if c.contains b then 0 else if Lib.indexAny l c== -1 then -1 else Lib.indexAny l c+1:=rfl
def digs (l:List UInt8):Prop:= ∀b∈l,isD b=true
def eoT:Option (UInt8×List UInt8×List UInt8)→List UInt8
 |none=> []
 |some (e,sg,ep)=>e::(sg++ep)
def foT:Option (List UInt8)→List UInt8
 |none=> []
 |some f=>46::f
structure Num where
 neg:Bool
 ip:List UInt8
 f:Option (List UInt8)
 e:Option (UInt8×List UInt8×List UInt8)
def OkE:Option (UInt8×List UInt8×List UInt8)→Prop
 |none=>True
 |some (c,sg,ep)=>isE c=true∧(sg= []∨sg= [43]∨sg= [45])∧digs ep∧ep≠ []
def OkF:Option (List UInt8)→Prop
 |none=>True
 |some f=>digs f
structure Num.Ok (n:Num):Prop where
 ip:digs n.ip
 ip0:n.ip≠ []
 f:OkF n.f
 e:OkE n.e
def Num.head (n:Num):List UInt8:=n.ip++foT n.f
def Num.body (n:Num):List UInt8:=n.head++eoT n.e
def Num.text (n:Num):List UInt8:=(if n.neg then [45]else [])++n.body
def nz (b:UInt8):Bool:=b==48
def lead (l:List UInt8):List UInt8:=l.dropWhile nz
def trail (l:List UInt8):List UInt8:=(l.reverse.dropWhile nz).reverse
def Num.fp (n:Num):List UInt8:=match n.f with|none=> []|some f=>f
def Num.all (n:Num):List UInt8:=lead (n.ip++n.fp)
def Num.short (n:Num):List UInt8:=trail n.all
theorem Num.Ok.cons {n:Num} (h:n.Ok): ∃c r,n.ip=c::r∧isD c=true:=by
 cases hip:n.ip with
 |nil=>exact absurd hip h.ip0
 |cons c r=>exact⟨c,r,rfl,h.ip c (by rw [hip];simp)⟩
end Tg.Nu
namespace Tg.Nu
def cat (d l:List UInt8):List UInt8:=if d≠ []then d++l else lead l
end Tg.Nu
namespace Go.Proofs.YtcgiaiimbnoknaaGreatDoor
open Go.Lg Go.Tg
section
open Tg.Nu
variable {H:LH} {b:UInt8} {s t:List UInt8}
end
section
variable {H:LH} {b:UInt8} {s t:List UInt8}
end
end Go.Proofs.YtcgiaiimbnoknaaGreatDoor
namespace Tg.Ur
def textP (u:Url):List UInt8:=u.scheme++ [58,47,47]++u.host++(if u.port≠0 then 58::Go.Lib.itoa u.port else [])++u.path++u.query
def text (u:Url):List UInt8:=if good u then textP u else []
def port (u:Url):Int:=if own u.scheme=0∨u.port=0 then own u.scheme else u.port
def origin (u:Url):List UInt8:=if good u then u.scheme++ [58,47,47]++u.host++ [58]++Go.Lib.itoa (port u)else []
end Tg.Ur
namespace Go.Proofs.YtcgiaiimbnoknaaGreatDoor
open Go.Lg Go.Tg
section
variable {H:LH} {b:UInt8} {s t:List UInt8}
@[simp] theorem lfill_cell' {P:Program} {t:TypeId} {cs:List Value} {i:Nat} {q:Nat×Nat×Bool} {v:Value} {ps:List (Nat×Value)} (hf:fldi P t i=some q) (hn:q.2.1=1) (hv:cellB v=true) (ho:q.1<cs.length):lfill P t cs ((i,v)::ps)=lfill P t (cs.set q.1 v) ps:=by
 obtain⟨o,n,g⟩:=q
 exact lfill_cell hf hn hv ho
end
end Go.Proofs.YtcgiaiimbnoknaaGreatDoor
namespace Tg.Hd
open Go.Lg (str)
abbrev Hdr:=List UInt8×List UInt8
def white (b:UInt8):Bool:=([9,10,13,32]:List UInt8).contains b
def trimE (s:List UInt8):List UInt8:=(s.reverse.dropWhile white).reverse
def trim (s:List UInt8):List UInt8:=(trimE s).dropWhile white
def signs:List UInt8:= [33,35,36,37,38,39,42,43,45,46,94,95,124,126,96]
def isL (b:UInt8):Bool:=(decide ((97:Int)≤b.toNat)&&decide ((b.toNat:Int)≤122))||(decide ((65:Int)≤b.toNat)&&decide ((b.toNat:Int)≤90))
def isD (b:UInt8):Bool:=decide ((48:Int)≤b.toNat)&&decide ((b.toNat:Int)≤57)
def tok (b:UInt8):Bool:=isL b||isD b||signs.contains b
def free (of s:List UInt8):Bool:=s.all fun b=>!of.contains b
def fine (h:Hdr):Bool:=decide (h.1≠ [])&&h.1.all tok&&decide (trim h.2=h.2)&&free [0,13,10] h.2&&decide (h.2.length≤8192)
def good (l:List Hdr):Bool:=decide (l.length≤100)&&l.all fine
def cells (l:List Hdr):List Go.Value:=l.flatMap fun h=> [str h.1,str h.2]
theorem cells_cons (h:Hdr) (l:List Hdr):cells (h::l)=str h.1::str h.2::cells l:=rfl
theorem cells_app (a b:List Hdr):cells (a++b)=cells a++cells b:=List.flatMap_append
theorem cells_len: ∀l:List Hdr,(cells l).length=l.length*2
 | []=>rfl
 |h::l=>by rw [cells_cons];simp [cells_len l];omega
theorem cells_at: ∀ {l:List Hdr} {i:Nat} (h:i<l.length) (r:List Go.Value),((cells l++r).drop (i*2)).take 2= [str l[i].1,str l[i].2]∧(cells l++r)[i*2]?=some (str l[i].1)∧(cells l++r)[i*2+1]?=some (str l[i].2)
 | [],i,h,_=>by simp at h
 |x::l,0,h,r=>by rw [cells_cons];exact⟨rfl,rfl,rfl⟩
 |x::l,i+1,h,r=>by
  have ih:=cells_at (l:=l) (i:=i) (by simpa using h) r
  rw [cells_cons,show(i+1)*2=i*2+2 by omega]
  exact ih
def stripR (t:List UInt8):List UInt8:=if t.getLast?=some 13 then t.dropLast else t
def upto (c:UInt8) (t:List UInt8):Nat:=(t.takeWhile fun b=>!(b==c)).length
def lineP (t:List UInt8):Option Hdr:=
 if t.contains 58 then
  let h:Hdr:=(t.take (upto 58 t),trim (t.drop (upto 58 t+1)))
  if fine h then some h else none
 else none
def rows:List (List UInt8)→Nat→List Hdr→List Hdr×Int×Int
 | [],_,acc=>if 100<acc.length then([],0,6)else(acc,0,0)
 |t::l,n,acc=>if stripR t= []then rows l (n+1) acc else match lineP (stripR t)with
  |none=>([],((n+1:Nat):Int),2)
  |some h=>rows l (n+1) (acc++ [h])
def text (l:List Hdr):List UInt8:=l.flatMap fun h=>h.1++ [58,32]++h.2++ [13,10]
def few (l:List Hdr) (n:Nat):List Hdr:=(l.take n).map fun h=>(h.1.take 30,h.2.take 100)
def same (a b:List UInt8):Bool:=decide (a.map Tg.Lo.low=b.map Tg.Lo.low)
end Tg.Hd
namespace Tg.Hd
structure FineP (h:Hdr):Prop where
 ne:h.1≠ []
 tok: ∀b∈h.1,tok b=true
 trim:trim h.2=h.2
 free: ∀b∈h.2,b≠0∧b≠13∧b≠10
 len:h.2.length≤8192
end Tg.Hd
namespace Go.Proofs.YtcgiaiimbnoknaaGreatDoor
open Go.Lg Go.Tg
section
variable {H:LH} {b:UInt8} {s t:List UInt8}
theorem white_cl:LC Tryz.prog EJ 253 [.int .u8 b.toNat] H=some (.bool (Tg.Hd.white b),H):=by
 refine LC_pure rfl Tryz.func253 rfl (Nat.le_of_ble_eq_true rfl) (by decide) (by kernel_rfl) rfl ?_
 by_cases h1:b=9
 ·subst h1;simp [Tg.Hd.white]
 by_cases h2:b=10
 ·subst h2;simp [Tg.Hd.white]
 by_cases h3:b=13
 ·subst h3;simp [Tg.Hd.white]
 by_cases h4:b=32
 ·subst h4;simp [Tg.Hd.white]
 simp [Tg.Hd.white,h1,h2,h3,h4]
theorem end_cl {g:FuncId} {q:UInt8→Bool} (hg: ∀(b:UInt8) (H:LH),LC Tryz.prog EJ g [.int .u8 b.toNat] H=some (.bool (q b),H)) (hs:s.length≤9223372036854775806):
  LC Tryz.prog EJ 300 [str s,.func (.func g) #[] #[]] H=some (.int .i64 ((s.reverse.dropWhile q).length:Nat),H):=by
 refine LC_pure rfl Tryz.func300 rfl (Nat.le_of_ble_eq_true rfl) (by decide) (by kernel_rfl) rfl ?_
 obtain⟨x,hx⟩: ∃x,x=(s.reverse.dropWhile q).length:=⟨_,rfl⟩
 rw [←hx]
 simp
 refine loop_ind (fun(i:Nat) fr' H'=>fr' 0=str s∧fr' 1=.func (.func g) #[] #[]∧fr' 5=.int .i64 i∧i≤s.length∧x=((s.take i).reverse.dropWhile q).length∧H'=H) (fun i=>i) s.length ⟨by simp,by simp,by simp,Nat.le_refl _,by rw [List.take_length];exact hx,rfl⟩ ?_
 rintro i fr' H' ⟨h0,h1,h5,hi,hc,rfl⟩ ih
 by_cases hz:0<i
 ·have q0:=eq_true (show(0:Int)<(i:Int) by omega)
  have hlt:i-1<s.length:=by omega
  have hw:IntKind.i64.wrap ((i:Int)-1)=((i-1:Nat):Int):=by rw [wrapI (by omega) (by omega)];omega
  have hat:at_ s ((i-1:Nat):Int)=s[i-1]:=at_in hlt
  have q1:=eq_true (show((i-1:Nat):Int)<(s.length:Int) by omega)
  have e:s.take i=s.take (i-1)++ [s[i-1]]:=by
   have:=List.take_succ_eq_append_getElem hlt
   rw [show i-1+1=i by omega]at this
   exact this
  rw [e,List.reverse_append,List.reverse_singleton,List.singleton_append,List.dropWhile_cons]at hc
  have hgc:=hg s[i-1]
  generalize s[i-1]=c at*
  generalize hk:i-1=k at*
  cases hq:q c with
  |true=>
   rw [hq]at hc hgc
   rw [if_pos rfl]at hc
   simp [h0,h1,h5,q0,hz,hw,hat,q1,hlt,hgc]
   refine ih k _ _ (by omega) ⟨?_,?_,?_,by omega,hc,rfl⟩
   all_goals simp [h0,h1,hw]
  |false=>
   rw [hq]at hc hgc
   rw [if_neg (by decide)]at hc
   have hxi:x=i:=by rw [hc];simp;omega
   subst hxi
   simp [h0,h1,h5,q0,hz,hw,hat,q1,hlt,hgc]
 ·have q0:=eq_false (show¬(0:Int)<(i:Int) by omega)
  have hi0:i=0:=by omega
  subst hi0
  have hx0:x=0:=by rw [hc];rfl
  subst hx0
  simp [h0,h1,h5]
theorem trimE_take:Tg.Hd.trimE s=s.take (s.reverse.dropWhile Tg.Hd.white).length:=by
 have h2:Tg.Hd.trimE s<+:s:=List.reverse_suffix.mp (by unfold Tg.Hd.trimE;rw [List.reverse_reverse];exact List.dropWhile_suffix _)
 have:=List.prefix_iff_eq_take.mp h2
 rw [this]
 congr 1
 unfold Tg.Hd.trimE
 rw [List.length_reverse]
theorem Trim_cl (hs:s.length≤9223372036854775806):LC Tryz.prog EJ 288 [str s] H=some (str (Tg.Hd.trim s),H):=by
 refine LC_pure rfl Tryz.func288 rfl (Nat.le_of_ble_eq_true rfl) (by decide) (by kernel_rfl) rfl ?_
 have he:=fun H:LH=>end_cl (H:=H) (s:=s) (g:=253) (q:=Tg.Hd.white) (fun b H=>white_cl) hs
 have hw:=fun(H:LH) (b:UInt8)=>white_cl (H:=H) (b:=b)
 obtain⟨x,hx⟩: ∃x,x=Tg.Hd.trim s:=⟨_,rfl⟩
 rw [←hx]
 unfold Tg.Hd.trim at hx
 rw [trimE_take]at hx
 have hle:(s.reverse.dropWhile Tg.Hd.white).length≤s.length:=by
  have:=(List.dropWhile_suffix (l:=s.reverse) Tg.Hd.white).length_le
  rwa [List.length_reverse]at this
 generalize (s.reverse.dropWhile Tg.Hd.white).length=n at*
 have q1:=eq_true (show(n:Int)≤(s.length:Int) by omega)
 have htl:(s.take n).length≤9223372036854775806:=by rw [List.length_take];omega
 simp [he,q1,hle]
 generalize s.take n=t at*
 refine loop_ind (fun(i:Nat) fr' H'=>fr' 0=str t∧fr' 3=.int .i64 i∧i≤t.length∧x=(t.drop i).dropWhile Tg.Hd.white∧H'=H) (fun i=>t.length-i) 0 ⟨by simp,by simp,Nat.zero_le _,hx,rfl⟩ ?_
 rintro i fr' H' ⟨h0,h3,hi,hc,rfl⟩ ih
 by_cases hlt:i<t.length
 ·have q:=eq_true (show(i:Int)<(t.length:Int) by omega)
  have hat:at_ t (i:Int)=t[i]:=at_in hlt
  have hw1:IntKind.i64.wrap ((i:Int)+1)=((i+1:Nat):Int):=by rw [wrapI (by omega) (by omega)];omega
  have qi:=eq_true (show(i:Int)≤(t.length:Int) by omega)
  rw [List.drop_eq_getElem_cons hlt,List.dropWhile_cons]at hc
  have hwc:=fun H=>hw H t[i]
  have hdr:t.drop i=t[i]::t.drop (i+1):=List.drop_eq_getElem_cons hlt
  generalize t[i]=c at*
  cases hq:Tg.Hd.white c with
  |true=>
   rw [hq]at hc hwc
   rw [if_pos rfl]at hc
   simp [h0,h3,q,hlt,hat,hwc]
   refine ih (i+1) _ _ (by omega) ⟨?_,?_,by omega,hc,rfl⟩
   all_goals simp [h0,hw1]
  |false=>
   rw [hq]at hc hwc
   rw [if_neg (by decide),←hdr]at hc
   simp [h0,h3,q,hlt,hat,hwc,qi,hi,hc]
 ·have q:=eq_false (show¬(i:Int)<(t.length:Int) by omega)
  have qi:=eq_true (show(i:Int)≤(t.length:Int) by omega)
  have hil:i=t.length:=by omega
  rw [List.drop_of_length_le (by omega)]at hc
  subst hil
  simp [h0,h3,hc]
theorem small_cl:LC Tryz.prog EJ 287 [.int .u8 b.toNat] H=some (.bool (decide ((97:Int)≤b.toNat)&&decide ((b.toNat:Int)≤122)),H):=by
 refine LC_pure rfl Tryz.func287 rfl (Nat.le_of_ble_eq_true rfl) (by decide) (by kernel_rfl) rfl ?_
 by_cases h1:(97:Int)≤b.toNat<;>by_cases h2:(b.toNat:Int)≤122<;>simp [h1,h2]
theorem letter_cl:LC Tryz.prog EJ 260 [.int .u8 b.toNat] H=some (.bool (Tg.Hd.isL b),H):=by
 refine LC_pure rfl Tryz.func260 rfl (Nat.le_of_ble_eq_true rfl) (by decide) (by kernel_rfl) rfl ?_
 have h1:=fun H:LH=>small_cl (H:=H) (b:=b)
 have h2:=fun H:LH=>great_cl (H:=H) (b:=b)
 unfold Tg.Hd.isL
 cases e1:(decide ((97:Int)≤b.toNat)&&decide ((b.toNat:Int)≤122))<;>rw [e1]at h1<;>
 cases e2:(decide ((65:Int)≤b.toNat)&&decide ((b.toNat:Int)≤90))<;>rw [e2]at h2<;>simp [h1,h2]
theorem Token_cl:LC Tryz.prog EJ 318 [.int .u8 b.toNat] H=some (.bool (Tg.Hd.tok b),H):=by
 refine LC_pure rfl Tryz.func318 rfl (Nat.le_of_ble_eq_true rfl) (by decide) (by kernel_rfl) rfl ?_
 have h1:=fun H:LH=>letter_cl (H:=H) (b:=b)
 have h2: ∀H:LH,LC Tryz.prog EJ 223 [.int .u8 b.toNat] H=some (.bool (Tg.Hd.isD b),H):=fun H=>digit_cl (H:=H) (b:=b)
 have h3:=idx_lt Tg.Hd.signs b
 unfold Tg.Hd.tok
 cases e1:Tg.Hd.isL b with
 |true=>rw [e1]at h1;simp [h1]
 |false=>
  rw [e1]at h1
  cases e2:Tg.Hd.isD b with
  |true=>rw [e2]at h2;simp [h1,h2]
  |false=>
   rw [e2]at h2
   rw [h3]
   unfold Tg.Hd.signs
   simp [h1,h2]
   generalize Lib.indexByte _ b=x
   rw [Bool.eq_iff_iff]
   simp
abbrev hv (h:Tg.Hd.Hdr):Value:=.agg #[str h.1,str h.2]
abbrev hb (h:Tg.Hd.Hdr):LB:=⟨[str h.1,str h.2],59,true⟩
theorem trimH_len (s:List UInt8):(Tg.Hd.trim s).length≤s.length:=by
 unfold Tg.Hd.trim Tg.Hd.trimE
 refine Nat.le_trans (dw_le _) ?_
 rw [List.length_reverse]
 refine Nat.le_trans (dw_le _) ?_
 rw [List.length_reverse]
 exact Nat.le_refl _
end
end Go.Proofs.YtcgiaiimbnoknaaGreatDoor
