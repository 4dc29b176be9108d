/-
  Texts joined, part 5: LgCut, UnMask, UnFind, UnTag, UnCur, UnBin, UnMp4, UnRefA, UnRefB, UnBs, UnTxt, UnTab, UnRefC, UnRefD, UnRefE, UnMp3, UnRefF, UnMed, UnKind, UnWebm, UnTop, UnRefG, SnBug, SnLive, SnTop, StFld, SnFld, SnRule, UnSame, UnLawPl, UnLaws, LgObj, StBldW, MiCur, MiTwo, StBs, MiQuo, MiCol, MiTrim, ObJson, ObJsonB, SnEnv, SnRules, SnObs.
-/
import Derived.Test.YtjplaockjmhnjaaGreatDoorM4
import Derived.Test.YtjplaockjmhnjaaGreatDoorM1
import Derived.Test.YtjplaockjmhnjaaGreatDoorM3
set_option linter.unusedSimpArgs false
set_option linter.unusedVariables false
namespace Go.Lg
open Go.Tg Go.RowKit
def seqDrop:Nat→Code→Code
 |0,c=>c
 |n+1,.seq _ b=>seqDrop n b
 |_+1,c=>c
def seqPre:Nat→Code→Code→Code
 |0,_,K=>K
 |n+1,.seq a b,K=>.seq a (seqPre n b K)
 |_+1,c,_=>c
@[simp ↓] theorem seqDrop_zero {c:Code} :seqDrop 0 c=c:=by cases c<;>rfl
@[simp ↓] theorem seqDrop_succ {n:Nat} {a b:Code} :seqDrop (n+1) (.seq a b)=seqDrop n b:=rfl
@[simp ↓] theorem seqPre_zero {c K:Code} :seqPre 0 c K=K:=by cases c<;>rfl
@[simp ↓] theorem seqPre_succ {n:Nat} {a b K:Code} :seqPre (n+1) (.seq a b) K=.seq a (seqPre n b K):=rfl
@[simp] theorem splice_all {cs vs:List Value} (h:cs.length=vs.length):splice cs 0 vs=vs:=by
 unfold splice;simp [h]
section
variable {n m:Nat}
end
theorem lbin_fn_ne {P:Program} {t:TypeId} {g:FuncId} {f cp:Array Value} {a b c:_} (hu:P.underlying t=some (.func a b c)):lbin P .neq t (.func (.func g) f cp) .nilFunc=some (.bool true):=by
 simp [lbin,hu]
theorem lbin_fn_eq {P:Program} {t:TypeId} {g:FuncId} {f cp:Array Value} {a b c:_} (hu:P.underlying t=some (.func a b c)):lbin P .eql t (.func (.func g) f cp) .nilFunc=some (.bool false):=by
 simp [lbin,hu]
attribute [simp] lbin_fn_eq
attribute [simp] lbin_fn_ne
@[simp ↓] theorem ev_nilIface {fr:Fr} :ev fr (.const .nilIface)=.nilIface:=rfl
@[simp ↓] theorem ev_nilFunc {fr:Fr} :ev fr (.const .nilFunc)=.nilFunc:=rfl
@[simp] theorem flat_nilIface:flatB .nilIface=true:=by simp only [flatB,flat1B,atomB]
@[simp] theorem cell_nilIface:cellB .nilIface=true:=by simp only [cellB]
@[simp] theorem cell_nilFunc:cellB .nilFunc=true:=by simp only [cellB]
@[simp] theorem atom_str {l:List UInt8} :atomB (str l)=true:=by simp only [atomB,str]
@[simp] theorem atom_int {k:IntKind} {n:Int} :atomB (.int k n)=true:=by simp only [atomB]
@[simp] theorem atom_bool {b:Bool} :atomB (.bool b)=true:=by simp only [atomB]
@[simp] theorem atom_nil:atomB (.pointer none)=true:=by simp only [atomB]
@[simp] theorem atom_nilslice:atomB (.slice none 0 0)=true:=by simp [atomB]
@[simp] theorem lbE_nil {P:Program} {t:TypeId} {z:List Value} (hp:plcB P t=true) (hz:z.all atomB=true):lbE P t (some (.agg ⟨z⟩)) []=some (.agg ⟨z⟩):=by
 rw [lbE_agg (by simp only [knownL]) hz,lfill_nil hp];rfl
section
variable {H H':LH} {b:LB} {l:Nat}
@[simp] theorem le_new_iff (h:H.n≤H'.n):H.le (H'.new b)↔H.le H':=by
 constructor
 ·intro hl;exact⟨h,fun k hk=>by rw [←hl.2 k hk,get_new_ne (by omega)]⟩
 ·intro hl;exact hl.new
@[simp] theorem le_set_iff (h:H.n≤l):H.le (H'.set l b)↔H.le H':=by
 constructor
 ·intro hl;exact⟨hl.1,fun k hk=>by rw [←hl.2 k hk,get_set_ne (by omega)]⟩
 ·intro hl;exact hl.set h
@[simp] theorem le_kill_iff (h:H.n≤l):H.le (H'.kill l)↔H.le H':=by
 constructor
 ·intro hl;exact⟨hl.1,fun k hk=>by rw [←hl.2 k hk,get_kill_ne (by omega)]⟩
 ·intro hl;exact hl.kill h
end
section
variable {P:Program} {E:Ext} {fn:Func} {k:List Item} {fr:Fr} {H:LH} {Q:Value×LH→Prop} {c:Code}
theorem runs_cut (n:Nat) (Inv:Fr→LH→Prop) (h1: ∀fr H,Inv fr H→Runs P E fn (.code (seqDrop n c)::k) fr H Q)
  (h2: ∀K,(∀fr H,Inv fr H→Runs P E fn (.code K::k) fr H Q)→Runs P E fn (.code (seqPre n c K)::k) fr H Q) (hc:seqPre n c (seqDrop n c)=c):Runs P E fn (.code c::k) fr H Q:=by
 have:=h2 (seqDrop n c) h1
 rw [hc]at this
 exact this
inductive Dir where
 |d (n:Nat)
 |l
 |t
 |e
 |b
def cAt:List Dir→Code→Code
 | [],c=>c
 |.d n::p,c=>cAt p (seqDrop n c)
 |.l::p,.seq a _=>cAt p a
 |.t::p,.cond _ a _=>cAt p a
 |.e::p,.cond _ _ a=>cAt p a
 |.b::p,.block _ a=>cAt p a
 |_::_,c=>c
def cPut:List Dir→Code→Code→Code
 | [],_,K=>K
 |.d n::p,c,K=>seqPre n c (cPut p (seqDrop n c) K)
 |.l::p,.seq a b,K=>.seq (cPut p a K) b
 |.t::p,.cond x a b,K=>.cond x (cPut p a K) b
 |.e::p,.cond x a b,K=>.cond x a (cPut p b K)
 |.b::p,.block i a,K=>.block i (cPut p a K)
 |_::_,c,_=>c
def cK:List Dir→Code→List Item→List Item
 | [],_,k=>k
 |.d n::p,c,k=>cK p (seqDrop n c) k
 |.l::p,.seq a b,k=>cK p a (.code b::k)
 |.t::p,.cond _ a _,k=>cK p a k
 |.e::p,.cond _ _ a,k=>cK p a k
 |.b::p,.block i a,k=>cK p a (.inBlock i::k)
 |_::_,_,k=>k
section
variable {p:List Dir} {n i:Nat} {a b K:Code} {x:Operand}
@[simp ↓] theorem cAt_nil:cAt [] c=c:=by cases c<;>rfl
@[simp ↓] theorem cAt_d:cAt (.d n::p) c=cAt p (seqDrop n c):=by cases c<;>rfl
@[simp ↓] theorem cAt_l:cAt (.l::p) (.seq a b)=cAt p a:=rfl
@[simp ↓] theorem cAt_t:cAt (.t::p) (.cond x a b)=cAt p a:=rfl
@[simp ↓] theorem cAt_e:cAt (.e::p) (.cond x a b)=cAt p b:=rfl
@[simp ↓] theorem cAt_b:cAt (.b::p) (.block i a)=cAt p a:=rfl
@[simp ↓] theorem cPut_nil:cPut [] c K=K:=by cases c<;>rfl
@[simp ↓] theorem cPut_d:cPut (.d n::p) c K=seqPre n c (cPut p (seqDrop n c) K):=by cases c<;>rfl
@[simp ↓] theorem cPut_l:cPut (.l::p) (.seq a b) K=.seq (cPut p a K) b:=rfl
@[simp ↓] theorem cPut_t:cPut (.t::p) (.cond x a b) K=.cond x (cPut p a K) b:=rfl
@[simp ↓] theorem cPut_e:cPut (.e::p) (.cond x a b) K=.cond x a (cPut p b K):=rfl
@[simp ↓] theorem cPut_b:cPut (.b::p) (.block i a) K=.block i (cPut p a K):=rfl
@[simp ↓] theorem cK_nil:cK [] c k=k:=by cases c<;>rfl
@[simp ↓] theorem cK_d:cK (.d n::p) c k=cK p (seqDrop n c) k:=by cases c<;>rfl
@[simp ↓] theorem cK_l:cK (.l::p) (.seq a b) k=cK p a (.code b::k):=rfl
@[simp ↓] theorem cK_t:cK (.t::p) (.cond x a b) k=cK p a k:=rfl
@[simp ↓] theorem cK_e:cK (.e::p) (.cond x a b) k=cK p b k:=rfl
@[simp ↓] theorem cK_b:cK (.b::p) (.block i a) k=cK p a (.inBlock i::k):=rfl
end
end
end Go.Lg
set_option maxRecDepth 100000
namespace Go.Proofs.YtjplaockjmhnjaaGreatDoor
open Go.Lg Go.Tg
section
variable {H:LH} {s t:List UInt8} {c:UInt8} {p:Tg.Un.Pat}
theorem good_cl:LC Tryz.prog EJ 208 [pv p] H=some (.bool (Tg.Un.good p),H):=by
 refine LC_pure rfl Tryz.func208 rfl (Nat.le_of_ble_eq_true rfl) (by decide) (by kernel_rfl) rfl ?_
 unfold Tg.Un.good
 by_cases h1:1≤p.b.length
 ·have q1:=eq_true (show(1:Int)≤(p.b.length:Int) by omega)
  by_cases h2:p.b.length≤64
  ·have q2:=eq_true (show(p.b.length:Int)≤64 by omega)
   by_cases h3:p.m.length=p.b.length
   ·have q3:=eq_true (show(p.m.length:Int)=(p.b.length:Int) by omega)
    simp [h1,h2,h3,q1,q2,q3]
   ·have q3:=eq_false (show¬(p.m.length:Int)=(p.b.length:Int) by omega)
    simp [h1,h2,h3,q1,q2,q3]
  ·have q2:=eq_false (show¬(p.b.length:Int)≤64 by omega)
   simp [h1,h2,q1,q2]
 ·have q1:=eq_false (show¬(1:Int)≤(p.b.length:Int) by omega)
  simp [h1,q1]
theorem begins_cl (hs:s.length≤1048576):LC Tryz.prog EJ 212 [str s,pv p] H=some (.int .i64 (Tg.Un.begins p.s s),H):=by
 refine LC_pure rfl Tryz.func212 rfl (Nat.le_of_ble_eq_true rfl) (by decide) (by kernel_rfl) rfl ?_
 obtain⟨x,hx⟩: ∃x,x=Tg.Un.begins p.s s:=⟨_,rfl⟩
 rw [←hx]
 simp
 refine loop_ind (fun(i:Nat) fr' H'=>fr' 0=str s∧fr' 3=ptr H.n 0∧fr' 5=.int .i64 i∧i≤s.length∧x=i+Tg.Un.begins p.s (s.drop i)∧H'=H.new ⟨[str p.b,str p.m,str p.s,str p.t],92,true⟩) (fun i=>s.length-i) 0 ⟨by simp,by simp,by simp,Nat.zero_le _,by rw [hx];simp,by simp⟩ ?_
 rintro i fr' H' ⟨h0,h3,h5,hi,hc,rfl⟩ ih
 by_cases hlt:i<s.length
 ·have q:=eq_true (show(i:Int)<(s.length:Int) by omega)
  have hat:at_ s (i:Int)=s[i]:=at_in hlt
  have hw:IntKind.i64.wrap ((i:Int)+1)=((i+1:Nat):Int):=by rw [wrapI (by omega) (by omega)];omega
  rw [List.drop_eq_getElem_cons hlt]at hc
  have hix:=idxU p.s s[i]
  unfold Tg.Un.begins at hc
  generalize s[i]=b at*
  cases hb:p.s.contains b with
  |true=>
   rw [hb,if_pos rfl]at hc
   rw [hb]at hix
   have qq:=eq_true (of_decide_eq_true hix.symm)
   simp [h0,h3,h5,q,hat,qq]
   refine ih (i+1) _ _ (by omega) ⟨?_,?_,?_,by omega,by omega,rfl⟩
   all_goals simp [h0,h3,hw]
  |false=>
   rw [hb,if_neg (by decide)]at hc
   rw [hb]at hix
   have qq:=eq_false (of_decide_eq_false hix.symm)
   simp [h0,h3,h5,q,hat,qq,hc]
 ·have q:=eq_false (show¬(i:Int)<(s.length:Int) by omega)
  rw [List.drop_of_length_le (by omega)]at hc
  have hc:x=i:=by rw [hc];simp [Tg.Un.begins]
  simp [h0,h3,h5,q,hc]
theorem bAnd8 {a b:UInt8} :bAnd .u8 (a.toNat:Int) (b.toNat:Int)=((a&&&b).toNat:Int):=by
 have h1:=a.toNat_lt
 have h2:=b.toNat_lt
 unfold bAnd
 rw [BitVec.toNat_and,show IntKind.u8.bits=8 from rfl,ofInt_nat,ofInt_nat,Nat.mod_eq_of_lt (by omega),Nat.mod_eq_of_lt (by omega),UInt8.toNat_and]
 have:=Nat.and_le_left (n:=a.toNat) (m:=b.toNat)
 rw [show IntKind.u8.wrap ((a.toNat&&&b.toNat:Nat):Int)=((a.toNat&&&b.toNat:Nat):Int)%256 from IntKind.wrap_u8 _];omega
theorem fits_cl (hs:s.length≤1048576) (hb:p.b.length≤1048576) (hm:p.m.length=p.b.length):LC Tryz.prog EJ 209 [str s,pv p] H=some (.tuple #[.int .i64 (Tg.Un.fitN (Tg.Un.rest p s) p.b p.m).1,.bool (Tg.Un.fitN (Tg.Un.rest p s) p.b p.m).2],H):=by
 refine LC_pure rfl Tryz.func209 rfl (Nat.le_of_ble_eq_true rfl) (by decide) (by kernel_rfl) rfl ?_
 have hbl:=Tg.Un.begins_le p.s s
 have h1:=fun H:LH=>begins_cl (H:=H) (s:=s) (p:=p) hs
 obtain⟨r,hr⟩: ∃r,r=Tg.Un.rest p s:=⟨_,rfl⟩
 have hr2:s.drop (Tg.Un.begins p.s s)=r:=hr.symm
 have hrl:r.length≤1048576:=by rw [hr];unfold Tg.Un.rest;simp;omega
 rw [←hr]
 obtain⟨x,hx⟩: ∃x,x=Tg.Un.fitN r p.b p.m:=⟨_,rfl⟩
 rw [←hx]
 have q0:=eq_true (show(Tg.Un.begins p.s s:Int)≤(s.length:Int) by omega)
 obtain⟨n,hn⟩: ∃n,n=min r.length p.b.length:=⟨_,rfl⟩
 have hmin:(if(p.b.length:Int)<(r.length:Int)then(p.b.length:Int)else(r.length:Int))=(n:Int):=by split<;>omega
 have hmin2:(if p.b.length<r.length then(p.b.length:Int)else(r.length:Int))=(n:Int):=by split<;>omega
 simp [h1,q0,hr2,hmin,hmin2]
 refine loop_ind (fun(i:Nat) fr' H'=>fr' 0=str r∧fr' 3=ptr H.n 0∧fr' 6=.int .i64 n∧fr' 19=.int .i64 n∧fr' 20=.int .i64 i∧i≤n∧x=(i+(Tg.Un.fitN (r.drop i) (p.b.drop i) (p.m.drop i)).1,(Tg.Un.fitN (r.drop i) (p.b.drop i) (p.m.drop i)).2)∧H'=H.new ⟨[str p.b,str p.m,str p.s,str p.t],92,true⟩) (fun i=>n-i) 0 ⟨by simp,by simp,by simp,by simp,by simp,Nat.zero_le _,by rw [hx];simp,by simp⟩ ?_
 rintro i fr' H' ⟨g0,g3,g6,g19,g20,hi,hc,rfl⟩ ih
 by_cases hlt:i<n
 ·have q:=eq_true (show(i:Int)<(n:Int) by omega)
  have l1:i<r.length:=by omega
  have l2:i<p.b.length:=by omega
  have l3:i<p.m.length:=by omega
  have hat:at_ r (i:Int)=r[i]:=at_in l1
  have hat2:at_ p.b (i:Int)=p.b[i]:=at_in l2
  have hat3:at_ p.m (i:Int)=p.m[i]:=at_in l3
  have q1:=eq_true (show(i:Int)<(r.length:Int) by omega)
  have q2:=eq_true (show(i:Int)<(p.b.length:Int) by omega)
  have q3:=eq_true (show(i:Int)<(p.m.length:Int) by omega)
  have hw:IntKind.i64.wrap ((i:Int)+1)=((i+1:Nat):Int):=by rw [wrapI (by omega) (by omega)];omega
  rw [List.drop_eq_getElem_cons l1,List.drop_eq_getElem_cons l2,List.drop_eq_getElem_cons l3]at hc
  generalize r[i]=c at*
  generalize p.b[i]=b at*
  generalize p.m[i]=m at*
  unfold Tg.Un.fitN at hc
  by_cases hcb:c&&&m=b
  ·rw [if_pos hcb]at hc
   simp [g0,g3,g6,g19,g20,q,hat,hat2,hat3,q1,q2,q3,bAnd8,hcb]
   refine ih (i+1) _ _ (by omega) ⟨?_,?_,?_,?_,?_,by omega,by rw [hc];simp only [Prod.mk.injEq];exact⟨by omega,trivial⟩,rfl⟩
   all_goals simp [g0,g3,g6,g19,g20,hw]
  ·rw [if_neg hcb]at hc
   have hne:=tn_ne hcb
   simp only [UInt8.toNat_and]at hne
   simp [g0,g3,g6,g19,g20,q,hat,hat2,hat3,q1,q2,q3,bAnd8,hne,hc]
 ·have q:=eq_false (show¬(i:Int)<(n:Int) by omega)
  have hin:i=n:=by omega
  have he:Tg.Un.fitN (r.drop i) (p.b.drop i) (p.m.drop i)=(0,true):=by
   by_cases h:r.length≤i
   ·rw [List.drop_of_length_le h];unfold Tg.Un.fitN;rfl
   ·rw [show p.b.drop i= [] from List.drop_of_length_le (by omega)];unfold Tg.Un.fitN;split<;>simp_all
  rw [he]at hc
  subst hin
  simp [g0,g3,g6,g19,g20,q,hc]
theorem match_cl (hs:s.length≤1048576):LC Tryz.prog EJ 172 [str s,pv p] H=some (.bool (Tg.Un.hits p s),H):=by
 refine LC_pure rfl Tryz.func172 rfl (Nat.le_of_ble_eq_true rfl) (by decide) (by kernel_rfl) rfl ?_
 have h1:=fun H:LH=>good_cl (H:=H) (p:=p)
 unfold Tg.Un.hits
 cases hg:Tg.Un.good p with
 |false=>rw [hg]at h1;simp [h1]
 |true=>
  rw [hg]at h1
  obtain⟨⟨g1,g2⟩,g3⟩:(1≤p.b.length∧p.b.length≤64)∧p.m.length=p.b.length:=by simpa [Tg.Un.good]using hg
  have h2:=fun H:LH=>fits_cl (H:=H) (s:=s) (p:=p) hs (by omega) g3
  have e2:=Tg.Un.fitN_2 (Tg.Un.rest p s) p.b p.m
  have e1:=Tg.Un.fitN_1 (Tg.Un.rest p s) p.b p.m g3
  generalize Tg.Un.fitN (Tg.Un.rest p s) p.b p.m=x at*
  obtain⟨k,f⟩:=x
  simp only at e1 e2
  subst e2
  cases hf:Tg.Un.fit (Tg.Un.rest p s) p.b p.m with
  |false=>rw [hf]at h2;simp [h1,h2]
  |true=>
   rw [hf]at h2
   have e1:=e1 hf
   subst e1
   by_cases hl:p.b.length≤(Tg.Un.rest p s).length
   ·have q:=eq_true (show((min (Tg.Un.rest p s).length p.b.length:Nat):Int)=(p.b.length:Int) by omega)
    simp [h1,h2,q,hl]
   ·have q:=eq_false (show¬((min (Tg.Un.rest p s).length p.b.length:Nat):Int)=(p.b.length:Int) by omega)
    simp [h1,h2,q,hl]
theorem Match_cl (hs:s.length≤1048576):LC Tryz.prog EJ 133 [str s,pv p] H=some (.bool (Tg.Un.hits p s),H):=by
 refine LC_pure rfl Tryz.func133 rfl (Nat.le_of_ble_eq_true rfl) (by decide) (by kernel_rfl) rfl ?_
 have h1:=fun H:LH=>match_cl (H:=H) (s:=s) (p:=p) hs
 simp [h1]
end
end Go.Proofs.YtjplaockjmhnjaaGreatDoor
namespace Tg.Un
def idx {α:Type} (q:α→Bool):List α→Nat→Int
 | [],_=> -1
 |x::l,i=>if q x=true then i else idx q l (i+1)
theorem idx_any {α:Type} (q:α→Bool): ∀(l:List α) (i:Nat),decide (0≤idx q l i)=l.any q
 | [],i=>by simp [idx]
 |x::l,i=>by
  unfold idx
  cases h:q x with
  |true=>rw [if_pos rfl];simp [h]
  |false=>rw [if_neg (by decide),idx_any q l (i+1)];simp [h]
def or_:List (List UInt8)→List UInt8
 | []=> []
 |s::l=>if s= []then or_ l else s
end Tg.Un
namespace Go.Proofs.YtjplaockjmhnjaaGreatDoor
open Go.Lg Go.Tg
section
variable {H:LH} {s t:List UInt8} {c:UInt8} {p:Tg.Un.Pat} {v:Value} {l:List Tg.Un.Pat} {xs:List (List UInt8)}
theorem find1_cl {k:Nat} {e:TypeId} (hs:s.length≤1048576) (hk:H.get k=some ⟨[str s],e,true⟩) (hkn:k<H.n):LC Tryz.prog EJ 297 [pv p,ptr k 0] H=some (.bool (Tg.Un.hits p s),H):=by
 refine LC_pure rfl Tryz.func297 rfl (Nat.le_of_ble_eq_true rfl) (by decide) (by kernel_rfl) rfl ?_
 have h1:=fun H:LH=>match_cl (H:=H) (s:=s) (p:=p) hs
 have hkn':k≠H.n:=by omega
 simp [h1,hk,get_new_ne,hkn']
theorem indexP_cl {k:Nat} {e:TypeId} (hr:PRow H v l) (hl:l.length≤1000000) (hs:s.length≤1048576) (hk:H.get k=some ⟨[str s],e,true⟩) (hkn:k<H.n):
  LC Tryz.prog EJ 296 [v,.func (.func 297) #[] #[ptr k 0]] H=some (.int .i64 (Tg.Un.at_ s l 0),H):=by
 refine LC_pure rfl Tryz.func296 rfl (Nat.le_of_ble_eq_true rfl) (by decide) (by kernel_rfl) rfl ?_
 obtain⟨x,hx⟩: ∃x,x=Tg.Un.at_ s l 0:=⟨_,rfl⟩
 rw [←hx]
 simp [hr.len]
 refine loop_ind (fun(i:Nat) fr' H'=>fr' 0=v∧fr' 1=.func (.func 297) #[] #[ptr k 0]∧fr' 7=.int .i64 l.length∧fr' 8=.int .i64 i∧i≤l.length∧x=Tg.Un.at_ s (l.drop i) i∧H'=H) (fun i=>l.length-i) 0 ⟨by simp,by simp,by simp,by simp,Nat.zero_le _,hx,rfl⟩ ?_
 rintro i fr' H' ⟨h0,h1,h7,h8,hi,hc,rfl⟩ ih
 by_cases hlt:i<l.length
 ·have q:=eq_true (show(i:Int)<(l.length:Int) by omega)
  have hw:IntKind.i64.wrap ((i:Int)+1)=((i+1:Nat):Int):=by rw [wrapI (by omega) (by omega)];omega
  obtain⟨k2,o,g1,g2,g3⟩:=hr.at hlt
  obtain⟨g4,_⟩:=g3 H' rfl
  have ho:=find1_cl (H:=H') (p:=l[i]) hs hk hkn
  rw [List.drop_eq_getElem_cons hlt]at hc
  generalize l[i]=a at*
  unfold Tg.Un.at_ at hc
  cases hf:Tg.Un.hits a s with
  |true=>
   rw [hf,if_pos rfl]at hc
   rw [hf]at ho
   subst hc
   simp [h0,h1,h7,h8,q,hlt,g1,g4,ho]
  |false=>
   rw [hf,if_neg (by decide)]at hc
   rw [hf]at ho
   simp [h0,h1,h7,h8,q,hlt,g1,g4,ho]
   refine ih (i+1) _ _ (by omega) ⟨?_,?_,?_,?_,by omega,hc,rfl⟩
   all_goals simp [h0,h1,h7,hw]
 ·have q:=eq_false (show¬(i:Int)<(l.length:Int) by omega)
  rw [List.drop_of_length_le (by omega)]at hc
  have hc:x= -1:=hc
  subst hc
  simp [h0,h1,h7,h8,q,hlt]
theorem find_cl (hr:PRow H v l) (hl:l.length≤1000000) (hs:s.length≤1048576):LC Tryz.prog EJ 272 [str s,v] H=some (.int .i64 (Tg.Un.at_ s l 0),H):=by
 refine LC_pure rfl Tryz.func272 rfl (Nat.le_of_ble_eq_true rfl) (by decide) (by kernel_rfl) rfl ?_
 have hr':PRow (H.new ⟨[str s],9,true⟩) v l:=hr.keep (Nat.le_succ _) (fun k hk=>get_new_ne (by omega))
 have h1:=indexP_cl (k:=H.n) (e:=9) hr' hl hs (by simp) (by simp)
 simp [h1]
theorem mtype_cl (hr:PRow H v l) (hl:l.length≤1000000) (hs:s.length≤1048576):LC Tryz.prog EJ 240 [str s,v] H=some (str (Tg.Un.typeOf s l),H):=by
 refine LC_pure rfl Tryz.func240 rfl (Nat.le_of_ble_eq_true rfl) (by decide) (by kernel_rfl) rfl ?_
 have h1:=find_cl hr hl hs
 by_cases hx:Tg.Un.at_ s l 0<0
 ·rw [Tg.Un.at_none hx]
  simp [h1,hx]
 ·obtain⟨k,hk,e1,e2⟩:=Tg.Un.at_some (s:=s) (l:=l) (i:=0) (by omega)
  rw [e2]
  rw [e1]at h1
  obtain⟨k2,o,g1,g2,g3⟩:=hr.at hk
  obtain⟨_,_,_,_,g4⟩:=g3 H rfl
  have q:=eq_false (show¬((0+k:Nat):Int)<0 by omega)
  rw [Nat.zero_add]at h1 q
  simp [h1,q,g1,g4]
theorem indexS_cl {g:FuncId} {caps:List Value} {q:List UInt8→Bool} (hr:SRow H v xs) (hl:xs.length≤1000000) (hg: ∀x∈xs,LC Tryz.prog EJ g (str x::caps) H=some (.bool (q x),H)):
  LC Tryz.prog EJ 131 [v,.func (.func g) #[] ⟨caps⟩] H=some (.int .i64 (Tg.Un.idx q xs 0),H):=by
 refine LC_pure rfl Tryz.func131 rfl (Nat.le_of_ble_eq_true rfl) (by decide) (by kernel_rfl) rfl ?_
 obtain⟨x,hx⟩: ∃x,x=Tg.Un.idx q xs 0:=⟨_,rfl⟩
 rw [←hx]
 simp [hr.len]
 refine loop_ind (fun(i:Nat) fr' H'=>fr' 0=v∧fr' 1=.func (.func g) #[] ⟨caps⟩∧fr' 7=.int .i64 xs.length∧fr' 8=.int .i64 i∧i≤xs.length∧x=Tg.Un.idx q (xs.drop i) i∧H'=H) (fun i=>xs.length-i) 0 ⟨by simp,by simp,by simp,by simp,Nat.zero_le _,hx,rfl⟩ ?_
 rintro i fr' H' ⟨h0,h1,h7,h8,hi,hc,rfl⟩ ih
 have hcal: ∀a H2,lcallee Tryz.prog (LC Tryz.prog EJ) (.func (.func g) #[] ⟨caps⟩) [a] H2=LC Tryz.prog EJ g (a::caps) H2:=fun a H2=>rfl
 by_cases hlt:i<xs.length
 ·have qq:=eq_true (show(i:Int)<(xs.length:Int) by omega)
  have hw:IntKind.i64.wrap ((i:Int)+1)=((i+1:Nat):Int):=by rw [wrapI (by omega) (by omega)];omega
  obtain⟨k2,o,g1,g2,g3⟩:=hr.at hlt
  have g4:=g3 H' rfl
  have ho:=hg xs[i] (List.getElem_mem hlt)
  rw [List.drop_eq_getElem_cons hlt]at hc
  generalize xs[i]=a at*
  unfold Tg.Un.idx at hc
  cases hf:q a with
  |true=>
   rw [hf,if_pos rfl]at hc
   rw [hf]at ho
   subst hc
   simp [h0,h1,h7,h8,qq,hlt,g1,g4,hcal,ho]
  |false=>
   rw [hf,if_neg (by decide)]at hc
   rw [hf]at ho
   simp [h0,h1,h7,h8,qq,hlt,g1,g4,hcal,ho]
   refine ih (i+1) _ _ (by omega) ⟨?_,?_,?_,?_,by omega,hc,rfl⟩
   all_goals simp [h0,h1,h7,hw]
 ·have qq:=eq_false (show¬(i:Int)<(xs.length:Int) by omega)
  rw [List.drop_of_length_le (by omega)]at hc
  have hc:x= -1:=hc
  subst hc
  simp [h0,h1,h7,h8,qq,hlt]
theorem containsS_cl {g:FuncId} {caps:List Value} {q:List UInt8→Bool} (hr:SRow H v xs) (hl:xs.length≤1000000) (hg: ∀x∈xs,LC Tryz.prog EJ g (str x::caps) H=some (.bool (q x),H)):
  LC Tryz.prog EJ 97 [v,.func (.func g) #[] ⟨caps⟩] H=some (.bool (xs.any q),H):=by
 refine LC_pure rfl Tryz.func97 rfl (Nat.le_of_ble_eq_true rfl) (by decide) (by kernel_rfl) rfl ?_
 have h1:=indexS_cl hr hl hg
 have h2:=Tg.Un.idx_any q xs 0
 rw [←h2]
 simp [h1]
theorem or_cl (hr:SRow H v xs) (hl:xs.length≤1000000):LC Tryz.prog EJ 234 [v] H=some (str (Tg.Un.or_ xs),H):=by
 refine LC_pure rfl Tryz.func234 rfl (Nat.le_of_ble_eq_true rfl) (by decide) (by kernel_rfl) rfl ?_
 obtain⟨x,hx⟩: ∃x,x=Tg.Un.or_ xs:=⟨_,rfl⟩
 rw [←hx]
 simp [hr.len]
 refine loop_ind (fun(i:Nat) fr' H'=>fr' 0=v∧fr' 3=str []∧fr' 6=v∧fr' 7=.int .i64 xs.length∧fr' 8=.int .i64 i∧i≤xs.length∧x=Tg.Un.or_ (xs.drop i)∧H'=H) (fun i=>xs.length-i) 0 ⟨by simp,by simp,by simp,by simp,by simp,Nat.zero_le _,hx,rfl⟩ ?_
 rintro i fr' H' ⟨h0,h3,h6,h7,h8,hi,hc,rfl⟩ ih
 by_cases hlt:i<xs.length
 ·have qq:=eq_true (show(i:Int)<(xs.length:Int) by omega)
  have hw:IntKind.i64.wrap ((i:Int)+1)=((i+1:Nat):Int):=by rw [wrapI (by omega) (by omega)];omega
  obtain⟨k2,o,g1,g2,g3⟩:=hr.at hlt
  have g4:=g3 H' rfl
  rw [List.drop_eq_getElem_cons hlt]at hc
  generalize xs[i]=a at*
  unfold Tg.Un.or_ at hc
  by_cases hf:a= []
  ·subst hf
   rw [if_pos rfl]at hc
   simp [h0,h3,h6,h7,h8,qq,hlt,g1,g4]
   refine ih (i+1) _ _ (by omega) ⟨?_,?_,?_,?_,?_,by omega,hc,rfl⟩
   all_goals simp [h0,h3,h6,h7,hw]
  ·rw [if_neg hf]at hc
   subst hc
   simp [h0,h3,h6,h7,h8,qq,hlt,g1,g4,hf]
 ·have qq:=eq_false (show¬(i:Int)<(xs.length:Int) by omega)
  rw [List.drop_of_length_le (by omega)]at hc
  have hc:x= []:=hc
  subst hc
  simp [h0,h3,h6,h7,h8,qq,hlt]
end
def u8c (l:List UInt8):List Value:=l.map fun b=>Value.int .u8 b.toNat
theorem u8c_len (l:List UInt8):(u8c l).length=l.length:=by simp [u8c]
theorem lst_u8 {H:LH} {k i:Nat} {l:List UInt8} {e:TypeId} (hk:H.get k=some ⟨u8c l,e,true⟩) (hi:i<l.length) (b:UInt8):lst Tryz.prog 5 (ptr k i) (.int .u8 b.toNat) H=some (undef,H.set k ⟨u8c (l.set i b),e,true⟩):=by
 rw [lst_cell hk rfl (by kernel_rfl) rfl (by rw [u8c_len];exact hi)]
 simp [u8c,List.map_set]
theorem lld_u8 {H:LH} {k i:Nat} {l:List UInt8} {e:TypeId} {r:Bool} (hk:H.get k=some ⟨u8c l,e,r⟩) (hi:i<l.length):lld Tryz.prog 5 (ptr k i) H=some (.int .u8 l[i].toNat):=by
 rw [lld_ptr hk,show aggB Tryz.prog 5=some false by kernel_rfl,lldb_cell]
 simp [u8c,hi]
theorem lbs_u8c: ∀l:List UInt8,lbs (u8c l)=some l
 | []=>rfl
 |b::l=>by
  show(lbyte (.int .u8 b.toNat)).bind _=_
  have:lbyte (.int .u8 (b.toNat:Int))=some b:=by simp [lbyte]
  rw [this]
  show(lbs (u8c l)).map (b:: ·)=_
  rw [lbs_u8c l];rfl
theorem lconv_u8 {H:LH} {k c:Nat} {l:List UInt8} {e:TypeId} {r:Bool} (hk:H.get k=some ⟨u8c l,e,r⟩):lconv Tryz.prog 35 9 (.slice (some ⟨k,0,none⟩) l.length c) H=some (str l):=
 lconv_bs (b:=⟨u8c l,e,r⟩) Tryz.underlying35 Tryz.underlying9 Tryz.underlying5 hk (by rw [u8c_len];omega) (by
  show lbs (((u8c l).drop 0).take l.length)=some l
  rw [List.drop_zero,List.take_of_length_le (by rw [u8c_len];exact Nat.le_refl _),lbs_u8c])
structure TagAt (H:LH) (s:List UInt8) (i:Nat) (H':LH):Prop where
 n:H'.n=H.n+3
 z:H'.get H.n=some ⟨[str [],str [],str [],str []],92,true⟩
 b:H'.get (H.n+1)=some ⟨u8c ((s.take i).map Tg.Un.up++s.drop i),MK Tryz.prog 5,true⟩
 m:H'.get (H.n+2)=some ⟨u8c ((s.take i).map Tg.Un.msk++(List.replicate s.length 0).drop i),5,true⟩
 old: ∀l,l<H.n→H'.get l=H.get l
section
variable {H:LH} {s t:List UInt8}
end
end Go.Proofs.YtjplaockjmhnjaaGreatDoor
namespace Tg.Un
open Go
def numL:List UInt8→Nat→Nat
 | [],n=>n
 |c::s,n=>numL s (n*256+c.toNat)
theorem num4_l (s:List UInt8) (h:4≤s.length):numL (s.take 4) 0=num4 s:=by
 match s,h with
 |a::b::c::d::r,_=>simp [numL,num4]
 | [],h=>simp at h
 | [_],h=>simp at h
 | [_,_],h=>simp at h
 | [_,_,_],h=>simp at h
theorem or_add {m n:Nat} (hn:n<256):m*256|||n=m*256+n:=by
 have:=Nat.shiftLeft_add_eq_or_of_lt (i:=8) (b:=n) (by omega) m
 rw [Nat.shiftLeft_eq]at this
 exact this.symm
theorem step32 {n:Nat} (h:n<16777216) (c:UInt8):Go.Lg.bOr .u32 (IntKind.u32.wrap ((n:Int)*2^min 8 IntKind.u32.bits)) (IntKind.u32.wrap (c.toNat:Int))=((n*256+c.toNat:Nat):Int):=by
 have hc:=c.toNat_lt
 have w1:IntKind.u32.wrap ((n:Int)*2^min 8 IntKind.u32.bits)=((n*256:Nat):Int):=by
  rw [show(2:Int)^min 8 IntKind.u32.bits=256 from rfl,IntKind.wrap_u32];omega
 have w2:IntKind.u32.wrap (c.toNat:Int)=(c.toNat:Int):=by rw [IntKind.wrap_u32];omega
 rw [w1,w2]
 unfold Go.Lg.bOr
 rw [BitVec.toNat_or,show IntKind.u32.bits=32 from rfl,Go.Lg.ofInt_nat,Go.Lg.ofInt_nat,Nat.mod_eq_of_lt (by omega),Nat.mod_eq_of_lt (by omega),or_add (by omega),IntKind.wrap_u32]
 omega
end Tg.Un
namespace Go.Proofs.YtjplaockjmhnjaaGreatDoor
open Go.Lg Go.Tg
abbrev cb (s:List UInt8) (i:Int):LB:=⟨[str s,.int .i64 i],125,true⟩
section
variable {H:LH} {s:List UInt8} {l:Nat}
theorem rest_cl (hk:H.get l=some (cb s 0)):LC Tryz.prog EJ 180 [ptr l 0] H=some (str s,H):=by
 refine LC_pure rfl Tryz.func180 rfl (Nat.le_of_ble_eq_true rfl) (by decide) (by kernel_rfl) rfl ?_
 simp [hk]
theorem take_ok (hk:H.get l=some (cb s 0)) (h4:4≤s.length):R Tryz.prog EPu (.call 186 [ptr l 0,.int .i64 4] H (.ret (str (s.take 4))) (H.set l (cb s 4))):=by
 have h1:=rest_cl hk
 have q:=eq_true (show(4:Int)≤(s.length:Int) by omega)
 refine pcall_is Tryz.func186 rfl (Nat.le_of_ble_eq_true rfl) (by decide) (by kernel_rfl) ?_
 have hC:=fun(x y:Int)=>check_ok (H:=H) (x:=x) (y:=y)
 simp [h1]
 refine hand_call_ret (g:=143) (first:=#[]) (caps:=#[]) (H1:=H) rfl rfl rfl (by simp) (by simpa using hC 0 8) rfl ?_
 simp [hk]
 refine hand_call_ret (g:=143) (first:=#[]) (caps:=#[]) (H1:=H) rfl rfl rfl (by simp) (by simpa using hC 0 9) rfl ?_
 simp [hk,q]
 refine hand_call_ret (g:=143) (first:=#[]) (caps:=#[]) (H1:=H) rfl rfl rfl (by simp) (by simpa using hC 0 8) rfl ?_
 simp [hk,q]
theorem take_bad (hk:H.get l=some (cb s 0)) (h4:s.length<4):R Tryz.prog EPu (.call 186 [ptr l 0,.int .i64 4] H (.pan (.agg #[.int .i64 0,.int .i64 8])) H):=by
 have h1:=rest_cl hk
 have q:=eq_false (show¬(4:Int)≤(s.length:Int) by omega)
 refine pcall_is Tryz.func186 rfl (Nat.le_of_ble_eq_true rfl) (by decide) (by kernel_rfl) ?_
 have hC:=fun(x y:Int)=>check_ok (H:=H) (x:=x) (y:=y)
 have hB:=check_bad (H:=H) (x:=0) (y:=8) (by decide)
 simp [h1]
 refine hand_call_ret (g:=143) (first:=#[]) (caps:=#[]) (H1:=H) rfl rfl rfl (by simp) (by simpa using hC 0 8) rfl ?_
 simp [hk]
 refine hand_call_ret (g:=143) (first:=#[]) (caps:=#[]) (H1:=H) rfl rfl rfl (by simp) (by simpa using hC 0 9) rfl ?_
 simp [hk,q]
 refine hand_call_pan (g:=143) (first:=#[]) (caps:=#[]) (H1:=H) rfl rfl rfl (by simp) (by simpa using hB) ?_
 simp
theorem u32_bad (hk:H.get l=some (cb s 0)) (h4:s.length<4):R Tryz.prog EPu (.call 308 [ptr l 0] H (.pan (.agg #[.int .i64 0,.int .i64 8])) H):=by
 have ht:=take_bad hk h4
 refine pcall_is Tryz.func308 rfl (Nat.le_of_ble_eq_true rfl) (by decide) (by kernel_rfl) ?_
 simp
 refine hand_call_pan (g:=186) (first:=#[]) (caps:=#[]) (H1:=H) rfl rfl rfl (by simp) (by simpa using ht) ?_
 simp
theorem u32_ok (hk:H.get l=some (cb s 0)) (h4:4≤s.length) (hl:l<H.n): ∃H1,R Tryz.prog EPu (.call 308 [ptr l 0] H (.ret (.int .u32 (Tg.Un.num4 s))) H1)∧H.n≤H1.n∧ ∀k,k<H.n→k≠l→H1.get k=H.get k:=by
 have key: ∃r H1,R Tryz.prog EPu (.call 308 [ptr l 0] H r H1)∧(r=.ret (.int .u32 (Tg.Un.num4 s))∧H.n≤H1.n∧ ∀k,k<H.n→k≠l→H1.get k=H.get k):=by
  have ht:=take_ok hk h4
  have hnum:=Tg.Un.num4_l s h4
  have hlen:(s.take 4).length=4:=by rw [List.length_take];omega
  refine pcall Tryz.func308 rfl (Nat.le_of_ble_eq_true rfl) (by decide) (by kernel_rfl) (Q:=fun r H1=>r=.ret (.int .u32 (Tg.Un.num4 s))∧H.n≤H1.n∧ ∀k,k<H.n→k≠l→H1.get k=H.get k) ?_
  rw [←hnum]
  generalize s.take 4=L at*
  have q0:=eq_true (show L.length≤maxLen by rw [hlen];decide)
  simp
  refine hand_call_ret (g:=186) (first:=#[]) (caps:=#[]) (H1:=H.set l (cb s 4)) rfl rfl rfl (by simp) (by simpa using ht) rfl ?_
  simp [q0,hlen]
  refine ploop_ind (fun(i:Nat) fr' H' p'=>fr' 8=sl H.n 4 4∧fr' 9=.int .i64 4∧fr' 10=.int .i64 i∧i≤4∧(∃n:Nat,fr' 3=.int .u32 n∧n<256^i∧Tg.Un.numL (L.drop i) n=Tg.Un.numL L 0)∧H'=(H.set l (cb s 4)).new ⟨u8c L,MK Tryz.prog 5,true⟩∧p'=none) (fun i=>4-i) 0 ⟨by simp,by simp,by simp,Nat.zero_le _,⟨0,by simp,by decide,rfl⟩,by simp [u8c,show 4≤maxLen by decide],rfl⟩ ?_
  rintro i fr' H' p' ⟨g8,g9,g10,hi,⟨n,g3,hn,he⟩,rfl,rfl⟩ ih
  by_cases hlt:i<4
  ·have q:=eq_true (show(i:Int)<4 by omega)
   have hw:IntKind.i64.wrap ((i:Int)+1)=((i+1:Nat):Int):=by rw [wrapI (by omega) (by omega)];omega
   have hil:i<L.length:=by omega
   have hb:=lld_u8 (H:=(H.set l (cb s 4)).new ⟨u8c L,MK Tryz.prog 5,true⟩) (k:=H.n) (i:=i) (r:=true) (e:=MK Tryz.prog 5) (l:=L) (by rw [show H.n=(H.set l (cb s 4)).n from rfl,get_new]) hil
   rw [List.drop_eq_getElem_cons hil]at he
   generalize L[i]=c at*
   have hp:256^i≤256^3:=Nat.pow_le_pow_right (by decide) (by omega)
   have hs:=Tg.Un.step32 (n:=n) (by omega) c
   simp [g3,g8,g9,g10,q,hb,hs]
   refine ih (i+1) _ _ _ (by omega) ⟨?_,?_,?_,by omega,⟨n*256+c.toNat,?_,?_,he⟩,rfl,rfl⟩
   ·simp [g8]
   ·simp [g9]
   ·simp [hw]
   ·simp
   ·have:=c.toNat_lt;rw [Nat.pow_succ];omega
  ·have q:=eq_false (show¬(i:Int)<4 by omega)
   rw [List.drop_of_length_le (by omega)]at he
   have he:n=Tg.Un.numL L 0:=he
   subst he
   simp [g3,g8,g9,g10,q]
   intro k hk hkl
   rw [get_new_ne (by rw [n_set];omega),get_set_ne hkl]
 obtain⟨r,H1,h1,rfl,h2,h3⟩:=key
 exact⟨H1,h1,h2,h3⟩
abbrev fU (l:Nat):Value:=.func (.func 308) #[ptr l 0] #[]
@[simp] theorem agg_fn:aggB Tryz.prog 236=some false:=by kernel_rfl
@[simp] theorem sz_fn:sz Tryz.prog 236=some 1:=by kernel_rfl
theorem v1_ok {f v:Nat} {e:TypeId} {b:Bool} {x:Int} (hk:H.get l=some (cb s 0)) (h4:4≤s.length) (hl:l<H.n) (hf:H.get f=some ⟨[fU l],e,b⟩) (hv:H.get v=some ⟨[.int .u32 x],171,true⟩) (hvn:v<H.n) (hvl:v≠l):
  ∃H1 u,R Tryz.prog EPu (.call 314 [ptr f 0,ptr v 0] H (.ret u) H1)∧H.n≤H1.n∧H1.get v=some ⟨[.int .u32 (Tg.Un.num4 s)],171,true⟩∧ ∀k,k<H.n→k≠l→k≠v→H1.get k=H.get k:=by
 obtain⟨H1,hu,hn,ho⟩:=u32_ok hk h4 hl
 have key: ∃r H2,R Tryz.prog EPu (.call 314 [ptr f 0,ptr v 0] H r H2)∧((∃u,r=.ret u)∧H2=H1.set v ⟨[.int .u32 (Tg.Un.num4 s)],171,true⟩):=by
  refine pcall Tryz.func314 rfl (Nat.le_of_ble_eq_true rfl) (by decide) (by kernel_rfl) (Q:=fun r H2=>(∃u,r=.ret u)∧H2=H1.set v ⟨[.int .u32 (Tg.Un.num4 s)],171,true⟩) ?_
  have hv1:=ho v hvn hvl
  rw [hv]at hv1
  simp [hf]
  refine hand_call_ret (g:=308) (first:=#[ptr l 0]) (caps:=#[]) (H1:=H1) rfl rfl rfl (by simp) (by simpa using hu) rfl ?_
  simp [hv1]
 obtain⟨r,H2,h1,⟨u,rfl⟩,rfl⟩:=key
 exact⟨_,u,h1,by rw [n_set];exact hn,get_set,fun k hk hkl hkv=>by rw [get_set_ne hkv,ho k hk hkl]⟩
theorem v1_bad {f v:Nat} {e:TypeId} {b:Bool} (hk:H.get l=some (cb s 0)) (h4:s.length<4) (hf:H.get f=some ⟨[fU l],e,b⟩):
  R Tryz.prog EPu (.call 314 [ptr f 0,ptr v 0] H (.pan (.agg #[.int .i64 0,.int .i64 8])) H):=by
 have hu:=u32_bad hk h4
 refine pcall_is Tryz.func314 rfl (Nat.le_of_ble_eq_true rfl) (by decide) (by kernel_rfl) ?_
 simp [hf]
 refine hand_call_pan (g:=308) (first:=#[ptr l 0]) (caps:=#[]) (H1:=H) rfl rfl rfl (by simp) (by simpa using hu) ?_
 simp
theorem value_ok (hk:H.get l=some (cb s 0)) (h4:4≤s.length) (hl:l<H.n): ∃H1,R Tryz.prog EPu (.call 307 [fU l] H (.ret (.tuple #[.int .u32 (Tg.Un.num4 s),fault0])) H1)∧H.n≤H1.n∧ ∀k,k<H.n→k≠l→H1.get k=H.get k:=by
 have key: ∃r H1,R Tryz.prog EPu (.call 307 [fU l] H r H1)∧(r=.ret (.tuple #[.int .u32 (Tg.Un.num4 s),fault0])∧H.n≤H1.n∧ ∀k,k<H.n→k≠l→H1.get k=H.get k):=by
  refine pcall Tryz.func307 rfl (Nat.le_of_ble_eq_true rfl) (by decide) (by kernel_rfl) (Q:=fun r H1=>r=.ret (.tuple #[.int .u32 (Tg.Un.num4 s),fault0])∧H.n≤H1.n∧ ∀k,k<H.n→k≠l→H1.get k=H.get k) ?_
  have g0: ∀a b c:LB,(((H.new a).new b).new c).get H.n=some a:=fun a b c=>by rw [get_new_ne (by simp only [n_new];omega),get_new_ne (by simp only [n_new];omega),get_new]
  have g1: ∀a b c:LB,(((H.new a).new b).new c).get (H.n+1+1)=some c:=fun a b c=>by rw [show H.n+1+1=((H.new a).new b).n from rfl,get_new]
  have go: ∀(a b c:LB) k,k<H.n→(((H.new a).new b).new c).get k=H.get k:=fun a b c k hk=>by rw [get_new_ne (by simp only [n_new];omega),get_new_ne (by simp only [n_new];omega),get_new_ne (by omega)]
  have hq:lbin Tryz.prog .eql 236 (fU l) .nilFunc=some (.bool false):=lbin_fn_eq Tryz.underlying236
  obtain⟨H1,u,r1,n1,e1,o1⟩:=v1_ok (H:=((H.new ⟨[fU l],236,true⟩).new ⟨[.int .i64 0,.int .i64 0],103,true⟩).new ⟨[.int .u32 0],171,true⟩) (l:=l) (f:=H.n) (v:=H.n+1+1) (x:=0) (by rw [go _ _ _ _ hl];exact hk) h4 (by simp only [n_new];omega) (g0 _ _ _) (g1 _ _ _) (by simp only [n_new];omega) (by omega)
  have hcat:R Tryz.prog EPu (.call 140 [.func (.func 314) #[] #[ptr H.n 0,ptr (H.n+1+1) 0]] _ (.ret (.tuple #[fault0,.bool false])) H1):=R.cat (E:=EPu) rfl (by simpa using r1)
  have n2:H.n+3≤H1.n:=by simp only [n_new]at n1;omega
  have c2:H1.get (H.n+1)=some ⟨[.int .i64 0,.int .i64 0],103,true⟩:=by
   rw [o1 _ (by simp only [n_new];omega) (by omega) (by omega),get_new_ne (by simp only [n_new];omega),show H.n+1=(H.new ⟨[fU l],236,true⟩).n from rfl,get_new]
  have d1:(H.n+1=H1.n)=False:=eq_false (by omega)
  have d2:(H.n+1+1=H1.n)=False:=eq_false (by omega)
  have oo: ∀k,k<H.n→k≠l→H1.get k=H.get k:=fun k hk hkl=>by rw [o1 k (by simp only [n_new];omega) hkl (by omega),go _ _ _ k hk]
  simp [g0,hq]
  refine hand_call_ret (g:=140) (first:=#[]) (caps:=#[]) (H1:=H1) rfl rfl rfl (by simp) (by simpa using hcat) rfl ?_
  simp [fault0,e1,c2,d1,d2]
  exact⟨by omega,fun k hk hkl=>by rw [get_set_ne (by omega),get_new_ne (by omega)];exact oo k hk hkl⟩
 obtain⟨r,H1,h1,rfl,h2,h3⟩:=key
 exact⟨H1,h1,h2,h3⟩
theorem value_bad (hk:H.get l=some (cb s 0)) (h4:s.length<4) (hl:l<H.n): ∃H1,R Tryz.prog EPu (.call 307 [fU l] H (.ret (.tuple #[.int .u32 0,.agg #[.int .i64 0,.int .i64 8]])) H1)∧H.n≤H1.n∧ ∀k,k<H.n→H1.get k=H.get k:=by
 have key: ∃r H1,R Tryz.prog EPu (.call 307 [fU l] H r H1)∧(r=.ret (.tuple #[.int .u32 0,.agg #[.int .i64 0,.int .i64 8]])∧H.n≤H1.n∧ ∀k,k<H.n→H1.get k=H.get k):=by
  refine pcall Tryz.func307 rfl (Nat.le_of_ble_eq_true rfl) (by decide) (by kernel_rfl) (Q:=fun r H1=>r=.ret (.tuple #[.int .u32 0,.agg #[.int .i64 0,.int .i64 8]])∧H.n≤H1.n∧ ∀k,k<H.n→H1.get k=H.get k) ?_
  have g0: ∀a b c:LB,(((H.new a).new b).new c).get H.n=some a:=fun a b c=>by rw [get_new_ne (by simp only [n_new];omega),get_new_ne (by simp only [n_new];omega),get_new]
  have go: ∀(a b c:LB) k,k<H.n→(((H.new a).new b).new c).get k=H.get k:=fun a b c k hk=>by rw [get_new_ne (by simp only [n_new];omega),get_new_ne (by simp only [n_new];omega),get_new_ne (by omega)]
  have hq:lbin Tryz.prog .eql 236 (fU l) .nilFunc=some (.bool false):=lbin_fn_eq Tryz.underlying236
  have r1:=v1_bad (H:=((H.new ⟨[fU l],236,true⟩).new ⟨[.int .i64 0,.int .i64 0],103,true⟩).new ⟨[.int .u32 0],171,true⟩) (l:=l) (f:=H.n) (v:=H.n+1+1) (by rw [go _ _ _ _ hl];exact hk) h4 (g0 _ _ _)
  have hcat:R Tryz.prog EPu (.call 140 [.func (.func 314) #[] #[ptr H.n 0,ptr (H.n+1+1) 0]] _ (.ret (.tuple #[.agg #[.int .i64 0,.int .i64 8],.bool true])) _):=R.catp (E:=EPu) rfl (by simpa using r1)
  have c2: ∀(a b c d:LB),((((H.new a).new b).new c).new d).get (H.n+1)=some b:=fun a b c d=>by rw [get_new_ne (by simp only [n_new];omega),get_new_ne (by simp only [n_new];omega),show H.n+1=(H.new a).n from rfl,get_new]
  have d3:(H.n+1=H.n+1+1+1)=False:=eq_false (by omega)
  have d4:(H.n+1+1+1=H.n+1)=False:=eq_false (by omega)
  simp [g0,hq]
  refine hand_call_ret (g:=140) (first:=#[]) (caps:=#[]) rfl rfl rfl (by simp) (by simpa using hcat) rfl ?_
  simp [c2,d3,d4]
  exact⟨by omega,fun k hk=>by rw [get_set_ne (by omega),get_new_ne (by simp only [n_new];omega),go _ _ _ k hk]⟩
 obtain⟨r,H1,h1,rfl,h2,h3⟩:=key
 exact⟨H1,h1,h2,h3⟩
theorem New_l:LC Tryz.prog EJ 106 [str s] H=some (ptr H.n 0,H.new (cb s 0)):=by
 obtain⟨r,h,e⟩: ∃r,LC Tryz.prog EJ 106 [str s] H=some (Lg.trunc H r)∧r=(ptr H.n 0,H.new (cb s 0)):=by
  refine LC_runs (P:=Tryz.prog) (E:=EJ) (f:=106) rfl Tryz.func106 rfl (Nat.le_of_ble_eq_true rfl) (by decide) (by kernel_rfl) ?_
  have hf:lfill Tryz.prog 125 [str [],.int .i64 0] [(0,str s)]=some [str s,.int .i64 0]:=by
   rw [lfill_cell (o:=0) (n:=1) (g:=false) (by simp) rfl (by simp) (by simp)];simp
  simp [hf]
 rw [h,e,trunc_no (by simp [flatB,flat1B,atomB])]
theorem num4_lt (s:List UInt8):Tg.Un.num4 s<4294967296:=by
 unfold Tg.Un.num4
 split
 ·rename_i a b c d r
  have h1:=a.toNat_lt
  have h2:=b.toNat_lt
  have h3:=c.toNat_lt
  have h4:=d.toNat_lt
  omega
 ·decide
theorem size_ok (h4:4≤s.length):R Tryz.prog EPu (.call 290 [str s] H (.ret (.tuple #[.int .i64 (Tg.Un.num4 s),.bool true])) H):=by
 have hN:=New_l (H:=H) (s:=s)
 obtain⟨H1,r1,n1,o1⟩:=value_ok (H:=H.new (cb s 0)) (l:=H.n) (by rw [get_new]) h4 (Nat.lt_succ_self _)
 have hlt:=num4_lt s
 have hw:IntKind.i64.wrap (Tg.Un.num4 s:Int)=(Tg.Un.num4 s:Int):=wrapI (by omega) (by omega)
 refine pcall_flat Tryz.func290 rfl (Nat.le_of_ble_eq_true rfl) (by decide) (by kernel_rfl) rfl ?_
 simp [hN]
 refine hand_mkf (g:=308) rfl rfl (by decide) rfl ?_
 simp
 refine hand_call_ret (g:=307) (first:=#[]) (caps:=#[]) (H1:=H1) rfl rfl rfl (by simp) (by simpa using r1) rfl ?_
 simp [fault0,hw]
 simp only [n_new]at n1
 exact⟨by show H.n≤H1.n+1;omega,fun k hk=>by rw [get_new_ne (by omega),o1 k (by simp only [n_new];omega) (by omega),get_new_ne (by omega)]⟩
theorem size_bad (h4:s.length<4):R Tryz.prog EPu (.call 290 [str s] H (.ret (.tuple #[.int .i64 0,.bool false])) H):=by
 have hN:=New_l (H:=H) (s:=s)
 obtain⟨H1,r1,n1,o1⟩:=value_bad (H:=H.new (cb s 0)) (l:=H.n) (by rw [get_new]) h4 (Nat.lt_succ_self _)
 refine pcall_flat Tryz.func290 rfl (Nat.le_of_ble_eq_true rfl) (by decide) (by kernel_rfl) rfl ?_
 simp [hN]
 refine hand_mkf (g:=308) rfl rfl (by decide) rfl ?_
 simp
 refine hand_call_ret (g:=307) (first:=#[]) (caps:=#[]) (H1:=H1) rfl rfl rfl (by simp) (by simpa using r1) rfl ?_
 simp
 simp only [n_new]at n1
 exact⟨by show H.n≤H1.n+1;omega,fun k hk=>by rw [get_new_ne (by omega),o1 k (by simp only [n_new];omega),get_new_ne (by omega)]⟩
end
end Go.Proofs.YtjplaockjmhnjaaGreatDoor
namespace Tg.Un
open Go
theorem width_lit: ∀k:Fin 256,(width (UInt8.ofNat k.1):Int)=if 8<8-(Go.Lib.bitLen k.1:Int)+1 then 8 else 8-(Go.Lib.bitLen k.1:Int)+1:=by decide+kernel
theorem width_eq (c:UInt8):(width c:Int)=if 8<8-(Go.Lib.bitLen c.toNat:Int)+1 then 8 else 8-(Go.Lib.bitLen c.toNat:Int)+1:=by
 have:=width_lit ⟨c.toNat,c.toNat_lt⟩
 simpa using this
theorem pre_eq: ∀s p:List UInt8,Go.Lib.hasPrefix s p=pre s p
 |_,[]=>by unfold pre;simp [Go.Lib.hasPrefix]
 | [],_::_=>by unfold pre;simp [Go.Lib.hasPrefix]
 |c::s,d::p=>by
  have:=pre_eq s p
  unfold Go.Lib.hasPrefix at this⊢
  unfold pre
  rw [←this]
  by_cases h:c=d
  ·subst h;simp
  ·have h2: ¬d=c:=fun e=>h e.symm
   have h3:(c==d)=false:=by simp [h]
   have h4:(d==c)=false:=by simp [h2]
   simp [List.isPrefixOf,h3,h4]
theorem pre_take: ∀s p:List UInt8,pre s p=decide (s.take p.length=p)
 |_,[]=>by unfold pre;simp
 | [],_::_=>by unfold pre;simp
 |c::s,d::p=>by
  unfold pre
  rw [pre_take s p]
  by_cases h:c=d
  ·subst h;simp
  ·have h3:(c==d)=false:=by simp [h]
   simp [h]
end Tg.Un
namespace Go.Proofs.YtjplaockjmhnjaaGreatDoor
open Go.Lg Go.Tg
section
variable {H:LH} {s t:List UInt8} {c:UInt8}
theorem bcut_cl:LC Tryz.prog EJ 31 [str s] H=some (str (s.take 1445),H):=by
 refine LC_pure rfl Tryz.func31 rfl (Nat.le_of_ble_eq_true rfl) (by decide) (by kernel_rfl) rfl ?_
 by_cases h:s.length≤1445
 ·have q:=eq_false (show¬(1445:Int)<(s.length:Int) by omega)
  simp [q,List.take_of_length_le h]
  try exact List.take_of_length_le h
 ·have q:=eq_true (show(1445:Int)<(s.length:Int) by omega)
  have q2:=eq_true (show(1445:Int)≤(s.length:Int) by omega)
  simp [q,q2]
theorem named_cl {b:Bool} :LC Tryz.prog EJ 236 [str s,.bool b] H=some (str (if b=true then s else []),H):=by
 refine LC_pure rfl Tryz.func236 rfl (Nat.le_of_ble_eq_true rfl) (by decide) (by kernel_rfl) rfl ?_
 cases b<;>simp
theorem width_cl:LC Tryz.prog EJ 268 [.int .u8 c.toNat] H=some (.int .i64 (Tg.Un.width c),H):=by
 refine LC_pure rfl Tryz.func268 rfl (Nat.le_of_ble_eq_true rfl) (by decide) (by kernel_rfl) rfl ?_
 have h1:=fun H:LH=>lz8_l (H:=H) (c:=c)
 rw [Tg.Un.width_eq c]
 have h2:(Go.Lib.bitLen c.toNat:Int)≤8:=by
  have:=Tg.Un.width_eq c
  have:0<Tg.Un.width c:=by
   unfold Tg.Un.width;repeat (split;omega)
   omega
  split at* <;>omega
 have h3:(0:Int)≤(Go.Lib.bitLen c.toNat:Int):=Int.natCast_nonneg _
 generalize (Go.Lib.bitLen c.toNat:Int)=x at*
 have hw:IntKind.i64.wrap (8-x+1)=8-x+1:=wrapI (by omega) (by omega)
 simp [h1,hw]
theorem pad_cl (hs:s.length≤1048576):LC Tryz.prog EJ 269 [str s,str [119,101,98,109]] H=some (.bool (Tg.Un.padded s),H):=by
 refine LC_pure rfl Tryz.func269 rfl (Nat.le_of_ble_eq_true rfl) (by decide) (by kernel_rfl) rfl ?_
 obtain⟨x,hx⟩: ∃x,x=Tg.Un.padded s:=⟨_,rfl⟩
 rw [←hx]
 simp
 refine loop_ind (fun(t:List UInt8) fr' H'=>fr' 0=str t∧fr' 1=str [119,101,98,109]∧x=Tg.Un.padded t∧H'=H) (fun t=>t.length) s ⟨by simp,by simp,hx,rfl⟩ ?_
 rintro t fr' H' ⟨h0,h1,hc,rfl⟩ ih
 cases t with
 |nil=>
  have hp:Go.Lib.hasPrefix ([]:List UInt8) [119,101,98,109]=false:=rfl
  have hc:x=false:=hc
  simp [h0,h1,hp,hc]
 |cons a t=>
  have hat:at_ (a::t) 0=a:=rfl
  have q1:=eq_true (show(1:Int)≤(t.length:Int)+1 by omega)
  have hp:=Tg.Un.pre_eq (a::t) [119,101,98,109]
  unfold Tg.Un.padded at hc
  by_cases ha:a=0
  ·subst ha
   rw [if_pos rfl]at hc
   have hp2:Go.Lib.hasPrefix ((0:UInt8)::t) [119,101,98,109]=false:=by rw [hp];rfl
   simp [h0,h1,hat,hp2,q1]
   refine ih t _ _ (by simp) ⟨?_,?_,hc,rfl⟩
   all_goals simp [h1]
  ·rw [if_neg ha]at hc
   have q:=tn_ne ha
   rw [show((0:UInt8).toNat:Int)=0 from rfl]at q
   have q2:(a.toNat=0)=False:=eq_false (fun e=>ha (UInt8.toNat_inj.mp (by rw [e];rfl)))
   rw [show Tg.Un.webmS= [119,101,98,109] from rfl,←hp]at hc
   simp [h0,h1,hat,q,q2,hc]
theorem wbegins_cl:LC Tryz.prog EJ 267 [str s] H=some (.bool (Tg.Un.pre s Tg.Un.mark),H):=by
 refine LC_pure rfl Tryz.func267 rfl (Nat.le_of_ble_eq_true rfl) (by decide) (by kernel_rfl) rfl ?_
 have hp:=Tg.Un.pre_eq s [26,69,223,163]
 rw [show Tg.Un.mark= [26,69,223,163] from rfl,←hp]
 simp
end
section
variable {H:LH} {s:List UInt8} {l:Nat}
theorem sub48:sub s 4 8=(s.drop 4).take 4:=by unfold sub;exact List.drop_take
theorem subn {i j:Nat} (h:i≤j):sub s (i:Int) (j:Int)=(s.drop i).take (j-i):=by unfold sub;exact List.drop_take
theorem str_app {v:Value} {N:Nat} {l:List (List UInt8)} {x:List UInt8} (h:RowN N H 9 1 v l.length (l.map str)) (hN:N≤H.n) (hl:l.length≤1000000):
  ∃v' H2,lapp Tryz.prog 60 v (some (1,[str x])) (H.new ⟨[str x],9,true⟩)=some (v',H2)∧RowN N H2 9 1 v' (l++ [x]).length ((l++ [x]).map str)∧N≤H2.n∧ ∀k,k<N→H2.get k=H.get k:=by
 have h2:RowN N (H.new ⟨[str x],9,true⟩) 9 1 v l.length (l.map str):=h.keep (Nat.le_succ _) (fun k _ _ hk=>get_new_ne (by omega))
 obtain⟨v',H2,ha,hr,hk,_⟩:=h2.app (t:=60) (new:= [x].map str) (m:=1) Tryz.underlying60 (by kernel_rfl) (by simp) (by simp) (by unfold maxElems;omega) (by rw [n_new];omega) (.inl (Nat.le_refl 1))
 refine⟨v',H2,ha,by rw [List.length_append,List.map_append];exact hr,Nat.le_trans (by rw [n_new];omega) hk.le,fun k hkn=>?_⟩
 rw [hk.get k (by rw [n_new];omega) (h.off_lt hkn),get_new_ne (by omega)]
theorem srow_n {N:Nat} {v:Value} {xs:List (List UInt8)} (h:RowN N H 9 1 v xs.length (xs.map str)):SRow H v xs:=by
 rcases h.2 with⟨e,h0⟩|⟨k,c,rest,rfl,_,h1,h2,_⟩
 ·exact .inl ⟨e,List.eq_nil_of_length_eq_zero h0⟩
 ·exact SRow.of h2 h1
theorem bs1s {x:List UInt8} :lbuildSlice Tryz.prog 60 1 [(0,str x)] H=some (sl H.n 1 1,H.new ⟨[str x],9,true⟩):=lbs_dense (z:=str []) Tryz.underlying60 (by kernel_rfl) (by kernel_rfl) rfl rfl rfl (by decide) rfl
def piece (s:List UInt8) (i:Nat):List UInt8:=(s.drop (16+4*i)).take 4
theorem begins_r:R Tryz.prog EPu (.call 289 [str s] H (.ret (.bool (Tg.Un.mp4h s))) H):=by
 refine pcall_flat Tryz.func289 rfl (Nat.le_of_ble_eq_true rfl) (by decide) (by kernel_rfl) rfl ?_
 unfold Tg.Un.mp4h
 by_cases h4:s.length<4
 ·have hs:=size_bad (H:=H) h4
  have e:decide (12≤s.length)=false:=decide_eq_false (by omega)
  rw [e]
  simp
  refine hand_call_ret (g:=290) (first:=#[]) (caps:=#[]) (H1:=H) rfl rfl rfl (by simp) (by simpa using hs) rfl ?_
  simp
 ·have hs:=size_ok (H:=H) (s:=s) (by omega)
  simp
  refine hand_call_ret (g:=290) (first:=#[]) (caps:=#[]) (H1:=H) rfl rfl rfl (by simp) (by simpa using hs) rfl ?_
  have tm:(Tg.Un.num4 s:Int).tmod 4=((Tg.Un.num4 s%4:Nat):Int):=by rw [Int.tmod_eq_emod_of_nonneg (by omega)];rfl
  generalize Tg.Un.num4 s=n at*
  by_cases a1:12≤s.length
  ·have q1:=eq_true (show(12:Int)≤(s.length:Int) by omega)
   by_cases a2:n≤s.length
   ·have q2:=eq_true (show(n:Int)≤(s.length:Int) by omega)
    by_cases a3:n%4=0
    ·rw [a3]at tm
     have q8:=eq_true (show(8:Int)≤(s.length:Int) by omega)
     by_cases a4:(s.drop 4).take 4=Tg.Un.ftyp
     ·simp [q1,q2,q8,tm,a1,a2,a3,a4]
      rw [sub48];exact a4
     ·simp [q1,q2,q8,tm,a1,a2,a3,a4]
      rw [sub48]
      exact(decide_eq_false a4).trans (beq_eq_false_iff_ne.2 a4).symm
    ·have q3:=eq_false (show¬((n%4:Nat):Int)=0 by omega)
     have q4:=eq_false (show¬(n:Int)%4=0 by omega)
     simp [q1,q2,tm,q3,q4,a1,a2,a3]
   ·have q2:=eq_false (show¬(n:Int)≤(s.length:Int) by omega)
    simp [q1,q2,a1,a2]
  ·have q1:=eq_false (show¬(12:Int)≤(s.length:Int) by omega)
   simp [q1,a1]
theorem brands_r (hs:s.length≤1000000): ∃v H1,R Tryz.prog EPu (.call 265 [str s] H (.ret v) H1)∧SRow H1 v (if Tg.Un.mp4h s=true then Tg.Un.brands s else [])∧H.n≤H1.n∧ ∀k,k<H.n→H1.get k=H.get k:=by
 have key: ∃r H1,R Tryz.prog EPu (.call 265 [str s] H r H1)∧ ∃v,r=.ret v∧SRow H1 v (if Tg.Un.mp4h s=true then Tg.Un.brands s else [])∧H.n≤H1.n∧ ∀k,k<H.n→H1.get k=H.get k:=by
  refine pcall Tryz.func265 rfl (Nat.le_of_ble_eq_true rfl) (by decide) (by kernel_rfl) (Q:=fun r H1=> ∃v,r=.ret v∧SRow H1 v (if Tg.Un.mp4h s=true then Tg.Un.brands s else [])∧H.n≤H1.n∧ ∀k,k<H.n→H1.get k=H.get k) ?_
  have hb:=begins_r (H:=H) (s:=s)
  cases hm:Tg.Un.mp4h s with
  |false=>
   rw [hm]at hb
   simp
   refine hand_call_ret (g:=289) (first:=#[]) (caps:=#[]) (H1:=H) rfl rfl rfl (by simp) (by simpa using hb) rfl ?_
   simp
   exact .inl ⟨rfl,rfl⟩
  |true=>
   rw [hm]at hb
   obtain⟨a1,a2,a3,_⟩:12≤s.length∧Tg.Un.num4 s≤s.length∧Tg.Un.num4 s%4=0∧(s.drop 4).take 4=Tg.Un.ftyp:=by
    unfold Tg.Un.mp4h at hm;simpa using hm
   have hz:=size_ok (H:=H) (s:=s) (by omega)
   unfold Tg.Un.brands
   generalize Tg.Un.num4 s=n at*
   have q1:=eq_true (show(12:Int)≤(s.length:Int) by omega)
   have e8:sub s 8 12=(s.drop 8).take 4:=List.drop_take
   simp
   refine hand_call_ret (g:=289) (first:=#[]) (caps:=#[]) (H1:=H) rfl rfl rfl (by simp) (by simpa using hb) rfl ?_
   simp
   refine hand_call_ret (g:=290) (first:=#[]) (caps:=#[]) (H1:=H) rfl rfl rfl (by simp) (by simpa using hz) rfl ?_
   simp [q1,bs1s,e8]
   refine ploop_ind (fun(i:Nat) fr' H' p'=>fr' 0=str s∧fr' 3=.int .i64 n∧fr' 6=.int .i64 ((16+4*i:Nat):Int)∧i≤(n-16)/4∧(∃v,fr' 5=v∧RowN H.n H' 9 1 v ((s.drop 8).take 4::(List.range i).map (piece s)).length (((s.drop 8).take 4::(List.range i).map (piece s)).map str))∧H.n≤H'.n∧(∀k,k<H.n→H'.get k=H.get k)∧p'=none) (fun i=>(n-16)/4-i) 0 ⟨by simp,by simp,by simp,Nat.zero_le _,⟨sl H.n 1 1,by simp,?_⟩,by simp,fun k hk=>get_new_ne (by omega),rfl⟩ ?_
   ·exact⟨by simp,.inr ⟨H.n,1,[],rfl,Nat.le_refl _,by simp,by simp,Nat.le_refl _,by simp⟩⟩
   rintro i fr' H' p' ⟨g0,g3,g6,hi,⟨v,g5,hr⟩,hn,ho,rfl⟩ ih
   by_cases hlt:i<(n-16)/4
   ·have q:=eq_true (show((16+4*i:Nat):Int)<(n:Int) by omega)
    have w1:IntKind.i64.wrap (((16+4*i:Nat):Int)+4)=((16+4*(i+1):Nat):Int):=by rw [wrapI (by omega) (by omega)];omega
    have q2:=eq_true (show((16+4*i:Nat):Int)≤((16+4*(i+1):Nat):Int) by omega)
    have q3:=eq_true (show((16+4*(i+1):Nat):Int)≤(s.length:Int) by omega)
    have hp:sub s ((16+4*i:Nat):Int) ((16+4*(i+1):Nat):Int)=piece s i:=by
     rw [subn (by omega),show 16+4*(i+1)-(16+4*i)=4 by omega];rfl
    have hn0:=eq_true (show(0:Int)≤((16+4*i:Nat):Int) by omega)
    obtain⟨v2,H2,b1,b2,b3,b4⟩:=str_app (x:=piece s i) hr hn (by simp;omega)
    have hnew:((s.drop 8).take 4::(List.range i).map (piece s))++ [piece s i]=(s.drop 8).take 4::(List.range (i+1)).map (piece s):=by
     rw [List.range_succ,List.map_append];rfl
    rw [hnew]at b2
    have hcv:=b2.cell
    generalize ((16+4*i:Nat):Int)=A at*
    generalize hB:((16+4*(i+1):Nat):Int)=B at*
    simp [g0,g3,g6,q,w1,q2,q3,hn0,g5,hp,bs1s,b1,hcv]
    refine ih (i+1) _ _ _ (by omega) ⟨?_,?_,?_,by omega,⟨v2,?_,b2⟩,b3,fun k hk=>by rw [b4 k hk,ho k hk],rfl⟩
    ·simp [g0]
    ·simp [g3]
    ·simp [w1,hB]
    ·simp
   ·have q:=eq_false (show¬((16+4*i:Nat):Int)<(n:Int) by omega)
    obtain rfl:i=(n-16)/4:=by omega
    have hsr:=srow_n hr
    generalize ((16+4*((n-16)/4):Nat):Int)=A at*
    simp [g0,g3,g6,q,g5]
    exact⟨hsr,hn,ho⟩
 obtain⟨r,H1,h1,v,rfl,h2,h3⟩:=key
 exact⟨v,H1,h1,h2,h3⟩
theorem is1_cl:LC Tryz.prog EJ 266 [str s] H=some (.bool (s.take 3== [109,112,52]),H):=by
 refine LC_pure rfl Tryz.func266 rfl (Nat.le_of_ble_eq_true rfl) (by decide) (by kernel_rfl) rfl ?_
 have hp:Lib.hasPrefix s [109,112,52]=(s.take 3== [109,112,52]):=by
  rw [Tg.Un.pre_eq,Tg.Un.pre_take]
  by_cases h:s.take 3= [109,112,52]
  ·exact(decide_eq_true h).trans (beq_iff_eq.2 h).symm
  ·exact(decide_eq_false h).trans (beq_eq_false_iff_ne.2 h).symm
 rw [←hp]
 simp
theorem mp4_r (hs:s.length≤1000000):R Tryz.prog EPu (.call 237 [str s] H (.ret (.bool (Tg.Un.mp4 s))) H):=by
 obtain⟨v,H1,r1,sr,n1,o1⟩:=brands_r (H:=H) hs
 refine pcall_flat Tryz.func237 rfl (Nat.le_of_ble_eq_true rfl) (by decide) (by kernel_rfl) rfl ?_
 have hlen:(if Tg.Un.mp4h s=true then Tg.Un.brands s else []).length≤1000000:=by
  cases hm:Tg.Un.mp4h s with
  |false=>simp
  |true=>
   rw [if_pos rfl]
   have:Tg.Un.num4 s≤s.length:=by
    unfold Tg.Un.mp4h at hm
    simp at hm;exact hm.2.1
   simp [Tg.Un.brands];omega
 have h2:=containsS_cl (g:=266) (caps:= []) (q:=fun b=>b.take 3== [109,112,52]) sr hlen (fun x _=>is1_cl)
 have he:(if Tg.Un.mp4h s=true then Tg.Un.brands s else []).any (fun b=>b.take 3== [109,112,52])=Tg.Un.mp4 s:=by
  unfold Tg.Un.mp4
  cases Tg.Un.mp4h s<;>simp
 rw [he]at h2
 have hc:=fun H:LH=>sr.len (H':=H)
 simp
 refine hand_call_ret (g:=265) (first:=#[]) (caps:=#[]) (H1:=H1) rfl rfl rfl (by simp) (by simpa using r1) rfl ?_
 simp [h2]
 exact⟨n1,fun k hk=>o1 k hk⟩
end
section
variable {H:LH} {b:UInt8} {s p t:List UInt8}
theorem rhas_cl (hs:s.length≤1048576):LC Tryz.prog EJ 198 [str s,.int .u8 b.toNat] H=some (.bool (s.contains b),H):=by
 refine LC_pure rfl Tryz.func198 rfl (Nat.le_of_ble_eq_true rfl) (by decide) (by kernel_rfl) rfl ?_
 obtain⟨x,hx⟩: ∃x,x=s.contains b:=⟨_,rfl⟩
 rw [←hx]
 simp
 refine loop_ind (fun(i:Nat) fr' H'=>fr' 0=str s∧fr' 1=.int .u8 b.toNat∧fr' 5=.int .i64 i∧i≤s.length∧x=(s.drop i).contains b∧H'=H) (fun i=>s.length-i) 0 ⟨by simp,by simp,by simp,Nat.zero_le _,hx,rfl⟩ ?_
 rintro i fr' H' ⟨h0,h1,h5,hi,hc,rfl⟩ ih
 by_cases hlt:i<s.length
 ·have q:=eq_true (show(i:Int)<(s.length:Int) by omega)
  have hat:at_ s (i:Int)=s[i]:=at_in hlt
  have hw:IntKind.i64.wrap ((i:Int)+1)=((i+1:Nat):Int):=by rw [wrapI (by omega) (by omega)];omega
  rw [List.drop_eq_getElem_cons hlt,List.contains_cons]at hc
  generalize s[i]=c at*
  by_cases hcb:c=b
  ·subst hcb
   have hc:x=true:=by rw [hc];simp
   subst hc
   simp [h0,h1,h5,q,hat]
  ·have hne:=tn_ne hcb
   have hcb2:(b==c)=false:=by simp;exact fun e=>hcb e.symm
   rw [hcb2,Bool.false_or]at hc
   simp [h0,h1,h5,q,hat,hne]
   refine ih (i+1) _ _ (by omega) ⟨?_,?_,?_,by omega,hc,rfl⟩
   all_goals simp [h0,h1,hw]
 ·have q:=eq_false (show¬(i:Int)<(s.length:Int) by omega)
  rw [List.drop_of_length_le (by omega)]at hc
  have hc:x=false:=by rw [hc];rfl
  subst hc
  simp [h0,h1,h5,q]
theorem tcut_cl {k:Int} (h0:0≤k):LC Tryz.prog EJ 9 [str s,.int .i64 k] H=some (str (s.take k.toNat),H):=by
 refine LC_pure rfl Tryz.func9 rfl (Nat.le_of_ble_eq_true rfl) (by decide) (by kernel_rfl) (by simp) ?_
 by_cases hc:k<s.length
 ·have f:=eq_true hc
  have f2:=eq_true (show k≤s.length by omega)
  have f3:=eq_true h0
  simp [f,f2,f3]
 ·have f:=eq_false hc
  have e:s.take k.toNat=s:=List.take_of_length_le (by omega)
  simp [f,e]
end
section
variable {H:LH} {s:List UInt8} {p:Tg.Un.Pat} {v:Value} {l:List Tg.Un.Pat} {a c:UInt8}
theorem rgood_cl:LC Tryz.prog EJ 169 [pv p] H=some (.bool (Tg.Un.good p),H):=by
 refine LC_pure rfl Tryz.func169 rfl (Nat.le_of_ble_eq_true rfl) (by decide) (by kernel_rfl) rfl ?_
 unfold Tg.Un.good
 by_cases h1:1≤p.b.length
 ·have q1:=eq_true (show(0:Int)<(p.b.length:Int) by omega)
  have q1':=eq_true (show 0<p.b.length by omega)
  by_cases h2:p.b.length≤64
  ·have q2:=eq_true (show(p.b.length:Int)<65 by omega)
   by_cases h3:p.m.length=p.b.length
   ·have q3:=eq_true (show(p.b.length:Int)=(p.m.length:Int) by omega)
    have q3':=eq_true (show p.b.length=p.m.length by omega)
    simp [h1,h2,h3,q1,q1',q2,q3,q3']
   ·have q3:=eq_false (show¬(p.b.length:Int)=(p.m.length:Int) by omega)
    have q3':=eq_false (show¬p.b.length=p.m.length by omega)
    simp [h1,h2,h3,q1,q1',q2,q3,q3']
  ·have q2:=eq_false (show¬(p.b.length:Int)<65 by omega)
   simp [h1,h2,q1,q1',q2]
 ·have q1:=eq_false (show¬(0:Int)<(p.b.length:Int) by omega)
  have q1':=eq_false (show¬0<p.b.length by omega)
  simp [h1,q1,q1']
theorem rbegins_cl (hs:s.length≤1048576) (hp:p.s.length≤1048576):LC Tryz.prog EJ 206 [str s,pv p] H=some (.int .i64 (Tg.Un.begins p.s s),H):=by
 refine LC_pure rfl Tryz.func206 rfl (Nat.le_of_ble_eq_true rfl) (by decide) (by kernel_rfl) rfl ?_
 obtain⟨x,hx⟩: ∃x,x=Tg.Un.begins p.s s:=⟨_,rfl⟩
 rw [←hx]
 have hh:=fun(H:LH) (c:UInt8)=>rhas_cl (H:=H) (s:=p.s) (b:=c) hp
 simp
 refine loop_ind (fun(i:Nat) fr' H'=>fr' 0=str s∧fr' 3=ptr H.n 0∧fr' 5=.int .i64 i∧i≤s.length∧x=i+Tg.Un.begins p.s (s.drop i)∧H'=H.new ⟨[str p.b,str p.m,str p.s,str p.t],92,true⟩) (fun i=>s.length-i) 0 ⟨by simp,by simp,by simp,Nat.zero_le _,by rw [hx];simp,by simp⟩ ?_
 rintro i fr' H' ⟨h0,h3,h5,hi,hc,rfl⟩ ih
 by_cases hlt:i<s.length
 ·have q:=eq_true (show(i:Int)<(s.length:Int) by omega)
  have hat:at_ s (i:Int)=s[i]:=at_in hlt
  have hw:IntKind.i64.wrap ((i:Int)+1)=((i+1:Nat):Int):=by rw [wrapI (by omega) (by omega)];omega
  rw [List.drop_eq_getElem_cons hlt]at hc
  unfold Tg.Un.begins at hc
  have hhc:=fun H:LH=>hh H s[i]
  generalize s[i]=b at*
  cases hb:p.s.contains b with
  |true=>
   rw [hb,if_pos rfl]at hc
   rw [hb]at hhc
   simp [h0,h3,h5,q,hat,hhc]
   refine ih (i+1) _ _ (by omega) ⟨?_,?_,?_,by omega,by omega,rfl⟩
   all_goals simp [h0,h3,hw]
  |false=>
   rw [hb,if_neg (by decide)]at hc
   rw [hb]at hhc
   have hc:x=i:=by omega
   simp [h0,h3,h5,q,hat,hhc,hc]
 ·have q:=eq_false (show¬(i:Int)<(s.length:Int) by omega)
  rw [List.drop_of_length_le (by omega)]at hc
  have hc:x=i:=by rw [hc];simp [Tg.Un.begins]
  have hc:x=s.length:=by omega
  simp [h0,h3,h5,q,hc]
end
section
variable {H:LH} {s t:List UInt8} {p:Tg.Un.Pat} {v:Value} {l:List Tg.Un.Pat} {a c:UInt8}
theorem tdivn (n m:Nat):(n:Int).tdiv (m:Int)=((n/m:Nat):Int):=by rw [Int.tdiv_eq_ediv_of_nonneg (by omega)];rfl
theorem tmodn (n m:Nat):(n:Int).tmod (m:Int)=((n%m:Nat):Int):=by rw [Int.tmod_eq_emod_of_nonneg (by omega)];rfl
theorem rand_cl:LC Tryz.prog EJ 207 [.int .u8 a.toNat,.int .u8 c.toNat] H=some (.int .u8 (a&&&c).toNat,H):=by
 refine LC_pure rfl Tryz.func207 rfl (Nat.le_of_ble_eq_true rfl) (by decide) (by kernel_rfl) rfl ?_
 have ha:=a.toNat_lt
 have hc:=c.toNat_lt
 have hwa:IntKind.i64.wrap (a.toNat:Int)=(a.toNat:Int):=wrapI (by omega) (by omega)
 have hwc:IntKind.i64.wrap (c.toNat:Int)=(c.toNat:Int):=wrapI (by omega) (by omega)
 obtain⟨z,hz⟩: ∃z,z=(a&&&c).toNat:=⟨_,rfl⟩
 have hzl:z<256:=by rw [hz];exact(a&&&c).toNat_lt
 rw [←hz]
 have hR:=Tg.Un.andR_byte a c
 rw [←hz]at hR
 simp
 refine loop_ind (fun(i:Nat) fr' H'=>fr' 0=.int .u8 a.toNat∧fr' 1=.int .u8 c.toNat∧(∃o:Nat,fr' 5=.int .i64 o∧o<2^i∧Tg.Un.andR (8-i) a.toNat c.toNat (2^i) o=z)∧fr' 6=.int .i64 ((2^i:Nat):Int)∧fr' 7=.int .i64 i∧i≤8∧H'=H) (fun i=>8-i) 0 ⟨by simp,by simp,⟨0,by simp,by decide,hR⟩,by simp,by simp,by decide,rfl⟩ ?_
 rintro i fr' H' ⟨g0,g1,⟨o,g5,ho,hA⟩,g6,g7,hi,rfl⟩ ih
 by_cases hlt:i<8
 ·have q:=eq_true (show(i:Int)<8 by omega)
  have hw:IntKind.i64.wrap ((i:Int)+1)=((i+1:Nat):Int):=by rw [wrapI (by omega) (by omega)];omega
  have hm0:0<2^i:=Nat.two_pow_pos i
  have hm1:2^i≤2^7:=Nat.pow_le_pow_right (by decide) (by omega)
  have hm2:2^(i+1)=2*2^i:=by rw [Nat.pow_succ,Nat.mul_comm]
  rw [show 8-i=(8-(i+1))+1 by omega]at hA
  unfold Tg.Un.andR at hA
  rw [←hm2]at hA
  have hgo:=fun(fr2:Fr) (o2:Nat) (e0:fr2 0=.int .u8 a.toNat) (e1:fr2 1=.int .u8 c.toNat) (e5:fr2 5=.int .i64 o2) (e6:fr2 6=.int .i64 ((2^(i+1):Nat):Int)) (e7:fr2 7=.int .i64 ((i+1:Nat):Int)) (hl:o2<2^(i+1)) (hx:Tg.Un.andR (8-(i+1)) a.toNat c.toNat (2^(i+1)) o2=z)=>ih (i+1) fr2 H' (by omega) ⟨e0,e1,⟨o2,e5,hl,hx⟩,e6,e7,by omega,rfl⟩
  clear ih
  rw [hm2]at hgo hA
  generalize 2^i=m at*
  have d1:=tdivn a.toNat m
  have d2:=tdivn c.toNat m
  have x1:a.toNat/m≤a.toNat:=Nat.div_le_self _ _
  have x2:c.toNat/m≤c.toNat:=Nat.div_le_self _ _
  generalize a.toNat/m=x at*
  generalize c.toNat/m=y at*
  have wx:IntKind.i64.wrap (x:Int)=(x:Int):=wrapI (by omega) (by omega)
  have wy:IntKind.i64.wrap (y:Int)=(y:Int):=wrapI (by omega) (by omega)
  have e1:(x:Int).tmod 2=((x%2:Nat):Int):=tmodn x 2
  have e2:(y:Int).tmod 2=((y%2:Nat):Int):=tmodn y 2
  have wm:IntKind.i64.wrap (2*(m:Int))=((2*m:Nat):Int):=by rw [wrapI (by omega) (by omega)];omega
  have wo:IntKind.i64.wrap ((o:Int)+(m:Int))=((o+m:Nat):Int):=by rw [wrapI (by omega) (by omega)];omega
  have nz:=eq_false (show¬m=0 by omega)
  have nz2:=eq_false (show¬(m:Int)=0 by omega)
  have l1:x%2<2:=Nat.mod_lt _ (by decide)
  have l2:y%2<2:=Nat.mod_lt _ (by decide)
  generalize x%2=x' at*
  generalize y%2=y' at*
  by_cases c1:x'=1
  ·have p1:=eq_true (show(x':Int)=1 by omega)
   by_cases c2:y'=1
   ·have p2:=eq_true (show(y':Int)=1 by omega)
    rw [if_pos ⟨c1,c2⟩]at hA
    simp [g0,g1,g5,g6,g7,q,hwa,hwc,d1,d2,wx,wy,e1,e2,wm,wo,nz,nz2,p1,p2]
    refine hgo _ (o+m) ?_ ?_ ?_ ?_ ?_ (by omega) hA
    all_goals simp [g0,g1,hw,wm,wo]
   ·have p2:=eq_false (show¬(y':Int)=1 by omega)
    rw [if_neg (fun h=>c2 h.2)]at hA
    simp [g0,g1,g5,g6,g7,q,hwa,hwc,d1,d2,wx,wy,e1,e2,wm,wo,nz,nz2,p1,p2]
    refine hgo _ o ?_ ?_ ?_ ?_ ?_ (by omega) hA
    all_goals simp [g0,g1,g5,hw,wm]
  ·have p1:=eq_false (show¬(x':Int)=1 by omega)
   rw [if_neg (fun h=>c1 h.1)]at hA
   simp [g0,g1,g5,g6,g7,q,hwa,hwc,d1,d2,wx,wy,e1,e2,wm,wo,nz,nz2,p1]
   refine hgo _ o ?_ ?_ ?_ ?_ ?_ (by omega) hA
   all_goals simp [g0,g1,g5,hw,wm]
 ·have q:=eq_false (show¬(i:Int)<8 by omega)
  obtain rfl:i=8:=by omega
  have hA:o=z:=hA
  subst hA
  have w8:IntKind.u8.wrap (o:Int)=(o:Int):=by rw [IntKind.wrap_u8];omega
  simp [g0,g1,g5,g6,g7,w8]
theorem ris_cl (hs:s.length≤1048576) (hp:p.s.length≤1048576) (hb:p.b.length≤1000) (hm:p.m.length=p.b.length):LC Tryz.prog EJ 170 [str s,pv p] H=some (.tuple #[.bool (Tg.Un.fit (Tg.Un.rest p s) p.b p.m),.bool (Tg.Un.fit (Tg.Un.rest p s) p.b p.m&&decide (p.b.length≤(Tg.Un.rest p s).length))],H):=by
 refine LC_pure rfl Tryz.func170 rfl (Nat.le_of_ble_eq_true rfl) (by decide) (by kernel_rfl) rfl ?_
 have hbg:=fun H:LH=>rbegins_cl (H:=H) (s:=s) (p:=p) hs hp
 have hbl:=Tg.Un.begins_le p.s s
 have q0:=eq_true (show(Tg.Un.begins p.s s:Int)≤(s.length:Int) by omega)
 have q0':=eq_true (show(0:Int)≤(Tg.Un.begins p.s s:Int) by omega)
 obtain⟨r,hr⟩: ∃r,r=Tg.Un.rest p s:=⟨_,rfl⟩
 have hr2:s.drop (Tg.Un.begins p.s s)=r:=hr.symm
 have hrl:r.length≤1048576:=by rw [hr];unfold Tg.Un.rest;simp;omega
 rw [←hr]
 obtain⟨x,hx⟩: ∃x,x=Tg.Un.fit r p.b p.m:=⟨_,rfl⟩
 rw [←hx]
 simp [hbg,q0,q0',hr2]
 refine loop_ind (fun(i:Nat) fr' H'=>fr' 0=str r∧fr' 3=ptr H.n 0∧fr' 6=.int .i64 i∧i≤p.b.length∧i≤r.length∧x=Tg.Un.fit (r.drop i) (p.b.drop i) (p.m.drop i)∧H'=H.new ⟨[str p.b,str p.m,str p.s,str p.t],92,true⟩) (fun i=>p.b.length-i) 0 ⟨by simp,by simp,by simp,Nat.zero_le _,Nat.zero_le _,by rw [hx];simp,by simp⟩ ?_
 rintro i fr' H' ⟨g0,g3,g6,hi,hi2,hc,rfl⟩ ih
 by_cases h1:i<p.b.length
 ·have q1:=eq_true (show(i:Int)<(p.b.length:Int) by omega)
  by_cases h2:i<r.length
  ·have q2:=eq_true (show(i:Int)<(r.length:Int) by omega)
   have h3:i<p.m.length:=by omega
   have q3:=eq_true (show(i:Int)<(p.m.length:Int) by omega)
   have a1:at_ r (i:Int)=r[i]:=at_in h2
   have a2:at_ p.b (i:Int)=p.b[i]:=at_in h1
   have a3:at_ p.m (i:Int)=p.m[i]:=at_in h3
   have hw:IntKind.i64.wrap ((i:Int)+1)=((i+1:Nat):Int):=by rw [wrapI (by omega) (by omega)];omega
   have hand:=fun H:LH=>rand_cl (H:=H) (a:=r[i]) (c:=p.m[i])
   rw [List.drop_eq_getElem_cons h2,List.drop_eq_getElem_cons h1,List.drop_eq_getElem_cons h3]at hc
   generalize r[i]=c at*
   generalize p.b[i]=b at*
   generalize p.m[i]=m at*
   unfold Tg.Un.fit at hc
   by_cases hcb:c&&&m=b
   ·have hc:x=Tg.Un.fit (r.drop (i+1)) (p.b.drop (i+1)) (p.m.drop (i+1)):=by rw [hc,hcb];simp
    rw [hcb]at hand
    simp [g0,g3,g6,q1,q2,q3,a1,a2,a3,hand]
    refine ih (i+1) _ _ (by omega) ⟨?_,?_,?_,by omega,by omega,hc,rfl⟩
    all_goals simp [g0,g3,hw]
   ·have hc2:x=false:=by rw [hc,beq_eq_false_iff_ne.2 hcb];rfl
    clear hc
    have hne:=tn_ne hcb
    generalize c&&&m=e at*
    simp [g0,g3,g6,q1,q2,q3,a1,a2,a3,hand,hne,hc2]
  ·have q2:=eq_false (show¬(i:Int)<(r.length:Int) by omega)
   have hc:x=true:=by
    rw [hc,List.drop_of_length_le (by omega)];unfold Tg.Un.fit;rfl
   have q4:=eq_false (show¬(p.b.length:Int)≤(r.length:Int) by omega)
   have q5:=eq_false (show¬p.b.length≤r.length by omega)
   simp [g0,g3,g6,q1,q2,hc,q4,q5]
 ·have q1:=eq_false (show¬(i:Int)<(p.b.length:Int) by omega)
  have hc:x=true:=by
   rw [hc,show p.b.drop i= [] from List.drop_of_length_le (by omega)];unfold Tg.Un.fit;split<;>simp_all
  have q4:=eq_true (show(p.b.length:Int)≤(r.length:Int) by omega)
  have q5:=eq_true (show p.b.length≤r.length by omega)
  simp [g0,g3,g6,q1,hc,q4,q5]
theorem rmatch_cl (hs:s.length≤1048576) (hp:p.s.length≤1048576):LC Tryz.prog EJ 125 [str s,pv p] H=some (.bool (Tg.Un.hits p s),H):=by
 refine LC_pure rfl Tryz.func125 rfl (Nat.le_of_ble_eq_true rfl) (by decide) (by kernel_rfl) rfl ?_
 have h1:=fun H:LH=>rgood_cl (H:=H) (p:=p)
 unfold Tg.Un.hits
 cases hg:Tg.Un.good p with
 |false=>rw [hg]at h1;simp [h1]
 |true=>
  rw [hg]at h1
  obtain⟨⟨g1,g2⟩,g3⟩:(1≤p.b.length∧p.b.length≤64)∧p.m.length=p.b.length:=by simpa [Tg.Un.good]using hg
  have h2:=fun H:LH=>ris_cl (H:=H) (s:=s) (p:=p) hs hp (by omega) g3
  generalize Tg.Un.fit (Tg.Un.rest p s) p.b p.m=f at*
  cases f with
  |false=>simp [h1,h2]
  |true=>simp [h1,h2]
theorem rfirst_cl (hr:PRow H v l) (hl:l.length≤1000000) (hs:s.length≤1048576) (hp: ∀p∈l,p.s.length≤1048576):LC Tryz.prog EJ 89 [str s,v] H=some (.int .i64 (Tg.Un.at_ s l 0),H):=by
 refine LC_pure rfl Tryz.func89 rfl (Nat.le_of_ble_eq_true rfl) (by decide) (by kernel_rfl) rfl ?_
 obtain⟨x,hx⟩: ∃x,x=Tg.Un.at_ s l 0:=⟨_,rfl⟩
 rw [←hx]
 simp [hr.len]
 refine loop_ind (fun(i:Nat) fr' H'=>fr' 0=str s∧fr' 1=v∧fr' 5=.int .i64 i∧i≤l.length∧x=Tg.Un.at_ s (l.drop i) i∧H'=H) (fun i=>l.length-i) 0 ⟨by simp,by simp,by simp,Nat.zero_le _,hx,rfl⟩ ?_
 rintro i fr' H' ⟨h0,h1,h5,hi,hc,rfl⟩ ih
 by_cases hlt:i<l.length
 ·have q:=eq_true (show(i:Int)<(l.length:Int) by omega)
  have hw:IntKind.i64.wrap ((i:Int)+1)=((i+1:Nat):Int):=by rw [wrapI (by omega) (by omega)];omega
  obtain⟨k2,o,g1,g2,g3⟩:=hr.at hlt
  obtain⟨g4,_⟩:=g3 H' rfl
  have ho:=fun H:LH=>rmatch_cl (H:=H) (s:=s) (p:=l[i]) hs (hp _ (List.getElem_mem hlt))
  rw [List.drop_eq_getElem_cons hlt]at hc
  generalize l[i]=a at*
  unfold Tg.Un.at_ at hc
  cases hf:Tg.Un.hits a s with
  |true=>
   rw [hf,if_pos rfl]at hc
   rw [hf]at ho
   subst hc
   simp [h0,h1,h5,q,hlt,g1,g4,ho,hr.len]
  |false=>
   rw [hf,if_neg (by decide)]at hc
   rw [hf]at ho
   simp [h0,h1,h5,q,hlt,g1,g4,ho,hr.len]
   refine ih (i+1) _ _ (by omega) ⟨?_,?_,?_,by omega,hc,rfl⟩
   all_goals simp [h0,h1,hw]
 ·have q:=eq_false (show¬(i:Int)<(l.length:Int) by omega)
  rw [List.drop_of_length_le (by omega)]at hc
  have hc:x= -1:=hc
  subst hc
  simp [h0,h1,h5,q,hlt,hr.len]
theorem rtype_cl (hr:PRow H v l) (hl:l.length≤1000000) (hs:s.length≤1048576) (hp: ∀p∈l,p.s.length≤1048576):LC Tryz.prog EJ 53 [str s,v] H=some (str (Tg.Un.typeOf s l),H):=by
 refine LC_pure rfl Tryz.func53 rfl (Nat.le_of_ble_eq_true rfl) (by decide) (by kernel_rfl) rfl ?_
 have h1:=rfirst_cl hr hl hs hp
 by_cases hx:Tg.Un.at_ s l 0<0
 ·rw [Tg.Un.at_none hx]
  simp [h1,hx]
 ·obtain⟨k,hk,e1,e2⟩:=Tg.Un.at_some (s:=s) (l:=l) (i:=0) (by omega)
  rw [e2]
  rw [e1]at h1
  obtain⟨k2,o,g1,g2,g3⟩:=hr.at hk
  obtain⟨_,_,_,_,g4⟩:=g3 H rfl
  have q:=eq_false (show¬((0+k:Nat):Int)<0 by omega)
  rw [Nat.zero_add]at h1 q
  simp [h1,q,g1,g4]
end
theorem bsP6 {H:LH} {a0 b0 c0 d0 a1 b1 c1 d1 a2 b2 c2 d2 a3 b3 c3 d3 a4 b4 c4 d4 a5 b5 c5 d5:List UInt8} :lbuildSlice Tryz.prog 74 6 [(0,.agg #[str a0,str b0,str c0,str d0]),(1,.agg #[str a1,str b1,str c1,str d1]),(2,.agg #[str a2,str b2,str c2,str d2]),(3,.agg #[str a3,str b3,str c3,str d3]),(4,.agg #[str a4,str b4,str c4,str d4]),(5,.agg #[str a5,str b5,str c5,str d5])] H=some (sl H.n 6 6,H.new ⟨[str a0,str b0,str c0,str d0,str a1,str b1,str c1,str d1,str a2,str b2,str c2,str d2,str a3,str b3,str c3,str d3,str a4,str b4,str c4,str d4,str a5,str b5,str c5,str d5],92,true⟩):=by
 unfold lbuildSlice
 simp [Instr.fill,Value.cells,Array.range]
 rfl
theorem bsP8 {H:LH} {a0 b0 c0 d0 a1 b1 c1 d1 a2 b2 c2 d2 a3 b3 c3 d3 a4 b4 c4 d4 a5 b5 c5 d5 a6 b6 c6 d6 a7 b7 c7 d7:List UInt8} :lbuildSlice Tryz.prog 74 8 [(0,.agg #[str a0,str b0,str c0,str d0]),(1,.agg #[str a1,str b1,str c1,str d1]),(2,.agg #[str a2,str b2,str c2,str d2]),(3,.agg #[str a3,str b3,str c3,str d3]),(4,.agg #[str a4,str b4,str c4,str d4]),(5,.agg #[str a5,str b5,str c5,str d5]),(6,.agg #[str a6,str b6,str c6,str d6]),(7,.agg #[str a7,str b7,str c7,str d7])] H=some (sl H.n 8 8,H.new ⟨[str a0,str b0,str c0,str d0,str a1,str b1,str c1,str d1,str a2,str b2,str c2,str d2,str a3,str b3,str c3,str d3,str a4,str b4,str c4,str d4,str a5,str b5,str c5,str d5,str a6,str b6,str c6,str d6,str a7,str b7,str c7,str d7],92,true⟩):=by
 unfold lbuildSlice
 simp [Instr.fill,Value.cells,Array.range]
 rfl
section
variable {H:LH} {s t:List UInt8} {c:UInt8}
end
end Go.Proofs.YtjplaockjmhnjaaGreatDoor
namespace Tg.Un
def iexP (b t:List UInt8):Pat:=⟨b,List.replicate b.length 255,[],t⟩
end Tg.Un
namespace Go.Proofs.YtjplaockjmhnjaaGreatDoor
open Go.Lg Go.Tg
section
variable {H:LH} {s t:List UInt8}
theorem repeat1 (c:UInt8): ∀n:Nat,Lib.repeatL [c] n=List.replicate n c
 |0=>rfl
 |n+1=>by
  show [c]++Lib.repeatL [c] n=_
  rw [repeat1 c n,List.replicate_succ];rfl
theorem iexact_cl (hs:s.length≤1000):LC Tryz.prog EJ 273 [str s,str t] H=some (pv (Tg.Un.iexP s t),H):=by
 refine LC_pure rfl Tryz.func273 rfl (Nat.le_of_ble_eq_true rfl) (by decide) (by kernel_rfl) rfl ?_
 have h2:=fun H:LH=>repeat_l (H:=H) (s:= [255]) (c:=s.length) (by omega) (by omega) (by decide)
 rw [Int.toNat_natCast,repeat1]at h2
 simp [h2,lfill_p3,Tg.Un.iexP]
theorem riff_cl:LC Tryz.prog EJ 274 [str [82,73,70,70],str [87,69,66,80,86,80],str [105,109,97,103,101,47,119,101,98,112]] H=some (pv ⟨[82,73,70,70,0,0,0,0,87,69,66,80,86,80],[255,255,255,255,0,0,0,0,255,255,255,255,255,255],[],[105,109,97,103,101,47,119,101,98,112]⟩,H):=by
 refine LC_pure rfl Tryz.func274 rfl (Nat.le_of_ble_eq_true rfl) (by decide) (by kernel_rfl) rfl ?_
 have h1: ∀H:LH,LC Tryz.prog EJ 273 [str [82,73,70,70,0,0,0,0,87,69,66,80,86,80],str [105,109,97,103,101,47,119,101,98,112]] H=some (pv ⟨[82,73,70,70,0,0,0,0,87,69,66,80,86,80],[255,255,255,255,255,255,255,255,255,255,255,255,255,255],[],[105,109,97,103,101,47,119,101,98,112]⟩,H):=fun H=>iexact_cl (by decide)
 simp [h1]
theorem image_l:LC Tryz.prog EJ 241 [] H=some (sl H.n 8 8,H.new ⟨Tg.Un.pcells Tg.Un.imageL,92,true⟩):=by
 obtain⟨r,h,e⟩: ∃r,LC Tryz.prog EJ 241 [] H=some (Lg.trunc H r)∧r=(sl H.n 8 8,H.new ⟨Tg.Un.pcells Tg.Un.imageL,92,true⟩):=by
  refine LC_runs (P:=Tryz.prog) (E:=EJ) (f:=241) rfl Tryz.func241 rfl (Nat.le_of_ble_eq_true rfl) (by decide) (by kernel_rfl) ?_
  have h0: ∀H:LH,LC Tryz.prog EJ 273 [str [0,0,1,0],str [105,109,97,103,101,47,120,45,105,99,111,110]] H=some (pv ⟨[0,0,1,0],[255,255,255,255],[],[105,109,97,103,101,47,120,45,105,99,111,110]⟩,H):=fun H=>iexact_cl (by decide)
  have h1: ∀H:LH,LC Tryz.prog EJ 273 [str [0,0,2,0],str [105,109,97,103,101,47,120,45,105,99,111,110]] H=some (pv ⟨[0,0,2,0],[255,255,255,255],[],[105,109,97,103,101,47,120,45,105,99,111,110]⟩,H):=fun H=>iexact_cl (by decide)
  have h2: ∀H:LH,LC Tryz.prog EJ 273 [str [66,77],str [105,109,97,103,101,47,98,109,112]] H=some (pv ⟨[66,77],[255,255],[],[105,109,97,103,101,47,98,109,112]⟩,H):=fun H=>iexact_cl (by decide)
  have h3: ∀H:LH,LC Tryz.prog EJ 273 [str [71,73,70,56,55,97],str [105,109,97,103,101,47,103,105,102]] H=some (pv ⟨[71,73,70,56,55,97],[255,255,255,255,255,255],[],[105,109,97,103,101,47,103,105,102]⟩,H):=fun H=>iexact_cl (by decide)
  have h4: ∀H:LH,LC Tryz.prog EJ 273 [str [71,73,70,56,57,97],str [105,109,97,103,101,47,103,105,102]] H=some (pv ⟨[71,73,70,56,57,97],[255,255,255,255,255,255],[],[105,109,97,103,101,47,103,105,102]⟩,H):=fun H=>iexact_cl (by decide)
  have h5:=fun H:LH=>riff_cl (H:=H)
  have h6: ∀H:LH,LC Tryz.prog EJ 273 [str [137,80,78,71,13,10,26,10],str [105,109,97,103,101,47,112,110,103]] H=some (pv ⟨[137,80,78,71,13,10,26,10],[255,255,255,255,255,255,255,255],[],[105,109,97,103,101,47,112,110,103]⟩,H):=fun H=>iexact_cl (by decide)
  have h7: ∀H:LH,LC Tryz.prog EJ 273 [str [255,216,255],str [105,109,97,103,101,47,106,112,101,103]] H=some (pv ⟨[255,216,255],[255,255,255],[],[105,109,97,103,101,47,106,112,101,103]⟩,H):=fun H=>iexact_cl (by decide)
  simp [h0,h1,h2,h3,h4,h5,h6,h7,bsP8]
  rfl
 rw [h,e,trunc_no (by simp [flatB,flat1B,atomB])]
theorem prow_l {l:List Tg.Un.Pat} {n:Nat} (hn:n=l.length):PRow (H.new ⟨Tg.Un.pcells l,92,true⟩) (sl H.n n n) l:=by
 subst hn
 exact PRow.of (k:=H.n) (c:=l.length) (rest:= []) (by rw [get_new,List.append_nil]) (Nat.lt_succ_self _)
theorem ikind_cl (hs:s.length≤1000000):LC Tryz.prog EJ 205 [str s] H=some (str (Tg.Un.typeOf s Tg.Un.imageL),H):=by
 refine LC_pure rfl Tryz.func205 rfl (Nat.le_of_ble_eq_true rfl) (by decide) (by kernel_rfl) rfl ?_
 have h1:=fun H:LH=>image_l (H:=H)
 have h2:=mtype_cl (s:=s) (prow_l (H:=H) (l:=Tg.Un.imageL) (n:=8) rfl) (by decide) (by omega)
 simp [h1,h2]
theorem itype_cl (hs:s.length≤1000000):LC Tryz.prog EJ 168 [str s] H=some (str (Tg.Un.typeOf s Tg.Un.imageL),H):=by
 refine LC_pure rfl Tryz.func168 rfl (Nat.le_of_ble_eq_true rfl) (by decide) (by kernel_rfl) rfl ?_
 have h1:=fun H:LH=>ikind_cl (H:=H) (s:=s) hs
 simp [h1]
end
end Go.Proofs.YtjplaockjmhnjaaGreatDoor
namespace Tg.Un
def gapM (lo hi:Nat) (i:Nat):UInt8:=if lo≤i∧i<hi then 0 else 255
theorem gapP_m (b:List UInt8) (lo hi:Nat) (k:List UInt8):(gapP b lo hi k).m=(List.range b.length).map (gapM lo hi):=rfl
end Tg.Un
namespace Go.Proofs.YtjplaockjmhnjaaGreatDoor
open Go.Lg Go.Tg
section
variable {H:LH} {s t l:List UInt8}
theorem ubv_cells (l:List UInt8):(l.map bv).all cellB=true:=by simp [bv]
theorem urow_str {N:Nat} {v:Value} {l:List UInt8} (h:RowN N H 5 1 v l.length (l.map bv)) (hv:v≠.slice none 0 0): ∃k c,v=sl k l.length c∧lconv Tryz.prog 35 9 (sl k l.length c) H=some (str l):=by
 rcases h.2 with⟨e,h0⟩|⟨k,c,rest,e,g1,g2,g3,g4,g5⟩
 ·exact absurd e hv
 ·refine⟨k,c,e,lconv_bs (e:=5) Tryz.underlying35 Tryz.underlying9 Tryz.underlying5 g3 (by simp) ?_⟩
  have:((l.map bv++rest).drop 0).take l.length=l.map bv:=by simp
  rw [this];exact lbs_map l
theorem ubyte_app {v:Value} {N:Nat} {l:List UInt8} {x:UInt8} (h:RowN N H 5 1 v l.length (l.map bv)) (hN:N≤H.n) (hl:l.length≤1000000):
  ∃v' H2,lapp Tryz.prog 35 v (some (1,[.int .u8 x.toNat])) (H.new ⟨[.int .u8 x.toNat],5,true⟩)=some (v',H2)∧RowN N H2 5 1 v' (l++ [x]).length ((l++ [x]).map bv)∧N≤H2.n∧ ∀k,k<N→H2.get k=H.get k:=by
 have h2:RowN N (H.new ⟨[.int .u8 x.toNat],5,true⟩) 5 1 v l.length (l.map bv):=h.keep (Nat.le_succ _) (fun k _ _ hk=>get_new_ne (by omega))
 obtain⟨v',H2,ha,hr,hk,_⟩:=h2.app (t:=35) (new:= [x].map bv) (m:=1) Tryz.underlying35 (by kernel_rfl) (ubv_cells [x]) (by simp) (by unfold maxElems;omega) (by rw [n_new];omega) (.inl (Nat.le_refl 1))
 refine⟨v',H2,ha,by rw [List.length_append,List.map_append];exact hr,Nat.le_trans (by rw [n_new];omega) hk.le,fun k hkn=>?_⟩
 rw [hk.get k (by rw [n_new];omega) (h.off_lt hkn),get_new_ne (by omega)]
theorem ubs0:lbuildSlice Tryz.prog 35 0 [] H=some (sl H.n 0 0,H.new ⟨[],5,true⟩):=lbs_dense (z:=.int .u8 0) Tryz.underlying35 (by kernel_rfl) (by kernel_rfl) rfl rfl rfl (by decide) rfl
theorem urow_ne {N:Nat} {v:Value} {l:List UInt8} {x:UInt8} (h:RowN N H 5 1 v (l++ [x]).length ((l++ [x]).map bv)):v≠.slice none 0 0:=by
 rcases h.2 with⟨_,e⟩|⟨k,c2,rest,e,_⟩
 ·simp at e
 ·rw [e];intro e2;cases e2
theorem rexact_cl {lo hi:Nat} (hs:s.length≤100000):LC Tryz.prog EJ 90 [str s,str t,.int .i64 lo,.int .i64 hi] H=some (pv (Tg.Un.gapP s lo hi t),H):=by
 refine LC_pure rfl Tryz.func90 rfl (Nat.le_of_ble_eq_true rfl) (by decide) (by kernel_rfl) rfl ?_
 have hm:=Tg.Un.gapP_m s lo hi t
 have hb:(Tg.Un.gapP s lo hi t).b=s:=rfl
 have h2:(Tg.Un.gapP s lo hi t).s= []:=rfl
 have ht:(Tg.Un.gapP s lo hi t).t=t:=rfl
 generalize Tg.Un.gapP s lo hi t=P at*
 simp [ubs0]
 refine loop_ind (fun(i:Nat) fr' H'=>fr' 0=str s∧fr' 1=str t∧fr' 2=.int .i64 lo∧fr' 3=.int .i64 hi∧fr' 8=ptr H.n 0∧fr' 10=.int .i64 i∧i≤s.length∧(∃v,fr' 9=v∧v≠.slice none 0 0∧RowN (H.n+1) H' 5 1 v ((List.range i).map (Tg.Un.gapM lo hi)).length (((List.range i).map (Tg.Un.gapM lo hi)).map bv))∧H.n+1≤H'.n∧H'.get H.n=some ⟨[str [],str [],str [],str []],92,true⟩∧ ∀k,k<H.n→H'.get k=H.get k) (fun i=>s.length-i) 0 ⟨by simp,by simp,by simp,by simp,by simp,by simp,Nat.zero_le _,⟨sl (H.n+1) 0 0,by simp,(by intro e;cases e),?_⟩,by simp,?_,fun k hk=>?_⟩ ?_
 ·exact⟨by simp,.inr ⟨H.n+1,0,[],by simp,Nat.le_refl _,by simp,by simp,by simp,by simp⟩⟩
 ·rw [get_new_ne (by simp),get_new]
 ·rw [get_new_ne (by simp only [n_new];omega),get_new_ne (by omega)]
 rintro i fr' H' ⟨h0,h1,h2',h3,h8,h10,hi',⟨v,h9,hne,hr⟩,hn,hz,hk⟩ ih
 by_cases hlt:i<s.length
 ·have q:=eq_true (show(i:Int)<(s.length:Int) by omega)
  have hw:IntKind.i64.wrap ((i:Int)+1)=((i+1:Nat):Int):=by rw [wrapI (by omega) (by omega)];omega
  obtain⟨v2,H2,a1,a2,a3,a4⟩:=ubyte_app (x:=Tg.Un.gapM lo hi i) hr hn (by simp;omega)
  have hne2:=urow_ne a2
  have hnew:(List.range i).map (Tg.Un.gapM lo hi)++ [Tg.Un.gapM lo hi i]=(List.range (i+1)).map (Tg.Un.gapM lo hi):=by rw [List.range_succ,List.map_append];rfl
  rw [hnew]at a2
  have hfin:=fun(fr2:Fr) (e0:fr2 0=str s) (e1:fr2 1=str t) (e2:fr2 2=.int .i64 lo) (e3:fr2 3=.int .i64 hi) (e8:fr2 8=ptr H.n 0) (e10:fr2 10=.int .i64 ((i+1:Nat):Int)) (e9:fr2 9=v2)=>ih (i+1) fr2 H2 (by omega) ⟨e0,e1,e2,e3,e8,e10,by omega,⟨v2,e9,hne2,a2⟩,a3,by rw [a4 _ (by omega)];exact hz,fun k hk2=>by rw [a4 k (by omega),hk k hk2]⟩
  clear ih
  unfold Tg.Un.gapM at a1
  by_cases c1:lo≤i
  ·have p1:=eq_true (show(lo:Int)≤(i:Int) by omega)
   by_cases c2:i<hi
   ·have p2:=eq_true (show(i:Int)<(hi:Int) by omega)
    rw [if_pos ⟨c1,c2⟩]at a1
    simp at a1
    simp [h0,h1,h2',h3,h8,h9,h10,q,p1,p2,a1]
    refine hfin _ ?_ ?_ ?_ ?_ ?_ ?_ ?_
    all_goals simp [h0,h1,h2',h3,h8,hw]
   ·have p2:=eq_false (show¬(i:Int)<(hi:Int) by omega)
    rw [if_neg (fun h=>c2 h.2)]at a1
    simp at a1
    simp [h0,h1,h2',h3,h8,h9,h10,q,p1,p2,a1]
    refine hfin _ ?_ ?_ ?_ ?_ ?_ ?_ ?_
    all_goals simp [h0,h1,h2',h3,h8,hw]
  ·have p1:=eq_false (show¬(lo:Int)≤(i:Int) by omega)
   rw [if_neg (fun h=>c1 h.1)]at a1
   simp at a1
   simp [h0,h1,h2',h3,h8,h9,h10,q,p1,a1]
   refine hfin _ ?_ ?_ ?_ ?_ ?_ ?_ ?_
   all_goals simp [h0,h1,h2',h3,h8,hw]
 ·have q:=eq_false (show¬(i:Int)<(s.length:Int) by omega)
  obtain rfl:i=s.length:=by omega
  obtain⟨k,c,hv,hc⟩:=urow_str hr hne
  rw [←hm]at hc hv
  subst hv
  simp [h0,h1,h2',h3,h8,h9,h10,q,hc,lfill_p3,hb,h2,ht,hz]
  exact⟨by omega,fun k hk2=>hk k hk2⟩
theorem rmedia_l:LC Tryz.prog EJ 56 [] H=some (sl H.n 6 6,H.new ⟨Tg.Un.pcells Tg.Un.mediaL,92,true⟩):=by
 obtain⟨r,h,e⟩: ∃r,LC Tryz.prog EJ 56 [] H=some (Lg.trunc H r)∧r=(sl H.n 6 6,H.new ⟨Tg.Un.pcells Tg.Un.mediaL,92,true⟩):=by
  refine LC_runs (P:=Tryz.prog) (E:=EJ) (f:=56) rfl Tryz.func56 rfl (Nat.le_of_ble_eq_true rfl) (by decide) (by kernel_rfl) ?_
  have h0: ∀H:LH,LC Tryz.prog EJ 90 [str [70,79,82,77,0,0,0,0,65,73,70,70],str [97,117,100,105,111,47,97,105,102,102],.int .i64 4,.int .i64 8] H=some (pv ⟨[70,79,82,77,0,0,0,0,65,73,70,70],[255,255,255,255,0,0,0,0,255,255,255,255],[],[97,117,100,105,111,47,97,105,102,102]⟩,H):=fun H=>rexact_cl (lo:=4) (hi:=8) (by decide)
  have h1: ∀H:LH,LC Tryz.prog EJ 90 [str [73,68,51],str [97,117,100,105,111,47,109,112,101,103],.int .i64 0,.int .i64 0] H=some (pv ⟨[73,68,51],[255,255,255],[],[97,117,100,105,111,47,109,112,101,103]⟩,H):=fun H=>rexact_cl (lo:=0) (hi:=0) (by decide)
  have h2: ∀H:LH,LC Tryz.prog EJ 90 [str [79,103,103,83,0],str [97,112,112,108,105,99,97,116,105,111,110,47,111,103,103],.int .i64 0,.int .i64 0] H=some (pv ⟨[79,103,103,83,0],[255,255,255,255,255],[],[97,112,112,108,105,99,97,116,105,111,110,47,111,103,103]⟩,H):=fun H=>rexact_cl (lo:=0) (hi:=0) (by decide)
  have h3: ∀H:LH,LC Tryz.prog EJ 90 [str [77,84,104,100,0,0,0,6],str [97,117,100,105,111,47,109,105,100,105],.int .i64 0,.int .i64 0] H=some (pv ⟨[77,84,104,100,0,0,0,6],[255,255,255,255,255,255,255,255],[],[97,117,100,105,111,47,109,105,100,105]⟩,H):=fun H=>rexact_cl (lo:=0) (hi:=0) (by decide)
  have h4: ∀H:LH,LC Tryz.prog EJ 90 [str [82,73,70,70,0,0,0,0,65,86,73,32],str [118,105,100,101,111,47,97,118,105],.int .i64 4,.int .i64 8] H=some (pv ⟨[82,73,70,70,0,0,0,0,65,86,73,32],[255,255,255,255,0,0,0,0,255,255,255,255],[],[118,105,100,101,111,47,97,118,105]⟩,H):=fun H=>rexact_cl (lo:=4) (hi:=8) (by decide)
  have h5: ∀H:LH,LC Tryz.prog EJ 90 [str [82,73,70,70,0,0,0,0,87,65,86,69],str [97,117,100,105,111,47,119,97,118,101],.int .i64 4,.int .i64 8] H=some (pv ⟨[82,73,70,70,0,0,0,0,87,65,86,69],[255,255,255,255,0,0,0,0,255,255,255,255],[],[97,117,100,105,111,47,119,97,118,101]⟩,H):=fun H=>rexact_cl (lo:=4) (hi:=8) (by decide)
  simp [h0,h1,h2,h3,h4,h5,bsP6]
  rfl
 rw [h,e,trunc_no (by simp [flatB,flat1B,atomB])]
end
end Go.Proofs.YtjplaockjmhnjaaGreatDoor
namespace Tg.Un
def numI (s:List UInt8):Int:=if s.length<4 then -1 else num4 s
end Tg.Un
namespace Go.Proofs.YtjplaockjmhnjaaGreatDoor
open Go.Lg Go.Tg
section
variable {H:LH} {c:UInt8} {s p t:List UInt8}
theorem rcut19_cl:LC Tryz.prog EJ 30 [str s] H=some (str (s.take 1445),H):=by
 refine LC_pure rfl Tryz.func30 rfl (Nat.le_of_ble_eq_true rfl) (by decide) (by kernel_rfl) rfl ?_
 by_cases h:s.length≤1445
 ·have q:=eq_false (show¬(1445:Int)<(s.length:Int) by omega)
  rw [List.take_of_length_le h]
  simp [q]
 ·have q:=eq_true (show(1445:Int)<(s.length:Int) by omega)
  have q2:=eq_true (show(1445:Int)≤(s.length:Int) by omega)
  simp [q,q2]
theorem rsize_cl:LC Tryz.prog EJ 127 [str s] H=some (.int .i64 (Tg.Un.numI s),H):=by
 refine LC_pure rfl Tryz.func127 rfl (Nat.le_of_ble_eq_true rfl) (by decide) (by kernel_rfl) rfl ?_
 unfold Tg.Un.numI
 by_cases h:s.length<4
 ·have q:=eq_true (show(s.length:Int)<4 by omega)
  rw [if_pos h]
  simp [q]
 ·rw [if_neg h]
  match s,h with
  |A::B::C::D::r,_=>
   have q:=eq_false (show¬(r.length:Int)+1+1+1+1<4 by omega)
   have a0:at_ (A::B::C::D::r) 0=A:=rfl
   have a1:at_ (A::B::C::D::r) 1=B:=rfl
   have a2:at_ (A::B::C::D::r) 2=C:=rfl
   have a3:at_ (A::B::C::D::r) 3=D:=rfl
   have p0:=eq_true (show(0:Int)<(r.length:Int)+1+1+1+1 by omega)
   have p1:=eq_true (show(1:Int)<(r.length:Int)+1+1+1+1 by omega)
   have p2:=eq_true (show(2:Int)<(r.length:Int)+1+1+1+1 by omega)
   have p3:=eq_true (show(3:Int)<(r.length:Int)+1+1+1+1 by omega)
   have hA:=A.toNat_lt
   have hB:=B.toNat_lt
   have hC:=C.toNat_lt
   have hD:=D.toNat_lt
   have hn:((Tg.Un.num4 (A::B::C::D::r):Nat):Int)=(((A.toNat:Int)*256+B.toNat)*256+C.toNat)*256+D.toNat:=by
    show((((A.toNat*256+B.toNat)*256+C.toNat)*256+D.toNat:Nat):Int)=_
    omega
   rw [hn]
   have wA:IntKind.i64.wrap (A.toNat:Int)=(A.toNat:Int):=wrapI (by omega) (by omega)
   have wB:IntKind.i64.wrap (B.toNat:Int)=(B.toNat:Int):=wrapI (by omega) (by omega)
   have wC:IntKind.i64.wrap (C.toNat:Int)=(C.toNat:Int):=wrapI (by omega) (by omega)
   have wD:IntKind.i64.wrap (D.toNat:Int)=(D.toNat:Int):=wrapI (by omega) (by omega)
   have e1:IntKind.i64.wrap ((A.toNat:Int)*256)=(A.toNat:Int)*256:=wrapI (by omega) (by omega)
   have e2:IntKind.i64.wrap ((A.toNat:Int)*256+B.toNat)=(A.toNat:Int)*256+B.toNat:=wrapI (by omega) (by omega)
   have e3:IntKind.i64.wrap (((A.toNat:Int)*256+B.toNat)*256)=((A.toNat:Int)*256+B.toNat)*256:=wrapI (by omega) (by omega)
   have e4:IntKind.i64.wrap (((A.toNat:Int)*256+B.toNat)*256+C.toNat)=((A.toNat:Int)*256+B.toNat)*256+C.toNat:=wrapI (by omega) (by omega)
   have e5:IntKind.i64.wrap ((((A.toNat:Int)*256+B.toNat)*256+C.toNat)*256)=(((A.toNat:Int)*256+B.toNat)*256+C.toNat)*256:=wrapI (by omega) (by omega)
   have e6:IntKind.i64.wrap ((((A.toNat:Int)*256+B.toNat)*256+C.toNat)*256+D.toNat)=(((A.toNat:Int)*256+B.toNat)*256+C.toNat)*256+D.toNat:=wrapI (by omega) (by omega)
   simp [q,a0,a1,a2,a3,p0,p1,p2,p3,wA,wB,wC,wD,e1,e2,e3,e4,e5,e6]
  | [],h=>exact absurd (by simp) h
  | [_],h=>exact absurd (by simp) h
  | [_,_],h=>exact absurd (by simp) h
  | [_,_,_],h=>exact absurd (by simp) h
theorem rhead16_cl:LC Tryz.prog EJ 126 [str s] H=some (.bool (Tg.Un.mp4h s),H):=by
 refine LC_pure rfl Tryz.func126 rfl (Nat.le_of_ble_eq_true rfl) (by decide) (by kernel_rfl) rfl ?_
 have hz:=fun H:LH=>rsize_cl (H:=H) (s:=s)
 unfold Tg.Un.mp4h
 by_cases a1:12≤s.length
 ·have hI:Tg.Un.numI s=(Tg.Un.num4 s:Int):=by unfold Tg.Un.numI;rw [if_neg (by omega)]
  rw [hI]at hz
  have tm:(Tg.Un.num4 s:Int).tmod 4=((Tg.Un.num4 s%4:Nat):Int):=by rw [Int.tmod_eq_emod_of_nonneg (by omega)];rfl
  generalize Tg.Un.num4 s=n at*
  have q1:=eq_true (show(11:Int)<(s.length:Int) by omega)
  by_cases a2:n≤s.length
  ·have q2:=eq_true (show(n:Int)≤(s.length:Int) by omega)
   by_cases a3:n%4=0
   ·rw [a3]at tm
    have q8:=eq_true (show(8:Int)≤(s.length:Int) by omega)
    have h48:=sub48 (s:=s)
    by_cases a4:(s.drop 4).take 4=Tg.Un.ftyp
    ·rw [a4]at h48
     unfold Tg.Un.ftyp at h48
     simp [hz,q1,q2,q8,tm,a1,a2,a3,a4,h48]
    ·have a5: ¬sub s 4 8= [102,116,121,112]:=fun e=>a4 (by rw [←h48,e];rfl)
     rw [beq_eq_false_iff_ne.2 a4]
     simp [hz,q1,q2,q8,tm,a1,a2,a3,a5]
   ·have q3:=eq_false (show¬((n%4:Nat):Int)=0 by omega)
    have q4:=eq_false (show¬(n:Int)%4=0 by omega)
    simp [hz,q1,q2,tm,q3,q4,a1,a2,a3]
  ·have q2:=eq_false (show¬(n:Int)≤(s.length:Int) by omega)
   simp [hz,q1,q2,a1,a2]
 ·have q1:=eq_false (show¬(11:Int)<(s.length:Int) by omega)
  simp [hz,q1,a1]
theorem bs0s:lbuildSlice Tryz.prog 60 0 [] H=some (sl H.n 0 0,H.new ⟨[],9,true⟩):=lbs_dense (z:=str []) Tryz.underlying60 (by kernel_rfl) (by kernel_rfl) rfl rfl rfl (by decide) rfl
theorem rbrands_ex (hs:s.length≤1000000): ∃v H1,LC Tryz.prog EJ 91 [str s] H=some (v,H1)∧SRow H1 v (if Tg.Un.mp4h s=true then Tg.Un.brands s else [])∧H.n≤H1.n∧ ∀k,k<H.n→H1.get k=H.get k:=by
 have key: ∃r,LC Tryz.prog EJ 91 [str s] H=some (Lg.trunc H r)∧(flatB r.1=false∧SRow r.2 r.1 (if Tg.Un.mp4h s=true then Tg.Un.brands s else [])∧H.n≤r.2.n∧ ∀k,k<H.n→r.2.get k=H.get k):=by
  refine LC_runs (P:=Tryz.prog) (E:=EJ) (f:=91) rfl Tryz.func91 rfl (Nat.le_of_ble_eq_true rfl) (by decide) (by kernel_rfl) ?_
  have hb:=fun H:LH=>rhead16_cl (H:=H) (s:=s)
  have hz:=fun H:LH=>rsize_cl (H:=H) (s:=s)
  cases hm:Tg.Un.mp4h s with
  |false=>
   rw [hm]at hb
   simp [bs0s,hb]
   refine⟨by simp [flatB,flat1B,atomB],?_,fun k hk=>get_new_ne (by omega)⟩
   exact .inr ⟨H.n,0,0,rfl,fun h=>absurd rfl h⟩
  |true=>
   rw [hm]at hb
   obtain⟨a1,a2,a3,_⟩:12≤s.length∧Tg.Un.num4 s≤s.length∧Tg.Un.num4 s%4=0∧(s.drop 4).take 4=Tg.Un.ftyp:=by
    unfold Tg.Un.mp4h at hm;simpa using hm
   have hI:Tg.Un.numI s=(Tg.Un.num4 s:Int):=by unfold Tg.Un.numI;rw [if_neg (by omega)]
   rw [hI]at hz
   unfold Tg.Un.brands
   generalize Tg.Un.num4 s=n at*
   have q1:=eq_true (show(12:Int)≤(s.length:Int) by omega)
   have e8:sub s 8 12=(s.drop 8).take 4:=List.drop_take
   have r0:RowN H.n (H.new ⟨[],9,true⟩) 9 1 (sl H.n 0 0) ([]:List (List UInt8)).length (([]:List (List UInt8)).map str):=⟨by simp,.inr ⟨H.n,0,[],rfl,Nat.le_refl _,by simp,by simp,by simp,by simp⟩⟩
   obtain⟨v1,H1,b1,b2,b3,b4⟩:=str_app (x:=(s.drop 8).take 4) r0 (by simp) (by simp)
   have hcv1:=b2.cell
   simp [bs0s,hb,q1,bs1s,e8,b1,hcv1]
   refine loop_ind (fun(i:Nat) fr' H'=>fr' 0=str s∧fr' 4=.int .i64 ((16+4*i:Nat):Int)∧i≤(n-16)/4∧(∃v,fr' 3=v∧RowN H.n H' 9 1 v ((s.drop 8).take 4::(List.range i).map (piece s)).length (((s.drop 8).take 4::(List.range i).map (piece s)).map str))∧H.n≤H'.n∧(∀k,k<H.n→H'.get k=H.get k)) (fun i=>(n-16)/4-i) 0 ⟨by simp,by simp,Nat.zero_le _,⟨v1,by simp,b2⟩,b3,fun k hk=>by rw [b4 k hk,get_new_ne (by omega)]⟩ ?_
   rintro i fr' H' ⟨g0,g4,hi,⟨v,g3,hr⟩,hn,ho⟩ ih
   by_cases hlt:i<(n-16)/4
   ·have q:=eq_true (show((16+4*i:Nat):Int)<(n:Int) by omega)
    have w1:IntKind.i64.wrap (((16+4*i:Nat):Int)+4)=((16+4*(i+1):Nat):Int):=by rw [wrapI (by omega) (by omega)];omega
    have q2:=eq_true (show((16+4*i:Nat):Int)≤((16+4*(i+1):Nat):Int) by omega)
    have q3:=eq_true (show((16+4*(i+1):Nat):Int)≤(s.length:Int) by omega)
    have hp:sub s ((16+4*i:Nat):Int) ((16+4*(i+1):Nat):Int)=piece s i:=by
     rw [subn (by omega),show 16+4*(i+1)-(16+4*i)=4 by omega];rfl
    have hn0:=eq_true (show(0:Int)≤((16+4*i:Nat):Int) by omega)
    obtain⟨v2,H2,b1,b2,b3,b4⟩:=str_app (x:=piece s i) hr hn (by simp;omega)
    have hnew:((s.drop 8).take 4::(List.range i).map (piece s))++ [piece s i]=(s.drop 8).take 4::(List.range (i+1)).map (piece s):=by
     rw [List.range_succ,List.map_append];rfl
    rw [hnew]at b2
    have hcv:=b2.cell
    generalize ((16+4*i:Nat):Int)=A at*
    generalize hB:((16+4*(i+1):Nat):Int)=B at*
    simp [g0,g3,g4,hz,q,w1,q2,q3,hn0,hp,bs1s,b1,hcv]
    refine ih (i+1) _ _ (by omega) ⟨?_,?_,by omega,⟨v2,?_,b2⟩,b3,fun k hk=>by rw [b4 k hk,ho k hk]⟩
    ·simp [g0]
    ·simp [w1,hB]
    ·simp
   ·have q:=eq_false (show¬((16+4*i:Nat):Int)<(n:Int) by omega)
    obtain rfl:i=(n-16)/4:=by omega
    have hsr:=srow_n hr
    have hfl:flatB v=false:=by
     rcases hr.2 with⟨_,e⟩|⟨k,c,rest,rfl,_⟩
     ·simp at e
     ·simp [flatB,flat1B,atomB]
    generalize ((16+4*((n-16)/4):Nat):Int)=A at*
    simp [g0,g3,g4,hz,q]
    exact⟨hfl,hsr,hn,ho⟩
 obtain⟨⟨v,H1⟩,h1,h2,h3⟩:=key
 exact⟨v,H1,by rw [h1,trunc_no h2],h3⟩
theorem ris16_cl (hs:s.length≤1000000):LC Tryz.prog EJ 57 [str s] H=some (.bool (Tg.Un.mp4 s),H):=by
 refine LC_pure rfl Tryz.func57 rfl (Nat.le_of_ble_eq_true rfl) (by decide) (by kernel_rfl) rfl ?_
 obtain⟨v,H1,h1,sr,n1,o1⟩:=rbrands_ex (H:=H) hs
 obtain⟨l,hl⟩: ∃l,l=if Tg.Un.mp4h s=true then Tg.Un.brands s else []:=⟨_,rfl⟩
 have he:l.any (fun b=>b.take 3== [109,112,52])=Tg.Un.mp4 s:=by
  rw [hl];unfold Tg.Un.mp4
  cases Tg.Un.mp4h s<;>simp
 have hlen: ∀x∈l,3≤x.length:=by
  intro x hx
  rw [hl]at hx
  split at hx
  ·rename_i hm
   obtain⟨a1,a2,a3,_⟩:12≤s.length∧Tg.Un.num4 s≤s.length∧Tg.Un.num4 s%4=0∧(s.drop 4).take 4=Tg.Un.ftyp:=by
    unfold Tg.Un.mp4h at hm;simpa using hm
   unfold Tg.Un.brands at hx
   rcases List.mem_cons.1 hx with rfl|hx
   ·simp;omega
   ·obtain⟨i,hi,rfl⟩:=List.mem_map.1 hx
    rw [List.mem_range]at hi
    simp;omega
  ·cases hx
 have hll:l.length≤1000000:=by
  rw [hl]
  split
  ·rename_i hm
   obtain⟨a1,a2,a3,_⟩:12≤s.length∧Tg.Un.num4 s≤s.length∧Tg.Un.num4 s%4=0∧(s.drop 4).take 4=Tg.Un.ftyp:=by
    unfold Tg.Un.mp4h at hm;simpa using hm
   simp [Tg.Un.brands];omega
  ·simp
 rw [←hl]at sr
 clear hl
 obtain⟨x,hx⟩: ∃x,x=l.any (fun b=>b.take 3== [109,112,52]):=⟨_,rfl⟩
 rw [←he,←hx]
 clear he
 simp [h1]
 refine loop_ind (fun(i:Nat) fr' H'=>fr' 3=v∧fr' 4=.int .i64 i∧i≤l.length∧x=(l.drop i).any (fun b=>b.take 3== [109,112,52])∧H'=H1) (fun i=>l.length-i) 0 ⟨by simp,by simp,Nat.zero_le _,hx,rfl⟩ ?_
 rintro i fr' H' ⟨g3,g4,hi,hc,rfl⟩ ih
 by_cases hlt:i<l.length
 ·have q:=eq_true (show(i:Int)<(l.length:Int) by omega)
  have hw:IntKind.i64.wrap ((i:Int)+1)=((i+1:Nat):Int):=by rw [wrapI (by omega) (by omega)];omega
  obtain⟨k2,o,e1,e2,e3⟩:=sr.at hlt
  have e4:=e3 H' rfl
  have hl3:=hlen l[i] (List.getElem_mem hlt)
  rw [List.drop_eq_getElem_cons hlt,List.any_cons]at hc
  generalize l[i]=a at*
  have q3:=eq_true (show(3:Int)≤(a.length:Int) by omega)
  by_cases hf:a.take 3= [109,112,52]
  ·have hc:x=true:=by rw [hc,hf];rfl
   subst hc
   simp [g3,g4,q,hlt,e1,e4,q3,hf,sr.len]
   exact⟨n1,fun k hk=>o1 k hk⟩
  ·have hc:x=(l.drop (i+1)).any (fun b=>b.take 3== [109,112,52]):=by rw [hc,beq_eq_false_iff_ne.2 hf];rfl
   simp [g3,g4,q,hlt,e1,e4,q3,hf,sr.len]
   refine ih (i+1) _ _ (by omega) ⟨?_,?_,by omega,hc,rfl⟩
   all_goals simp [g3,hw]
 ·have q:=eq_false (show¬(i:Int)<(l.length:Int) by omega)
  rw [List.drop_of_length_le (by omega)]at hc
  have hc:x=false:=hc
  subst hc
  simp [g3,g4,q,hlt,sr.len]
  exact⟨n1,fun k hk=>o1 k hk⟩
end
end Go.Proofs.YtjplaockjmhnjaaGreatDoor
namespace Tg.Un
theorem pad_pre: ∀ {t:List UInt8},pre t webmS=true→padded t=true
 | [],h=>by simp [pre,webmS]at h
 |c::t,h=>by
  unfold padded
  by_cases hc:c=0
  ·subst hc;simp [pre,webmS]at h
  ·rw [if_neg hc];exact h
theorem width_of {c:UInt8} {n:Nat} (h1:1≤n) (h8:n≤8) (hlo:n=8∨2^(8-n)≤c.toNat) (hhi:n=1∨c.toNat<2^(9-n)):width c=n:=by
 have hc:=c.toNat_lt
 rcases(by omega:n=1∨n=2∨n=3∨n=4∨n=5∨n=6∨n=7∨n=8)with rfl|rfl|rfl|rfl|rfl|rfl|rfl|rfl
 all_goals
  simp at hlo hhi
  unfold width
  repeat (first|omega|split)
end Tg.Un
namespace Go.Proofs.YtjplaockjmhnjaaGreatDoor
open Go.Lg Go.Tg
section
variable {H:LH} {c:UInt8} {s p t:List UInt8}
theorem rwb_cl:LC Tryz.prog EJ 92 [str s,str p] H=some (.bool (Tg.Un.pre s p),H):=by
 refine LC_pure rfl Tryz.func92 rfl (Nat.le_of_ble_eq_true rfl) (by decide) (by kernel_rfl) rfl ?_
 rw [Tg.Un.pre_take]
 by_cases h:p.length≤s.length
 ·have q:=eq_true (show(p.length:Int)≤(s.length:Int) by omega)
  have q0:=eq_true (show(0:Int)≤(p.length:Int) by omega)
  by_cases h2:s.take p.length=p
  ·simp [q,q0,h,h2]
  ·simp [q,q0,h,h2]
 ·have q:=eq_false (show¬(p.length:Int)≤(s.length:Int) by omega)
  have h2: ¬s.take p.length=p:=fun e=>by
   have:=congrArg List.length e
   rw [List.length_take]at this;omega
  simp [q,h,h2]
theorem rwidth_cl:LC Tryz.prog EJ 93 [.int .u8 c.toNat] H=some (.int .i64 (Tg.Un.width c),H):=by
 refine LC_pure rfl Tryz.func93 rfl (Nat.le_of_ble_eq_true rfl) (by decide) (by kernel_rfl) rfl ?_
 have hc:=c.toNat_lt
 have hwc:IntKind.i64.wrap (c.toNat:Int)=(c.toNat:Int):=wrapI (by omega) (by omega)
 simp
 refine loop_ind (fun(n:Nat) fr' H'=>fr' 0=.int .u8 c.toNat∧fr' 3=.int .i64 n∧fr' 4=.int .i64 ((2^(8-n):Nat):Int)∧1≤n∧n≤8∧(n=1∨c.toNat<2^(9-n))∧H'=H) (fun n=>8-n) 1 ⟨by simp,by simp,by simp,by decide,by decide,.inl rfl,rfl⟩ ?_
 rintro n fr' H' ⟨h0,h3,h4,h1,h8,hh,rfl⟩ ih
 by_cases c1:n<8
 ·have q1:=eq_true (show(n:Int)<8 by omega)
  have e1:2^(8-n)=2*2^(8-(n+1)):=by
   rw [show 8-n=(8-(n+1))+1 by omega,Nat.pow_succ,Nat.mul_comm]
  by_cases c2:c.toNat<2^(8-n)
  ·have q2:=eq_true (show(c.toNat:Int)<((2^(8-n):Nat):Int) by omega)
   have w1:IntKind.i64.wrap ((n:Int)+1)=((n+1:Nat):Int):=by rw [wrapI (by omega) (by omega)];omega
   have hb:2^(8-(n+1))≤2^8:=Nat.pow_le_pow_right (by decide) (by omega)
   have d1:((2^(8-n):Nat):Int).tdiv 2=((2^(8-(n+1)):Nat):Int):=by
    rw [Int.tdiv_eq_ediv_of_nonneg (by omega),e1];omega
   have w2:IntKind.i64.wrap ((2^(8-(n+1)):Nat):Int)=((2^(8-(n+1)):Nat):Int):=wrapI (by omega) (by omega)
   have hnx:c.toNat<2^(9-(n+1)):=by rw [show 9-(n+1)=8-n by omega];exact c2
   generalize hA:((2^(8-n):Nat):Int)=A at*
   generalize hB:((2^(8-(n+1)):Nat):Int)=B at*
   simp [h0,h3,h4,hwc,q1,q2,w1,d1,w2]
   refine ih (n+1) _ _ (by omega) ⟨?_,?_,?_,by omega,by omega,.inr hnx,rfl⟩
   ·simp [h0]
   ·simp [w1]
   ·rw [hB];simp [w2]
  ·have q2:=eq_false (show¬(c.toNat:Int)<((2^(8-n):Nat):Int) by omega)
   have he:=Tg.Un.width_of h1 h8 (.inr (by omega)) hh
   generalize hA:((2^(8-n):Nat):Int)=A at*
   simp [h0,h3,h4,hwc,q1,q2,he]
 ·have q1:=eq_false (show¬(n:Int)<8 by omega)
  have he:=Tg.Un.width_of h1 h8 (.inl (by omega)) hh
  generalize hA:((2^(8-n):Nat):Int)=A at*
  simp [h0,h3,h4,hwc,q1,he]
theorem rpad_cl (hs:s.length≤1048576):LC Tryz.prog EJ 94 [str s,str [119,101,98,109]] H=some (.bool (Tg.Un.padded s),H):=by
 refine LC_pure rfl Tryz.func94 rfl (Nat.le_of_ble_eq_true rfl) (by decide) (by kernel_rfl) rfl ?_
 obtain⟨x,hx⟩: ∃x,x=Tg.Un.padded s:=⟨_,rfl⟩
 rw [←hx]
 simp
 refine loop_ind (fun(i:Nat) fr' H'=>fr' 0=str s∧fr' 1=str [119,101,98,109]∧fr' 5=.int .i64 i∧i≤s.length+1∧x=Tg.Un.padded (s.drop i)∧H'=H) (fun i=>s.length+1-i) 0 ⟨by simp,by simp,by simp,Nat.zero_le _,hx,rfl⟩ ?_
 rintro i fr' H' ⟨h0,h1,h5,hi,hc,rfl⟩ ih
 by_cases hle:i≤s.length
 ·have q:=eq_true (show(i:Int)≤(s.length:Int) by omega)
  have q':=eq_true (show(0:Int)≤(i:Int) by omega)
  have hw:IntKind.i64.wrap ((i:Int)+1)=((i+1:Nat):Int):=by rw [wrapI (by omega) (by omega)];omega
  have hb: ∀H:LH,LC Tryz.prog EJ 92 [str (s.drop i),str [119,101,98,109]] H=some (.bool (Tg.Un.pre (s.drop i) Tg.Un.webmS),H):=fun H=>rwb_cl
  cases hp:Tg.Un.pre (s.drop i) Tg.Un.webmS with
  |true=>
   rw [hp]at hb
   rw [Tg.Un.pad_pre hp]at hc
   simp [h0,h1,h5,q,q',hb,hc]
  |false=>
   rw [hp]at hb
   by_cases hlt:i<s.length
   ·have q2:=eq_true (show(i:Int)<(s.length:Int) by omega)
    have hat:at_ s (i:Int)=s[i]:=at_in hlt
    rw [List.drop_eq_getElem_cons hlt]at hc hp
    unfold Tg.Un.padded at hc
    generalize s[i]=a at*
    by_cases ha:a=0
    ·subst ha
     rw [if_pos rfl]at hc
     simp [h0,h1,h5,q,q',q2,hb,hat]
     refine ih (i+1) _ _ (by omega) ⟨?_,?_,?_,by omega,hc,rfl⟩
     all_goals simp [h0,h1,hw]
    ·rw [if_neg ha]at hc
     rw [hp]at hc
     have q3:=tn_ne ha
     rw [show((0:UInt8).toNat:Int)=0 from rfl]at q3
     have q4:(a.toNat=0)=False:=eq_false (fun e=>ha (UInt8.toNat_inj.mp (by rw [e];rfl)))
     simp [h0,h1,h5,q,q',q2,hb,hat,q3,q4,hc]
   ·have q2:=eq_false (show¬(i:Int)<(s.length:Int) by omega)
    rw [List.drop_of_length_le (by omega)]at hc
    have hc:x=false:=hc
    simp [h0,h1,h5,q,q',q2,hb]
    refine ih (i+1) _ _ (by omega) ⟨?_,?_,?_,by omega,by rw [hc,List.drop_of_length_le (by omega)];rfl,rfl⟩
    all_goals simp [h0,h1,hw]
 ·have q:=eq_false (show¬(i:Int)≤(s.length:Int) by omega)
  rw [List.drop_of_length_le (by omega)]at hc
  have hc:x=false:=hc
  simp [h0,h1,h5,q,hc]
theorem ris17_cl (hs:s.length≤1000000):LC Tryz.prog EJ 58 [str s] H=some (.bool (Tg.Un.webm s),H):=by
 refine LC_pure rfl Tryz.func58 rfl (Nat.le_of_ble_eq_true rfl) (by decide) (by kernel_rfl) rfl ?_
 have hb: ∀H:LH,LC Tryz.prog EJ 92 [str s,str [26,69,223,163]] H=some (.bool (Tg.Un.pre s Tg.Un.mark),H):=fun H=>rwb_cl
 unfold Tg.Un.webm
 cases h:Tg.Un.pre s Tg.Un.mark with
 |false=>rw [h]at hb;simp [hb]
 |true=>
  rw [h]at hb
  obtain⟨x,hx⟩: ∃x,x=Tg.Un.webmAt s 38 4:=⟨_,rfl⟩
  rw [←hx]
  simp [hb]
  refine loop_ind (fun(st:Nat×Nat) fr' H'=>fr' 0=str s∧fr' 3=.int .i64 st.1∧H'=H∧x=Tg.Un.webmAt s st.2 st.1∧38≤st.1+st.2) (fun st=>38-st.1) (4,38) ⟨by simp,by simp,rfl,hx,by decide⟩ ?_
  rintro⟨a,n⟩ fr' H' ⟨g0,g3,rfl,he,hf⟩ ih
  simp only at g3 he hf ih
  by_cases c1:s.length≤a∨38≤a
  ·have he:x=false:=by
    rw [he]
    cases n with
    |zero=>rfl
    |succ n=>unfold Tg.Un.webmAt;rw [if_pos c1]
   subst he
   by_cases c2:s.length≤a
   ·have q1:=eq_false (show¬(a:Int)<(s.length:Int) by omega)
    simp [g0,g3,q1]
   ·have q1:=eq_true (show(a:Int)<(s.length:Int) by omega)
    have q2:=eq_false (show¬(a:Int)<38 by omega)
    simp [g0,g3,q1,q2]
  ·obtain⟨n,rfl⟩: ∃m,n=m+1:=⟨n-1,by omega⟩
   unfold Tg.Un.webmAt at he
   rw [if_neg c1]at he
   have q1:=eq_true (show(a:Int)<(s.length:Int) by omega)
   have q2:=eq_true (show(a:Int)<38 by omega)
   have q3:=eq_true (show(a:Int)≤(s.length:Int) by omega)
   have q4:=eq_true (show(0:Int)≤(a:Int) by omega)
   have hp: ∀H:LH,LC Tryz.prog EJ 92 [str (s.drop a),str [66,130]] H=some (.bool (Tg.Un.pre (s.drop a) [66,130]),H):=fun H=>rwb_cl
   have w1:IntKind.i64.wrap ((a:Int)+1)=((a+1:Nat):Int):=by rw [wrapI (by omega) (by omega)];omega
   cases hpre:Tg.Un.pre (s.drop a) [66,130]with
   |false=>
    rw [hpre]at hp he
    rw [if_neg (by simp)]at he
    simp [g0,g3,q1,q2,q3,q4,hp]
    refine ih (a+1,n) _ _ (by simp only;omega) ⟨?_,?_,rfl,he,by simp only;omega⟩
    ·simp [g0]
    ·simp [w1]
   |true=>
    rw [hpre]at hp he
    rw [if_pos rfl]at he
    have w2:IntKind.i64.wrap ((a:Int)+2)=((a+2:Nat):Int):=by rw [wrapI (by omega) (by omega)];omega
    by_cases c3:s.length≤a+2
    ·rw [if_pos c3]at he
     have q5:=eq_true (show(s.length:Int)≤((a+2:Nat):Int) by omega)
     generalize ((a+2:Nat):Int)=A2 at*
     simp [g0,g3,q1,q2,q3,q4,hp,w2,q5,he]
    ·rw [if_neg c3]at he
     have hlt:a+2<s.length:=by omega
     have hat:at_ s ((a+2:Nat):Int)=s[a+2]:=at_in hlt
     have hgd:s.getD (a+2) 0=s[a+2]:=by rw [List.getD_eq_getElem?_getD,List.getElem?_eq_getElem hlt];rfl
     rw [hgd]at he
     have hW:=fun H:LH=>rwidth_cl (H:=H) (c:=s[a+2])
     have hw8:Tg.Un.width s[a+2]≤8:=by
      unfold Tg.Un.width
      repeat (first|omega|split)
     generalize s[a+2]=c at*
     generalize Tg.Un.width c=w at*
     have q5:=eq_false (show¬(s.length:Int)≤((a+2:Nat):Int) by omega)
     have q6:=eq_true (show((a+2:Nat):Int)<(s.length:Int) by omega)
     have q7:=eq_true (show(0:Int)≤((a+2:Nat):Int) by omega)
     have w3:IntKind.i64.wrap (((a+2:Nat):Int)+(w:Int))=((a+2+w:Nat):Int):=by rw [wrapI (by omega) (by omega)];omega
     have w4:IntKind.i64.wrap ((s.length:Int)-4)=(s.length:Int)-4:=wrapI (by omega) (by omega)
     by_cases c4:s.length≤a+2+w+4
     ·rw [if_pos c4]at he
      have q8:=eq_true (show(s.length:Int)-4≤((a+2+w:Nat):Int) by omega)
      generalize ((a+2+w:Nat):Int)=A3 at*
      generalize ((a+2:Nat):Int)=A2 at*
      simp [g0,g3,q1,q2,q3,q4,hp,w2,q5,q6,q7,hat,hW,w3,w4,q8,he]
     ·rw [if_neg c4]at he
      have q8:=eq_false (show¬(s.length:Int)-4≤((a+2+w:Nat):Int) by omega)
      have q9:=eq_true (show((a+2+w:Nat):Int)≤(s.length:Int) by omega)
      have q10:=eq_true (show(0:Int)≤((a+2+w:Nat):Int) by omega)
      have hd:s.drop (((a+2+w:Nat):Int)).toNat=s.drop (a+2+w):=by rw [Int.toNat_natCast]
      have hP:=fun H:LH=>rpad_cl (H:=H) (s:=s.drop (a+2+w)) (by rw [List.length_drop];omega)
      have w5:IntKind.i64.wrap (((a+2+w:Nat):Int)+1)=((a+2+w+1:Nat):Int):=by rw [wrapI (by omega) (by omega)];omega
      cases hpd:Tg.Un.padded (s.drop (a+2+w))with
      |true=>
       rw [hpd]at hP he
       rw [if_pos rfl]at he
       generalize ((a+2+w:Nat):Int)=A3 at*
       generalize ((a+2:Nat):Int)=A2 at*
       simp [g0,g3,q1,q2,q3,q4,hp,w2,q5,q6,q7,hat,hW,w3,w4,q8,q9,q10,hd,hP,he]
      |false=>
       rw [hpd]at hP he
       rw [if_neg (by simp)]at he
       generalize ((a+2+w:Nat):Int)=A3 at*
       generalize ((a+2:Nat):Int)=A2 at*
       simp [g0,g3,q1,q2,q3,q4,hp,w2,q5,q6,q7,hat,hW,w3,w4,q8,q9,q10,hd,hP]
       refine ih (a+2+w+1,n) _ _ (by simp only;omega) ⟨?_,?_,rfl,he,by simp only;omega⟩
       ·simp [g0]
       ·simp [w5]
end
end Go.Proofs.YtjplaockjmhnjaaGreatDoor
namespace Tg.Un
open Go
theorem fdivn (n m:Nat):((n:Int).fdiv (m:Int))=((n/m:Nat):Int):=by
 rw [Int.fdiv_eq_ediv_of_nonneg _ (Int.natCast_nonneg m)];rfl
theorem and3 {n:Nat} (h:n<256):Go.Lg.bAnd .u8 (n:Int) 3=((n%4:Nat):Int):=by
 have: ∀k:Fin 256,Go.Lg.bAnd .u8 (k.1:Int) 3=((k.1%4:Nat):Int):=by decide+kernel
 exact this ⟨n,h⟩
theorem and1 {n:Nat} (h:n<256):Go.Lg.bAnd .u8 (n:Int) 1=((n%2:Nat):Int):=by
 have: ∀k:Fin 256,Go.Lg.bAnd .u8 (k.1:Int) 1=((k.1%2:Nat):Int):=by decide+kernel
 exact this ⟨n,h⟩
theorem and1i {n:Nat} (h:n<4):Go.Lg.bAnd .i64 (n:Int) 1=((n%2:Nat):Int):=by
 have: ∀k:Fin 4,Go.Lg.bAnd .i64 (k.1:Int) 1=((k.1%2:Nat):Int):=by decide+kernel
 exact this ⟨n,h⟩
def ratesL (o:Bool):List Nat:=if o=true then rateO else rateE
theorem ratesL_len (o:Bool):(ratesL o).length=15:=by cases o<;>rfl
theorem ratesL_le (o:Bool): ∀x∈ratesL o,x≤320:=by cases o<;>decide
structure FrmOk (f:Frm):Prop where
 v:f.v<4
 r: ∃x∈ratesL (decide (f.v%2=1)),f.r=1000*x
 f:f.f∈freqs
end Tg.Un
namespace Go.Proofs.YtjplaockjmhnjaaGreatDoor
open Go.Lg Go.Tg
def icells (l:List Nat):List Value:=l.map fun(n:Nat)=>Value.int .i64 (n:Int)
abbrev fvF (f:Tg.Un.Frm):Value:=.agg #[.int .i64 f.v,.int .i64 3,.int .i64 f.r,.int .i64 f.f,.bool f.p]
abbrev fv0:Value:=.agg #[.int .i64 0,.int .i64 0,.int .i64 0,.int .i64 0,.bool false]
def fvO:Option Tg.Un.Frm→Value
 |some f=>fvF f
 |none=>fv0
section
variable {H:LH} {s t:List UInt8} {v:Value} {l:List Nat}
theorem odd3_g {V:Nat} (h:V<4) {b r f:Int} {p:Bool} :LC Tryz.prog EJ 294 [.agg #[.int .i64 V,.int .i64 b,.int .i64 r,.int .i64 f,.bool p]] H=some (.bool (decide (V%2=1)),H):=by
 refine LC_pure rfl Tryz.func294 rfl (Nat.le_of_ble_eq_true rfl) (by decide) (by kernel_rfl) rfl ?_
 have h1:=Tg.Un.and1i h
 have h2:V%2<2:=Nat.mod_lt _ (by decide)
 generalize V%2=y at*
 by_cases hy:y=1
 ·subst hy;simp [h1]
 ·have q:=eq_false (show¬(y:Int)=1 by omega)
  simp [h1,hy,q]
theorem odd3_cl {a:Tg.Un.Frm} (h:a.v<4):LC Tryz.prog EJ 294 [fvF a] H=some (.bool (decide (a.v%2=1)),H):=odd3_g h
theorem rates_l {o:Bool} :LC Tryz.prog EJ 293 [.bool o] H=some (sl H.n 15 15,H.new ⟨icells (Tg.Un.ratesL o),3,true⟩):=by
 obtain⟨r,h,e⟩: ∃r,LC Tryz.prog EJ 293 [.bool o] H=some (Lg.trunc H r)∧r=(sl H.n 15 15,H.new ⟨icells (Tg.Un.ratesL o),3,true⟩):=by
  refine LC_runs (P:=Tryz.prog) (E:=EJ) (f:=293) rfl Tryz.func293 rfl (Nat.le_of_ble_eq_true rfl) (by decide) (by kernel_rfl) ?_
  have b1: ∀ {ps:List (Nat×Value)} {H:LH},ps.length=15→denseB ps 0=true→lbuildSlice Tryz.prog 144 15 ps H=some (sl H.n 15 15,H.new ⟨ps.map Prod.snd,3,true⟩):=fun h1 h2=>lbs_dense (z:=.int .i64 0) Tryz.underlying144 (by kernel_rfl) (by kernel_rfl) rfl rfl h1.symm (by decide) h2
  cases o
  ·simp [b1,denseB];rfl
  ·simp [b1,denseB];rfl
 rw [h,e,trunc_no (by simp [flatB,flat1B,atomB])]
theorem freqs_l:LC Tryz.prog EJ 295 [] H=some (sl H.n 3 3,H.new ⟨icells Tg.Un.freqs,3,true⟩):=by
 obtain⟨r,h,e⟩: ∃r,LC Tryz.prog EJ 295 [] H=some (Lg.trunc H r)∧r=(sl H.n 3 3,H.new ⟨icells Tg.Un.freqs,3,true⟩):=by
  refine LC_runs (P:=Tryz.prog) (E:=EJ) (f:=295) rfl Tryz.func295 rfl (Nat.le_of_ble_eq_true rfl) (by decide) (by kernel_rfl) ?_
  have b1: ∀ {ps:List (Nat×Value)} {H:LH},ps.length=3→denseB ps 0=true→lbuildSlice Tryz.prog 144 3 ps H=some (sl H.n 3 3,H.new ⟨ps.map Prod.snd,3,true⟩):=fun h1 h2=>lbs_dense (z:=.int .i64 0) Tryz.underlying144 (by kernel_rfl) (by kernel_rfl) rfl rfl h1.symm (by decide) h2
  simp [b1,denseB];rfl
 rw [h,e,trunc_no (by simp [flatB,flat1B,atomB])]
theorem lld_i {k i:Nat} {e:TypeId} {r:Bool} (hk:H.get k=some ⟨icells l,e,r⟩) (hi:i<l.length):lld Tryz.prog 3 (ptr k i) H=some (.int .i64 l[i]):=by
 rw [lld_ptr hk,show aggB Tryz.prog 3=some false by kernel_rfl,lldb_cell]
 simp [icells,hi]
theorem cont_cl {k c:Nat} {e:TypeId} {r:Bool} {x:Nat} (hk:H.get k=some ⟨icells l,e,r⟩) (hl:l.length≤1000):LC Tryz.prog EJ 315 [.slice (some ⟨k,0,none⟩) l.length c,.int .i64 x] H=some (.bool (decide (x∈l)),H):=by
 have hix: ∃i:Int,LC Tryz.prog EJ 316 [.slice (some ⟨k,0,none⟩) l.length c,.int .i64 x] H=some (.int .i64 i,H)∧(0≤i↔x∈l):=by
  obtain⟨i,hi⟩: ∃i:Int,i=Tg.Un.idx (fun y=>decide (x=y)) l 0:=⟨_,rfl⟩
  refine⟨i,?_,?_⟩
  ·refine LC_pure rfl Tryz.func316 rfl (Nat.le_of_ble_eq_true rfl) (by decide) (by kernel_rfl) rfl ?_
   simp
   refine loop_ind (fun(j:Nat) fr' H'=>fr' 0=.slice (some ⟨k,0,none⟩) l.length c∧fr' 1=.int .i64 x∧fr' 7=.int .i64 l.length∧fr' 8=.int .i64 j∧j≤l.length∧i=Tg.Un.idx (fun y=>decide (x=y)) (l.drop j) j∧H'=H) (fun j=>l.length-j) 0 ⟨by simp,by simp,by simp,by simp,Nat.zero_le _,hi,rfl⟩ ?_
   rintro j fr' H' ⟨h0,h1,h7,h8,hj,hc,rfl⟩ ih
   by_cases hlt:j<l.length
   ·have q:=eq_true (show(j:Int)<(l.length:Int) by omega)
    have hw:IntKind.i64.wrap ((j:Int)+1)=((j+1:Nat):Int):=by rw [wrapI (by omega) (by omega)];omega
    have g:=lld_i (i:=j) hk hlt
    rw [List.drop_eq_getElem_cons hlt]at hc
    generalize l[j]=a at*
    unfold Tg.Un.idx at hc
    by_cases hf:x=a
    ·rw [if_pos (decide_eq_true hf)]at hc
     have q2:=eq_true (show(x:Int)=(a:Int) by omega)
     subst hc
     simp [h0,h1,h7,h8,q,g,q2]
    ·rw [if_neg (by simp [hf])]at hc
     have q2:=eq_false (show¬(x:Int)=(a:Int) by omega)
     simp [h0,h1,h7,h8,q,g,q2]
     refine ih (j+1) _ _ (by omega) ⟨?_,?_,?_,?_,by omega,hc,rfl⟩
     all_goals simp [h0,h1,h7,hw]
   ·have q:=eq_false (show¬(j:Int)<(l.length:Int) by omega)
    rw [List.drop_of_length_le (by omega)]at hc
    have hc:i= -1:=hc
    subst hc
    simp [h0,h1,h7,h8,q]
  ·have:=Tg.Un.idx_any (fun y=>decide (x=y)) l 0
   rw [←hi]at this
   constructor
   ·intro h
    rw [decide_eq_true h]at this
    obtain⟨y,hy,e⟩:=List.any_eq_true.1 this.symm
    rw [of_decide_eq_true e];exact hy
   ·intro h
    have h2:l.any (fun y=>decide (x=y))=true:=List.any_eq_true.2 ⟨x,h,by simp⟩
    rw [h2]at this
    exact of_decide_eq_true this
 obtain⟨i,h1,h2⟩:=hix
 refine LC_pure rfl Tryz.func315 rfl (Nat.le_of_ble_eq_true rfl) (by decide) (by kernel_rfl) rfl ?_
 by_cases h:x∈l
 ·have q:=eq_true (h2.2 h)
  simp [h1,q,h]
 ·have q:=eq_false (fun e=>h (h2.1 e))
  simp [h1,q,h]
theorem good3_cl {a:Tg.Un.Frm} (h:Tg.Un.FrmOk a):LC Tryz.prog EJ 310 [fvF a] H=some (.bool true,H):=by
 refine LC_pure rfl Tryz.func310 rfl (Nat.le_of_ble_eq_true rfl) (by decide) (by kernel_rfl) rfl ?_
 obtain⟨hv,⟨x,hx,hr⟩,hf⟩:=h
 have h1:=fun H:LH=>odd3_cl (H:=H) hv
 have h2:=fun H:LH=>rates_l (H:=H) (o:=decide (a.v%2=1))
 have h3:=fun H:LH=>freqs_l (H:=H)
 generalize decide (a.v%2=1)=o at*
 have hxl:=Tg.Un.ratesL_le o x hx
 have hrl:=Tg.Un.ratesL_len o
 have c1:=cont_cl (H:=(H.new ⟨[.int .i64 a.v,.int .i64 3,.int .i64 a.r,.int .i64 a.f,.bool a.p],98,true⟩).new ⟨icells (Tg.Un.ratesL o),3,true⟩) (k:=H.n+1) (c:=15) (l:=Tg.Un.ratesL o) (x:=x) (e:=3) (r:=true) (by rw [show H.n+1=(H.new ⟨[.int .i64 a.v,.int .i64 3,.int .i64 a.r,.int .i64 a.f,.bool a.p],98,true⟩).n from rfl,get_new]) (by omega)
 rw [decide_eq_true hx,hrl]at c1
 have q1:((a.r:Nat):Int).tmod 1000=0:=by rw [hr,Int.tmod_eq_emod_of_nonneg (by omega)];omega
 have q2:((a.r:Nat):Int).tdiv 1000=(x:Int):=by rw [hr,Int.tdiv_eq_ediv_of_nonneg (by omega)];omega
 have hwx:IntKind.i64.wrap (x:Int)=(x:Int):=wrapI (by omega) (by omega)
 have c2:=cont_cl (H:=((H.new ⟨[.int .i64 a.v,.int .i64 3,.int .i64 a.r,.int .i64 a.f,.bool a.p],98,true⟩).new ⟨icells (Tg.Un.ratesL o),3,true⟩).new ⟨icells Tg.Un.freqs,3,true⟩) (k:=H.n+1+1) (c:=3) (l:=Tg.Un.freqs) (x:=a.f) (e:=3) (r:=true) (by rw [show H.n+1+1=((H.new ⟨[.int .i64 a.v,.int .i64 3,.int .i64 a.r,.int .i64 a.f,.bool a.p],98,true⟩).new ⟨icells (Tg.Un.ratesL o),3,true⟩).n from rfl,get_new]) (by decide)
 rw [decide_eq_true hf,show Tg.Un.freqs.length=3 from rfl]at c2
 have q3:=eq_true (show(a.v:Int)≤3 by omega)
 have q4:=eq_true (show(0:Int)≤(a.v:Int) by omega)
 have hg:(((H.new ⟨[.int .i64 a.v,.int .i64 3,.int .i64 a.r,.int .i64 a.f,.bool a.p],98,true⟩).new ⟨icells (Tg.Un.ratesL o),3,true⟩).new ⟨icells Tg.Un.freqs,3,true⟩).get H.n=some ⟨[.int .i64 a.v,.int .i64 3,.int .i64 a.r,.int .i64 a.f,.bool a.p],98,true⟩:=by
  rw [get_new_ne (by simp only [n_new];omega),get_new_ne (by simp only [n_new];omega),get_new]
 simp [h1,h2,h3,c1,c2,q1,q2,q3,q4,hwx,hg]
 exact le_refl.new.new.new
theorem size3_cl {a:Tg.Un.Frm} (h:Tg.Un.FrmOk a):LC Tryz.prog EJ 292 [fvF a] H=some (.int .i64 (Tg.Un.flen a),H):=by
 have h1:=fun H:LH=>good3_cl (H:=H) h
 have h2: ∀H:LH,LC Tryz.prog EJ 311 [fvF a,.int .i64 72] H=some (.int .i64 ((if a.v%2=1 then 144 else 72:Nat):Int),H):=fun H=>by
  have h2:=fun H:LH=>odd3_cl (H:=H) h.v
  refine LC_pure rfl Tryz.func311 rfl (Nat.le_of_ble_eq_true rfl) (by decide) (by kernel_rfl) rfl ?_
  by_cases ho:a.v%2=1
  ·rw [decide_eq_true ho]at h2
   rw [if_pos ho]
   simp [h2]
  ·rw [decide_eq_false ho]at h2
   rw [if_neg ho]
   simp [h2]
 obtain⟨hv,⟨x,hx,hr⟩,hf⟩:=h
 have hxl:=Tg.Un.ratesL_le _ x hx
 have hf0:32000≤a.f∧a.f≤48000:=by
  have: ∀y∈Tg.Un.freqs,32000≤y∧y≤48000:=by decide
  exact this _ hf
 refine LC_pure rfl Tryz.func292 rfl (Nat.le_of_ble_eq_true rfl) (by decide) (by kernel_rfl) rfl ?_
 unfold Tg.Un.flen
 obtain⟨k,hk⟩: ∃k:Nat,k=if a.v%2=1 then 144 else 72:=⟨_,rfl⟩
 have hk2:k≤144:=by rw [hk];split<;>omega
 rw [←hk]at h2⊢
 have hm:a.r*k≤320000*144:=Nat.mul_le_mul (by omega) hk2
 have hw1:IntKind.i64.wrap ((a.r:Int)*(k:Int))=((a.r*k:Nat):Int):=by rw [wrapI (by rw [←Int.natCast_mul];omega) (by rw [←Int.natCast_mul];omega),Int.natCast_mul]
 obtain⟨m,hm0⟩: ∃m,m=a.r*k:=⟨_,rfl⟩
 rw [←hm0]at hw1 hm⊢
 obtain⟨d,hd⟩: ∃d,d=m/a.f:=⟨_,rfl⟩
 have hdl:d≤m:=by rw [hd];exact Nat.div_le_self _ _
 have hq:(m:Int).tdiv (a.f:Int)=(d:Int):=by rw [hd,Int.tdiv_eq_ediv_of_nonneg (by omega)];rfl
 have hw2:IntKind.i64.wrap (d:Int)=(d:Int):=wrapI (by omega) (by omega)
 have hw3:IntKind.i64.wrap ((d:Int)+1)=(d:Int)+1:=wrapI (by omega) (by omega)
 have hne:=eq_false (show¬(a.f:Int)=0 by omega)
 have hne2:=eq_false (show¬a.f=0 by omega)
 rw [←hd]
 clear hk hd hm0 hv hr hx hf
 obtain⟨av,ar,af,ap⟩:=a
 simp only at*
 cases ap with
 |false=>simp [h1,h2,hw1,hq,hw2,hne,hne2]
 |true=>simp [h1,h2,hw1,hq,hw2,hw3,hne,hne2]
@[simp] theorem flat1_fvO {o:Option Tg.Un.Frm} :flat1B (fvO o)=true:=by cases o<;>rfl
theorem flat_hd {o:Option Tg.Un.Frm} {b:Bool} :flatB (.tuple #[fvO o,.bool b])=true:=by cases o<;>rfl
theorem lfill_f3 {a b:Int} {c:Bool} :lfill Tryz.prog 98 [.int .i64 0,.int .i64 0,.int .i64 0,.int .i64 0,.bool false] [(0,.int .i64 a),(1,.int .i64 b),(4,.bool c)]=some [.int .i64 a,.int .i64 b,.int .i64 0,.int .i64 0,.bool c]:=by
 rw [lfill_cell (o:=0) (n:=1) (g:=false) (by simp) rfl (by simp) (by simp),lfill_cell (o:=1) (n:=1) (g:=false) (by simp) rfl (by simp) (by simp),lfill_cell (o:=4) (n:=1) (g:=false) (by simp) rfl (by simp) (by simp)]
 simp
theorem head3_cl (hs:s.length≤1048576):LC Tryz.prog EJ 271 [str s] H=some (.tuple #[fvO (Tg.Un.head3 s),.bool (Tg.Un.head3 s).isSome],H):=by
 refine LC_pure rfl Tryz.func271 rfl (Nat.le_of_ble_eq_true rfl) (by decide) (by kernel_rfl) flat_hd ?_
 by_cases hlen:s.length<4
 ·have q:=eq_true (show(s.length:Int)<4 by omega)
  have e:Tg.Un.head3 s=none:=by
   match s,hlen with
   | [],_=>rfl
   | [_],_=>rfl
   | [_,_],_=>rfl
   | [_,_,_],_=>rfl
  rw [e]
  simp [q,fvO]
 ·obtain⟨A,B,C,D,r,rfl⟩: ∃A B C D r,s=A::B::C::D::r:=by
   match s,hlen with
   |A::B::C::D::r,_=>exact⟨A,B,C,D,r,rfl⟩
   | [],h=>exact absurd (by simp) h
   | [_],h=>exact absurd (by simp) h
   | [_,_],h=>exact absurd (by simp) h
   | [_,_,_],h=>exact absurd (by simp) h
  have q:=eq_false (show¬(r.length:Int)+1+1+1+1<4 by omega)
  have a0:at_ (A::B::C::D::r) 0=A:=rfl
  have a1:at_ (A::B::C::D::r) 1=B:=rfl
  have a2:at_ (A::B::C::D::r) 2=C:=rfl
  have h4:Tg.Un.head3 (A::B::C::D::r)=if A.toNat=255∧224≤B.toNat∧B.toNat/2%4=1∧C.toNat/16<15∧C.toNat/4%4<3 then
   some ⟨B.toNat/8%4,1000*(if B.toNat/8%2=1 then Tg.Un.rateO else Tg.Un.rateE).getD (C.toNat/16) 0,Tg.Un.freqs.getD (C.toNat/4%4) 0,C.toNat/2%2==1⟩else none:=rfl
  have p0:=eq_true (show(0:Int)<(r.length:Int)+1+1+1+1 by omega)
  have p1:=eq_true (show(1:Int)<(r.length:Int)+1+1+1+1 by omega)
  have p2:=eq_true (show(2:Int)<(r.length:Int)+1+1+1+1 by omega)
  have hB:=B.toNat_lt
  have hC:=C.toNat_lt
  have hB:=B.toNat_lt
  have hC:=C.toNat_lt
  by_cases hA:A.toNat=255
  ·have qA:=eq_true (show(A.toNat:Int)=255 by omega)
   have f32:(B.toNat:Int).fdiv (2^min 5 IntKind.u8.bits)=((B.toNat/32:Nat):Int):=by rw [show(2:Int)^min 5 IntKind.u8.bits=((32:Nat):Int) from rfl];exact Tg.Un.fdivn _ 32
   by_cases hB2:224≤B.toNat
   ·rw [show B.toNat/32=7 by omega]at f32
    have f8:(B.toNat:Int).fdiv (2^min 3 IntKind.u8.bits)=((B.toNat/8:Nat):Int):=by rw [show(2:Int)^min 3 IntKind.u8.bits=((8:Nat):Int) from rfl];exact Tg.Un.fdivn _ 8
    have f2:(B.toNat:Int).fdiv (2^min 1 IntKind.u8.bits)=((B.toNat/2:Nat):Int):=by rw [show(2:Int)^min 1 IntKind.u8.bits=((2:Nat):Int) from rfl];exact Tg.Un.fdivn _ 2
    have g2:(C.toNat:Int).fdiv (2^min 1 IntKind.u8.bits)=((C.toNat/2:Nat):Int):=by rw [show(2:Int)^min 1 IntKind.u8.bits=((2:Nat):Int) from rfl];exact Tg.Un.fdivn _ 2
    have g4:(C.toNat:Int).fdiv (2^min 2 IntKind.u8.bits)=((C.toNat/4:Nat):Int):=by rw [show(2:Int)^min 2 IntKind.u8.bits=((4:Nat):Int) from rfl];exact Tg.Un.fdivn _ 4
    have g16:(C.toNat:Int).fdiv (2^min 4 IntKind.u8.bits)=((C.toNat/16:Nat):Int):=by rw [show(2:Int)^min 4 IntKind.u8.bits=((16:Nat):Int) from rfl];exact Tg.Un.fdivn _ 16
    have n8:=Tg.Un.and3 (n:=B.toNat/8) (by omega)
    have n2:=Tg.Un.and3 (n:=B.toNat/2) (by omega)
    have m2:=Tg.Un.and1 (n:=C.toNat/2) (by omega)
    have m4:=Tg.Un.and3 (n:=C.toNat/4) (by omega)
    have e8:B.toNat/8%4<4:=Nat.mod_lt _ (by decide)
    have e2:B.toNat/2%4<4:=Nat.mod_lt _ (by decide)
    have k2:C.toNat/2%2<2:=Nat.mod_lt _ (by decide)
    have k4:C.toNat/4%4<4:=Nat.mod_lt _ (by decide)
    have k16:C.toNat/16<16:=by omega
    have ho:B.toNat/8%2=B.toNat/8%4%2:=by omega
    have hh:Tg.Un.head3 (A::B::C::D::r)=if B.toNat/2%4=1∧C.toNat/16<15∧C.toNat/4%4<3 then some ⟨B.toNat/8%4,1000*(if B.toNat/8%4%2=1 then Tg.Un.rateO else Tg.Un.rateE).getD (C.toNat/16) 0,Tg.Un.freqs.getD (C.toNat/4%4) 0,C.toNat/2%2==1⟩else none:=by
     rw [h4,ho]
     simp only [hA,hB2,true_and]
    rw [hh]
    clear hh ho hB hC
    generalize B.toNat/8%4=V at*
    generalize B.toNat/2%4=Y at*
    generalize C.toNat/2%2=Pd at*
    generalize C.toNat/4%4=Fi at*
    generalize B.toNat/8=B8 at*
    generalize B.toNat/2=B2 at*
    generalize C.toNat/2=C2 at*
    generalize C.toNat/4=C4 at*
    generalize C.toNat/16=Ri at*
    have w1:IntKind.i64.wrap (V:Int)=(V:Int):=wrapI (by omega) (by omega)
    have w2:IntKind.i64.wrap (Y:Int)=(Y:Int):=wrapI (by omega) (by omega)
    have w3:IntKind.i64.wrap (Ri:Int)=(Ri:Int):=wrapI (by omega) (by omega)
    have w4:IntKind.i64.wrap (Fi:Int)=(Fi:Int):=wrapI (by omega) (by omega)
    have w5:IntKind.i64.wrap (4-(Y:Int))=4-(Y:Int):=wrapI (by omega) (by omega)
    have hod:bAnd .i64 (V:Int) 1=((V%2:Nat):Int):=Tg.Un.and1i e8
    have ha:=fun(H:LH) (b r f:Int) (p:Bool)=>odd3_g (H:=H) e8 (b:=b) (r:=r) (f:=f) (p:=p)
    have hr:=fun H:LH=>rates_l (H:=H) (o:=decide (V%2=1))
    have hf:=fun H:LH=>freqs_l (H:=H)
    have z1:(H.n=H.n+1+1)=False:=eq_false (by omega)
    have z2:(H.n=H.n+1+1+1)=False:=eq_false (by omega)
    have z3:(H.n+1=H.n+1+1+1)=False:=eq_false (by omega)
    have z4:(H.n=H.n+1+1+1+1)=False:=eq_false (by omega)
    have z5:(H.n+1=H.n+1+1+1+1)=False:=eq_false (by omega)
    have z6:(H.n+1+1=H.n+1+1+1+1)=False:=eq_false (by omega)
    by_cases hY:Y=1
    ·subst hY
     have qY:(4:Int)-((1:Nat):Int)=3:=by decide
     by_cases hR:Ri<15
     ·have qR:=eq_false (show¬(15:Int)≤(Ri:Int) by omega)
      have qR2:=eq_true (show(Ri:Int)<15 by omega)
      by_cases hF:Fi<3
      ·have qF:=eq_false (show¬(3:Int)≤(Fi:Int) by omega)
       have qF2:=eq_true (show(Fi:Int)<3 by omega)
       rw [if_pos ⟨rfl,hR,hF⟩]
       have r1:=fun(H:LH) (k:Nat) (h:H.get k=some ⟨icells (Tg.Un.ratesL (decide (V%2=1))),3,true⟩)=>lld_i (i:=Ri) h (by rw [Tg.Un.ratesL_len];exact hR)
       have r2:=fun(H:LH) (k:Nat) (h:H.get k=some ⟨icells Tg.Un.freqs,3,true⟩)=>lld_i (i:=Fi) h hF
       have hRl:Ri<(Tg.Un.ratesL (decide (V%2=1))).length:=by rw [Tg.Un.ratesL_len];exact hR
       have eR:(if V%2=1 then Tg.Un.rateO else Tg.Un.rateE).getD Ri 0=(Tg.Un.ratesL (decide (V%2=1)))[Ri]:=by
        have:(if V%2=1 then Tg.Un.rateO else Tg.Un.rateE)=Tg.Un.ratesL (decide (V%2=1)):=by unfold Tg.Un.ratesL;by_cases h:V%2=1<;>simp [h]
        rw [this,List.getD_eq_getElem?_getD,List.getElem?_eq_getElem hRl];rfl
       have eF:Tg.Un.freqs.getD Fi 0=Tg.Un.freqs[Fi]'hF:=by rw [List.getD_eq_getElem?_getD,List.getElem?_eq_getElem hF];rfl
       have hx:=Tg.Un.ratesL_le _ _ (List.getElem_mem hRl)
       rw [eR,eF]
       generalize (Tg.Un.ratesL (decide (V%2=1)))[Ri]=x at*
       generalize Tg.Un.freqs[Fi]=y at*
       have hwr:IntKind.i64.wrap (1000*(x:Int))=1000*(x:Int):=wrapI (by omega) (by omega)
       have z7:(H.n+1+1+1+1=H.n+1)=False:=eq_false (by omega)
       have z8:(H.n=H.n+1)=False:=eq_false (by omega)
       have hpd:(decide ((Pd:Int)=1))=(Pd==1):=by
        by_cases h:Pd=1
        ·subst h;rfl
        ·have h2: ¬(Pd:Int)=1:=by omega
         simp [h,h2]
       have r3: ∀(Hx:LH) (b:LB),Hx.get (H.n+1+1+1+1)=some ⟨icells Tg.Un.freqs,3,true⟩→lld Tryz.prog 3 (ptr (H.n+1+1+1+1) Fi) (Hx.set (H.n+1) b)=some (.int .i64 y):=fun Hx b h=>r2 _ _ (by rw [get_set_ne (by omega)];exact h)
       simp [q,a0,a1,a2,p0,p1,p2,qA,f32,f8,f2,g2,g4,g16,n8,n2,m2,m4,w1,w2,w3,w4,w5,ha,hr,hf,lfill_f3,qR,qR2,qF,qF2,z1,z2,z3,z4,z5,z6,z7,z8,hwr,r1,r2,r3,fvO]
       exact⟨hpd,le_refl.new.new.new.new.new⟩
      ·have qF:=eq_true (show(3:Int)≤(Fi:Int) by omega)
       have qF2:=eq_false (show¬(Fi:Int)<3 by omega)
       rw [if_neg (by omega)]
       simp [q,a0,a1,a2,p0,p1,p2,qA,f32,f8,f2,g2,g4,g16,n8,n2,m2,m4,w1,w2,w3,w4,w5,ha,hr,hf,lfill_f3,qR,qR2,qF,qF2,z1,z2,z3,z4,z5,z6,fvO]
       exact le_refl.new.new.new.new
     ·have qR:=eq_true (show(15:Int)≤(Ri:Int) by omega)
      have qR2:=eq_false (show¬(Ri:Int)<15 by omega)
      rw [if_neg (by omega)]
      simp [q,a0,a1,a2,p0,p1,p2,qA,f32,f8,f2,g2,g4,g16,n8,n2,m2,m4,w1,w2,w3,w4,w5,ha,hr,hf,lfill_f3,qR,qR2,z1,z2,z3,z4,z5,z6,fvO]
      exact le_refl.new.new.new
    ·have qY:=eq_false (show¬(4:Int)-(Y:Int)=3 by omega)
     rw [if_neg (by omega)]
     simp [q,a0,a1,a2,p0,p1,p2,qA,f32,f8,f2,g2,g4,g16,n8,n2,m2,m4,w1,w2,w3,w4,w5,ha,hr,hf,lfill_f3,qY,z1,z2,z3,z4,z5,z6,fvO]
     exact le_refl.new.new.new
   ·have e:Tg.Un.head3 (A::B::C::D::r)=none:=by
     rw [h4,if_neg (by omega)]
    obtain⟨u,hu⟩: ∃u,u=B.toNat/32:=⟨_,rfl⟩
    rw [←hu]at f32
    have qu:=eq_false (show¬(u:Int)=7 by omega)
    have qu2:=eq_false (show¬u=7 by omega)
    rw [e]
    simp [q,a0,a1,p0,p1,qA,f32,qu,qu2,fvO]
  ·have qA:=eq_false (show¬(A.toNat:Int)=255 by omega)
   have e:Tg.Un.head3 (A::B::C::D::r)=none:=by
    rw [h4,if_neg (by omega)]
   rw [e]
   simp [q,a0,p0,qA,fvO]
theorem head3_ok {f:Tg.Un.Frm} (h:Tg.Un.head3 s=some f):Tg.Un.FrmOk f:=by
 match s,h with
 |A::B::C::D::r,h=>
  have h4:Tg.Un.head3 (A::B::C::D::r)=if A.toNat=255∧224≤B.toNat∧B.toNat/2%4=1∧C.toNat/16<15∧C.toNat/4%4<3 then
   some ⟨B.toNat/8%4,1000*(if B.toNat/8%2=1 then Tg.Un.rateO else Tg.Un.rateE).getD (C.toNat/16) 0,Tg.Un.freqs.getD (C.toNat/4%4) 0,C.toNat/2%2==1⟩else none:=rfl
  rw [h4]at h
  split at h
  ·rename_i hc
   obtain⟨_,_,_,hR,hF⟩:=hc
   injection h with h
   subst h
   refine⟨Nat.mod_lt _ (by decide),?_,?_⟩
   ·have ho:B.toNat/8%2=B.toNat/8%4%2:=by omega
    have:(if B.toNat/8%2=1 then Tg.Un.rateO else Tg.Un.rateE)=Tg.Un.ratesL (decide (B.toNat/8%4%2=1)):=by
     unfold Tg.Un.ratesL;rw [ho];by_cases h:B.toNat/8%4%2=1<;>simp [h]
    simp only [this]
    have hl:C.toNat/16<(Tg.Un.ratesL (decide (B.toNat/8%4%2=1))).length:=by rw [Tg.Un.ratesL_len];exact hR
    exact⟨_,List.getElem_mem hl,by rw [List.getD_eq_getElem?_getD,List.getElem?_eq_getElem hl];rfl⟩
   ·show Tg.Un.freqs.getD (C.toNat/4%4) 0∈Tg.Un.freqs
    have hl:C.toNat/4%4<Tg.Un.freqs.length:=hF
    rw [List.getD_eq_getElem?_getD,List.getElem?_eq_getElem hl]
    exact List.getElem_mem hl
  ·cases h
 | [],h=>cases h
 | [_],h=>cases h
 | [_,_],h=>cases h
 | [_,_,_],h=>cases h
theorem next3_none (hs:s.length≤1048576) (h:Tg.Un.head3 s=none):LC Tryz.prog EJ 270 [str s] H=some (.tuple #[fv0,.int .i64 0,.bool false],H):=by
 refine LC_pure rfl Tryz.func270 rfl (Nat.le_of_ble_eq_true rfl) (by decide) (by kernel_rfl) rfl ?_
 have h1:=fun H:LH=>head3_cl (H:=H) (s:=s) hs
 rw [h]at h1
 simp [h1,fvO]
theorem next3_some {f:Tg.Un.Frm} (hs:s.length≤1048576) (h:Tg.Un.head3 s=some f):LC Tryz.prog EJ 270 [str s] H=some (.tuple #[fvF f,.int .i64 (Tg.Un.flen f),.bool (decide (4≤Tg.Un.flen f)&&decide (Tg.Un.flen f≤s.length))],H):=by
 refine LC_pure rfl Tryz.func270 rfl (Nat.le_of_ble_eq_true rfl) (by decide) (by kernel_rfl) rfl ?_
 have h1:=fun H:LH=>head3_cl (H:=H) (s:=s) hs
 have h2:=fun H:LH=>size3_cl (H:=H) (head3_ok h)
 rw [h]at h1
 generalize Tg.Un.flen f=n at*
 by_cases a1:4≤n
 ·have q1:=eq_true (show(4:Int)≤(n:Int) by omega)
  by_cases a2:n≤s.length
  ·have q2:=eq_true (show(n:Int)≤(s.length:Int) by omega)
   simp [h1,h2,fvO,q1,q2,a1,a2]
  ·have q2:=eq_false (show¬(n:Int)≤(s.length:Int) by omega)
   simp [h1,h2,fvO,q1,q2,a1,a2]
 ·have q1:=eq_false (show¬(4:Int)≤(n:Int) by omega)
  simp [h1,h2,fvO,q1,a1]
theorem mp3_cl (hs:s.length≤1048576):LC Tryz.prog EJ 239 [str s] H=some (.bool (Tg.Un.mp3 s),H):=by
 refine LC_pure rfl Tryz.func239 rfl (Nat.le_of_ble_eq_true rfl) (by decide) (by kernel_rfl) rfl ?_
 unfold Tg.Un.mp3
 cases h:Tg.Un.head3 s with
 |none=>
  have h1:=fun H:LH=>next3_none (H:=H) hs h
  simp [h1]
 |some f=>
  dsimp only
  have h1:=fun H:LH=>next3_some (H:=H) hs h
  by_cases a1:4≤Tg.Un.flen f
  ·by_cases a2:Tg.Un.flen f≤s.length
   ·have h2:=fun H:LH=>head3_cl (H:=H) (s:=s.drop (Tg.Un.flen f)) (by rw [List.length_drop];omega)
    have q2:=eq_true (show(Tg.Un.flen f:Int)≤(s.length:Int) by omega)
    rw [decide_eq_true a1,decide_eq_true a2]at h1
    generalize Tg.Un.flen f=n at*
    simp [h1,h2,a1,a2,q2]
   ·rw [decide_eq_true a1,decide_eq_false a2]at h1
    generalize Tg.Un.flen f=n at*
    simp [h1,a1,a2]
  ·rw [decide_eq_false a1]at h1
   generalize Tg.Un.flen f=n at*
   simp [h1,a1]
end
end Go.Proofs.YtjplaockjmhnjaaGreatDoor
namespace Tg.Un
def rO:List Nat:= [0,32000,40000,48000,56000,64000,80000,96000,112000,128000,160000,192000,224000,256000,320000]
def rE:List Nat:= [0,8000,16000,24000,32000,40000,48000,56000,64000,80000,96000,112000,128000,144000,160000]
theorem rO_at: ∀i,i<15→rO.getD i 0=1000*rateO.getD i 0:=by decide
theorem rE_at: ∀i,i<15→rE.getD i 0=1000*rateE.getD i 0:=by decide
def rateN (V i:Nat):Nat:=1000*(if V%2=1 then rateO else rateE).getD i 0
def freqN (k:Nat):Nat:=if k=0 then 44100 else if k=1 then 48000 else 32000
theorem freqN_at: ∀k,k<3→freqN k=freqs.getD k 0:=by decide
end Tg.Un
namespace Go.Proofs.YtjplaockjmhnjaaGreatDoor
open Go.Lg Go.Tg
section
variable {H:LH} {s t:List UInt8}
theorem rrate_cl {V i:Nat} (hV:V<4) (hi:i<15):LC Tryz.prog EJ 129 [.int .i64 V,.int .i64 i] H=some (.int .i64 (Tg.Un.rateN V i),H):=by
 refine LC_pure rfl Tryz.func129 rfl (Nat.le_of_ble_eq_true rfl) (by decide) (by kernel_rfl) rfl ?_
 have hlo:i<Tg.Un.rO.length:=hi
 have hle:i<Tg.Un.rE.length:=hi
 have hO:([.int .i64 0,.int .i64 32000,.int .i64 40000,.int .i64 48000,.int .i64 56000,.int .i64 64000,.int .i64 80000,.int .i64 96000,.int .i64 112000,.int .i64 128000,.int .i64 160000,.int .i64 192000,.int .i64 224000,.int .i64 256000,.int .i64 320000]:List Value)[i]?=some (.int .i64 ((1000*Tg.Un.rateO.getD i 0:Nat):Int)):=by
  show(icells Tg.Un.rO)[i]?=_
  rw [←Tg.Un.rO_at i hi,List.getD_eq_getElem?_getD,List.getElem?_eq_getElem hlo]
  unfold icells
  rw [List.getElem?_map,List.getElem?_eq_getElem hlo];rfl
 have hE:([.int .i64 0,.int .i64 8000,.int .i64 16000,.int .i64 24000,.int .i64 32000,.int .i64 40000,.int .i64 48000,.int .i64 56000,.int .i64 64000,.int .i64 80000,.int .i64 96000,.int .i64 112000,.int .i64 128000,.int .i64 144000,.int .i64 160000]:List Value)[i]?=some (.int .i64 ((1000*Tg.Un.rateE.getD i 0:Nat):Int)):=by
  show(icells Tg.Un.rE)[i]?=_
  rw [←Tg.Un.rE_at i hi,List.getD_eq_getElem?_getD,List.getElem?_eq_getElem hle]
  unfold icells
  rw [List.getElem?_map,List.getElem?_eq_getElem hle];rfl
 have tm:(V:Int).tmod 2=((V%2:Nat):Int):=tmodn V 2
 have hl:V%2<2:=Nat.mod_lt _ (by decide)
 have q:=eq_true (show(i:Int)<15 by omega)
 unfold Tg.Un.rateN
 generalize V%2=y at*
 by_cases hy:y=1
 ·rw [if_pos hy]
  have p1:=eq_true (show(y:Int)=1 by omega)
  generalize 1000*Tg.Un.rateO.getD i 0=z at*
  simp [tm,p1,q,hO]
 ·rw [if_neg hy]
  have p1:=eq_false (show¬(y:Int)=1 by omega)
  generalize 1000*Tg.Un.rateE.getD i 0=z at*
  simp [tm,p1,q,hE]
theorem rfreq_cl {k:Nat} :LC Tryz.prog EJ 130 [.int .i64 k] H=some (.int .i64 (Tg.Un.freqN k),H):=by
 refine LC_pure rfl Tryz.func130 rfl (Nat.le_of_ble_eq_true rfl) (by decide) (by kernel_rfl) rfl ?_
 unfold Tg.Un.freqN
 by_cases h0:k=0
 ·subst h0;simp
 ·have q0:=eq_false (show¬(k:Int)=0 by omega)
  by_cases h1:k=1
  ·subst h1;simp
  ·have q1:=eq_false (show¬(k:Int)=1 by omega)
   simp [h0,h1,q0,q1]
theorem lfill_f5 {a b c d:Int} {e:Bool} :lfill Tryz.prog 98 [.int .i64 0,.int .i64 0,.int .i64 0,.int .i64 0,.bool false] [(0,.int .i64 a),(1,.int .i64 b),(2,.int .i64 c),(3,.int .i64 d),(4,.bool e)]=some [.int .i64 a,.int .i64 b,.int .i64 c,.int .i64 d,.bool e]:=by
 rw [lfill_cell (o:=0) (n:=1) (g:=false) (by simp) rfl (by simp) (by simp),lfill_cell (o:=1) (n:=1) (g:=false) (by simp) rfl (by simp) (by simp),lfill_cell (o:=2) (n:=1) (g:=false) (by simp) rfl (by simp) (by simp),lfill_cell (o:=3) (n:=1) (g:=false) (by simp) rfl (by simp) (by simp),lfill_cell (o:=4) (n:=1) (g:=false) (by simp) rfl (by simp) (by simp)]
 simp
theorem rhead18_cl (hs:s.length≤1048576):LC Tryz.prog EJ 96 [str s] H=some (fvO (Tg.Un.head3 s),H):=by
 refine LC_pure rfl Tryz.func96 rfl (Nat.le_of_ble_eq_true rfl) (by decide) (by kernel_rfl) (by cases Tg.Un.head3 s<;>rfl) ?_
 by_cases hlen:s.length<4
 ·have q:=eq_true (show(s.length:Int)<4 by omega)
  have e:Tg.Un.head3 s=none:=by
   match s,hlen with
   | [],_=>rfl
   | [_],_=>rfl
   | [_,_],_=>rfl
   | [_,_,_],_=>rfl
  rw [e]
  simp [q,fvO]
 ·obtain⟨A,B,C,D,r,rfl⟩: ∃A B C D r,s=A::B::C::D::r:=by
   match s,hlen with
   |A::B::C::D::r,_=>exact⟨A,B,C,D,r,rfl⟩
   | [],h=>exact absurd (by simp) h
   | [_],h=>exact absurd (by simp) h
   | [_,_],h=>exact absurd (by simp) h
   | [_,_,_],h=>exact absurd (by simp) h
  have q:=eq_false (show¬(r.length:Int)+1+1+1+1<4 by omega)
  have a0:at_ (A::B::C::D::r) 0=A:=rfl
  have a1:at_ (A::B::C::D::r) 1=B:=rfl
  have a2:at_ (A::B::C::D::r) 2=C:=rfl
  have h4:Tg.Un.head3 (A::B::C::D::r)=if A.toNat=255∧224≤B.toNat∧B.toNat/2%4=1∧C.toNat/16<15∧C.toNat/4%4<3 then
   some ⟨B.toNat/8%4,1000*(if B.toNat/8%2=1 then Tg.Un.rateO else Tg.Un.rateE).getD (C.toNat/16) 0,Tg.Un.freqs.getD (C.toNat/4%4) 0,C.toNat/2%2==1⟩else none:=rfl
  have p0:=eq_true (show(0:Int)<(r.length:Int)+1+1+1+1 by omega)
  have p1:=eq_true (show(1:Int)<(r.length:Int)+1+1+1+1 by omega)
  have p2:=eq_true (show(2:Int)<(r.length:Int)+1+1+1+1 by omega)
  have hB:=B.toNat_lt
  have hC:=C.toNat_lt
  by_cases hA:A.toNat=255
  ·have qA:=eq_true (show(A.toNat:Int)=255 by omega)
   by_cases hB2:224≤B.toNat
   ·have qB:=eq_false (show¬(B.toNat:Int)<224 by omega)
    have ho:B.toNat/8%2=B.toNat/8%4%2:=by omega
    have hh:Tg.Un.head3 (A::B::C::D::r)=if B.toNat/2%4=1∧C.toNat/16<15∧C.toNat/4%4<3 then some ⟨B.toNat/8%4,Tg.Un.rateN (B.toNat/8%4) (C.toNat/16),Tg.Un.freqs.getD (C.toNat/4%4) 0,C.toNat/2%2==1⟩else none:=by
     rw [h4,ho]
     simp only [hA,hB2,true_and]
     rfl
    rw [hh]
    clear hh h4 ho
    have wb:IntKind.i64.wrap (B.toNat:Int)=(B.toNat:Int):=wrapI (by omega) (by omega)
    have wc:IntKind.i64.wrap (C.toNat:Int)=(C.toNat:Int):=wrapI (by omega) (by omega)
    have f8:(B.toNat:Int).tdiv 8=((B.toNat/8:Nat):Int):=tdivn _ 8
    have f2:(B.toNat:Int).tdiv 2=((B.toNat/2:Nat):Int):=tdivn _ 2
    have g2:(C.toNat:Int).tdiv 2=((C.toNat/2:Nat):Int):=tdivn _ 2
    have g4:(C.toNat:Int).tdiv 4=((C.toNat/4:Nat):Int):=tdivn _ 4
    have g16:(C.toNat:Int).tdiv 16=((C.toNat/16:Nat):Int):=tdivn _ 16
    have n8:((B.toNat/8:Nat):Int).tmod 4=((B.toNat/8%4:Nat):Int):=tmodn _ 4
    have n2:((B.toNat/2:Nat):Int).tmod 4=((B.toNat/2%4:Nat):Int):=tmodn _ 4
    have m2:((C.toNat/2:Nat):Int).tmod 2=((C.toNat/2%2:Nat):Int):=tmodn _ 2
    have m4:((C.toNat/4:Nat):Int).tmod 4=((C.toNat/4%4:Nat):Int):=tmodn _ 4
    have e8:B.toNat/8%4<4:=Nat.mod_lt _ (by decide)
    have e2:B.toNat/2%4<4:=Nat.mod_lt _ (by decide)
    have k2:C.toNat/2%2<2:=Nat.mod_lt _ (by decide)
    have k4:C.toNat/4%4<4:=Nat.mod_lt _ (by decide)
    have k16:C.toNat/16<16:=by omega
    have l8:B.toNat/8<256:=by omega
    have l2:B.toNat/2<256:=by omega
    have j2:C.toNat/2<256:=by omega
    have j4:C.toNat/4<256:=by omega
    clear hB hC
    generalize B.toNat/8%4=V at*
    generalize B.toNat/2%4=Y at*
    generalize C.toNat/2%2=Pd at*
    generalize C.toNat/4%4=Fi at*
    generalize B.toNat/8=B8 at*
    generalize B.toNat/2=B2 at*
    generalize C.toNat/2=C2 at*
    generalize C.toNat/4=C4 at*
    generalize C.toNat/16=Ri at*
    have u1:IntKind.i64.wrap (B8:Int)=(B8:Int):=wrapI (by omega) (by omega)
    have u2:IntKind.i64.wrap (B2:Int)=(B2:Int):=wrapI (by omega) (by omega)
    have u3:IntKind.i64.wrap (C2:Int)=(C2:Int):=wrapI (by omega) (by omega)
    have u4:IntKind.i64.wrap (C4:Int)=(C4:Int):=wrapI (by omega) (by omega)
    have u5:IntKind.i64.wrap (Ri:Int)=(Ri:Int):=wrapI (by omega) (by omega)
    have w5:IntKind.i64.wrap (4-(Y:Int))=4-(Y:Int):=wrapI (by omega) (by omega)
    by_cases hY:Y=1
    ·subst hY
     have qY:(4:Int)-((1:Nat):Int)=3:=by decide
     by_cases hR:Ri<15
     ·have qR:=eq_false (show¬(Ri:Int)=15 by omega)
      have qR2:=eq_false (show¬Ri=15 by omega)
      by_cases hF:Fi<3
      ·have qF:=eq_false (show¬(Fi:Int)=3 by omega)
       have qF2:=eq_false (show¬Fi=3 by omega)
       rw [if_pos ⟨rfl,hR,hF⟩]
       have hr:=fun H:LH=>rrate_cl (H:=H) (V:=V) (i:=Ri) e8 hR
       have hf:=fun H:LH=>rfreq_cl (H:=H) (k:=Fi)
       rw [Tg.Un.freqN_at Fi hF]at hf
       have hpd:(decide ((Pd:Int)=1))=(Pd==1):=by
        by_cases h:Pd=1
        ·subst h;rfl
        ·have h2: ¬(Pd:Int)=1:=by omega
         simp [h,h2]
       generalize Tg.Un.freqs.getD Fi 0=y at*
       generalize Tg.Un.rateN V Ri=x at*
       simp [q,a0,a1,a2,p0,p1,p2,qA,qB,wb,wc,f8,f2,g2,g4,g16,n8,n2,m2,m4,u1,u2,u3,u4,u5,w5,hr,hf,lfill_f5,qR,qR2,qF,qF2,fvO]
       exact hpd
      ·have hF3:Fi=3:=by omega
       subst hF3
       rw [if_neg (by omega)]
       simp [q,a0,a1,a2,p0,p1,p2,qA,qB,wb,wc,f8,f2,g2,g4,g16,n8,n2,m2,m4,u1,u2,u3,u4,u5,w5,qR,qR2,fvO]
     ·have hR3:Ri=15:=by omega
      subst hR3
      rw [if_neg (by omega)]
      simp [q,a0,a1,a2,p0,p1,p2,qA,qB,wb,wc,f8,f2,g2,g4,g16,n8,n2,m2,m4,u1,u2,u3,u4,u5,w5,fvO]
    ·have qY:=eq_false (show¬(4:Int)-(Y:Int)=3 by omega)
     rw [if_neg (by omega)]
     simp [q,a0,a1,a2,p0,p1,p2,qA,qB,wb,wc,f8,f2,g2,g4,g16,n8,n2,m2,m4,u1,u2,u3,u4,u5,w5,qY,fvO]
   ·have e:Tg.Un.head3 (A::B::C::D::r)=none:=by
     rw [h4,if_neg (by omega)]
    have qB:=eq_true (show(B.toNat:Int)<224 by omega)
    rw [e]
    simp [q,a0,a1,p0,p1,qA,qB,fvO]
  ·have qA:=eq_false (show¬(A.toNat:Int)=255 by omega)
   have e:Tg.Un.head3 (A::B::C::D::r)=none:=by
    rw [h4,if_neg (by omega)]
   rw [e]
   simp [q,a0,p0,qA,fvO]
theorem rgood18_cl {a:Tg.Un.Frm} (h:Tg.Un.FrmOk a):LC Tryz.prog EJ 171 [fvF a] H=some (.bool true,H):=by
 refine LC_pure rfl Tryz.func171 rfl (Nat.le_of_ble_eq_true rfl) (by decide) (by kernel_rfl) rfl ?_
 obtain⟨hv,⟨x,hx,hr⟩,hf⟩:=h
 obtain⟨i0,hi0,hi1⟩: ∃i0,i0<15∧a.r=Tg.Un.rateN a.v i0:=by
  obtain⟨i0,hl,e⟩:=List.getElem_of_mem hx
  have hl2:i0<15:=by rw [Tg.Un.ratesL_len]at hl;exact hl
  refine⟨i0,hl2,?_⟩
  have:(if a.v%2=1 then Tg.Un.rateO else Tg.Un.rateE)=Tg.Un.ratesL (decide (a.v%2=1)):=by unfold Tg.Un.ratesL;by_cases h:a.v%2=1<;>simp [h]
  unfold Tg.Un.rateN
  rw [hr,this,List.getD_eq_getElem?_getD,List.getElem?_eq_getElem hl,←e];rfl
 obtain⟨k0,hk0,hk1⟩: ∃k0,k0<3∧a.f=Tg.Un.freqN k0:=by
  obtain⟨k0,hl,e⟩:=List.getElem_of_mem hf
  have hl2:k0<3:=hl
  refine⟨k0,hl2,?_⟩
  rw [Tg.Un.freqN_at k0 hl2,List.getD_eq_getElem?_getD,List.getElem?_eq_getElem hl,←e];rfl
 clear hr hx hf
 have q1:=eq_true (show(0:Int)≤(a.v:Int) by omega)
 have q1':=eq_false (show¬(a.v:Int)<0 by omega)
 have q2:=eq_true (show(a.v:Int)≤3 by omega)
 have q2':=eq_false (show¬(3:Int)<(a.v:Int) by omega)
 have hR:=fun(H:LH) (i:Nat) (h:i<15)=>rrate_cl (H:=H) (V:=a.v) (i:=i) hv h
 have hF:=fun(H:LH) (k:Nat)=>rfreq_cl (H:=H) (k:=k)
 simp [q1,q1',q2,q2']
 refine loop_ind (fun(i:Nat) fr' H'=>fr' 1=ptr H.n 0∧fr' 3=.int .i64 i∧i≤i0∧H'=H.new ⟨[.int .i64 a.v,.int .i64 3,.int .i64 a.r,.int .i64 a.f,.bool a.p],98,true⟩) (fun i=>i0-i) 0 ⟨by simp,by simp,Nat.zero_le _,by simp⟩ ?_
 rintro i fr' H' ⟨g1,g3,hi,rfl⟩ ih
 have q3:=eq_true (show(i:Int)<15 by omega)
 have hRi:=fun H:LH=>hR H i (by omega)
 have wi:IntKind.i64.wrap ((i:Int)+1)=((i+1:Nat):Int):=by rw [wrapI (by omega) (by omega)];omega
 simp [g1,g3,q3]
 refine loop_ind (fun(k:Nat) fr' H'=>fr' 1=ptr H.n 0∧fr' 3=.int .i64 i∧fr' 4=.int .i64 k∧k≤3∧(i=i0→k≤k0)∧H'=H.new ⟨[.int .i64 a.v,.int .i64 3,.int .i64 a.r,.int .i64 a.f,.bool a.p],98,true⟩) (fun k=>3-k) 0 ⟨by simp [g1],by simp [g3],by simp,by decide,fun _=>Nat.zero_le _,by simp⟩ ?_
 clear g1 g3
 rintro k fr' H' ⟨g1,g3,g4,hk,hki,rfl⟩ ih2
 by_cases hk3:k<3
 ·have q4:=eq_true (show(k:Int)<3 by omega)
  have wk:IntKind.i64.wrap ((k:Int)+1)=((k+1:Nat):Int):=by rw [wrapI (by omega) (by omega)];omega
  have hFk:=fun H:LH=>hF H k
  have hne: ¬(a.r=Tg.Un.rateN a.v i∧a.f=Tg.Un.freqN k)→i=i0→k+1≤k0:=fun hn hii=>by
   have:=hki hii
   rcases Nat.lt_or_ge k k0 with h|h
   ·omega
   ·obtain rfl:k=k0:=by omega
    subst hii
    exact absurd ⟨hi1,hk1⟩ hn
  generalize Tg.Un.rateN a.v i=X at*
  generalize Tg.Un.freqN k=Y at*
  by_cases c1:a.r=X
  ·have p1:=eq_true (show(a.r:Int)=(X:Int) by omega)
   by_cases c2:a.f=Y
   ·have p2:=eq_true (show(a.f:Int)=(Y:Int) by omega)
    simp [g1,g3,g4,q4,hRi,hFk,p1,p2,c1,c2]
   ·have p2:=eq_false (show¬(a.f:Int)=(Y:Int) by omega)
    have c1':=eq_true c1
    simp [g1,g3,g4,q4,hRi,hFk,p1,p2,c1',c2]
    refine ih2 (k+1) _ _ (by omega) ⟨?_,?_,?_,by omega,hne (fun h=>c2 h.2),rfl⟩
    all_goals simp [g1,g3,wk]
  ·have p1:=eq_false (show¬(a.r:Int)=(X:Int) by omega)
   simp [g1,g3,g4,q4,hRi,hFk,p1,c1]
   refine ih2 (k+1) _ _ (by omega) ⟨?_,?_,?_,by omega,hne (fun h=>c1 h.1),rfl⟩
   all_goals simp [g1,g3,wk]
 ·have q4:=eq_false (show¬(k:Int)<3 by omega)
  have hii:i≠i0:=fun e=>by have:=hki e;omega
  simp [g1,g3,g4,q4]
  refine ih (i+1) _ _ (by omega) ⟨?_,?_,by omega,rfl⟩
  all_goals simp [g1,wi]
theorem rgood18_no:LC Tryz.prog EJ 171 [fv0] H=some (.bool false,H):=by
 refine LC_pure rfl Tryz.func171 rfl (Nat.le_of_ble_eq_true rfl) (by decide) (by kernel_rfl) rfl ?_
 simp
theorem rsize18_no:LC Tryz.prog EJ 128 [fv0] H=some (.int .i64 0,H):=by
 refine LC_pure rfl Tryz.func128 rfl (Nat.le_of_ble_eq_true rfl) (by decide) (by kernel_rfl) rfl ?_
 have h1:=fun H:LH=>rgood18_no (H:=H)
 simp [h1]
theorem rsize18_cl {a:Tg.Un.Frm} (h:Tg.Un.FrmOk a):LC Tryz.prog EJ 128 [fvF a] H=some (.int .i64 (Tg.Un.flen a),H):=by
 have h1:=fun H:LH=>rgood18_cl (H:=H) h
 obtain⟨hv,⟨x,hx,hr⟩,hf⟩:=h
 have hxl:=Tg.Un.ratesL_le _ x hx
 have hf0:32000≤a.f∧a.f≤48000:=by
  have: ∀y∈Tg.Un.freqs,32000≤y∧y≤48000:=by decide
  exact this _ hf
 refine LC_pure rfl Tryz.func128 rfl (Nat.le_of_ble_eq_true rfl) (by decide) (by kernel_rfl) rfl ?_
 unfold Tg.Un.flen
 have tm:(a.v:Int).tmod 2=((a.v%2:Nat):Int):=tmodn a.v 2
 obtain⟨k,hk⟩: ∃k:Nat,k=if a.v%2=1 then 144 else 72:=⟨_,rfl⟩
 have hk2:k≤144:=by rw [hk];split<;>omega
 rw [←hk]
 have hm:a.r*k≤320000*144:=Nat.mul_le_mul (by omega) hk2
 have hw1:IntKind.i64.wrap ((a.r:Int)*(k:Int))=((a.r*k:Nat):Int):=by rw [wrapI (by rw [←Int.natCast_mul];omega) (by rw [←Int.natCast_mul];omega),Int.natCast_mul]
 obtain⟨m,hm0⟩: ∃m,m=a.r*k:=⟨_,rfl⟩
 rw [←hm0]at hw1 hm⊢
 obtain⟨d,hd⟩: ∃d,d=m/a.f:=⟨_,rfl⟩
 have hdl:d≤m:=by rw [hd];exact Nat.div_le_self _ _
 have hq:(m:Int).tdiv (a.f:Int)=(d:Int):=by rw [hd,Int.tdiv_eq_ediv_of_nonneg (by omega)];rfl
 have hw2:IntKind.i64.wrap (d:Int)=(d:Int):=wrapI (by omega) (by omega)
 have hw3:IntKind.i64.wrap ((d:Int)+1)=(d:Int)+1:=wrapI (by omega) (by omega)
 have hne:=eq_false (show¬(a.f:Int)=0 by omega)
 have hne2:=eq_false (show¬a.f=0 by omega)
 rw [←hd]
 have hy2:a.v%2<2:=Nat.mod_lt _ (by decide)
 clear hd hm0 hv hr hx hf
 obtain⟨av,ar,af,ap⟩:=a
 simp only at*
 generalize av%2=y at*
 by_cases hy:y=1
 ·rw [if_pos hy]at hk
  subst hk
  have p1:=eq_true (show(y:Int)=1 by omega)
  have hw1:IntKind.i64.wrap ((ar:Int)*144)=(m:Int):=hw1
  cases ap with
  |false=>simp [h1,tm,p1,hw1,hq,hw2,hne,hne2]
  |true=>simp [h1,tm,p1,hw1,hq,hw2,hw3,hne,hne2]
 ·rw [if_neg hy]at hk
  subst hk
  have p1:=eq_false (show¬(y:Int)=1 by omega)
  have hw1:IntKind.i64.wrap ((ar:Int)*72)=(m:Int):=hw1
  cases ap with
  |false=>simp [h1,tm,p1,hw1,hq,hw2,hne,hne2]
  |true=>simp [h1,tm,p1,hw1,hq,hw2,hw3,hne,hne2]
def nxt3 (s:List UInt8):Nat:=match Tg.Un.head3 s with
 |some f=>if 4≤Tg.Un.flen f∧Tg.Un.flen f≤s.length then Tg.Un.flen f else 0
 |none=>0
theorem rnext18_cl (hs:s.length≤1048576):LC Tryz.prog EJ 95 [str s] H=some (.int .i64 (nxt3 s),H):=by
 refine LC_pure rfl Tryz.func95 rfl (Nat.le_of_ble_eq_true rfl) (by decide) (by kernel_rfl) rfl ?_
 have h1:=fun H:LH=>rhead18_cl (H:=H) (s:=s) hs
 unfold nxt3
 cases h:Tg.Un.head3 s with
 |none=>
  dsimp only
  rw [h]at h1
  have h2:=fun H:LH=>rsize18_no (H:=H)
  simp [h1,fvO,h2]
 |some f=>
  dsimp only
  rw [h]at h1
  have h2:=fun H:LH=>rsize18_cl (H:=H) (head3_ok h)
  generalize Tg.Un.flen f=n at*
  by_cases a1:4≤n
  ·have p1:=eq_false (show¬(n:Int)<4 by omega)
   by_cases a2:n≤s.length
   ·have p2:=eq_false (show¬(s.length:Int)<(n:Int) by omega)
    have p3:=eq_false (show¬s.length<n by omega)
    rw [if_pos ⟨a1,a2⟩]
    simp [h1,fvO,h2,p1,p2,p3]
   ·have p2:=eq_true (show(s.length:Int)<(n:Int) by omega)
    have p3:=eq_true (show s.length<n by omega)
    rw [if_neg (fun h=>a2 h.2)]
    simp [h1,fvO,h2,p1,p2,p3]
  ·have p1:=eq_true (show(n:Int)<4 by omega)
   rw [if_neg (fun h=>a1 h.1)]
   simp [h1,fvO,h2,p1]
theorem ris18_cl (hs:s.length≤1048576):LC Tryz.prog EJ 59 [str s] H=some (.bool (Tg.Un.mp3 s),H):=by
 refine LC_pure rfl Tryz.func59 rfl (Nat.le_of_ble_eq_true rfl) (by decide) (by kernel_rfl) rfl ?_
 have h1:=fun H:LH=>rnext18_cl (H:=H) (s:=s) hs
 have hm:Tg.Un.mp3 s=(decide (0<nxt3 s)&&(Tg.Un.head3 (s.drop (nxt3 s))).isSome)∧nxt3 s≤s.length:=by
  cases h:Tg.Un.head3 s with
  |none=>
   have e:nxt3 s=0:=by unfold nxt3;rw [h]
   rw [e]
   unfold Tg.Un.mp3
   rw [h]
   exact⟨rfl,Nat.zero_le _⟩
  |some f=>
   have e0:Tg.Un.mp3 s=(decide (4≤Tg.Un.flen f)&&(decide (Tg.Un.flen f≤s.length)&&(Tg.Un.head3 (s.drop (Tg.Un.flen f))).isSome)):=by unfold Tg.Un.mp3;rw [h]
   rw [e0]
   by_cases a:4≤Tg.Un.flen f∧Tg.Un.flen f≤s.length
   ·have e:nxt3 s=Tg.Un.flen f:=by unfold nxt3;rw [h];exact if_pos a
    rw [e,decide_eq_true a.1,decide_eq_true a.2,decide_eq_true (by omega:0<Tg.Un.flen f)]
    exact⟨by simp,a.2⟩
   ·have e:nxt3 s=0:=by unfold nxt3;rw [h];exact if_neg a
    rw [e]
    refine⟨?_,Nat.zero_le _⟩
    by_cases a1:4≤Tg.Un.flen f
    ·rw [decide_eq_false (fun h=>a ⟨a1,h⟩)];simp
    ·rw [decide_eq_false a1];simp
 obtain⟨hm,hnl⟩:=hm
 rw [hm]
 clear hm
 have h2:=fun H:LH=>rhead18_cl (H:=H) (s:=s.drop (nxt3 s)) (by rw [List.length_drop];omega)
 have hok:=fun f=>head3_ok (s:=s.drop (nxt3 s)) (f:=f)
 generalize nxt3 s=n at*
 by_cases hn:0<n
 ·have p1:=eq_true (show(0:Int)<(n:Int) by omega)
  have p2:=eq_true (show(n:Int)≤(s.length:Int) by omega)
  cases h:Tg.Un.head3 (s.drop n)with
  |none=>
   rw [h]at h2
   simp [h1,h2,p1,p2,hn,fvO]
  |some f=>
   rw [h]at h2
   have hf0:32000≤f.f:=by
    have: ∀y∈Tg.Un.freqs,32000≤y:=by decide
    exact this _ (hok f h).f
   have p3:=eq_true (show(0:Int)<(f.f:Int) by omega)
   have p4:=eq_true (show 0<f.f by omega)
   simp [h1,h2,p1,p2,p3,p4,hn,fvO]
 ·have p1:=eq_false (show¬(0:Int)<(n:Int) by omega)
  have p2:=eq_false hn
  simp [h1,p1,p2,hn]
end
end Go.Proofs.YtjplaockjmhnjaaGreatDoor
namespace Tg.Un
def mk1 (gap:Bool) (i:Nat):UInt8:=if gap=true∧4≤i∧i<8 then 0 else 255
def maskL (gap:Bool) (n:Nat):List UInt8:=(List.range n).map (mk1 gap)
theorem maskL_at {gap:Bool} {n i:Nat} (h:i<(maskL gap n).length):(maskL gap n)[i]=mk1 gap i:=by simp [maskL]
theorem maskL_len {gap:Bool} {n:Nat} :(maskL gap n).length=n:=by simp [maskL]
theorem part_id {M R:List UInt8} {i:Nat} (hr:R.length=M.length) (hi:i<M.length):(M.take i++R.drop i).set i M[i]=M.take (i+1)++R.drop (i+1):=by
 have h1:(M.take i).length=i:=by simp;omega
 rw [List.set_append_right _ _ (by omega),h1,Nat.sub_self,List.drop_eq_getElem_cons (by omega:i<R.length),List.set_cons_zero,List.take_add_one,List.getElem?_eq_getElem hi,List.append_assoc]
 rfl
theorem part_same {M R:List UInt8} {i:Nat} (hr:R.length=M.length) (hi:i<M.length) (he:M[i]=R[i]):M.take i++R.drop i=M.take (i+1)++R.drop (i+1):=by
 have hi2:i<R.length:=by omega
 rw [List.drop_eq_getElem_cons hi2,List.take_add_one,List.getElem?_eq_getElem hi,he,List.append_assoc]
 rfl
end Tg.Un
namespace Go.Proofs.YtjplaockjmhnjaaGreatDoor
open Go.Lg Go.Tg
section
variable {H:LH} {s t:List UInt8}
theorem masked_cl {n:Nat} {gap:Bool} (hn:n≤1000):LC Tryz.prog EJ 313 [.int .i64 n,.bool gap] H=some (str (Tg.Un.maskL gap n),H):=by
 refine LC_pure rfl Tryz.func313 rfl (Nat.le_of_ble_eq_true rfl) (by decide) (by kernel_rfl) rfl ?_
 have q0:=eq_true (show(0:Int)≤(n:Int) by omega)
 have q1:=eq_true (show n≤1048576 by omega)
 have q2:=eq_true (show(n:Int)≤1048576 by omega)
 simp [q0,q1,q2]
 refine loop_ind (fun(i:Nat) fr' H'=>fr' 1=.bool gap∧fr' 5=sl H.n n n∧fr' 10=.int .i64 n∧fr' 11=.int .i64 i∧i≤n∧H'.n=H.n+1∧H'.get H.n=some ⟨u8c ((Tg.Un.maskL gap n).take i++(List.replicate n 0).drop i),5,true⟩∧ ∀l,l<H.n→H'.get l=H.get l) (fun i=>n-i) 0 ⟨by simp,by simp,by simp,by simp,Nat.zero_le _,by simp,?_,fun l hl=>?_⟩ ?_
 ·rw [get_new];simp [u8c]
 ·rw [get_new_ne (by omega)]
 rintro i fr' H' ⟨g1,g5,g10,g11,hi,hn',hg,ho⟩ ih
 by_cases hlt:i<n
 ·have q:=eq_true (show(i:Int)<(n:Int) by omega)
  have hw:IntKind.i64.wrap ((i:Int)+1)=((i+1:Nat):Int):=by rw [wrapI (by omega) (by omega)];omega
  have hl:i<(Tg.Un.maskL gap n).length:=by rw [Tg.Un.maskL_len];exact hlt
  have hr:(List.replicate n (0:UInt8)).length=(Tg.Un.maskL gap n).length:=by rw [Tg.Un.maskL_len];simp
  have lm:i<((Tg.Un.maskL gap n).take i++(List.replicate n (0:UInt8)).drop i).length:=by simp [Tg.Un.maskL_len];omega
  have s1:lst Tryz.prog 5 (ptr H.n i) (.int .u8 255) H'=some (undef,_):=lst_u8 (H:=H') hg lm 255
  have p1:=Tg.Un.part_id hr hl
  have p2:=Tg.Un.part_same hr hl
  rw [Tg.Un.maskL_at,List.getElem_replicate]at p2
  rw [Tg.Un.maskL_at]at p1
  unfold Tg.Un.mk1 at p1 p2
  have go:=fun(fr2:Fr) (H2:LH) (a1:fr2 1=.bool gap) (a5:fr2 5=sl H.n n n) (a10:fr2 10=.int .i64 n) (a11:fr2 11=.int .i64 ((i+1:Nat):Int)) (b1:H2.n=H'.n) (b2:H2.get H.n=some ⟨u8c ((Tg.Un.maskL gap n).take (i+1)++(List.replicate n 0).drop (i+1)),5,true⟩) (b3: ∀l,l<H.n→H2.get l=H'.get l)=>ih (i+1) fr2 H2 (by omega) ⟨a1,a5,a10,a11,by omega,by omega,b2,fun l hl=>by rw [b3 l hl,ho l hl]⟩
  clear ih
  cases gap with
  |false=>
   rw [if_neg (by simp)]at p1
   rw [p1]at s1
   generalize hB:(Tg.Un.maskL false n).take (i+1)++(List.replicate n (0:UInt8)).drop (i+1)=M' at*
   simp [g1,g5,g10,g11,q,s1]
   refine go _ _ ?_ ?_ ?_ ?_ rfl ?_ (fun l hl=>get_set_ne (by omega))
   ·simp [g1]
   ·simp [g5]
   ·simp [g10]
   ·simp [hw]
   ·rw [get_set]
  |true=>
   by_cases h4:i<4
   ·have e4:=eq_true (show(i:Int)<4 by omega)
    rw [if_neg (by omega)]at p1
    rw [p1]at s1
    generalize hB:(Tg.Un.maskL true n).take (i+1)++(List.replicate n (0:UInt8)).drop (i+1)=M' at*
    simp [g1,g5,g10,g11,q,s1,e4]
    refine go _ _ ?_ ?_ ?_ ?_ rfl ?_ (fun l hl=>get_set_ne (by omega))
    ·simp [g1]
    ·simp [g5]
    ·simp [g10]
    ·simp [hw]
    ·rw [get_set]
   ·have e4:=eq_false (show¬(i:Int)<4 by omega)
    by_cases h8:8≤i
    ·have e8:=eq_true (show(8:Int)≤(i:Int) by omega)
     rw [if_neg (by omega)]at p1
     rw [p1]at s1
     generalize hB:(Tg.Un.maskL true n).take (i+1)++(List.replicate n (0:UInt8)).drop (i+1)=M' at*
     simp [g1,g5,g10,g11,q,s1,e4,e8]
     refine go _ _ ?_ ?_ ?_ ?_ rfl ?_ (fun l hl=>get_set_ne (by omega))
     ·simp [g1]
     ·simp [g5]
     ·simp [g10]
     ·simp [hw]
     ·rw [get_set]
    ·have e8:=eq_false (show¬(8:Int)≤(i:Int) by omega)
     have p3:=p2 (by rw [if_pos ⟨rfl,by omega,by omega⟩])
     rw [p3]at hg
     simp [g1,g5,g10,g11,q,e4,e8]
     refine go _ _ ?_ ?_ ?_ ?_ rfl hg (fun l hl=>rfl)
     ·simp [g1]
     ·simp [g5]
     ·simp [g10]
     ·simp [hw]
 ·have q:=eq_false (show¬(i:Int)<(n:Int) by omega)
  obtain rfl:i=n:=by omega
  rw [List.take_of_length_le (by rw [Tg.Un.maskL_len];exact Nat.le_refl _),List.drop_of_length_le (by simp),List.append_nil]at hg
  have c1:=fun(c:Nat)=>lconv_u8 (c:=c) hg
  rw [Tg.Un.maskL_len]at c1
  simp [g1,g5,g10,g11,q,c1]
  exact⟨by omega,fun l hl=>ho l hl⟩
theorem plain_cl (hs:s.length≤1000):LC Tryz.prog EJ 306 [str s,str t] H=some (pv ⟨s,Tg.Un.maskL false s.length,[],t⟩,H):=by
 refine LC_pure rfl Tryz.func306 rfl (Nat.le_of_ble_eq_true rfl) (by decide) (by kernel_rfl) rfl ?_
 have h1:=fun H:LH=>masked_cl (H:=H) (n:=s.length) (gap:=false) hs
 simp [h1,lfill_p3]
theorem boxed_cl {h n:List UInt8} (h1:h.length≤100) (h2:n.length≤100):LC Tryz.prog EJ 305 [str h,str n,str t] H=some (pv ⟨h++ [0,0,0,0]++n,Tg.Un.maskL true (h.length+4+n.length),[],t⟩,H):=by
 refine LC_pure rfl Tryz.func305 rfl (Nat.le_of_ble_eq_true rfl) (by decide) (by kernel_rfl) rfl ?_
 have h3:=fun H:LH=>masked_cl (H:=H) (n:=(h++ [0,0,0,0]++n).length) (gap:=true) (by simp;omega)
 have q1:=eq_true (show h.length+4≤9223372036854775807 by omega)
 have q2:=eq_true (show(h++ [0,0,0,0]++n).length≤9223372036854775807 by simp;omega)
 have q3:=eq_true (show(h++ [(0:UInt8),0,0,0]).length+n.length≤9223372036854775807 by simp;omega)
 have q4:=eq_true (show h.length+4+n.length≤9223372036854775807 by omega)
 have q5:=eq_true (show h.length+(4+n.length)≤9223372036854775807 by omega)
 have q6:=eq_true (show h.length+(n.length+4)≤9223372036854775807 by omega)
 have e:(h++ [(0:UInt8),0,0,0]++n).length=h.length+4+n.length:=by simp;omega
 rw [←e]
 generalize hm:Tg.Un.maskL true (h++ [(0:UInt8),0,0,0]++n).length=M at*
 have h5: ∀H:LH,LC Tryz.prog EJ 313 [.int .i64 (h++ [(0:UInt8),0,0,0]++n).length,.bool true] H=some (str M,H):=h3
 simp at h5
 simp [h5,q1,q2,q3,q4,q5,q6,lfill_p3]
end
end Go.Proofs.YtjplaockjmhnjaaGreatDoor
namespace Tg.Un
def med0:Pat:=⟨[70,79,82,77,0,0,0,0,65,73,70,70],[255,255,255,255,0,0,0,0,255,255,255,255],[],[97,117,100,105,111,47,97,105,102,102]⟩
def med1:Pat:=⟨[73,68,51],[255,255,255],[],[97,117,100,105,111,47,109,112,101,103]⟩
def med2:Pat:=⟨[79,103,103,83,0],[255,255,255,255,255],[],[97,112,112,108,105,99,97,116,105,111,110,47,111,103,103]⟩
def med3:Pat:=⟨[77,84,104,100,0,0,0,6],[255,255,255,255,255,255,255,255],[],[97,117,100,105,111,47,109,105,100,105]⟩
def med4:Pat:=⟨[82,73,70,70,0,0,0,0,65,86,73,32],[255,255,255,255,0,0,0,0,255,255,255,255],[],[118,105,100,101,111,47,97,118,105]⟩
def med5:Pat:=⟨[82,73,70,70,0,0,0,0,87,65,86,69],[255,255,255,255,0,0,0,0,255,255,255,255],[],[97,117,100,105,111,47,119,97,118,101]⟩
theorem mediaL_is:mediaL= [med0,med1,med2,med3,med4,med5]:=rfl
end Tg.Un
namespace Go.Proofs.YtjplaockjmhnjaaGreatDoor
open Go.Lg Go.Tg
section
variable {H:LH} {s:List UInt8}
theorem pats_run {yc:YC} {I:LH→Prop} {D:List UInt8→LH→Prop} {Q:PQ}
  (hround: ∀p Hc,I Hc→ ∃j H1,R Tryz.prog EPu (.run none 1 yc.fn [.code yc.assign,.beginRound,.code yc.body] (setL yc.fr (yc.params.zip [pv p])) Hc none (.jump j) H1 none)∧((Tg.Un.hits p s=false∧j=none∧I H1)∨(Tg.Un.hits p s=true∧j=some .ret∧D p.t H1)))
  (hp1:yc.params.length=1) (hpN: ∀d∈yc.params,d<yc.fn.ntmps) (hI:I H) (hq1: ∀H1 v,Tg.Un.typeOf s Tg.Un.mediaL= []→I H1→Q (.ret v) H1 none) (hq2: ∀H1 v,D (Tg.Un.typeOf s Tg.Un.mediaL) H1→Q (.ret v) H1 (some .ret)):
  ∃gc,fnOk Tryz.prog EPu 304 Tryz.f304 gc [tok yc.l]∧PR Tryz.prog EPu (some yc) 0 Tryz.f304 [.code gc] (enter [tok yc.l]) H none Q:=by
 refine⟨_,⟨Tryz.func304,rfl,Nat.le_of_ble_eq_true rfl,by decide,by kernel_rfl⟩,?_⟩
 rw [Tg.Un.mediaL_is]at hq1 hq2
 have b0: ∀H:LH,LC Tryz.prog EJ 305 [str [70,79,82,77],str [65,73,70,70],str [97,117,100,105,111,47,97,105,102,102]] H=some (pv Tg.Un.med0,H):=fun H=>boxed_cl (by decide) (by decide)
 have b1: ∀H:LH,LC Tryz.prog EJ 306 [str [73,68,51],str [97,117,100,105,111,47,109,112,101,103]] H=some (pv Tg.Un.med1,H):=fun H=>plain_cl (by decide)
 have b2: ∀H:LH,LC Tryz.prog EJ 306 [str [79,103,103,83,0],str [97,112,112,108,105,99,97,116,105,111,110,47,111,103,103]] H=some (pv Tg.Un.med2,H):=fun H=>plain_cl (by decide)
 have b3: ∀H:LH,LC Tryz.prog EJ 306 [str [77,84,104,100,0,0,0,6],str [97,117,100,105,111,47,109,105,100,105]] H=some (pv Tg.Un.med3,H):=fun H=>plain_cl (by decide)
 have b4: ∀H:LH,LC Tryz.prog EJ 305 [str [82,73,70,70],str [65,86,73,32],str [118,105,100,101,111,47,97,118,105]] H=some (pv Tg.Un.med4,H):=fun H=>boxed_cl (by decide) (by decide)
 have b5: ∀H:LH,LC Tryz.prog EJ 305 [str [82,73,70,70],str [87,65,86,69],str [97,117,100,105,111,47,119,97,118,101]] H=some (pv Tg.Un.med5,H):=fun H=>boxed_cl (by decide) (by decide)
 simp [b0]
 obtain⟨j0,H0,r0,c0⟩:=hround Tg.Un.med0 H hI
 refine hand_yield (yc:=yc) (j:=j0) (H1:=H0) ?_ rfl ?_ ?_ hpN (by simpa using r0) rfl ?_
 ·first|rfl|(rw [lwant_x];simp)
 ·simp
 ·exact hp1.symm
 rcases c0 with⟨h0,rfl,I0⟩|⟨h0,rfl,D0⟩
 rotate_left
 ·simp
  have e:Tg.Un.typeOf s [Tg.Un.med0,Tg.Un.med1,Tg.Un.med2,Tg.Un.med3,Tg.Un.med4,Tg.Un.med5]=Tg.Un.med0.t:=by simp only [Tg.Un.typeOf,h0,Bool.false_eq_true,if_true,if_false]
  exact hq2 _ _ (by rw [e];exact D0)
 simp [b1]
 obtain⟨j1,H1,r1,c1⟩:=hround Tg.Un.med1 H0 I0
 refine hand_yield (yc:=yc) (j:=j1) (H1:=H1) ?_ rfl ?_ ?_ hpN (by simpa using r1) rfl ?_
 ·first|rfl|(rw [lwant_x];simp)
 ·simp
 ·exact hp1.symm
 rcases c1 with⟨h1,rfl,I1⟩|⟨h1,rfl,D1⟩
 rotate_left
 ·simp
  have e:Tg.Un.typeOf s [Tg.Un.med0,Tg.Un.med1,Tg.Un.med2,Tg.Un.med3,Tg.Un.med4,Tg.Un.med5]=Tg.Un.med1.t:=by simp only [Tg.Un.typeOf,h0,h1,Bool.false_eq_true,if_true,if_false]
  exact hq2 _ _ (by rw [e];exact D1)
 simp [b2]
 obtain⟨j2,H2,r2,c2⟩:=hround Tg.Un.med2 H1 I1
 refine hand_yield (yc:=yc) (j:=j2) (H1:=H2) ?_ rfl ?_ ?_ hpN (by simpa using r2) rfl ?_
 ·first|rfl|(rw [lwant_x];simp)
 ·simp
 ·exact hp1.symm
 rcases c2 with⟨h2,rfl,I2⟩|⟨h2,rfl,D2⟩
 rotate_left
 ·simp
  have e:Tg.Un.typeOf s [Tg.Un.med0,Tg.Un.med1,Tg.Un.med2,Tg.Un.med3,Tg.Un.med4,Tg.Un.med5]=Tg.Un.med2.t:=by simp only [Tg.Un.typeOf,h0,h1,h2,Bool.false_eq_true,if_true,if_false]
  exact hq2 _ _ (by rw [e];exact D2)
 simp [b3]
 obtain⟨j3,H3,r3,c3⟩:=hround Tg.Un.med3 H2 I2
 refine hand_yield (yc:=yc) (j:=j3) (H1:=H3) ?_ rfl ?_ ?_ hpN (by simpa using r3) rfl ?_
 ·first|rfl|(rw [lwant_x];simp)
 ·simp
 ·exact hp1.symm
 rcases c3 with⟨h3,rfl,I3⟩|⟨h3,rfl,D3⟩
 rotate_left
 ·simp
  have e:Tg.Un.typeOf s [Tg.Un.med0,Tg.Un.med1,Tg.Un.med2,Tg.Un.med3,Tg.Un.med4,Tg.Un.med5]=Tg.Un.med3.t:=by simp only [Tg.Un.typeOf,h0,h1,h2,h3,Bool.false_eq_true,if_true,if_false]
  exact hq2 _ _ (by rw [e];exact D3)
 simp [b4]
 obtain⟨j4,H4,r4,c4⟩:=hround Tg.Un.med4 H3 I3
 refine hand_yield (yc:=yc) (j:=j4) (H1:=H4) ?_ rfl ?_ ?_ hpN (by simpa using r4) rfl ?_
 ·first|rfl|(rw [lwant_x];simp)
 ·simp
 ·exact hp1.symm
 rcases c4 with⟨h4,rfl,I4⟩|⟨h4,rfl,D4⟩
 rotate_left
 ·simp
  have e:Tg.Un.typeOf s [Tg.Un.med0,Tg.Un.med1,Tg.Un.med2,Tg.Un.med3,Tg.Un.med4,Tg.Un.med5]=Tg.Un.med4.t:=by simp only [Tg.Un.typeOf,h0,h1,h2,h3,h4,Bool.false_eq_true,if_true,if_false]
  exact hq2 _ _ (by rw [e];exact D4)
 simp [b5]
 obtain⟨j5,H5,r5,c5⟩:=hround Tg.Un.med5 H4 I4
 refine hand_yield (yc:=yc) (j:=j5) (H1:=H5) ?_ rfl ?_ ?_ hpN (by simpa using r5) rfl ?_
 ·first|rfl|(rw [lwant_x];simp)
 ·simp
 ·exact hp1.symm
 rcases c5 with⟨h5,rfl,I5⟩|⟨h5,rfl,D5⟩
 rotate_left
 ·simp
  have e:Tg.Un.typeOf s [Tg.Un.med0,Tg.Un.med1,Tg.Un.med2,Tg.Un.med3,Tg.Un.med4,Tg.Un.med5]=Tg.Un.med5.t:=by simp only [Tg.Un.typeOf,h0,h1,h2,h3,h4,h5,Bool.false_eq_true,if_true,if_false]
  exact hq2 _ _ (by rw [e];exact D5)
 simp
 exact hq1 _ _ (by simp only [Tg.Un.typeOf,h0,h1,h2,h3,h4,h5,Bool.false_eq_true,if_false]) I5
theorem patterns_l:LC Tryz.prog EJ 288 [] H=some (.func (.func 304) #[] #[],H):=by
 refine LC_pure rfl Tryz.func288 rfl (Nat.le_of_ble_eq_true rfl) (by decide) (by kernel_rfl) rfl ?_
 simp
end
section
variable {H:LH} {s:List UInt8} {l:Nat}
theorem pr_again {P:Program} {E:PEnv} {Y:Option YC} {rd:Nat} {fn:Func} {k:List Item} {fr:Fr} {H:LH} {p:Option Code} {Q:PQ} {St:Type} (Rl:St→Fr→LH→Prop) (μ:St→Nat) (st:St) (h:Rl st fr H)
  (step: ∀st fr H,Rl st fr H→(∀st' fr' H',μ st'<μ st→Rl st' fr' H'→PR P E Y rd fn k fr' H' p Q)→PR P E Y rd fn k fr H p Q):PR P E Y rd fn k fr H p Q:=by
 have key: ∀m st fr H,μ st<m→Rl st fr H→PR P E Y rd fn k fr H p Q:=by
  intro m
  induction m with
  |zero=>intro st fr H hm;omega
  |succ m ih=>intro st fr H hm hR;exact step st fr H hR (fun st' fr' H' hlt hR'=>ih st' fr' H' (by omega) hR')
 exact key (μ st+1) st fr H (Nat.lt_succ_self _) h
theorem webm_r (hs:s.length≤1000000):R Tryz.prog EPu (.call 238 [str s] H (.ret (.bool (Tg.Un.webm s))) H):=by
 have hb:=fun H:LH=>wbegins_cl (H:=H) (s:=s)
 refine pcall_flat Tryz.func238 rfl (Nat.le_of_ble_eq_true rfl) (by decide) (by kernel_rfl) rfl ?_
 unfold Tg.Un.webm
 cases h:Tg.Un.pre s Tg.Un.mark with
 |false=>rw [h]at hb;simp [hb]
 |true=>
  rw [h]at hb
  obtain⟨x,hx⟩: ∃x,x=Tg.Un.webmAt s 38 4:=⟨_,rfl⟩
  rw [←hx]
  simp [hb,-pr_label]
  rw [pr_label]
  simp only [pr_seq]
  refine pr_again (St:=Nat×Nat) (fun st fr' H'=>fr' 0=str s∧fr' 3=.int .i64 st.1∧H'=H∧x=Tg.Un.webmAt s st.2 st.1∧38≤st.1+st.2) (fun st=>38-st.1) (4,38) ⟨by simp,by simp,rfl,hx,by decide⟩ ?_
  rintro⟨a,n⟩ fr' H' ⟨g0,g3,rfl,he,hf⟩ ih
  simp only at g3 he hf ih
  by_cases c1:s.length≤a∨38≤a
  ·have he:x=false:=by
    rw [he]
    cases n with
    |zero=>rfl
    |succ n=>unfold Tg.Un.webmAt;rw [if_pos c1]
   subst he
   by_cases c2:s.length≤a
   ·have q1:=eq_true (show(s.length:Int)≤(a:Int) by omega)
    simp [g0,g3,q1,c2,-pr_goto]
   ·have q1:=eq_false (show¬(s.length:Int)≤(a:Int) by omega)
    have q2:=eq_true (show(38:Int)≤(a:Int) by omega)
    simp [g0,g3,q1,q2,c2,-pr_goto]
  ·obtain⟨n,rfl⟩: ∃m,n=m+1:=⟨n-1,by omega⟩
   unfold Tg.Un.webmAt at he
   rw [if_neg c1]at he
   have q1:=eq_false (show¬(s.length:Int)≤(a:Int) by omega)
   have q2:=eq_false (show¬(38:Int)≤(a:Int) by omega)
   have q3:=eq_true (show(a:Int)≤(s.length:Int) by omega)
   have q4:=eq_true (show(0:Int)≤(a:Int) by omega)
   have hp:=Tg.Un.pre_eq (s.drop a) [66,130]
   have w1:IntKind.i64.wrap ((a:Int)+1)=((a+1:Nat):Int):=by rw [wrapI (by omega) (by omega)];omega
   cases hpre:Tg.Un.pre (s.drop a) [66,130]with
   |false=>
    rw [hpre]at hp he
    rw [if_neg (by simp)]at he
    simp [g0,g3,q1,q2,q3,q4,hp,-pr_goto]
    rw [pr_goto]
    simp only [gotoIn,findLabel,beq_self_eq_true,if_true,pgoto_some,pr_seq,pr_skip]
    refine ih (a+1,n) _ _ (by simp only;omega) ⟨?_,?_,rfl,he,by simp only;omega⟩
    ·simp [g0]
    ·simp [w1]
   |true=>
    rw [hpre]at hp he
    rw [if_pos rfl]at he
    have w2:IntKind.i64.wrap ((a:Int)+2)=((a+2:Nat):Int):=by rw [wrapI (by omega) (by omega)];omega
    by_cases c3:s.length≤a+2
    ·rw [if_pos c3]at he
     have q5:=eq_true (show(s.length:Int)≤((a+2:Nat):Int) by omega)
     generalize ((a+2:Nat):Int)=A2 at*
     simp [g0,g3,q1,q2,q3,q4,hp,w2,q5,he,-pr_goto]
    ·rw [if_neg c3]at he
     have hlt:a+2<s.length:=by omega
     have hat:at_ s ((a+2:Nat):Int)=s[a+2]:=at_in hlt
     have hgd:s.getD (a+2) 0=s[a+2]:=by rw [List.getD_eq_getElem?_getD,List.getElem?_eq_getElem hlt];rfl
     rw [hgd]at he
     have hW:=fun H:LH=>width_cl (H:=H) (c:=s[a+2])
     have hw8:Tg.Un.width s[a+2]≤8:=by
      unfold Tg.Un.width
      repeat (first|omega|split)
     generalize s[a+2]=c at*
     generalize Tg.Un.width c=w at*
     have q5:=eq_false (show¬(s.length:Int)≤((a+2:Nat):Int) by omega)
     have q6:=eq_true (show((a+2:Nat):Int)<(s.length:Int) by omega)
     have q7:=eq_true (show(0:Int)≤((a+2:Nat):Int) by omega)
     have w3:IntKind.i64.wrap (((a+2:Nat):Int)+(w:Int))=((a+2+w:Nat):Int):=by rw [wrapI (by omega) (by omega)];omega
     have w4:IntKind.i64.wrap ((s.length:Int)-4)=(s.length:Int)-4:=wrapI (by omega) (by omega)
     by_cases c4:s.length≤a+2+w+4
     ·rw [if_pos c4]at he
      have q8:=eq_true (show(s.length:Int)-4≤((a+2+w:Nat):Int) by omega)
      generalize ((a+2+w:Nat):Int)=A3 at*
      generalize ((a+2:Nat):Int)=A2 at*
      simp [g0,g3,q1,q2,q3,q4,hp,w2,q5,q6,q7,hat,hW,w3,w4,q8,he,-pr_goto]
     ·rw [if_neg c4]at he
      have q8:=eq_false (show¬(s.length:Int)-4≤((a+2+w:Nat):Int) by omega)
      have q9:=eq_true (show((a+2+w:Nat):Int)≤(s.length:Int) by omega)
      have q10:=eq_true (show(0:Int)≤((a+2+w:Nat):Int) by omega)
      have hd:s.drop (((a+2+w:Nat):Int)).toNat=s.drop (a+2+w):=by rw [Int.toNat_natCast]
      have hP:=fun H:LH=>pad_cl (H:=H) (s:=s.drop (a+2+w)) (by rw [List.length_drop];omega)
      have w5:IntKind.i64.wrap (((a+2+w:Nat):Int)+1)=((a+2+w+1:Nat):Int):=by rw [wrapI (by omega) (by omega)];omega
      cases hpd:Tg.Un.padded (s.drop (a+2+w))with
      |true=>
       rw [hpd]at hP he
       rw [if_pos rfl]at he
       generalize ((a+2+w:Nat):Int)=A3 at*
       generalize ((a+2:Nat):Int)=A2 at*
       simp [g0,g3,q1,q2,q3,q4,hp,w2,q5,q6,q7,hat,hW,w3,w4,q8,q9,q10,hd,hP,he,-pr_goto]
      |false=>
       rw [hpd]at hP he
       rw [if_neg (by simp)]at he
       generalize ((a+2+w:Nat):Int)=A3 at*
       generalize ((a+2:Nat):Int)=A2 at*
       simp [g0,g3,q1,q2,q3,q4,hp,w2,q5,q6,q7,hat,hW,w3,w4,q8,q9,q10,hd,hP,-pr_goto]
       rw [pr_goto]
       simp only [gotoIn,findLabel,beq_self_eq_true,if_true,pgoto_some,pr_seq,pr_skip]
       refine ih (a+2+w+1,n) _ _ (by simp only;omega) ⟨?_,?_,rfl,he,by simp only;omega⟩
       ·simp [g0]
       ·simp [w5]
end
end Go.Proofs.YtjplaockjmhnjaaGreatDoor
namespace Tg.Un
theorem orS_eq: ∀l:List (List UInt8),orS l=or_ l
 | []=>rfl
 |s::l=>by unfold orS or_;rw [orS_eq l]
end Tg.Un
namespace Go.Proofs.YtjplaockjmhnjaaGreatDoor
open Go.Lg Go.Tg
section
variable {H:LH} {s:List UInt8}
theorem mkind_r (hs:s.length≤1000000):R Tryz.prog EPu (.call 264 [str s] H (.ret (str (Tg.Un.typeOf s Tg.Un.mediaL))) H):=by
 have hp:=fun H:LH=>patterns_l (H:=H)
 refine pcall_flat Tryz.func264 rfl (Nat.le_of_ble_eq_true rfl) (by decide) (by kernel_rfl) rfl ?_
 simp [hp]
 refine pr_rangeE (g:=304) (gfn:=Tryz.f304) (caps:=#[]) ?_ ?_
 ·simp
 refine pats_run (s:=s) (I:=fun Hc=>Hc.get H.n=some ⟨[str s],9,true⟩∧Hc.get (H.n+1)=some ⟨[str []],9,true⟩∧H.n+2≤Hc.n∧ ∀k,k<H.n→Hc.get k=H.get k) (D:=fun t Hc=>Hc.get (H.n+1)=some ⟨[str t],9,true⟩∧H.n≤Hc.n∧ ∀k,k<H.n→Hc.get k=H.get k) ?_ rfl ?_ ?_ ?_ ?_
 ·rintro p Hc ⟨i1,i2,i3,i4⟩
  have hM:=fun H:LH=>Match_cl (H:=H) (s:=s) (p:=p) (by omega)
  have d1:(H.n=Hc.n)=False:=eq_false (by omega)
  have d2:(H.n+1=Hc.n)=False:=eq_false (by omega)
  refine round_of ?_
  simp [setL]
  refine pr_begin ?_
  cases hh:Tg.Un.hits p s with
  |false=>
   rw [hh]at hM
   simp [i1,i2,d1,d2,hM]
   exact⟨by omega,fun k hk=>by rw [get_new_ne (by omega)];exact i4 k hk⟩
  |true=>
   rw [hh]at hM
   simp [i1,i2,d1,d2,hM]
   exact⟨by omega,fun k hk=>by rw [get_set_ne (by omega),get_new_ne (by omega)];exact i4 k hk⟩
 ·intro d hd
  simp at hd
  subst hd
  exact of_decide_eq_true rfl
 ·refine⟨?_,?_,?_,fun k hk=>?_⟩
  ·show((H.new _).new _).get H.n=_
   rw [get_new_ne (by simp),get_new]
  ·show((H.new _).new _).get (H.n+1)=_
   rw [show H.n+1=(H.new ⟨[str s],9,true⟩).n from rfl,get_new]
  ·show H.n+2≤((H.new _).new _).n+1
   simp only [n_new];omega
  ·show((H.new _).new _).get k=_
   rw [get_new_ne (by simp only [n_new];omega),get_new_ne (by omega)]
 ·rintro H1 v e ⟨i1,i2,i3,i4⟩
  refine⟨⟨v,rfl⟩,?_⟩
  rw [e]
  simp [i2]
  exact⟨by omega,fun k hk=>i4 k hk⟩
 ·rintro H1 v ⟨i1,i2,i3⟩
  refine⟨⟨v,rfl⟩,?_⟩
  simp [i1]
  exact⟨i2,fun k hk=>i3 k hk⟩
theorem mtype_r (hs:s.length≤1000000):R Tryz.prog EPu (.call 235 [str s] H (.ret (str (Tg.Un.typeOf s Tg.Un.mediaL))) H):=by
 have h1:=mkind_r (H:=H) hs
 refine pcall_flat Tryz.func235 rfl (Nat.le_of_ble_eq_true rfl) (by decide) (by kernel_rfl) rfl ?_
 simp
 refine hand_call_ret (g:=264) (first:=#[]) (caps:=#[]) (H1:=H) rfl rfl rfl (by simp) (by simpa using h1) rfl ?_
 simp
theorem bsS {n:Nat} {ps:List (Nat×Value)} (h1:n=ps.length) (h2:n≤65536) (h3:denseB ps 0=true):lbuildSlice Tryz.prog 60 n ps H=some (sl H.n n n,H.new ⟨ps.map Prod.snd,9,true⟩):=lbs_dense (z:=str []) Tryz.underlying60 (by kernel_rfl) (by kernel_rfl) rfl rfl h1 h2 h3
theorem or_at {xs:List (List UInt8)} {n:Nat} (hn:n=xs.length) (hl:n≤1000):LC Tryz.prog EJ 234 [sl H.n n n] (H.new ⟨xs.map str,9,true⟩)=some (str (Tg.Un.orS xs),H.new ⟨xs.map str,9,true⟩):=by
 subst hn
 rw [Tg.Un.orS_eq]
 exact or_cl (SRow.of (k:=H.n) (c:=xs.length) (rest:= []) (by rw [get_new,List.append_nil]) (Nat.lt_succ_self _)) (by omega)
theorem film_r (hs:s.length≤1000000):R Tryz.prog EPu (.call 204 [str s] H (.ret (str (Tg.Un.film s))) H):=by
 have h1:=mtype_r (H:=H) hs
 have h2:=mp4_r (H:=H) hs
 have h3:=webm_r (H:=H) hs
 have h4:=fun H:LH=>mp3_cl (H:=H) (s:=s) (by omega)
 have h5:=fun(H:LH) (s:List UInt8) (b:Bool)=>named_cl (H:=H) (s:=s) (b:=b)
 have h6:=or_at (H:=H) (n:=4) (xs:= [Tg.Un.typeOf s Tg.Un.mediaL,if Tg.Un.mp4 s=true then [118,105,100,101,111,47,109,112,52]else [],if Tg.Un.webm s=true then [118,105,100,101,111,47,119,101,98,109]else [],if Tg.Un.mp3 s=true then [97,117,100,105,111,47,109,112,101,103]else []]) rfl (by decide)
 have e:Tg.Un.orS [Tg.Un.typeOf s Tg.Un.mediaL,if Tg.Un.mp4 s=true then [118,105,100,101,111,47,109,112,52]else [],if Tg.Un.webm s=true then [118,105,100,101,111,47,119,101,98,109]else [],if Tg.Un.mp3 s=true then [97,117,100,105,111,47,109,112,101,103]else []]=Tg.Un.film s:=rfl
 rw [e]at h6
 clear e
 generalize Tg.Un.film s=res at*
 generalize hx1:(if Tg.Un.mp4 s=true then [118,105,100,101,111,47,109,112,52]else([]:List UInt8))=x1 at*
 generalize hx2:(if Tg.Un.webm s=true then [118,105,100,101,111,47,119,101,98,109]else([]:List UInt8))=x2 at*
 generalize hx3:(if Tg.Un.mp3 s=true then [97,117,100,105,111,47,109,112,101,103]else([]:List UInt8))=x3 at*
 simp only [List.map_cons,List.map_nil]at h6
 refine pcall_flat Tryz.func204 rfl (Nat.le_of_ble_eq_true rfl) (by decide) (by kernel_rfl) rfl ?_
 simp
 refine hand_call_ret (g:=235) (first:=#[]) (caps:=#[]) (H1:=H) rfl rfl rfl (by simp) (by simpa using h1) rfl ?_
 simp
 refine hand_call_ret (g:=237) (first:=#[]) (caps:=#[]) (H1:=H) rfl rfl rfl (by simp) (by simpa using h2) rfl ?_
 simp [h5,hx1]
 refine hand_call_ret (g:=238) (first:=#[]) (caps:=#[]) (H1:=H) rfl rfl rfl (by simp) (by simpa using h3) rfl ?_
 simp [h5,hx2,h4,hx3,bsS,denseB,h6]
theorem Media_r (hs:s.length≤1000000):R Tryz.prog EPu (.call 167 [str s] H (.ret (str (Tg.Un.film s))) H):=by
 have h1:=film_r (H:=H) hs
 refine pcall_flat Tryz.func167 rfl (Nat.le_of_ble_eq_true rfl) (by decide) (by kernel_rfl) rfl ?_
 simp
 refine hand_call_ret (g:=204) (first:=#[]) (caps:=#[]) (H1:=H) rfl rfl rfl (by simp) (by simpa using h1) rfl ?_
 simp
end
section
variable {H:LH} {s t l:List UInt8}
theorem rmedia_cl (hs:s.length≤1000000):LC Tryz.prog EJ 29 [str s] H=some (str (Tg.Un.film s),H):=by
 refine LC_pure rfl Tryz.func29 rfl (Nat.le_of_ble_eq_true rfl) (by decide) (by kernel_rfl) rfl ?_
 have h1:=fun H:LH=>rmedia_l (H:=H)
 have h2:=rtype_cl (s:=s) (prow_l (H:=H) (l:=Tg.Un.mediaL) (n:=6) rfl) (by decide) (by omega) (by decide)
 have h3:=fun H:LH=>ris16_cl (H:=H) (s:=s) hs
 have h4:=fun H:LH=>ris17_cl (H:=H) (s:=s) hs
 have h5:=fun H:LH=>ris18_cl (H:=H) (s:=s) (by omega)
 have ef:Tg.Un.film s=if Tg.Un.typeOf s Tg.Un.mediaL= []then(if Tg.Un.mp4 s=true then Tg.Un.vmp4 else if Tg.Un.webm s=true then Tg.Un.vwebm else if Tg.Un.mp3 s=true then Tg.Un.ampeg else [])else Tg.Un.typeOf s Tg.Un.mediaL:=by
  unfold Tg.Un.film
  cases Tg.Un.mp4 s<;>cases Tg.Un.webm s<;>cases Tg.Un.mp3 s<;>simp [Tg.Un.orS,Tg.Un.vmp4,Tg.Un.vwebm,Tg.Un.ampeg]
 rw [ef]
 generalize Tg.Un.typeOf s Tg.Un.mediaL=T at*
 by_cases hT:T= []
 ·subst hT
  rw [if_pos rfl]
  cases a1:Tg.Un.mp4 s with
  |true=>rw [a1]at h3;simp [h1,h2,h3,Tg.Un.vmp4]
  |false=>
   rw [a1]at h3
   cases a2:Tg.Un.webm s with
   |true=>rw [a2]at h4;simp [h1,h2,h3,h4,Tg.Un.vwebm]
   |false=>
    rw [a2]at h4
    cases a3:Tg.Un.mp3 s with
    |true=>rw [a3]at h5;simp [h1,h2,h3,h4,h5,Tg.Un.ampeg]
    |false=>rw [a3]at h5;simp [h1,h2,h3,h4,h5]
 ·rw [if_neg hT]
  simp [h1,h2,hT]
end
end Go.Proofs.YtjplaockjmhnjaaGreatDoor
namespace Tg.Sn
def plainT:List UInt8:= [116,101,120,116,47,112,108,97,105,110]
def setT:List UInt8:= [116,101,120,116,47,112,108,97,105,110,59,32,99,104,97,114,115,101,116,61]
def setsL:List (List UInt8):= [[73,83,79,45,56,56,53,57,45,49],[105,115,111,45,56,56,53,57,45,49],[85,84,70,45,56]]
def bug (s:List UInt8):Bool:=decide (s=plainT)||setsL.any fun t=>decide (s=setT++t)
end Tg.Sn
namespace Go.Proofs.YtjplaockjmhnjaaGreatDoor
open Go.Lg Go.Tg
section
variable {H:LH} {s:List UInt8}
theorem bug_cl:LC Tryz.prog EJ 71 [str s] H=some (.bool (Tg.Sn.bug s),H):=by
 refine LC_pure rfl Tryz.func71 rfl (Nat.le_of_ble_eq_true rfl) (by decide) (by kernel_rfl) rfl ?_
 unfold Tg.Sn.bug
 by_cases h0:s= [116,101,120,116,47,112,108,97,105,110]
 ·have e:decide (s=Tg.Sn.plainT)=true:=decide_eq_true h0
  rw [e,Bool.true_or]
  simp [h0]
 ·have e:decide (s=Tg.Sn.plainT)=false:=decide_eq_false h0
  rw [e,Bool.false_or]
  obtain⟨x,hx⟩: ∃x,x=Tg.Sn.setsL.any fun t=>decide (s=Tg.Sn.setT++t):=⟨_,rfl⟩
  rw [←hx]
  have hr:SRow (H.new ⟨Tg.Sn.setsL.map str,9,true⟩) (sl H.n 3 3) Tg.Sn.setsL:=SRow.of (k:=H.n) (c:=3) (rest:= []) (by rw [get_new,List.append_nil]) (Nat.lt_succ_self _)
  have hl: ∀x∈Tg.Sn.setsL,x.length≤100:=by decide
  have hm:Tg.Sn.setsL.map str= [str [73,83,79,45,56,56,53,57,45,49],str [105,115,111,45,56,56,53,57,45,49],str [85,84,70,45,56]]:=rfl
  rw [hm]at hr
  simp [h0,bsS,denseB]
  refine loop_ind (fun(i:Nat) fr' H'=>fr' 0=str s∧fr' 7=sl H.n 3 3∧fr' 8=.int .i64 3∧fr' 9=.int .i64 i∧i≤3∧x=((Tg.Sn.setsL.drop i).any fun t=>decide (s=Tg.Sn.setT++t))∧H'=H.new ⟨[str [73,83,79,45,56,56,53,57,45,49],str [105,115,111,45,56,56,53,57,45,49],str [85,84,70,45,56]],9,true⟩) (fun i=>3-i) 0 ⟨by simp,by simp,by simp,by simp,Nat.zero_le _,hx,rfl⟩ ?_
  rintro i fr' H' ⟨g0,g7,g8,g9,hi,hc,rfl⟩ ih
  by_cases hlt:i<3
  ·have q:=eq_true (show(i:Int)<3 by omega)
   have hw:IntKind.i64.wrap ((i:Int)+1)=((i+1:Nat):Int):=by rw [wrapI (by omega) (by omega)];omega
   have hlt2:i<Tg.Sn.setsL.length:=hlt
   obtain⟨k2,o,e1,e2,e3⟩:=hr.at hlt2
   have e4:=e3 _ rfl
   have hal:=hl Tg.Sn.setsL[i] (List.getElem_mem hlt2)
   rw [List.drop_eq_getElem_cons hlt2,List.any_cons]at hc
   generalize Tg.Sn.setsL[i]=a at*
   have ha:Tg.Sn.setT++a= [116,101,120,116,47,112,108,97,105,110,59,32,99,104,97,114,115,101,116,61]++a:=rfl
   rw [ha]at hc
   have q1:=eq_true (show 20+a.length≤9223372036854775807 by omega)
   by_cases c1:s= [116,101,120,116,47,112,108,97,105,110,59,32,99,104,97,114,115,101,116,61]++a
   ·have hc:x=true:=by rw [hc,decide_eq_true c1];rfl
    have c2:=eq_true c1
    simp at c2
    clear ih
    subst hc
    simp [g0,g7,g8,g9,q,e1,e4,q1,c2]
   ·have hc:x=(Tg.Sn.setsL.drop (i+1)).any fun t=>decide (s=Tg.Sn.setT++t):=by rw [hc,decide_eq_false c1];rfl
    have c2:=eq_false c1
    simp at c2
    simp [g0,g7,g8,g9,q,e1,e4,q1,c2]
    refine ih (i+1) _ _ (by omega) ⟨?_,?_,?_,?_,by omega,hc,rfl⟩
    all_goals simp [g0,g7,g8,hw]
  ·have q:=eq_false (show¬(i:Int)<3 by omega)
   have hc:x=false:=by rw [hc,List.drop_of_length_le (by show 3≤i;omega)];rfl
   subst hc
   simp [g0,g7,g8,g9,q]
theorem picture_cl:LC Tryz.prog EJ 124 [str s] H=some (str (Tg.Un.typeOf (s.take 1445) Tg.Un.imageL),H):=by
 refine LC_pure rfl Tryz.func124 rfl (Nat.le_of_ble_eq_true rfl) (by decide) (by kernel_rfl) rfl ?_
 have h1:=fun H:LH=>bcut_cl (H:=H) (s:=s)
 have h2:=fun H:LH=>itype_cl (H:=H) (s:=s.take 1445) (by rw [List.length_take];omega)
 generalize s.take 1445=u at*
 simp [h1,h2]
theorem simage_cl:LC Tryz.prog EJ 85 [str s] H=some (str (Tg.Un.typeOf (s.take 1445) Tg.Un.imageL),H):=by
 refine LC_pure rfl Tryz.func85 rfl (Nat.le_of_ble_eq_true rfl) (by decide) (by kernel_rfl) rfl ?_
 have h1:=fun H:LH=>picture_cl (H:=H) (s:=s)
 simp [h1]
theorem rmedia21_cl:LC Tryz.prog EJ 13 [str s] H=some (str (Tg.Un.film (s.take 1445)),H):=by
 refine LC_pure rfl Tryz.func13 rfl (Nat.le_of_ble_eq_true rfl) (by decide) (by kernel_rfl) rfl ?_
 have h1:=fun H:LH=>rcut19_cl (H:=H) (s:=s)
 have h2:=fun H:LH=>rmedia_cl (H:=H) (s:=s.take 1445) (by rw [List.length_take];omega)
 generalize s.take 1445=u at*
 simp [h1,h2]
end
abbrev mv (a b:List UInt8):Value:=.agg #[str a,str b,.slice none 0 0]
section
variable {H:LH} {s t:List UInt8}
theorem contS_cl {v:Value} {xs:List (List UInt8)} {x:List UInt8} (hr:SRow H v xs) (hl:xs.length≤1000):LC Tryz.prog EJ 120 [v,str x] H=some (.bool (decide (x∈xs)),H):=by
 have hix: ∃i:Int,LC Tryz.prog EJ 163 [v,str x] H=some (.int .i64 i,H)∧(0≤i↔x∈xs):=by
  obtain⟨i,hi⟩: ∃i:Int,i=Tg.Un.idx (fun y=>decide (x=y)) xs 0:=⟨_,rfl⟩
  refine⟨i,?_,?_⟩
  ·refine LC_pure rfl Tryz.func163 rfl (Nat.le_of_ble_eq_true rfl) (by decide) (by kernel_rfl) rfl ?_
   simp [hr.len]
   refine loop_ind (fun(j:Nat) fr' H'=>fr' 0=v∧fr' 1=str x∧fr' 7=.int .i64 xs.length∧fr' 8=.int .i64 j∧j≤xs.length∧i=Tg.Un.idx (fun y=>decide (x=y)) (xs.drop j) j∧H'=H) (fun j=>xs.length-j) 0 ⟨by simp,by simp,by simp,by simp,Nat.zero_le _,hi,rfl⟩ ?_
   rintro j fr' H' ⟨h0,h1,h7,h8,hj,hc,rfl⟩ ih
   by_cases hlt:j<xs.length
   ·have q:=eq_true (show(j:Int)<(xs.length:Int) by omega)
    have hw:IntKind.i64.wrap ((j:Int)+1)=((j+1:Nat):Int):=by rw [wrapI (by omega) (by omega)];omega
    obtain⟨k2,o,g1,g2,g3⟩:=hr.at hlt
    have g4:=g3 H' rfl
    rw [List.drop_eq_getElem_cons hlt]at hc
    generalize xs[j]=a at*
    unfold Tg.Un.idx at hc
    by_cases hf:x=a
    ·rw [if_pos (decide_eq_true hf)]at hc
     subst hc
     simp [h0,h1,h7,h8,q,g1,g4,hf]
    ·rw [if_neg (by simp [hf])]at hc
     simp [h0,h1,h7,h8,q,g1,g4,hf]
     refine ih (j+1) _ _ (by omega) ⟨?_,?_,?_,?_,by omega,hc,rfl⟩
     all_goals simp [h0,h1,h7,hw]
   ·have q:=eq_false (show¬(j:Int)<(xs.length:Int) by omega)
    rw [List.drop_of_length_le (by omega)]at hc
    have hc:i= -1:=hc
    subst hc
    simp [h0,h1,h7,h8,q]
  ·have:=Tg.Un.idx_any (fun y=>decide (x=y)) xs 0
   rw [←hi]at this
   constructor
   ·intro h
    rw [decide_eq_true h]at this
    obtain⟨y,hy,e⟩:=List.any_eq_true.1 this.symm
    rw [of_decide_eq_true e];exact hy
   ·intro h
    have h2:xs.any (fun y=>decide (x=y))=true:=List.any_eq_true.2 ⟨x,h,by simp⟩
    rw [h2]at this
    exact of_decide_eq_true this
 obtain⟨i,h1,h2⟩:=hix
 refine LC_pure rfl Tryz.func120 rfl (Nat.le_of_ble_eq_true rfl) (by decide) (by kernel_rfl) rfl ?_
 by_cases h:x∈xs
 ·have q:=eq_true (h2.2 h)
  simp [h1,q,h]
 ·have q:=eq_false (fun e=>h (h2.1 e))
  simp [h1,q,h]
end
section
variable {H:LH} {u:List UInt8}
end
def Tab (H:LH):Prop:=0<H.ng∧Lib.TabIs Tryz.prog H.base "strings.asciiSpace" .u8 Lib.asciiSpaceTab
theorem tab_at {P:Program} {H:LH} {ι:Ren} {w:World} (hrel:Rel P H ι w) (h:Tab H):Lib.TabIs Tryz.prog w "strings.asciiSpace" .u8 Lib.asciiSpaceTab:=by
 have h2:=h.2
 unfold Lib.TabIs World.var? at h2⊢
 rw [show Tryz.prog.globalNamed "strings.asciiSpace" =some 0 by kernel_rfl]at h2⊢
 simp only [Option.bind_some]at h2⊢
 rw [pin_block hrel h.1]
 exact h2
open Classical in
noncomputable def specFields:Lg.Spec:=fun args H=>match args with
 | [.string s]=>if s.size<4294967281∧(∀(j:Nat) b,s.data.toList[j]?=some b→b.toNat<128)∧Tab H∧(Lib.fields s.data.toList).length≤maxLen then
   some (sl H.n (Lib.fields s.data.toList).length (Lib.fields s.data.toList).length,H.new ⟨(Lib.fields s.data.toList).map (fun l=>.string ⟨l.toArray⟩),9,true⟩)
  else none
 |_=>none
theorem ok_Fields:SpecOk Tryz.prog 121 specFields:=by
 intro args H v H' h
 refine .inl ⟨⟨_,Tryz.func121,rfl,by decide⟩,?_⟩
 unfold specFields at h
 split at h
 ·rename_i s
  split at h
  ·rename_i hc
   obtain⟨h1,h2,h3,h4⟩:=hc
   simp only [Option.some.injEq,Prod.mk.injEq]at h
   obtain⟨rfl,rfl⟩:=h
   exact callOk_row (flat1 rfl) (fun x hx=>by
    obtain⟨l,_,rfl⟩:=List.mem_map.1 hx
    rfl) (by kernel_rfl) (by simp) h4 (fun ι w hrel=>Tryz.strings_Fields s w h1 h2 (tab_at hrel h3))
  ·cases h
 ·cases h
end Go.Proofs.YtjplaockjmhnjaaGreatDoor
namespace Tg.Sn
open Tg.Un
def marksL:List (List UInt8):= [[239,187,191],[254,255],[255,254]]
def markOf (s:List UInt8):List (List UInt8)→Int
 | []=>0
 |p::l=>if pre s p=true then p.length else markOf s l
def mark (s:List UInt8):Int:=markOf s marksL
end Tg.Sn
namespace Go.Proofs.YtjplaockjmhnjaaGreatDoor
open Go.Lg Go.Tg
section
variable {H:LH} {s t:List UInt8}
end
section
variable {H:LH} {v w:Value}
end
end Go.Proofs.YtjplaockjmhnjaaGreatDoor
namespace Tg.Un
end Tg.Un
namespace Go.Proofs.YtjplaockjmhnjaaGreatDoor
open Go.Lg Go.Tg
section
variable {H:LH} {s:List UInt8}
end
end Go.Proofs.YtjplaockjmhnjaaGreatDoor
namespace Go.Lg
open Go.Tg Go.RowKit
structure Kp (p:Nat) (v:Value) (H:LH) (v':Value) (H':LH):Prop where
 n:H.n≤H'.n
 keep: ∀k,k<H.n→k≠p→offRow v k→H'.get k=H.get k
 off: ∀k,k<H.n→k≠p→offRow v k→offRow v' k
 base:H'.base=H.base
 ng:H'.ng=H.ng
section
variable {p:Nat} {v v' v1:Value} {H H' H1:LH} {B:LB}
theorem Kp.refl:Kp p v H v H:=⟨Nat.le_refl _,fun _ _ _ _=>rfl,fun _ _ _ h=>h,rfl,rfl⟩
theorem Kp.trans (h:Kp p v H v1 H1) (k:Kp p v1 H1 v' H'):Kp p v H v' H':=
 ⟨Nat.le_trans h.n k.n,fun l hl hp ho=>(k.keep l (Nat.lt_of_lt_of_le hl h.n) hp (h.off l hl hp ho)).trans (h.keep l hl hp ho),
  fun l hl hp ho=>k.off l (Nat.lt_of_lt_of_le hl h.n) hp (h.off l hl hp ho),k.base.trans h.base,k.ng.trans h.ng⟩
theorem Kp.set (ho: ∀k,offRow v k→offRow v' k):Kp p v H v' (H.set p B):=⟨Nat.le_refl _,fun _ _ hp _=>get_set_ne hp,fun k _ _ h=>ho k h,rfl,rfl⟩
theorem Kp.new:Kp p v H v (H.new B):=⟨Nat.le_succ _,fun _ hl _ _=>get_new_ne (by omega),fun _ _ _ h=>h,rfl,rfl⟩
theorem Kp.le (h:Kp p v H1 v' H') (hn:H.n≤H1.n) (hp:H.n≤p) (hv: ∀k,k<H.n→offRow v k) (hg: ∀k,k<H.n→H1.get k=H.get k):H.le H':=
 ⟨Nat.le_trans hn h.n,fun l hl=>(h.keep l (by omega) (by omega) (hv l hl)).trans (hg l hl)⟩
end
end Go.Lg
namespace Go.Proofs.YtjplaockjmhnjaaGreatDoor
open Go.Lg Go.Tg
structure Bld (N:Nat) (H:LH) (b:Nat) (l:List UInt8) (v:Value):Prop where
 get: ∃p,H.get b=some ⟨[p,v],157,true⟩∧(p=.pointer none∨p=ptr b 0)
 row:RowN N H 5 1 v l.length (l.map bv)
 full:Full v
 off:offRow v b
 lt:b<H.n
 N:N≤H.n
 nil:l= []→v=.slice none 0 0
section
variable {H:LH} {N b:Nat} {l s:List UInt8} {v:Value} {c:UInt8}
theorem copy_l (h:Bld N H b l v):LC Tryz.prog EJ 224 [ptr b 0] H=some (.tuple #[],H.set b ⟨[ptr b 0,v],157,true⟩)∨(H.get b=some ⟨[ptr b 0,v],157,true⟩∧LC Tryz.prog EJ 224 [ptr b 0] H=some (.tuple #[],H)):=by
 obtain⟨p,hg,hp⟩:=h.get
 rcases hp with rfl|rfl
 ·left
  refine LC_ext (s:=specCopy) rfl ?_
  unfold specCopy
  simp only [hg]
  rw [if_pos trivial]
 ·right
  refine⟨hg,LC_ext (s:=specCopy) rfl ?_⟩
  unfold specCopy
  simp only [hg]
  rw [if_pos trivial]
theorem copy_ex (h:Bld N H b l v): ∃H1,LC Tryz.prog EJ 224 [ptr b 0] H=some (.tuple #[],H1)∧H1.get b=some ⟨[ptr b 0,v],157,true⟩∧H1.n=H.n∧(∀k,k≠b→H1.get k=H.get k)∧H1.base=H.base∧H1.ng=H.ng:=by
 rcases copy_l h with e|⟨hg,e⟩
 ·exact⟨_,e,by simp,by simp,fun k hk=>get_set_ne hk,rfl,rfl⟩
 ·exact⟨_,e,hg,rfl,fun _ _=>rfl,rfl,rfl⟩
theorem row_other {H1:LH} {v:Value} {n:Nat} {xs:List Value} (h:RowN N H 5 1 v n xs) (ho:offRow v b) (hn:H1.n=H.n) (hk: ∀k,k≠b→H1.get k=H.get k):RowN N H1 5 1 v n xs:=by
 refine⟨h.1,?_⟩
 rcases h.2 with h2|⟨k,c,rest,rfl,h1,h2,h3,h4,h5⟩
 ·exact .inl h2
 ·refine .inr ⟨k,c,rest,rfl,h1,by omega,?_,h4,h5⟩
  rw [hk k (fun e=>ho n c (by rw [e]))];exact h3
theorem bv_cells (l:List UInt8):(l.map bv).all cellB=true:=by simp [bv]
theorem bld_trunc {H3:LH} {v' u:Value} {l':List UInt8} (h:Bld N H b l v) (h3:Bld N H3 b l' v') (hk:Kp b v H v' H3): ∃H4,trunc H (u,H3)=(u,H4)∧Bld N H4 b l' v'∧Kp b v H v' H4:=by
 rcases trunc_or u H H3 with e|⟨e,_,hle⟩
 ·exact⟨H3,e,h3,hk⟩
 ·refine⟨H,e,?_⟩
  obtain⟨p,hg,hp⟩:=h.get
  obtain⟨p',hg',hp'⟩:=h3.get
  rw [hle.2 b h.lt,hg]at hg'
  injection hg' with hg'
  injection hg' with hg'
  simp only [List.cons.injEq,and_true]at hg'
  obtain⟨rfl,rfl⟩:=hg'
  refine⟨⟨⟨p,hg,hp⟩,⟨h3.row.1,?_⟩,h.full,h.off,h.lt,h.N,h3.nil⟩,Kp.refl⟩
  rcases h3.row.2 with h2|⟨k,c,rest,rfl,g1,g2,g3,g4,g5⟩
  ·exact .inl h2
  ·have hkn:k<H.n:=by
    rcases h.row.2 with⟨h5,_⟩|⟨k',c',rest',h5,_,h6,_⟩
    ·cases h5
    ·injection h5 with h5;injection h5 with h5;injection h5 with h5;omega
   exact .inr ⟨k,c,rest,rfl,g1,hkn,by rw [←hle.2 k hkn];exact g3,g4,g5⟩
theorem wstr_ex (h:Bld N H b l v) (hlen:l.length+s.length≤maxElems):
  ∃v' H',LC Tryz.prog EJ 191 [ptr b 0,str s] H=some (.tuple #[.int .i64 s.length,.nilIface],H')∧Bld N H' b (l++s) v'∧Kp b v H v' H':=by
 obtain⟨H1,hc,hg1,hn1,hk1,hb1,hng1⟩:=copy_ex h
 have hrow1:=row_other h.row h.off hn1 hk1
 obtain⟨v',H2,ha,hr2,hkept,hf⟩:=hrow1.app (t:=35) (new:=s.map bv) (m:=s.length) Tryz.underlying35 (by kernel_rfl) (bv_cells s) (by simp) hlen (by rw [hn1];exact h.N) (.inr h.full)
 have hblt:b<H1.n:=by rw [hn1];exact h.lt
 have hg2:H2.get b=some ⟨[ptr b 0,v],157,true⟩:=by rw [hkept.get b hblt h.off];exact hg1
 have hap:lbuiltin Tryz.prog .append [35,9] [v,str s] H1=some (v',H2):=by
  rw [lbuiltin_appends (e:=5) (by decide) Tryz.underlying35 Tryz.underlying9 (by kernel_rfl) (by kernel_rfl) (by kernel_rfl)]
  exact ha
 have hcell:cellB v'=true:=hr2.cell
 have hoff':=hkept.off b hblt h.off
 obtain⟨r,hr,h1,h2⟩:=LC_runs (P:=Tryz.prog) (E:=EJ) (f:=191) rfl Tryz.func191 rfl (Nat.le_of_ble_eq_true rfl) (by decide) (by kernel_rfl) (H:=H) (args:= [ptr b 0,str s]) (Q:=fun r=>r.1=.tuple #[.int .i64 s.length,.nilIface]∧r.2=H2.set b ⟨[ptr b 0,v'],157,true⟩) (by
  simp [hc,hg1,hap,hg2,hcell])
 obtain⟨u,H3⟩:=r
 simp only at h1 h2
 subst h1 h2
 have hset:Bld N (H2.set b ⟨[ptr b 0,v'],157,true⟩) b (l++s) v':=by
  refine⟨⟨_,get_set,.inr rfl⟩,?_,hf h.full,hoff',Nat.lt_of_lt_of_le hblt hkept.le,?_,?_⟩
  ·have:=row_other (b:=b) (H1:=H2.set b ⟨[ptr b 0,v'],157,true⟩) hr2 hoff' rfl (fun k hk=>get_set_ne hk)
   rw [List.length_append,List.map_append];exact this
  ·exact Nat.le_trans h.N (by rw [←hn1];exact hkept.le)
  ·intro e
   obtain⟨e1,e2⟩:=List.append_eq_nil_iff.1 e
   have hv:=h.nil e1
   subst hv e2
   rw [List.map_nil,List.length_nil,lapp_nil0 (s:=1) Tryz.underlying35 (by kernel_rfl)]at ha
   simp only [Option.some.injEq,Prod.mk.injEq]at ha
   exact ha.1.symm
 have hkp:Kp b v H v' (H2.set b ⟨[ptr b 0,v'],157,true⟩):=by
  refine⟨by rw [←hn1];exact hkept.le,fun k hk hkb ho=>?_,fun k hk hkb ho=>hkept.off k (by omega) ho,by simp [hkept.base,hb1],by simp [hkept.ng,hng1]⟩
  rw [get_set_ne hkb,hkept.get k (by omega) ho,hk1 k hkb]
 obtain⟨H4,e1,e2,e3⟩:=bld_trunc h hset hkp
 exact⟨_,H4,by rw [hr,e1],e2,e3⟩
theorem wbyte_ex (h:Bld N H b l v) (hlen:l.length+1≤maxElems):
  ∃v' H',LC Tryz.prog EJ 225 [ptr b 0,.int .u8 c.toNat] H=some (.nilIface,H')∧Bld N H' b (l++ [c]) v'∧Kp b v H v' H':=by
 obtain⟨H1,hc,hg1,hn1,hk1,hb1,hng1⟩:=copy_ex h
 have hrow1:=row_other h.row h.off hn1 hk1
 have hblt:b<H1.n:=by rw [hn1];exact h.lt
 have hrow2:RowN N (H1.new ⟨[.int .u8 c.toNat],5,true⟩) 5 1 v l.length (l.map bv):=hrow1.keep (Nat.le_succ _) (fun k _ _ hk=>get_new_ne (by omega))
 obtain⟨v',H2,ha,hr2,hkept,hf⟩:=hrow2.app (t:=35) (new:= [c].map bv) (m:=1) Tryz.underlying35 (by kernel_rfl) (bv_cells [c]) (by simp) hlen (by rw [n_new,hn1];have:=h.N;omega) (.inr h.full)
 have hg2:H2.get b=some ⟨[ptr b 0,v],157,true⟩:=by rw [hkept.get b (by rw [n_new];omega) h.off,get_new_ne (by omega)];exact hg1
 simp only [List.map_cons,List.map_nil,bv]at ha
 have hcell:cellB v'=true:=hr2.cell
 have hoff':=hkept.off b (by rw [n_new];omega) h.off
 obtain⟨r,hr,h1,h2⟩:=LC_runs (P:=Tryz.prog) (E:=EJ) (f:=225) rfl Tryz.func225 rfl (Nat.le_of_ble_eq_true rfl) (by decide) (by kernel_rfl) (H:=H) (args:= [ptr b 0,.int .u8 c.toNat]) (Q:=fun r=>r.1=.nilIface∧r.2=H2.set b ⟨[ptr b 0,v'],157,true⟩) (by
  have hbn:b≠H1.n:=by omega
  simp [hc,hg1,ha,hg2,hcell,hbn])
 obtain⟨u,H3⟩:=r
 simp only at h1 h2
 subst h1 h2
 have hle2:H1.n+1≤H2.n:=hkept.le
 have hset:Bld N (H2.set b ⟨[ptr b 0,v'],157,true⟩) b (l++ [c]) v':=by
  refine⟨⟨_,get_set,.inr rfl⟩,?_,hf h.full,hoff',by rw [n_set];omega,?_,fun e=>by simp at e⟩
  ·have:=row_other (b:=b) (H1:=H2.set b ⟨[ptr b 0,v'],157,true⟩) hr2 hoff' rfl (fun k hk=>get_set_ne hk)
   rw [List.length_append,List.map_append];exact this
  ·have:=h.N;rw [n_set];omega
 have hkp:Kp b v H v' (H2.set b ⟨[ptr b 0,v'],157,true⟩):=by
  refine⟨by rw [n_set];omega,fun k hk hkb ho=>?_,fun k hk hkb ho=>hkept.off k (by rw [n_new];omega) ho,by simp [hkept.base,hb1],by simp [hkept.ng,hng1]⟩
  rw [get_set_ne hkb,hkept.get k (by rw [n_new];omega) ho,get_new_ne (by omega),hk1 k hkb]
 obtain⟨H4,e1,e2,e3⟩:=bld_trunc h hset hkp
 exact⟨_,H4,by rw [hr,e1],e2,e3⟩
end
end Go.Proofs.YtjplaockjmhnjaaGreatDoor
namespace Tg.Mi
def until_ (stops:List UInt8):List UInt8→Nat
 | []=>0
 |b::r=>if Go.Lib.indexByte stops b<0 then until_ stops r+1 else 0
theorem until_le (stops:List UInt8): ∀s:List UInt8,until_ stops s≤s.length
 | []=>by simp [until_]
 |b::r=>by
  have:=until_le stops r
  unfold until_
  split
  ·simp;omega
  ·omega
def while_ (f:UInt8→Bool):List UInt8→Nat
 | []=>0
 |b::r=>if f b=true then while_ f r+1 else 0
theorem while_le (f:UInt8→Bool): ∀s:List UInt8,while_ f s≤s.length
 | []=>by simp [while_]
 |b::r=>by
  have:=while_le f r
  unfold while_
  split
  ·simp;omega
  ·omega
end Tg.Mi
namespace Go.Proofs.YtjplaockjmhnjaaGreatDoor.Mi
open Go.Lg Go.Tg
abbrev cu (s:List UInt8) (i:Nat):LB:=⟨[str s,.int .i64 i],125,true⟩
section
variable {H H':LH} {s t:List UInt8} {l i n:Nat}
theorem wrapI {x:Int} (h1: -9223372036854775808≤x) (h2:x≤9223372036854775807):IntKind.i64.wrap x=x:=wrap64_in h1 h2
theorem at_in {s:List UInt8} {i:Nat} (h:i<s.length):at_ s (i:Int)=s[i]:=by
 unfold at_
 rw [show((i:Nat):Int).toNat=i by omega,List.getD_eq_getElem?_getD,List.getElem?_eq_getElem h];rfl
theorem trunc_no {v:Value} (h:flatB v=false):trunc H (v,H')=(v,H'):=by
 rcases trunc_or v H H' with e|⟨_,e,_⟩
 ·exact e
 ·rw [h]at e;cases e
theorem cset {v:Value} {f:FuncId} {args:List Value} (hk:H.get l=some (cu s i)) (hl:l<H.n) {j:Nat} {x:Int} (hx:x=(j:Int)) (h: ∃r,LC Tryz.prog EJ f args H=some (Lg.trunc H r)∧r=(v,H.set l ⟨[str s,.int .i64 x],125,true⟩)):LC Tryz.prog EJ f args H=some (v,H.set l (cu s j)):=by
 obtain⟨r,h,rfl⟩:=h
 subst hx
 rw [h,trunc_set hk hl]
theorem cur_fill:lfill Tryz.prog 125 [str [],.int .i64 0] [(0,str s)]=some [str s,.int .i64 0]:=by
 rw [lfill_cell (o:=0) (n:=1) (g:=false) (by kernel_rfl) rfl rfl (by decide)]
 exact lfill_nil (by kernel_rfl)
theorem cnew_k:LC Tryz.prog EJ 106 [str s] H=some (ptr H.n 0,H.new (cu s 0)):=by
 obtain⟨r,h,e⟩:=LC_runs (P:=Tryz.prog) (E:=EJ) (f:=106) rfl Tryz.func106 rfl (Nat.le_of_ble_eq_true rfl) (by decide) (by kernel_rfl) (H:=H) (args:= [str s]) (Q:=fun r=>r=(ptr H.n 0,H.new (cu s 0))) (by simp [cur_fill];rfl)
 rw [h,e,trunc_no (by simp [flatB,flat1B,atomB])]
theorem crest_k (hk:H.get l=some (cu s i)) (hi:i≤s.length):LC Tryz.prog EJ 180 [ptr l 0] H=some (str (s.drop i),H):=by
 refine LC_pure rfl Tryz.func180 rfl (Nat.le_of_ble_eq_true rfl) (by decide) (by kernel_rfl) rfl ?_
 have q:=eq_true (show(i:Int)≤(s.length:Int) by omega)
 simp [hk,q]
theorem crun_k (hk:H.get l=some (cu s i)) (hl:l<H.n) (hi:i+n≤s.length) (hs:s.length≤1000000):LC Tryz.prog EJ 181 [ptr l 0,.int .i64 n] H=some (str ((s.drop i).take n),H.set l (cu s (i+n))):=by
 refine cset (x:=(i:Int)+(n:Int)) hk hl rfl (LC_runs (P:=Tryz.prog) (E:=EJ) (f:=181) rfl Tryz.func181 rfl (Nat.le_of_ble_eq_true rfl) (by decide) (by kernel_rfl) ?_)
 have h1:=crest_k hk (by omega)
 have q:=eq_true (show(n:Int)≤((s.drop i).length:Int) by rw [List.length_drop];omega)
 have hw:IntKind.i64.wrap ((i:Int)+(n:Int))=(i:Int)+(n:Int):=wrapI (by omega) (by omega)
 generalize s.drop i=t at*
 simp [h1,hk,q,hw]
theorem cskip_k (hk:H.get l=some (cu s i)) (hl:l<H.n) (hi:i≤s.length) (hs:s.length≤1000000) (ht:t.length≤100):LC Tryz.prog EJ 144 [ptr l 0,str t] H=some (.bool (Lib.hasPrefix (s.drop i) t),if Lib.hasPrefix (s.drop i) t=true then H.set l (cu s (i+t.length))else H):=by
 have h1:=crest_k hk hi
 cases hp:Lib.hasPrefix (s.drop i) t with
 |false=>
  simp only [Bool.false_eq_true,if_false]
  refine LC_pure rfl Tryz.func144 rfl (Nat.le_of_ble_eq_true rfl) (by decide) (by kernel_rfl) rfl ?_
  simp [h1,hp]
 |true=>
  simp only [if_true]
  refine cset (x:=(i:Int)+(t.length:Int)) hk hl rfl (LC_runs (P:=Tryz.prog) (E:=EJ) (f:=144) rfl Tryz.func144 rfl (Nat.le_of_ble_eq_true rfl) (by decide) (by kernel_rfl) ?_)
  have hw:IntKind.i64.wrap ((i:Int)+(t.length:Int))=(i:Int)+(t.length:Int):=wrapI (by omega) (by omega)
  simp [h1,hp,hk,hw]
theorem cpeek_k (hk:H.get l=some (cu s i)) (hi:i≤s.length):LC Tryz.prog EJ 192 [ptr l 0,.int .i64 0] H=some (.tuple #[.int .u8 (match s.drop i with| []=>0|b::_=>(b.toNat:Int)),.bool (decide (i<s.length))],H):=by
 have h1:=crest_k hk hi
 have hd:(s.drop i).length=s.length-i:=List.length_drop
 have hlt:decide (i<s.length)=decide (s.drop i≠ []):=by
  rw [decide_eq_decide]
  constructor
  ·intro h e;rw [e]at hd;simp at hd;omega
  ·intro h;have:=List.length_pos_iff.mpr h;omega
 rw [hlt]
 refine LC_pure rfl Tryz.func192 rfl (Nat.le_of_ble_eq_true rfl) (by decide) (by kernel_rfl) rfl ?_
 cases hr:s.drop i with
 |nil=>rw [hr]at h1;simp [h1]
 |cons b r=>
  rw [hr]at h1
  have hat:at_ (b::r) 0=b:=rfl
  have q:=eq_false (show¬((r.length:Int)+1≤0) by omega)
  simp [h1,hat,q]
theorem cuntil_k (hk:H.get l=some (cu s i)) (hl:l<H.n) (hi:i≤s.length) (hs:s.length≤1000000):LC Tryz.prog EJ 146 [ptr l 0,str t] H=some (str ((s.drop i).take (Tg.Mi.until_ t (s.drop i))),H.set l (cu s (i+Tg.Mi.until_ t (s.drop i)))):=by
 have hle:=Tg.Mi.until_le t (s.drop i)
 have hd:(s.drop i).length=s.length-i:=List.length_drop
 refine cset (x:=((i+Tg.Mi.until_ t (s.drop i):Nat):Int)) hk hl rfl (LC_runs (P:=Tryz.prog) (E:=EJ) (f:=146) rfl Tryz.func146 rfl (Nat.le_of_ble_eq_true rfl) (by decide) (by kernel_rfl) ?_)
 have h1:=crest_k hk hi
 have hr:=crun_k (n:=Tg.Mi.until_ t (s.drop i)) hk hl (by omega) hs
 generalize hu:Tg.Mi.until_ t (s.drop i)=u at*
 generalize s.drop i=x at*
 simp [h1]
 refine loop_ind (fun(j:Nat) fr' H'=>fr' 0=ptr l 0∧fr' 1=str t∧fr' 5=.int .i64 j∧fr' 6=str x∧j≤u∧Tg.Mi.until_ t (x.drop j)+j=u∧H=H') (fun j=>u-j) 0 ⟨by simp,by simp,by simp,by simp,Nat.zero_le _,by simpa using hu,rfl⟩ ?_
 rintro j fr' H' ⟨f0,f1,f5,f6,hj,hq,rfl⟩ ih
 by_cases hlt:j<x.length
 ·have q0:=eq_true (show(j:Int)<(x.length:Int) by omega)
  have hw1:IntKind.i64.wrap ((j:Int)+1)=((j+1:Nat):Int):=by rw [wrapI (by omega) (by omega)];omega
  have hat:at_ x (j:Int)=x[j]:=at_in hlt
  rw [List.drop_eq_getElem_cons hlt]at hq
  unfold Tg.Mi.until_ at hq
  generalize x[j]=c at*
  by_cases hc:Lib.indexByte t c<0
  ·rw [if_pos hc]at hq
   have hc:=eq_true hc
   simp [f0,f1,f5,f6,q0,hat,hc]
   refine ih (j+1) _ _ (by omega) ⟨?_,?_,?_,?_,by omega,by omega,rfl⟩
   all_goals simp [f0,f1,f6,hw1]
  ·rw [if_neg hc]at hq
   have hc:=eq_false hc
   obtain rfl:j=u:=by omega
   simp [f0,f1,f5,f6,q0,hat,hc,hr]
   rfl
 ·have q0:=eq_false (show¬(j:Int)<(x.length:Int) by omega)
  rw [List.drop_of_length_le (by omega)]at hq
  unfold Tg.Mi.until_ at hq
  obtain rfl:j=u:=by omega
  simp [f0,f1,f5,f6,q0,hr]
  rfl
theorem crestall_k (hk:H.get l=some (cu s i)) (hl:l<H.n) (hi:i≤s.length) (hs:s.length≤1000000):LC Tryz.prog EJ 228 [ptr l 0] H=some (str (s.drop i),H.set l (cu s s.length)):=by
 refine cset (x:=(s.length:Int)) hk hl rfl (LC_runs (P:=Tryz.prog) (E:=EJ) (f:=228) rfl Tryz.func228 rfl (Nat.le_of_ble_eq_true rfl) (by decide) (by kernel_rfl) ?_)
 have h1:=crest_k hk hi
 have hd:(s.drop i).length=s.length-i:=List.length_drop
 have hr:=crun_k (n:=(s.drop i).length) hk hl (by omega) hs
 rw [List.take_length,hd,show i+(s.length-i)=s.length by omega]at hr
 have hr:LC Tryz.prog EJ 181 [ptr l 0,.int .i64 ((s.drop i).length:Nat)] H=some (str (s.drop i),H.set l (cu s s.length)):=by rw [hd];exact hr
 generalize s.drop i=x at*
 simp [h1,hr]
theorem cend_k (hk:H.get l=some (cu s i)) (hi:i≤s.length):LC Tryz.prog EJ 282 [ptr l 0] H=some (.bool (decide (s.drop i= [])),H):=by
 refine LC_pure rfl Tryz.func282 rfl (Nat.le_of_ble_eq_true rfl) (by decide) (by kernel_rfl) rfl ?_
 have h1:=crest_k hk hi
 simp [h1]
theorem cplace_k (hk:H.get l=some (cu s i)):LC Tryz.prog EJ 184 [ptr l 0] H=some (.int .i64 i,H):=by
 refine LC_pure rfl Tryz.func184 rfl (Nat.le_of_ble_eq_true rfl) (by decide) (by kernel_rfl) rfl ?_
 simp [hk]
theorem cat_k (hk:H.get l=some (cu s i)):LC Tryz.prog EJ 145 [ptr l 0] H=some (.int .i64 i,H):=by
 refine LC_pure rfl Tryz.func145 rfl (Nat.le_of_ble_eq_true rfl) (by decide) (by kernel_rfl) rfl ?_
 have h1:=cplace_k hk
 simp [h1]
theorem check_k {x y:Int} :LC Tryz.prog EJ 143 [.bool true,.int .i64 x,.int .i64 y] H=some (.tuple #[],H):=by
 refine LC_pure rfl Tryz.func143 rfl (Nat.le_of_ble_eq_true rfl) (by decide) (by kernel_rfl) rfl ?_
 simp
theorem ctake_k (hk:H.get l=some (cu s i)) (hl:l<H.n) (hi:i+n≤s.length) (hs:s.length≤1000000):LC Tryz.prog EJ 186 [ptr l 0,.int .i64 n] H=some (str ((s.drop i).take n),H.set l (cu s (i+n))):=by
 refine cset (x:=(i:Int)+(n:Int)) hk hl rfl (LC_runs (P:=Tryz.prog) (E:=EJ) (f:=186) rfl Tryz.func186 rfl (Nat.le_of_ble_eq_true rfl) (by decide) (by kernel_rfl) ?_)
 have h1:=crest_k hk (by omega)
 have q:=eq_true (show(n:Int)≤((s.drop i).length:Int) by rw [List.length_drop];omega)
 have q2:=eq_true (show(0:Int)≤(n:Int) by omega)
 have hw:IntKind.i64.wrap ((i:Int)+(n:Int))=(i:Int)+(n:Int):=wrapI (by omega) (by omega)
 have hc:=fun(H:LH) (x y:Int)=>check_k (H:=H) (x:=x) (y:=y)
 generalize s.drop i=t at*
 simp [h1,hk,q,q2,hw,hc]
theorem cnext_k (hk:H.get l=some (cu s i)) (hl:l<H.n) (hi:i<s.length) (hs:s.length≤1000000):LC Tryz.prog EJ 147 [ptr l 0] H=some (.int .u8 s[i].toNat,H.set l (cu s (i+1))):=by
 refine cset (x:=((i+1:Nat):Int)) hk hl rfl (LC_runs (P:=Tryz.prog) (E:=EJ) (f:=147) rfl Tryz.func147 rfl (Nat.le_of_ble_eq_true rfl) (by decide) (by kernel_rfl) ?_)
 have h1:=ctake_k (n:=1) hk hl (by omega) hs
 rw [List.drop_eq_getElem_cons hi,show(s[i]::s.drop (i+1)).take 1= [s[i]] from rfl]at h1
 have h1:LC Tryz.prog EJ 186 [ptr l 0,.int .i64 1] H=some (str [s[i]],H.set l (cu s (i+1))):=h1
 generalize s[i]=b at*
 have hat:at_ [b] 0=b:=rfl
 simp [h1,hat]
 try rfl
theorem cwhile_k {g:FuncId} {p:UInt8→Bool} (hg: ∀(H:LH) (b:UInt8),LC Tryz.prog EJ g [.int .u8 b.toNat] H=some (.bool (p b),H)) (hk:H.get l=some (cu s i)) (hl:l<H.n) (hi:i≤s.length) (hs:s.length≤1000000):LC Tryz.prog EJ 141 [ptr l 0,.func (.func g) #[] #[]] H=some (str ((s.drop i).take (Tg.Mi.while_ p (s.drop i))),H.set l (cu s (i+Tg.Mi.while_ p (s.drop i)))):=by
 have hle:=Tg.Mi.while_le p (s.drop i)
 have hd:(s.drop i).length=s.length-i:=List.length_drop
 refine cset (x:=((i+Tg.Mi.while_ p (s.drop i):Nat):Int)) hk hl rfl (LC_runs (P:=Tryz.prog) (E:=EJ) (f:=141) rfl Tryz.func141 rfl (Nat.le_of_ble_eq_true rfl) (by decide) (by kernel_rfl) ?_)
 have h1:=crest_k hk hi
 have hr:=crun_k (n:=Tg.Mi.while_ p (s.drop i)) hk hl (by omega) hs
 have hfn:=lbin_fn_ne (g:=g) (f:=#[]) (cp:=#[]) Tryz.underlying127
 generalize hu:Tg.Mi.while_ p (s.drop i)=u at*
 generalize s.drop i=x at*
 simp [h1]
 refine loop_ind (fun(j:Nat) fr' H'=>fr' 0=ptr l 0∧fr' 1=.func (.func g) #[] #[]∧fr' 5=.int .i64 j∧fr' 6=str x∧j≤u∧Tg.Mi.while_ p (x.drop j)+j=u∧H=H') (fun j=>u-j) 0 ⟨by simp,by simp,by simp,by simp,Nat.zero_le _,by simpa using hu,rfl⟩ ?_
 rintro j fr' H' ⟨f0,f1,f5,f6,hj,hq,rfl⟩ ih
 by_cases hlt:j<x.length
 ·have q0:=eq_true (show(j:Int)<(x.length:Int) by omega)
  have hw1:IntKind.i64.wrap ((j:Int)+1)=((j+1:Nat):Int):=by rw [wrapI (by omega) (by omega)];omega
  have hat:at_ x (j:Int)=x[j]:=at_in hlt
  rw [List.drop_eq_getElem_cons hlt]at hq
  unfold Tg.Mi.while_ at hq
  generalize x[j]=c at*
  cases hc:p c with
  |true=>
   rw [if_pos hc]at hq
   have hgc:=fun H=>hg H c
   rw [hc]at hgc
   simp [f0,f1,f5,f6,q0,hat,hgc,hfn]
   refine ih (j+1) _ _ (by omega) ⟨?_,?_,?_,?_,by omega,by omega,rfl⟩
   all_goals simp [f0,f1,f6,hw1]
  |false=>
   rw [if_neg (by rw [hc];decide)]at hq
   have hgc:=fun H=>hg H c
   rw [hc]at hgc
   obtain rfl:j=u:=by omega
   simp [f0,f1,f5,f6,q0,hat,hgc,hr,hfn]
   rfl
 ·have q0:=eq_false (show¬(j:Int)<(x.length:Int) by omega)
  rw [List.drop_of_length_le (by omega)]at hq
  unfold Tg.Mi.while_ at hq
  obtain rfl:j=u:=by omega
  simp [f0,f1,f5,f6,q0,hr,hfn]
  rfl
end
structure Two (N:Nat) (H:LH) (b1 b2:Nat) (l1 l2:List UInt8) (v1 v2:Value):Prop where
 one:Bld N H b1 l1 v1
 two:Bld N H b2 l2 v2
 ne:b1≠b2
 n1:N≤b1
 n2:N≤b2
 sep: ∀k,offRow v1 k∨offRow v2 k
section
variable {H H':LH} {N b1 b2:Nat} {l1 l2 s:List UInt8} {v1 v2 v':Value} {c:UInt8}
theorem Two.swap (h:Two N H b1 b2 l1 l2 v1 v2):Two N H b2 b1 l2 l1 v2 v1:=⟨h.two,h.one,h.ne.symm,h.n2,h.n1,fun k=>(h.sep k).symm⟩
theorem bld_elem_ne {b k:Nat} {l l':List UInt8} {v v':Value} (h:Bld N H b l v) (h':Bld N H k l' v'):offRow v k:=by
 obtain⟨p,hg,_⟩:=h'.get
 exact RowN.off_of_elem h.row hg (by show 157≠5;decide)
theorem Two.step {l1':List UInt8} (h:Two N H b1 b2 l1 l2 v1 v2) (h1:Bld N H' b1 l1' v') (hk:Kp b1 v1 H v' H'):Two N H' b1 b2 l1' l2 v' v2:=by
 have ho2:offRow v1 b2:=bld_elem_ne h.one h.two
 refine⟨h1,?_,h.ne,h.n1,h.n2,fun k=>?_⟩
 ·obtain⟨p,hg,hp⟩:=h.two.get
  refine⟨⟨p,by rw [hk.keep b2 h.two.lt h.ne.symm ho2];exact hg,hp⟩,?_,h.two.full,h.two.off,Nat.lt_of_lt_of_le h.two.lt hk.n,h1.N,h.two.nil⟩
  refine h.two.row.keep hk.n (fun k _ hno hkn=>hk.keep k hkn (fun e=>?_) ((h.sep k).resolve_right hno))
  subst e
  exact hno (bld_elem_ne h.two h.one)
 ·by_cases hno:offRow v2 k
  ·exact .inr hno
  ·by_cases hkb:k=b1
   ·subst hkb;exact absurd (bld_elem_ne h.two h.one) hno
   ·by_cases hkn:k<H.n
    ·exact .inl (hk.off k hkn hkb ((h.sep k).resolve_right hno))
    ·exact absurd (RowN.off_ge h.two.row (by omega)) hno
theorem Two.str1 (h:Two N H b1 b2 l1 l2 v1 v2) (hlen:l1.length+s.length≤maxElems): ∃v' H',LC Tryz.prog EJ 191 [ptr b1 0,str s] H=some (.tuple #[.int .i64 s.length,.nilIface],H')∧Two N H' b1 b2 (l1++s) l2 v' v2∧H.n≤H'.n∧ ∀k,k<N→H'.get k=H.get k:=by
 obtain⟨v',H',e,hb,hk⟩:=wstr_ex h.one hlen
 refine⟨v',H',e,h.step hb hk,hk.n,fun k hk2=>hk.keep k (by have:=h.one.N;omega) (by have:=h.n1;omega) ?_⟩
 rcases h.one.row.2 with⟨rfl,_⟩|⟨k',c',rest,rfl,g1,_⟩
 ·intro n c e;cases e
 ·intro n c e;injection e with e;injection e with e;injection e with e;omega
theorem Two.byte1 (h:Two N H b1 b2 l1 l2 v1 v2) (hlen:l1.length+1≤maxElems): ∃v' H',LC Tryz.prog EJ 225 [ptr b1 0,.int .u8 c.toNat] H=some (.nilIface,H')∧Two N H' b1 b2 (l1++ [c]) l2 v' v2∧H.n≤H'.n∧ ∀k,k<N→H'.get k=H.get k:=by
 obtain⟨v',H',e,hb,hk⟩:=wbyte_ex h.one hlen
 refine⟨v',H',e,h.step hb hk,hk.n,fun k hk2=>hk.keep k (by have:=h.one.N;omega) (by have:=h.n1;omega) ?_⟩
 rcases h.one.row.2 with⟨rfl,_⟩|⟨k',c',rest,rfl,g1,_⟩
 ·intro n c e;cases e
 ·intro n c e;injection e with e;injection e with e;injection e with e;omega
theorem Two.str2 (h:Two N H b1 b2 l1 l2 v1 v2) (hlen:l2.length+s.length≤maxElems): ∃v' H',LC Tryz.prog EJ 191 [ptr b2 0,str s] H=some (.tuple #[.int .i64 s.length,.nilIface],H')∧Two N H' b1 b2 l1 (l2++s) v1 v'∧H.n≤H'.n∧ ∀k,k<N→H'.get k=H.get k:=by
 obtain⟨v',H',e,h2,h3,h4⟩:=h.swap.str1 hlen
 exact⟨v',H',e,h2.swap,h3,h4⟩
theorem Two.byte2 (h:Two N H b1 b2 l1 l2 v1 v2) (hlen:l2.length+1≤maxElems): ∃v' H',LC Tryz.prog EJ 225 [ptr b2 0,.int .u8 c.toNat] H=some (.nilIface,H')∧Two N H' b1 b2 l1 (l2++ [c]) v1 v'∧H.n≤H'.n∧ ∀k,k<N→H'.get k=H.get k:=by
 obtain⟨v',H',e,h2,h3,h4⟩:=h.swap.byte1 hlen
 exact⟨v',H',e,h2.swap,h3,h4⟩
theorem Two.low {k:Nat} {B:LB} (h:Two N H b1 b2 l1 l2 v1 v2) (hk:k<N):Two N (H.set k B) b1 b2 l1 l2 v1 v2:=by
 have hx: ∀j,N≤j→(H.set k B).get j=H.get j:=fun j hj=>get_set_ne (by omega)
 have one: ∀ {b:Nat} {l:List UInt8} {v:Value},N≤b→Bld N H b l v→Bld N (H.set k B) b l v:=fun {b l v} hb h=>
  ⟨by obtain⟨p,hg,hp⟩:=h.get;exact⟨p,by rw [hx b hb];exact hg,hp⟩,h.row.keep (Nat.le_refl _) (fun j hj _ _=>hx j hj),h.full,h.off,h.lt,h.N,h.nil⟩
 exact⟨one h.n1 h.one,one h.n2 h.two,h.ne,h.n1,h.n2,h.sep⟩
theorem Two.first:Two H.n ((H.new ⟨[.pointer none,.slice none 0 0],157,true⟩).new ⟨[.pointer none,.slice none 0 0],157,true⟩) H.n (H.n+1) [] [] (.slice none 0 0) (.slice none 0 0):=by
 have ho: ∀k,offRow (.slice none 0 0) k:=fun k n c e=>by cases e
 refine⟨⟨⟨_,by rw [get_new_ne (by simp)];exact get_new,.inl rfl⟩,RowN.nil,(by unfold Full;simp),ho _,(by simp;omega),(by simp;omega),fun _=>rfl⟩,⟨⟨_,by exact get_new,.inl rfl⟩,RowN.nil,(by unfold Full;simp),ho _,(by simp),(by simp;omega),fun _=>rfl⟩,by omega,Nat.le_refl _,by omega,fun k=>.inl (ho k)⟩
end
end Go.Proofs.YtjplaockjmhnjaaGreatDoor.Mi
namespace Go.Proofs.YtjplaockjmhnjaaGreatDoor
open Go.Lg Go.Tg
def SpecBs (s:Lg.Spec):Prop:= ∀args H v H',s args H=some (v,H')→Bs H H'
theorem flat_bs {g:List Value→Option Value} :SpecBs (flatSpec g):=by
 intro args H v H' h
 unfold flatSpec at h
 (repeat' split at h)<;>first|(cases h;done)|(simp only [Option.some.injEq,Prod.mk.injEq]at h;obtain⟨_,rfl⟩:=h;exact⟨rfl,rfl⟩)|(obtain⟨u,_,e⟩:=Option.map_eq_some_iff.1 h;simp only [Prod.mk.injEq]at e;obtain⟨_,rfl⟩:=e;exact⟨rfl,rfl⟩)
theorem index_bs:SpecBs specIndexA:=by
 intro args H v H' h
 unfold specIndexA at h
 (repeat' split at h)<;>first|(cases h;done)|(simp only [Option.some.injEq,Prod.mk.injEq]at h;obtain⟨_,rfl⟩:=h;exact⟨rfl,rfl⟩)
theorem split_bs:SpecBs specSplit:=by
 intro args H v H' h
 unfold specSplit at h
 (repeat' split at h)<;>first|(cases h;done)|(simp only [Option.some.injEq,Prod.mk.injEq]at h;obtain⟨_,rfl⟩:=h;exact⟨rfl,rfl⟩)|(obtain⟨u,_,e⟩:=Option.map_eq_some_iff.1 h;simp only [Prod.mk.injEq]at e;obtain⟨_,rfl⟩:=e;exact⟨rfl,rfl⟩)
theorem join_bs:SpecBs specJoin:=by
 intro args H v H' h
 unfold specJoin at h
 (repeat' split at h)<;>first|(cases h;done)|(simp only [Option.some.injEq,Prod.mk.injEq]at h;obtain⟨_,rfl⟩:=h;exact⟨rfl,rfl⟩)|(obtain⟨u,_,e⟩:=Option.map_eq_some_iff.1 h;simp only [Prod.mk.injEq]at e;obtain⟨_,rfl⟩:=e;exact⟨rfl,rfl⟩)
theorem copy_bs:SpecBs specCopy:=by
 intro args H v H' h
 unfold specCopy at h
 (repeat' split at h)<;>first|(cases h;done)|(simp only [Option.some.injEq,Prod.mk.injEq]at h;obtain⟨_,rfl⟩:=h;exact⟨rfl,rfl⟩)|(obtain⟨u,_,e⟩:=Option.map_eq_some_iff.1 h;simp only [Prod.mk.injEq]at e;obtain⟨_,rfl⟩:=e;exact⟨rfl,rfl⟩)
theorem bstr_bs:SpecBs specBStr:=by
 intro args H v H' h
 unfold specBStr at h
 (repeat' split at h)<;>first|(cases h;done)|(simp only [Option.some.injEq,Prod.mk.injEq]at h;obtain⟨_,rfl⟩:=h;exact⟨rfl,rfl⟩)|(obtain⟨u,_,e⟩:=Option.map_eq_some_iff.1 h;simp only [Prod.mk.injEq]at e;obtain⟨_,rfl⟩:=e;exact⟨rfl,rfl⟩)
theorem str_bs: ∀p∈specsStr,SpecBs p.2:=by
 intro p hp
 unfold specsStr at hp
 rcases List.mem_cons.1 hp with rfl|hp
 ·exact flat_bs
 rcases List.mem_cons.1 hp with rfl|hp
 ·exact flat_bs
 rcases List.mem_cons.1 hp with rfl|hp
 ·exact flat_bs
 rcases List.mem_cons.1 hp with rfl|hp
 ·exact split_bs
 rcases List.mem_cons.1 hp with rfl|hp
 ·exact join_bs
 rcases List.mem_cons.1 hp with rfl|hp
 ·exact copy_bs
 rcases List.mem_cons.1 hp with rfl|hp
 ·exact bstr_bs
 rcases List.mem_cons.1 hp with rfl|hp
 ·exact flat_bs
 rcases List.mem_cons.1 hp with rfl|hp
 ·exact flat_bs
 rcases List.mem_cons.1 hp with rfl|hp
 ·exact index_bs
 cases hp
theorem ext_bs {f:FuncId} {args:List Value} {H H':LH} {v:Value} (h:LC Tryz.prog EJ f args H=some (v,H')):Bs H H':=
 LC_bs (fun f s hs args H v H' hr=>by
  have hs:((specsStr).find? (fun p=>p.1==f)).map (·.2)=some s:=hs
  obtain⟨p,hp,rfl⟩:=Option.map_eq_some_iff.1 hs
  exact str_bs p (List.mem_of_find?_eq_some hp) args H v H' hr) h
theorem MaxL.bs {H H':LH} (h:MaxL H) (hb:Bs H H'):MaxL H':=⟨by rw [hb.2];exact h.1,by rw [hb.1];exact h.2⟩
end Go.Proofs.YtjplaockjmhnjaaGreatDoor
namespace Tg.Mi
def coll:List UInt8→List UInt8×List UInt8×Nat
 | []=>([],[],0)
 |b::r=>if b=34 then([],[34],1)else if b=92 then(match r with
   | []=>([92],[92],1)
   |c::r'=>(c::(coll r').1,92::c::(coll r').2.1,(coll r').2.2+2))else(b::(coll r).1,b::(coll r).2.1,(coll r).2.2+1)
theorem stop_F: ∀k:Fin 256,(Go.Lib.indexByte [34,92] (UInt8.ofNat k.1)<0↔UInt8.ofNat k.1≠34∧UInt8.ofNat k.1≠92):=by decide+kernel
theorem stop_iff (b:UInt8):Go.Lib.indexByte [34,92] b<0↔b≠34∧b≠92:=by
 have h:=stop_F ⟨b.toNat,b.toNat_lt⟩
 simpa using h
theorem coll_until: ∀x:List UInt8,coll x=(x.take (until_ [34,92] x)++(coll (x.drop (until_ [34,92] x))).1,x.take (until_ [34,92] x)++(coll (x.drop (until_ [34,92] x))).2.1,until_ [34,92] x+(coll (x.drop (until_ [34,92] x))).2.2)
 | []=>by simp [until_,coll]
 |b::r=>by
  by_cases h:Go.Lib.indexByte [34,92] b<0
  ·have ih:=coll_until r
   obtain⟨h1,h2⟩:=(stop_iff b).1 h
   have e:until_ [34,92] (b::r)=until_ [34,92] r+1:=by
    conv=>lhs;unfold until_
    rw [if_pos h]
   rw [e]
   have e2:coll (b::r)=(b::(coll r).1,b::(coll r).2.1,(coll r).2.2+1):=by
    conv=>lhs;unfold coll
    rw [if_neg h1,if_neg h2]
   rw [e2,ih]
   simp only [List.take_succ_cons,List.drop_succ_cons,List.cons_append]
   congr 2
   omega
  ·have e:until_ [34,92] (b::r)=0:=by
    conv=>lhs;unfold until_
    rw [if_neg h]
   rw [e]
   simp
theorem until_stop: ∀ {x:List UInt8} {b:UInt8} {r:List UInt8},x.drop (until_ [34,92] x)=b::r→b=34∨b=92
 | [],b,r,h=>by simp [until_]at h
 |a::y,b,r,h=>by
  unfold until_ at h
  split at h
  ·exact until_stop (x:=y) (by simpa using h)
  ·rename_i hn
   simp only [List.drop_zero,List.cons.injEq]at h
   obtain⟨rfl,_⟩:=h
   by_cases h1:a=34
   ·exact .inl h1
   ·by_cases h2:a=92
    ·exact .inr h2
    ·exact absurd ((stop_iff a).2 ⟨h1,h2⟩) hn
end Tg.Mi
namespace Go.Proofs.YtjplaockjmhnjaaGreatDoor.Mi
open Go.Lg Go.Tg
section
variable {H H':LH} {N b:Nat} {l s:List UInt8} {v:Value}
theorem bstr_kp (h:Bld N H b l v) (hm:l.length≤maxLen): ∃H',LC Tryz.prog EJ 195 [ptr b 0] H=some (str l,H')∧H'.n=H.n∧ ∀k,offRow v k→H'.get k=H.get k:=by
 obtain⟨p,hg,hp⟩:=h.get
 rcases h.row.2 with⟨rfl,h0⟩|⟨k,c,rest,rfl,g1,g2,g3,g4,g5⟩
 ·have hl:l= []:=List.eq_nil_of_length_eq_zero h0
  subst hl
  refine⟨H,LC_ext (s:=specBStr) rfl ?_,rfl,fun _ _=>rfl⟩
  unfold specBStr
  simp only [hg]
 ·rcases Nat.eq_zero_or_pos l.length with h0|h0
  ·exfalso
   have:=h.nil (List.eq_nil_of_length_eq_zero h0)
   cases this
  ·refine⟨H.kill k,LC_ext (s:=specBStr) rfl ?_,rfl,fun j hj=>get_kill_ne (fun e=>hj l.length c (by rw [e]))⟩
   have htk:(l.map bv++rest).take l.length=l.map bv:=by simp
   unfold specBStr
   simp only [hg,g3]
   rw [if_pos ⟨l,by intro e;rw [e]at h0;simp at h0,htk,rfl,g4,hm,rfl⟩,htk,lbs_map]
   rfl
theorem Two.texts {b1 b2:Nat} {l1 l2:List UInt8} {v1 v2:Value} (h:Two N H b1 b2 l1 l2 v1 v2) (h1:l1.length≤maxLen) (h2:l2.length≤maxLen): ∃H1 H2,LC Tryz.prog EJ 195 [ptr b1 0] H=some (str l1,H1)∧LC Tryz.prog EJ 195 [ptr b2 0] H1=some (str l2,H2)∧H2.n=H.n∧ ∀k,k<N→H2.get k=H.get k:=by
 obtain⟨H1,e1,n1,k1⟩:=bstr_kp h.one h1
 have hb2:Bld N H1 b2 l2 v2:=by
  obtain⟨p,hg,hp⟩:=h.two.get
  exact⟨⟨p,by rw [k1 _ (bld_elem_ne h.one h.two)];exact hg,hp⟩,h.two.row.keep (by omega) (fun k _ hno _=>k1 k ((h.sep k).resolve_right hno)),h.two.full,h.two.off,by rw [n1];exact h.two.lt,by rw [n1];exact h.two.N,h.two.nil⟩
 obtain⟨H2,e2,n2,k2⟩:=bstr_kp hb2 h2
 have low: ∀ {b:Nat} {l:List UInt8} {v:Value} {G:LH},Bld N G b l v→ ∀k,k<N→offRow v k:=fun {b l v G} hb k hk=>by
  rcases hb.row.2 with⟨rfl,_⟩|⟨k',c',rest,rfl,g1,_⟩
  ·intro n c e;cases e
  ·intro n c e;injection e with e;injection e with e;injection e with e;omega
 exact⟨H1,H2,e1,e2,by omega,fun k hk=>by rw [k2 k (low hb2 k hk),k1 k (low h.one k hk)]⟩
end
section
variable {H H':LH} {N b l i:Nat} {s:List UInt8} {v:Value}
structure OutC (H:LH) (l:Nat) (s:List UInt8) (j:Nat) (H':LH):Prop where
 get:H'.get l=some (cu s j)
 n:H.n≤H'.n
 old: ∀k,k<H.n→k≠l→H'.get k=H.get k
theorem collect_ex (hk:H.get l=some (cu s i)) (hl:l<H.n) (hi:i<s.length) (hs:s.length≤100000) (hq:s[i]=34):
  ∃H',LC Tryz.prog EJ 193 [ptr l 0] H=some (.tuple #[str (Tg.Mi.coll (s.drop (i+1))).1,str (34::(Tg.Mi.coll (s.drop (i+1))).2.1)],H')∧OutC H l s (i+1+(Tg.Mi.coll (s.drop (i+1))).2.2) H':=by
 have key: ∃r,LC Tryz.prog EJ 193 [ptr l 0] H=some (Lg.trunc H r)∧r.1=.tuple #[str (Tg.Mi.coll (s.drop (i+1))).1,str (34::(Tg.Mi.coll (s.drop (i+1))).2.1)]∧OutC H l s (i+1+(Tg.Mi.coll (s.drop (i+1))).2.2) r.2:=by
  refine LC_runs (P:=Tryz.prog) (E:=EJ) (f:=193) rfl Tryz.func193 rfl (Nat.le_of_ble_eq_true rfl) (by decide) (by kernel_rfl) ?_
  obtain⟨Hb,hHb⟩: ∃Hb,Hb=(H.new ⟨[.pointer none,.slice none 0 0],157,true⟩).new ⟨[.pointer none,.slice none 0 0],157,true⟩:=⟨_,rfl⟩
  have hnb:Hb.n=H.n+1+1:=by rw [hHb];rfl
  have hkb:Hb.get l=some (cu s i):=by rw [hHb,get_new_ne (by simp;omega),get_new_ne (by omega)];exact hk
  have hob: ∀k,k<H.n→Hb.get k=H.get k:=fun k hk2=>by rw [hHb,get_new_ne (by simp;omega),get_new_ne (by omega)]
  have htw:Two H.n Hb H.n (H.n+1) [] [] (.slice none 0 0) (.slice none 0 0):=by rw [hHb];exact Two.first
  have hsk:=cskip_k (t:= [34]) hkb (by omega) (by omega) (by omega) (by decide)
  have hpre:Lib.hasPrefix (s.drop i) [34]=true:=by rw [List.drop_eq_getElem_cons hi,hq];simp [Lib.hasPrefix]
  rw [hpre,if_pos rfl]at hsk
  have hsk:LC Tryz.prog EJ 144 [ptr l 0,str [34]] Hb=some (.bool true,Hb.set l (cu s (i+1))):=hsk
  have hat:=cat_k (H:=Hb.set l (cu s (i+1))) (l:=l) get_set
  have hck:=fun(H:LH) (x y:Int)=>check_k (H:=H) (x:=x) (y:=y)
  obtain⟨v2,H1,w1,w2,w3,w4⟩:=(htw.low (B:=cu s (i+1)) hl).byte2 (c:=34) (by decide)
  have w1:LC Tryz.prog EJ 225 [ptr (H.n+1) 0,.int .u8 34] (Hb.set l (cu s (i+1)))=some (.nilIface,H1):=w1
  simp [←hHb,hsk,hat,hck,w1]
  obtain⟨T,hT⟩: ∃T,T=Tg.Mi.coll (s.drop (i+1)):=⟨_,rfl⟩
  rw [←hT]
  refine loop_ind (fun(j:Nat) fr' H'=> ∃t a v1 v2,fr' 0=ptr l 0∧fr' 4=ptr H.n 0∧fr' 5=ptr (H.n+1) 0∧i+1≤j∧j≤s.length∧t.length≤j∧a.length≤j∧Two H.n H' H.n (H.n+1) t (34::a) v1 v2∧H'.get l=some (cu s j)∧H.n≤H'.n∧(∀k,k<H.n→k≠l→H'.get k=H.get k)∧T.1=t++(Tg.Mi.coll (s.drop j)).1∧T.2.1=a++(Tg.Mi.coll (s.drop j)).2.1∧i+1+T.2.2=j+(Tg.Mi.coll (s.drop j)).2.2) (fun j=>s.length-j) (i+1) ⟨[],[],_,v2,by simp,by simp,by simp,Nat.le_refl _,by omega,by simp,by simp,w2,by rw [w4 l hl,get_set],by have:=w3;simp at this;omega,fun k hk2 hne=>by rw [w4 k hk2,get_set_ne hne,hob k hk2],by rw [hT];simp,by rw [hT];simp,by rw [hT]⟩ ?_
  rintro j fr' H2 ⟨t,a,v1,v2',f0,f4,f5,hj1,hj2,htl,hal,htw2,hcu,hn2,hold,q1,q2,q3⟩ ih
  have hu:=cuntil_k (t:= [34,92]) hcu (by omega) hj2 (by omega)
  have hul:=Tg.Mi.until_le [34,92] (s.drop j)
  have hdl:(s.drop j).length=s.length-j:=List.length_drop
  have hcoll:=Tg.Mi.coll_until (s.drop j)
  have hstop:=fun b r=>Tg.Mi.until_stop (x:=s.drop j) (b:=b) (r:=r)
  rw [hcoll]at q1 q2 q3
  rw [List.drop_drop]at q1 q2 q3 hstop
  simp only at q1 q2 q3
  have hxl:((s.drop j).take (Tg.Mi.until_ [34,92] (s.drop j))).length=Tg.Mi.until_ [34,92] (s.drop j):=by rw [List.length_take];omega
  generalize (s.drop j).take (Tg.Mi.until_ [34,92] (s.drop j))=x at*
  generalize Tg.Mi.until_ [34,92] (s.drop j)=u at*
  obtain⟨v3,H3,e3,t3,n3,k3⟩:=(htw2.low (B:=cu s (j+u)) hl).str1 (s:=x) (by unfold maxElems;omega)
  obtain⟨v4,H4,e4,t4,n4,k4⟩:=t3.str2 (s:=x) (by unfold maxElems;simp;omega)
  have n3:H2.n≤H3.n:=n3
  have c4:H4.get l=some (cu s (j+u)):=by rw [k4 l hl,k3 l hl,get_set]
  have o4: ∀k,k<H.n→k≠l→H4.get k=H.get k:=fun k hk2 hne=>by rw [k4 k hk2,k3 k hk2,get_set_ne hne,hold k hk2 hne]
  have hpk:=cpeek_k c4 (by omega)
  have hlen4:(s.drop (j+u)).length=s.length-(j+u):=List.length_drop
  clear htw2 t3 hcoll
  cases hy:s.drop (j+u)with
  |nil=>
   rw [hy]at hpk q1 q2 q3 hlen4
   have hlt:decide (j+u<s.length)=false:=decide_eq_false (by simp at hlen4;omega)
   rw [hlt]at hpk
   simp only [Tg.Mi.coll,List.append_nil]at q1 q2 q3
   obtain⟨H5,H6,e5,e6,n6,k6⟩:=t4.texts (by unfold maxLen;simp;omega) (by unfold maxLen;simp;omega)
   clear ih
   simp [f0,f4,f5,hu,e3,e4,hpk,e5,e6]
   rw [q1,q2]
   exact⟨⟨rfl,rfl⟩,by rw [k6 l hl,c4];congr 2;omega,by omega,fun k hk2 hne=>by rw [k6 k hk2,o4 k hk2 hne]⟩
  |cons b r=>
   rw [hy]at hpk q1 q2 q3 hlen4
   have hlt0:j+u<s.length:=by simp at hlen4;omega
   rw [decide_eq_true hlt0]at hpk
   have hpk:LC Tryz.prog EJ 192 [ptr l 0,.int .i64 0] H4=some (.tuple #[.int .u8 b.toNat,.bool true],H4):=hpk
   have hnx:=cnext_k c4 (by omega) hlt0 (by omega)
   obtain⟨v5,H5,e5,t5,n5,k5⟩:=(t4.low (B:=cu s (j+u+1)) hl).byte2 (c:=b) (by unfold maxElems;simp;omega)
   have n5:H4.n≤H5.n:=n5
   have c5:H5.get l=some (cu s (j+u+1)):=by rw [k5 l hl,get_set]
   have o5: ∀k,k<H.n→k≠l→H5.get k=H.get k:=fun k hk2 hne=>by rw [k5 k hk2,get_set_ne hne,o4 k hk2 hne]
   have hr:s.drop (j+u+1)=r:=by rw [←List.drop_drop,hy];rfl
   rcases hstop b r hy with hb|hb
   ·subst hb
    have hc1:Tg.Mi.coll (34::r)=([],[34],1):=by
     conv=>lhs;unfold Tg.Mi.coll
     rw [if_pos rfl]
    rw [hc1]at q1 q2 q3
    simp only [List.append_nil]at q1
    simp only at q2 q3
    obtain⟨H6,H7,e6,e7,n7,k7⟩:=t5.texts (by unfold maxLen;simp;omega) (by unfold maxLen;simp;omega)
    have hb34:((UInt8.toNat 34:Nat):Int)=34:=rfl
    rw [hb34]at hpk e5
    clear ih
    simp [f0,f4,f5,hu,e3,e4,hpk,hnx,e5,e6,e7]
    rw [q1,q2]
    exact⟨⟨rfl,by simp⟩,by rw [k7 l hl,c5];congr 2;omega,by omega,fun k hk2 hne=>by rw [k7 k hk2,o5 k hk2 hne]⟩
   ·subst hb
    have hpk2:=cpeek_k c5 (by omega)
    have hb92:((UInt8.toNat 92:Nat):Int)=92:=rfl
    rw [hb92]at hpk e5
    rw [hr]at hpk2
    cases r with
    |nil=>
     have hlt2:decide (j+u+1<s.length)=false:=decide_eq_false (by simp at hlen4;omega)
     rw [hlt2]at hpk2
     have hc1:Tg.Mi.coll [92]=([92],[92],1):=rfl
     rw [hc1]at q1 q2 q3
     obtain⟨v6,H6,e6,t6,n6,k6⟩:=t5.byte1 (c:=92) (by unfold maxElems;simp;omega)
     have e6:LC Tryz.prog EJ 225 [ptr H.n 0,.int .u8 92] H5=some (.nilIface,H6):=e6
     have hfin:=fun fr2 (g0:fr2 0=ptr l 0) (g4:fr2 4=ptr H.n 0) (g5:fr2 5=ptr (H.n+1) 0)=>ih (j+u+1) fr2 H6 (by omega) ⟨t++x++ [92],a++x++ [92],v6,v5,g0,g4,g5,by omega,by omega,by simp;omega,by simp;omega,t6,by rw [k6 l hl];exact c5,by omega,fun k hk2 hne=>by rw [k6 k hk2,o5 k hk2 hne],by rw [hr,q1];simp [Tg.Mi.coll],by rw [hr,q2];simp [Tg.Mi.coll],by rw [hr,q3];simp [Tg.Mi.coll];omega⟩
     clear ih
     simp [f0,f4,f5,hu,e3,e4,hpk,hnx,e5,hpk2,e6]
     refine hfin _ ?_ ?_ ?_
     all_goals simp [f0,f4,f5]
    |cons c r'=>
     have hlt2:j+u+1<s.length:=by simp at hlen4;omega
     rw [decide_eq_true hlt2]at hpk2
     have hpk2:LC Tryz.prog EJ 192 [ptr l 0,.int .i64 0] H5=some (.tuple #[.int .u8 c.toNat,.bool true],H5):=hpk2
     have hnx2:=cnext_k c5 (by omega) hlt2 (by omega)
     have hc1:Tg.Mi.coll (92::c::r')=(c::(Tg.Mi.coll r').1,92::c::(Tg.Mi.coll r').2.1,(Tg.Mi.coll r').2.2+2):=by
      conv=>lhs;unfold Tg.Mi.coll
      rfl
     rw [hc1]at q1 q2 q3
     have hr2:s.drop (j+u+2)=r':=by
      have:s.drop (j+u+1+1)=r':=by rw [←List.drop_drop,hr];rfl
      exact this
     obtain⟨v6,H6,e6,t6,n6,k6⟩:=(t5.low (B:=cu s (j+u+1+1)) hl).byte1 (c:=c) (by unfold maxElems;simp;omega)
     obtain⟨v7,H7,e7,t7,n7,k7⟩:=t6.byte2 (c:=c) (by unfold maxElems;simp;omega)
     have n6:H5.n≤H6.n:=n6
     have hfin:=fun fr2 (g0:fr2 0=ptr l 0) (g4:fr2 4=ptr H.n 0) (g5:fr2 5=ptr (H.n+1) 0)=>ih (j+u+2) fr2 H7 (by omega) ⟨t++x++ [c],a++x++ [92]++ [c],v6,v7,g0,g4,g5,by omega,by omega,by simp;omega,by simp;omega,by rw [show 34::(a++x++ [92]++ [c])=34::a++x++ [92]++ [c] by simp];exact t7,by rw [k7 l hl,k6 l hl,get_set],by omega,fun k hk2 hne=>by rw [k7 k hk2,k6 k hk2,get_set_ne hne,o5 k hk2 hne],by rw [hr2,q1];simp,by rw [hr2,q2];simp,by rw [hr2,q3];simp;omega⟩
     clear ih
     simp [f0,f4,f5,hu,e3,e4,hpk,hnx,e5,hpk2,hnx2,e6,e7]
     refine hfin _ ?_ ?_ ?_
     all_goals simp [f0,f4,f5]
 obtain⟨⟨r1,r2⟩,e,h1,h2⟩:=key
 simp only at h1 h2
 subst h1
 rcases trunc_or (.tuple #[str (Tg.Mi.coll (s.drop (i+1))).1,str (34::(Tg.Mi.coll (s.drop (i+1))).2.1)]) H r2 with e2|⟨e2,_,hle⟩
 ·exact⟨r2,by rw [e,e2],h2⟩
 ·exact⟨H,by rw [e,e2],⟨by rw [←hle.2 l hl];exact h2.get,Nat.le_refl _,fun _ _ _=>rfl⟩⟩
end
end Go.Proofs.YtjplaockjmhnjaaGreatDoor.Mi
namespace Tg.Mi
def white (b:UInt8):Bool:=decide ((b.toNat:Int)=9)||decide ((b.toNat:Int)=10)||decide ((b.toNat:Int)=13)||decide ((b.toNat:Int)=32)
def back (f:UInt8→Bool):List UInt8→List UInt8
 | []=> []
 |b::r=>if back f r= []∧f b=true then []else b::back f r
theorem back_snoc (f:UInt8→Bool) (b:UInt8): ∀s:List UInt8,back f (s++ [b])=if f b=true then back f s else s++ [b]
 | []=>by by_cases h:f b=true<;>simp [back,h]
 |a::s=>by
  have ih:=back_snoc f b s
  rw [List.cons_append]
  unfold back
  rw [ih]
  by_cases h:f b=true
  ·simp [h]
  ·simp [h]
end Tg.Mi
namespace Go.Proofs.YtjplaockjmhnjaaGreatDoor.Mi
open Go.Lg Go.Tg
section
variable {H H':LH} {N b l i:Nat} {s:List UInt8} {v:Value}
theorem OutC.trunc {j:Nat} {u:Value} {H':LH} (h:OutC H l s j H') (hl:l<H.n): ∃H2,Lg.trunc H (u,H')=(u,H2)∧OutC H l s j H2:=by
 rcases trunc_or u H H' with e2|⟨e2,_,hle⟩
 ·exact⟨H',e2,h⟩
 ·exact⟨H,e2,⟨by rw [←hle.2 l hl];exact h.get,Nat.le_refl _,fun _ _ _=>rfl⟩⟩
theorem Collect_ex {x:Bool} (hk:H.get l=some (cu s i)) (hl:l<H.n) (hi:i<s.length) (hs:s.length≤100000) (hq:s[i]=34):
  ∃H',LC Tryz.prog EJ 303 [ptr l 0,.bool x] H=some (str (if x=true then(Tg.Mi.coll (s.drop (i+1))).1 else 34::(Tg.Mi.coll (s.drop (i+1))).2.1),H')∧OutC H l s (i+1+(Tg.Mi.coll (s.drop (i+1))).2.2) H':=by
 have key: ∃r,LC Tryz.prog EJ 303 [ptr l 0,.bool x] H=some (Lg.trunc H r)∧r.1=str (if x=true then(Tg.Mi.coll (s.drop (i+1))).1 else 34::(Tg.Mi.coll (s.drop (i+1))).2.1)∧OutC H l s (i+1+(Tg.Mi.coll (s.drop (i+1))).2.2) r.2:=by
  refine LC_runs (P:=Tryz.prog) (E:=EJ) (f:=303) rfl Tryz.func303 rfl (Nat.le_of_ble_eq_true rfl) (by decide) (by kernel_rfl) ?_
  obtain⟨H1,e1,o1⟩:=collect_ex hk hl hi hs hq
  cases x
  ·simp [e1];exact o1
  ·simp [e1];exact o1
 obtain⟨⟨u,H1⟩,e,h1,h2⟩:=key
 simp only at h1 h2
 subst h1
 obtain⟨H2,e2,o2⟩:=h2.trunc hl (u:=str (if x=true then(Tg.Mi.coll (s.drop (i+1))).1 else 34::(Tg.Mi.coll (s.drop (i+1))).2.1))
 exact⟨H2,by rw [e,e2],o2⟩
theorem white_k {b:UInt8} :LC Tryz.prog EJ 142 [.int .u8 b.toNat] H=some (.bool (Tg.Mi.white b),H):=by
 have h1: ∀H:LH,LC Tryz.prog EJ 182 [.int .u8 b.toNat] H=some (.bool (Tg.Mi.white b),H):=fun H=>by
  refine LC_pure rfl Tryz.func182 rfl (Nat.le_of_ble_eq_true rfl) (by decide) (by kernel_rfl) rfl ?_
  unfold Tg.Mi.white
  by_cases a1:(b.toNat:Int)=9
  ·simp [a1]
  ·by_cases a2:(b.toNat:Int)=10
   ·simp [a2]
   ·by_cases a3:(b.toNat:Int)=13
    ·simp [a3]
    ·have a1:=eq_false a1
     have a2:=eq_false a2
     have a3:=eq_false a3
     simp [a1,a2,a3]
 refine LC_pure rfl Tryz.func142 rfl (Nat.le_of_ble_eq_true rfl) (by decide) (by kernel_rfl) rfl ?_
 simp [h1]
theorem mback_k (hs:s.length≤1000000):LC Tryz.prog EJ 252 [str s] H=some (str (Tg.Mi.back Tg.Mi.white s),H):=by
 refine LC_pure rfl Tryz.func252 rfl (Nat.le_of_ble_eq_true rfl) (by decide) (by kernel_rfl) rfl ?_
 simp
 obtain⟨R,hR⟩: ∃R,R=Tg.Mi.back Tg.Mi.white s:=⟨_,rfl⟩
 rw [←hR]
 refine loop_ind (fun(k:Nat) fr' H'=> ∃j:Nat,fr' 0=str s∧fr' 3=.int .i64 j∧j+k=s.length∧Tg.Mi.back Tg.Mi.white (s.take j)=R∧H=H') (fun k=>s.length-k) 0 ⟨s.length,by simp,by simp,by omega,by rw [List.take_length];exact hR.symm,rfl⟩ ?_
 rintro k fr' H' ⟨j,f0,f3,hj,hq,rfl⟩ ih
 rcases Nat.eq_zero_or_pos j with h0|h0
 ·subst h0
  simp [Tg.Mi.back]at hq
  subst hq
  simp [f0,f3]
 ·obtain⟨m,rfl⟩: ∃m,j=m+1:=⟨j-1,by omega⟩
  have hlt:m<s.length:=by omega
  have q0:=eq_true (show(0:Int)<(m:Int)+1 by omega)
  have hw:IntKind.i64.wrap ((m:Int)+1-1)=(m:Int):=by rw [wrapI (by omega) (by omega)];omega
  have hw2:IntKind.i64.wrap (m:Int)=(m:Int):=wrapI (by omega) (by omega)
  have hat:at_ s (m:Int)=s[m]:=at_in hlt
  have ql:=eq_true (show(m:Int)<(s.length:Int) by omega)
  have ql2:=eq_true (show(m:Int)+1≤(s.length:Int) by omega)
  rw [List.take_succ_eq_append_getElem hlt,Tg.Mi.back_snoc]at hq
  have hwh:=fun H:LH=>white_k (H:=H) (b:=s[m])
  cases hb:Tg.Mi.white s[m]with
  |true=>
   rw [hb]at hq hwh
   simp only [if_true]at hq
   simp [f0,f3,q0,hw,hw2,hat,ql,hwh]
   refine ih (k+1) _ _ (by omega) ⟨m,?_,?_,by omega,hq,rfl⟩
   all_goals simp [f0,hw,hw2]
  |false=>
   rw [hb]at hq hwh
   simp only [Bool.false_eq_true,if_false]at hq
   have ht:s.take (m+1)=R:=by rw [List.take_succ_eq_append_getElem hlt];exact hq
   have ht2:s.take ((m:Int)+1).toNat=R:=by rw [show((m:Int)+1).toNat=m+1 by omega];exact ht
   have qn:=eq_true (show(0:Int)≤(m:Int)+1 by omega)
   simp [f0,f3,q0,hw,hw2,hat,ql,ql2,qn,hwh,ht,ht2]
end
section
variable {H H':LH} {s t:List UInt8} {l i n:Nat}
end
section
variable {H H':LH} {s t:List UInt8} {l i n p:Nat}
end
end Go.Proofs.YtjplaockjmhnjaaGreatDoor.Mi
namespace Go.Proofs.YtjplaockjmhnjaaGreatDoor
open Go.Lg Go.Tg
theorem ran_of_sound {P:Program} {E:PEnv} {f:FuncId} {args:List Value} {H H':LH} {v:Value} (h:Sound P E (.call f args H (.ret v) H')):Ran P f args H v H':=by
 obtain⟨he,hc⟩:=h
 refine .inl ⟨he,fun ι w args' h1 h2 h3=>(hc ι w args' h1 h2 h3).mono ?_⟩
 rintro e w' ⟨ι',⟨v',rfl,hv⟩,ho⟩
 exact⟨ι',v',rfl,ho,hv⟩
noncomputable def asEJ (f:FuncId):FuncId×Lg.Spec:=(f,fun args H=>LC Tryz.prog EJ f args H)
theorem asEJ_ok {f:FuncId} :SpecOk Tryz.prog (asEJ f).1 (asEJ f).2:=fun args H v H' h=>tOk _ _ _ _ _ h
def specFilm:Lg.Spec:=fun args H=>match args with
 | [.string s]=>if s.size≤1000000 then some (str (Tg.Un.film s.data.toList),H)else none
 |_=>none
theorem ok_Film:SpecOk Tryz.prog 167 specFilm:=by
 intro args H v H' h
 unfold specFilm at h
 split at h
 ·rename_i s
  split at h
  ·rename_i hs
   simp only [Option.some.injEq,Prod.mk.injEq]at h
   obtain⟨rfl,rfl⟩:=h
   have hl:s.data.toList.length≤1000000:=by simpa using hs
   have:=ran_of_sound (soundU (Media_r (H:=H) (s:=s.data.toList) hl))
   rw [str_ba]
   exact this
  ·cases h
 ·cases h
open Classical in
noncomputable def specJson:Lg.Spec:=fun args H=>match args with
 | [.string s]=>if h: ∃b:Bool,R Tryz.prog EPu (.call 67 [.string s] H (.ret (.bool b)) H)then some (.bool (Classical.choose h),H)else none
 |_=>none
theorem ok_Json:SpecOk Tryz.prog 67 specJson:=by
 intro args H v H' h
 unfold specJson at h
 split at h
 ·rename_i s
  split at h
  ·rename_i hb
   simp only [Option.some.injEq,Prod.mk.injEq]at h
   obtain⟨rfl,rfl⟩:=h
   exact ran_of_sound (soundU (Classical.choose_spec hb))
  ·cases h
 ·cases h
def asL:List FuncId:=
 9::
 31::
 168::
 71::
 42::
 124::
 85::
 27::
 13::
 30::
 234::
 120::
 174::
 33::
 16::
 23::
 63::
 65::
 60::
 17::
 []
noncomputable def spL:List (FuncId×Lg.Spec):=
 (121,specFields)::
 (167,specFilm)::
 (67,specJson)::
 []
noncomputable def specsSn:List (FuncId×Lg.Spec):=spL++asL.map asEJ
namespace Sn
def pmT (n id k:Nat):List Nat:=if n=55∧id=2∧k=10 then [0,1,2,3,4,7,8,5,6,9]else []
def chM (n id k:Nat):Option (List (Nat×Nat)):=if n=55∧id=2∧k=10 then some [(0,2),(0,5),(0,8),(1,5),(1,8)]else chT n id k
attribute [simp] pmT chM
noncomputable def EJ:Ext:=⟨(extLL specsSn []).ext,⟨fun _=>false,chM,fun s d=>s==9&&d==35,pmT⟩⟩
@[simp] theorem EJ_cv {s d:TypeId} :EJ.loud.cv s d=(s==9&&d==35):=rfl
@[simp] theorem EJ_pm {n id k:Nat} :EJ.loud.pm n id k=pmT n id k:=rfl
@[simp] theorem EJ_ch {n id k:Nat} :EJ.loud.ch n id k=chM n id k:=rfl
@[simp] theorem EJ_loud {g:FuncId} :EJ.loud g=false:=rfl
theorem specs_ok: ∀p∈specsSn,SpecOk Tryz.prog p.1 p.2:=by
 intro p hp
 unfold specsSn at hp
 rcases List.mem_append.1 hp with hp|hp
 ·unfold spL at hp
  rcases List.mem_cons.1 hp with rfl|hp
  ·exact ok_Fields
  rcases List.mem_cons.1 hp with rfl|hp
  ·exact ok_Film
  rcases List.mem_cons.1 hp with rfl|hp
  ·exact ok_Json
  cases hp
 ·obtain⟨f,_,rfl⟩:=List.mem_map.1 hp
  exact asEJ_ok
theorem extOk:ExtOk Tryz.prog EJ:=fun f s hs=>extL_ok (loud:= []) specs_ok f s hs
theorem tOk:TOk Tryz.prog (LC Tryz.prog EJ):=LC_ok extOk mixed
section
variable {H:LH} {s t:List UInt8} {v w:Value}
theorem up {f:FuncId} {args:List Value} {r:Value×LH} (hf:EJ f=some (asEJ f).2) (h:LC Tryz.prog Go.Proofs.YtjplaockjmhnjaaGreatDoor.EJ f args H=some r):LC Tryz.prog EJ f args H=some r:=LC_ext hf h
theorem film_k (hs:s.length≤1000000):LC Tryz.prog EJ 167 [str s] H=some (str (Tg.Un.film s),H):=LC_ext (s:=specFilm) rfl (by
 unfold specFilm str
 dsimp only
 rw [if_pos (by rw [ba_size];exact hs)])
theorem cut_k {k:Int} (h0:0≤k):LC Tryz.prog EJ 9 [str s,.int .i64 k] H=some (str (s.take k.toNat),H):=up rfl (tcut_cl h0)
theorem bcut_k:LC Tryz.prog EJ 31 [str s] H=some (str (s.take 1445),H):=up rfl bcut_cl
theorem image_k:LC Tryz.prog EJ 85 [str s] H=some (str (Tg.Un.typeOf (s.take 1445) Tg.Un.imageL),H):=up rfl simage_cl
theorem rmedia_k:LC Tryz.prog EJ 13 [str s] H=some (str (Tg.Un.film (s.take 1445)),H):=up rfl rmedia21_cl
theorem film21_k:LC Tryz.prog EJ 123 [str s] H=some (str (Tg.Un.film (s.take 1445)),H):=by
 refine LC_pure rfl Tryz.func123 rfl (Nat.le_of_ble_eq_true rfl) (by decide) (by kernel_rfl) rfl ?_
 have h1:=fun H:LH=>bcut_k (H:=H) (s:=s)
 have h2:=fun H:LH=>film_k (H:=H) (s:=s.take 1445) (by rw [List.length_take];omega)
 generalize s.take 1445=u at*
 simp [h1,h2]
theorem media_k:LC Tryz.prog EJ 84 [str s] H=some (str (Tg.Un.film (s.take 1445)),H):=by
 have h0:=fun H:LH=>film21_k (H:=H) (s:=s)
 refine LC_pure rfl Tryz.func84 rfl (Nat.le_of_ble_eq_true rfl) (by decide) (by kernel_rfl) rfl ?_
 simp [h0]
end
end Sn
section
variable {H:LH}
end
end Go.Proofs.YtjplaockjmhnjaaGreatDoor
namespace Tg.Sn
open Tg.Un
def kind (s:List UInt8):List UInt8×Bool:=if film (s.take 1445)≠ []then(film (s.take 1445),true)else(typeOf (s.take 1445) imageL,false)
end Tg.Sn
namespace Go.Proofs.YtjplaockjmhnjaaGreatDoor.Sn
open Go.Lg Go.Tg
section
variable {H:LH} {s t:List UInt8} {v w:Value}
theorem okind_k:LC Tryz.prog EJ 50 [str s] H=some (.tuple #[str (Tg.Sn.kind s).1,.bool (Tg.Sn.kind s).2],H):=by
 refine LC_pure rfl Tryz.func50 rfl (Nat.le_of_ble_eq_true rfl) (by decide) (by kernel_rfl) rfl ?_
 have h1:=fun H:LH=>media_k (H:=H) (s:=s)
 have h2:=fun H:LH=>image_k (H:=H) (s:=s)
 unfold Tg.Sn.kind
 generalize Tg.Un.film (s.take 1445)=x at*
 generalize Tg.Un.typeOf (s.take 1445) Tg.Un.imageL=y at*
 by_cases h:x= []
 ·subst h
  simp [h1,h2]
 ·simp [h1,h2,h]
def at31 (n:Int):Int:=if n<0 then 0 else if 1445<n then 1445 else n
theorem at_k {n:Int} :LC Tryz.prog EJ 25 [.int .i64 n] H=some (.int .i64 (at31 n),H):=by
 refine LC_pure rfl Tryz.func25 rfl (Nat.le_of_ble_eq_true rfl) (by decide) (by kernel_rfl) rfl ?_
 unfold at31
 by_cases h:n<0
 ·have q:=eq_true h
  simp [q]
 ·have q:=eq_false h
  by_cases h2:1445<n
  ·have q2:=eq_true h2
   simp [q,q2]
  ·have q2:=eq_false h2
   simp [q,q2]
end
end Go.Proofs.YtjplaockjmhnjaaGreatDoor.Sn
