/-
  Texts joined, part 6: MiMime, MiPar, MiParse, MiGood, MiWith, HdRows, HdRef, HdList, HdText, HdSetC, HdSetR, MiRefA, MiRefB, MiRefC, MiSplitB, HdGet, HdGetR, MiComb, MiRefD, MiExt, MiRefE, MiSaid, MiSaidB, MiRefF, ObJudge, ObOf, ObLaw, DoorN, DoorR, DoorK, SmNew, ObCorbA, ClGrp, ObCorbB, ObCorbC, ObCorbD, HdSetD, HdDel, SmHead, SmStep, SmNone.
-/
import Derived.Test.YtcgiaiimbnoknaaGreatDoorM5
import Derived.Test.YtcgiaiimbnoknaaGreatDoorM4
import Derived.Test.YtcgiaiimbnoknaaGreatDoorRows
import Derived.Test.YtcgiaiimbnoknaaGreatDoorM1
import Derived.ProofKit
import Derived.WideShapes
import Derived.RowKit
import Derived.ChangeArms
import Derived.LaidMore
import Derived.LaidSub
import Derived.Lib.LaidTab
import Derived.Stop.Joined
import Derived.Shelf.Vars
import Derived.HandedShaped
import Derived.Lay
import Derived.DataShut
import GoSem.ClaimGoes
set_option linter.unusedSimpArgs false
set_option linter.unusedVariables false
set_option maxRecDepth 100000
namespace Tg.Mi
abbrev Par:=List UInt8×List UInt8
structure Mim where
 t:List UInt8
 s:List UInt8
 ps:List Par
deriving DecidableEq
def tokenP (s:List UInt8):Bool:=decide (s≠ [])&&s.all Tg.Hd.tok
def quo (b:UInt8):Bool:=decide ((b.toNat:Int)=9)||(decide (32≤(b.toNat:Int))&&decide ((b.toNat:Int)≤126))||decide (128≤(b.toNat:Int))
def fnd (name:List UInt8):List Par→Nat→Int
 | [],_=> -1
 |p::l,i=>if p.1=name then i else fnd name l (i+1)
theorem fnd_ge (name:List UInt8): ∀(l:List Par) (i:Nat),fnd name l i= -1∨ ∃j:Nat,fnd name l i=((i+j:Nat):Int)∧j<l.length∧ ∀(h:j<l.length),l[j].1=name
 | [],i=>.inl rfl
 |p::l,i=>by
  unfold fnd
  by_cases h:p.1=name
  ·rw [if_pos h];exact .inr ⟨0,by simp,by simp,fun _=>h⟩
  ·rw [if_neg h]
   rcases fnd_ge name l (i+1)with h2|⟨j,h2,h3,h4⟩
   ·exact .inl h2
   ·refine .inr ⟨j+1,?_,by simpa using h3,fun _=>by simpa using h4 h3⟩
    rw [h2];congr 1;omega
def parP (x:List UInt8):Par×Bool×Nat:=
 match x.drop (while_ white x+until_ [59,61] (x.drop (while_ white x)))with
 |61::y=>if y= []then((Tg.Lo.lower ((x.drop (while_ white x)).take (until_ [59,61] (x.drop (while_ white x)))),[]),false,while_ white x+until_ [59,61] (x.drop (while_ white x))+1)
   else((Tg.Lo.lower ((x.drop (while_ white x)).take (until_ [59,61] (x.drop (while_ white x)))),(valP y).1),(valP y).2.1&&(tokenP (Tg.Lo.lower ((x.drop (while_ white x)).take (until_ [59,61] (x.drop (while_ white x)))))&&(valP y).1.all quo),while_ white x+until_ [59,61] (x.drop (while_ white x))+1+(valP y).2.2)
 |_=>((Tg.Lo.lower ((x.drop (while_ white x)).take (until_ [59,61] (x.drop (while_ white x)))),[]),false,while_ white x+until_ [59,61] (x.drop (while_ white x)))
theorem valP_le (x:List UInt8):(valP x).2.2≤x.length:=by
 unfold valP
 split
 ·rename_i r
  have h1:=coll_le r
  have h2:=until_le [59] (r.drop (coll r).2.2)
  rw [List.length_drop]at h2
  simp only [List.length_cons,semi]
  omega
 ·exact until_le [59] x
theorem coll_len: ∀x:List UInt8,(coll x).1.length≤x.length
 | []=>by simp [coll]
 |b::r=>by
  unfold coll
  split
  ·simp
  ·split
   ·cases r with
    |nil=>simp
    |cons c r'=>have:=coll_len r';simp;omega
   ·have:=coll_len r;simp;omega
theorem valP_len (x:List UInt8):(valP x).1.length≤x.length:=by
 unfold valP
 split
 ·rename_i r
  have:=coll_len r
  simp only [List.length_cons];omega
 ·have:=back_le white (x.take (semi x))
  rw [List.length_take]at this
  simp only;omega
theorem parP_le (x:List UInt8):(parP x).2.2≤x.length:=by
 have h1:=while_le white x
 have h2:=until_le [59,61] (x.drop (while_ white x))
 rw [List.length_drop]at h2
 unfold parP
 split
 ·rename_i y hy
  have h3:=congrArg List.length hy
  rw [List.length_drop,List.length_cons]at h3
  split
  ·simp only;omega
  ·have:=valP_le y
   simp only;omega
 ·simp only;omega
end Tg.Mi
namespace Go.Proofs.YtcgiaiimbnoknaaGreatDoor.Mi
open Go.Lg Go.Tg
abbrev pv2 (p:Tg.Mi.Par):Value:=.agg #[str p.1,str p.2]
abbrev mv (t u:List UInt8) (v:Value):Value:=.agg #[str t,str u,v]
def elP:El Tg.Mi.Par:=El.flat 2 (fun a=> [str a.1,str a.2]) (fun _=>rfl) (fun _=>by simp)
section
variable {H H':LH} {N M b c l i p:Nat} {s t u name:List UInt8} {v w:Value} {ps:List Tg.Mi.Par} {a:Tg.Mi.Par}
theorem szP:sz Tryz.prog 253=some elP.n:=by kernel_rfl
theorem mtoken_k (hs:s.length≤1000000):LC Tryz.prog EJ 291 [str s] H=some (.bool (Tg.Mi.tokenP s),H):=by
 refine LC_pure rfl Tryz.func291 rfl (Nat.le_of_ble_eq_true rfl) (by decide) (by kernel_rfl) rfl ?_
 have h1:=fun H:LH=>all_k (H:=H) (s:=s) (g:=318) (p:=Tg.Hd.tok) (fun H b=>Token_cl) hs
 unfold Tg.Mi.tokenP
 by_cases h:s= []
 ·subst h;simp
 ·simp [h,h1]
theorem quoted_k {b:UInt8} :LC Tryz.prog EJ 297 [.int .u8 b.toNat] H=some (.bool (Tg.Mi.quo b),H):=by
 refine LC_pure rfl Tryz.func297 rfl (Nat.le_of_ble_eq_true rfl) (by decide) (by kernel_rfl) rfl ?_
 unfold Tg.Mi.quo
 by_cases a1:(b.toNat:Int)=9
 ·simp [a1]
 ·by_cases a2:32≤(b.toNat:Int)
  ·by_cases a3:(b.toNat:Int)≤126
   ·have a1:=eq_false a1
    have a2:=eq_true a2
    have a3:=eq_true a3
    simp [a1,a2,a3]
   ·have a1:=eq_false a1
    have a2:=eq_true a2
    have a3:=eq_false a3
    simp [a1,a2,a3]
  ·have a1:=eq_false a1
   have a2:=eq_false a2
   simp [a1,a2]
theorem qall_k (hs:s.length≤1000000):LC Tryz.prog EJ 296 [str s,.func (.func 297) #[] #[]] H=some (.bool (s.all Tg.Mi.quo),H):=all_k (fun H b=>quoted_k) hs
theorem lower_len:(Tg.Lo.lower s).length=s.length:=by simp [Tg.Lo.lower]
theorem Lower_k (hs:s.length≤1000000):LC Tryz.prog EJ 289 [str s] H=some (str (Tg.Lo.lower s),H):=by
 refine LC_pure rfl Tryz.func289 rfl (Nat.le_of_ble_eq_true rfl) (by decide) (by kernel_rfl) rfl ?_
 have h1:=fun H:LH=>lower_l (H:=H) (s:=s) (by unfold maxLen;omega)
 simp [h1]
theorem par_at (hr:RowG elP 253 N H v ps) {i:Nat} (hi:i<ps.length): ∃k o,(∀H':LH,lixa Tryz.prog 111 v (.int .i64 i) H'=some (ptr k o,H'))∧k<H.n∧ ∀H':LH,H'.get k=H.get k→
  lld Tryz.prog 253 (ptr k o) H'=some (pv2 ps[i])∧lld Tryz.prog 9 (ptr k o) H'=some (str ps[i].1)∧lld Tryz.prog 9 (ptr k (o+1)) H'=some (str ps[i].2):=by
 obtain⟨k,o,cs,h1,h2,h3,h4⟩:=hr.at (P:=Tryz.prog) (t:=111) Tryz.underlying111 szP hi
 have h3:cs= [str ps[i].1,str ps[i].2]:=h3
 subst h3
 refine⟨k,o,h1,h2,fun H' he=>?_⟩
 obtain⟨g1,g2,_⟩:=h4 H' he
 exact⟨g1 (by kernel_rfl),g2 0 _ _ (by kernel_rfl) rfl,g2 1 _ _ (by kernel_rfl) rfl⟩
theorem find1_k (hg:H.get p=some ⟨[str name],9,true⟩) (hp:p<H.n):LC Tryz.prog EJ 321 [pv2 a,ptr p 0] H=some (.bool (decide (a.1=name)),H):=by
 refine LC_pure rfl Tryz.func321 rfl (Nat.le_of_ble_eq_true rfl) (by decide) (by kernel_rfl) rfl ?_
 have hne:=eq_false (show¬p=H.n by omega)
 simp [hg,hne,le_refl.new]
theorem pindex_k (hr:RowG elP 253 N H v ps) (hl:ps.length≤1000000) (hg:H.get p=some ⟨[str name],9,true⟩) (hp:p<H.n):LC Tryz.prog EJ 320 [v,.func (.func 321) #[] #[ptr p 0]] H=some (.int .i64 (Tg.Mi.fnd name ps 0),H):=by
 refine LC_pure rfl Tryz.func320 rfl (Nat.le_of_ble_eq_true rfl) (by decide) (by kernel_rfl) (by simp) ?_
 obtain⟨x,hx⟩: ∃x,x=Tg.Mi.fnd name ps 0:=⟨_,rfl⟩
 rw [←hx]
 have hlen:=fun H':LH=>hr.len (P:=Tryz.prog) (t:=111) (H':=H') Tryz.underlying111
 simp [hlen]
 refine loop_ind (fun(i:Nat) fr' H'=>fr' 0=v∧fr' 1=.func (.func 321) #[] #[ptr p 0]∧fr' 7=.int .i64 ps.length∧fr' 8=.int .i64 i∧i≤ps.length∧x=Tg.Mi.fnd name (ps.drop i) i∧H'=H) (fun i=>ps.length-i) 0 ⟨by simp,by simp,by simp,by simp,Nat.zero_le _,hx,rfl⟩ ?_
 rintro i fr' H' ⟨h0,h1,h7,h8,hi,hc,rfl⟩ ih
 by_cases hlt:i<ps.length
 ·have q:=eq_true (show(i:Int)<(ps.length:Int) by omega)
  have hw:IntKind.i64.wrap ((i:Int)+1)=((i+1:Nat):Int):=by rw [wrapI (by omega) (by omega)];omega
  obtain⟨k,o,g1,g2,g3⟩:=par_at hr hlt
  obtain⟨g4,_,_⟩:=g3 H' rfl
  have ho:=fun a=>find1_k (H:=H') (p:=p) (name:=name) (a:=a) hg hp
  rw [List.drop_eq_getElem_cons hlt]at hc
  generalize ps[i]=a at*
  unfold Tg.Mi.fnd at hc
  by_cases hf:a.1=name
  ·rw [if_pos hf]at hc
   have hf:=eq_true hf
   subst hc
   simp [h0,h1,h7,h8,q,hlt,g1,g4,ho,hf]
  ·rw [if_neg hf]at hc
   have hf:=eq_false hf
   simp [h0,h1,h7,h8,q,hlt,g1,g4,ho,hf]
   refine ih (i+1) _ _ (by omega) ⟨?_,?_,?_,?_,by omega,hc,rfl⟩
   all_goals simp [h0,h1,h7,hw]
 ·have q:=eq_false (show¬(i:Int)<(ps.length:Int) by omega)
  rw [List.drop_of_length_le (by omega)]at hc
  have hc:x= -1:=hc
  subst hc
  simp [h0,h1,h7,h8,q,hlt]
theorem mfind_k (hr:RowG elP 253 N H v ps) (hl:ps.length≤1000000):LC Tryz.prog EJ 293 [mv t u v,str name] H=some (.int .i64 (Tg.Mi.fnd name ps 0),H):=by
 refine LC_pure rfl Tryz.func293 rfl (Nat.le_of_ble_eq_true rfl) (by decide) (by kernel_rfl) rfl ?_
 have hcv:=hr.cell
 obtain⟨Hb,hHb⟩: ∃Hb,Hb=(H.new ⟨[str t,str u,v],113,true⟩).new ⟨[str name],9,true⟩:=⟨_,rfl⟩
 have hle:H.le Hb:=by rw [hHb];exact le_refl.new.new
 have h1:=pindex_k (H:=Hb) (p:=H.n+1) (name:=name) (hr.le hle) hl (by rw [hHb];exact get_new) (by rw [hHb,n_new,n_new];omega)
 rw [hHb]at h1
 have d1:(H.n=H.n+1)=False:=eq_false (by omega)
 simp [hcv,h1,d1,le_refl.new.new]
end
section
variable {H H':LH} {N M b c l i p:Nat} {s t u name:List UInt8} {v w:Value} {ps:List Tg.Mi.Par} {a:Tg.Mi.Par}
theorem val_ex (hk:H.get l=some (cu s i)) (hl:l<H.n) (hi:i≤s.length) (hs:s.length≤100000):
  ∃H',LC Tryz.prog EJ 319 [ptr l 0] H=some (.tuple #[str (Tg.Mi.valP (s.drop i)).1,.bool (Tg.Mi.valP (s.drop i)).2.1],H')∧OutC H l s (i+(Tg.Mi.valP (s.drop i)).2.2) H':=by
 have hd:(s.drop i).length=s.length-i:=List.length_drop
 by_cases hq:(s.drop i).head?=some 34
 ·obtain⟨r,hr⟩: ∃r,s.drop i=34::r:=by
   cases hx:s.drop i with
   |nil=>rw [hx]at hq;simp at hq
   |cons b r=>rw [hx]at hq;simp at hq;subst hq;exact⟨r,rfl⟩
  have hlt:i<s.length:=by rw [hr]at hd;simp at hd;omega
  have h2:=List.drop_eq_getElem_cons hlt
  rw [hr]at h2
  injection h2 with h3 h4
  have hcl:=Tg.Mi.coll_le r
  have hrl:r.length+1=s.length-i:=by rw [hr]at hd;simpa using hd
  obtain⟨H1,e1,o1⟩:=val_q hk hl hlt hs h3.symm (by rw [←h4];omega)
  rw [←h4]at e1 o1
  rw [hr]
  refine⟨H1,e1,?_⟩
  have hdd:s.drop (i+1+(Tg.Mi.coll r).2.2)=r.drop (Tg.Mi.coll r).2.2:=by rw [←List.drop_drop,←h4]
  rw [hdd]at o1
  show OutC H l s (i+(1+(Tg.Mi.coll r).2.2+Tg.Mi.until_ [59] (r.drop (Tg.Mi.coll r).2.2))) H1
  rw [show i+(1+(Tg.Mi.coll r).2.2+Tg.Mi.until_ [59] (r.drop (Tg.Mi.coll r).2.2))=i+1+(Tg.Mi.coll r).2.2+Tg.Mi.until_ [59] (r.drop (Tg.Mi.coll r).2.2) by omega]
  exact o1
 ·obtain⟨H1,e1,o1⟩:=val_n hk hl hi hs hq
  have hv:Tg.Mi.valP (s.drop i)=(Tg.Mi.back Tg.Mi.white ((s.drop i).take (Tg.Mi.until_ [59] (s.drop i))),decide (Tg.Mi.back Tg.Mi.white ((s.drop i).take (Tg.Mi.until_ [59] (s.drop i)))≠ []),Tg.Mi.until_ [59] (s.drop i)):=by
   unfold Tg.Mi.valP
   split
   ·rename_i r hr;rw [hr]at hq;simp at hq
   ·rfl
  rw [hv]
  exact⟨H1,e1,o1⟩
theorem lfill_q1 {a:List UInt8} :lfill Tryz.prog 253 [str [],str []] [(0,str a)]=some [str a,str []]:=by
 rw [lfill_cell (o:=0) (n:=1) (g:=false) (by simp) rfl (by simp) (by simp)]
 simp
theorem OutC.le_trans {j j':Nat} {H1:LH} (h:OutC H l s j H1) (g:OutC H1 l s j' H'):OutC H l s j' H':=⟨g.get,Nat.le_trans h.n g.n,fun k hk hne=>by rw [g.old k (Nat.lt_of_lt_of_le hk h.n) hne,h.old k hk hne]⟩
theorem param_ex (hk:H.get l=some (cu s i)) (hl:l<H.n) (hi:i≤s.length) (hs:s.length≤100000):
  ∃H',LC Tryz.prog EJ 292 [ptr l 0] H=some (.tuple #[pv2 (Tg.Mi.parP (s.drop i)).1,.bool (Tg.Mi.parP (s.drop i)).2.1],H')∧OutC H l s (i+(Tg.Mi.parP (s.drop i)).2.2) H':=by
 have key: ∃r,LC Tryz.prog EJ 292 [ptr l 0] H=some (Lg.trunc H r)∧r.1=.tuple #[pv2 (Tg.Mi.parP (s.drop i)).1,.bool (Tg.Mi.parP (s.drop i)).2.1]∧OutC H l s (i+(Tg.Mi.parP (s.drop i)).2.2) r.2:=by
  refine LC_runs (P:=Tryz.prog) (E:=EJ) (f:=292) rfl Tryz.func292 rfl (Nat.le_of_ble_eq_true rfl) (by decide) (by kernel_rfl) ?_
  have hwl:=Tg.Mi.while_le Tg.Mi.white (s.drop i)
  have hul:=Tg.Mi.until_le [59,61] ((s.drop i).drop (Tg.Mi.while_ Tg.Mi.white (s.drop i)))
  have hd:(s.drop i).length=s.length-i:=List.length_drop
  rw [List.length_drop]at hul
  have hne:l≠H.n:=by omega
  have hp:Tg.Mi.parP (s.drop i)=Tg.Mi.parP (s.drop i):=rfl
  conv at hp=>rhs;unfold Tg.Mi.parP
  rw [hp]
  clear hp
  have e1:=cwhile_k (H:=H.new ⟨[str [],str []],253,true⟩) (g:=215) (p:=Tg.Mi.white) (fun H b=>white_k) (by rw [get_new_ne hne];exact hk) (by rw [n_new];omega) hi (by omega)
  have e2:=cuntil_k (H:=(H.new ⟨[str [],str []],253,true⟩).set l (cu s (i+Tg.Mi.while_ Tg.Mi.white (s.drop i)))) (t:= [59,61]) get_set (by rw [n_set,n_new];omega) (by omega) (by omega)
  simp only [List.drop_drop]at e2 hul⊢
  generalize Tg.Mi.while_ Tg.Mi.white (s.drop i)=w0 at*
  generalize hx:s.drop (i+w0)=x at*
  generalize hu0:Tg.Mi.until_ [59,61] x=u0 at*
  have e3:=fun H:LH=>Lower_k (H:=H) (s:=x.take u0) (by rw [List.length_take];omega)
  have hnl:(x.take u0).length≤100000:=by rw [List.length_take];omega
  rw [show i+(w0+u0)=i+w0+u0 by omega]
  rw [set_set]at e2
  obtain⟨H2,hH2⟩: ∃H2,H2=(H.new ⟨[str [],str []],253,true⟩).set l (cu s (i+w0+u0)):=⟨_,rfl⟩
  have e2':=e2
  have hn2:H2.n=H.n+1:=by rw [hH2];rfl
  have g2:H2.get l=some (cu s (i+w0+u0)):=by rw [hH2,get_set]
  have g2p:H2.get H.n=some ⟨[str [],str []],253,true⟩:=by rw [hH2,get_set_ne (by omega),get_new]
  have o2: ∀k,k<H.n→k≠l→H2.get k=H.get k:=fun k hk2 hne2=>by rw [hH2,get_set_ne hne2,get_new_ne (by omega)]
  have hnml:(Tg.Lo.lower (x.take u0)).length≤100000:=by rw [lower_len];exact hnl
  generalize Tg.Lo.lower (x.take u0)=nm at*
  obtain⟨H3,hH3⟩: ∃H3,H3=H2.new ⟨[str nm,str []],253,true⟩:=⟨_,rfl⟩
  have hn3:H3.n=H.n+1+1:=by rw [hH3,n_new,hn2]
  have g3:H3.get l=some (cu s (i+w0+u0)):=by rw [hH3,get_new_ne (by omega)];exact g2
  have g3p:H3.get H.n=some ⟨[str [],str []],253,true⟩:=by rw [hH3,get_new_ne (by omega)];exact g2p
  have g3q:H3.get (H.n+1)=some ⟨[str nm,str []],253,true⟩:=by rw [hH3];exact get_new_eq hn2.symm
  have o3: ∀k,k<H.n→k≠l→H3.get k=H.get k:=fun k hk2 hne2=>by rw [hH3,get_new_ne (by omega)];exact o2 k hk2 hne2
  have e4:=cskip_k (H:=H3) (t:= [61]) g3 (by omega) (by omega) (by omega) (by decide)
  have d1:(H.n=H.n+1)=False:=eq_false (by omega)
  have d2:(H.n+1=H.n)=False:=eq_false (by omega)
  have dl1:(l=H.n)=False:=eq_false (by omega)
  have dl2:(l=H.n+1)=False:=eq_false (by omega)
  have dl3:(H.n=l)=False:=eq_false (by omega)
  have dl4:(H.n+1=l)=False:=eq_false (by omega)
  have fin: ∀(G:LH) (j j':Nat) (B:LB),G.get l=some (cu s j)→H.n+2≤G.n→(∀k,k<H.n→k≠l→G.get k=H.get k)→j'=j→OutC H l s j' (G.set H.n B):=fun G j j' B h1 h2 h3 e=>e▸⟨by rw [get_set_ne (by omega)];exact h1,by rw [n_set];omega,fun k hk hne=>by rw [get_set_ne (by omega)];exact h3 k hk hne⟩
  by_cases hy: ∃y,s.drop (i+w0+u0)=61::y
  ·obtain⟨y,hy⟩:=hy
   have hlen:(s.drop (i+w0+u0)).length=s.length-(i+w0+u0):=List.length_drop
   rw [hy]at hlen e4
   simp only [List.length_cons]at hlen
   have hpre:Lib.hasPrefix (61::y) [61]=true:=by simp [Lib.hasPrefix]
   rw [hpre,if_pos rfl]at e4
   have e4:LC Tryz.prog EJ 199 [ptr l 0,str [61]] H3=some (.bool true,H3.set l (cu s (i+w0+u0+1))):=e4
   have hyd:s.drop (i+w0+u0+1)=y:=by rw [←List.drop_drop,hy];rfl
   have e5:=cend_k (H:=H3.set l (cu s (i+w0+u0+1))) (l:=l) (i:=i+w0+u0+1) (s:=s) get_set (by omega)
   rw [hyd]at e5
   rw [hy]
   simp only
   by_cases hy0:y= []
   ·rw [if_pos hy0]
    have qy:=eq_true hy0
    simp only [qy,decide_true]at e5
    simp [e1,e2',←hH2,e3,hn2,lfill_q1,←hH3,e4,e5,g3p,g3q,d1,d2,dl1,dl2,dl3,dl4]
    exact fin _ _ _ _ get_set (by rw [n_set];omega) (fun k hk hne=>by rw [get_set_ne hne];exact o3 k hk hne) (by omega)
   ·rw [if_neg hy0]
    have qy:=eq_false hy0
    simp only [qy,decide_false]at e5
    have e6:=val_ex (H:=H3.set l (cu s (i+w0+u0+1))) (l:=l) (i:=i+w0+u0+1) (s:=s) get_set (by rw [n_set];omega) (by omega) hs
    rw [hyd]at e6
    obtain⟨H5,e6,o6⟩:=e6
    have hvl:(Tg.Mi.valP y).1.length≤1000000:=Nat.le_trans (Tg.Mi.valP_len y) (by omega)
    generalize (Tg.Mi.valP y).1=vv at*
    generalize (Tg.Mi.valP y).2.1=vb at*
    generalize (Tg.Mi.valP y).2.2=vn at*
    have g5:=o6.get
    have n5:=o6.n
    rw [n_set]at n5
    have o5: ∀k,k<H.n→k≠l→H5.get k=H.get k:=fun k hk hne=>by rw [o6.old k (by rw [n_set];omega) hne,get_set_ne hne];exact o3 k hk hne
    have g5p:H5.get H.n=some ⟨[str [],str []],253,true⟩:=by rw [o6.old _ (by rw [n_set];omega) (by omega),get_set_ne (by omega)];exact g3p
    have g5q:H5.get (H.n+1)=some ⟨[str nm,str []],253,true⟩:=by rw [o6.old _ (by rw [n_set];omega) (by omega),get_set_ne (by omega)];exact g3q
    have e7:=fun H:LH=>mtoken_k (H:=H) (s:=nm) (by omega)
    have e8:=fun H:LH=>qall_k (H:=H) (s:=vv) hvl
    have dn1:(H.n=H5.n)=False:=eq_false (by omega)
    cases vb<;>cases h9:Tg.Mi.tokenP nm
    all_goals
     rw [h9]at e7
     simp [e1,e2',←hH2,e3,hn2,lfill_q1,←hH3,e4,e5,e6,e7,e8,g5p,g5q,d1,d2,dl1,dl2,dl3,dl4,h9]
     exact fin _ _ _ _ (by rw [get_set_ne (by omega)];exact g5) (by rw [n_set];omega) (fun k hk hne=>by rw [get_set_ne (by omega)];exact o5 k hk hne) (by omega)
  ·have hpre:Lib.hasPrefix (s.drop (i+w0+u0)) [61]=false:=by
    cases hz:s.drop (i+w0+u0)with
    |nil=>rfl
    |cons b r=>
     have hb:b≠61:=fun e=>hy ⟨r,by rw [hz,e]⟩
     show((61:UInt8)==b&&List.isPrefixOf [] r)=false
     rw [beq_false_of_ne (fun e=>hb e.symm)];rfl
   rw [hpre]at e4
   simp only [Bool.false_eq_true,if_false]at e4
   split
   ·rename_i y hz;exact absurd ⟨y,hz⟩ hy
   ·simp [e1,e2',←hH2,e3,hn2,lfill_q1,←hH3,e4,g3p,g3q,d1,d2,dl1,dl2,dl3,dl4]
    exact fin _ _ _ _ g3 (by omega) o3 (by omega)
 obtain⟨⟨u,H1⟩,e,h1,h2⟩:=key
 simp only at h1 h2
 subst h1
 obtain⟨H2,e2,o2⟩:=h2.trunc hl (u:=.tuple #[pv2 (Tg.Mi.parP (s.drop i)).1,.bool (Tg.Mi.parP (s.drop i)).2.1])
 exact⟨H2,by rw [e,e2],o2⟩
end
end Go.Proofs.YtcgiaiimbnoknaaGreatDoor.Mi
namespace Tg.Mi
def parsP:Nat→List UInt8→List Par→List Par
 |0,_,ps=>ps
 |n+1,x,ps=>match x with
  |59::y=>parsP n (y.drop (parP y).2.2) (if(parP y).2.1=true∧fnd (parP y).1.1 ps 0<0 then ps++ [(parP y).1]else ps)
  |_=>ps
def parseP (s0:List UInt8):Option Mim:=
 match (Tg.Hd.trim s0).drop (until_ [47] (Tg.Hd.trim s0))with
 |_::r=>if tokenP (Tg.Lo.lower ((Tg.Hd.trim s0).take (until_ [47] (Tg.Hd.trim s0))))&&tokenP (Tg.Lo.lower (back white (r.take (until_ [59] r))))then
   some ⟨Tg.Lo.lower ((Tg.Hd.trim s0).take (until_ [47] (Tg.Hd.trim s0))),Tg.Lo.lower (back white (r.take (until_ [59] r))),parsP (r.length+1) (r.drop (until_ [59] r)) []⟩else none
 | []=>none
theorem parsP_fuel: ∀(n m:Nat) (x:List UInt8) (ps:List Par),x.length<n→x.length<m→parsP n x ps=parsP m x ps
 |0,_,_,_,h,_=>by omega
 |n+1,0,_,_,_,h=>by omega
 |n+1,m+1,x,ps,h1,h2=>by
  unfold parsP
  split
  ·rename_i y
   simp only [List.length_cons]at h1 h2
   exact parsP_fuel n m _ _ (by rw [List.length_drop];omega) (by rw [List.length_drop];omega)
  ·rfl
end Tg.Mi
namespace Go.Proofs.YtcgiaiimbnoknaaGreatDoor.Mi
open Go.Lg Go.Tg
section
variable {H H':LH} {N M b c l i p:Nat} {s t u name:List UInt8} {v w:Value} {ps:List Tg.Mi.Par} {a:Tg.Mi.Par}
theorem lesz_par:lesz Tryz.prog 253=some elP.n:=by kernel_rfl
def ParseR (N:Nat) (o:Option Tg.Mi.Mim) (H:LH) (r:Value):Prop:=match o with
 |some m=> ∃v,r=.tuple #[mv m.t m.s v,.int .i64 0]∧RowG elP 253 N H v m.ps
 |none=>r=.tuple #[mv [] [] (.slice none 0 0),.int .i64 2]
theorem flat_mvt {x:Value} (h:flatB (.tuple #[mv t u v,x])=true) (hc:cellB v=true):flatB v=true:=by
 simp only [flatB,List.all_cons,Bool.and_eq_true,flat1B,List.all_nil,Bool.and_true]at h
 have h1:=h.1.2.2
 cases v<;>first|exact h1|(simp [cellB]at hc)
theorem ParseR.flat {o:Option Tg.Mi.Mim} (h:ParseR N o H' v) (hf:flatB v=true):ParseR N o H v:=by
 cases o with
 |none=>exact h
 |some m=>
  obtain⟨w,rfl,h⟩:=h
  exact⟨w,rfl,h.flat (flat_mvt hf h.cell)⟩
theorem bs1p {a:Tg.Mi.Par} :lbuildSlice Tryz.prog 111 1 [(0,pv2 a)] H=some (sl H.n 1 1,H.new ⟨[str a.1,str a.2],253,true⟩):=by
 unfold lbuildSlice
 simp [Instr.fill,Value.cells,Array.range]
 rfl
theorem mparse_ex (hN:N≤H.n) (hs:s.length≤100000):Gives Tryz.prog EJ 263 [str s] H (ParseR N (Tg.Mi.parseP s)):=by
 refine gives_of ?_ (fun v H' hf h=>h.flat hf)
 refine LC_runs (P:=Tryz.prog) (E:=EJ) (f:=263) rfl Tryz.func263 rfl (Nat.le_of_ble_eq_true rfl) (by decide) (by kernel_rfl) ?_
 unfold Tg.Mi.parseP
 have e0:=fun H:LH=>Trim_cl (H:=H) (s:=s) (by omega)
 have hxl:(Tg.Hd.trim s).length≤100000:=Nat.le_trans (trimH_len s) hs
 generalize Tg.Hd.trim s=x at*
 have hk:=Tg.Mi.until_le [47] x
 have hstop:=fun b r=>Tg.Mi.until_stopG (t:= [47]) (x:=x) (b:=b) (r:=r)
 obtain⟨B0,hB0⟩: ∃B0:LB,B0=⟨[str [],str [],.slice none 0 0],113,true⟩:=⟨_,rfl⟩
 have e1:=cnew_k (H:=H.new ⟨[str [],str [],.slice none 0 0],113,true⟩) (s:=x)
 rw [n_new]at e1
 have e2:=cuntil_k (H:=(H.new ⟨[str [],str [],.slice none 0 0],113,true⟩).new (cu x 0)) (l:=H.n+1) (i:=0) (s:=x) (t:= [47]) (by exact get_new) (by rw [n_new,n_new];omega) (Nat.zero_le _) (by omega)
 rw [List.drop_zero,Nat.zero_add,new_set_eq (n_new).symm]at e2
 generalize hk0:Tg.Mi.until_ [47] x=k at*
 have htl:(x.take k).length≤100000:=by rw [List.length_take];omega
 have e3:=fun H:LH=>Lower_k (H:=H) (s:=x.take k) (by omega)
 have htl2:(Tg.Lo.lower (x.take k)).length≤100000:=by rw [lower_len];exact htl
 generalize Tg.Lo.lower (x.take k)=ty at*
 obtain⟨G2,hG2⟩: ∃G2,G2=((H.new ⟨[str [],str [],.slice none 0 0],113,true⟩).new (cu x k)).new ⟨[str ty,str [],.slice none 0 0],113,true⟩:=⟨_,rfl⟩
 have n2:G2.n=H.n+1+1+1:=by rw [hG2];rfl
 have a2:G2.get H.n=some B0:=by rw [hG2,get_new_ne (by simp;omega),get_new_ne (by simp),get_new,hB0]
 have b2:G2.get (H.n+1)=some (cu x k):=by rw [hG2,get_new_ne (by simp)];exact get_new
 have c2:G2.get (H.n+1+1)=some ⟨[str ty,str [],.slice none 0 0],113,true⟩:=by rw [hG2];exact get_new
 have le2:H.le G2:=by rw [hG2];exact le_refl.new.new.new
 have e4:=cskip_k (H:=G2) (t:= [47]) b2 (by omega) hk (by omega) (by decide)
 have d1:(H.n=H.n+1)=False:=eq_false (by omega)
 have d2:(H.n=H.n+1+1)=False:=eq_false (by omega)
 have d3:(H.n+1=H.n+1+1)=False:=eq_false (by omega)
 have d4:(H.n+1+1=H.n+1)=False:=eq_false (by omega)
 have d5:(H.n+1+1=H.n)=False:=eq_false (by omega)
 have d6:(H.n+1=H.n)=False:=eq_false (by omega)
 cases hx:x.drop k with
 |nil=>
  rw [hx]at e4
  have e4:LC Tryz.prog EJ 199 [ptr (H.n+1) 0,str [47]] G2=some (.bool false,G2):=e4
  have e5:=cuntil_k (t:= [59]) b2 (by omega) hk (by omega)
  rw [hx]at e5
  have e5:LC Tryz.prog EJ 218 [ptr (H.n+1) 0,str [59]] G2=some (str [],G2.set (H.n+1) (cu x k)):=e5
  have e6:=fun H:LH=>mback_k (H:=H) (s:= []) (by decide)
  have e6: ∀H:LH,LC Tryz.prog EJ 290 [str []] H=some (str [],H):=e6
  have e7: ∀H:LH,LC Tryz.prog EJ 289 [str []] H=some (str [],H):=fun H=>Lower_k (H:=H) (s:= []) (by decide)
  simp [e0,e1,e2,e3,←hG2,n2,e4,e5,e6,e7,a2,c2,hB0,d1,d2,d3,d4,d5,d6,ParseR,le2]
  exact(le2.set (by omega)).set (by omega)
 |cons b r=>
  have hb:b=47:=by
   have h1:=hstop b r hx
   by_cases h2:b=47
   ·exact h2
   ·have h3:=eq_false (show¬(47:UInt8)=b from fun e=>h2 e.symm)
    exact absurd (by simp [Lib.indexByte,h3]) h1
  subst hb
  have hlen:(x.drop k).length=x.length-k:=List.length_drop
  rw [hx]at e4 hlen
  simp only [List.length_cons]at hlen
  have hpre:Lib.hasPrefix (47::r) [47]=true:=by simp [Lib.hasPrefix]
  rw [hpre,if_pos rfl]at e4
  have e4:LC Tryz.prog EJ 199 [ptr (H.n+1) 0,str [47]] G2=some (.bool true,G2.set (H.n+1) (cu x (k+1))):=e4
  have hr:x.drop (k+1)=r:=by rw [←List.drop_drop,hx];rfl
  have e5:=cuntil_k (H:=G2.set (H.n+1) (cu x (k+1))) (t:= [59]) get_set (by rw [n_set];omega) (by omega) (by omega)
  rw [hr,set_set]at e5
  have hu:=Tg.Mi.until_le [59] r
  simp only
  generalize hu0:Tg.Mi.until_ [59] r=u0 at*
  have hul:(r.take u0).length≤100000:=by rw [List.length_take];omega
  have e6:=fun H:LH=>mback_k (H:=H) (s:=r.take u0) (by omega)
  have hbl:=Tg.Mi.back_le Tg.Mi.white (r.take u0)
  generalize Tg.Mi.back Tg.Mi.white (r.take u0)=bk at*
  have e7:=fun H:LH=>Lower_k (H:=H) (s:=bk) (by omega)
  have hsl:(Tg.Lo.lower bk).length≤100000:=by rw [lower_len];omega
  generalize Tg.Lo.lower bk=sb at*
  have e8:=fun H:LH=>mtoken_k (H:=H) (s:=ty) (by omega)
  have e9:=fun H:LH=>mtoken_k (H:=H) (s:=sb) (by omega)
  obtain⟨G3,hG3⟩: ∃G3,G3=(G2.set (H.n+1) (cu x (k+1+u0))).set (H.n+1+1) ⟨[str ty,str sb,.slice none 0 0],113,true⟩:=⟨_,rfl⟩
  have n3:G3.n=H.n+1+1+1:=by rw [hG3,n_set,n_set,n2]
  have a3:G3.get H.n=some B0:=by rw [hG3,get_set_ne (by omega),get_set_ne (by omega)];exact a2
  have b3:G3.get (H.n+1)=some (cu x (k+1+u0)):=by rw [hG3,get_set_ne (by omega)];exact get_set
  have c3:G3.get (H.n+1+1)=some ⟨[str ty,str sb,.slice none 0 0],113,true⟩:=by rw [hG3];exact get_set
  have le3:H.le G3:=by rw [hG3];exact(le2.set (by omega)).set (by omega)
  by_cases htk:Tg.Mi.tokenP ty=true∧Tg.Mi.tokenP sb=true
  ·obtain⟨t1,t2⟩:=htk
   rw [t1]at e8
   rw [t2]at e9
   rw [t1,t2]
   simp only [Bool.and_self,if_true]
   obtain⟨T,hT⟩: ∃T,T=Tg.Mi.parsP (r.length+1) (r.drop u0) []:=⟨_,rfl⟩
   rw [←hT]
   simp [e0,e1,e2,e3,←hG2,n2,e4,e5,e6,e7,e8,e9,a2,c2,d1,d2,d3,d4,d5,d6,←hG3,c3]
   refine loop_ind (fun(j:Nat) fr' H'=> ∃v ps,fr' 2=ptr H.n 0∧fr' 4=ptr (H.n+1) 0∧fr' 5=ptr (H.n+1+1) 0∧j≤x.length∧ps.length≤j∧OwnG elP 253 N H.n H' v ps∧H'.get H.n=some B0∧H'.get (H.n+1)=some (cu x j)∧H'.get (H.n+1+1)=some ⟨[str ty,str sb,v],113,true⟩∧H.n+3≤H'.n∧(∀k,k<H.n→H'.get k=H.get k)∧T=Tg.Mi.parsP (x.length-j+1) (x.drop j) ps) (fun j=>x.length-j) (k+1+u0) ⟨.slice none 0 0,[],by simp,by simp,by simp,by omega,by simp,OwnG.nil,a3,b3,c3,by omega,le3.2,?_⟩ ?_
   ·rw [hT,←List.drop_drop,hr]
    exact Tg.Mi.parsP_fuel _ _ _ _ (by rw [List.length_drop];omega) (by rw [List.length_drop];omega)
   rintro j fr' H2 ⟨v,ps,f2,f4,f5,hj,hpl,how,ga,gb,gc,hn,hold,hq⟩ ih
   have hcv:=how.cell
   have q4:=cskip_k (t:= [59]) gb (by omega) hj (by omega) (by decide)
   have hjl:(x.drop j).length=x.length-j:=List.length_drop
   by_cases hy: ∃y,x.drop j=59::y
   ·obtain⟨y,hy⟩:=hy
    rw [hy]at q4 hjl hq
    simp only [List.length_cons]at hjl
    have hpre:Lib.hasPrefix (59::y) [59]=true:=by simp [Lib.hasPrefix]
    rw [hpre,if_pos rfl]at q4
    have q4:LC Tryz.prog EJ 199 [ptr (H.n+1) 0,str [59]] H2=some (.bool true,H2.set (H.n+1) (cu x (j+1))):=q4
    have hyd:x.drop (j+1)=y:=by rw [←List.drop_drop,hy];rfl
    unfold Tg.Mi.parsP at hq
    simp only at hq
    obtain⟨H5,q5,o5⟩:=param_ex (H:=H2.set (H.n+1) (cu x (j+1))) (l:=H.n+1) (i:=j+1) (s:=x) get_set (by rw [n_set];omega) (by omega) hxl
    rw [hyd]at q5 o5
    have hnl:=Tg.Mi.parP_le y
    have hdd:y.drop (Tg.Mi.parP y).2.2=x.drop (j+1+(Tg.Mi.parP y).2.2):=by rw [←hyd,List.drop_drop]
    rw [hdd]at hq
    generalize (Tg.Mi.parP y).1=p at*
    generalize (Tg.Mi.parP y).2.1=ok at*
    generalize (Tg.Mi.parP y).2.2=pn at*
    have gb5:=o5.get
    have n5:=o5.n
    rw [n_set]at n5
    have k5: ∀k,k<H2.n→k≠H.n+1→H5.get k=H2.get k:=fun k hk hne=>by rw [o5.old k (by rw [n_set];exact hk) hne,get_set_ne hne]
    have how5:OwnG elP 253 N H.n H5 v ps:=how.keep1 n5 gb (by show 194≠253;decide) (fun h=>h) (by omega) k5
    have ga5:H5.get H.n=some B0:=by rw [k5 _ (by omega) (by omega)];exact ga
    have gc5:H5.get (H.n+1+1)=some ⟨[str ty,str sb,v],113,true⟩:=by rw [k5 _ (by omega) (by omega)];exact gc
    have hold5: ∀k,k<H.n→H5.get k=H.get k:=fun k hk=>by rw [k5 k (by omega) (by omega)];exact hold k hk
    obtain⟨H6,hH6⟩: ∃H6,H6=H5.new ⟨[str p.1,str p.2],253,true⟩:=⟨_,rfl⟩
    have n6:H6.n=H5.n+1:=by rw [hH6];rfl
    have le6:H5.le H6:=by rw [hH6];exact le_refl.new
    have g6:H6.get H5.n=some ⟨[str p.1,str p.2],253,true⟩:=by rw [hH6];exact get_new
    have how6:=how5.le le6
    have ga6:=(le6.2 H.n (by omega)).trans ga5
    have gb6:=(le6.2 (H.n+1) (by omega)).trans gb5
    have gc6:=(le6.2 (H.n+1+1) (by omega)).trans gc5
    have q7:=mfind_k (H:=H6) (t:=ty) (u:=sb) (name:=p.1) how6.row (by omega)
    have m1:(H.n+1+1=H5.n)=False:=eq_false (by omega)
    have m2:(H5.n=H.n+1+1)=False:=eq_false (by omega)
    have hrn:x.length-(j+1+pn)+1≤x.length-j:=by omega
    have fu: ∀ps,Tg.Mi.parsP (x.length-j) (x.drop (j+1+pn)) ps=Tg.Mi.parsP (x.length-(j+1+pn)+1) (x.drop (j+1+pn)) ps:=fun ps=>Tg.Mi.parsP_fuel _ _ _ _ (by rw [List.length_drop];omega) (by rw [List.length_drop];omega)
    rw [fu]at hq
    by_cases hc:ok=true∧Tg.Mi.fnd p.1 ps 0<0
    ·rw [if_pos hc]at hq
     obtain⟨rfl,hf⟩:=hc
     have hf:=eq_true hf
     obtain⟨v7,H7,a7,r7,n7,k7,o7,kp7⟩:=how6.app (t:=111) (cs:= [str p.1,str p.2]) (a:=p) Tryz.underlying111 lesz_par hN (by omega) (by unfold maxElems;omega) rfl (fun h=>h)
     have oa:offRow v H.n:=how6.off_elem ga6 (by rw [hB0];show 113≠253;decide)
     have ob:offRow v (H.n+1):=how6.off_elem gb6 (by show 194≠253;decide)
     have oc:offRow v (H.n+1+1):=how6.off_elem gc6 (by show 113≠253;decide)
     have ga7:=(k7 _ (by omega) oa).trans ga6
     have gb7:=(k7 _ (by omega) ob).trans gb6
     have gc7:=(k7 _ (by omega) oc).trans gc6
     have cv7:=r7.cell
     have hfin:=fun fr2 (g2:fr2 2=ptr H.n 0) (g4:fr2 4=ptr (H.n+1) 0) (g5:fr2 5=ptr (H.n+1+1) 0)=>ih (j+1+pn) fr2 (H7.set (H.n+1+1) ⟨[str ty,str sb,v7],113,true⟩) (by omega) ⟨v7,ps++ [p],g2,g4,g5,by omega,by rw [List.length_append,List.length_singleton];omega,
      r7.keep1 (Nat.le_refl _) gc7 (by show 113≠253;decide) (fun h=>h) (by omega) (fun k _ hne=>get_set_ne hne),by rw [get_set_ne (by omega)];exact ga7,by rw [get_set_ne (by omega)];exact gb7,get_set,by rw [n_set];omega,fun k hk=>by rw [get_set_ne (by omega),k7 k (by omega) (how6.off_lt hk),le6.2 k (by omega)];exact hold5 k hk,hq⟩
     clear ih hq
     simp [f2,f4,f5,q4,q5,←hH6,q7,hf,gc6,g6,bs1p,a7,gc7,m1,m2,hcv,cv7]
     refine hfin _ ?_ ?_ ?_
     all_goals simp [f2,f4,f5]
    ·rw [if_neg hc]at hq
     have hfin:=fun fr2 (g2:fr2 2=ptr H.n 0) (g4:fr2 4=ptr (H.n+1) 0) (g5:fr2 5=ptr (H.n+1+1) 0)=>ih (j+1+pn) fr2 H6 (by omega) ⟨v,ps,g2,g4,g5,by omega,by omega,how6,ga6,gb6,gc6,by omega,fun k hk=>by rw [le6.2 k (by omega)];exact hold5 k hk,hq⟩
     clear ih hq
     cases ok with
     |false=>
      simp [f2,f4,f5,q4,q5,←hH6]
      refine hfin _ ?_ ?_ ?_
      all_goals simp [f2,f4,f5]
     |true=>
      have hf:=eq_false (fun h=>hc ⟨rfl,h⟩)
      simp [f2,f4,f5,q4,q5,←hH6,q7,hf,gc6,g6,m1,m2,hcv]
      refine hfin _ ?_ ?_ ?_
      all_goals simp [f2,f4,f5]
   ·have hpre:Lib.hasPrefix (x.drop j) [59]=false:=by
     cases hz:x.drop j with
     |nil=>rfl
     |cons b r=>
      have hb:b≠59:=fun e=>hy ⟨r,by rw [hz,e]⟩
      show((59:UInt8)==b&&List.isPrefixOf [] r)=false
      rw [beq_false_of_ne (fun e=>hb e.symm)];rfl
    rw [hpre]at q4
    simp only [Bool.false_eq_true,if_false]at q4
    have hT2:T=ps:=by
     rw [hq]
     unfold Tg.Mi.parsP
     split
     ·rename_i y hz;exact absurd ⟨y,hz⟩ hy
     ·rfl
    clear ih hq
    simp [f2,f4,f5,q4,ga,gc,hB0,hcv]
    rw [hT2]
    exact⟨⟨by show H.n≤H2.n;omega,hold⟩,v,rfl,(how.keep1 (H':=H2.set H.n _) (Nat.le_refl _) ga (by rw [hB0];show 113≠253;decide) (fun h=>h) hN (fun k _ hne=>get_set_ne hne)).row⟩
  ·have hno:(Tg.Mi.tokenP ty&&Tg.Mi.tokenP sb)=false:=by
    cases h1:Tg.Mi.tokenP ty<;>cases h2:Tg.Mi.tokenP sb<;>simp_all
   rw [hno]
   simp only [Bool.false_eq_true,if_false]
   cases h1:Tg.Mi.tokenP ty with
   |false=>
    rw [h1]at e8
    simp [e0,e1,e2,e3,←hG2,n2,e4,e5,e6,e7,e8,a2,c2,d1,d2,d3,d4,d5,d6,←hG3,a3,c3,hB0,ParseR,le3]
   |true=>
    have h2:Tg.Mi.tokenP sb=false:=by rw [h1]at hno;simpa using hno
    rw [h1]at e8
    rw [h2]at e9
    simp [e0,e1,e2,e3,←hG2,n2,e4,e5,e6,e7,e8,e9,a2,c2,d1,d2,d3,d4,d5,d6,←hG3,a3,c3,hB0,ParseR,le3]
end
end Go.Proofs.YtcgiaiimbnoknaaGreatDoor.Mi
namespace Tg.Mi
def essP (t s:List UInt8):List UInt8:=t++([47]++s)
def plainP (s:List UInt8):Bool:=tokenP s&&decide (Tg.Lo.lower s=s)
def goodL (all:List Par):List Par→Nat→Bool
 | [],_=>true
 |p::r,i=>plainP p.1&&(p.2.all quo&&(decide (fnd p.1 all 0=(i:Int))&&goodL all r (i+1)))
def goodM (m:Mim):Bool:=goodL m.ps m.ps 0&&(plainP m.t&&plainP m.s)
def parmP (ps:List Par) (name:List UInt8):List UInt8×Bool:=if fnd name ps 0<0 then([],false)else((ps.getD (fnd name ps 0).toNat ([],[])).2,true)
def charset:List UInt8:= [99,104,97,114,115,101,116]
def withP (m:Mim) (name value:List UInt8):Mim:=⟨m.t,m.s,m.ps++ [(name,value)]⟩
end Tg.Mi
namespace Go.Proofs.YtcgiaiimbnoknaaGreatDoor.Mi
open Go.Lg Go.Tg
def elM:El Tg.Mi.Mim:=⟨3,fun t=>t=253,fun N H cs m=> ∃v,cs= [str m.t,str m.s,v]∧RowG elP 253 N H v m.ps,
 fun h=>by obtain⟨v,rfl,_⟩:=h;rfl,fun h=>by obtain⟨v,rfl,h⟩:=h;simp [h.cell],fun hk h=>by obtain⟨v,e,h⟩:=h;exact⟨v,e,h.keep (hk.weak fun t ht=>ht.elim id False.elim)⟩,fun h=>by obtain⟨v,e,h⟩:=h;exact⟨v,e,h.ro⟩⟩
section
variable {H H':LH} {N M b c l i p:Nat} {s t u name value:List UInt8} {v w:Value} {ps:List Tg.Mi.Par} {a:Tg.Mi.Par}
theorem cat_s {x y:List UInt8} (h:x.length+y.length≤9000000):lbin Tryz.prog .add 9 (str x) (str y)=some (str (x++y)):=lbin_cat (by omega)
theorem ess_k (ht:t.length≤1000000) (hu:u.length≤1000000) (hc:cellB v=true):LC Tryz.prog EJ 115 [mv t u v] H=some (str (Tg.Mi.essP t u),H):=by
 have h1: ∀H:LH,LC Tryz.prog EJ 152 [mv t u v] H=some (str (Tg.Mi.essP t u),H):=fun H=>by
  refine LC_pure rfl Tryz.func152 rfl (Nat.le_of_ble_eq_true rfl) (by decide) (by kernel_rfl) rfl ?_
  have c1:=cat_s (x:=t) (y:= [47]) (by simp;omega)
  have c2:=cat_s (x:=t++ [47]) (y:=u) (by simp;omega)
  rw [List.append_assoc]at c2
  unfold Tg.Mi.essP
  simp [hc,c1,c2,le_refl.new]
 refine LC_pure rfl Tryz.func115 rfl (Nat.le_of_ble_eq_true rfl) (by decide) (by kernel_rfl) rfl ?_
 simp [hc,h1,le_refl.new]
theorem getD_at {j:Nat} (h:j<ps.length):ps.getD j ([],[])=ps[j]:=by rw [List.getD_eq_getElem?_getD,List.getElem?_eq_getElem h];rfl
theorem mparam_k (hr:RowG elP 253 N H v ps) (hl:ps.length≤1000000):LC Tryz.prog EJ 264 [mv t u v,str name] H=some (.tuple #[str (Tg.Mi.parmP ps name).1,.bool (Tg.Mi.parmP ps name).2],H):=by
 refine LC_pure rfl Tryz.func264 rfl (Nat.le_of_ble_eq_true rfl) (by decide) (by kernel_rfl) rfl ?_
 have hcv:=hr.cell
 have hr1:=hr.le (H':=H.new ⟨[str t,str u,v],113,true⟩) le_refl.new
 have h1:=mfind_k (t:=t) (u:=u) (name:=name) hr1 hl
 unfold Tg.Mi.parmP
 rcases Tg.Mi.fnd_ge name ps 0 with hf|⟨j,hf,hj,_⟩
 ·rw [hf]at h1
  rw [hf,if_pos (by decide)]
  simp [hcv,h1,le_refl.new]
 ·rw [Nat.zero_add]at hf
  rw [hf]at h1
  rw [hf,if_neg (by omega),Int.toNat_natCast,getD_at hj]
  obtain⟨k,o,g1,g2,g3⟩:=par_at hr1 hj
  obtain⟨g4,g5,g6⟩:=g3 _ rfl
  have q:=eq_false (show¬(j:Int)<0 by omega)
  simp [hcv,h1,q,g1,g6,le_refl.new]
theorem mplain_k (hs:s.length≤1000000):LC Tryz.prog EJ 322 [str s] H=some (.bool (Tg.Mi.plainP s),H):=by
 refine LC_pure rfl Tryz.func322 rfl (Nat.le_of_ble_eq_true rfl) (by decide) (by kernel_rfl) rfl ?_
 have h1:=fun H:LH=>mtoken_k (H:=H) hs
 have h2:=fun H:LH=>Lower_k (H:=H) hs
 unfold Tg.Mi.plainP
 cases hq:Tg.Mi.tokenP s with
 |false=>rw [hq]at h1;simp [h1]
 |true=>rw [hq]at h1;simp [h1,h2]
theorem mgood_k (hr:RowG elP 253 N H v ps) (hl:ps.length≤100000) (hs: ∀p∈ps,p.1.length≤1000000∧p.2.length≤1000000) (ht:t.length≤1000000) (hu:u.length≤1000000):LC Tryz.prog EJ 295 [mv t u v] H=some (.bool (Tg.Mi.goodM ⟨t,u,ps⟩),H):=by
 refine LC_pure rfl Tryz.func295 rfl (Nat.le_of_ble_eq_true rfl) (by decide) (by kernel_rfl) rfl ?_
 have hcv:=hr.cell
 have hlen:=fun H':LH=>hr.len (P:=Tryz.prog) (t:=111) (H':=H') Tryz.underlying111
 have h1:=fun H:LH=>mplain_k (H:=H) ht
 have h2:=fun H:LH=>mplain_k (H:=H) hu
 obtain⟨x,hx⟩: ∃x,x=Tg.Mi.goodM ⟨t,u,ps⟩:=⟨_,rfl⟩
 rw [←hx]
 unfold Tg.Mi.goodM at hx
 simp only at hx
 simp [hcv,hlen]
 refine loop_ind (fun(i:Nat) fr' H'=>fr' 1=ptr H.n 0∧fr' 6=v∧fr' 7=.int .i64 ps.length∧fr' 8=.int .i64 i∧i≤ps.length∧H.le H'∧H.n<H'.n∧H'.get H.n=some ⟨[str t,str u,v],113,true⟩∧x=(Tg.Mi.goodL ps (ps.drop i) i&&(Tg.Mi.plainP t&&Tg.Mi.plainP u))) (fun i=>ps.length-i) 0 ⟨by simp,by simp,by simp,by simp,Nat.zero_le _,le_refl.new,by simp,get_new,hx⟩ ?_
 rintro i fr' H2 ⟨f1,f6,f7,f8,hi,hle,hn,hg,hq⟩ ih
 have hr2:=hr.le hle
 by_cases hlt:i<ps.length
 ·have q:=eq_true (show(i:Int)<(ps.length:Int) by omega)
  have hw:IntKind.i64.wrap ((i:Int)+1)=((i+1:Nat):Int):=by rw [wrapI (by omega) (by omega)];omega
  obtain⟨k,o,g1,g2,g3⟩:=par_at hr2 hlt
  obtain⟨g4,_,_⟩:=g3 H2 rfl
  have hm:=hs ps[i] (List.getElem_mem hlt)
  rw [List.drop_eq_getElem_cons hlt]at hq
  obtain⟨H3,hH3⟩: ∃H3,H3=H2.new ⟨[str ps[i].1,str ps[i].2],253,true⟩:=⟨_,rfl⟩
  have le3:H2.le H3:=by rw [hH3];exact le_refl.new
  have p1:=fun H:LH=>mplain_k (H:=H) hm.1
  have p2:=fun H:LH=>qall_k (H:=H) hm.2
  have p3:=mfind_k (H:=H3) (t:=t) (u:=u) (name:=ps[i].1) (hr2.le le3) (by omega)
  have g6:H3.get H2.n=some ⟨[str ps[i].1,str ps[i].2],253,true⟩:=by rw [hH3];exact get_new
  have g7:=(le3.2 H.n hn).trans hg
  generalize ps[i]=a at*
  unfold Tg.Mi.goodL at hq
  have dn:(H.n=H2.n)=False:=eq_false (by omega)
  have n3:H3.n=H2.n+1:=by rw [hH3];rfl
  cases c1:Tg.Mi.plainP a.1 with
  |false=>
   rw [c1]at p1 hq
   simp only [Bool.false_and]at hq
   clear ih
   simp [f1,f6,f7,f8,q,hlt,g1,g4,←hH3,p1,g6,g7,dn,hq]
   exact hle.trans le3
  |true=>
   rw [c1]at p1 hq
   cases c2:a.2.all Tg.Mi.quo with
   |false=>
    rw [c2]at p2 hq
    simp only [Bool.false_and,Bool.and_false]at hq
    clear ih
    simp [f1,f6,f7,f8,q,hlt,g1,g4,←hH3,p1,p2,g6,g7,dn,hq]
    exact hle.trans le3
   |true=>
    rw [c2]at p2 hq
    by_cases c3:Tg.Mi.fnd a.1 ps 0=(i:Int)
    ·rw [decide_eq_true c3]at hq
     simp only [Bool.true_and]at hq
     have c3:=eq_true c3
     have hfin:=fun fr2 (g1:fr2 1=ptr H.n 0) (g6:fr2 6=v) (g7':fr2 7=.int .i64 ps.length) (g8:fr2 8=.int .i64 ((i+1:Nat):Int))=>ih (i+1) fr2 H3 (by omega) ⟨g1,g6,g7',g8,by omega,hle.trans le3,by omega,g7,hq⟩
     clear ih hq
     simp [f1,f6,f7,f8,q,hlt,g1,g4,←hH3,p1,p2,p3,g6,g7,dn,c3,hcv]
     refine hfin _ ?_ ?_ ?_ ?_
     all_goals simp [f1,f6,f7,hw]
    ·rw [decide_eq_false c3]at hq
     simp only [Bool.false_and,Bool.and_false]at hq
     have c3:=eq_false c3
     clear ih
     simp [f1,f6,f7,f8,q,hlt,g1,g4,←hH3,p1,p2,p3,g6,g7,dn,c3,hcv,hq]
     exact hle.trans le3
 ·have q:=eq_false (show¬(i:Int)<(ps.length:Int) by omega)
  rw [List.drop_of_length_le (by omega)]at hq
  simp only [Tg.Mi.goodL,Bool.true_and]at hq
  clear ih
  cases c1:Tg.Mi.plainP t with
  |false=>
   rw [c1]at h1 hq
   simp only [Bool.false_and]at hq
   simp [f1,f6,f7,f8,q,hlt,hg,h1,hq]
   exact hle
  |true=>
   rw [c1]at h1 hq
   simp only [Bool.true_and]at hq
   simp [f1,f6,f7,f8,q,hlt,hg,h1,h2,hq]
   exact hle
end
end Go.Proofs.YtcgiaiimbnoknaaGreatDoor.Mi
namespace Tg.Mi
def stepP (t s set:List UInt8) (next:Mim):Mim×List UInt8:=
 if essP t s≠essP next.t next.s then(next,(parmP next.ps charset).1)
 else if(parmP next.ps charset).2=false∧set≠ []∧goodM (withP next charset set)=true then(withP next charset set,set)else(next,set)
end Tg.Mi
namespace Go.Proofs.YtcgiaiimbnoknaaGreatDoor.Mi
open Go.Lg Go.Tg
section
variable {H H':LH} {N M b c l i p:Nat} {s t u name value set:List UInt8} {v w:Value} {ps:List Tg.Mi.Par} {a:Tg.Mi.Par} {m:Tg.Mi.Mim}
theorem bs0p:lbuildSlice Tryz.prog 111 0 [] H=some (sl H.n 0 0,H.new ⟨[],253,true⟩):=by
 unfold lbuildSlice
 simp [Instr.fill,Array.range,Value.cells]
 try rfl
theorem clone_ex (hr:RowG elP 253 N H v ps) (hl:ps.length≤1000000):Gives Tryz.prog EJ 294 [v] H fun H' r=>OwnG elP 253 N H.n H' r ps:=by
 refine gives_of ?_ (fun v H' hf h=>h.flat hf)
 refine LC_runs (P:=Tryz.prog) (E:=EJ) (f:=294) rfl Tryz.func294 rfl (Nat.le_of_ble_eq_true rfl) (by decide) (by kernel_rfl) ?_
 obtain⟨v',H2,a1,a2,a3⟩:=OwnG.copy (M:=H.n) (P:=Tryz.prog) (t:=111) hr Tryz.underlying111 lesz_par (by unfold maxElems;omega) (Nat.le_refl _)
 rcases hr with⟨rfl,rfl⟩|⟨k,o,c,b,rfl,h2⟩
 ·simp
  exact OwnG.nil
 ·simp [bs0p,a1]
  exact⟨a3,a2⟩
theorem own_ex (hr:RowG elP 253 N H v ps) (hl:ps.length≤1000000) (hN:N≤H.n):Gives Tryz.prog EJ 265 [mv t u v] H fun H' r=> ∃v',r=mv t u v'∧RowG elP 253 N H' v' ps:=by
 refine gives_of ?_ (fun v H' hf h=>by
  obtain⟨w,rfl,h⟩:=h
  refine⟨w,rfl,h.flat ?_⟩
  have hc:=h.cell
  simp only [flatB,flat1B,List.all_cons,Bool.and_eq_true]at hf
  have h1:=hf.2.2.1
  cases w<;>first|exact h1|(simp [cellB]at hc))
 refine LC_runs (P:=Tryz.prog) (E:=EJ) (f:=265) rfl Tryz.func265 rfl (Nat.le_of_ble_eq_true rfl) (by decide) (by kernel_rfl) ?_
 have hcv:=hr.cell
 obtain⟨H1,hH1⟩: ∃H1,H1=(H.new ⟨[str t,str u,v],113,true⟩).new ⟨[str [],str [],.slice none 0 0],113,true⟩:=⟨_,rfl⟩
 have le1:H.le H1:=by rw [hH1];exact le_refl.new.new
 have n1:H1.n=H.n+1+1:=by rw [hH1];rfl
 have a1:H1.get H.n=some ⟨[str t,str u,v],113,true⟩:=by rw [hH1,get_new_ne (by simp),get_new]
 have b1:H1.get (H.n+1)=some ⟨[str [],str [],.slice none 0 0],113,true⟩:=by rw [hH1];exact get_new
 obtain⟨v2,H2,e2,le2,r2⟩:=clone_ex (hr.le le1) hl
 have cv2:=r2.cell
 have a2:=(le2.2 H.n (by omega)).trans a1
 have b2:=(le2.2 (H.n+1) (by omega)).trans b1
 have d1:(H.n=H.n+1)=False:=eq_false (by omega)
 have d2:(H.n+1=H.n)=False:=eq_false (by omega)
 have n2:=le2.1
 simp [hcv,←hH1,e2,a1,a2,b2,cv2,d1,d2]
 have le3:=le1.trans le2
 refine⟨le3,?_⟩
 have k2:=r2.keep1 (H':=H2.set H.n ⟨[str t,str u,v2],113,true⟩) (Nat.le_refl _) a2 (by show 113≠253;decide) (fun h=>h) hN (fun k _ hne=>get_set_ne hne)
 have k3:=k2.keep1 (c:=H.n+1) (H':=(H2.set H.n ⟨[str t,str u,v2],113,true⟩).set (H.n+1) ⟨[str t,str u,v2],113,true⟩) (Nat.le_refl _) (by rw [get_set_ne (by omega)];exact b2) (by show 113≠253;decide) (fun h=>h) (by omega) (fun k _ hne=>get_set_ne hne)
 exact k3.row
theorem with_ex (hr:RowG elP 253 N H v ps) (hl:ps.length≤10000) (hN:N≤H.n) (hs: ∀p∈ps,p.1.length≤1000000∧p.2.length≤1000000) (ht:t.length≤1000000) (hu:u.length≤1000000) (hnm:name.length≤1000000) (hvl:value.length≤1000000):
  Gives Tryz.prog EJ 266 [mv t u v,str name,str value] H fun H' r=>if Tg.Mi.goodM (Tg.Mi.withP ⟨t,u,ps⟩ name value)=true then∃v',r=.tuple #[mv t u v',.int .i64 0]∧RowG elP 253 N H' v' (ps++ [(name,value)])else∃e:Int,e≠0∧r=.tuple #[mv [] [] (.slice none 0 0),.int .i64 e]:=by
 refine gives_of ?_ (fun v H' hf h=>by
  split at h
  ·obtain⟨w,rfl,h⟩:=h
   rw [if_pos (by assumption)]
   exact⟨w,rfl,h.flat (flat_mvt hf h.cell)⟩
  ·rw [if_neg (by assumption)];exact h)
 refine LC_runs (P:=Tryz.prog) (E:=EJ) (f:=266) rfl Tryz.func266 rfl (Nat.le_of_ble_eq_true rfl) (by decide) (by kernel_rfl) ?_
 have hcv:=hr.cell
 obtain⟨H1,hH1⟩: ∃H1,H1=(H.new ⟨[str t,str u,v],113,true⟩).new ⟨[str [],str [],.slice none 0 0],113,true⟩:=⟨_,rfl⟩
 have le1:H.le H1:=by rw [hH1];exact le_refl.new.new
 have n1:H1.n=H.n+1+1:=by rw [hH1];rfl
 have a1:H1.get H.n=some ⟨[str t,str u,v],113,true⟩:=by rw [hH1,get_new_ne (by simp),get_new]
 have b1:H1.get (H.n+1)=some ⟨[str [],str [],.slice none 0 0],113,true⟩:=by rw [hH1];exact get_new
 obtain⟨v2,H2,e2,le2,r2⟩:=clone_ex (hr.le le1) (by omega)
 have a2:=(le2.2 H.n (by omega)).trans a1
 have b2:=(le2.2 (H.n+1) (by omega)).trans b1
 have n2:=le2.1
 obtain⟨v3,H3,e3,r3,n3,k3,o3,kp3⟩:=r2.app (t:=111) (cs:= [str name,str value]) (a:=(name,value)) Tryz.underlying111 lesz_par (by omega) (by omega) (by unfold maxElems;omega) rfl (fun h=>h)
 have oa:offRow v2 H.n:=r2.off_lt (by omega)
 have ob:offRow v2 (H.n+1):=r2.off_lt (by omega)
 have a3:=(k3 _ (by omega) oa).trans a2
 have b3:=(k3 _ (by omega) ob).trans b2
 have cv3:=r3.cell
 obtain⟨H4,hH4⟩: ∃H4,H4=H3.new ⟨[str t,str u,v3],113,true⟩:=⟨_,rfl⟩
 have le4:H3.le H4:=by rw [hH4];exact le_refl.new
 have a4:=(le4.2 H.n (by omega)).trans a3
 have b4:=(le4.2 (H.n+1) (by omega)).trans b3
 have c4:H4.get H3.n=some ⟨[str t,str u,v3],113,true⟩:=by rw [hH4];exact get_new
 have r4:=r3.le le4
 have hps: ∀p∈ps++ [(name,value)],p.1.length≤1000000∧p.2.length≤1000000:=fun p hp=>by
  rcases List.mem_append.1 hp with h|h
  ·exact hs p h
  ·rw [List.mem_singleton.1 h];exact⟨hnm,hvl⟩
 have e5:=mgood_k (t:=t) (u:=u) r4.row (by rw [List.length_append,List.length_singleton];omega) hps ht hu
 have hle0:H.le H4:=⟨by have:=le4.1;have:=le1.1;omega,fun k hk=>by rw [le4.2 k (by omega),k3 k (by omega) (r2.off_lt (by omega)),le2.2 k (by omega),le1.2 k hk]⟩
 have hr4:=hr.le hle0
 have e6:=mgood_k (t:=t) (u:=u) hr4 (by omega) hs ht hu
 have e7:=mfind_k (t:=t) (u:=u) (name:=name) hr4 (by omega)
 have e8:=fun H:LH=>qall_k (H:=H) hvl
 have d1:(H.n=H.n+1)=False:=eq_false (by omega)
 have d2:(H.n+1=H.n)=False:=eq_false (by omega)
 have m1:(H.n=H2.n)=False:=eq_false (by omega)
 have m2:(H.n=H3.n)=False:=eq_false (by omega)
 unfold Tg.Mi.withP
 have hbp: ∀H:LH,lbuildSlice Tryz.prog 111 1 [(0,.agg #[str name,str value])] H=some (sl H.n 1 1,H.new ⟨[str name,str value],253,true⟩):=fun H=>bs1p (a:=(name,value))
 have n4:=le4.1
 cases hg:Tg.Mi.goodM ⟨t,u,ps++ [(name,value)]⟩with
 |true=>
  rw [hg]at e5
  simp only [if_true]
  simp [hcv,←hH1,e2,a1,a2,a3,hbp,e3,m1,m2,cv3,←hH4,c4,e5,b4]
  exact⟨hle0,(r4.keep1 (H':=H4.set (H.n+1) ⟨[str t,str u,v3],113,true⟩) (Nat.le_refl _) b4 (by show 113≠253;decide) (fun h=>h) (by omega) (fun k _ hne=>get_set_ne hne)).row⟩
 |false=>
  rw [hg]at e5
  simp only [Bool.false_eq_true,if_false]
  cases hg2:Tg.Mi.goodM ⟨t,u,ps⟩with
  |false=>
   rw [hg2]at e6
   simp [hcv,←hH1,e2,a1,a2,a3,a4,hbp,e3,m1,m2,cv3,←hH4,c4,e5,e6,b4]
   exact hle0
  |true=>
   rw [hg2]at e6
   by_cases hf:0≤Tg.Mi.fnd name ps 0
   ·have hf:=eq_true hf
    cases hv:value.all Tg.Mi.quo
    all_goals
     rw [hv]at e8
     simp [hcv,←hH1,e2,a1,a2,a3,a4,hbp,e3,m1,m2,cv3,←hH4,c4,e5,e6,e7,e8,hf,b4]
     exact hle0
   ·have hf:=eq_false hf
    simp [hcv,←hH1,e2,a1,a2,a3,a4,hbp,e3,m1,m2,cv3,←hH4,c4,e5,e6,e7,hf,b4]
    exact hle0
theorem charset_eq:Tg.Mi.charset= [99,104,97,114,115,101,116]:=rfl
theorem parm_len (hs: ∀p∈ps,p.1.length≤1000000∧p.2.length≤1000000):(Tg.Mi.parmP ps name).1.length≤1000000:=by
 unfold Tg.Mi.parmP
 split
 ·simp
 ·rename_i h
  rcases Tg.Mi.fnd_ge name ps 0 with hf|⟨j,hf,hj,_⟩
  ·rw [hf]at h;exact absurd (by decide) h
  ·rw [Nat.zero_add]at hf
   rw [hf,Int.toNat_natCast,getD_at hj]
   exact(hs _ (List.getElem_mem hj)).2
theorem step_ex (hr:RowG elP 253 N H v m.ps) (hl:m.ps.length≤10000) (hN:N≤H.n) (hs: ∀p∈m.ps,p.1.length≤1000000∧p.2.length≤1000000) (ht:m.t.length≤1000000) (hu:m.s.length≤1000000) (ht':t.length≤1000000) (hu':u.length≤1000000) (hset:set.length≤1000000) (hw:cellB w=true):
  Gives Tryz.prog EJ 229 [mv t u w,str set,mv m.t m.s v] H fun H' r=> ∃v',r=.tuple #[mv (Tg.Mi.stepP t u set m).1.t (Tg.Mi.stepP t u set m).1.s v',str (Tg.Mi.stepP t u set m).2]∧RowG elP 253 N H' v' (Tg.Mi.stepP t u set m).1.ps:=by
 refine gives_of ?_ (fun v H' hf h=>by
  obtain⟨w,rfl,h⟩:=h
  exact⟨w,rfl,h.flat (flat_mvt hf h.cell)⟩)
 refine LC_runs (P:=Tryz.prog) (E:=EJ) (f:=229) rfl Tryz.func229 rfl (Nat.le_of_ble_eq_true rfl) (by decide) (by kernel_rfl) ?_
 have hcv:=hr.cell
 obtain⟨H1,hH1⟩: ∃H1,H1=((H.new ⟨[str t,str u,w],113,true⟩).new ⟨[str m.t,str m.s,v],113,true⟩).new ⟨[str [],str [],.slice none 0 0],113,true⟩:=⟨_,rfl⟩
 have le1:H.le H1:=by rw [hH1];exact le_refl.new.new.new
 have n1:H1.n=H.n+1+1+1:=by rw [hH1];rfl
 have a1:H1.get H.n=some ⟨[str t,str u,w],113,true⟩:=by rw [hH1,get_new_ne (by simp;omega),get_new_ne (by simp),get_new]
 have b1:H1.get (H.n+1)=some ⟨[str m.t,str m.s,v],113,true⟩:=by rw [hH1,get_new_ne (by simp)];exact get_new
 have c1:H1.get (H.n+1+1)=some ⟨[str [],str [],.slice none 0 0],113,true⟩:=by rw [hH1];exact get_new
 have hr1:=hr.le le1
 have e1:=mparam_k (H:=H1) (t:=m.t) (u:=m.s) (name:= [99,104,97,114,115,101,116]) hr1 (by omega)
 rw [←charset_eq]at e1
 have e2:=fun H:LH=>ess_k (H:=H) ht' hu' hw
 have e3:=fun H:LH=>ess_k (H:=H) ht hu hcv
 have hnow:=parm_len (name:=Tg.Mi.charset) hs
 have d1:(H.n=H.n+1)=False:=eq_false (by omega)
 have d2:(H.n=H.n+1+1)=False:=eq_false (by omega)
 have d3:(H.n+1=H.n+1+1)=False:=eq_false (by omega)
 have d4:(H.n+1+1=H.n+1)=False:=eq_false (by omega)
 have d5:(H.n+1+1=H.n)=False:=eq_false (by omega)
 have d6:(H.n+1=H.n)=False:=eq_false (by omega)
 obtain⟨v2,H2,o2,le2,w2,⟨rfl⟩,r2⟩:=own_ex (t:=m.t) (u:=m.s) hr1 (by omega) (by omega)
 have b2:=(le2.2 (H.n+1) (by omega)).trans b1
 have c2:=(le2.2 (H.n+1+1) (by omega)).trans c1
 have n2:=le2.1
 have cw2:=r2.cell
 have fin: ∀(G:LH) (zs:List Tg.Mi.Par) (x:Value),H.le G→G.get (H.n+1+1)=some ⟨[str [],str [],.slice none 0 0],113,true⟩→RowG elP 253 N G x zs→RowG elP 253 N (G.set (H.n+1+1) ⟨[str m.t,str m.s,x],113,true⟩) x zs:=fun G zs x h1 h2 h3=>h3.keep ⟨Nat.le_refl _,fun k b hk hb hor=>by
  by_cases hkc:k=H.n+1+1
  ·subst hkc
   rw [h2]at hb
   injection hb with hb
   subst hb
   rcases hor with h4|h4|h4
   ·omega
   ·exact absurd h4 (by show 113≠253;decide)
   ·exact h4.elim
  ·rw [get_set_ne hkc];exact hb⟩
 unfold Tg.Mi.stepP
 simp only [charset_eq]at e1 hnow
 by_cases q1:Tg.Mi.essP t u=Tg.Mi.essP m.t m.s
 ·rw [if_neg (fun h=>h q1)]
  have q1:=eq_true q1
  cases q2:(Tg.Mi.parmP m.ps Tg.Mi.charset).2 with
  |true=>
   rw [charset_eq]at q2
   rw [q2]at e1
   simp only [Bool.true_eq_false,false_and,if_false]
   simp [hw,hcv,←hH1,e1,e2,e3,a1,b1,c1,q1,o2,b2,c2,cw2,d1,d2,d3,d4,d5,d6]
   exact⟨(le1.trans le2).set (by omega),fin _ _ _ (le1.trans le2) c2 r2⟩
  |false=>
   rw [charset_eq]at q2
   rw [q2]at e1
   by_cases q3:set= []
   ·subst q3
    simp only [ne_eq,not_true_eq_false,false_and,and_false,if_false]
    simp [hw,hcv,←hH1,e1,e2,e3,a1,b1,c1,q1,o2,b2,c2,cw2,d1,d2,d3,d4,d5,d6]
    exact⟨(le1.trans le2).set (by omega),fin _ _ _ (le1.trans le2) c2 r2⟩
   ·have q3f:=eq_false q3
    obtain⟨r3,H3,o3,le3,R3⟩:=with_ex (t:=m.t) (u:=m.s) (name:= [99,104,97,114,115,101,116]) (value:=set) hr1 hl (by omega) hs ht hu (by decide) hset
    rw [←charset_eq]at R3
    have n3:=le3.1
    cases q4:Tg.Mi.goodM (Tg.Mi.withP m Tg.Mi.charset set)with
    |true=>
     have q4':Tg.Mi.goodM (Tg.Mi.withP ⟨m.t,m.s,m.ps⟩ Tg.Mi.charset set)=true:=q4
     rw [if_pos q4']at R3
     obtain⟨v3,rfl,r3⟩:=R3
     have cv3:=r3.cell
     rw [if_pos ⟨rfl,q3,rfl⟩]
     have c3:=(le3.2 (H.n+1+1) (by omega)).trans c1
     obtain⟨H4,hH4⟩: ∃H4,H4=H3.new ⟨[str m.t,str m.s,v3],113,true⟩:=⟨_,rfl⟩
     have le4:H3.le H4:=by rw [hH4];exact le_refl.new
     have c4:=(le4.2 (H.n+1+1) (by omega)).trans c3
     have g4:H4.get H3.n=some ⟨[str m.t,str m.s,v3],113,true⟩:=by rw [hH4];exact get_new
     have m1:(H.n+1+1=H3.n)=False:=eq_false (by omega)
     simp [hw,hcv,←hH1,e1,e2,e3,a1,b1,c1,q1,q3f,o3,cv3,←hH4,c4,g4,d1,d2,d3,d4,d5,d6,m1]
     have hle:=(le1.trans le3).trans le4
     exact⟨hle.set (by omega),v3,⟨rfl,rfl,rfl⟩,fin _ _ _ hle c4 (r3.le le4)⟩
    |false=>
     have q4': ¬Tg.Mi.goodM (Tg.Mi.withP ⟨m.t,m.s,m.ps⟩ Tg.Mi.charset set)=true:=by
      show¬Tg.Mi.goodM (Tg.Mi.withP m Tg.Mi.charset set)=true
      rw [q4];decide
     rw [if_neg q4']at R3
     obtain⟨e,he,rfl⟩:=R3
     have he:=eq_false he
     simp only [Bool.false_eq_true,and_false,if_false]
     have b3:=(le3.2 (H.n+1) (by omega)).trans b1
     have c3:=(le3.2 (H.n+1+1) (by omega)).trans c1
     obtain⟨H4,hH4⟩: ∃H4,H4=H3.new ⟨[str [],str [],.slice none 0 0],113,true⟩:=⟨_,rfl⟩
     have le4:H3.le H4:=by rw [hH4];exact le_refl.new
     have b4:=(le4.2 (H.n+1) (by omega)).trans b3
     have c4:=(le4.2 (H.n+1+1) (by omega)).trans c3
     have g4:H4.get H3.n=some ⟨[str [],str [],.slice none 0 0],113,true⟩:=by rw [hH4];exact get_new
     have hss:H4.set H3.n ⟨[str [],str [],.slice none 0 0],113,true⟩=H4:=by rw [hH4,new_set]
     have hle4:=(le1.trans le3).trans le4
     obtain⟨v5,H5,o5,le5,w5,⟨rfl⟩,r5⟩:=own_ex (t:=m.t) (u:=m.s) (hr.le hle4) (by omega) (by have:=hle4.1;omega)
     have n4:=le4.1
     have c5:=(le5.2 (H.n+1+1) (by omega)).trans c4
     have cw5:=r5.cell
     have m1:(H.n+1=H3.n)=False:=eq_false (by omega)
     simp [hw,hcv,←hH1,e1,e2,e3,a1,b1,c1,q1,q3f,o3,he,←hH4,g4,hss,b4,o5,c5,cw5,d1,d2,d3,d4,d5,d6,m1]
     have hle:=hle4.trans le5
     exact⟨hle.set (by omega),fin _ _ _ hle c5 r5⟩
 ·rw [if_pos q1]
  have q1:=eq_false q1
  simp [hw,hcv,←hH1,e1,e2,e3,a1,b1,c1,q1,o2,b2,c2,cw2,d1,d2,d3,d4,d5,d6]
  exact⟨(le1.trans le2).set (by omega),w2,⟨rfl,rfl⟩,fin _ _ _ (le1.trans le2) c2 r2⟩
end
end Go.Proofs.YtcgiaiimbnoknaaGreatDoor.Mi
namespace Go.Proofs.YtcgiaiimbnoknaaGreatDoor
open Go.Lg Go.Tg
def HRow (H:LH) (v:Value) (l:List Tg.Hd.Hdr):Prop:=
 (v=.slice none 0 0∧l= [])∨ ∃(k o c:Nat),v=.slice (some ⟨k,o,none⟩) l.length c∧(l≠ []→ ∃b:LB,H.get k=some b∧k<H.n∧ ∀(i:Nat) (h:i<l.length),o+i*2+2≤b.cells.length∧(b.cells.drop (o+i*2)).take 2= [str l[i].1,str l[i].2]∧b.cells[o+i*2]?=some (str l[i].1)∧b.cells[o+i*2+1]?=some (str l[i].2))
abbrev HOwn (N:Nat) (H:LH) (v:Value) (l:List Tg.Hd.Hdr):Prop:=RowN N H 59 2 v l.length (Tg.Hd.cells l)
section
variable {H H':LH} {v:Value} {l:List Tg.Hd.Hdr} {N:Nat}
theorem HRow.keep (h:HRow H v l) (hn:H.n≤H'.n) (hk: ∀k,k<H.n→H'.get k=H.get k):HRow H' v l:=by
 rcases h with h|⟨k,o,c,h1,h2⟩
 ·exact .inl h
 ·refine .inr ⟨k,o,c,h1,fun hne=>?_⟩
  obtain⟨b,h2,h3,h4⟩:=h2 hne
  exact⟨b,by rw [hk k h3];exact h2,by omega,h4⟩
theorem HRow.len (h:HRow H v l):lbuiltin Tryz.prog .len [22] [v] H'=some (.int .i64 l.length,H'):=by
 rcases h with⟨rfl,rfl⟩|⟨k,o,c,rfl,h2⟩
 ·simp
 ·simp
theorem HRow.at (h:HRow H v l) {i:Nat} (hi:i<l.length): ∃k o,(∀H':LH,lixa Tryz.prog 22 v (.int .i64 i) H'=some (ptr k o,H'))∧k<H.n∧ ∀H':LH,H'.get k=H.get k→
  lld Tryz.prog 59 (ptr k o) H'=some (hv l[i])∧lld Tryz.prog 9 (ptr k o) H'=some (str l[i].1)∧lld Tryz.prog 9 (ptr k (o+1)) H'=some (str l[i].2):=by
 rcases h with⟨rfl,rfl⟩|⟨k,o,c,rfl,h2⟩
 ·simp at hi
 ·obtain⟨b,h2,h3,h4⟩:=h2 (fun e=>by rw [e]at hi;simp at hi)
  obtain⟨g1,g2,g3,g4⟩:=h4 i hi
  refine⟨k,o+i*2,fun H'=>?_,h3,fun H' e=>?_⟩
  ·have q:=eq_true (show(i:Int)<(l.length:Int) by omega)
   simp [q]
  ·rw [h2]at e
   have hlt:o+i*2<b.cells.length:=by omega
   have hlt2:o+i*2+1<b.cells.length:=by omega
   rw [List.getElem?_eq_getElem hlt]at g3
   rw [List.getElem?_eq_getElem hlt2]at g4
   injection g3 with g3
   injection g4 with g4
   simp [e,g1,g2,g3,g4,hlt,hlt2]
theorem HOwn.row (h:HOwn N H v l):HRow H v l:=by
 rcases h.2 with⟨rfl,h0⟩|⟨k,c,rest,rfl,h1,h2,h3,h4,h5⟩
 ·exact .inl ⟨rfl,List.eq_nil_of_length_eq_zero h0⟩
 ·refine .inr ⟨k,0,c,rfl,fun _=>⟨_,h3,h2,fun i hi=>?_⟩⟩
  have g:=Tg.Hd.cells_at hi rest
  have hl:=Tg.Hd.cells_len l
  simp only [Nat.zero_add]
  refine⟨?_,g⟩
  rw [List.length_append,hl];omega
theorem HOwn.nil:HOwn N H (.slice none 0 0) []:=RowN.nil
theorem h_app (h:HOwn N H v l) (hN:N≤H.n) (hl:l.length≤100000) (a b:List UInt8):
  ∃v' H2,lapp Tryz.prog 22 v (some (1,[str a,str b])) (H.new ⟨[str a,str b],59,true⟩)=some (v',H2)∧HOwn N H2 v' (l++ [(a,b)])∧H.n<H2.n∧(∀k,k<H.n→offRow v k→H2.get k=H.get k)∧(Full v→Full v')∧(∀k,k<H.n→offRow v k→offRow v' k):=by
 have h2:HOwn N (H.new ⟨[str a,str b],59,true⟩) v l:=h.keep (Nat.le_succ _) (fun k _ _ hk=>get_new_ne (by omega))
 obtain⟨v',H2,ha,hr,hk,hf⟩:=RowN.app (P:=Tryz.prog) (t:=22) (new:= [str a,str b]) (m:=1) h2 Tryz.underlying22 (by kernel_rfl) (by simp) (by simp) (by unfold maxElems;omega) (by rw [n_new];omega) (.inl (Nat.le_refl 1))
 refine⟨v',H2,ha,?_,?_,fun k hkn ho=>?_,hf,fun k hkn ho=>?_⟩
 ·have e:Tg.Hd.cells (l++ [(a,b)])=Tg.Hd.cells l++ [str a,str b]:=by rw [Tg.Hd.cells_app];rfl
  rw [HOwn,List.length_append,e];exact hr
 ·have:=hk.le;rw [n_new]at this;omega
 ·rw [hk.get k (by rw [n_new];omega) ho,get_new_ne (by omega)]
 ·exact hk.off k (by rw [n_new];omega) ho
end
end Go.Proofs.YtcgiaiimbnoknaaGreatDoor
namespace Tg.Hd
end Tg.Hd
namespace Go.Proofs.YtcgiaiimbnoknaaGreatDoor
open Go.Lg Go.Tg
section
variable {H:LH} {b:UInt8} {s p:List UInt8}
end
end Go.Proofs.YtcgiaiimbnoknaaGreatDoor
namespace Tg.Hd
end Tg.Hd
namespace Go.Proofs.YtcgiaiimbnoknaaGreatDoor
open Go.Lg Go.Tg
section
variable {H:LH} {v w:Value} {l m:List Tg.Hd.Hdr} {N:Nat}
end
section
variable {H:LH} {v w:Value} {l m:List Tg.Hd.Hdr} {N:Nat} {s:List UInt8}
theorem hcut_cl {k:Int} (h0:0≤k):LC Tryz.prog EJ 30 [str s,.int .i64 k] H=some (str (s.take k.toNat),H):=by
 refine LC_pure rfl Tryz.func30 rfl (Nat.le_of_ble_eq_true rfl) (by decide) (by kernel_rfl) (by simp) ?_
 by_cases hc:k<s.length
 ·have f:=eq_true hc
  have f2:=eq_true (show k≤s.length by omega)
  have f3:=eq_true h0
  simp [f,f2,f3]
 ·have f:=eq_false hc
  have e:s.take k.toNat=s:=List.take_of_length_le (by omega)
  simp [f,e]
theorem bs0h:lbuildSlice Tryz.prog 22 0 [] H=some (sl H.n 0 0,H.new ⟨[],59,true⟩):=by
 unfold lbuildSlice
 simp [Instr.fill,Value.cells]
 rfl
theorem bs1h {a b:List UInt8} :lbuildSlice Tryz.prog 22 1 [(0,.agg #[str a,str b])] H=some (sl H.n 1 1,H.new ⟨[str a,str b],59,true⟩):=by
 unfold lbuildSlice
 simp [Instr.fill,Value.cells,Array.range]
 rfl
structure OutRow (H:LH) (v:Value) (H':LH) (l:List Tg.Hd.Hdr):Prop where
 row:HOwn H.n H' v l
 full:Full v
 le:H.n≤H'.n
 old: ∀k,k<H.n→H'.get k=H.get k
theorem OutRow.trunc {H':LH} (h:OutRow H v H' l): ∃H2,Lg.trunc H (v,H')=(v,H2)∧OutRow H v H2 l:=by
 rcases trunc_or v H H' with e|⟨e,hf,_⟩
 ·exact⟨H',e,h⟩
 ·refine⟨H,e,⟨?_,h.full,Nat.le_refl _,fun _ _=>rfl⟩⟩
  refine⟨h.row.1,?_⟩
  rcases h.row.2 with h2|⟨k,c,rest,rfl,_⟩
  ·exact .inl h2
  ·simp [flatB,flat1B,atomB]at hf
theorem few_hl (hr:HRow H v l) (hl:l.length≤9223372036854775807) {c:Nat} (hc:c≤1000): ∃v' H',LC Tryz.prog EJ 18 [v,.int .i64 c] H=some (v',H')∧OutRow H v' H' (Tg.Hd.few l c):=by
 have key: ∃r,LC Tryz.prog EJ 18 [v,.int .i64 c] H=some (Lg.trunc H r)∧OutRow H r.1 r.2 (Tg.Hd.few l c):=by
  refine LC_runs (P:=Tryz.prog) (E:=EJ) (f:=18) rfl Tryz.func18 rfl (Nat.le_of_ble_eq_true rfl) (by decide) (by kernel_rfl) ?_
  simp [bs0h]
  refine loop_ind (fun(i:Nat) fr' H'=>fr' 0=v∧fr' 1=.int .i64 c∧fr' 6=.int .i64 i∧i≤l.length∧i≤c∧ ∃w,fr' 5=w∧OutRow H w H' ((l.take i).map fun h=>(h.1.take 30,h.2.take 100))) (fun i=>l.length-i) 0 ⟨by simp,by simp,by simp,Nat.zero_le _,Nat.zero_le _,sl H.n 0 0,by simp,⟨?_,full_new,by simp,fun k hk=>get_new_ne (by omega)⟩⟩ ?_
  ·exact⟨by simp [Tg.Hd.cells],.inr ⟨H.n,0,[],by simp,Nat.le_refl _,by simp,by simp [Tg.Hd.cells],by simp,by simp [Tg.Hd.cells]⟩⟩
  rintro i fr' H' ⟨h0,h1,h6,hi,hic,w,h5,hrow,hfull,hn,hk⟩ ih
  have hr':=hr.keep hn hk
  by_cases hlt:i<l.length
  ·have q:=eq_true (show(i:Int)<(l.length:Int) by omega)
   by_cases hlc:i<c
   ·have qc:=eq_true (show(i:Int)<(c:Int) by omega)
    have hw1:IntKind.i64.wrap ((i:Int)+1)=((i+1:Nat):Int):=by rw [wrapI (by omega) (by omega)];omega
    obtain⟨k,o,g1,g2,g3⟩:=hr'.at hlt
    obtain⟨_,g4,g5⟩:=g3 H' rfl
    have hc1:=fun H:LH=>hcut_cl (H:=H) (s:=l[i].1) (k:=30) (by decide)
    have hc2:=fun H:LH=>hcut_cl (H:=H) (s:=l[i].2) (k:=100) (by decide)
    simp only [show((30:Int).toNat)=30 from rfl,show((100:Int).toNat)=100 from rfl]at hc1 hc2
    have hnew:(l.take (i+1)).map (fun h:Tg.Hd.Hdr=>((h.1.take 30,h.2.take 100):Tg.Hd.Hdr))=(l.take i).map (fun h:Tg.Hd.Hdr=>((h.1.take 30,h.2.take 100):Tg.Hd.Hdr))++ [(l[i].1.take 30,l[i].2.take 100)]:=by
     rw [List.take_succ_eq_append_getElem hlt,List.map_append];rfl
    obtain⟨v',H2,a1,a2,a3,a4,a5,a6⟩:=h_app hrow hn (by rw [List.length_map,List.length_take];omega) (l[i].1.take 30) (l[i].2.take 100)
    rw [←hnew]at a2
    have hfin:=fun fr2 (f0:fr2 0=v) (f1:fr2 1=.int .i64 c) (f6:fr2 6=.int .i64 ((i+1:Nat):Int)) (f5:fr2 5=v')=>ih (i+1) fr2 H2 (by omega) ⟨f0,f1,f6,by omega,by omega,v',f5,⟨a2,a5 hfull,by omega,fun k hk2=>by rw [a4 k (by omega) (hrow.off_lt hk2),hk k hk2]⟩⟩
    clear ih
    generalize l[i].1.take 30=x1 at*
    generalize l[i].2.take 100=x2 at*
    generalize l[i]=a at*
    simp [h0,h1,h5,h6,q,qc,hlt,hlc,g1,g4,g5,hc1,hc2,bs1h,a1,hr.len]
    refine hfin _ ?_ ?_ ?_ ?_
    all_goals simp [h0,h1,hw1]
   ·have qc:=eq_false (show¬(i:Int)<(c:Int) by omega)
    have hic:i=c:=by omega
    subst hic
    simp [h0,h1,h5,h6,q,hlt,hr.len]
    exact⟨hrow,hfull,hn,hk⟩
  ·have q:=eq_false (show¬(i:Int)<(l.length:Int) by omega)
   have e:l.take i=l.take c:=by rw [List.take_of_length_le (by omega),List.take_of_length_le (by omega)]
   rw [e]at hrow
   simp [h0,h1,h5,h6,q,hr.len]
   exact⟨hrow,hfull,hn,hk⟩
 obtain⟨r,e,ho⟩:=key
 obtain⟨H2,e2,ho2⟩:=ho.trunc
 exact⟨r.1,H2,by rw [e,←e2],ho2⟩
end
end Go.Proofs.YtcgiaiimbnoknaaGreatDoor
namespace Tg.Hd
def isP (name:List UInt8) (h:Hdr):Bool:=decide (Tg.Lo.lower h.1=Tg.Lo.lower name)
end Tg.Hd
namespace Go.Proofs.YtcgiaiimbnoknaaGreatDoor
open Go.Lg Go.Tg
section
variable {H:LH} {v w:Value} {l m:List Tg.Hd.Hdr} {N:Nat} {s name value:List UInt8} {h:Tg.Hd.Hdr} {p:Nat}
theorem csame_cl (hs:s.length≤9223372036854775806) {t:List UInt8} :LC Tryz.prog EJ 147 [str s,str t] H=some (.bool (decide (Tg.Lo.lower s=Tg.Lo.lower t)),H):=by
 refine LC_pure rfl Tryz.func147 rfl (Nat.le_of_ble_eq_true rfl) (by decide) (by kernel_rfl) rfl ?_
 have hh:=fun H:LH=>same_cl (H:=H) (s:=s) (p:=t) hs
 simp [hh]
theorem named1_cl (hg:H.get p=some ⟨[str name],9,true⟩) (hp:p<H.n) (hs:h.1.length≤1048576):LC Tryz.prog EJ 267 [hv h,ptr p 0] H=some (.bool (Tg.Hd.isP name h),H):=by
 refine LC_pure rfl Tryz.func267 rfl (Nat.le_of_ble_eq_true rfl) (by decide) (by kernel_rfl) (by simp) ?_
 have hh:=fun H:LH=>csame_cl (H:=H) (s:=h.1) (t:=name) (by omega)
 have hne:(p=H.n)=False:=eq_false (by omega)
 unfold Tg.Hd.isP
 simp [hh,hg,hne,le_refl.new]
theorem named_l:LC Tryz.prog EJ 230 [str name] H=some (.func (.func 267) #[] #[ptr H.n 0],H.new ⟨[str name],9,true⟩):=by
 obtain⟨r,h,e⟩: ∃r,LC Tryz.prog EJ 230 [str name] H=some (Lg.trunc H r)∧r=(.func (.func 267) #[] #[ptr H.n 0],H.new ⟨[str name],9,true⟩):=by
  refine LC_runs (P:=Tryz.prog) (E:=EJ) (f:=230) rfl Tryz.func230 rfl (Nat.le_of_ble_eq_true rfl) (by decide) (by kernel_rfl) ?_
  simp
 rw [h,e,trunc_no (by simp [flatB,flat1B,atomB])]
theorem HOwn.weak {N':Nat} (h:HOwn N H v l) (hn:N'≤N):HOwn N' H v l:=by
 refine⟨h.1,?_⟩
 rcases h.2 with h2|⟨k,c,rest,rfl,g1,g2,g3,g4,g5⟩
 ·exact .inl h2
 ·exact .inr ⟨k,c,rest,rfl,by omega,g2,g3,g4,g5⟩
end
end Go.Proofs.YtcgiaiimbnoknaaGreatDoor
namespace Tg.Hd
end Tg.Hd
namespace Go.Proofs.YtcgiaiimbnoknaaGreatDoor
open Go.Lg Go.Tg
section
variable {H:LH} {b:UInt8} {s p:List UInt8}
end
section
variable {H:LH} {v w:Value} {l m:List Tg.Hd.Hdr} {N:Nat} {s name value:List UInt8} {h:Tg.Hd.Hdr} {p:Nat}
end
end Go.Proofs.YtcgiaiimbnoknaaGreatDoor
namespace Tg.Mi
end Tg.Mi
namespace Go.Proofs.YtcgiaiimbnoknaaGreatDoor.Mi
open Go.Lg Go.Tg
section
variable {H H':LH} {N M:Nat} {s t:List UInt8} {v w:Value}
end
section
variable {H H':LH} {N M:Nat} {s t u name:List UInt8} {v w:Value} {ps:List Tg.Mi.Par}
end
end Go.Proofs.YtcgiaiimbnoknaaGreatDoor.Mi
namespace Tg.Mi
end Tg.Mi
namespace Go.Proofs.YtcgiaiimbnoknaaGreatDoor.Mi
open Go.Lg Go.Tg
section
variable {H H':LH} {N M:Nat} {s t u name:List UInt8} {v w:Value} {ps:List Tg.Mi.Par}
end
section
variable {H H':LH} {N M b c l i:Nat} {s t:List UInt8} {v w p:Value} {xs:List (List UInt8)}
theorem lesz_str:lesz Tryz.prog 9=some elS.n:=by kernel_rfl
theorem piece_ex {D:Nat} {C:LB} {y z:List UInt8} {vb vo:Value} {out:List (List UInt8)} (hb:Bld D H b y vb) (how:OwnG elS 9 N D H vo out) (hN:N≤D) (hDb:D≤b) (hc:H.get c=some C) (hcn:c<H.n) (hcb:c≠b) (hC1:C.elem≠5) (hC2:C.elem≠9) (hy:y.length≤maxLen) (ho:out.length+1≤maxElems):
  ∃H5 v7 H7 H8,LC Tryz.prog EJ 236 [ptr b 0] H=some (str y,H5)∧lapp Tryz.prog 84 vo (some (1,[str z])) (H5.new ⟨[str z],9,true⟩)=some (v7,H7)∧LC Tryz.prog EJ 237 [ptr b 0] H7=some (.tuple #[],H8)∧cellB v7=true∧
   Bld D H8 b [] (.slice none 0 0)∧OwnG elS 9 N D H8 v7 (out++ [z])∧H8.get c=some C∧H.n≤H8.n∧ ∀k,k<D→H8.get k=H.get k:=by
 obtain⟨H5,e5,n5,k5⟩:=bstr_kp hb hy
 obtain⟨p,gb,hp⟩:=hb.get
 have hlt:=hb.lt
 have hoff: ∀k,k<D→offRow vb k:=fun k hk=>hb.row.off_lt hk
 have how5:OwnG elS 9 N D H5 vo out:=how.keep ⟨by omega,fun k b hk hb hor=>by rcases hor with h|h;exact(by rw [k5 k (hoff k (by omega))];exact hb);exact h.elim⟩ (fun k h1 hno hk=>k5 k (own_no_touch how hb (by decide) hno))
 obtain⟨v7,H7,a7,r7,n7,k7,o7,kp7⟩:=how5.app (t:=84) (cs:= [str z]) (a:=z) Tryz.underlying84 lesz_str hN (by have:=hb.N;omega) ho rfl (fun h=>h)
 have g5b:H5.get b=some ⟨[p,vb],207,true⟩:=by rw [k5 b hb.off];exact gb
 have ob:offRow vo b:=how5.off_elem g5b (by show 207≠9;decide)
 have g7b:H7.get b=some ⟨[p,vb],207,true⟩:=by rw [k7 b (by omega) ob];exact g5b
 have g5c:H5.get c=some C:=by rw [k5 c (hb.off_of hc hC1)];exact hc
 have g7c:H7.get c=some C:=by rw [k7 c (by omega) (how5.off_elem g5c hC2)];exact g5c
 refine⟨H5,v7,H7,H7.set b ⟨[.pointer none,.slice none 0 0],207,true⟩,e5,a7,reset_k g7b (by omega),r7.cell,?_,?_,?_,?_,?_⟩
 ·exact⟨⟨_,get_set,.inl rfl⟩,RowN.nil,(by unfold Full;simp),(fun n c e=>by cases e),(by rw [n_set];omega),(by rw [n_set];have:=hb.N;omega),fun _=>rfl⟩
 ·refine r7.keep ⟨Nat.le_refl _,fun k b hk hb hor=>by rcases hor with h|h;exact(by rw [get_set_ne (by omega)];exact hb);exact h.elim⟩ (fun k _ hno _=>get_set_ne (fun e=>hno (e▸o7 b (by omega) ob)))
 ·rw [get_set_ne hcb];exact g7c
 ·rw [n_set];omega
 ·intro k hk
  rw [get_set_ne (by omega),k7 k (by have:=hb.N;omega) (how5.off_lt hk),k5 k (hoff k hk)]
theorem split_ex (hN:N≤H.n) (hs:s.length≤100000):Gives Tryz.prog EJ 188 [str s] H fun H' v=>RowG elS 9 N H' v (Tg.Mi.splitP s):=by
 refine gives_of ?_ (fun v H' hf h=>h.flat hf)
 refine LC_runs (P:=Tryz.prog) (E:=EJ) (f:=188) rfl Tryz.func188 rfl (Nat.le_of_ble_eq_true rfl) (by decide) (by kernel_rfl) ?_
 obtain⟨T,hT⟩: ∃T,T=Tg.Mi.splitP s:=⟨_,rfl⟩
 rw [←hT]
 obtain⟨Hb,hHb⟩: ∃Hb,Hb=(H.new ⟨[.pointer none,.slice none 0 0],207,true⟩).new (cu s 0):=⟨_,rfl⟩
 have hnb:Hb.n=H.n+1+1:=by rw [hHb];rfl
 have hnew:=cnew_k (H:=H.new ⟨[.pointer none,.slice none 0 0],207,true⟩) (s:=s)
 rw [←hHb,n_new]at hnew
 have hob: ∀k,k<H.n→Hb.get k=H.get k:=fun k hk2=>by rw [hHb,get_new_ne (by simp;omega),get_new_ne (by omega)]
 have gb:Hb.get H.n=some ⟨[.pointer none,.slice none 0 0],207,true⟩:=by rw [hHb,get_new_ne (by simp),get_new]
 have gc:Hb.get (H.n+1)=some (cu s 0):=by rw [hHb];exact get_new
 have bl:Bld H.n Hb H.n [] (.slice none 0 0):=⟨⟨_,gb,.inl rfl⟩,RowN.nil,(by unfold Full;simp),(fun n c e=>by cases e),(by omega),(by omega),fun _=>rfl⟩
 simp [hnew]
 refine loop_ind (fun(j:Nat) fr' H'=> ∃acc out vb vo,fr' 3=vo∧fr' 4=ptr H.n 0∧fr' 5=ptr (H.n+1) 0∧j≤s.length∧acc.length≤j∧out.length≤j∧Bld H.n H' H.n acc vb∧OwnG elS 9 N H.n H' vo out∧H'.get (H.n+1)=some (cu s j)∧H.n+2≤H'.n∧(∀k,k<H.n→H'.get k=H.get k)∧T=out++(Tg.Mi.cutQ (s.length-j) (s.drop j) acc).map Tg.Mi.trimP) (fun j=>s.length-j) 0 ⟨[],[],_,_,by simp,by simp,by simp,Nat.zero_le _,by simp,by simp,bl,OwnG.nil,gc,by omega,hob,by rw [hT];rfl⟩ ?_
 rintro j fr' H2 ⟨acc,out,vb,vo,f3,f4,f5,hj,hacc,hout,hbl,how,hcu,hn2,hold,hq⟩ ih
 have hu:=cuntil_k (t:= [34,44]) hcu (by omega) hj (by omega)
 have hul:=Tg.Mi.until_le [34,44] (s.drop j)
 have hdl:(s.drop j).length=s.length-j:=List.length_drop
 rw [Tg.Mi.cutQ_until _ _ _ (by omega),List.drop_drop]at hq
 have hstop:=fun b r=>Tg.Mi.until_stopG (t:= [34,44]) (x:=s.drop j) (b:=b) (r:=r)
 rw [List.drop_drop]at hstop
 have hxl:((s.drop j).take (Tg.Mi.until_ [34,44] (s.drop j))).length=Tg.Mi.until_ [34,44] (s.drop j):=by rw [List.length_take];omega
 generalize (s.drop j).take (Tg.Mi.until_ [34,44] (s.drop j))=x at*
 generalize Tg.Mi.until_ [34,44] (s.drop j)=u at*
 obtain⟨H3,hH3⟩: ∃H3,H3=H2.set (H.n+1) (cu s (j+u)):=⟨_,rfl⟩
 rw [←hH3]at hu
 have hn3:H3.n=H2.n:=by rw [hH3];rfl
 have hk3: ∀k,k≠H.n+1→H3.get k=H2.get k:=fun k hk=>by rw [hH3,get_set_ne hk]
 have hc3:H3.get (H.n+1)=some (cu s (j+u)):=by rw [hH3,get_set]
 have ho2:offRow vb (H.n+1):=hbl.off_of hcu (by show 194≠5;decide)
 have hbl3:=hbl.keep1 (H':=H3) (c:=H.n+1) (by omega) (by omega) ho2 (fun k _ h=>hk3 k h)
 have how3:OwnG elS 9 N H.n H3 vo out:=how.keep ⟨by omega,fun k b hk hb hor=>by rcases hor with h|h;exact(by rw [hk3 k (by omega)];exact hb);exact h.elim⟩ (fun k _ hno _=>hk3 k (fun e=>hno (e▸how.off_elem hcu (by show 194≠9;decide))))
 obtain⟨v4,H4,e4,b4,k4⟩:=wstr_ex (s:=x) hbl3 (by unfold maxElems;omega)
 have hn4:H3.n≤H4.n:=k4.n
 have ho3:offRow vb (H.n+1):=ho2
 have hc4:H4.get (H.n+1)=some (cu s (j+u)):=by rw [k4.keep _ (by omega) (by omega) ho3];exact hc3
 have how4:OwnG elS 9 N H.n H4 vo out:=how3.keep ⟨hn4,fun k b hk hb hor=>by rcases hor with h|h;exact(by rw [k4.keep k hk (by omega) (hbl3.row.off_lt (by omega))];exact hb);exact h.elim⟩ (fun k h1 hno hk=>k4.keep k hk (fun e=>hno (by
  obtain⟨p,hg,_⟩:=hbl3.get
  subst e;exact how3.off_elem hg (by show 207≠9;decide))) (own_no_touch how3 hbl3 (by decide) hno))
 have hold4: ∀k,k<H.n→H4.get k=H.get k:=fun k hk=>by rw [k4.keep k (by omega) (by omega) (hbl3.row.off_lt hk),hk3 k (by omega),hold k hk]
 have hpk:=cpeek_k hc4 (by omega)
 clear hbl hbl3 how how3 hold hH3
 cases hy:s.drop (j+u)with
 |nil=>
  rw [hy]at hpk hq
  have hlen4:(s.drop (j+u)).length=s.length-(j+u):=List.length_drop
  rw [hy]at hlen4
  have hlt:decide (j+u<s.length)=false:=decide_eq_false (by simp at hlen4;omega)
  rw [hlt]at hpk
  have e6:=fun H:LH=>trim_k (H:=H) (s:=acc++x) (by simp;omega)
  obtain⟨H5,v7,H7,H8,e5,a7,e8,cv,b8,w8,c8,n8,k8⟩:=piece_ex (z:=Tg.Mi.trimP (acc++x)) b4 how4 hN (Nat.le_refl _) hc4 (by omega) (by omega) (by show 194≠5;decide) (by show 194≠9;decide) (by unfold maxLen;simp;omega) (by unfold maxElems;omega)
  have hT2:T=out++ [Tg.Mi.trimP (acc++x)]:=by
   rw [hq]
   cases s.length-j<;>rfl
  unfold Tg.Mi.trimP at a7 hT2 w8
  clear ih
  simp [f3,f4,f5,hu,e4,hpk,e5,e6,a7,e8]
  rw [hT2]
  exact⟨⟨by omega,fun k hk=>by rw [k8 k hk,hold4 k hk]⟩,w8.row⟩
 |cons b r=>
  have hlen4:(s.drop (j+u)).length=s.length-(j+u):=List.length_drop
  rw [hy]at hpk hq hlen4
  have hlt:j+u<s.length:=by simp at hlen4;omega
  rw [decide_eq_true hlt]at hpk
  have hpk:LC Tryz.prog EJ 233 [ptr (H.n+1) 0,.int .i64 0] H4=some (.tuple #[.int .u8 b.toNat,.bool true],H4):=hpk
  have hsb:s[j+u]=b:=by
   have:=List.drop_eq_getElem_cons hlt
   rw [hy]at this
   injection this with h1 h2
   exact h1.symm
  have hr:s.drop (j+u+1)=r:=by rw [←List.drop_drop,hy];rfl
  obtain⟨m,hm⟩: ∃m,s.length-j=m+1:=⟨s.length-j-1,by omega⟩
  rw [hm]at hq
  unfold Tg.Mi.cutQ at hq
  by_cases hb:b=34
  ·subst hb
   rw [if_pos rfl]at hq
   obtain⟨H5,e5,o5⟩:=collect_ex hc4 (by omega) hlt hs hsb
   rw [hr]at e5 o5
   have hcl:=Tg.Mi.coll_le r
   have hrl:r.length+1=s.length-(j+u):=by simpa using hlen4
   have hall:(34::(Tg.Mi.coll r).2.1).length≤1+(Tg.Mi.coll r).2.2:=by
    have:=Tg.Mi.coll_all r
    rw [this];simp;omega
   have b5:=b4.keep1 (H':=H5) (c:=H.n+1) o5.n (by omega) (b4.off_of hc4 (by show 194≠5;decide)) (fun k hk hne=>o5.old k hk hne)
   have w5:OwnG elS 9 N H.n H5 vo out:=how4.keep ⟨o5.n,fun k b hk hb hor=>by rcases hor with h|h;exact(by rw [o5.old k hk (by omega)];exact hb);exact h.elim⟩ (fun k _ hno hk=>o5.old k hk (fun e=>hno (e▸how4.off_elem hc4 (by show 194≠9;decide))))
   obtain⟨v6,H6,e6,b6,k6⟩:=wstr_ex (s:=34::(Tg.Mi.coll r).2.1) b5 (by unfold maxElems;rw [List.length_append];omega)
   have hcx:=o5.get
   have w6:OwnG elS 9 N H.n H6 vo out:=w5.keep ⟨k6.n,fun k b hk hb hor=>by rcases hor with h|h;exact(by rw [k6.keep k hk (by omega) (b5.row.off_lt (by omega))];exact hb);exact h.elim⟩ (fun k h1 hno hk=>k6.keep k hk (fun e=>hno (by
    obtain⟨p,hg,_⟩:=b5.get
    subst e;exact w5.off_elem hg (by show 207≠9;decide))) (own_no_touch w5 b5 (by decide) hno))
   have hc6:H6.get (H.n+1)=some (cu s (j+u+1+(Tg.Mi.coll r).2.2)):=by
    rw [k6.keep _ (by have:=o5.n;omega) (by omega) (b5.off_of hcx (by show 194≠5;decide))];exact hcx
   have hn6:H.n+2≤H6.n:=by have:=o5.n;have:=k6.n;omega
   have hd:r.drop (Tg.Mi.coll r).2.2=s.drop (j+u+1+(Tg.Mi.coll r).2.2):=by rw [←hr,List.drop_drop]
   rw [hd,Tg.Mi.cutQ_fuel m (s.length-(j+u+1+(Tg.Mi.coll r).2.2)) _ _ (by rw [List.length_drop];omega) (by rw [List.length_drop];omega)]at hq
   have hfin:=fun fr2 (g3:fr2 3=vo) (g4:fr2 4=ptr H.n 0) (g5:fr2 5=ptr (H.n+1) 0)=>ih (j+u+1+(Tg.Mi.coll r).2.2) fr2 H6 (by omega) ⟨acc++x++34::(Tg.Mi.coll r).2.1,out,v6,vo,g3,g4,g5,by omega,by rw [List.length_append,List.length_append];omega,by omega,b6,w6,hc6,hn6,fun k hk=>by rw [k6.keep k (by have:=o5.n;omega) (by omega) (b5.row.off_lt hk),o5.old k (by omega) (by omega),hold4 k hk],by rw [List.append_assoc]at hq⊢;exact hq⟩
   clear ih hq
   have hb34:((UInt8.toNat 34:Nat):Int)=34:=rfl
   rw [hb34]at hpk
   simp [f3,f4,f5,hu,e4,hpk,e5,e6]
   refine hfin _ ?_ ?_ ?_
   all_goals simp [f3,f4,f5]
  ·have hb44:b=44:=by
    have h1:=hstop b r hy
    by_cases h2:b=44
    ·exact h2
    ·exact absurd ((Tg.Mi.comma_iff b).2 ⟨hb,h2⟩) h1
   subst hb44
   rw [if_neg (by decide),if_pos rfl]at hq
   have e6:=fun H:LH=>trim_k (H:=H) (s:=acc++x) (by simp;omega)
   obtain⟨H5,v7,H7,H8,e5,a7,e8,cv,b8,w8,c8,n8,k8⟩:=piece_ex (z:=Tg.Mi.trimP (acc++x)) b4 how4 hN (Nat.le_refl _) hc4 (by omega) (by omega) (by show 194≠5;decide) (by show 194≠9;decide) (by unfold maxLen;simp;omega) (by unfold maxElems;omega)
   have e9:=cnext_k c8 (by omega) hlt (by omega)
   rw [←hr,Tg.Mi.cutQ_fuel m (s.length-(j+u+1)) _ _ (by rw [List.length_drop];omega) (by rw [List.length_drop];omega),List.map_cons]at hq
   have hfin:=fun fr2 (g3:fr2 3=v7) (g4:fr2 4=ptr H.n 0) (g5:fr2 5=ptr (H.n+1) 0)=>ih (j+u+1) fr2 (H8.set (H.n+1) (cu s (j+u+1))) (by omega) ⟨[],out++ [Tg.Mi.trimP (acc++x)],_,v7,g3,g4,g5,by omega,Nat.zero_le _,by rw [List.length_append,List.length_singleton];omega,
    b8.keep1 (c:=H.n+1) (Nat.le_refl _) (by omega) (fun n c e=>by cases e) (fun k _ hne=>get_set_ne hne),
    w8.keep ⟨Nat.le_refl _,fun k b hk hb hor=>by rcases hor with h|h;exact(by rw [get_set_ne (by omega)];exact hb);exact h.elim⟩ (fun k _ hno _=>get_set_ne (fun e=>hno (e▸w8.off_elem c8 (by show 194≠9;decide)))),
    get_set,by rw [n_set];omega,fun k hk=>by rw [get_set_ne (by omega),k8 k hk,hold4 k hk],by rw [List.append_assoc];exact hq⟩
   unfold Tg.Mi.trimP at a7 hfin
   clear ih hq
   have hb44:((UInt8.toNat 44:Nat):Int)=44:=rfl
   rw [hb44]at hpk
   simp [f3,f4,f5,hu,e4,hpk,e5,e6,a7,e8,e9]
   refine hfin _ ?_ ?_ ?_
   all_goals simp [f3,f4,f5]
end
end Go.Proofs.YtcgiaiimbnoknaaGreatDoor.Mi
namespace Tg.Hd
def getP (name:List UInt8) (l:List Hdr):List (List UInt8):=(l.filter (isP name)).map fun h=>h.2
theorem getP_take {name:List UInt8} {l:List Hdr} {i:Nat} (h:i<l.length):getP name (l.take (i+1))=getP name (l.take i)++(if isP name l[i]=true then [l[i].2]else []):=by
 rw [List.take_succ_eq_append_getElem h]
 unfold getP
 rw [List.filter_append,List.map_append]
 congr 1
 cases hx:isP name l[i]<;>simp [hx]
theorem getP_len (name:List UInt8) (l:List Hdr):(getP name l).length≤l.length:=by
 unfold getP
 rw [List.length_map]
 exact List.length_filter_le _ _
def joinC (l:List (List UInt8)):List UInt8:=Go.Lib.join l [44,32]
end Tg.Hd
namespace Go.Proofs.YtcgiaiimbnoknaaGreatDoor
open Go.Lg Go.Tg
abbrev SOwn (N:Nat) (H:LH) (v:Value) (xs:List (List UInt8)):Prop:=RowN N H 9 1 v xs.length (xs.map str)
section
variable {H H':LH} {v w:Value} {l m:List Tg.Hd.Hdr} {N:Nat} {s name value:List UInt8} {h:Tg.Hd.Hdr} {p:Nat} {xs ys:List (List UInt8)}
structure OutS (H:LH) (v:Value) (H':LH) (xs:List (List UInt8)):Prop where
 row:SOwn H.n H' v xs
 le:H.n≤H'.n
 old: ∀k,k<H.n→H'.get k=H.get k
theorem OutS.trunc (h:OutS H v H' xs): ∃H2,Lg.trunc H (v,H')=(v,H2)∧OutS H v H2 xs:=by
 rcases trunc_or v H H' with e|⟨e,hf,_⟩
 ·exact⟨H',e,h⟩
 ·refine⟨H,e,⟨?_,Nat.le_refl _,fun _ _=>rfl⟩⟩
  refine⟨h.row.1,?_⟩
  rcases h.row.2 with h2|⟨k,c,rest,rfl,_⟩
  ·exact .inl h2
  ·simp [flatB,flat1B,atomB]at hf
theorem SOwn.at (h:SOwn N H v xs) {i:Nat} (hi:i<xs.length): ∃k o,(∀H':LH,lixa Tryz.prog 84 v (.int .i64 i) H'=some (ptr k o,H'))∧k<H.n∧ ∀H':LH,H'.get k=H.get k→lld Tryz.prog 9 (ptr k o) H'=some (str xs[i]):=by
 rcases h.2 with⟨rfl,h0⟩|⟨k,c,rest,rfl,g1,g2,g3,g4,g5⟩
 ·omega
 ·refine⟨k,0+i*1,fun H'=>?_,g2,fun H' e=>?_⟩
  ·have q:=eq_true (show(i:Int)<(xs.length:Int) by omega)
   simp [q]
  ·rw [g3]at e
   have e2:(xs.map str++rest)[0+i*1]?=some (str xs[i]):=by
    rw [show 0+i*1=i by omega,List.getElem?_append_left (by simpa using hi),List.getElem?_map,List.getElem?_eq_getElem hi];rfl
   rw [lld_ptr e]
   simp
   simpa using e2
theorem SOwn.len (h:SOwn N H v xs):lbuiltin Tryz.prog .len [84] [v] H'=some (.int .i64 xs.length,H'):=RowN.len h Tryz.underlying84
theorem RowN.weak {P:Program} {N':Nat} {e:TypeId} {s n:Nat} {zs:List Value} (h:RowN N H e s v n zs) (hn:N'≤N):RowN N' H e s v n zs:=by
 refine⟨h.1,?_⟩
 rcases h.2 with h2|⟨k,c,rest,rfl,g1,g2,g3,g4,g5⟩
 ·exact .inl h2
 ·exact .inr ⟨k,c,rest,rfl,by omega,g2,g3,g4,g5⟩
theorem cget_ex (hr:HRow H v l) (hl:l.length≤90000) (hs: ∀h∈l,h.1.length≤1048576): ∃v' H',LC Tryz.prog EJ 186 [str name,v] H=some (v',H')∧OutS H v' H' (Tg.Hd.getP name l):=by
 have key: ∃r,LC Tryz.prog EJ 186 [str name,v] H=some (Lg.trunc H r)∧OutS H r.1 r.2 (Tg.Hd.getP name l):=by
  refine LC_runs (P:=Tryz.prog) (E:=EJ) (f:=186) rfl Tryz.func186 rfl (Nat.le_of_ble_eq_true rfl) (by decide) (by kernel_rfl) ?_
  simp [named_l,hr.len]
  refine loop_ind (fun(i:Nat) fr' H'=>fr' 6=.func (.func 267) #[] #[ptr H.n 0]∧fr' 11=v∧fr' 12=.int .i64 l.length∧fr' 13=.int .i64 i∧i≤l.length∧ ∃w,fr' 5=w∧SOwn (H.n+1) H' w (Tg.Hd.getP name (l.take i))∧H.n+1≤H'.n∧H'.get H.n=some ⟨[str name],9,true⟩∧ ∀k,k<H.n→H'.get k=H.get k) (fun i=>l.length-i) 0 ⟨by simp,by simp,by simp,by simp,Nat.zero_le _,.slice none 0 0,by simp,⟨by simp [Tg.Hd.getP],.inl ⟨rfl,rfl⟩⟩,by simp,by simp,fun k hk=>get_new_ne (by omega)⟩ ?_
  rintro i fr' H' ⟨f6,f11,f12,f13,hi,w,f5,ho,hn2,hb0,hold⟩ ih
  have hr':=hr.keep (by omega) hold
  by_cases hlt:i<l.length
  ·have q:=eq_true (show(i:Int)<(l.length:Int) by omega)
   have hw1:IntKind.i64.wrap ((i:Int)+1)=((i+1:Nat):Int):=by rw [wrapI (by omega) (by omega)];omega
   obtain⟨k,o,g1,g2,g3⟩:=hr'.at hlt
   obtain⟨g4,_,_⟩:=g3 H' rfl
   have hm:=hs l[i] (List.getElem_mem hlt)
   have hgl:=Tg.Hd.getP_len name (l.take i)
   rw [List.length_take]at hgl
   have hnew:=Tg.Hd.getP_take (name:=name) hlt
   have ihx:=fun fr2 H2=>ih (i+1) fr2 H2 (by omega)
   clear ih
   generalize Tg.Hd.getP name (l.take (i+1))=c' at*
   generalize Tg.Hd.getP name (l.take i)=c at*
   generalize l[i]=x at*
   have hnm:=named1_cl (H:=H'.new (hb x)) (p:=H.n) (name:=name) (h:=x) (by rw [get_new_ne (by omega)];exact hb0) (by rw [n_new];omega) hm
   have ho1:SOwn (H.n+1) (H'.new (hb x)) w c:=ho.keep (Nat.le_succ _) (fun j hj _ hjn=>get_new_ne (by omega))
   have hnw: ∀k,k<H.n+1→(H'.new (hb x)).get k=H'.get k:=fun k hk=>get_new_ne (by omega)
   cases hx:Tg.Hd.isP name x with
   |true=>
    rw [hx]at hnm hnew
    rw [if_pos rfl]at hnew
    obtain⟨v',H2,a1,a2,a3,a4⟩:=out_app (x:=x.2) ho1 (by rw [n_new];omega) (by omega)
    rw [←hnew]at a2
    have hg2: ∀k,k<H.n+1→H2.get k=H'.get k:=fun k hk=>by rw [a4 k hk,hnw k hk]
    simp [f6,f11,f12,f13,f5,q,hlt,g1,g4,hnm,a1]
    refine ihx _ _ ⟨?_,?_,?_,?_,by omega,v',?_,a2,a3,by rw [hg2 _ (by omega)];exact hb0,fun k hk=>by rw [hg2 k (by omega)];exact hold k hk⟩
    all_goals simp [f6,f11,f12,hw1]
   |false=>
    rw [hx]at hnm hnew
    rw [if_neg (by decide),List.append_nil]at hnew
    subst hnew
    simp [f6,f11,f12,f13,f5,q,hlt,g1,g4,hnm]
    refine ihx _ _ ⟨?_,?_,?_,?_,by omega,w,?_,ho1,by rw [n_new];omega,by rw [hnw _ (by omega)];exact hb0,fun k hk=>by rw [hnw k (by omega)];exact hold k hk⟩
    all_goals simp [f6,f11,f12,f5,hw1]
  ·have q:=eq_false (show¬(i:Int)<(l.length:Int) by omega)
   rw [List.take_of_length_le (by omega)]at ho
   simp [f12,f13,f5,q]
   exact⟨RowN.weak (P:=Tryz.prog) ho (by omega),by omega,hold⟩
 obtain⟨r,e,ho⟩:=key
 obtain⟨H2,e2,ho2⟩:=ho.trunc
 exact⟨r.1,H2,by rw [e,←e2],ho2⟩
theorem Get_ex (hr:HRow H v l) (hl:l.length≤90000) (hs: ∀h∈l,h.1.length≤1048576): ∃v' H',LC Tryz.prog EJ 145 [str name,v] H=some (v',H')∧OutS H v' H' (Tg.Hd.getP name l):=by
 obtain⟨v',H',e,ho⟩:=cget_ex (name:=name) hr hl hs
 have key: ∃r,LC Tryz.prog EJ 145 [str name,v] H=some (Lg.trunc H r)∧OutS H r.1 r.2 (Tg.Hd.getP name l):=by
  refine LC_runs (P:=Tryz.prog) (E:=EJ) (f:=145) rfl Tryz.func145 rfl (Nat.le_of_ble_eq_true rfl) (by decide) (by kernel_rfl) ?_
  simp [e]
  exact ho
 obtain⟨r,e,ho⟩:=key
 obtain⟨H2,e2,ho2⟩:=ho.trunc
 exact⟨r.1,H2,by rw [e,←e2],ho2⟩
theorem cjoin_cl (h:SOwn N H v xs) (hne:xs≠ []) (hn:xs.length≤1000000) (hl:(Tg.Hd.joinC xs).length≤9000000):LC Tryz.prog EJ 231 [v] H=some (str (Tg.Hd.joinC xs),H):=by
 have hj:LC Tryz.prog EJ 298 [v,str [44,32]] H=some (str (Tg.Hd.joinC xs),H):=by
  rcases h.2 with⟨rfl,h0⟩|⟨k,c,rest,rfl,g1,g2,g3,g4,g5⟩
  ·exact absurd (List.eq_nil_of_length_eq_zero h0) hne
  ·exact join_l (n:=xs.length) g3 (by intro e;exact hne (List.eq_nil_of_length_eq_zero e)) g4 (by omega) rfl (by rw [List.drop_zero,List.take_left' (by simp)]) (by unfold Tg.Hd.joinC at hl;omega)
 have hj2:LC Tryz.prog EJ 268 [v] H=some (str (Tg.Hd.joinC xs),H):=by
  refine LC_pure rfl Tryz.func268 rfl (Nat.le_of_ble_eq_true rfl) (by decide) (by kernel_rfl) (by simp) ?_
  simp [hj]
 refine LC_pure rfl Tryz.func231 rfl (Nat.le_of_ble_eq_true rfl) (by decide) (by kernel_rfl) (by simp) ?_
 simp [hj2]
theorem comb_cl (hr:HRow H v l) (hl:l.length≤90000) (hs: ∀h∈l,h.1.length≤1048576) (hjl:(Tg.Hd.joinC (Tg.Hd.getP name l)).length≤9000000):
  LC Tryz.prog EJ 187 [str name,v] H=some (.tuple #[str (Tg.Hd.joinC (Tg.Hd.getP name l)),.bool (decide (Tg.Hd.getP name l≠ []))],H):=by
 obtain⟨v',H',e,ho⟩:=cget_ex (name:=name) hr hl hs
 have hgl:=Tg.Hd.getP_len name l
 refine LC_pure rfl Tryz.func187 rfl (Nat.le_of_ble_eq_true rfl) (by decide) (by kernel_rfl) rfl ?_
 generalize Tg.Hd.getP name l=xs at*
 have hlen:=fun H2:LH=>ho.row.len (H':=H2)
 by_cases hx:xs= []
 ·subst hx
  simp at hlen
  simp [e,hlen,Tg.Hd.joinC,Lib.join]
  exact⟨ho.le,ho.old⟩
 ·have hc:=cjoin_cl ho.row hx (by omega) hjl
  have q:=eq_false (show¬(xs.length:Int)=0 by intro e;exact hx (List.eq_nil_of_length_eq_zero (by omega)))
  simp [e,hlen,hx,hc]
  exact⟨ho.le,ho.old⟩
end
end Go.Proofs.YtcgiaiimbnoknaaGreatDoor
namespace Tg.Hd
theorem joinC_take {xs:List (List UInt8)} {i:Nat} (h:i<xs.length):joinC (xs.take (i+1))=if i=0 then xs[i]else joinC (xs.take i)++([44,32]++xs[i]):=by
 rw [List.take_succ_eq_append_getElem h]
 by_cases hi:i=0
 ·subst hi
  rw [if_pos rfl]
  simp [joinC,Go.Lib.join_cons,Go.Lib.joinTail]
 ·rw [if_neg hi]
  cases xs with
  |nil=>simp at h
  |cons a r=>
   obtain⟨j,rfl⟩: ∃j,i=j+1:=⟨i-1,by omega⟩
   rw [List.take_succ_cons,List.cons_append]
   unfold joinC
   rw [Go.Lib.join_cons,Go.Lib.join_cons]
   unfold Go.Lib.joinTail
   rw [List.map_append,List.flatten_append]
   simp
theorem joinC_len {m:Nat} {xs:List (List UInt8)} (h: ∀x∈xs,x.length≤m): ∀i,i≤xs.length→(joinC (xs.take i)).length≤i*(m+2)
 |0,_=>by simp [joinC,Go.Lib.join]
 |i+1,hi=>by
  have ih:=joinC_len h i (by omega)
  have hx:=h xs[i] (List.getElem_mem (by omega))
  rw [joinC_take (by omega),Nat.add_mul]
  split
  ·omega
  ·simp;omega
end Tg.Hd
namespace Go.Proofs.YtcgiaiimbnoknaaGreatDoor
open Go.Lg Go.Tg
section
variable {H H':LH} {v w:Value} {N M:Nat} {xs ys:List (List UInt8)}
end
end Go.Proofs.YtcgiaiimbnoknaaGreatDoor
namespace Tg.Mi
def valuesP (xs:List (List UInt8)):List (List UInt8):=if xs= []then []else splitP (Tg.Hd.joinC xs)
def every:List UInt8:= [42,47,42]
def oneP (s:List UInt8):Option Mim:=match parseP s with
 |some m=>if essP m.t m.s=every then none else some m
 |none=>none
def allP (l:List (List UInt8)):List Mim:=l.filterMap oneP
def foldM:List Mim→Mim×List UInt8→Mim×List UInt8
 | [],x=>x
 |n::l,x=>foldM l (stepP x.1.t x.1.s x.2 n)
def extractP (xs:List (List UInt8)):Option Mim:=if allP (valuesP xs)= []then none else some (foldM (allP (valuesP xs)) (⟨[],[],[]⟩,[])).1
def BdM (B:Nat) (m:Mim):Prop:=m.t.length≤B∧m.s.length≤B∧m.ps.length≤B∧ ∀p∈m.ps,p.1.length≤B∧p.2.length≤B
theorem parP_bd (y:List UInt8):(parP y).1.1.length≤y.length∧(parP y).1.2.length≤y.length:=by
 have hn:(Tg.Lo.lower ((y.drop (while_ white y)).take (until_ [59,61] (y.drop (while_ white y))))).length≤y.length:=by
  rw [show∀z:List UInt8,(Tg.Lo.lower z).length=z.length from fun z=>by simp [Tg.Lo.lower]]
  rw [List.length_take,List.length_drop];omega
 unfold parP
 split
 ·rename_i z hz
  have h3:=congrArg List.length hz
  rw [List.length_drop,List.length_cons]at h3
  split
  ·exact⟨hn,by simp⟩
  ·have:=valP_len z
   exact⟨hn,by show(valP z).1.length≤y.length;omega⟩
 ·exact⟨hn,by simp⟩
theorem parsP_bd {B:Nat} : ∀(n:Nat) (x:List UInt8) (ps:List Par),x.length≤B→(∀p∈ps,p.1.length≤B∧p.2.length≤B)→(parsP n x ps).length≤ps.length+x.length∧ ∀p∈parsP n x ps,p.1.length≤B∧p.2.length≤B
 |0,x,ps,_,h=>⟨by simp [parsP],h⟩
 |n+1,x,ps,hx,h=>by
  unfold parsP
  split
  ·rename_i y
   simp only [List.length_cons]at hx⊢
   have hb:=parP_bd y
   have hd:(y.drop (parP y).2.2).length≤y.length:=by rw [List.length_drop];omega
   split
   ·have h2:=parsP_bd (B:=B) n (y.drop (parP y).2.2) (ps++ [(parP y).1]) (by omega) (fun p hp=>by
     rcases List.mem_append.1 hp with h1|h1
     ·exact h p h1
     ·rw [List.mem_singleton.1 h1];omega)
    refine⟨?_,h2.2⟩
    have:=h2.1
    rw [List.length_append,List.length_singleton]at this
    omega
   ·have h2:=parsP_bd (B:=B) n (y.drop (parP y).2.2) ps (by omega) h
    exact⟨by have:=h2.1;omega,h2.2⟩
  ·exact⟨by omega,h⟩
theorem parseP_bd {B:Nat} {s:List UInt8} {m:Mim} (hs:s.length≤B) (ht:(Tg.Hd.trim s).length≤s.length) (h:parseP s=some m):BdM B m:=by
 unfold parseP at h
 split at h
 ·rename_i b r hr
  have h3:=congrArg List.length hr
  rw [List.length_drop,List.length_cons]at h3
  split at h
  ·injection h with h
   subst h
   have hlow: ∀z:List UInt8,(Tg.Lo.lower z).length=z.length:=fun z=>by simp [Tg.Lo.lower]
   have hb:=back_le white (r.take (until_ [59] r))
   rw [List.length_take]at hb
   have hp:=parsP_bd (B:=B) (r.length+1) (r.drop (until_ [59] r)) [] (by rw [List.length_drop];omega) (by simp)
   have hp1:=hp.1
   rw [List.length_drop,List.length_nil]at hp1
   exact⟨by rw [hlow,List.length_take];omega,by rw [hlow];omega,by show(parsP _ _ _).length≤B;omega,hp.2⟩
  ·cases h
 ·cases h
theorem cutQ_bd {B:Nat} : ∀(n:Nat) (x acc:List UInt8),acc.length+x.length≤B→ ∀p∈cutQ n x acc,p.length≤B
 |0,x,acc,h,p,hp=>by simp [cutQ]at hp;subst hp;omega
 |n+1,[],acc,h,p,hp=>by simp [cutQ]at hp;subst hp;simpa using h
 |n+1,b::r,acc,h,p,hp=>by
  simp only [List.length_cons]at h
  unfold cutQ at hp
  split at hp
  ·have h1:=coll_all r
   have h2:=coll_le r
   exact cutQ_bd n _ _ (by rw [List.length_append,List.length_cons,List.length_drop,h1,List.length_take];omega) p hp
  ·split at hp
   ·rcases List.mem_cons.1 hp with h1|h1
    ·subst h1;omega
    ·exact cutQ_bd n r [] (by simp;omega) p h1
   ·exact cutQ_bd n r (acc++ [b]) (by rw [List.length_append,List.length_singleton];omega) p hp
theorem cutQ_len: ∀(n:Nat) (x acc:List UInt8),(cutQ n x acc).length≤x.length+1
 |0,x,acc=>by simp [cutQ]
 |n+1,[],acc=>by simp [cutQ]
 |n+1,b::r,acc=>by
  unfold cutQ
  split
  ·have:=cutQ_len n (r.drop (coll r).2.2) (acc++34::(coll r).2.1)
   rw [List.length_drop]at this
   simp only [List.length_cons];omega
  ·split
   ·have:=cutQ_len n r []
    simp only [List.length_cons];omega
   ·have:=cutQ_len n r (acc++ [b])
    simp only [List.length_cons];omega
theorem trimP_le (s:List UInt8):(trimP s).length≤s.length:=by
 have:=back_le tab s
 unfold trimP
 rw [List.length_drop];omega
theorem valuesP_bd {B:Nat} {xs:List (List UInt8)} (h:(Tg.Hd.joinC xs).length≤B):(valuesP xs).length≤B+1∧ ∀p∈valuesP xs,p.length≤B:=by
 unfold valuesP
 split
 ·simp
 ·unfold splitP
  refine⟨?_,fun p hp=>?_⟩
  ·have:=cutQ_len (Tg.Hd.joinC xs).length (Tg.Hd.joinC xs) []
   rw [List.length_map];omega
  ·obtain⟨q,hq,rfl⟩:=List.mem_map.1 hp
   exact Nat.le_trans (trimP_le q) (cutQ_bd _ _ _ (by simpa using h) q hq)
theorem stepP_bd {B:Nat} {t s set:List UInt8} {n:Mim} (hn:BdM B n) (hs:set.length≤B) (hc:charset.length≤B):BdM (B+1) (stepP t s set n).1∧(stepP t s set n).2.length≤B:=by
 have hp:(parmP n.ps charset).1.length≤B:=by
  unfold parmP
  split
  ·simp
  ·rename_i h
   rcases fnd_ge charset n.ps 0 with hf|⟨j,hf,hj,_⟩
   ·rw [hf]at h;exact absurd (by decide) h
   ·rw [Nat.zero_add]at hf
    rw [hf,Int.toNat_natCast,List.getD_eq_getElem?_getD,List.getElem?_eq_getElem hj]
    exact(hn.2.2.2 _ (List.getElem_mem hj)).2
 have hup:BdM (B+1) n:=⟨Nat.le_succ_of_le hn.1,Nat.le_succ_of_le hn.2.1,Nat.le_succ_of_le hn.2.2.1,fun p hp=>⟨Nat.le_succ_of_le (hn.2.2.2 p hp).1,Nat.le_succ_of_le (hn.2.2.2 p hp).2⟩⟩
 unfold stepP
 split
 ·exact⟨hup,hp⟩
 ·split
  ·refine⟨⟨hup.1,hup.2.1,by show(n.ps++ [(charset,set)]).length≤B+1;rw [List.length_append,List.length_singleton];have:=hn.2.2.1;omega,fun p hp=>?_⟩,hs⟩
   rcases List.mem_append.1 hp with h1|h1
   ·exact hup.2.2.2 p h1
   ·rw [List.mem_singleton.1 h1];exact⟨Nat.le_succ_of_le hc,Nat.le_succ_of_le hs⟩
  ·exact⟨hup,hs⟩
end Tg.Mi
namespace Go.Proofs.YtcgiaiimbnoknaaGreatDoor.Mi
open Go.Lg Go.Tg
section
variable {H H':LH} {N M b c l i p:Nat} {s t u name value set:List UInt8} {v w:Value} {ps:List Tg.Mi.Par} {a:Tg.Mi.Par} {m:Tg.Mi.Mim} {xs:List (List UInt8)}
theorem lesz_mime:lesz Tryz.prog 113=some elM.n:=by kernel_rfl
theorem szS:sz Tryz.prog 9=some elS.n:=by kernel_rfl
theorem szM:sz Tryz.prog 113=some elM.n:=by kernel_rfl
theorem values_ex (h:SOwn M H v xs) (hn:xs.length≤10000) (hl:(Tg.Hd.joinC xs).length≤100000) (hN:N≤H.n):Gives Tryz.prog EJ 262 [v] H fun H' r=>RowG elS 9 N H' r (Tg.Mi.valuesP xs):=by
 refine gives_of ?_ (fun v H' hf h=>h.flat hf)
 refine LC_runs (P:=Tryz.prog) (E:=EJ) (f:=262) rfl Tryz.func262 rfl (Nat.le_of_ble_eq_true rfl) (by decide) (by kernel_rfl) ?_
 have hlen:=fun H2:LH=>SOwn.len h (H':=H2)
 unfold Tg.Mi.valuesP
 by_cases hx:xs= []
 ·subst hx
  simp at hlen
  simp [hlen]
  exact RowG.nil
 ·have q:=eq_false (show¬(xs.length:Int)=0 by intro e;exact hx (List.eq_nil_of_length_eq_zero (by omega)))
  have hj:LC Tryz.prog EJ 268 [v] H=some (str (Tg.Hd.joinC xs),H):=by
   have hj:LC Tryz.prog EJ 298 [v,str [44,32]] H=some (str (Tg.Hd.joinC xs),H):=by
    rcases h.2 with⟨rfl,h0⟩|⟨k,c,rest,rfl,g1,g2,g3,g4,g5⟩
    ·exact absurd (List.eq_nil_of_length_eq_zero h0) hx
    ·exact join_l (n:=xs.length) g3 (by intro e;exact hx (List.eq_nil_of_length_eq_zero e)) g4 (by omega) rfl (by rw [List.drop_zero,List.take_left' (by simp)]) (by unfold Tg.Hd.joinC at hl;omega)
   refine LC_pure rfl Tryz.func268 rfl (Nat.le_of_ble_eq_true rfl) (by decide) (by kernel_rfl) (by simp) ?_
   simp [hj]
  obtain⟨v2,H2,e2,le2,r2⟩:=split_ex hN hl
  rw [if_neg hx]
  simp [hlen,hx,hj,e2]
  exact⟨le2,r2⟩
theorem str_at (hr:RowG elS 9 N H v xs) {i:Nat} (hi:i<xs.length): ∃k o,(∀H':LH,lixa Tryz.prog 84 v (.int .i64 i) H'=some (ptr k o,H'))∧k<H.n∧ ∀H':LH,H'.get k=H.get k→lld Tryz.prog 9 (ptr k o) H'=some (str xs[i]):=by
 obtain⟨k,o,cs,h1,h2,h3,h4⟩:=hr.at (P:=Tryz.prog) (t:=84) Tryz.underlying84 szS hi
 have h3:cs= [str xs[i]]:=h3
 subst h3
 exact⟨k,o,h1,h2,fun H' he=>(h4 H' he).2.1 0 _ _ (by kernel_rfl) rfl⟩
theorem mime_at {ms:List Tg.Mi.Mim} (hr:RowG elM 113 N H v ms) {i:Nat} (hi:i<ms.length): ∃k o w,(∀H':LH,lixa Tryz.prog 198 v (.int .i64 i) H'=some (ptr k o,H'))∧k<H.n∧RowG elP 253 N H w ms[i].ps∧ ∀H':LH,H'.get k=H.get k→lld Tryz.prog 113 (ptr k o) H'=some (mv ms[i].t ms[i].s w):=by
 obtain⟨k,o,cs,h1,h2,h3,h4⟩:=hr.at (P:=Tryz.prog) (t:=198) Tryz.underlying198 szM hi
 obtain⟨w,rfl,h5⟩:=h3
 exact⟨k,o,w,h1,h2,h5,fun H' he=>(h4 H' he).1 (by kernel_rfl)⟩
theorem bs1m:lbuildSlice Tryz.prog 198 1 [(0,mv t u v)] H=some (sl H.n 1 1,H.new ⟨[str t,str u,v],113,true⟩):=by
 unfold lbuildSlice
 simp [Instr.fill,Value.cells,Array.range]
 rfl
theorem all_ex (h:SOwn M H v xs) (hn:xs.length≤10000) (hl:(Tg.Hd.joinC xs).length≤5000) (hN:N≤H.n):Gives Tryz.prog EJ 228 [v] H fun H' r=>OwnG elM 113 N H.n H' r (Tg.Mi.allP (Tg.Mi.valuesP xs)):=by
 refine gives_of ?_ (fun v H' hf h=>h.flat hf)
 refine LC_runs (P:=Tryz.prog) (E:=EJ) (f:=228) rfl Tryz.func228 rfl (Nat.le_of_ble_eq_true rfl) (by decide) (by kernel_rfl) ?_
 obtain⟨v1,H1,e1,le1,r1⟩:=values_ex h hn (by omega) hN
 obtain⟨hb1,hb2⟩:=Tg.Mi.valuesP_bd hl
 generalize Tg.Mi.valuesP xs=ys at*
 have hlen:=fun H':LH=>r1.len (P:=Tryz.prog) (t:=84) (H':=H') Tryz.underlying84
 simp [e1,hlen]
 refine loop_ind (fun(i:Nat) fr' H'=> ∃vo,fr' 3=vo∧fr' 9=v1∧fr' 10=.int .i64 ys.length∧fr' 11=.int .i64 i∧i≤ys.length∧OwnG elM 113 N H1.n H' vo (Tg.Mi.allP (ys.take i))∧H1.n≤H'.n∧(∀k,k<H1.n→H'.get k=H1.get k)) (fun i=>ys.length-i) 0 ⟨_,by simp,by simp,by simp,by simp,Nat.zero_le _,OwnG.nil,Nat.le_refl _,fun _ _=>rfl⟩ ?_
 rintro i fr' H2 ⟨vo,f3,f9,f10,f11,hi,how,hn2,hold⟩ ih
 have le2:H1.le H2:=⟨hn2,hold⟩
 have r2:=r1.le le2
 by_cases hlt:i<ys.length
 ·have q:=eq_true (show(i:Int)<(ys.length:Int) by omega)
  have hw:IntKind.i64.wrap ((i:Int)+1)=((i+1:Nat):Int):=by rw [wrapI (by omega) (by omega)];omega
  obtain⟨k,o,g1,g2,g3⟩:=str_at r2 hlt
  have g4:=g3 H2 rfl
  have hyl:=hb2 ys[i] (List.getElem_mem hlt)
  have hnew:Tg.Mi.allP (ys.take (i+1))=Tg.Mi.allP (ys.take i)++(match Tg.Mi.oneP ys[i]with|some m=> [m]|none=> []):=by
   rw [List.take_succ_eq_append_getElem hlt]
   unfold Tg.Mi.allP
   rw [List.filterMap_append]
   congr 1
   simp only [List.filterMap_cons,List.filterMap_nil]
   cases Tg.Mi.oneP ys[i]<;>rfl
  have hol:(Tg.Mi.allP (ys.take i)).length≤i:=Nat.le_trans (List.length_filterMap_le _ _) (by rw [List.length_take];omega)
  obtain⟨v3,H3,e3,le3,r3⟩:=mparse_ex (s:=ys[i]) (show N≤H2.n by have:=le1.1;omega) (by omega)
  have how3:=how.le le3
  have hbd:=fun m h=>Tg.Mi.parseP_bd (B:=5000) (m:=m) hyl (trimH_len _) h
  have ihx:=fun fr2 H5=>ih (i+1) fr2 H5 (by omega)
  clear ih
  rw [hnew]at ihx
  unfold Tg.Mi.oneP at ihx
  generalize Tg.Mi.allP (ys.take i)=out at*
  generalize ys[i]=y at*
  cases hp:Tg.Mi.parseP y with
  |none=>
   rw [hp]at r3 ihx
   have r3:v3=.tuple #[mv [] [] (.slice none 0 0),.int .i64 2]:=r3
   subst r3
   have hfin:=fun fr2 (g3:fr2 3=vo) (g9:fr2 9=v1) (g10:fr2 10=.int .i64 ys.length) (g11:fr2 11=.int .i64 ((i+1:Nat):Int))=>ihx fr2 (H3.new ⟨[str [],str [],.slice none 0 0],113,true⟩) ⟨vo,g3,g9,g10,g11,by omega,by simpa using how3.le le_refl.new,by rw [n_new];have:=le3.1;omega,fun k hk=>by rw [get_new_ne (by have:=le3.1;omega),le3.2 k (by omega),hold k hk]⟩
   clear ihx
   simp [f3,f9,f10,f11,q,hlt,g1,g4,e3]
   refine hfin _ ?_ ?_ ?_ ?_
   all_goals simp [f3,f9,f10,hw]
  |some m=>
   rw [hp]at r3 ihx
   obtain⟨vp,rfl,r3⟩:=r3
   obtain⟨bt,bs,bp,bq⟩:=hbd m hp
   have hcp:=r3.cell
   obtain⟨H4,hH4⟩: ∃H4,H4=H3.new ⟨[str m.t,str m.s,vp],113,true⟩:=⟨_,rfl⟩
   have le4:H3.le H4:=by rw [hH4];exact le_refl.new
   have g6:H4.get H3.n=some ⟨[str m.t,str m.s,vp],113,true⟩:=by rw [hH4];exact get_new
   have e5:=fun H:LH=>ess_k (H:=H) (t:=m.t) (u:=m.s) (v:=vp) (by omega) (by omega) hcp
   have how4:=how3.le le4
   have hev:Tg.Mi.every= [42,47,42]:=rfl
   have hn3:=le3.1
   have hn4:=le4.1
   have hn1:=le1.1
   by_cases hc:Tg.Mi.essP m.t m.s=Tg.Mi.every
   ·simp only [if_pos hc,List.append_nil]at ihx
    have hc:=eq_true hc
    rw [hev]at hc
    have hfin:=fun fr2 (g3:fr2 3=vo) (g9:fr2 9=v1) (g10:fr2 10=.int .i64 ys.length) (g11:fr2 11=.int .i64 ((i+1:Nat):Int))=>ihx fr2 H4 ⟨vo,g3,g9,g10,g11,by omega,how4,by omega,fun k hk=>by rw [le4.2 k (by omega),le3.2 k (by omega),hold k hk]⟩
    clear ihx
    simp [f3,f9,f10,f11,q,hlt,g1,g4,e3,←hH4,hcp,g6,e5,hc]
    refine hfin _ ?_ ?_ ?_ ?_
    all_goals simp [f3,f9,f10,hw]
   ·simp only [if_neg hc]at ihx
    have hc:=eq_false hc
    rw [hev]at hc
    obtain⟨v5,H5,a5,r5,n5,k5,o5,kp5⟩:=how4.app (t:=198) (cs:= [str m.t,str m.s,vp]) (a:=m) Tryz.underlying198 lesz_mime (by omega) (by omega) (by unfold maxElems;omega) ⟨vp,rfl,r3.le le4⟩ (by show¬113=253;decide)
    have hfin:=fun fr2 (g3:fr2 3=v5) (g9:fr2 9=v1) (g10:fr2 10=.int .i64 ys.length) (g11:fr2 11=.int .i64 ((i+1:Nat):Int))=>ihx fr2 H5 ⟨v5,g3,g9,g10,g11,by omega,r5,by omega,fun k hk=>by rw [k5 k (by omega) (how4.off_lt hk),le4.2 k (by omega),le3.2 k (by omega),hold k hk]⟩
    clear ihx
    simp [f3,f9,f10,f11,q,hlt,g1,g4,e3,←hH4,hcp,g6,e5,hc,bs1m,a5]
    refine hfin _ ?_ ?_ ?_ ?_
    all_goals simp [f3,f9,f10,hw]
 ·have q:=eq_false (show¬(i:Int)<(ys.length:Int) by omega)
  rw [List.take_of_length_le (by omega)]at how
  simp [f3,f9,f10,f11,q,hlt]
  exact⟨le1.trans le2,how.weak le1.1⟩
end
section
variable {H H':LH} {N M:Nat} {s t u name:List UInt8} {v w:Value} {ps:List Tg.Mi.Par} {xs:List (List UInt8)}
end
end Go.Proofs.YtcgiaiimbnoknaaGreatDoor.Mi
namespace Tg.Mi
theorem oneP_bd {B:Nat} {s:List UInt8} {m:Mim} (hs:s.length≤B) (ht:(Tg.Hd.trim s).length≤s.length) (h:oneP s=some m):BdM B m:=by
 unfold oneP at h
 split at h
 ·rename_i m' hp
  split at h
  ·cases h
  ·injection h with h;subst h;exact parseP_bd hs ht hp
 ·cases h
theorem allP_bd {B:Nat} {l:List (List UInt8)} (h: ∀s∈l,s.length≤B) (ht: ∀s:List UInt8,(Tg.Hd.trim s).length≤s.length): ∀m∈allP l,BdM B m:=by
 intro m hm
 obtain⟨s,hs,e⟩:=List.mem_filterMap.1 hm
 exact oneP_bd (h s hs) (ht s) e
end Tg.Mi
namespace Go.Proofs.YtcgiaiimbnoknaaGreatDoor.Mi
open Go.Lg Go.Tg
section
variable {H H':LH} {N M b c l i p:Nat} {s t u name value set:List UInt8} {v w:Value} {ps:List Tg.Mi.Par} {a:Tg.Mi.Par} {m:Tg.Mi.Mim} {xs:List (List UInt8)}
def MimR (e:Int) (N:Nat) (o:Option Tg.Mi.Mim) (H:LH) (r:Value):Prop:=match o with
 |some m=> ∃v,r=.tuple #[mv m.t m.s v,.int .i64 0]∧RowG elP 253 N H v m.ps
 |none=>r=.tuple #[mv [] [] (.slice none 0 0),.int .i64 e]
theorem MimR.flat {e:Int} {o:Option Tg.Mi.Mim} (h:MimR e N o H' v) (hf:flatB v=true):MimR e N o H v:=by
 cases o with
 |none=>exact h
 |some m=>
  obtain⟨w,rfl,h⟩:=h
  exact⟨w,rfl,h.flat (flat_mvt hf h.cell)⟩
theorem extract_ex (h:SOwn M H v xs) (hn:xs.length≤10000) (hl:(Tg.Hd.joinC xs).length≤5000) (hN:N≤H.n):Gives Tryz.prog EJ 185 [v] H (MimR 4 N (Tg.Mi.extractP xs)):=by
 refine gives_of ?_ (fun v H' hf h=>h.flat hf)
 refine LC_runs (P:=Tryz.prog) (E:=EJ) (f:=185) rfl Tryz.func185 rfl (Nat.le_of_ble_eq_true rfl) (by decide) (by kernel_rfl) ?_
 unfold Tg.Mi.extractP
 obtain⟨H0,hH0⟩: ∃H0,H0=(H.new ⟨[str [],str [],.slice none 0 0],113,true⟩).new ⟨[str [],str [],.slice none 0 0],113,true⟩:=⟨_,rfl⟩
 have le0:H.le H0:=by rw [hH0];exact le_refl.new.new
 have n0:H0.n=H.n+1+1:=by rw [hH0];rfl
 have a0:H0.get H.n=some ⟨[str [],str [],.slice none 0 0],113,true⟩:=by rw [hH0,get_new_ne (by simp),get_new]
 have b0:H0.get (H.n+1)=some ⟨[str [],str [],.slice none 0 0],113,true⟩:=by rw [hH0];exact get_new
 have h0:SOwn M H0 v xs:=RowN.keep h le0.1 (fun k _ _ hk=>le0.2 k hk)
 obtain⟨v1,H1,e1,le1,r1⟩:=all_ex h0 hn hl (show N≤H0.n by omega)
 have hbd: ∀m∈Tg.Mi.allP (Tg.Mi.valuesP xs),Tg.Mi.BdM 5000 m:=Tg.Mi.allP_bd (Tg.Mi.valuesP_bd hl).2 trimH_len
 have hcl:(Tg.Mi.allP (Tg.Mi.valuesP xs)).length≤5001:=Nat.le_trans (List.length_filterMap_le _ _) (Tg.Mi.valuesP_bd hl).1
 generalize Tg.Mi.allP (Tg.Mi.valuesP xs)=ms at*
 have a1:=(le1.2 H.n (by omega)).trans a0
 have b1:=(le1.2 (H.n+1) (by omega)).trans b0
 have n1:=le1.1
 have hlen:=fun H':LH=>r1.row.len (P:=Tryz.prog) (t:=198) (H':=H') Tryz.underlying198
 obtain⟨T,hT⟩: ∃T,T=Tg.Mi.foldM ms (⟨[],[],[]⟩,[]):=⟨_,rfl⟩
 rw [←hT]
 have d1:(H.n=H.n+1)=False:=eq_false (by omega)
 have d2:(H.n+1=H.n)=False:=eq_false (by omega)
 simp [←hH0,e1,hlen]
 refine loop_ind (fun(i:Nat) fr' H'=> ∃(m:Tg.Mi.Mim) (set:List UInt8) (vp:Value),fr' 2=ptr H.n 0∧fr' 4=ptr (H.n+1) 0∧fr' 5=str set∧fr' 6=v1∧fr' 11=v1∧fr' 12=.int .i64 ms.length∧fr' 13=.int .i64 i∧i≤ms.length∧H'.get H.n=some ⟨[str [],str [],.slice none 0 0],113,true⟩∧H'.get (H.n+1)=some ⟨[str m.t,str m.s,vp],113,true⟩∧RowG elP 253 N H' vp m.ps∧OwnG elM 113 N (H.n+1+1) H' v1 ms∧H.n+2≤H'.n∧(∀k,k<H.n→H'.get k=H.get k)∧Tg.Mi.BdM 5001 m∧set.length≤5000∧T=Tg.Mi.foldM (ms.drop i) (m,set)) (fun i=>ms.length-i) 0 ⟨⟨[],[],[]⟩,[],.slice none 0 0,by simp,by simp,by simp,by simp,by simp,by simp,by simp,Nat.zero_le _,a1,b1,RowG.nil,r1.weak (by omega),by omega,fun k hk=>by rw [le1.2 k (by omega),le0.2 k hk],⟨by decide,by decide,by decide,by simp⟩,by simp,hT⟩ ?_
 rintro i fr' H2 ⟨m,set,vp,f2,f4,f5,f6,f11,f12,f13,hi,ga,gb,hrp,how,hn2,hold,hbm,hsl,hq⟩ ih
 have hcp:=hrp.cell
 by_cases hlt:i<ms.length
 ·have q:=eq_true (show(i:Int)<(ms.length:Int) by omega)
  have hw:IntKind.i64.wrap ((i:Int)+1)=((i+1:Nat):Int):=by rw [wrapI (by omega) (by omega)];omega
  obtain⟨k,o,wp,g1,g2,g3,g4⟩:=mime_at how.row hlt
  have g4:=g4 H2 rfl
  rw [List.drop_eq_getElem_cons hlt]at hq
  have hbn:=hbd ms[i] (List.getElem_mem hlt)
  generalize ms[i]=nx at*
  unfold Tg.Mi.foldM at hq
  obtain⟨bt,bs,bp,bq⟩:=hbn
  have hcw:=g3.cell
  obtain⟨H3,hH3⟩: ∃H3,H3=H2.new ⟨[str nx.t,str nx.s,wp],113,true⟩:=⟨_,rfl⟩
  have le3:H2.le H3:=by rw [hH3];exact le_refl.new
  have n3:H3.n=H2.n+1:=by rw [hH3];rfl
  have c3:H3.get H2.n=some ⟨[str nx.t,str nx.s,wp],113,true⟩:=by rw [hH3];exact get_new
  have gb3:=(le3.2 (H.n+1) (by omega)).trans gb
  obtain⟨r4,H4,e4,le4,x4,rfl,r4⟩:=step_ex (m:=nx) (t:=m.t) (u:=m.s) (w:=vp) (set:=set) (N:=N) (H:=H3) (g3.le le3) (by omega) (by omega) (fun p hp=>by have:=bq p hp;omega) (by omega) (by omega) (by have:=hbm.1;omega) (by have:=hbm.2.1;omega) (by omega) hcp
  have hsb:=Tg.Mi.stepP_bd (t:=m.t) (s:=m.s) (set:=set) (n:=nx) (B:=5000) ⟨bt,bs,bp,bq⟩ hsl (by decide)
  generalize Tg.Mi.stepP m.t m.s set nx=X at*
  have hcx:=r4.cell
  have gb4:=(le4.2 (H.n+1) (by omega)).trans gb3
  have ga4:=((le3.trans le4).2 H.n (by omega)).trans ga
  have n4:=le4.1
  have how4:=how.le (le3.trans le4)
  have m1:(H.n+1=H2.n)=False:=eq_false (by omega)
  have m2:(H.n=H2.n)=False:=eq_false (by omega)
  have hfin:=fun fr2 (g2:fr2 2=ptr H.n 0) (g4':fr2 4=ptr (H.n+1) 0) (g5:fr2 5=str X.2) (g6:fr2 6=v1) (g11:fr2 11=v1) (g12:fr2 12=.int .i64 ms.length) (g13:fr2 13=.int .i64 ((i+1:Nat):Int))=>ih (i+1) fr2 (H4.set (H.n+1) ⟨[str X.1.t,str X.1.s,x4],113,true⟩) (by omega) ⟨X.1,X.2,x4,g2,g4',g5,g6,g11,g12,g13,by omega,by rw [get_set_ne (by omega)];exact ga4,get_set,
   r4.keep ⟨Nat.le_refl _,fun k b hk hb hor=>by
    by_cases hkc:k=H.n+1
    ·subst hkc
     rw [gb4]at hb
     injection hb with hb
     subst hb
     rcases hor with h4|h4|h4
     ·omega
     ·exact absurd h4 (by show 113≠253;decide)
     ·exact h4.elim
    ·rw [get_set_ne hkc];exact hb⟩,
   how4.keep ⟨Nat.le_refl _,fun k b hk hb hor=>by
    by_cases hkc:k=H.n+1
    ·subst hkc
     rw [gb4]at hb
     injection hb with hb
     subst hb
     rcases hor with h4|h4
     ·omega
     ·exact absurd h4 (by show¬113=253;decide)
    ·rw [get_set_ne hkc];exact hb⟩ (fun k hk _ _=>get_set_ne (by omega)),
   by rw [n_set];omega,fun k hk=>by rw [get_set_ne (by omega),(le3.trans le4).2 k (by omega)];exact hold k hk,hsb.1,hsb.2,hq⟩
  clear ih hq
  simp [f2,f4,f5,f6,f11,f12,f13,q,hlt,g1,g4,hcw,←hH3,gb3,c3,e4,gb4,hcx,m1]
  refine hfin _ ?_ ?_ ?_ ?_ ?_ ?_ ?_
  all_goals simp [f2,f4,f6,f11,f12,hw]
 ·have q:=eq_false (show¬(i:Int)<(ms.length:Int) by omega)
  rw [List.drop_of_length_le (by omega)]at hq
  have hq:T=(m,set):=hq
  subst hq
  have hlen2:=fun H':LH=>how.row.len (P:=Tryz.prog) (t:=198) (H':=H') Tryz.underlying198
  have hle2:H.le H2:=⟨by omega,hold⟩
  clear ih
  by_cases hm:ms= []
  ·subst hm
   obtain rfl:i=0:=by simpa using hi
   simp at hlen2 f12 f13
   simp [f2,f4,f5,f6,f11,f12,f13,hlen2,ga,MimR]
   exact hle2
  ·have qm:=eq_false (show¬(ms.length:Int)=0 by intro e;exact hm (List.eq_nil_of_length_eq_zero (by omega)))
   rw [if_neg hm]
   simp [f2,f4,f5,f6,f11,f12,f13,q,hlt,hlen2,ga,gb,hm,qm,hcp,d1,d2]
   refine⟨hle2,vp,rfl,hrp.keep ⟨Nat.le_refl _,fun k b hk hb hor=>by
    by_cases hkc:k=H.n
    ·subst hkc
     rw [ga]at hb
     injection hb with hb
     subst hb
     rcases hor with h4|h4|h4
     ·omega
     ·exact absurd h4 (by show 113≠253;decide)
     ·exact h4.elim
    ·rw [get_set_ne hkc];exact hb⟩⟩
theorem Extract_ex (h:SOwn M H v xs) (hn:xs.length≤10000) (hl:(Tg.Hd.joinC xs).length≤5000) (hN:N≤H.n):Gives Tryz.prog EJ 144 [v] H (MimR 4 N (Tg.Mi.extractP xs)):=by
 refine gives_of ?_ (fun v H' hf h=>h.flat hf)
 refine LC_runs (P:=Tryz.prog) (E:=EJ) (f:=144) rfl Tryz.func144 rfl (Nat.le_of_ble_eq_true rfl) (by decide) (by kernel_rfl) ?_
 obtain⟨H0,hH0⟩: ∃H0,H0=H.new ⟨[str [],str [],.slice none 0 0],113,true⟩:=⟨_,rfl⟩
 have le0:H.le H0:=by rw [hH0];exact le_refl.new
 have n0:H0.n=H.n+1:=by rw [hH0];rfl
 have a0:H0.get H.n=some ⟨[str [],str [],.slice none 0 0],113,true⟩:=by rw [hH0,get_new]
 have h0:SOwn M H0 v xs:=RowN.keep h le0.1 (fun k _ _ hk=>le0.2 k hk)
 obtain⟨v1,H1,e1,le1,r1⟩:=extract_ex (N:=N) h0 hn hl (by omega)
 have a1:=(le1.2 H.n (by omega)).trans a0
 have hle:=le0.trans le1
 cases hx:Tg.Mi.extractP xs with
 |none=>
  rw [hx]at r1
  have r1:v1=.tuple #[mv [] [] (.slice none 0 0),.int .i64 4]:=r1
  subst r1
  simp [←hH0,e1,a1,MimR]
  exact hle
 |some m=>
  rw [hx]at r1
  obtain⟨vp,rfl,r1⟩:=r1
  have hcp:=r1.cell
  simp [←hH0,e1,a1,hcp,MimR]
  refine⟨hle,r1.keep ⟨Nat.le_refl _,fun k b hk hb hor=>by
    by_cases hkc:k=H.n
    ·subst hkc
     rw [a1]at hb
     injection hb with hb
     subst hb
     rcases hor with h4|h4|h4
     ·omega
     ·exact absurd h4 (by show 113≠253;decide)
     ·exact h4.elim
    ·rw [get_set_ne hkc];exact hb⟩⟩
end
end Go.Proofs.YtcgiaiimbnoknaaGreatDoor.Mi
namespace Tg.Mi
end Tg.Mi
namespace Go.Proofs.YtcgiaiimbnoknaaGreatDoor.Mi
open Go.Lg Go.Tg
section
variable {H H':LH} {N M:Nat} {s t u name set:List UInt8} {v w:Value} {ps:List Tg.Mi.Par} {xs:List (List UInt8)} {m:Tg.Mi.Mim}
end
end Go.Proofs.YtcgiaiimbnoknaaGreatDoor.Mi
namespace Tg.Mi
def ctype:List UInt8:= [67,111,110,116,101,110,116,45,84,121,112,101]
def xopt:List UInt8:= [88,45,67,111,110,116,101,110,116,45,84,121,112,101,45,79,112,116,105,111,110,115]
def word:List UInt8:= [110,111,115,110,105,102,102]
def SmH (l:List Tg.Hd.Hdr):Prop:=l.length≤8∧ ∀h∈l,h.1.length≤30∧h.2.length≤100
def typeP (l:List Tg.Hd.Hdr):Option Mim:=extractP (Tg.Hd.getP ctype l)
def rawP (l:List Tg.Hd.Hdr):List UInt8:=(Tg.Hd.getP ctype l).getLast?.getD []
def noP (l:List Tg.Hd.Hdr):Bool:=match valuesP (Tg.Hd.getP xopt l)with
 | []=>false
 |a::_=>decide (Tg.Lo.lower a=Tg.Lo.lower word)
def noM:Mim:=⟨[],[],[]⟩
theorem getP_mem {name:List UInt8} {l:List Tg.Hd.Hdr} {x:List UInt8} (h:x∈Tg.Hd.getP name l): ∃a∈l,a.2=x:=by
 unfold Tg.Hd.getP at h
 obtain⟨a,ha,e⟩:=List.mem_map.1 h
 exact⟨a,(List.mem_filter.1 ha).1,e⟩
theorem joinS {name:List UInt8} {l:List Tg.Hd.Hdr} (h:SmH l):(Tg.Hd.joinC (Tg.Hd.getP name l)).length≤1000:=by
 have h1:=Tg.Hd.joinC_len (m:=100) (xs:=Tg.Hd.getP name l) (fun x hx=>by
  obtain⟨a,ha,rfl⟩:=getP_mem hx
  exact(h.2 a ha).2) (Tg.Hd.getP name l).length (Nat.le_refl _)
 rw [List.take_of_length_le (Nat.le_refl _)]at h1
 have h2:=Tg.Hd.getP_len name l
 have h3:=h.1
 have h4:=Nat.mul_le_mul_right (100+2) (show(Tg.Hd.getP name l).length≤8 by omega)
 omega
end Tg.Mi
namespace Go.Proofs.YtcgiaiimbnoknaaGreatDoor
open Go.Lg Go.Tg
theorem HRow.ro {H:LH} {v:Value} {l:List Tg.Hd.Hdr} (h:HRow H v l):HRow H.ro v l:=by
 rcases h with h|⟨k,o,c,h1,h2⟩
 ·exact .inl h
 ·refine .inr ⟨k,o,c,h1,fun hne=>?_⟩
  obtain⟨b,h2,h3,h4⟩:=h2 hne
  exact⟨{ b with rw:=false },by rw [get_ro,h2];rfl,by rw [n_ro];exact h3,h4⟩
end Go.Proofs.YtcgiaiimbnoknaaGreatDoor
namespace Go.Proofs.YtcgiaiimbnoknaaGreatDoor.Mi
open Go.Lg Go.Tg
abbrev svp (m:Tg.Mi.Mim) (v:Value) (has no bug:Bool):Value:=.agg #[str m.t,str m.s,v,.bool has,.bool no,.bool bug]
section
variable {H H':LH} {N M:Nat} {v w:Value} {l:List Tg.Hd.Hdr} {m:Tg.Mi.Mim} {xs:List (List UInt8)}
theorem nextract_ex (hr:HRow H v l) (hs:Tg.Mi.SmH l) (hN:N≤H.n):Gives Tryz.prog EJ 103 [v] H fun H' r=> ∃w,r=.tuple #[mv ((Tg.Mi.typeP l).getD Tg.Mi.noM).t ((Tg.Mi.typeP l).getD Tg.Mi.noM).s w,.bool (Tg.Mi.typeP l).isSome]∧RowG elP 253 N H' w ((Tg.Mi.typeP l).getD Tg.Mi.noM).ps:=by
 refine gives_of ?_ (fun v H' hf h=>by
  obtain⟨w,rfl,h⟩:=h
  exact⟨w,rfl,h.flat (flat_mvt hf h.cell)⟩)
 refine LC_runs (P:=Tryz.prog) (E:=EJ) (f:=103) rfl Tryz.func103 rfl (Nat.le_of_ble_eq_true rfl) (by decide) (by kernel_rfl) ?_
 obtain⟨H0,hH0⟩: ∃H0,H0=H.new ⟨[str [],str [],.slice none 0 0],113,true⟩:=⟨_,rfl⟩
 have le0:H.le H0:=by rw [hH0];exact le_refl.new
 have n0:H0.n=H.n+1:=by rw [hH0];rfl
 have a0:H0.get H.n=some ⟨[str [],str [],.slice none 0 0],113,true⟩:=by rw [hH0,get_new]
 obtain⟨v1,H1,e1,o1⟩:=Get_ex (name:=Tg.Mi.ctype) (hr.keep le0.1 le0.2) (by have:=hs.1;omega) (fun h hh=>by have:=(hs.2 h hh).1;omega)
 have le1:H0.le H1:=⟨o1.le,o1.old⟩
 have hjl:=Tg.Mi.joinS (name:=Tg.Mi.ctype) hs
 have hgl:=Tg.Hd.getP_len Tg.Mi.ctype l
 obtain⟨v2,H2,e2,le2,r2⟩:=Extract_ex (N:=N) o1.row (by have:=hs.1;omega) (by omega) (by have:=le1.1;omega)
 rw [show Tg.Mi.ctype= [67,111,110,116,101,110,116,45,84,121,112,101] from rfl]at e1
 have a2:=((le1.trans le2).2 H.n (by omega)).trans a0
 have hle:=le0.trans (le1.trans le2)
 have n2:=hle.1
 have hlt2:H.n<H2.n:=by have:=(le1.trans le2).1;omega
 have m1:(H.n=H2.n)=False:=eq_false (by omega)
 change MimR 4 N (Tg.Mi.typeP l) H2 v2 at r2
 cases hx:Tg.Mi.typeP l with
 |none=>
  rw [hx]at r2
  have r2:v2=.tuple #[mv [] [] (.slice none 0 0),.int .i64 4]:=r2
  subst r2
  simp [←hH0,e1,e2,a2,m1,Tg.Mi.noM]
  exact⟨hle.new,RowG.nil⟩
 |some m=>
  rw [hx]at r2
  obtain⟨vp,rfl,r2⟩:=r2
  have hcp:=r2.cell
  simp [←hH0,e1,e2,a2,m1,hcp,Tg.Mi.noM]
  refine⟨hle.new,(r2.le (H':=H2.new ⟨[str m.t,str m.s,vp],113,true⟩) le_refl.new).keep ⟨Nat.le_refl _,fun k b hk hb hor=>by
    by_cases hkc:k=H.n
    ·subst hkc
     rw [get_new_ne (by omega),a2]at hb
     injection hb with hb
     subst hb
     rcases hor with h4|h4|h4
     ·omega
     ·exact absurd h4 (by show 113≠253;decide)
     ·exact h4.elim
    ·rw [get_set_ne hkc];exact hb⟩⟩
theorem nraw_k (hr:HRow H v l) (hs:Tg.Mi.SmH l): ∃b,LC Tryz.prog EJ 104 [v] H=some (.tuple #[str (Tg.Mi.rawP l),.bool b],H):=by
 obtain⟨v1,H1,e1,o1⟩:=Get_ex (name:=Tg.Mi.ctype) hr (by have:=hs.1;omega) (fun h hh=>by have:=(hs.2 h hh).1;omega)
 have hgl:=Tg.Hd.getP_len Tg.Mi.ctype l
 have hl8:=hs.1
 rw [show Tg.Mi.ctype= [67,111,110,116,101,110,116,45,84,121,112,101] from rfl]at e1
 refine⟨decide (Tg.Hd.getP Tg.Mi.ctype l≠ []),?_⟩
 refine LC_pure rfl Tryz.func104 rfl (Nat.le_of_ble_eq_true rfl) (by decide) (by kernel_rfl) rfl ?_
 unfold Tg.Mi.rawP
 have ho:=o1.row
 have hle:=o1.le
 have hold:=o1.old
 generalize Tg.Hd.getP Tg.Mi.ctype l=xs at*
 have hlen:=fun H':LH=>SOwn.len ho (H':=H')
 by_cases hx:xs= []
 ·subst hx
  simp at hlen
  simp [e1,hlen]
  exact⟨hle,hold⟩
 ·have hp:=List.length_pos_iff.2 hx
  have q:=eq_false (show¬(xs.length:Int)=0 by omega)
  obtain⟨k,o,g1,g2,g3⟩:=SOwn.at ho (i:=xs.length-1) (by omega)
  have g4:=g3 H1 rfl
  have hw:IntKind.i64.wrap ((xs.length:Int)-1)=((xs.length-1:Nat):Int):=by rw [wrapI (by omega) (by omega)];omega
  have hla:xs.getLast?.getD []=xs[xs.length-1]'(by omega):=by
   rw [List.getLast?_eq_getElem?,List.getElem?_eq_getElem (by omega)];rfl
  simp [e1,hlen,hx,q,hw,g1,g4,hla]
  exact⟨hle,hold⟩
theorem nvalues_ex (hr:HRow H v l) (hs:Tg.Mi.SmH l) (hN:N≤H.n):Gives Tryz.prog EJ 146 [v] H fun H' r=>RowG elS 9 N H' r (Tg.Mi.valuesP (Tg.Hd.getP Tg.Mi.xopt l)):=by
 refine gives_of ?_ (fun v H' hf h=>h.flat hf)
 refine LC_runs (P:=Tryz.prog) (E:=EJ) (f:=146) rfl Tryz.func146 rfl (Nat.le_of_ble_eq_true rfl) (by decide) (by kernel_rfl) ?_
 have hjl:=Tg.Mi.joinS (name:=Tg.Mi.xopt) hs
 have e1:=comb_cl (name:=Tg.Mi.xopt) hr (by have:=hs.1;omega) (fun h hh=>by have:=(hs.2 h hh).1;omega) (by omega)
 rw [show Tg.Mi.xopt= [88,45,67,111,110,116,101,110,116,45,84,121,112,101,45,79,112,116,105,111,110,115] from rfl]at e1 hjl⊢
 unfold Tg.Mi.valuesP
 generalize Tg.Hd.getP _ l=xs at*
 obtain⟨v2,H2,e2,le2,r2⟩:=split_ex (s:=Tg.Hd.joinC xs) hN (by omega)
 by_cases hx:xs= []
 ·subst hx
  simp [e1]
  exact RowG.nil
 ·rw [if_neg hx]
  simp [e1,hx,e2]
  exact⟨le2,r2⟩
theorem nis_k (hr:HRow H v l) (hs:Tg.Mi.SmH l):LC Tryz.prog EJ 105 [v] H=some (.bool (Tg.Mi.noP l),H):=by
 refine LC_pure rfl Tryz.func105 rfl (Nat.le_of_ble_eq_true rfl) (by decide) (by kernel_rfl) rfl ?_
 obtain⟨v1,H1,e1,le1,r1⟩:=nvalues_ex (N:=H.n) hr hs (Nat.le_refl _)
 have hb:=(Tg.Mi.valuesP_bd (B:=1000) (xs:=Tg.Hd.getP Tg.Mi.xopt l) (Tg.Mi.joinS hs)).2
 unfold Tg.Mi.noP
 generalize Tg.Mi.valuesP (Tg.Hd.getP Tg.Mi.xopt l)=ys at*
 have hlen:=fun H':LH=>r1.len (P:=Tryz.prog) (t:=84) (H':=H') Tryz.underlying84
 cases ys with
 |nil=>
  simp at hlen
  simp [e1,hlen]
  exact le1
 |cons a r=>
  have hal:=hb a (by simp)
  obtain⟨k,o,g1,g2,g3⟩:=str_at r1 (i:=0) (by simp)
  have g4:=g3 H1 rfl
  have e3:=fun H:LH=>csame_cl (H:=H) (s:=a) (t:= [110,111,115,110,105,102,102]) (by omega)
  have q:=eq_true (show(0:Int)<(r.length:Int)+1 by omega)
  simp at hlen g4 g1
  rw [show Tg.Mi.word= [110,111,115,110,105,102,102] from rfl]
  simp [e1,hlen,q,g1,g4,e3]
  exact le1
end
section
variable {H H':LH} {N M:Nat} {v w:Value} {l:List Tg.Hd.Hdr} {m:Tg.Mi.Mim} {xs:List (List UInt8)}
theorem lfill_said {a b:List UInt8} {h n g:Bool} (hc:cellB v=true):lfill Tryz.prog 115 [str [],str [],.slice none 0 0,.bool false,.bool false,.bool false] [(0,mv a b v),(1,.bool h),(2,.bool n),(3,.bool g)]=some [str a,str b,v,.bool h,.bool n,.bool g]:=by
 rw [lfill_agg (o:=0) (n:=3) (g:=true) (by simp) rfl (by simp)]
 show lfill _ _ [str a,str b,v,.bool false,.bool false,.bool false] _=_
 rw [lfill_cell (o:=3) (n:=1) (g:=false) (by simp) rfl (by simp) (by simp),lfill_cell (o:=4) (n:=1) (g:=false) (by simp) rfl (by simp) (by simp),lfill_cell (o:=5) (n:=1) (g:=false) (by simp) rfl (by simp) (by simp)]
 simp
def SaidR (N:Nat) (l:List Tg.Hd.Hdr) (H:LH) (r:Value):Prop:= ∃w,r=svp ((Tg.Mi.typeP l).getD Tg.Mi.noM) w (Tg.Mi.typeP l).isSome (Tg.Mi.noP l) (Tg.Sn.bug (Tg.Mi.rawP l))∧RowG elP 253 N H w ((Tg.Mi.typeP l).getD Tg.Mi.noM).ps
theorem SaidR.flat (h:SaidR N l H' v) (hf:flatB v=true):SaidR N l H v:=by
 obtain⟨w,rfl,h⟩:=h
 refine⟨w,rfl,h.flat ?_⟩
 have hc:=h.cell
 simp only [flatB,flat1B,List.all_cons,Bool.and_eq_true]at hf
 have h1:=hf.2.2.1
 cases w<;>first|exact h1|(simp [cellB]at hc)
theorem said_ex (hr:HRow H v l) (hs:Tg.Mi.SmH l) (hN:N≤H.n):Gives Tryz.prog EJ 76 [v] H (SaidR N l):=by
 refine gives_of ?_ (fun v H' hf h=>h.flat hf)
 refine LC_runs (P:=Tryz.prog) (E:=EJ) (f:=76) rfl Tryz.func76 rfl (Nat.le_of_ble_eq_true rfl) (by decide) (by kernel_rfl) ?_
 obtain⟨H0,hH0⟩: ∃H0,H0=H.new ⟨[str [],str [],.slice none 0 0,.bool false,.bool false,.bool false],115,true⟩:=⟨_,rfl⟩
 have le0:H.le H0:=by rw [hH0];exact le_refl.new
 have n0:H0.n=H.n+1:=by rw [hH0];rfl
 have a0:H0.get H.n=some ⟨[str [],str [],.slice none 0 0,.bool false,.bool false,.bool false],115,true⟩:=by rw [hH0,get_new]
 obtain⟨r1,H1,e1,le1,w1,rfl,rw1⟩:=nextract_ex (N:=N) (hr.keep le0.1 le0.2) hs (by omega)
 have hc1:=rw1.cell
 have n1:=le1.1
 have a1:=(le1.2 H.n (by omega)).trans a0
 unfold SaidR
 generalize ((Tg.Mi.typeP l).getD Tg.Mi.noM)=m at*
 generalize (Tg.Mi.typeP l).isSome=has at*
 obtain⟨H2,hH2⟩: ∃H2,H2=H1.new ⟨[str m.t,str m.s,w1],113,true⟩:=⟨_,rfl⟩
 have le2:H1.le H2:=by rw [hH2];exact le_refl.new
 have g2:H2.get H1.n=some ⟨[str m.t,str m.s,w1],113,true⟩:=by rw [hH2,get_new]
 have a2:=(le2.2 H.n (by omega)).trans a1
 have hle:=le0.trans (le1.trans le2)
 have hr2:=hr.keep hle.1 hle.2
 obtain⟨rb,e2⟩:=nraw_k hr2 hs
 have e3:=nis_k hr2.ro hs
 have e4:=fun H:LH=>bug_cl (H:=H) (s:=Tg.Mi.rawP l)
 have m1:(H.n=H1.n)=False:=eq_false (by omega)
 simp [←hH0,e1,←hH2,hc1,e2,e3,e4,g2,a2,lfill_said,m1]
 exact⟨hle,(rw1.le le2).keep1 (Nat.le_refl _) a2 (by show 115≠253;decide) (fun h=>h) hN (fun k _ hne=>get_set_ne hne)⟩
end
end Go.Proofs.YtcgiaiimbnoknaaGreatDoor.Mi
namespace Tg.Mi
end Tg.Mi
namespace Go.Proofs.YtcgiaiimbnoknaaGreatDoor.Mi
open Go.Lg Go.Tg
section
variable {H H':LH} {N M:Nat} {s t u name set:List UInt8} {v w:Value} {ps:List Tg.Mi.Par} {xs:List (List UInt8)} {m:Tg.Mi.Mim} {l:List Tg.Hd.Hdr}
end
end Go.Proofs.YtcgiaiimbnoknaaGreatDoor.Mi
namespace Tg.Ob
end Tg.Ob
namespace Go.Proofs.YtcgiaiimbnoknaaGreatDoor.Sn
open Go.Lg Go.Tg
section
variable {H H':LH} {N:Nat} {s t u:List UInt8} {v w:Value} {l:List Tg.Hd.Hdr} {a1 a2:Bool} {me st:Int}
theorem tab_bs (h:Tab H) (b:Bs H H'):Tab H':=⟨by rw [b.2];exact h.1,by rw [b.1];exact h.2⟩
theorem nsaid_ex (hr:HRow H v l) (hs:Tg.Mi.SmH l): ∃r H',LC Tryz.prog EJ 76 [v] H=some (r,H')∧H.le H'∧Mi.SaidR H.n l H' r∧Bs H H':=by
 obtain⟨r,H',e,h1,h2⟩:=Mi.said_ex (N:=H.n) hr hs (Nat.le_refl _)
 exact⟨r,H',up rfl e,h1,h2,ext_bs e⟩
end
end Go.Proofs.YtcgiaiimbnoknaaGreatDoor.Sn
namespace Tg.Mi
end Tg.Mi
namespace Tg.Hd
end Tg.Hd
namespace Tg.Ob
structure Jud where
 v:Int
 r:List UInt8
 n:Int
 m:Bool
deriving DecidableEq
end Tg.Ob
namespace Go.Proofs.YtcgiaiimbnoknaaGreatDoor.Sn
open Go.Lg Go.Tg
abbrev askv (u:List UInt8) (a1 a2:Bool) (me:Int):Value:=.agg #[str u,.bool a1,.bool a2,.int .i64 me]
abbrev repv (st:Int) (v:Value):Value:=.agg #[.int .i64 st,v]
section
variable {H H':LH} {N:Nat} {s t u:List UInt8} {v w:Value} {l:List Tg.Hd.Hdr} {a1 a2:Bool} {me st:Int}
end
section
variable {H H':LH} {N:Nat} {s t u:List UInt8} {v w:Value} {l:List Tg.Hd.Hdr} {a1 a2:Bool} {me st:Int}
theorem flat_rep (h:flatB (repv st v)=true) (hc:cellB v=true):flatB v=true:=by
 simp only [flatB,flat1B,List.all_cons,Bool.and_eq_true]at h
 have h1:=h.2.1
 cases v<;>first|exact h1|(simp [cellB]at hc)
theorem hrow_slice (h:HRow H v l):cellB v=true:=by
 rcases h with⟨rfl,_⟩|⟨k,o,c,rfl,_⟩<;>simp
theorem few30_ex (hr:HRow H v l) (hl:l.length≤9223372036854775807): ∃v' H',LC Tryz.prog EJ 5 [repv st v] H=some (repv st v',H')∧H.le H'∧HOwn H.n H' v' (Tg.Hd.few l 8)∧Bs H H':=by
 have hc:=hrow_slice hr
 obtain⟨H1,hH1⟩: ∃H1,H1=(H.new ⟨[.int .i64 st,v],24,true⟩).new ⟨[.int .i64 0,.slice none 0 0],24,true⟩:=⟨_,rfl⟩
 have le1:H.le H1:=by rw [hH1];exact le_refl.new.new
 have n1:H1.n=H.n+1+1:=by rw [hH1];rfl
 have a1:H1.get H.n=some ⟨[.int .i64 st,v],24,true⟩:=by rw [hH1,get_new_ne (by simp),get_new]
 have b1:H1.get (H.n+1)=some ⟨[.int .i64 0,.slice none 0 0],24,true⟩:=by rw [hH1];exact get_new
 obtain⟨v2,H2,e2,o2⟩:=few_hl (hr.keep le1.1 le1.2) hl (c:=8) (by decide)
 have bs2:=ext_bs e2
 have e2:LC Tryz.prog EJ 18 [v,.int .i64 8] H1=some (v2,H2):=up rfl e2
 have le2:H1.le H2:=⟨o2.le,o2.old⟩
 have a2:=(le2.2 H.n (by omega)).trans a1
 have b2:=(le2.2 (H.n+1) (by omega)).trans b1
 have n2:=le2.1
 have hr2:=o2.row.row
 have hc2:=hrow_slice hr2
 have d1:(H.n=H.n+1)=False:=eq_false (by omega)
 have d2:(H.n+1=H.n)=False:=eq_false (by omega)
 have hle:=le1.trans le2
 have key: ∃r,LC Tryz.prog EJ 5 [repv st v] H=some (Lg.trunc H r)∧r.1=repv st v2∧r.2=(H2.set H.n ⟨[.int .i64 st,v2],24,true⟩).set (H.n+1) ⟨[.int .i64 st,v2],24,true⟩:=by
  refine LC_runs (P:=Tryz.prog) (E:=EJ) (f:=5) rfl Tryz.func5 rfl (Nat.le_of_ble_eq_true rfl) (by decide) (by kernel_rfl) ?_
  simp [hc,←hH1,a1,e2,a2,b2,hc2,d1,d2]
 obtain⟨⟨r,H3⟩,e3,h1,h2⟩:=key
 simp only at h1 h2
 subst h1 h2
 have hle3:H.le ((H2.set H.n ⟨[.int .i64 st,v2],24,true⟩).set (H.n+1) ⟨[.int .i64 st,v2],24,true⟩):=(hle.set (Nat.le_refl _)).set (by omega)
 have hold:HOwn H.n ((H2.set H.n ⟨[.int .i64 st,v2],24,true⟩).set (H.n+1) ⟨[.int .i64 st,v2],24,true⟩) v2 (Tg.Hd.few l 8):=by
  have h0:=RowN.keep (H':=(H2.set H.n ⟨[.int .i64 st,v2],24,true⟩).set (H.n+1) ⟨[.int .i64 st,v2],24,true⟩) o2.row (Nat.le_refl _) (fun k hk _ _=>by rw [get_set_ne (by omega),get_set_ne (by omega)])
  exact HOwn.weak h0 (by omega)
 rcases trunc_or (repv st v2) H ((H2.set H.n ⟨[.int .i64 st,v2],24,true⟩).set (H.n+1) ⟨[.int .i64 st,v2],24,true⟩)with e4|⟨e4,hf,_⟩
 ·exact⟨v2,_,by rw [e3,e4],hle3,hold,(show Bs H H1 from by rw [hH1];exact⟨by simp,by simp⟩).trans (bs2.trans ⟨by simp,by simp⟩)⟩
 ·refine⟨v2,H,by rw [e3,e4],le_refl,?_,Bs.refl _⟩
  have hf2:=flat_rep hf hc2
  refine⟨hold.1,?_⟩
  rcases hold.2 with h|⟨k,c,rest,rfl,_⟩
  ·exact .inl h
  ·simp [flatB,flat1B,atomB]at hf2
end
end Go.Proofs.YtcgiaiimbnoknaaGreatDoor.Sn
namespace Go.Proofs.YtcgiaiimbnoknaaGreatDoor
open Go.ChangeShapes Go.WideShapes Go.ChangeAt Go.RowKit Go.Tg Go.Lg
theorem sizeN {W:World} (h:W.ShapedOpen Tryz.prog):2+1≤W.heap.size:=by
 obtain⟨m,h2⟩:=Go.Proofs.cell_of_shapedOpen_int (P:=Tryz.prog) (w:=W) (zero:=#[.int .i64 0]) (t:=3) (g:=2) h (of_decide_eq_true (by kernel_rfl)) (by kernel_rfl) rfl (by kernel_rfl) (by kernel_rfl) Tryz.underlying3
 have h2':W.cell? ⟨2,0,none⟩=some (.int .i64 m):=h2
 rcases Nat.lt_or_ge 2 W.heap.size with h3|h3
 ·omega
 ·simp [World.cell?,Array.getElem?_eq_none h3]at h2'
theorem returns_and_shaped {H:Type} {enc:TypeId×Value→H} {a:Assume} {C:Checked} {os:Os} {f:FuncId} {fn:Func} {s:ChangeSpec} {conds:List PathCond} {apart fresh handsOn again:Bool} {X:World→Array Value→Prop}
  (hX: ∀(w w':World) (args:Array Value),w.heap=w'.heap→X w args→X w' args)
  (own:Go.ownKnob C.prog.godebug=none) (started:os.Started) (noInit:C.prog.inits.idxOf? f=none) (hfn:C.prog.funcs[f]?=some fn)
  (witness: ∃(w:World) (tape:Tape) (i:Input),w.os=os∧(w.forCall tape i).Shaped C.prog∧i.vars= []∧Input.okWide C.prog (w.forCall tape i) .any w.heap.size f i∧
   ((s.pre enc C.prog fn conds apart (w.forCall tape i).memory i.args∧X (w.forCall tape i).memory i.args)∧sizedMet enc C.prog fn (OpenSpec.ofChange s) apart (w.forCall tape i).memory i.args)∧a.holds C.prog (lone (Frame.enter C.prog f i.args .normal) [] (w.forCall tape i)))
  (contract: ∀(W:World) (base:Nat) (args:Array Value) (ds gs:List (DataW H)) (before:List MemPlace),
   (∀(j:Nat) t v,fn.params[j]?=some t→args[j]?=some v→Value.okWide C.prog W .any base t v)→
   DataW.Whole enc C.prog fn.params.toList s.vars apart W args.toList ds gs before→
   X W args→W.ShapedOpen C.prog→
   Calls C.prog f args W fun e W'=> ∃v,e=.returned v∧s.post enc C.prog fn apart fresh handsOn again W args v W'):
  ReturnsInHanded a C os f .any (fun w args=>(s.pre enc C.prog fn conds apart w args∧X w args)∧sizedMet enc C.prog fn (OpenSpec.ofChange s) apart w args) (s.post enc C.prog fn apart fresh handsOn again):=by
 refine returnsInHanded_of_calls own started noInit witness ?_
 intro w tape i _ hsh _ hok hpre hholds
 obtain⟨_,_,_,fn',hfn',_,_,_,_,hval⟩:=hok
 have e:fn'=fn:=Option.some.inj (hfn'.symm.trans hfn)
 subst e
 obtain⟨⟨⟨ds,gs,before,hw,hc⟩,hx⟩,hz⟩:=hpre
 have hw':=DataW.Whole.of_heap (w':=w.forCall tape i) (by rfl) hw
 refine(contract (w.forCall tape i) w.heap.size i.args ds gs before hval hw' (hX _ _ _ (by rfl) hx) hsh).mono fun e W' ⟨v,he,hp⟩=>?_
 subst he
 exact ChangeSpec.post_blind hp
end Go.Proofs.YtcgiaiimbnoknaaGreatDoor
namespace Go.Proofs.YtcgiaiimbnoknaaGreatDoor.Sn
open Go.ChangeShapes Go.WideShapes Go.ChangeAt Go.RowKit Go.Tg Go.Lg
theorem cells_hdrR:Tryz.prog.cellsOf 59=2:=by kernel_rfl
theorem cells_hdrsR:Tryz.prog.cellsOf 22=1:=by kernel_rfl
theorem cells_strR:Tryz.prog.cellsOf 9=1:=by kernel_rfl
theorem cells_intR:Tryz.prog.cellsOf 3=1:=by kernel_rfl
theorem cells_rep:Tryz.prog.cellsOf 24=2:=by kernel_rfl
theorem hdr_of_trodR {HH:Type} {enc:TypeId×Value→HH} {W:World} {base fuel:Nat} {sp:Nat→Bool} {held:Bool} {cs:List Value} {x:DataW HH×List MemPlace} (n:Nat) (hf:DataW.trod enc Tryz.prog W base sp held fuel 59 cs=some x): ∃a:Tg.Hd.Hdr,cs.map (lift1 n)= [str a.1,str a.2]:=by
 cases fuel with
 |zero=>simp [DataW.trod]at hf
 |succ m=>
  rw [DataW.trod_step]at hf
  unfold DataW.trodStep at hf
  simp only [Tryz.underlying59,Value.cells]at hf
  split at hf
  ·rename_i hs
   rw [cells_hdrR]at hs
   match cs,hs with
   | [c0,c1],_=>
   simp only [Option.map_eq_some_iff]at hf
   obtain⟨xs,hx,e1⟩:=hf
   simp only [List.mapM_cons,List.mapM_nil,bind,Option.bind_eq_some_iff,pure,Option.some.injEq,cells_strR]at hx
   obtain⟨y0,h0,_,⟨y1,h1,_,rfl,rfl⟩,rfl⟩:=hx
   obtain⟨s0,q0,_,_⟩:=DataW.trod_string Tryz.underlying9 h0
   obtain⟨s1,q1,_,_⟩:=DataW.trod_string Tryz.underlying9 h1
   simp at q0 q1
   subst q0;subst q1
   exact⟨(s0.data.toList,s1.data.toList),by simp only [str_ba];rfl⟩
  ·cases hf
theorem hrow_ofR {W:World} {g:Nat} {v:Value} {xs:List Tg.Hd.Hdr} (h:RowOf (LH.lift W g) 2 (fun(a:Tg.Hd.Hdr) cs=>cs= [str a.1,str a.2]) v xs):HRow (LH.lift W g) v xs:=by
 rcases h with h|⟨l,o,c,h1,_,h2,h3⟩
 ·exact .inl h
 ·refine .inr ⟨l,o,c,h1,fun hne=>?_⟩
  obtain⟨b,h4,h5,h6⟩:=h3 hne
  refine⟨b,h4,h2,fun i hi=>?_⟩
  have h7:=h6 i xs[i] (List.getElem?_eq_getElem hi)
  have hle:o+i*2+2≤b.cells.length:=by
   have:=Nat.mul_le_mul_right 2 (show i+1≤xs.length by omega)
   omega
  have e1:b.cells[o+i*2]?=((b.cells.drop (o+i*2)).take 2)[0]?:=by rw [List.getElem?_take,if_pos (by decide),List.getElem?_drop];rfl
  have e2:b.cells[o+i*2+1]?=((b.cells.drop (o+i*2)).take 2)[1]?:=by rw [List.getElem?_take,if_pos (by decide),List.getElem?_drop]
  exact⟨hle,h7,by rw [e1,h7];rfl,by rw [e2,h7];rfl⟩
theorem lift_intR {n:Nat} {k:IntKind} {x:Int} :lift1 n (.int k x)=.int k x:=rfl
def I64R (n:Int):Prop:= -9223372036854775808≤n∧n≤9223372036854775807
theorem i64_ofR {n:Int} (h:(Lit.int .i64 n).wf=true):I64R n:=(Lit.wf_int_iff .i64 n).1 h
theorem lift_aggR {n:Nat} {cs:Array Value} {l:List Value} (h:cs.toList.map (lift1 n)=l):liftV n (.agg cs)=.agg ⟨l⟩:=by
 show Value.agg (cs.map (lift1 n))=_
 congr 1
 rw [←h,←Array.toList_map]
theorem open_reply {HH:Type} {enc:TypeId×Value→HH} {W:World} {g base b0:Nat} {held:Bool} {r:Reach} {v:Value} {d:DataW HH} {ps:List MemPlace} (hw0:0<W.heap.size)
  (hval:Value.okWide Tryz.prog W r b0 24 v) (hd:DataW.Trod enc Tryz.prog W base (fun _=>true) held 24 v d ps):
  ∃(st:Int) (p:Value) (l:List Tg.Hd.Hdr),liftV W.heap.size v=repv st p∧HRow (LH.lift W g) p l∧l.length≤maxLen∧I64R st:=by
 obtain⟨cs,rfl,hs⟩:=okWide_struct Tryz.underlying24 hval
 rw [cells_rep]at hs
 obtain⟨l⟩:=cs
 match l,hs with
 | [c0,c1],_=>
 obtain⟨fuel,hf⟩:=hd
 cases fuel with
 |zero=>simp [DataW.trod]at hf
 |succ n=>
  rw [DataW.trod_step]at hf
  unfold DataW.trodStep at hf
  simp only [Tryz.underlying24,Value.cells]at hf
  rw [if_pos (by rw [cells_rep];rfl)]at hf
  simp only [Option.map_eq_some_iff]at hf
  obtain⟨xs,hx,e1⟩:=hf
  simp only [List.mapM_cons,List.mapM_nil,bind,Option.bind_eq_some_iff,pure,Option.some.injEq,cells_intR,cells_hdrsR]at hx
  obtain⟨y0,h0,_,⟨y1,h1,_,rfl,rfl⟩,rfl⟩:=hx
  obtain⟨k0,q0,rfl,w0⟩:=DataW.trod_int Tryz.underlying3 h0
  obtain⟨v1,xs,hc,hr,hl⟩:=row_of_trod (El:=fun(a:Tg.Hd.Hdr) cs=>cs= [str a.1,str a.2]) (g:=g) Tryz.underlying22 cells_hdrR (by decide) hw0 (fun fuel cs y hy=>hdr_of_trodR W.heap.size hy) h1
  simp at q0 hc
  subst q0;subst hc
  exact⟨_,_,xs,lift_aggR (by simp only [List.map_cons,List.map_nil,lift_intR]),hrow_ofR hr,hl,i64_ofR w0⟩
theorem gTabR:Tryz.prog.globalNamed "strings.asciiSpace" =some 0:=by kernel_rfl
theorem sizeO {W:World} (h:W.ShapedOpen Tryz.prog):3≤W.heap.size:=sizeN h
noncomputable def laidS4:List (String×DataW Unit):= [("unicode/utf8.acceptRanges",Rows.laid_unicode_utf8_acceptRanges),("unicode.White_Space",Rows.laid_unicode_White_Space),("strings.asciiSpace",Rows.laid_strings_asciiSpace),("unicode/utf8.first",Rows.laid_unicode_utf8_first)]
theorem tab_of_laidS4 {W:World} (h:laidMetH Tryz.prog laidS4 W):Lib.TabIs Tryz.prog W "strings.asciiSpace" .u8 Lib.asciiSpaceTab:=by
 have h1:laidMet Tryz.prog laidS4 W:=by rwa [MakeChecks.laidMetH_plain _ _ _ (by kernel_rfl)]at h
 have h2:=h1.filter (fun x=>x.1== "strings.asciiSpace")
 have e:laidS4.filter (fun x=>x.1== "strings.asciiSpace")= [("strings.asciiSpace",Lib.tabData .u8 Lib.asciiSpaceTab)]:=by kernel_rfl
 rw [e]at h2
 exact Lib.tabIs_of_head (g:=0) (t:=176) (e:=5) (n:=256) gTabR (by kernel_rfl) (by kernel_rfl) (by kernel_rfl) (by kernel_rfl) (by kernel_rfl) h2
theorem tabS4 {W:World} (h:laidMetH Tryz.prog laidS4 W):Tab (LH.lift W 3):=⟨by show 0<3;decide,tab_of_laidS4 h⟩
theorem goes_of {P:Program} {c:OpenClaim} (h:P.funcs.any Func.goes=false):false=c.goesBy P:=by
 have hf: ∀(g:Nat),(P.funcs[g]?).any Func.goes=false:=fun g=>by
  cases hx:P.funcs[g]? with
  |none=>rfl
  |some fn=>
   cases hg:fn.goes with
   |false=>exact hg
   |true=>
    have:P.funcs.any Func.goes=true:=Array.any_eq_true'.2 ⟨fn,Array.mem_of_getElem? hx,hg⟩
    rw [h]at this
    cases this
 have key: ∀f,P.goes f=false:=fun f=>by
  unfold Program.goes
  rw [h,Bool.and_false,Bool.or_false]
  simp only [hf]
  simp
 unfold OpenClaim.goesBy Program.goesAt Program.goesFrom
 have e1:(P.funcNamed c.func).any P.goes=false:=by
  cases P.funcNamed c.func with
  |none=>rfl
  |some f=>exact key f
 rw [e1,Bool.false_or]
 cases c.start<;>simp [key]
end Go.Proofs.YtcgiaiimbnoknaaGreatDoor.Sn
namespace Go.Proofs.YtcgiaiimbnoknaaGreatDoor.Sn
open Go.Lg Go.Tg
section
variable {P:Program} {t:TypeId}
theorem lfill_one {cs:List Value} {i:Nat} {q:Nat×Nat×Bool} {v:Value} {ps:List (Nat×Value)} (hf:fldi P t i=some q) (hn:q.2.1=1) (hv:cellB v=true) (ho:q.1<cs.length):lfill P t cs ((i,v)::ps)=lfill P t (cs.set q.1 v) ps:=by
 obtain⟨o,n,g⟩:=q
 exact lfill_cell hf hn hv ho
end
section
variable {H H':LH} {d m:Int}
abbrev qb (v:Value) (a n m o:Int):LB:=⟨[v,.int .i64 a,.int .i64 n,.int .i64 m,.int .i64 o],86,true⟩
abbrev hb (q:Nat) (st ca we:Int):LB:=⟨[ptr q 0,.int .i64 st,.int .i64 ca,.int .i64 we],69,true⟩
theorem qnew_k (h0:0≤m) (h1:m≤1048576):LC Tryz.prog EJ 47 [.int .i64 m] H=some (.tuple #[ptr H.n 0,.int .i64 0],H.new (qb (.slice none 0 0) 0 0 m 0)):=by
 have f1:=eq_false (show¬m<0 by omega)
 have f2:=eq_false (show¬1048576<m by omega)
 obtain⟨r,h,e⟩:=LC_runs (P:=Tryz.prog) (E:=EJ) (f:=47) rfl Tryz.func47 rfl (Nat.le_of_ble_eq_true rfl) (by decide) (by kernel_rfl) (H:=H) (args:= [.int .i64 m]) (Q:=fun r=>r=(.tuple #[ptr H.n 0,.int .i64 0],H.new (qb (.slice none 0 0) 0 0 m 0))) (by simp [f1,f2,lfill_one])
 rw [h,e,trunc_no (by simp [flatB,flat1B,atomB])]
theorem hnew_k (h0:0≤m) (h1:m≤1048576):LC Tryz.prog EJ 35 [.int .i64 m] H=some (.tuple #[ptr (H.n+1) 0,.int .i64 0],(H.new (qb (.slice none 0 0) 0 0 m 0)).new (hb H.n 0 0 0)):=by
 have h1:=fun H:LH=>qnew_k (H:=H) h0 h1
 obtain⟨r,h,e⟩:=LC_runs (P:=Tryz.prog) (E:=EJ) (f:=35) rfl Tryz.func35 rfl (Nat.le_of_ble_eq_true rfl) (by decide) (by kernel_rfl) (H:=H) (args:= [.int .i64 m]) (Q:=fun r=>r=(.tuple #[ptr (H.n+1) 0,.int .i64 0],(H.new (qb (.slice none 0 0) 0 0 m 0)).new (hb H.n 0 0 0))) (by simp [h1,lfill_one])
 rw [h,e,trunc_no (by simp [flatB,flat1B,atomB])]
theorem jnew_k (h0:0≤d) (h1:d≤200): ∃cs,LC Tryz.prog EJ 62 [.int .i64 d] H=some (.tuple #[ptr H.n 0,.int .i64 0],H.new ⟨cs,108,true⟩):=by
 have f1:=eq_false (show¬d<0 by omega)
 have f2:=eq_false (show¬200<d by omega)
 obtain⟨r,h,cs,e⟩:=LC_runs (P:=Tryz.prog) (E:=EJ) (f:=62) rfl Tryz.func62 rfl (Nat.le_of_ble_eq_true rfl) (by decide) (by kernel_rfl) (H:=H) (args:= [.int .i64 d]) (Q:=fun r=> ∃cs,r=(.tuple #[ptr H.n 0,.int .i64 0],H.new ⟨cs,108,true⟩)) (by
  simp [f1,f2,lfill_one]
  exact⟨_,rfl⟩)
 refine⟨cs,?_⟩
 rw [h,e,trunc_no (by simp [flatB,flat1B,atomB])]
theorem snew_k (h0:0≤d) (h1:d≤200): ∃cs,LC Tryz.prog EJ 63 [.int .i64 d] H=some (.tuple #[ptr H.n 0,.int .i64 0],H.new ⟨cs,110,true⟩):=by
 have f1:=eq_false (show¬d<0 by omega)
 have f2:=eq_false (show¬200<d by omega)
 obtain⟨r,h,cs,e⟩:=LC_runs (P:=Tryz.prog) (E:=EJ) (f:=63) rfl Tryz.func63 rfl (Nat.le_of_ble_eq_true rfl) (by decide) (by kernel_rfl) (H:=H) (args:= [.int .i64 d]) (Q:=fun r=> ∃cs,r=(.tuple #[ptr H.n 0,.int .i64 0],H.new ⟨cs,110,true⟩)) (by
  simp [f1,f2,lfill_one]
  exact⟨_,rfl⟩)
 refine⟨cs,?_⟩
 rw [h,e,trunc_no (by simp [flatB,flat1B,atomB])]
theorem lfresh_k (h0:0≤d) (h1:d≤200): ∃H',LC Tryz.prog EJ 49 [.int .i64 d] H=some (.tuple #[ptr (H.n+2) 0,.int .i64 0],H')∧H.le H'∧H'.n=H.n+3∧Bs H H':=by
 obtain⟨c1,e1⟩:=jnew_k (H:=H) h0 h1
 obtain⟨c2,e2⟩:=snew_k (H:=H.new ⟨c1,108,true⟩) h0 h1
 rw [n_new]at e2
 obtain⟨r,h,cs,e⟩:=LC_runs (P:=Tryz.prog) (E:=EJ) (f:=49) rfl Tryz.func49 rfl (Nat.le_of_ble_eq_true rfl) (by decide) (by kernel_rfl) (H:=H) (args:= [.int .i64 d]) (Q:=fun r=> ∃cs,r=(.tuple #[ptr (H.n+2) 0,.int .i64 0],((H.new ⟨c1,108,true⟩).new ⟨c2,110,true⟩).new ⟨cs,99,true⟩)) (by
  simp [e1,e2,lfill_one]
  exact⟨_,rfl⟩)
 refine⟨_,by rw [h,e,trunc_no (by simp [flatB,flat1B,atomB])],le_refl.new.new.new,rfl,⟨by simp,by simp⟩⟩
theorem lnew_k (h0:0≤d) (h1:d≤200): ∃H',LC Tryz.prog EJ 37 [.int .i64 d] H=some (.tuple #[ptr (H.n+2) 0,.int .i64 0],H')∧H.le H'∧H'.n=H.n+3∧Bs H H':=by
 obtain⟨H1,e1,le1,n1,b1⟩:=lfresh_k (H:=H) h0 h1
 obtain⟨r,h,e⟩:=LC_runs (P:=Tryz.prog) (E:=EJ) (f:=37) rfl Tryz.func37 rfl (Nat.le_of_ble_eq_true rfl) (by decide) (by kernel_rfl) (H:=H) (args:= [.int .i64 d]) (Q:=fun r=>r=(.tuple #[ptr (H.n+2) 0,.int .i64 0],H1)) (by simp [e1])
 exact⟨H1,by rw [h,e,trunc_no (by simp [flatB,flat1B,atomB])],le1,n1,b1⟩
theorem pgood_k:LC Tryz.prog EJ 34 [.agg #[.bool false,.int .i64 1445,.int .i64 9]] H=some (.bool true,H):=by
 refine LC_pure rfl Tryz.func34 rfl (Nat.le_of_ble_eq_true rfl) (by decide) (by kernel_rfl) rfl ?_
 simp
theorem plimit_k:LC Tryz.prog EJ 36 [.agg #[.bool false,.int .i64 1445,.int .i64 9]] H=some (.int .i64 1445,H):=by
 have h1: ∀H:LH,LC Tryz.prog EJ 48 [.agg #[.bool false,.int .i64 1445,.int .i64 9]] H=some (.int .i64 1445,H):=fun H=>by
  refine LC_pure rfl Tryz.func48 rfl (Nat.le_of_ble_eq_true rfl) (by decide) (by kernel_rfl) rfl ?_
  simp
 refine LC_pure rfl Tryz.func36 rfl (Nat.le_of_ble_eq_true rfl) (by decide) (by kernel_rfl) rfl ?_
 simp [h1]
abbrev stb (u:List UInt8) (st:Int) (v:Value) (sg:Int) (h l:Nat) (j:List Value) (is:Bool) (ca wo:Int) (sn:Bool):LB:=⟨[.bool false,.int .i64 1445,.int .i64 9,str u,.bool true,.bool true,.int .i64 0,.int .i64 st,v,.bool false,.int .i64 sg,ptr h 0,ptr l 0]++j++ [.bool is,.int .i64 ca,.int .i64 wo,.bool sn],50,true⟩
theorem lfill_case {u:List UInt8} {a1 a2:Bool} {me:Int} :lfill Tryz.prog 43 [.bool false,.int .i64 0,.int .i64 0,str [],.bool false,.bool false,.int .i64 0,.int .i64 0,.slice none 0 0,.bool false] [(0,.agg #[.bool false,.int .i64 1445,.int .i64 9]),(1,askv u a1 a2 me)]=some [.bool false,.int .i64 1445,.int .i64 9,str u,.bool a1,.bool a2,.int .i64 me,.int .i64 0,.slice none 0 0,.bool false]:=by
 rw [lfill_agg (o:=0) (n:=3) (g:=true) (by simp) rfl (by simp)]
 show lfill _ _ [.bool false,.int .i64 1445,.int .i64 9,str [],.bool false,.bool false,.int .i64 0,.int .i64 0,.slice none 0 0,.bool false] _=_
 rw [lfill_agg (o:=3) (n:=4) (g:=true) (by simp) rfl (by simp)]
 show lfill _ _ [.bool false,.int .i64 1445,.int .i64 9,str u,.bool a1,.bool a2,.int .i64 me,.int .i64 0,.slice none 0 0,.bool false] _=_
 simp
theorem lfill_stream {h l:Nat} {u:List UInt8} {a1 a2:Bool} {me:Int} :lfill Tryz.prog 50 [.bool false,.int .i64 0,.int .i64 0,str [],.bool false,.bool false,.int .i64 0,.int .i64 0,.slice none 0 0,.bool false,.int .i64 0,.pointer none,.pointer none,.int .i64 0,str [],.int .i64 0,.bool false,.bool false,.int .i64 0,.int .i64 0,.bool false]
  [(0,.agg #[.bool false,.int .i64 1445,.int .i64 9,str u,.bool a1,.bool a2,.int .i64 me,.int .i64 0,.slice none 0 0,.bool false]),(2,ptr h 0),(3,ptr l 0)]=some [.bool false,.int .i64 1445,.int .i64 9,str u,.bool a1,.bool a2,.int .i64 me,.int .i64 0,.slice none 0 0,.bool false,.int .i64 0,ptr h 0,ptr l 0,.int .i64 0,str [],.int .i64 0,.bool false,.bool false,.int .i64 0,.int .i64 0,.bool false]:=by
 rw [lfill_agg (o:=0) (n:=10) (g:=true) (by simp) rfl (by simp)]
 show lfill _ _ [.bool false,.int .i64 1445,.int .i64 9,str u,.bool a1,.bool a2,.int .i64 me,.int .i64 0,.slice none 0 0,.bool false,.int .i64 0,.pointer none,.pointer none,.int .i64 0,str [],.int .i64 0,.bool false,.bool false,.int .i64 0,.int .i64 0,.bool false] _=_
 rw [lfill_cell (o:=11) (n:=1) (g:=false) (by simp) rfl (by simp) (by simp),lfill_cell (o:=12) (n:=1) (g:=false) (by simp) rfl (by simp) (by simp)]
 simp
structure StAt (H:LH) (q h:Nat):Prop where
 lt:q<H.n
 hq:h<q
 s: ∃l,H.get q=some (stb [] 0 (.slice none 0 0) 0 h l [.int .i64 0,str [],.int .i64 0,.bool false] false 0 0 false)
 hold:H.get h=some (hb (h-1) 0 0 0)
 queue:H.get (h-1)=some (qb (.slice none 0 0) 0 0 1445 0)
theorem streamnew_k: ∃q h H',LC Tryz.prog EJ 24 [.agg #[.bool false,.int .i64 1445,.int .i64 9],askv [] true true 0] H=some (.tuple #[ptr q 0,.int .i64 0],H')∧H.n<h∧H.le H'∧Bs H H'∧StAt H' q h:=by
 have e1:=fun H:LH=>pgood_k (H:=H)
 have e2:=fun H:LH=>plimit_k (H:=H)
 obtain⟨H1,hH1⟩: ∃H1,H1=(H.new ⟨[.bool false,.int .i64 1445,.int .i64 9],39,true⟩).new ⟨[str [],.bool true,.bool true,.int .i64 0],41,true⟩:=⟨_,rfl⟩
 have n1:H1.n=H.n+2:=by rw [hH1];rfl
 have le1:H.le H1:=by rw [hH1];exact le_refl.new.new
 have a1:H1.get H.n=some ⟨[.bool false,.int .i64 1445,.int .i64 9],39,true⟩:=by rw [hH1,get_new_ne (by simp),get_new]
 have b1:H1.get (H.n+1)=some ⟨[str [],.bool true,.bool true,.int .i64 0],41,true⟩:=by rw [hH1];exact get_new
 have e3:=hnew_k (H:=H1) (m:=1445) (by decide) (by decide)
 obtain⟨H2,hH2⟩: ∃H2,H2=(H1.new (qb (.slice none 0 0) 0 0 1445 0)).new (hb H1.n 0 0 0):=⟨_,rfl⟩
 rw [←hH2]at e3
 have n2:H2.n=H.n+4:=by rw [hH2];show H1.n+1+1=_;omega
 have le2:H1.le H2:=by rw [hH2];exact le_refl.new.new
 have q2:H2.get H1.n=some (qb (.slice none 0 0) 0 0 1445 0):=by rw [hH2,get_new_ne (by simp),get_new]
 have h2:H2.get (H1.n+1)=some (hb H1.n 0 0 0):=by rw [hH2];exact get_new
 have a2:=(le2.2 H.n (by omega)).trans a1
 have b2:=(le2.2 (H.n+1) (by omega)).trans b1
 obtain⟨H3,e4,le3,n3,bs3⟩:=lnew_k (H:=H2) (d:=9) (by decide) (by decide)
 have a3:=(le3.2 H.n (by omega)).trans a2
 have b3:=(le3.2 (H.n+1) (by omega)).trans b2
 have q3:=(le3.2 H1.n (by omega)).trans q2
 have h3:=(le3.2 (H1.n+1) (by omega)).trans h2
 have hle:=le1.trans (le2.trans le3)
 obtain⟨r,h,e⟩:=LC_runs (P:=Tryz.prog) (E:=EJ) (f:=24) rfl Tryz.func24 rfl (Nat.le_of_ble_eq_true rfl) (by decide) (by kernel_rfl) (H:=H) (args:= [.agg #[.bool false,.int .i64 1445,.int .i64 9],askv [] true true 0]) (Q:=fun r=>r=(.tuple #[ptr H3.n 0,.int .i64 0],H3.new (stb [] 0 (.slice none 0 0) 0 (H1.n+1) (H2.n+2) [.int .i64 0,str [],.int .i64 0,.bool false] false 0 0 false))) (by
  simp [←hH1,a1,b1,e1,e2,e3,a2,e4,a3,b3,lfill_case,lfill_stream]
  rfl)
 refine⟨H3.n,H1.n+1,_,by rw [h,e,trunc_no (by simp [flatB,flat1B,atomB])],by omega,hle.new,?_,⟨Nat.lt_succ_self _,by omega,⟨_,get_new⟩,?_,?_⟩⟩
 ·refine(show Bs H H1 from by rw [hH1];exact⟨by simp,by simp⟩).trans ((show Bs H1 H2 from by rw [hH2];exact⟨by simp,by simp⟩).trans (bs3.trans ⟨by simp,by simp⟩))
 ·rw [get_new_ne (by omega)];exact h3
 ·rw [get_new_ne (by omega)];exact q3
end
end Go.Proofs.YtcgiaiimbnoknaaGreatDoor.Sn
namespace Tg.Ob
def neverL:List (List UInt8):= [[97,112,112,108,105,99,97,116,105,111,110,47,100,97,115,104,43,120,109,108],[97,112,112,108,105,99,97,116,105,111,110,47,103,122,105,112],[97,112,112,108,105,99,97,116,105,111,110,47,109,115,101,120,99,101,108],[97,112,112,108,105,99,97,116,105,111,110,47,109,115,112,111,119,101,114,112,111,105,110,116],[97,112,112,108,105,99,97,116,105,111,110,47,109,115,119,111,114,100],[97,112,112,108,105,99,97,116,105,111,110,47,112,100,102],[97,112,112,108,105,99,97,116,105,111,110,47,120,45,103,122,105,112],[97,112,112,108,105,99,97,116,105,111,110,47,120,45,112,114,111,116,111,98,117,102],[97,112,112,108,105,99,97,116,105,111,110,47,122,105,112],[97,112,112,108,105,99,97,116,105,111,110,47,118,110,100,46,97,112,112,108,101,46,109,112,101,103,117,114,108],[97,112,112,108,105,99,97,116,105,111,110,47,118,110,100,46,109,115,45,101,120,99,101,108],[97,112,112,108,105,99,97,116,105,111,110,47,118,110,100,46,109,115,45,112,111,119,101,114,112,111,105,110,116],[97,112,112,108,105,99,97,116,105,111,110,47,118,110,100,46,109,115,45,119,111,114,100],[97,112,112,108,105,99,97,116,105,111,110,47,118,110,100,46,111,112,101,110,120,109,108,102,111,114,109,97,116,115,45,111,102,102,105,99,101,100,111,99,117,109,101,110,116,46,119,111,114,100,112,114,111,99,101,115,115,105,110,103,109,108,46,100,111,99,117,109,101,110,116],[97,117,100,105,111,47,109,112,101,103,117,114,108],[116,101,120,116,47,99,115,118],[116,101,120,116,47,101,118,101,110,116,45,115,116,114,101,97,109],[116,101,120,116,47,118,116,116],[109,117,108,116,105,112,97,114,116,47,98,121,116,101,114,97,110,103,101,115],[109,117,108,116,105,112,97,114,116,47,115,105,103,110,101,100]]
end Tg.Ob
namespace Go.Proofs.YtcgiaiimbnoknaaGreatDoor.Sn
open Go.Lg Go.Tg
open Tg.Ob (neverL)
section
variable {H:LH} {s t:List UInt8} {pa:Option Addr} {pl pc:Nat}
theorem gis_k {x:List UInt8} (hl:s.length+t.length≤1000000):LC Tryz.prog EJ 108 [mvp s t (.slice pa pl pc),str x] H=some (.bool (decide (s++47::t=x)),H):=by
 refine LC_pure rfl Tryz.func108 rfl (Nat.le_of_ble_eq_true rfl) (by decide) (by kernel_rfl) rfl ?_
 have h1:=fun H:LH=>ess_k (H:=H) (pa:=pa) (pl:=pl) (pc:=pc) hl
 generalize s++47::t=e at*
 simp [h1]
end
end Go.Proofs.YtcgiaiimbnoknaaGreatDoor.Sn
namespace Tg.Ob
def isScript (s t:List UInt8):Bool:=(decide (s= [97,112,112,108,105,99,97,116,105,111,110])&&decide (t∈ [[101,99,109,97,115,99,114,105,112,116],[106,97,118,97,115,99,114,105,112,116],[120,45,101,99,109,97,115,99,114,105,112,116],[120,45,106,97,118,97,115,99,114,105,112,116]]))||(decide (s= [116,101,120,116])&&decide (t∈ [[101,99,109,97,115,99,114,105,112,116],[106,97,118,97,115,99,114,105,112,116],[120,45,101,99,109,97,115,99,114,105,112,116],[120,45,106,97,118,97,115,99,114,105,112,116],[106,97,118,97,115,99,114,105,112,116,49,46,48],[106,97,118,97,115,99,114,105,112,116,49,46,49],[106,97,118,97,115,99,114,105,112,116,49,46,50],[106,97,118,97,115,99,114,105,112,116,49,46,51],[106,97,118,97,115,99,114,105,112,116,49,46,52],[106,97,118,97,115,99,114,105,112,116,49,46,53],[106,115,99,114,105,112,116],[108,105,118,101,115,99,114,105,112,116]]))
def isSafe (s t:List UInt8):Bool:=isScript s t||(decide (s= [116,101,120,116])&&decide (t∈ [[99,115,115]]))||decide (s++47::t= [105,109,97,103,101,47,115,118,103,43,120,109,108])
end Tg.Ob
namespace Go.Proofs.YtcgiaiimbnoknaaGreatDoor.Sn
open Go.Lg Go.Tg
section
variable {H:LH} {s t:List UInt8} {pa:Option Addr} {pl pc:Nat}
theorem gscript_k (ht:Tab H):LC Tryz.prog EJ 113 [mvp s t (.slice pa pl pc)] H=some (.bool (Tg.Ob.isScript s t),H):=by
 refine LC_pure rfl Tryz.func113 rfl (Nat.le_of_ble_eq_true rfl) (by decide) (by kernel_rfl) rfl ?_
 have h1:=under_k (H:=H.new ⟨[str s,str t,.slice pa pl pc],113,true⟩) (s:=s) (t:=t) (pa:=pa) (pl:=pl) (pc:=pc) (k:= [97,112,112,108,105,99,97,116,105,111,110]) (u:= [101,99,109,97,115,99,114,105,112,116,32,106,97,118,97,115,99,114,105,112,116,32,120,45,101,99,109,97,115,99,114,105,112,116,32,120,45,106,97,118,97,115,99,114,105,112,116,32]) (ws:= [[101,99,109,97,115,99,114,105,112,116],[106,97,118,97,115,99,114,105,112,116],[120,45,101,99,109,97,115,99,114,105,112,116],[120,45,106,97,118,97,115,99,114,105,112,116]]) (n:=4) (by decide) (by decide) (by decide+kernel) rfl (by decide) (show Tab (H.new _) from ht)
 have h2:=under_k (H:=H.new ⟨[str s,str t,.slice pa pl pc],113,true⟩) (s:=s) (t:=t) (pa:=pa) (pl:=pl) (pc:=pc) (k:= [116,101,120,116]) (u:= [101,99,109,97,115,99,114,105,112,116,32,106,97,118,97,115,99,114,105,112,116,32,120,45,101,99,109,97,115,99,114,105,112,116,32,120,45,106,97,118,97,115,99,114,105,112,116,32,106,97,118,97,115,99,114,105,112,116,49,46,48,32,106,97,118,97,115,99,114,105,112,116,49,46,49,32,106,97,118,97,115,99,114,105,112,116,49,46,50,32,106,97,118,97,115,99,114,105,112,116,49,46,51,32,106,97,118,97,115,99,114,105,112,116,49,46,52,32,106,97,118,97,115,99,114,105,112,116,49,46,53,32,106,115,99,114,105,112,116,32,108,105,118,101,115,99,114,105,112,116]) (ws:= [[101,99,109,97,115,99,114,105,112,116],[106,97,118,97,115,99,114,105,112,116],[120,45,101,99,109,97,115,99,114,105,112,116],[120,45,106,97,118,97,115,99,114,105,112,116],[106,97,118,97,115,99,114,105,112,116,49,46,48],[106,97,118,97,115,99,114,105,112,116,49,46,49],[106,97,118,97,115,99,114,105,112,116,49,46,50],[106,97,118,97,115,99,114,105,112,116,49,46,51],[106,97,118,97,115,99,114,105,112,116,49,46,52],[106,97,118,97,115,99,114,105,112,116,49,46,53],[106,115,99,114,105,112,116],[108,105,118,101,115,99,114,105,112,116]]) (n:=12) (by decide) (by decide) (by decide+kernel) rfl (by decide) (show Tab (H.new _) from ht)
 unfold Tg.Ob.isScript
 generalize (decide (s= [97,112,112,108,105,99,97,116,105,111,110])&&decide (t∈ [[101,99,109,97,115,99,114,105,112,116],[106,97,118,97,115,99,114,105,112,116],[120,45,101,99,109,97,115,99,114,105,112,116],[120,45,106,97,118,97,115,99,114,105,112,116]]))=b1 at*
 generalize (decide (s= [116,101,120,116])&&decide (t∈ [[101,99,109,97,115,99,114,105,112,116],[106,97,118,97,115,99,114,105,112,116],[120,45,101,99,109,97,115,99,114,105,112,116],[120,45,106,97,118,97,115,99,114,105,112,116],[106,97,118,97,115,99,114,105,112,116,49,46,48],[106,97,118,97,115,99,114,105,112,116,49,46,49],[106,97,118,97,115,99,114,105,112,116,49,46,50],[106,97,118,97,115,99,114,105,112,116,49,46,51],[106,97,118,97,115,99,114,105,112,116,49,46,52],[106,97,118,97,115,99,114,105,112,116,49,46,53],[106,115,99,114,105,112,116],[108,105,118,101,115,99,114,105,112,116]]))=b2 at*
 cases b1
 ·cases b2<;>simp [h1,h2]
 ·simp [h1]
theorem gsafe_k (hl:s.length+t.length≤1000000) (ht:Tab H):LC Tryz.prog EJ 84 [mvp s t (.slice pa pl pc)] H=some (.bool (Tg.Ob.isSafe s t),H):=by
 refine LC_pure rfl Tryz.func84 rfl (Nat.le_of_ble_eq_true rfl) (by decide) (by kernel_rfl) rfl ?_
 have h1:=gscript_k (H:=H.new ⟨[str s,str t,.slice pa pl pc],113,true⟩) (s:=s) (t:=t) (pa:=pa) (pl:=pl) (pc:=pc) (show Tab (H.new _) from ht)
 have h2:=under_k (H:=H.new ⟨[str s,str t,.slice pa pl pc],113,true⟩) (s:=s) (t:=t) (pa:=pa) (pl:=pl) (pc:=pc) (k:= [116,101,120,116]) (u:= [99,115,115]) (ws:= [[99,115,115]]) (n:=1) (by decide) (by decide) (by decide+kernel) rfl (by decide) (show Tab (H.new _) from ht)
 have h3:=fun H:LH=>gis_k (H:=H) (pa:=pa) (pl:=pl) (pc:=pc) (x:= [105,109,97,103,101,47,115,118,103,43,120,109,108]) hl
 unfold Tg.Ob.isSafe
 generalize Tg.Ob.isScript s t=b1 at*
 generalize (decide (s= [116,101,120,116])&&decide (t∈ [[99,115,115]]))=b2 at*
 generalize decide (s++47::t= [105,109,97,103,101,47,115,118,103,43,120,109,108])=b3 at*
 cases b1
 ·cases b2
  ·cases b3<;>simp [h1,h2,h3]
  ·simp [h1,h2]
 ·simp [h1]
end
end Go.Proofs.YtcgiaiimbnoknaaGreatDoor.Sn
namespace Tg.Ob
end Tg.Ob
namespace Go.Proofs.YtcgiaiimbnoknaaGreatDoor.Sn
open Go.Lg Go.Tg
section
variable {H:LH} {s t:List UInt8} {pa:Option Addr} {pl pc:Nat} {h n g:Bool}
end
end Go.Proofs.YtcgiaiimbnoknaaGreatDoor.Sn
namespace Tg.Ob
open Tg.Un (pre)
end Tg.Ob
namespace Go.Proofs.YtcgiaiimbnoknaaGreatDoor.Mi
open Go.Lg Go.Tg
section
variable {H:LH} {s t:List UInt8} {p:Nat}
end
end Go.Proofs.YtcgiaiimbnoknaaGreatDoor.Mi
namespace Tg.Ob
end Tg.Ob
namespace Go.Proofs.YtcgiaiimbnoknaaGreatDoor.Sn
open Go.Lg Go.Tg
section
variable {H H':LH} {N:Nat} {s t u:List UInt8} {v w:Value} {l:List Tg.Hd.Hdr} {a1 a2:Bool} {me st:Int}
theorem lfill_j2 {x:Int} {r:List UInt8} :lfill Tryz.prog 34 [.int .i64 0,str [],.int .i64 0,.bool false] [(0,.int .i64 x),(1,str r)]=some [.int .i64 x,str r,.int .i64 0,.bool false]:=by
 rw [lfill_cell (o:=0) (n:=1) (g:=false) (by simp) rfl (by simp) (by simp),lfill_cell (o:=1) (n:=1) (g:=false) (by simp) rfl (by simp) (by simp)]
 simp
end
end Go.Proofs.YtcgiaiimbnoknaaGreatDoor.Sn
namespace Tg.Hd
theorem cells_cell: ∀l:List Hdr,(cells l).all Go.Lg.cellB=true
 | []=>rfl
 |h::l=>by rw [cells_cons];simp [cells_cell l]
end Tg.Hd
namespace Go.Proofs.YtcgiaiimbnoknaaGreatDoor
open Go.Lg Go.Tg
section
variable {H H':LH} {v w:Value} {l m:List Tg.Hd.Hdr} {N:Nat} {s name value:List UInt8} {h:Tg.Hd.Hdr} {p:Nat}
theorem h_cat (h:HOwn N H v l) (hf:Full v) (hN:N≤H.n) (hl:l.length+m.length≤100000):
  ∃v' H2,lapp Tryz.prog 22 v (some (m.length,Tg.Hd.cells m)) H=some (v',H2)∧HOwn N H2 v' (l++m)∧H.n≤H2.n∧(∀k,k<H.n→offRow v k→H2.get k=H.get k)∧Full v'∧(∀k,k<H.n→offRow v k→offRow v' k):=by
 obtain⟨v',H2,ha,hr,hk,hf2⟩:=RowN.app (P:=Tryz.prog) (t:=22) (new:=Tg.Hd.cells m) (m:=m.length) h Tryz.underlying22 (by kernel_rfl) (Tg.Hd.cells_cell m) (Tg.Hd.cells_len m) (by unfold maxElems;omega) hN (.inr hf)
 refine⟨v',H2,ha,?_,hk.le,hk.get,hf2 hf,hk.off⟩
 rw [HOwn,List.length_append,Tg.Hd.cells_app];exact hr
theorem HOwn.src (h:HOwn N H v l) (hk: ∀k,N≤k→k<H.n→H'.get k=H.get k):lesrc Tryz.prog 22 v H'=some (l.length,Tg.Hd.cells l):=by
 rcases h.2 with⟨rfl,h0⟩|⟨k,c,rest,rfl,g1,g2,g3,g4,g5⟩
 ·have:l= []:=List.eq_nil_of_length_eq_zero h0
  subst this
  simp [Tg.Hd.cells]
 ·have hl:=Tg.Hd.cells_len l
  rw [lesrc_row (s:=2) Tryz.underlying22 (by kernel_rfl) (by rw [hk k g1 g2];exact g3) (by rw [List.length_append,hl];omega)]
  rw [List.drop_zero,List.take_left' hl]
theorem own0 {x:LB} :HOwn H.n (H.new ⟨[],59,true⟩) (sl H.n 0 0) []:=⟨by simp [Tg.Hd.cells],.inr ⟨H.n,0,[],by simp,Nat.le_refl _,by simp,by simp [Tg.Hd.cells],by simp,by simp [Tg.Hd.cells]⟩⟩
end
end Go.Proofs.YtcgiaiimbnoknaaGreatDoor
namespace Tg.Hd
end Tg.Hd
namespace Go.Proofs.YtcgiaiimbnoknaaGreatDoor
open Go.Lg Go.Tg
section
variable {H H':LH} {v w:Value} {l m:List Tg.Hd.Hdr} {N:Nat} {s name value:List UInt8} {h:Tg.Hd.Hdr} {p:Nat}
theorem clone_ex (hv:HOwn N H v l) (hl:l.length≤40000): ∃v' H',LC Tryz.prog EJ 25 [v] H=some (v',H')∧OutRow H v' H' l:=by
 have key: ∃r,LC Tryz.prog EJ 25 [v] H=some (Lg.trunc H r)∧OutRow H r.1 r.2 l:=by
  refine LC_runs (P:=Tryz.prog) (E:=EJ) (f:=25) rfl Tryz.func25 rfl (Nat.le_of_ble_eq_true rfl) (by decide) (by kernel_rfl) ?_
  have hsrc:=hv.src (H':=H.new ⟨[],59,true⟩) (fun k _ hk=>get_new_ne (by omega))
  obtain⟨va,Ha,b1,b2,b3,b4,b5,b6⟩:=h_cat (m:=l) (own0 (H:=H) (x:=hb ([],[]))) full_new (Nat.le_succ _) (by simp;omega)
  rcases hv.2 with⟨rfl,h0⟩|⟨k,c,rest,rfl,g1,g2,g3,g4,g5⟩
  ·have:l= []:=List.eq_nil_of_length_eq_zero h0
   subst this
   simp
   exact⟨RowN.nil,full_nil,Nat.le_refl _,fun _ _=>rfl⟩
  ·generalize hsl:sl k l.length c=vs at*
   have hne:lbin Tryz.prog .eql 22 vs (.slice none 0 0)=some (.bool false):=by
    rw [←hsl];simp
   simp [hne,bs0h,hsrc,b1]
   exact⟨b2,b5,by rw [n_new]at b3;omega,fun j hj=>by rw [b4 j (by rw [n_new];omega) (fun n c e=>by injection e with e;injection e with e;injection e with e;omega),get_new_ne (by omega)]⟩
 obtain⟨r,e,ho⟩:=key
 obtain⟨H2,e2,ho2⟩:=ho.trunc
 exact⟨r.1,H2,by rw [e,←e2],ho2⟩
end
end Go.Proofs.YtcgiaiimbnoknaaGreatDoor
namespace Go.Proofs.YtcgiaiimbnoknaaGreatDoor.Sn
open Go.Lg Go.Tg
section
variable {H H':LH} {N:Nat} {s t u:List UInt8} {v w:Value} {l:List Tg.Hd.Hdr} {a1 a2 h n g b:Bool} {me st:Int} {pa:Option Addr} {pl pc:Nat}
theorem sclone_k (hv:HOwn N H v l) (hl:l.length≤40000): ∃v' H',LC Tryz.prog EJ 25 [v] H=some (v',H')∧OutRow H v' H' l∧Bs H H':=by
 obtain⟨v',H',e,o⟩:=clone_ex hv hl
 have bs:=ext_bs e
 exact⟨v',H',up rfl e,o,bs⟩
theorem sown_ex (hv:HOwn N H v l) (hl:l.length≤40000): ∃v' H',LC Tryz.prog EJ 16 [repv st v] H=some (repv st v',H')∧H.le H'∧HOwn H.n H' v' l∧Bs H H':=by
 have hr:=hv.row
 have hc:=hrow_slice hr
 obtain⟨H1,hH1⟩: ∃H1,H1=(H.new ⟨[.int .i64 st,v],24,true⟩).new ⟨[.int .i64 0,.slice none 0 0],24,true⟩:=⟨_,rfl⟩
 have le1:H.le H1:=by rw [hH1];exact le_refl.new.new
 have n1:H1.n=H.n+1+1:=by rw [hH1];rfl
 have a1:H1.get H.n=some ⟨[.int .i64 st,v],24,true⟩:=by rw [hH1,get_new_ne (by simp),get_new]
 have b1:H1.get (H.n+1)=some ⟨[.int .i64 0,.slice none 0 0],24,true⟩:=by rw [hH1];exact get_new
 have hv1:HOwn N H1 v l:=RowN.keep hv le1.1 (fun k _ _ hk=>le1.2 k hk)
 obtain⟨v2,H2,e2,o2,bs2⟩:=sclone_k hv1 hl
 have le2:H1.le H2:=⟨o2.le,o2.old⟩
 have a2:=(le2.2 H.n (by omega)).trans a1
 have b2:=(le2.2 (H.n+1) (by omega)).trans b1
 have n2:=le2.1
 have hr2:=o2.row.row
 have hc2:=hrow_slice hr2
 have d1:(H.n=H.n+1)=False:=eq_false (by omega)
 have d2:(H.n+1=H.n)=False:=eq_false (by omega)
 have hle:=le1.trans le2
 have key: ∃r,LC Tryz.prog EJ 16 [repv st v] H=some (Lg.trunc H r)∧r.1=repv st v2∧r.2=(H2.set H.n ⟨[.int .i64 st,v2],24,true⟩).set (H.n+1) ⟨[.int .i64 st,v2],24,true⟩:=by
  refine LC_runs (P:=Tryz.prog) (E:=EJ) (f:=16) rfl Tryz.func16 rfl (Nat.le_of_ble_eq_true rfl) (by decide) (by kernel_rfl) ?_
  simp [hc,←hH1,a1,e2,a2,b2,hc2,d1,d2]
 obtain⟨⟨r,H3⟩,e3,h1,h2⟩:=key
 simp only at h1 h2
 subst h1 h2
 have hle3:H.le ((H2.set H.n ⟨[.int .i64 st,v2],24,true⟩).set (H.n+1) ⟨[.int .i64 st,v2],24,true⟩):=(hle.set (Nat.le_refl _)).set (by omega)
 have hold:HOwn H.n ((H2.set H.n ⟨[.int .i64 st,v2],24,true⟩).set (H.n+1) ⟨[.int .i64 st,v2],24,true⟩) v2 l:=by
  have h0:=RowN.keep (H':=(H2.set H.n ⟨[.int .i64 st,v2],24,true⟩).set (H.n+1) ⟨[.int .i64 st,v2],24,true⟩) o2.row (Nat.le_refl _) (fun k hk _ _=>by rw [get_set_ne (by omega),get_set_ne (by omega)])
  exact HOwn.weak h0 (by omega)
 rcases trunc_or (repv st v2) H ((H2.set H.n ⟨[.int .i64 st,v2],24,true⟩).set (H.n+1) ⟨[.int .i64 st,v2],24,true⟩)with e4|⟨e4,hf,_⟩
 ·exact⟨v2,_,by rw [e3,e4],hle3,hold,(show Bs H H1 from by rw [hH1];exact⟨by simp,by simp⟩).trans (bs2.trans ⟨by simp,by simp⟩)⟩
 ·refine⟨v2,H,by rw [e3,e4],le_refl,?_,Bs.refl _⟩
  have hf2:=flat_rep hf hc2
  refine⟨hold.1,?_⟩
  rcases hold.2 with h|⟨k,c,rest,rfl,_⟩
  ·exact .inl h
  ·simp [flatB,flat1B,atomB]at hf2
theorem oin_k {f:FuncId} (hf: ∀H:LH,Tab H→LC Tryz.prog EJ f [mvp s t (.slice pa pl pc)] H=some (.bool b,H)) (ht:Tab H):LC Tryz.prog EJ 83 [svp s t (.slice pa pl pc) h n g,.func (.func f) #[] #[]] H=some (.bool (h&&b),H):=by
 refine LC_pure rfl Tryz.func83 rfl (Nat.le_of_ble_eq_true rfl) (by decide) (by kernel_rfl) rfl ?_
 have h1:=hf (H.new ⟨[str s,str t,.slice pa pl pc,.bool h,.bool n,.bool g],115,true⟩) (show Tab (H.new _) from ht)
 cases h<;>cases b<;>simp [h1]
theorem ojudged_k {x:Int} :LC Tryz.prog EJ 82 [.int .i64 x,str s] H=some (jv x s 0 false,H):=by
 refine LC_pure rfl Tryz.func82 rfl (Nat.le_of_ble_eq_true rfl) (by decide) (by kernel_rfl) rfl ?_
 simp [lfill_j2]
theorem ogd_k:LC Tryz.prog EJ 81 [askv u a1 a2 me] H=some (.bool (a1&&a2),H):=by
 refine LC_pure rfl Tryz.func81 rfl (Nat.le_of_ble_eq_true rfl) (by decide) (by kernel_rfl) rfl ?_
 cases a1<;>simp
def cssL:List Tg.Hd.Hdr:= [([67,111,110,116,101,110,116,45,84,121,112,101],[116,101,120,116,47,99,115,115])]
theorem css_type:Tg.Mi.typeP cssL=some ⟨[116,101,120,116],[99,115,115],[]⟩:=by decide+kernel
theorem css_sm:Tg.Mi.SmH cssL:=⟨by decide,by decide⟩
theorem css_safe:Tg.Ob.isSafe [116,101,120,116] [99,115,115]=true:=by decide+kernel
theorem ohead_css (hr:HRow H v cssL) (ht:Tab H):LC Tryz.prog EJ 65 [askv u true true 0,repv 200 v,.bool false] H=some (jv 1 [115,97,102,101] 0 false,H):=by
 refine LC_pure rfl Tryz.func65 rfl (Nat.le_of_ble_eq_true rfl) (by decide) (by kernel_rfl) rfl ?_
 have hc:=hrow_slice hr
 obtain⟨H1,hH1⟩: ∃H1,H1=((H.new ⟨[str u,.bool true,.bool true,.int .i64 0],41,true⟩).new ⟨[.int .i64 200,v],24,true⟩).new ⟨[.int .i64 0,str [],.int .i64 0,.bool false],34,true⟩:=⟨_,rfl⟩
 have le1:H.le H1:=by rw [hH1];exact le_refl.new.new.new
 have n1:H1.n=H.n+1+1+1:=by rw [hH1];rfl
 have g1:H1.get H.n=some ⟨[str u,.bool true,.bool true,.int .i64 0],41,true⟩:=by rw [hH1,get_new_ne (by simp;omega),get_new_ne (by simp),get_new]
 have k1:H1.get (H.n+1)=some ⟨[.int .i64 200,v],24,true⟩:=by rw [hH1,get_new_ne (by simp)];exact get_new
 have j1:H1.get (H.n+1+1)=some ⟨[.int .i64 0,str [],.int .i64 0,.bool false],34,true⟩:=by rw [hH1];exact get_new
 obtain⟨r2,H2,e2,le2,⟨w,rfl,hw⟩,bs2⟩:=nsaid_ex (hr.keep le1.1 le1.2) css_sm
 have hcw:=hw.cell
 obtain⟨pa,pl,pc,hsw⟩:=hw.slice
 rw [css_type]at e2
 simp only [Option.getD_some,Option.isSome_some]at e2
 obtain⟨H3,hH3⟩: ∃H3,H3=H2.new ⟨[str [116,101,120,116],str [99,115,115],w,.bool true,.bool (Tg.Mi.noP cssL),.bool (Tg.Sn.bug (Tg.Mi.rawP cssL))],115,true⟩:=⟨_,rfl⟩
 have le3:H2.le H3:=by rw [hH3];exact le_refl.new
 have g3:=(le3.2 H.n (by have:=le2.1;omega)).trans ((le2.2 H.n (by omega)).trans g1)
 have k3:=(le3.2 (H.n+1) (by have:=le2.1;omega)).trans ((le2.2 (H.n+1) (by omega)).trans k1)
 have j3:=(le3.2 (H.n+1+1) (by have:=le2.1;omega)).trans ((le2.2 (H.n+1+1) (by omega)).trans j1)
 have s3:H3.get H2.n=some ⟨[str [116,101,120,116],str [99,115,115],w,.bool true,.bool (Tg.Mi.noP cssL),.bool (Tg.Sn.bug (Tg.Mi.rawP cssL))],115,true⟩:=by rw [hH3];exact get_new
 have hle:=(le1.trans le2).trans le3
 have ht3:Tab H3:=(tab_bs ht ((show Bs H H1 from by rw [hH1];exact⟨by simp,by simp⟩).trans (bs2.trans (show Bs H2 H3 from by rw [hH3];exact⟨by simp,by simp⟩))))
 have e4:=fun H:LH=>ogd_k (H:=H) (u:=u) (a1:=true) (a2:=true) (me:=0)
 have e5:=oin_k (H:=H3) (f:=84) (s:= [116,101,120,116]) (t:= [99,115,115]) (pa:=pa) (pl:=pl) (pc:=pc) (h:=true) (n:=Tg.Mi.noP cssL) (g:=Tg.Sn.bug (Tg.Mi.rawP cssL)) (b:=true) (fun H ht=>by rw [gsafe_k (by decide) ht,css_safe]) ht3
 have e6:=fun H:LH=>ojudged_k (H:=H) (x:=1) (s:= [115,97,102,101])
 rw [←hsw]at e5
 clear hsw hw
 generalize Tg.Mi.noP cssL=no at*
 generalize Tg.Sn.bug (Tg.Mi.rawP cssL)=bg at*
 simp [hc,←hH1,g1,k1,e2,←hH3,hcw,g3,k3,j3,s3,e4,e5,e6]
 exact hle.set (by omega)
end
section
variable {H H':LH} {N q h l k:Nat} {s t u:List UInt8} {v w:Value}
abbrev casev (v:Value):Value:=.agg #[.bool false,.int .i64 1445,.int .i64 9,str [],.bool true,.bool true,.int .i64 0,.int .i64 200,v,.bool false]
abbrev casec (v:Value):List Value:= [.bool false,.int .i64 1445,.int .i64 9,str [],.bool true,.bool true,.int .i64 0,.int .i64 200,v,.bool false]
abbrev stb0 (v:Value) (sg:Int) (h l:Nat) (x:Int) (r:List UInt8) (n:Int) (m:Bool) (is:Bool) (ca wo:Int):LB:=⟨[.bool false,.int .i64 1445,.int .i64 9,str [],.bool true,.bool true,.int .i64 0,.int .i64 200,v,.bool false,.int .i64 sg,ptr h 0,ptr l 0,.int .i64 x,str r,.int .i64 n,.bool m,.bool is,.int .i64 ca,.int .i64 wo,.bool false],50,true⟩
theorem chead_css (hr:HRow H v cssL) (ht:Tab H):LC Tryz.prog EJ 50 [casev v] H=some (jv 1 [115,97,102,101] 0 false,H):=by
 refine LC_pure rfl Tryz.func50 rfl (Nat.le_of_ble_eq_true rfl) (by decide) (by kernel_rfl) rfl ?_
 have hc:=hrow_slice hr
 obtain⟨H1,hH1⟩: ∃H1,H1=(H.new ⟨casec v,43,true⟩).new ⟨[.int .i64 0,str [],.int .i64 0,.bool false],34,true⟩:=⟨_,rfl⟩
 have le1:H.le H1:=by rw [hH1];exact le_refl.new.new
 have n1:H1.n=H.n+1+1:=by rw [hH1];rfl
 have g1:H1.get H.n=some ⟨casec v,43,true⟩:=by rw [hH1,get_new_ne (by simp),get_new]
 have j1:H1.get (H.n+1)=some ⟨[.int .i64 0,str [],.int .i64 0,.bool false],34,true⟩:=by rw [hH1];exact get_new
 have e1:=ohead_css (H:=H1) (u:= []) (hr.keep le1.1 le1.2) (tab_bs ht (by rw [hH1];exact⟨by simp,by simp⟩))
 simp [hc,←hH1,g1,j1,e1]
 first|exact le1|exact le1.set (by omega)
theorem cHead_css (hr:HRow H v cssL) (ht:Tab H):LC Tryz.prog EJ 38 [casev v] H=some (jv 1 [115,97,102,101] 0 false,H):=by
 refine LC_pure rfl Tryz.func38 rfl (Nat.le_of_ble_eq_true rfl) (by decide) (by kernel_rfl) rfl ?_
 have hc:=hrow_slice hr
 obtain⟨H1,hH1⟩: ∃H1,H1=(H.new ⟨casec v,43,true⟩).new ⟨[.int .i64 0,str [],.int .i64 0,.bool false],34,true⟩:=⟨_,rfl⟩
 have le1:H.le H1:=by rw [hH1];exact le_refl.new.new
 have n1:H1.n=H.n+1+1:=by rw [hH1];rfl
 have g1:H1.get H.n=some ⟨casec v,43,true⟩:=by rw [hH1,get_new_ne (by simp),get_new]
 have j1:H1.get (H.n+1)=some ⟨[.int .i64 0,str [],.int .i64 0,.bool false],34,true⟩:=by rw [hH1];exact get_new
 have e1:=chead_css (H:=H1) (hr.keep le1.1 le1.2) (tab_bs ht (by rw [hH1];exact⟨by simp,by simp⟩))
 simp [hc,←hH1,g1,j1,e1]
 first|exact le1|exact le1.set (by omega)
theorem qlen_k {m o a:Int} {x:Value} (hq:H.get q=some (qb x a 0 m o)):LC Tryz.prog EJ 33 [ptr q 0] H=some (.int .i64 0,H):=by
 refine LC_pure rfl Tryz.func33 rfl (Nat.le_of_ble_eq_true rfl) (by decide) (by kernel_rfl) rfl ?_
 simp [hq]
theorem hlen_k {m:Int} (hh:H.get h=some (hb q 0 0 0)) (hq:H.get q=some (qb (.slice none 0 0) 0 0 m 0)):LC Tryz.prog EJ 23 [ptr h 0] H=some (.int .i64 0,H):=by
 refine LC_pure rfl Tryz.func23 rfl (Nat.le_of_ble_eq_true rfl) (by decide) (by kernel_rfl) rfl ?_
 have h1:=qlen_k hq
 simp [hh,h1]
theorem qfirst_k {m:Int} (hq:H.get q=some (qb (.slice none 0 0) 0 0 m 0)) (hl:q<H.n):LC Tryz.prog EJ 60 [ptr q 0,.int .i64 0] H=some (str [],H):=by
 refine LC_pure rfl Tryz.func60 rfl (Nat.le_of_ble_eq_true rfl) (by decide) (by kernel_rfl) rfl ?_
 have h1:(H.new ⟨[],5,true⟩).get q=some (qb (.slice none 0 0) 0 0 m 0):=by rw [get_new_ne (by omega)];exact hq
 have h2:lconv Tryz.prog 106 9 (.slice (some ⟨H.n,0,none⟩) 0 0) (H.new ⟨[],5,true⟩)=some (str []):=lconv_bs (z:= []) Tryz.underlying106 Tryz.underlying9 Tryz.underlying5 get_new (by simp) rfl
 simp [hq,h1]
 rw [runs_loop,runs_inLoop]
 simp [h2]
theorem qtake_k {m:Int} (hq:H.get q=some (qb (.slice none 0 0) 0 0 m 0)) (hl:q<H.n):LC Tryz.prog EJ 46 [ptr q 0,.int .i64 0] H=some (str [],H):=by
 refine LC_pure rfl Tryz.func46 rfl (Nat.le_of_ble_eq_true rfl) (by decide) (by kernel_rfl) rfl ?_
 have h1:=qfirst_k hq hl
 simp [h1]
theorem qdrain_k {m:Int} (hq:H.get q=some (qb (.slice none 0 0) 0 0 m 0)) (hl:q<H.n):LC Tryz.prog EJ 32 [ptr q 0] H=some (str [],H):=by
 refine LC_pure rfl Tryz.func32 rfl (Nat.le_of_ble_eq_true rfl) (by decide) (by kernel_rfl) rfl ?_
 have h1:=qtake_k hq hl
 have h2:=qlen_k hq
 simp [h1,h2]
theorem hpass_k {x:Int} (hh:H.get h=some (hb q x 0 0)) (hl:h<H.n):LC Tryz.prog EJ 43 [ptr h 0,str []] H=some (str [],H):=by
 refine LC_pure rfl Tryz.func43 rfl (Nat.le_of_ble_eq_true rfl) (by decide) (by kernel_rfl) rfl ?_
 have e:H.set h (hb q x 0 0)=H:=by
  unfold LH.set
  congr 1
  funext k
  by_cases hk:k=h
  ·subst hk;simp [hh]
  ·simp [hk]
 simp [hh,e]
theorem hopen_k {m:Int} (hh:H.get h=some (hb q 0 0 0)) (hq:H.get q=some (qb (.slice none 0 0) 0 0 m 0)) (hl:h<H.n) (hl2:q<H.n) (hne:q≠h):LC Tryz.prog EJ 29 [ptr h 0] H=some (str [],H.set h (hb q 1 0 0)):=by
 have h1:=qdrain_k (H:=H.set h (hb q 1 0 0)) (q:=q) (m:=m) (by rw [get_set_ne hne];exact hq) hl2
 have h2:=hpass_k (H:=H.set h (hb q 1 0 0)) (q:=q) (h:=h) (x:=1) get_set hl
 obtain⟨r,h3,e⟩:=LC_runs (P:=Tryz.prog) (E:=EJ) (f:=29) rfl Tryz.func29 rfl (Nat.le_of_ble_eq_true rfl) (by decide) (by kernel_rfl) (H:=H) (args:= [ptr h 0]) (Q:=fun r=>r=(str [],H.set h (hb q 1 0 0))) (by simp [hh,h1,h2])
 rw [h3,e,trunc_set hh hl]
theorem sjudge_k {m:Int} (hs:H.get q=some (stb0 v 0 h l 0 [] 0 false false 0 0)) (hq:q<H.n) (hh:H.get h=some (hb k 0 0 0)) (hk:H.get k=some (qb (.slice none 0 0) 0 0 m 0)) (hl:h<H.n) (hl2:k<H.n) (hr:HRow H v cssL) (ht:Tab H):
  LC Tryz.prog EJ 26 [ptr q 0,.bool false] H=some (jv 1 [115,97,102,101] 0 false,H):=by
 refine LC_pure rfl Tryz.func26 rfl (Nat.le_of_ble_eq_true rfl) (by decide) (by kernel_rfl) rfl ?_
 have hc:=hrow_slice hr
 obtain⟨H1,hH1⟩: ∃H1,H1=H.new ⟨[.int .i64 0,str [],.int .i64 0,.bool false],34,true⟩:=⟨_,rfl⟩
 have le1:H.le H1:=by rw [hH1];exact le_refl.new
 have n1:H1.n=H.n+1:=by rw [hH1];rfl
 have s1:=(le1.2 q hq).trans hs
 have h1:=(le1.2 h hl).trans hh
 have k1:=(le1.2 k hl2).trans hk
 have j1:H1.get H.n=some ⟨[.int .i64 0,str [],.int .i64 0,.bool false],34,true⟩:=by rw [hH1];exact get_new
 have e1:=hlen_k h1 k1
 have e2:=cHead_css (H:=H1) (hr.keep le1.1 le1.2) (tab_bs ht (by rw [hH1];exact⟨by simp,by simp⟩))
 simp [hc,←hH1,s1,e1,e2,j1]
 first|exact le1|exact le1.set (by omega)
theorem soutv_fill {st:Int} (hc:cellB v=true):lfill Tryz.prog 55 [.int .i64 0,.int .i64 0,.int .i64 0,.slice none 0 0,str [],str []] [(0,.int .i64 1),(2,.int .i64 st),(3,v)]=some [.int .i64 1,.int .i64 0,.int .i64 st,v,str [],str []]:=by
 rw [lfill_cell (o:=0) (n:=1) (g:=false) (by simp) rfl (by simp) (by simp),lfill_cell (o:=2) (n:=1) (g:=false) (by simp) rfl (by simp) (by simp),lfill_cell (o:=3) (n:=1) (g:=false) (by simp) rfl (by simp [hc]) (by simp)]
 simp
abbrev sout (st:Int) (v:Value):List Value:= [.int .i64 1,.int .i64 0,.int .i64 st,v,str [],str []]
theorem shead_ex {x n:Int} {r:List UInt8} {m is:Bool} {ca wo sg:Int} (hs:H.get q=some (stb0 v sg h l x r n m is ca wo)) (hq:q<H.n) (hv:HOwn N H v cssL): ∃v' H',LC Tryz.prog EJ 28 [ptr q 0] H=some (.agg ⟨sout 200 v'⟩,H')∧H.le H'∧cellB v'=true∧Bs H H':=by
 obtain⟨H1,hH1⟩: ∃H1,H1=H.new ⟨[.int .i64 0,.int .i64 0,.int .i64 0,.slice none 0 0,str [],str []],55,true⟩:=⟨_,rfl⟩
 have le1:H.le H1:=by rw [hH1];exact le_refl.new
 have n1:H1.n=H.n+1:=by rw [hH1];rfl
 have s1:=(le1.2 q hq).trans hs
 have o1:H1.get H.n=some ⟨[.int .i64 0,.int .i64 0,.int .i64 0,.slice none 0 0,str [],str []],55,true⟩:=by rw [hH1];exact get_new
 have hv1:HOwn N H1 v cssL:=RowN.keep hv le1.1 (fun k _ _ hk=>le1.2 k hk)
 have hc:=hrow_slice hv.row
 obtain⟨v2,H2,e2,le2,hv2,bs2⟩:=sown_ex (st:=200) hv1 (by decide)
 have hc2:=hrow_slice hv2.row
 have s2:=(le2.2 q (by omega)).trans s1
 have o2:=(le2.2 H.n (by omega)).trans o1
 have hle:=le1.trans le2
 have n2:=le2.1
 have key: ∃r,LC Tryz.prog EJ 28 [ptr q 0] H=some (Lg.trunc H r)∧r=(.agg ⟨sout 200 v2⟩,H2.set H.n ⟨sout 200 v2,55,true⟩):=by
  refine LC_runs (P:=Tryz.prog) (E:=EJ) (f:=28) rfl Tryz.func28 rfl (Nat.le_of_ble_eq_true rfl) (by decide) (by kernel_rfl) ?_
  simp [hc,←hH1,s1,e2,hc2,s2,o2,soutv_fill]
 obtain⟨r,e3,h3⟩:=key
 subst h3
 have bs3:Bs H (H2.set H.n ⟨sout 200 v2,55,true⟩):=(show Bs H H1 from by rw [hH1];exact⟨by simp,by simp⟩).trans (bs2.trans ⟨by simp,by simp⟩)
 rcases trunc_or (.agg ⟨sout 200 v2⟩) H (H2.set H.n ⟨sout 200 v2,55,true⟩)with e4|⟨e4,_,_⟩
 ·exact⟨v2,_,by rw [e3,e4],hle.set (Nat.le_refl _),hc2,bs3⟩
 ·exact⟨v2,H,by rw [e3,e4],le_refl,hc2,Bs.refl _⟩
theorem sbody0_k {x:Value} (hx:cellB x=true):LC Tryz.prog EJ 27 [x,str []] H=some (x,H):=by
 obtain⟨r,h1,e⟩:=LC_runs (P:=Tryz.prog) (E:=EJ) (f:=27) rfl Tryz.func27 rfl (Nat.le_of_ble_eq_true rfl) (by decide) (by kernel_rfl) (H:=H) (args:= [x,str []]) (Q:=fun r=>r=(x,H)) (by simp)
 rw [h1,e]
 unfold trunc
 split<;>rfl
theorem bs1o {a b c:Int} {v:Value} {u r:List UInt8} (hv:cellB v=true):lbuildSlice Tryz.prog 26 1 [(0,.agg ⟨[.int .i64 a,.int .i64 b,.int .i64 c,v,str u,str r]⟩)] H=some (sl H.n 1 1,H.new ⟨[.int .i64 a,.int .i64 b,.int .i64 c,v,str u,str r],55,true⟩):=by
 unfold lbuildSlice
 simp [Instr.fill,Value.cells,Array.range]
 rfl
theorem sbody1_k (u:List UInt8) (hu:u≠ []): ∃k c H',LC Tryz.prog EJ 27 [.slice none 0 0,str u] H=some (sl k 1 c,H')∧H.le H'∧H.n≤k∧H'.get k=some ⟨[.int .i64 2,.int .i64 0,.int .i64 0,.slice none 0 0,str u,str []],55,true⟩:=by
 have hz:=eq_false hu
 have hf:lfill Tryz.prog 55 [.int .i64 0,.int .i64 0,.int .i64 0,.slice none 0 0,str [],str []] [(0,.int .i64 2),(4,str u)]=some [.int .i64 2,.int .i64 0,.int .i64 0,.slice none 0 0,str u,str []]:=by
  rw [lfill_cell (o:=0) (n:=1) (g:=false) (by simp) rfl (by simp) (by simp),lfill_cell (o:=4) (n:=1) (g:=false) (by simp) rfl (by simp) (by simp)]
  simp
 have key: ∃r,LC Tryz.prog EJ 27 [.slice none 0 0,str u] H=some (Lg.trunc H r)∧ ∃k c H',r=(sl k 1 c,H')∧H.le H'∧H.n≤k∧H'.get k=some ⟨[.int .i64 2,.int .i64 0,.int .i64 0,.slice none 0 0,str u,str []],55,true⟩:=by
  refine LC_runs (P:=Tryz.prog) (E:=EJ) (f:=27) rfl Tryz.func27 rfl (Nat.le_of_ble_eq_true rfl) (by decide) (by kernel_rfl) ?_
  have hb:=bs1o (H:=H) (a:=2) (b:=0) (c:=0) (v:=.slice none 0 0) (u:=u) (r:= []) (by simp)
  have ha:=fun H:LH=>lapp_nil (P:=Tryz.prog) (t:=26) (e:=55) (s:=6) (m:=1) (new:= [.int .i64 2,.int .i64 0,.int .i64 0,.slice none 0 0,str u,str []]) (H:=H) Tryz.underlying26 (by kernel_rfl) (by simp) (by decide) (by decide)
  simp [hz,hf,hb,ha]
  exact⟨_,_,_,⟨⟨rfl,rfl⟩,rfl⟩,le_refl.new.new,by omega,get_new⟩
 obtain⟨r,e,k,c,H',rfl,h1,h2,h3⟩:=key
 exact⟨k,c,H',by rw [e,trunc_no (by simp [flatB,flat1B,atomB])],h1,h2,h3⟩
theorem ssettle_ex {m:Int} (hs:H.get q=some (stb0 v 0 h l 0 [] 0 false false 0 0)) (hq:q<H.n) (hh:H.get h=some (hb k 0 0 0)) (hk:H.get k=some (qb (.slice none 0 0) 0 0 m 0)) (hl:h<H.n) (hl2:k<H.n) (hqh:q≠h) (hqk:q≠k) (hkh:k≠h)
  (hv:HOwn N H v cssL) (hN1:q<N) (hN2:h<N) (ht:Tab H):
  ∃x y H',LC Tryz.prog EJ 17 [ptr q 0,.bool false] H=some (sl x 1 1,H')∧(q<x∧x<H'.n∧H.n≤H'.n∧ ∀k',k'<H.n→k'≠q→k'≠h→H'.get k'=H.get k')∧H'.get x=some ⟨sout 200 y,55,true⟩∧H'.get q=some (stb0 v 3 h l 1 [115,97,102,101] 0 false true 0 0):=by
 have hc:=hrow_slice hv.row
 have e1:=sjudge_k hs hq hh hk hl hl2 hv.row ht
 obtain⟨H1,hH1⟩: ∃H1,H1=H.new ⟨[.int .i64 1,str [115,97,102,101],.int .i64 0,.bool false],34,true⟩:=⟨_,rfl⟩
 have le1:H.le H1:=by rw [hH1];exact le_refl.new
 have n1:H1.n=H.n+1:=by rw [hH1];rfl
 have j1:H1.get H.n=some ⟨[.int .i64 1,str [115,97,102,101],.int .i64 0,.bool false],34,true⟩:=by rw [hH1];exact get_new
 have s1:=(le1.2 q hq).trans hs
 obtain⟨H3,hH3⟩: ∃H3,H3=H1.set q (stb0 v 3 h l 1 [115,97,102,101] 0 false true 0 0):=⟨_,rfl⟩
 have s3:H3.get q=some (stb0 v 3 h l 1 [115,97,102,101] 0 false true 0 0):=by rw [hH3,get_set]
 have n3:H3.n=H.n+1:=by rw [hH3];exact n1
 have hv3:HOwn N H3 v cssL:=RowN.keep hv (by omega) (fun x hx _ hxn=>by rw [hH3,get_set_ne (by omega)];exact le1.2 x hxn)
 obtain⟨v2,H4,e4,le4,hc4,bs4⟩:=shead_ex s3 (by omega) hv3
 have n4:=le4.1
 have s4:=(le4.2 q (by omega)).trans s3
 have h4:H4.get h=some (hb k 0 0 0):=(le4.2 h (by omega)).trans (by rw [hH3,get_set_ne hqh.symm];exact(le1.2 h hl).trans hh)
 have k4:H4.get k=some (qb (.slice none 0 0) 0 0 m 0):=(le4.2 k (by omega)).trans (by rw [hH3,get_set_ne hqk.symm];exact(le1.2 k hl2).trans hk)
 have e5:=hopen_k h4 k4 (by omega) (by omega) hkh
 obtain⟨H5,hH5⟩: ∃H5,H5=H4.set h (hb k 1 0 0):=⟨_,rfl⟩
 rw [←hH5]at e5
 have e6:=bs1o (H:=H5) (a:=1) (b:=0) (c:=200) (v:=v2) (u:= []) (r:= []) hc4
 have e7:=sbody0_k (H:=H5.new ⟨sout 200 v2,55,true⟩) (x:=sl H5.n 1 1) (by simp)
 have s5:H5.get q=some (stb0 v 3 h l 1 [115,97,102,101] 0 false true 0 0):=by rw [hH5,get_set_ne hqh];exact s4
 have n5:H5.n=H4.n:=by rw [hH5];rfl
 have s6:(H5.new ⟨[.int .i64 1,.int .i64 0,.int .i64 200,v2,str [],str []],55,true⟩).get q=_:=(get_new_ne (by omega)).trans s5
 have dq:(q=H.n)=False:=eq_false (by omega)
 have dq2:(H.n=q)=False:=eq_false (by omega)
 have key: ∃r,LC Tryz.prog EJ 17 [ptr q 0,.bool false] H=some (Lg.trunc H r)∧r=(sl H5.n 1 1,H5.new ⟨sout 200 v2,55,true⟩):=by
  refine LC_runs (P:=Tryz.prog) (E:=EJ) (f:=17) rfl Tryz.func17 rfl (Nat.le_of_ble_eq_true rfl) (by decide) (by kernel_rfl) ?_
  simp [hc,e1,←hH1,j1,s1,dq,dq2,splice,←hH3,s3,e4,hc4,s4,h4,e5,e6,e7,s6]
 obtain⟨r,e,rfl⟩:=key
 refine⟨H5.n,v2,_,by rw [e,trunc_no (by simp [flatB,flat1B,atomB])],⟨by omega,Nat.lt_succ_self _,by rw [n_new];omega,fun k' g1 g2 g3=>?_⟩,get_new,?_⟩
 ·rw [get_new_ne (by omega),hH5,get_set_ne g3,le4.2 k' (by omega),hH3,get_set_ne g2]
  exact le1.2 k' g1
 rw [get_new_ne (by omega)];exact s5
theorem sHead_ex {m:Int} (hs:H.get q=some (stb [] 0 (.slice none 0 0) 0 h l [.int .i64 0,str [],.int .i64 0,.bool false] false 0 0 false)) (hq:q<H.n) (hh:H.get h=some (hb k 0 0 0)) (hk:H.get k=some (qb (.slice none 0 0) 0 0 m 0)) (hl:h<H.n) (hl2:k<H.n) (hqh:q≠h) (hqk:q≠k) (hkh:k≠h)
  (hv:HOwn N H v cssL) (ht:Tab H): ∃x y z H',LC Tryz.prog EJ 4 [ptr q 0,repv 200 v,.bool false] H=some (.tuple #[sl x 1 1,.int .i64 0],H')∧(q<x∧x<H'.n∧H.n≤H'.n∧ ∀k',k'<H.n→k'≠q→k'≠h→H'.get k'=H.get k')∧H'.get x=some ⟨sout 200 y,55,true⟩∧H'.get q=some (stb0 z 3 h l 1 [115,97,102,101] 0 false true 0 0):=by
 have hs:H.get q=some ⟨[.bool false,.int .i64 1445,.int .i64 9,str [],.bool true,.bool true,.int .i64 0,.int .i64 0,.slice none 0 0,.bool false,.int .i64 0,ptr h 0,ptr l 0,.int .i64 0,str [],.int .i64 0,.bool false,.bool false,.int .i64 0,.int .i64 0,.bool false],50,true⟩:=hs
 have hc:=hrow_slice hv.row
 obtain⟨H1,hH1⟩: ∃H1,H1=H.new ⟨[.int .i64 200,v],24,true⟩:=⟨_,rfl⟩
 have le1:H.le H1:=by rw [hH1];exact le_refl.new
 have n1:H1.n=H.n+1:=by rw [hH1];rfl
 have r1:H1.get H.n=some ⟨[.int .i64 200,v],24,true⟩:=by rw [hH1];exact get_new
 have s1:=(le1.2 q hq).trans hs
 have hv1:HOwn N H1 v cssL:=RowN.keep hv le1.1 (fun k _ _ hk=>le1.2 k hk)
 obtain⟨v2,H2,e2,le2,hv2,bs2⟩:=sown_ex (st:=200) hv1 (by decide)
 have n2:=le2.1
 have hc2:=hrow_slice hv2.row
 have s2:=(le2.2 q (by omega)).trans s1
 obtain⟨H3,hH3⟩: ∃H3,H3=H2.set q (stb0 v2 0 h l 0 [] 0 false false 0 0):=⟨_,rfl⟩
 have s3:H3.get q=some (stb0 v2 0 h l 0 [] 0 false false 0 0):=by rw [hH3,get_set]
 have n3:H3.n=H2.n:=by rw [hH3];rfl
 have h3:H3.get h=some (hb k 0 0 0):=by rw [hH3,get_set_ne hqh.symm];exact(le2.2 h (by omega)).trans ((le1.2 h hl).trans hh)
 have k3:H3.get k=some (qb (.slice none 0 0) 0 0 m 0):=by rw [hH3,get_set_ne hqk.symm];exact(le2.2 k (by omega)).trans ((le1.2 k hl2).trans hk)
 have hv3:HOwn H1.n H3 v2 cssL:=RowN.keep hv2 (by omega) (fun x hx _ hxn=>by rw [hH3,get_set_ne (by omega)])
 have bs3:Bs H H3:=(show Bs H H1 from by rw [hH1];exact⟨by simp,by simp⟩).trans (bs2.trans (by rw [hH3];exact⟨by simp,by simp⟩))
 have same:H3.set q (stb0 v2 0 h l 0 [] 0 false false 0 0)=H3:=by rw [hH3,set_set]
 obtain⟨x,y,H4,e4,g0,g1,g2⟩:=ssettle_ex s3 (by omega) h3 k3 (by omega) (by omega) hqh hqk hkh hv3 (by omega) (by omega) (tab_bs ht bs3)
 have key: ∃r,LC Tryz.prog EJ 4 [ptr q 0,repv 200 v,.bool false] H=some (Lg.trunc H r)∧r=(.tuple #[sl x 1 1,.int .i64 0],H4):=by
  refine LC_runs (P:=Tryz.prog) (E:=EJ) (f:=4) rfl Tryz.func4 rfl (Nat.le_of_ble_eq_true rfl) (by decide) (by kernel_rfl) ?_
  simp [hc,←hH1,r1,s1,e2,hc2,s2,splice,←hH3,s3,same,e4]
 obtain⟨r,e,rfl⟩:=key
 refine⟨x,y,v2,H4,by rw [e,trunc_no (by simp [flatB,flat1B,atomB])],⟨g0.1,g0.2.1,by have:=g0.2.2.1;omega,fun k' f1 f2 f3=>?_⟩,g1,g2⟩
 rw [g0.2.2.2 k' (by omega) f2 f3,hH3,get_set_ne f2,le2.2 k' (by omega)]
 exact le1.2 k' f1
theorem sChunk_ex {z:Value} {j:List UInt8} (hs:H.get q=some (stb0 z 3 h l 1 j 0 false true 0 0)) (hq:q<H.n) (u:List UInt8) (hu:u≠ []) (hul:u.length≤100): ∃x c H',LC Tryz.prog EJ 6 [ptr q 0,str u] H=some (.tuple #[sl x 1 c,.int .i64 0],H')∧H'.get x=some ⟨[.int .i64 2,.int .i64 0,.int .i64 0,.slice none 0 0,str u,str []],55,true⟩∧H.n≤x∧H.n≤H'.n∧ ∀k,k<H.n→k≠q→H'.get k=H.get k:=by
 have e1:LC Tryz.prog EJ 19 [ptr q 0] H=some (.bool true,H):=by
  refine LC_pure rfl Tryz.func19 rfl (Nat.le_of_ble_eq_true rfl) (by decide) (by kernel_rfl) rfl ?_
  simp [hs]
 obtain⟨H1,hH1⟩: ∃H1,H1=H.set q (stb0 z 3 h l 1 j 0 false true u.length u.length):=⟨_,rfl⟩
 have s1:H1.get q=some (stb0 z 3 h l 1 j 0 false true u.length u.length):=by rw [hH1,get_set]
 have e2:LC Tryz.prog EJ 21 [ptr q 0] H1=some (.bool false,H1):=by
  refine LC_pure rfl Tryz.func21 rfl (Nat.le_of_ble_eq_true rfl) (by decide) (by kernel_rfl) rfl ?_
  simp [s1]
 obtain⟨x,c,H2,e3,le2,g1,g2⟩:=sbody1_k (H:=H1) u hu
 have hw:IntKind.i64.wrap (u.length:Int)=(u.length:Int):=wrap64_in (by omega) (by omega)
 have e4:LC Tryz.prog EJ 20 [ptr q 0,str u] H=some (sl x 1 c,H2):=by
  obtain⟨r,e,h3⟩:=LC_runs (P:=Tryz.prog) (E:=EJ) (f:=20) rfl Tryz.func20 rfl (Nat.le_of_ble_eq_true rfl) (by decide) (by kernel_rfl) (H:=H) (args:= [ptr q 0,str u]) (Q:=fun r=>r=(sl x 1 c,H2)) (by
   simp [hs,hw,←hH1,s1,e2,e3])
  rw [e,h3,trunc_no (by simp [flatB,flat1B,atomB])]
 have e5:LC Tryz.prog EJ 6 [ptr q 0,str u] H=some (.tuple #[sl x 1 c,.int .i64 0],H2):=by
  obtain⟨r,e,h3⟩:=LC_runs (P:=Tryz.prog) (E:=EJ) (f:=6) rfl Tryz.func6 rfl (Nat.le_of_ble_eq_true rfl) (by decide) (by kernel_rfl) (H:=H) (args:= [ptr q 0,str u]) (Q:=fun r=>r=(.tuple #[sl x 1 c,.int .i64 0],H2)) (by
   simp [hs,e1,e4])
  rw [e,h3,trunc_no (by simp [flatB,flat1B,atomB])]
 have n1:H1.n=H.n:=by rw [hH1];rfl
 refine⟨x,c,H2,e5,g2,by omega,by have:=le2.1;omega,fun k hk hne=>?_⟩
 rw [le2.2 k (by rw [hH1];exact hk),hH1,get_set_ne hne]
end
section
variable {H H':LH} {N:Nat} {s t u:List UInt8} {v w:Value} {l:List Tg.Hd.Hdr} {st:Int}
theorem lfill_rules:lfill Tryz.prog 39 [.bool false,.int .i64 0,.int .i64 0] [(1,.int .i64 1445),(2,.int .i64 9)]=some [.bool false,.int .i64 1445,.int .i64 9]:=by
 rw [lfill_cell (o:=1) (n:=1) (g:=false) (by simp) rfl (by simp) (by simp),lfill_cell (o:=2) (n:=1) (g:=false) (by simp) rfl (by simp) (by simp)]
 simp
theorem lfill_ask2:lfill Tryz.prog 41 [str [],.bool false,.bool false,.int .i64 0] [(1,.bool true),(2,.bool true)]=some [str [],.bool true,.bool true,.int .i64 0]:=by
 rw [lfill_cell (o:=1) (n:=1) (g:=false) (by simp) rfl (by simp) (by simp),lfill_cell (o:=2) (n:=1) (g:=false) (by simp) rfl (by simp) (by simp)]
 simp
theorem lfill_rep2 {x:Int} (hc:cellB v=true):lfill Tryz.prog 24 [.int .i64 0,.slice none 0 0] [(0,.int .i64 x),(1,v)]=some [.int .i64 x,v]:=by
 rw [lfill_cell (o:=0) (n:=1) (g:=false) (by simp) rfl (by simp) (by simp),lfill_cell (o:=1) (n:=1) (g:=false) (by simp) rfl (by simp [hc]) (by simp)]
 simp
theorem lives38_k (ht:Tab H):LC Tryz.prog EJ 15 [] H=some (.bool true,H):=by
 refine LC_pure rfl Tryz.func15 rfl (Nat.le_of_ble_eq_true rfl) (by decide) (by kernel_rfl) rfl ?_
 obtain⟨q,h,H1,e1,h1,le1,bs1,a1⟩:=streamnew_k (H:=H)
 obtain⟨l,hs⟩:=a1.s
 obtain⟨H2,hH2⟩: ∃H2,H2=H1.new ⟨[str [67,111,110,116,101,110,116,45,84,121,112,101],str [116,101,120,116,47,99,115,115]],59,true⟩:=⟨_,rfl⟩
 have le2:H1.le H2:=by rw [hH2];exact le_refl.new
 have n2:H2.n=H1.n+1:=by rw [hH2];rfl
 have hq:=a1.lt
 have hh:=a1.hq
 have hv:HOwn H1.n H2 (sl H1.n 1 1) cssL:=⟨rfl,.inr ⟨H1.n,1,[],rfl,Nat.le_refl _,by omega,by rw [hH2,get_new];rfl,Nat.le_refl _,rfl⟩⟩
 have bs2:Bs H1 H2:=by rw [hH2];exact⟨by simp,by simp⟩
 obtain⟨x,y,z,H3,e3,g0,g1,g2⟩:=sHead_ex (q:=q) (h:=h) (k:=h-1) (m:=1445) (l:=l) ((le2.2 q (by omega)).trans hs) (by omega) ((le2.2 h (by omega)).trans a1.hold) ((le2.2 (h-1) (by omega)).trans a1.queue) (by omega) (by omega) (by omega) (by omega) (by omega) hv (tab_bs ht (bs1.trans bs2))
 obtain⟨x2,c2,H4,e4,g3,g4,n4,g5⟩:=sChunk_ex g2 (by omega) [120] (by decide) (by decide)
 have g6:=(g5 x g0.2.1 (by have:=g0.1;omega)).trans g1
 have hb:=bs1h (H:=H1) (a:= [67,111,110,116,101,110,116,45,84,121,112,101]) (b:= [116,101,120,116,47,99,115,115])
 have hf:=lfill_rep2 (x:=200) (v:=sl H1.n 1 1) (by simp)
 simp [lfill_rules,lfill_ask2,e1,hb,←hH2,hf,e3,e4,g6,g3]
 have n3:=g0.2.2.1
 have n1:=le1.1
 refine⟨by omega,fun k hk=>?_⟩
 rw [g5 k (by omega) (by omega),g0.2.2.2 k (by omega) (by omega) (by omega),le2.2 k (by omega)]
 exact le1.2 k hk
abbrev nilp:Value:=.pointer none
theorem nHead_k {b:Bool} (hc:cellB v=true):LC Tryz.prog EJ 4 [nilp,repv st v,.bool b] H=some (.tuple #[.slice none 0 0,.int .i64 1],H):=by
 refine LC_pure rfl Tryz.func4 rfl (Nat.le_of_ble_eq_true rfl) (by decide) (by kernel_rfl) rfl ?_
 simp [hc]
theorem nChunk_k:LC Tryz.prog EJ 6 [nilp,str u] H=some (.tuple #[.slice none 0 0,.int .i64 1],H):=by
 refine LC_pure rfl Tryz.func6 rfl (Nat.le_of_ble_eq_true rfl) (by decide) (by kernel_rfl) rfl ?_
 simp
theorem nEnd_k:LC Tryz.prog EJ 7 [nilp] H=some (.tuple #[.slice none 0 0,.int .i64 1],H):=by
 refine LC_pure rfl Tryz.func7 rfl (Nat.le_of_ble_eq_true rfl) (by decide) (by kernel_rfl) rfl ?_
 simp
theorem nAbort_k:LC Tryz.prog EJ 8 [nilp] H=some (.tuple #[.slice none 0 0,.int .i64 1],H):=by
 refine LC_pure rfl Tryz.func8 rfl (Nat.le_of_ble_eq_true rfl) (by decide) (by kernel_rfl) rfl ?_
 simp
theorem nJudged_k:LC Tryz.prog EJ 9 [nilp] H=some (.tuple #[.agg #[.int .i64 0,str [],.int .i64 0,.bool false],.bool false],H):=by
 refine LC_pure rfl Tryz.func9 rfl (Nat.le_of_ble_eq_true rfl) (by decide) (by kernel_rfl) rfl ?_
 simp
theorem nStage_k:LC Tryz.prog EJ 10 [nilp] H=some (.int .i64 6,H):=by
 refine LC_pure rfl Tryz.func10 rfl (Nat.le_of_ble_eq_true rfl) (by decide) (by kernel_rfl) rfl ?_
 simp
theorem nHeld_k:LC Tryz.prog EJ 11 [nilp] H=some (.int .i64 0,H):=by
 refine LC_pure rfl Tryz.func11 rfl (Nat.le_of_ble_eq_true rfl) (by decide) (by kernel_rfl) rfl ?_
 simp
theorem nCame_k:LC Tryz.prog EJ 12 [nilp] H=some (.int .i64 0,H):=by
 refine LC_pure rfl Tryz.func12 rfl (Nat.le_of_ble_eq_true rfl) (by decide) (by kernel_rfl) rfl ?_
 simp
theorem nWork_k:LC Tryz.prog EJ 13 [nilp] H=some (.int .i64 0,H):=by
 refine LC_pure rfl Tryz.func13 rfl (Nat.le_of_ble_eq_true rfl) (by decide) (by kernel_rfl) rfl ?_
 simp
theorem nCase_k:LC Tryz.prog EJ 14 [nilp] H=some (.agg #[.bool false,.int .i64 0,.int .i64 0,str [],.bool false,.bool false,.int .i64 0,.int .i64 0,.slice none 0 0,.bool false],H):=by
 refine LC_pure rfl Tryz.func14 rfl (Nat.le_of_ble_eq_true rfl) (by decide) (by kernel_rfl) rfl ?_
 simp
theorem ask0_eq:lbin Tryz.prog .eql 41 (.agg ⟨[str [],.bool false,.bool false,.int .i64 0]⟩) (.agg ⟨[str [],.bool false,.bool false,.int .i64 0]⟩)=some (.bool true):=lbin_agg rfl rfl (by kernel_rfl) (by kernel_rfl)
theorem none38 (hr:HRow H v l) (hl:l.length≤9223372036854775807) (ht:Tab H): ∃H',LC Tryz.prog EJ 3 [repv st v,str s] H=some (.bool true,H'):=by
 refine⟨H,?_⟩
 refine LC_pure rfl Tryz.func3 rfl (Nat.le_of_ble_eq_true rfl) (by decide) (by kernel_rfl) rfl ?_
 have hc:=hrow_slice hr
 obtain⟨H1,hH1⟩: ∃H1,H1=H.new ⟨[.int .i64 st,v],24,true⟩:=⟨_,rfl⟩
 have le1:H.le H1:=by rw [hH1];exact le_refl.new
 have n1:H1.n=H.n+1:=by rw [hH1];rfl
 have b1:H1.get H.n=some ⟨[.int .i64 st,v],24,true⟩:=by rw [hH1];exact get_new
 obtain⟨v2,H2,e2,le2,hr2,bs2⟩:=few30_ex (st:=st) (hr.keep le1.1 le1.2) hl
 have hc2:=hrow_slice hr2.row
 have f1:=fun H:LH=>nHead_k (H:=H) (st:=st) (v:=v2) (b:=true) hc2
 have f2:=fun H:LH=>nChunk_k (H:=H) (u:=s)
 have f3:=fun H:LH=>nEnd_k (H:=H)
 have f4:=fun H:LH=>nAbort_k (H:=H)
 have f5:=fun H:LH=>nJudged_k (H:=H)
 have f6:=fun H:LH=>nStage_k (H:=H)
 have f7:=fun H:LH=>nHeld_k (H:=H)
 have f8:=fun H:LH=>nCame_k (H:=H)
 have f9:=fun H:LH=>nWork_k (H:=H)
 have f10:=fun H:LH=>nCase_k (H:=H)
 obtain⟨H3,hH3⟩: ∃H3,H3=H2.new ⟨[.int .i64 0,str [],.int .i64 0,.bool false],34,true⟩:=⟨_,rfl⟩
 have le3:H2.le H3:=by rw [hH3];exact le_refl.new
 have j3:H3.get H2.n=some ⟨[.int .i64 0,str [],.int .i64 0,.bool false],34,true⟩:=by rw [hH3];exact get_new
 have same:H3.set H2.n ⟨[.int .i64 0,str [],.int .i64 0,.bool false],34,true⟩=H3:=by
  unfold LH.set
  congr 1
  funext k
  by_cases hk:k=H2.n
  ·subst hk;simp [j3]
  ·simp [hk]
 have ht3:Tab H3:=tab_bs ht ((show Bs H H1 from by rw [hH1];exact⟨by simp,by simp⟩).trans (bs2.trans (by rw [hH3];exact⟨by simp,by simp⟩)))
 have f11:=lives38_k ht3
 have hle:=le1.trans (le2.trans le3)
 simp [hc,←hH1,b1,e2,f1,f2,f3,f4,f5,←hH3,j3,same,f6,f7,f8,f9,f10,f11,ask0_eq]
 exact hle
end
end Go.Proofs.YtcgiaiimbnoknaaGreatDoor.Sn
