/-
  Texts joined, part 6: HdText, HdSetC, MiVal, MiAll, MiEnds, ClRng, HdSetR, HdGet, HdGetR, ClCont, ClForm, JsLib, JsPure, JsMach, JsObj, JsStack, JsWord, JsByte, JsByteB, JsInWord, JsTell, JsNew, JsFeed, JnMach, JnObj, JnStack, JnByte, JnByteB, JnNumA, JnNumB, JnNumC, JnFeed, LxMach, JsLaws, LxFeed, LxWhole, LxOrb.
-/
import Derived.Test.YtbeoilidocfofaaGreatDoorM5
import Derived.Test.YtbeoilidocfofaaGreatDoorM4
import Derived.Test.YtbeoilidocfofaaGreatDoorM1
set_option linter.all false
set_option maxRecDepth 100000
namespace Go.Proofs.YtbeoilidocfofaaGreatDoor
open Go.Lg Go.Tg
section
variable {H:LH} {v w:Value} {l m:List Tg.Hd.Hdr} {N:Nat} {s:List UInt8}
theorem vX {k:Int} (h0:0<=k):LC Tryz.prog EJ 6 [str s,.int .i64 k] H=some (str (s.take k.toNat),H):=by
 refine ag rfl Tryz.func6 rfl (Nat.le_of_ble_eq_true rfl) (by decide) (by kernel_rfl) (by simp) ?_;by_cases hc:k<s.length
 ·have f:=eq_true hc;have f2:=eq_true (show k<=s.length by omega);have f3:=eq_true h0;simp [f,f2,f3]
 ·have f:=eq_false hc;have e:s.take k.toNat=s:=List.take_of_length_le (by omega);simp [f,e]
theorem Q':aG Tryz.prog 26 0 [] H=some (sl H.n 0 0,H.new ⟨[],58,true⟩):=by
 unfold aG;simp [Instr.fill,Value.cells];rfl
theorem OK {a b:List UInt8} :aG Tryz.prog 26 1 [(0,.agg #[str a,str b])] H=some (sl H.n 1 1,H.new ⟨[str a,str b],58,true⟩):=by
 unfold aG;simp [Instr.fill,Value.cells,Array.range];rfl
structure OutRow (H:LH) (v:Value) (H':LH) (l:List Tg.Hd.Hdr):Prop where
 row:gm H.n H' v l
 full:Full v
 le:H.n<=H'.n
 old: ∀k,k<H.n->H'.get k=H.get k
theorem OutRow.trunc {H':LH} (h:OutRow H v H' l): ∃H2,Lg.trunc H (v,H')=(v,H2)/\OutRow H v H2 l:=by
 rcases cm v H H' with e|⟨e,hf,_⟩
 ·exact⟨H',e,h⟩
 ·refine⟨H,e,⟨?_,h.full,Nat.le_refl _,fun _ _=>rfl⟩⟩;refine⟨h.row.1,?_⟩;rcases h.row.2 with h2|⟨k,c,rest,rfl,_⟩
  ·exact .inl h2
  ·simp [ao,az,aA]at hf
theorem KM (hr:bT H v l) (hl:l.length<=9223372036854775807) {c:Nat} (hc:c<=1000): ∃v' H',LC Tryz.prog EJ 19 [v,.int .i64 c] H=some (v',H')/\OutRow H v' H' (Tg.Hd.few l c):=by
 have key: ∃r,LC Tryz.prog EJ 19 [v,.int .i64 c] H=some (Lg.trunc H r)/\OutRow H r.1 r.2 (Tg.Hd.few l c):=by
  refine aD (P:=Tryz.prog) (E:=EJ) (f:=19) rfl Tryz.func19 rfl (Nat.le_of_ble_eq_true rfl) (by decide) (by kernel_rfl) ?_;simp [Q'];refine aK (fun(i:Nat) fr' H'=>fr' 0=v/\fr' 1=.int .i64 c/\fr' 6=.int .i64 i/\i<=l.length/\i<=c/\ ∃w,fr' 5=w/\OutRow H w H' ((l.take i).map fun h=>(h.1.take 30,h.2.take 100))) (fun i=>l.length-i) 0 ⟨by simp,by simp,by simp,Nat.zero_le _,Nat.zero_le _,sl H.n 0 0,by simp,⟨?_,jF,by simp,fun k hk=>aa (by omega)⟩⟩ ?_
  ·exact⟨by simp [Tg.Hd.cells],.inr ⟨H.n,0,[],by simp,Nat.le_refl _,by simp,by simp [Tg.Hd.cells],by simp,by simp [Tg.Hd.cells]⟩⟩
  rintro i fr' H' ⟨h0,h1,h6,hi,hic,w,h5,hrow,hfull,hn,hk⟩ ih;have hr':=hr.keep hn hk;by_cases hlt:i<l.length
  ·have q:=eq_true (show(i:Int)<(l.length:Int) by omega);by_cases hlc:i<c
   ·have qc:=eq_true (show(i:Int)<(c:Int) by omega);have hw1:IntKind.i64.wrap ((i:Int)+1)=((i+1:Nat):Int):=by rw [wrapI (by omega) (by omega)];omega
    obtain⟨k,o,g1,g2,g3⟩:=hr'.at hlt;obtain⟨_,g4,g5⟩:=g3 H' rfl;have hc1:=fun H:LH=>vX (H:=H) (s:=l[i].1) (k:=30) (by decide);have hc2:=fun H:LH=>vX (H:=H) (s:=l[i].2) (k:=100) (by decide);simp only [show((30:Int).toNat)=30 from rfl,show((100:Int).toNat)=100 from rfl]at hc1 hc2
    have hnew:(l.take (i+1)).map (fun h:Tg.Hd.Hdr=>((h.1.take 30,h.2.take 100):Tg.Hd.Hdr))=(l.take i).map (fun h:Tg.Hd.Hdr=>((h.1.take 30,h.2.take 100):Tg.Hd.Hdr))++ [(l[i].1.take 30,l[i].2.take 100)]:=by
     rw [List.take_succ_eq_append_getElem hlt,List.map_append];rfl
    obtain⟨v',H2,a1,a2,a3,a4,a5,a6⟩:=OJ hrow hn (by rw [List.length_map,List.length_take];omega) (l[i].1.take 30) (l[i].2.take 100);rw [<-hnew]at a2;have hfin:=fun fr2 (f0:fr2 0=v) (f1:fr2 1=.int .i64 c) (f6:fr2 6=.int .i64 ((i+1:Nat):Int)) (f5:fr2 5=v')=>ih (i+1) fr2 H2 (by omega) ⟨f0,f1,f6,by omega,by omega,v',f5,⟨a2,a5 hfull,by omega,fun k hk2=>by rw [a4 k (by omega) (hrow.off_lt hk2),hk k hk2]⟩⟩;clear ih;generalize l[i].1.take 30=x1 at*;generalize l[i].2.take 100=x2 at*;generalize l[i]=a at*;simp [h0,h1,h5,h6,q,qc,hlt,hlc,g1,g4,g5,hc1,hc2,OK,a1,hr.len];refine hfin _ ?_ ?_ ?_ ?_
    all_goals simp [h0,h1,hw1]
   ·have qc:=eq_false (show¬(i:Int)<(c:Int) by omega);have hic:i=c:=by omega
    subst hic;simp [h0,h1,h5,h6,q,hlt,hr.len];exact⟨hrow,hfull,hn,hk⟩
  ·have q:=eq_false (show¬(i:Int)<(l.length:Int) by omega);have e:l.take i=l.take c:=by rw [List.take_of_length_le (by omega),List.take_of_length_le (by omega)]
   rw [e]at hrow;simp [h0,h1,h5,h6,q,hr.len];exact⟨hrow,hfull,hn,hk⟩
 obtain⟨r,e,ho⟩:=key;obtain⟨H2,e2,ho2⟩:=ho.trunc;exact⟨r.1,H2,by rw [e,<-e2],ho2⟩
end
end Go.Proofs.YtbeoilidocfofaaGreatDoor
namespace Tg.Hd
def isP (name:List UInt8) (h:Hdr):Bool:=decide (Tg.Lo.lower h.1=Tg.Lo.lower name)
def goS (name val:List UInt8):List Hdr->Bool->List Hdr
 | [],_=> []
 |x::r,d=>if isP name x=false then x::goS name val r d else if d=true then goS name val r d else(x.1,val)::goS name val r true
def lD (name value:List UInt8) (l:List Hdr):List Hdr×Int:=
 if good l=true/\KK (name,trim value)=true then
  if l.any (isP name)=true then(goS name (trim value) l false,0)
  else if l.length=100 then([],3)else(l++ [(name,trim value)],0)
 else([],2)
end Tg.Hd
namespace Go.Proofs.YtbeoilidocfofaaGreatDoor
open Go.Lg Go.Tg
section
variable {H:LH} {v w:Value} {l m:List Tg.Hd.Hdr} {N:Nat} {s name value:List UInt8} {h:Tg.Hd.Hdr} {p:Nat}
theorem nw (hs:s.length<=9223372036854775806) {t:List UInt8} :LC Tryz.prog EJ 86 [str s,str t] H=some (.bool (decide (Tg.Lo.lower s=Tg.Lo.lower t)),H):=by
 refine ag rfl Tryz.func86 rfl (Nat.le_of_ble_eq_true rfl) (by decide) (by kernel_rfl) rfl ?_;have hh:=fun H:LH=>Fq (H:=H) (s:=s) (p:=t) hs;simp [hh]
theorem xU (hg:H.get p=some ⟨[str name],9,true⟩) (hp:p<H.n) (hs:h.1.length<=1048576):LC Tryz.prog EJ 224 [hv h,ptr p 0] H=some (.bool (Tg.Hd.isP name h),H):=by
 refine ag rfl Tryz.func224 rfl (Nat.le_of_ble_eq_true rfl) (by decide) (by kernel_rfl) (by simp) ?_;have hh:=fun H:LH=>nw (H:=H) (s:=h.1) (t:=name) (by omega);have hne:(p=H.n)=False:=eq_false (by omega);unfold Tg.Hd.isP;simp [hh,hg,hne,le_refl.new]
theorem Fx:LC Tryz.prog EJ 173 [str name] H=some (.func (.func 224) #[] #[ptr H.n 0],H.new ⟨[str name],9,true⟩):=by
 obtain⟨r,h,e⟩: ∃r,LC Tryz.prog EJ 173 [str name] H=some (Lg.trunc H r)/\r=(.func (.func 224) #[] #[ptr H.n 0],H.new ⟨[str name],9,true⟩):=by
  refine aD (P:=Tryz.prog) (E:=EJ) (f:=173) rfl Tryz.func173 rfl (Nat.le_of_ble_eq_true rfl) (by decide) (by kernel_rfl) ?_;simp
 rw [h,e,dH (by simp [ao,az,aA])]
theorem gm.weak {N':Nat} (h:gm N H v l) (hn:N'<=N):gm N' H v l:=by
 refine⟨h.1,?_⟩;rcases h.2 with h2|⟨k,c,rest,rfl,g1,g2,g3,g4,g5⟩
 ·exact .inl h2
 ·exact .inr ⟨k,c,rest,rfl,by omega,g2,g3,g4,g5⟩
end
end Go.Proofs.YtbeoilidocfofaaGreatDoor
namespace Tg.Mi
def xV (x:List UInt8):Nat:=until_ [59] x
def valP (x:List UInt8):List UInt8×Bool×Nat:=
 match x with
 |34::r=>((coll r).1,true,1+(coll r).2.2+xV (r.drop (coll r).2.2))
 |_=>(back white (x.take (xV x)),decide (back white (x.take (xV x))≠ []),xV x)
theorem coll_le: ∀x:List UInt8,(coll x).2.2<=x.length
 | []=>by simp [coll]
 |b::r=>by
  unfold coll;split
  ·simp
  ·split
   ·cases r with
    |nil=>simp
    |cons c r'=>
     have:=coll_le r';simp only [List.length_cons];omega
   ·have:=coll_le r;simp only [List.length_cons];omega
end Tg.Mi
namespace Go.Proofs.YtbeoilidocfofaaGreatDoor.Mi
open Go.Lg Go.Tg
section
variable {H H':LH} {N b l i:Nat} {s:List UInt8} {v:Value}
theorem OutC.set {j j':Nat} (h:OutC H l s j H') (hl:l<H.n):OutC H l s j' (H'.set l (cu s j')):=
 ⟨aw,h.n,fun k hk hne=>by rw [ah hne];exact h.old k hk hne⟩
theorem OL (hk:H.get l=some (cu s i)) (hl:l<H.n) (hi:i<s.length) (hs:s.length<=100000) (hq:s[i]=34) (hc:i+1+(Tg.Mi.coll (s.drop (i+1))).2.2<=s.length):
  ∃H',LC Tryz.prog EJ 283 [ptr l 0] H=some (.tuple #[str (Tg.Mi.coll (s.drop (i+1))).1,.bool true],H')/\OutC H l s (i+1+(Tg.Mi.coll (s.drop (i+1))).2.2+Tg.Mi.until_ [59] (s.drop (i+1+(Tg.Mi.coll (s.drop (i+1))).2.2))) H':=by
 have key: ∃r,LC Tryz.prog EJ 283 [ptr l 0] H=some (Lg.trunc H r)/\r.1=.tuple #[str (Tg.Mi.coll (s.drop (i+1))).1,.bool true]/\OutC H l s (i+1+(Tg.Mi.coll (s.drop (i+1))).2.2+Tg.Mi.until_ [59] (s.drop (i+1+(Tg.Mi.coll (s.drop (i+1))).2.2))) r.2:=by
  refine aD (P:=Tryz.prog) (E:=EJ) (f:=283) rfl Tryz.func283 rfl (Nat.le_of_ble_eq_true rfl) (by decide) (by kernel_rfl) ?_;have hp:=ie hk (by omega);rw [decide_eq_true hi,List.drop_eq_getElem_cons hi,hq]at hp;have hp:LC Tryz.prog EJ 176 [ptr l 0,.int .i64 0] H=some (.tuple #[.int .u8 34,.bool true],H):=hp;obtain⟨H1,e1,o1⟩:=uG (x:=true) hk hl hi hs hq;simp only [if_true]at e1;have hu:=dK (t:= [59]) o1.get (Nat.lt_of_lt_of_le hl o1.n) hc (by omega);simp [hp,e1,hu];exact o1.set hl
 obtain⟨⟨u,H1⟩,e,h1,h2⟩:=key;simp only at h1 h2;subst h1;obtain⟨H2,e2,o2⟩:=h2.trunc hl (u:=.tuple #[str (Tg.Mi.coll (s.drop (i+1))).1,.bool true]);exact⟨H2,by rw [e,e2],o2⟩
theorem OM (hk:H.get l=some (cu s i)) (hl:l<H.n) (hi:i<=s.length) (hs:s.length<=100000) (hq:(s.drop i).head?≠some 34):
  ∃H',LC Tryz.prog EJ 283 [ptr l 0] H=some (.tuple #[str (Tg.Mi.back Tg.Mi.white ((s.drop i).take (Tg.Mi.until_ [59] (s.drop i)))),.bool (decide (Tg.Mi.back Tg.Mi.white ((s.drop i).take (Tg.Mi.until_ [59] (s.drop i)))≠ []))],H')/\OutC H l s (i+Tg.Mi.until_ [59] (s.drop i)) H':=by
 have hp:=ie hk hi;have hu:=dK (t:= [59]) hk hl hi (by omega);have hm:=fun H:LH=>qo (H:=H) (s:=(s.drop i).take (Tg.Mi.until_ [59] (s.drop i))) (by rw [List.length_take,List.length_drop];omega);generalize (s.drop i).take (Tg.Mi.until_ [59] (s.drop i))=x at*;generalize Tg.Mi.until_ [59] (s.drop i)=u at*
 have key: ∃r,LC Tryz.prog EJ 283 [ptr l 0] H=some (Lg.trunc H r)/\r.1=.tuple #[str (Tg.Mi.back Tg.Mi.white x),.bool (decide (Tg.Mi.back Tg.Mi.white x≠ []))]/\OutC H l s (i+u) r.2:=by
  refine aD (P:=Tryz.prog) (E:=EJ) (f:=283) rfl Tryz.func283 rfl (Nat.le_of_ble_eq_true rfl) (by decide) (by kernel_rfl) ?_;have fin:OutC H l s (i+u) (H.set l (cu s (i+u))):=⟨aw,Nat.le_refl _,fun k _ hne=>ah hne⟩
  cases hd:s.drop i with
  |nil=>
   have hlt:decide (i<s.length)=false:=decide_eq_false (fun h=>by have:=List.length_drop (i:=i) (l:=s);rw [hd]at this;simp at this;omega);rw [hd,hlt]at hp;have hp:LC Tryz.prog EJ 176 [ptr l 0,.int .i64 0] H=some (.tuple #[.int .u8 0,.bool false],H):=hp;simp [hp,hu,hm];exact fin
  |cons b r=>
   rw [hd]at hp hq;have hb:b≠34:=fun e=>hq (by rw [e];rfl);have hb:=eq_false (show¬(b.toNat:Int)=34 from fun e=>hb (UInt8.toNat_inj.mp (by show b.toNat=34;omega)));have hlt:decide (i<s.length)=true:=decide_eq_true (by have:=List.length_drop (i:=i) (l:=s);rw [hd]at this;simp at this;omega);rw [hlt]at hp;have hp:LC Tryz.prog EJ 176 [ptr l 0,.int .i64 0] H=some (.tuple #[.int .u8 b.toNat,.bool true],H):=hp;simp [hp,hb,hu,hm];exact fin
 obtain⟨⟨r1,H1⟩,e,h1,h2⟩:=key;simp only at h1 h2;subst h1;obtain⟨H2,e2,o2⟩:=h2.trunc hl (u:=.tuple #[str (Tg.Mi.back Tg.Mi.white x),.bool (decide (Tg.Mi.back Tg.Mi.white x≠ []))]);exact⟨H2,by rw [e,e2],o2⟩
end
section
variable {H H':LH} {s:List UInt8}
theorem Fy {g:FuncId} {p:UInt8->Bool} (hg: ∀(H:LH) (b:UInt8),LC Tryz.prog EJ g [.int .u8 b.toNat] H=some (.bool (p b),H)) (hs:s.length<=1000000):LC Tryz.prog EJ 287 [str s,.func (.func g) #[] #[]] H=some (.int .i64 (s.countP p:Nat),H):=by
 refine ag rfl Tryz.func287 rfl (Nat.le_of_ble_eq_true rfl) (by decide) (by kernel_rfl) rfl ?_;have hfn:=iM (g:=g) (f:=#[]) (cp:=#[]) Tryz.underlying138;simp;refine aK (fun(j:Nat) fr' H'=>fr' 0=str s/\fr' 1=.func (.func g) #[] #[]/\fr' 5=.int .i64 ((s.take j).countP p:Nat)/\fr' 6=.int .i64 j/\j<=s.length/\H=H') (fun j=>s.length-j) 0 ⟨by simp,by simp,by simp,by simp,Nat.zero_le _,rfl⟩ ?_;rintro j fr' H' ⟨f0,f1,f5,f6,hj,rfl⟩ ih;by_cases hlt:j<s.length
 ·have q0:=eq_true (show(j:Int)<(s.length:Int) by omega);have hw1:IntKind.i64.wrap ((j:Int)+1)=((j+1:Nat):Int):=by rw [wrapI (by omega) (by omega)];omega
  have hat:at_ s (j:Int)=s[j]:=dw hlt;have hcl:(s.take j).countP p<=j:=Nat.le_trans List.countP_le_length (by rw [List.length_take];omega)
  have hc:(s.take (j+1)).countP p=(s.take j).countP p+if p s[j]=true then 1 else 0:=by
   rw [List.take_succ_eq_append_getElem hlt,List.countP_append];simp [List.countP_cons]
  have hfin:=fun fr2 (g0:fr2 0=str s) (g1:fr2 1=.func (.func g) #[] #[]) (g5:fr2 5=.int .i64 ((s.take (j+1)).countP p:Nat)) (g6:fr2 6=.int .i64 ((j+1:Nat):Int))=>ih (j+1) fr2 H (by omega) ⟨g0,g1,g5,g6,by omega,rfl⟩;rw [hc]at hfin;have hgc:=fun H=>hg H s[j];clear ih hc;generalize (s.take j).countP p=m at*;generalize s[j]=c at*;have hw2:IntKind.i64.wrap ((m:Int)+1)=((m+1:Nat):Int):=by rw [wrapI (by omega) (by omega)];omega
  cases hb:p c with
  |true=>
   rw [hb]at hgc hfin;simp only [if_true]at hfin;simp [f0,f1,f5,f6,q0,hat,hfn,hgc];refine hfin _ ?_ ?_ ?_ ?_
   all_goals simp [f0,f1,f5,hw1,hw2]
  |false=>
   rw [hb]at hgc hfin;simp only [Bool.false_eq_true,if_false,Nat.add_zero]at hfin;simp [f0,f1,f5,f6,q0,hat,hfn,hgc];refine hfin _ ?_ ?_ ?_ ?_
   all_goals simp [f0,f1,f5,hw1]
 ·have q0:=eq_false (show¬(j:Int)<(s.length:Int) by omega);rw [List.take_of_length_le (by omega)]at f5;simp [f0,f1,f5,f6,q0,hfn]
theorem HZ {g:FuncId} {p:UInt8->Bool} (hg: ∀(H:LH) (b:UInt8),LC Tryz.prog EJ g [.int .u8 b.toNat] H=some (.bool (p b),H)) (hs:s.length<=1000000):LC Tryz.prog EJ 257 [str s,.func (.func g) #[] #[]] H=some (.bool (s.all p),H):=by
 refine ag rfl Tryz.func257 rfl (Nat.le_of_ble_eq_true rfl) (by decide) (by kernel_rfl) rfl ?_;have h1:=fun H:LH=>Fy (H:=H) (s:=s) hg hs
 have h2:s.all p=decide (((s.countP p:Nat):Int)=(s.length:Int)):=by
  rw [Bool.eq_iff_iff,decide_eq_true_eq,List.all_eq_true];have:=List.countP_eq_length (p:=p) (l:=s);constructor
  ·intro h;have:=this.2 h;omega
  ·intro h;exact this.1 (by omega)
 rw [h2];simp [h1]
end
end Go.Proofs.YtbeoilidocfofaaGreatDoor.Mi
namespace Tg.Mi
def tab (b:UInt8):Bool:=decide ((b.toNat:Int)=9)||decide ((b.toNat:Int)=32)
theorem back_pre (f:UInt8->Bool): ∀s:List UInt8,back f s=s.take (back f s).length
 | []=>by simp [back]
 |b::r=>by
  have ih:=back_pre f r;unfold back;split
  ·simp
  ·rw [List.length_cons,List.take_succ_cons,<-ih]
theorem back_le (f:UInt8->Bool) (s:List UInt8):(back f s).length<=s.length:=by
 have:=congrArg List.length (back_pre f s);rw [List.length_take]at this;omega
end Tg.Mi
namespace Go.Proofs.YtbeoilidocfofaaGreatDoor.Mi
open Go.Lg Go.Tg
section
variable {H H':LH} {s:List UInt8}
theorem H9 {b:UInt8} :LC Tryz.prog EJ 184 [.int .u8 b.toNat] H=some (.bool (Tg.Mi.tab b),H):=by
 have h1: ∀H:LH,LC Tryz.prog EJ 233 [.int .u8 b.toNat] H=some (.bool (Tg.Mi.tab b),H):=fun H=>by
  refine ag rfl Tryz.func233 rfl (Nat.le_of_ble_eq_true rfl) (by decide) (by kernel_rfl) rfl ?_;unfold Tg.Mi.tab;by_cases a1:(b.toNat:Int)=9
  ·simp [a1]
  ·have a1:=eq_false a1;simp [a1]
 refine ag rfl Tryz.func184 rfl (Nat.le_of_ble_eq_true rfl) (by decide) (by kernel_rfl) rfl ?_;simp [h1]
theorem BL {b:UInt8} :LC Tryz.prog EJ 233 [.int .u8 b.toNat] H=some (.bool (Tg.Mi.tab b),H):=by
 refine ag rfl Tryz.func233 rfl (Nat.le_of_ble_eq_true rfl) (by decide) (by kernel_rfl) rfl ?_;unfold Tg.Mi.tab;by_cases a1:(b.toNat:Int)=9
 ·simp [a1]
 ·have a1:=eq_false a1;simp [a1]
theorem ON {g:FuncId} {p:UInt8->Bool} (hg: ∀(H:LH) (b:UInt8),LC Tryz.prog EJ g [.int .u8 b.toNat] H=some (.bool (p b),H)) (hs:s.length<=1000000):LC Tryz.prog EJ 261 [str s,.func (.func g) #[] #[]] H=some (.int .i64 ((Tg.Mi.back p s).length:Nat),H):=by
 refine ag rfl Tryz.func261 rfl (Nat.le_of_ble_eq_true rfl) (by decide) (by kernel_rfl) rfl ?_;simp;obtain⟨R,hR⟩: ∃R,R=Tg.Mi.back p s:=⟨_,rfl⟩
 rw [<-hR];refine aK (fun(k:Nat) fr' H'=> ∃j:Nat,fr' 0=str s/\fr' 1=.func (.func g) #[] #[]/\fr' 5=.int .i64 j/\j+k=s.length/\Tg.Mi.back p (s.take j)=R/\H=H') (fun k=>s.length-k) 0 ⟨s.length,by simp,by simp,by simp,by omega,by rw [List.take_length];exact hR.symm,rfl⟩ ?_;rintro k fr' H' ⟨j,f0,f1,f5,hj,hq,rfl⟩ ih;rcases Nat.eq_zero_or_pos j with h0|h0
 ·subst h0;simp [Tg.Mi.back]at hq;subst hq;simp [f0,f1,f5]
 ·obtain⟨m,rfl⟩: ∃m,j=m+1:=⟨j-1,by omega⟩
  have hlt:m<s.length:=by omega
  have q0:=eq_true (show(0:Int)<(m:Int)+1 by omega);have hw2:IntKind.i64.wrap (m:Int)=(m:Int):=wrapI (by omega) (by omega);have hat:at_ s (m:Int)=s[m]:=dw hlt;have ql:=eq_true (show(m:Int)<(s.length:Int) by omega);rw [List.take_succ_eq_append_getElem hlt,Tg.Mi.back_snoc]at hq;have hwh:=fun H:LH=>hg H s[m];cases hb:p s[m]with
  |true=>
   rw [hb]at hq hwh;simp only [if_true]at hq;simp [f0,f1,f5,q0,hw2,hat,ql,hwh];refine ih (k+1) _ _ (by omega) ⟨m,?_,?_,?_,by omega,hq,rfl⟩
   all_goals simp [f0,f1,hw2]
  |false=>
   rw [hb]at hq hwh;simp only [Bool.false_eq_true,if_false]at hq;have hl:R.length=m+1:=by rw [<-hq,List.length_append,List.length_take];simp;omega
   have hl2:((m:Int)+1=(R.length:Int))=True:=eq_true (by omega);simp [f0,f1,f5,q0,hw2,hat,ql,hwh,hl]
theorem KN (hs:s.length<=1000000):LC Tryz.prog EJ 228 [str s] H=some (str (Tg.Mi.back Tg.Mi.tab s),H):=by
 refine ag rfl Tryz.func228 rfl (Nat.le_of_ble_eq_true rfl) (by decide) (by kernel_rfl) rfl ?_;have h1:=fun H:LH=>ON (H:=H) (s:=s) (g:=233) (p:=Tg.Mi.tab) (fun H b=>BL) hs;have hle:=Tg.Mi.back_le Tg.Mi.tab s;have hp:=Tg.Mi.back_pre Tg.Mi.tab s;have q:=eq_true (show(((Tg.Mi.back Tg.Mi.tab s).length:Nat):Int)<=(s.length:Int) by omega);generalize Tg.Mi.back Tg.Mi.tab s=y at*;simp [h1,q,<-hp]
theorem BM (hs:s.length<=1000000):LC Tryz.prog EJ 178 [str s] H=some (str ((Tg.Mi.back Tg.Mi.tab s).drop (Tg.Mi.while_ Tg.Mi.tab (Tg.Mi.back Tg.Mi.tab s))),H):=by
 refine ag rfl Tryz.func178 rfl (Nat.le_of_ble_eq_true rfl) (by decide) (by kernel_rfl) rfl ?_;have h1:=fun H:LH=>KN (H:=H) (s:=s) hs;have hle:=Tg.Mi.back_le Tg.Mi.tab s;generalize Tg.Mi.back Tg.Mi.tab s=y at*;have h2:=nn (H:=H) (s:=y);have h3:=fO (H:=H.new (cu y 0)) (s:=y) (l:=H.n) (i:=0) (g:=184) (p:=Tg.Mi.tab) (fun H b=>H9) ak (by rw [aL];omega) (Nat.zero_le _) (by omega);rw [List.drop_zero,Nat.zero_add]at h3;have hw:=Tg.Mi.while_le Tg.Mi.tab y;have h4:=uF (H:=(H.new (cu y 0)).set H.n (cu y (Tg.Mi.while_ Tg.Mi.tab y))) (l:=H.n) aw (by rw [cG,aL];omega) hw (by omega);generalize Tg.Mi.while_ Tg.Mi.tab y=u at*;obtain⟨G1,hG1⟩: ∃G1,G1=H.new (cu y 0):=⟨_,rfl⟩
 rw [<-hG1]at h2 h3 h4;obtain⟨G2,hG2⟩: ∃G2,G2=G1.set H.n (cu y u):=⟨_,rfl⟩
 rw [<-hG2]at h3 h4;simp [h1,h2,h3,h4];rw [hG2,hG1];exact⟨by simp,fun k hk=>by simp [show k≠H.n by omega]⟩
end
end Go.Proofs.YtbeoilidocfofaaGreatDoor.Mi
namespace Tg.Cl
open Tg.Mi (while_ tab)
def wBytes:List UInt8:= [98,121,116,101,115]
def blk (s:List UInt8) (i:Nat):Nat:=i+while_ tab (s.drop i)
def unP (s:List UInt8) (i:Nat):Option Nat:=if Tg.Lo.lower ((s.drop i).take (while_ Tg.Un.letter (s.drop i)))=Tg.Lo.lower wBytes then some (i+while_ Tg.Un.letter (s.drop i))else none
def sgP (s x:List UInt8) (i:Nat):Option Nat:=if Go.Lib.hasPrefix (s.drop i) x=true then some (i+x.length)else none
def dgt:List UInt8->Bool
 | []=>false
 |b::_=>Tg.Ur.isD b
def szP (s:List UInt8) (i:Nat):Option (List UInt8×Nat):=
 if Go.Lib.hasPrefix (s.drop i) [42]=true then some ([],i+1)
 else if dgt (s.drop i)=true then some ((s.drop i).take (while_ Tg.Ur.isD (s.drop i)),i+while_ Tg.Ur.isD (s.drop i))else none
theorem blk_le {s:List UInt8} {i:Nat} (h:i<=s.length):blk s i<=s.length:=by
 have:=Tg.Mi.while_le tab (s.drop i);rw [List.length_drop]at this;unfold blk;omega
theorem pre_lenP {a b:List UInt8} (h:Go.Lib.hasPrefix a b=true):b.length<=a.length:=by
 rw [Tg.Un.pre_eq,Tg.Un.pre_take]at h;have:=congrArg List.length (of_decide_eq_true h);rw [List.length_take]at this;omega
theorem unP_le {s:List UInt8} {i j:Nat} (h:i<=s.length) (e:unP s i=some j):j<=s.length:=by
 unfold unP at e;split at e
 ·injection e with e;have:=Tg.Mi.while_le Tg.Un.letter (s.drop i);rw [List.length_drop]at this;omega
 ·cases e
theorem sgP_le {s x:List UInt8} {i j:Nat} (h:i<=s.length) (e:sgP s x i=some j):j<=s.length:=by
 unfold sgP at e;split at e
 ·rename_i hp;injection e with e;have:=pre_lenP hp;rw [List.length_drop]at this;omega
 ·cases e
theorem szP_le {s:List UInt8} {i:Nat} {x:List UInt8×Nat} (h:i<=s.length) (e:szP s i=some x):x.2<=s.length:=by
 unfold szP at e;split at e
 ·rename_i hp;injection e with e;subst e;have:=pre_lenP hp;rw [List.length_drop]at this;simp at this⊢;omega
 ·split at e
  ·injection e with e;subst e;have:=Tg.Mi.while_le Tg.Ur.isD (s.drop i);rw [List.length_drop]at this;show i+_<=_;omega
  ·cases e
end Tg.Cl
namespace Go.Proofs.YtbeoilidocfofaaGreatDoor.Mi
open Go.Lg Go.Tg
section
variable {H H':LH} {s t:List UInt8} {l i j n p b:Nat}
abbrev oQ (l:Nat):Value:=.agg #[ptr l 0]
structure Cur (H H':LH) (l:Nat) (s:List UInt8) (j:Nat):Prop where
 n:H.n<=H'.n
 at_:H'.get l=some (cu s j)
 old: ∀k,k<H.n->k≠l->H'.get k=H.get k
theorem Cur.trans {H2:LH} (h:Cur H H' l s i) (g:Cur H' H2 l s j):Cur H H2 l s j:=⟨Nat.le_trans h.n g.n,g.at_,fun k hk hne=>(g.old k (Nat.lt_of_lt_of_le hk h.n) hne).trans (h.old k hk hne)⟩
def RE (f:FuncId) (args:List Value) (H:LH) (l:Nat) (s:List UInt8) (x:Option (Value×Nat)):Prop:=match x with
 |some (v,j)=> ∃H',R Tryz.prog cC (.call f args H (.ret v) H')/\Cur H H' l s j
 |none=> ∃(a c:Int) (j:Nat) (H':LH),c=2/\R Tryz.prog cC (.call f args H (.pan (.agg #[.int .i64 a,.int .i64 c])) H')/\Cur H H' l s j
theorem lS (hk:H.get l=some (cu s i)) (hl:l<H.n):LC Tryz.prog EJ 127 [oQ l,.bool true] H=some (.tuple #[],H):=by
 refine ag rfl Tryz.func127 rfl (Nat.le_of_ble_eq_true rfl) (by decide) (by kernel_rfl) rfl ?_;have h1:=np (H:=H.new ⟨[ptr l 0],149,true⟩) (l:=l) (s:=s) (i:=i) (by rw [aa (by omega)];exact hk);have h2:=fun H:LH=>qg (H:=H) (x:=i) (y:=2);simp [h1,h2]
theorem gM (hk:H.get l=some (cu s i)) (hl:l<H.n):R Tryz.prog cC (.call 127 [oQ l,.bool true] H (.ret (.tuple #[])) H):=by
 have h1:=np (H:=H.new ⟨[ptr l 0],149,true⟩) (l:=l) (s:=s) (i:=i) (by rw [aa (by omega)];exact hk);have hC:=fN (H:=H.new ⟨[ptr l 0],149,true⟩) (x:=i) (y:=2);refine bz Tryz.func127 rfl (Nat.le_of_ble_eq_true rfl) (by decide) (by kernel_rfl) rfl ?_;simp [h1];refine ai (g:=145) (first:=#[]) (caps:=#[]) (H1:=H.new ⟨[ptr l 0],149,true⟩) rfl rfl rfl (by simp) (by simpa using hC) rfl ?_;simp
theorem dy (hk:H.get l=some (cu s i)) (hl:l<H.n):R Tryz.prog cC (.call 127 [oQ l,.bool false] H (.pan (.agg #[.int .i64 i,.int .i64 2])) H):=by
 have h1:=np (H:=H.new ⟨[ptr l 0],149,true⟩) (l:=l) (s:=s) (i:=i) (by rw [aa (by omega)];exact hk);have hC:=ib (H:=H.new ⟨[ptr l 0],149,true⟩) (x:=i) (y:=2) (by decide);refine bz Tryz.func127 rfl (Nat.le_of_ble_eq_true rfl) (by decide) (by kernel_rfl) rfl ?_;simp [h1];refine au (g:=145) (first:=#[]) (caps:=#[]) (H1:=H.new ⟨[ptr l 0],149,true⟩) rfl rfl rfl (by simp) (by simpa using hC) ?_;simp
theorem ij (hk:H.get l=some (cu s i)) (hl:l<H.n) (bx:LB):(H.new bx).get l=some (cu s i)/\l<(H.new bx).n/\(∀j,Cur H ((H.new bx).set l (cu s j)) l s j):=by
 refine⟨by rw [aa (by omega)];exact hk,by rw [aL];omega,fun j=>⟨Nat.le_succ _,aw,fun k h1 h2=>by rw [ah h2,aa (by omega)]⟩⟩
theorem ik (hk:H.get l=some (cu s i)) (hl:l<H.n) (hi:i<=s.length) (hs:s.length<=1000000): ∃H',LC Tryz.prog EJ 125 [oQ l] H=some (str ((s.drop i).take (Tg.Mi.while_ Tg.Mi.tab (s.drop i))),H')/\Cur H H' l s (Tg.Cl.blk s i):=by
 obtain⟨k1,l1,c1⟩:=ij hk hl ⟨[ptr l 0],149,true⟩;have h1:=fO (g:=184) (p:=Tg.Mi.tab) (fun H b=>H9) k1 l1 hi hs;unfold Tg.Cl.blk;generalize (s.drop i).take (Tg.Mi.while_ Tg.Mi.tab (s.drop i))=w at*;generalize i+Tg.Mi.while_ Tg.Mi.tab (s.drop i)=j at*;obtain⟨r,h,e⟩:=aD (P:=Tryz.prog) (E:=EJ) (f:=125) rfl Tryz.func125 rfl (Nat.le_of_ble_eq_true rfl) (by decide) (by kernel_rfl) (H:=H) (args:= [oQ l]) (Q:=fun r=>r=(str w,(H.new ⟨[ptr l 0],149,true⟩).set l (cu s j))) (by simp [h1]);subst e;rcases cm (str w) H ((H.new ⟨[ptr l 0],149,true⟩).set l (cu s j))with e|⟨e,_,hle⟩
 ·exact⟨_,by rw [h,e],c1 j⟩
 ·exact⟨_,by rw [h,e],⟨Nat.le_refl _,by rw [<-hle.2 l hl];exact aw,fun _ _ _=>rfl⟩⟩
theorem Fz (hk:H.get l=some (cu s i)) (hl:l<H.n) (hi:i<=s.length) (hs:s.length<=1000000):RE 126 [oQ l] H l s ((Tg.Cl.unP s i).map fun j=>(.tuple #[],j)):=by
 obtain⟨k1,l1,c1⟩:=ij hk hl ⟨[ptr l 0],149,true⟩;have h1:=fO (g:=185) (p:=Tg.Un.letter) (fun H b=>oK) k1 l1 hi hs;have h2:=fun H:LH=>nw (H:=H) (s:=(s.drop i).take (Tg.Mi.while_ Tg.Un.letter (s.drop i))) (t:=Tg.Cl.wBytes) (by rw [List.length_take,List.length_drop];omega);have h2: ∀H:LH,LC Tryz.prog EJ 86 [str ((s.drop i).take (Tg.Mi.while_ Tg.Un.letter (s.drop i))),str [98,121,116,101,115]] H=_:=h2;have b1:(H.new ⟨[ptr l 0],149,true⟩).get H.n=some ⟨[ptr l 0],149,true⟩:=ak;unfold Tg.Cl.unP;generalize (s.drop i).take (Tg.Mi.while_ Tg.Un.letter (s.drop i))=w at*;generalize i+Tg.Mi.while_ Tg.Un.letter (s.drop i)=j at*;have q1:((H.new ⟨[ptr l 0],149,true⟩).set l (cu s j)).get H.n=some ⟨[ptr l 0],149,true⟩:=by rw [ah (by omega)];exact b1
 have cj:=c1 j;obtain⟨H1,hH1⟩: ∃H1,H1=H.new ⟨[ptr l 0],149,true⟩:=⟨_,rfl⟩
 rw [<-hH1]at h1 b1 k1 l1 q1 cj;by_cases hu:Tg.Lo.lower w=Tg.Lo.lower Tg.Cl.wBytes
 ·rw [if_pos hu];rw [decide_eq_true hu]at h2;have h3:=lS (H:=H1.set l (cu s j)) (l:=l) (s:=s) (i:=j) aw l1
  obtain⟨r,H',e,g1,g2⟩:=eD (P:=Tryz.prog) (E:=cC) (H:=H) (args:= [oQ l]) (Q:=fun r H'=>r=.ret (.tuple #[])/\H'=H1.set l (cu s j)) Tryz.func126 rfl (Nat.le_of_ble_eq_true rfl) (by decide) (by kernel_rfl) (by
   simp [<-hH1];refine jD ?_;simp [h1,h2,h3,b1,k1,q1])
  subst g1 g2;exact⟨_,e,cj⟩
 ·rw [if_neg hu];rw [decide_eq_false hu]at h2;have h3:=dy (H:=H1.set l (cu s j)) (l:=l) (s:=s) (i:=j) aw l1
  obtain⟨r,H',e,g1,g2⟩:=eD (P:=Tryz.prog) (E:=cC) (H:=H) (args:= [oQ l]) (Q:=fun r H'=>r=.pan (.agg #[.int .i64 j,.int .i64 2])/\H'=H1.set l (cu s j)) Tryz.func126 rfl (Nat.le_of_ble_eq_true rfl) (by decide) (by kernel_rfl) (by
   simp [<-hH1];refine oI [(0,3),(0,4)] (by kernel_rfl) (by kernel_rfl) ?_;simp [h1,h2,b1,k1,q1];refine au (g:=127) (first:=#[]) (caps:=#[]) (H1:=H1.set l (cu s j)) rfl rfl rfl (by simp) (by simpa using h3) ?_;simp)
  subst g1 g2;exact⟨_,_,j,_,by decide,e,cj⟩
theorem qw (hk:H.get l=some (cu s i)) (hl:l<H.n) (hi:i<=s.length) (hs:s.length<=1000000) (ht:t.length<=100):RE 130 [oQ l,str t] H l s ((Tg.Cl.sgP s t i).map fun j=>(.tuple #[],j)):=by
 obtain⟨k1,l1,c1⟩:=ij hk hl ⟨[ptr l 0],149,true⟩;have b1:(H.new ⟨[ptr l 0],149,true⟩).get H.n=some ⟨[ptr l 0],149,true⟩:=ak;obtain⟨H1,hH1⟩: ∃H1,H1=H.new ⟨[ptr l 0],149,true⟩:=⟨_,rfl⟩
 rw [<-hH1]at b1 k1 l1 c1;have h1:=fq (t:=t) k1 l1 hi hs ht;unfold Tg.Cl.sgP;cases hp:Lib.hasPrefix (s.drop i) t with
 |true=>
  rw [hp]at h1;simp only [if_true]at h1⊢;generalize i+t.length=j at*;have h3:=lS (H:=H1.set l (cu s j)) (l:=l) (s:=s) (i:=j) aw l1;have q1:(H1.set l (cu s j)).get H.n=some ⟨[ptr l 0],149,true⟩:=by rw [ah (by omega)];exact b1
  obtain⟨r,H',e,g1,g2⟩:=eD (P:=Tryz.prog) (E:=cC) (H:=H) (args:= [oQ l,str t]) (Q:=fun r H'=>r=.ret (.tuple #[])/\H'=H1.set l (cu s j)) Tryz.func130 rfl (Nat.le_of_ble_eq_true rfl) (by decide) (by kernel_rfl) (by
   simp [<-hH1];refine jD ?_;simp [h1,h3,b1,k1,q1])
  subst g1 g2;exact⟨_,e,c1 j⟩
 |false=>
  rw [hp]at h1;simp only [Bool.false_eq_true,if_false]at h1⊢;have h3:=dy (H:=H1) (l:=l) (s:=s) (i:=i) k1 l1
  obtain⟨r,H',e,g1,g2⟩:=eD (P:=Tryz.prog) (E:=cC) (H:=H) (args:= [oQ l,str t]) (Q:=fun r H'=>r=.pan (.agg #[.int .i64 i,.int .i64 2])/\H'=H1) Tryz.func130 rfl (Nat.le_of_ble_eq_true rfl) (by decide) (by kernel_rfl) (by
   simp [<-hH1];refine oI [(0,4)] (by kernel_rfl) (by kernel_rfl) ?_;simp [h1,b1,k1];refine au (g:=127) (first:=#[]) (caps:=#[]) (H1:=H1) rfl rfl rfl (by simp) (by simpa using h3) ?_;simp)
  subst g1 g2;exact⟨_,_,i,_,by decide,e,⟨by rw [hH1];exact Nat.le_succ _,k1,fun k h1 h2=>by rw [hH1,aa (by omega)]⟩⟩
theorem BN (hk:H.get l=some (cu s i)) (hl:l<H.n) (hi:i<=s.length):RE 131 [oQ l] H l s (if i=s.length then some (.tuple #[],i)else none):=by
 obtain⟨k1,l1,c1⟩:=ij hk hl ⟨[ptr l 0],149,true⟩;have b1:(H.new ⟨[ptr l 0],149,true⟩).get H.n=some ⟨[ptr l 0],149,true⟩:=ak;obtain⟨H1,hH1⟩: ∃H1,H1=H.new ⟨[ptr l 0],149,true⟩:=⟨_,rfl⟩
 rw [<-hH1]at b1 k1 l1 c1;have h1:=Bx k1 hi;have cc:Cur H H1 l s i:=⟨by rw [hH1];exact Nat.le_succ _,k1,fun k h1 h2=>by rw [hH1,aa (by omega)]⟩
 have hd:(s.drop i= [])↔i=s.length:=by
  rw [List.drop_eq_nil_iff];omega
 by_cases he:i=s.length
 ·rw [if_pos he];rw [decide_eq_true (hd.2 he)]at h1;have h3:=gM (H:=H1) (l:=l) (s:=s) (i:=i) k1 l1
  obtain⟨r,H',e,g1,g2⟩:=eD (P:=Tryz.prog) (E:=cC) (H:=H) (args:= [oQ l]) (Q:=fun r H'=>r=.ret (.tuple #[])/\H'=H1) Tryz.func131 rfl (Nat.le_of_ble_eq_true rfl) (by decide) (by kernel_rfl) (by
   simp [<-hH1];refine ia [(0,3)] (by kernel_rfl) (by kernel_rfl) ?_;simp [h1,b1,k1];refine ai (g:=127) (first:=#[]) (caps:=#[]) (H1:=H1) rfl rfl rfl (by simp) (by simpa using h3) rfl ?_;simp)
  subst g1 g2;exact⟨_,e,cc⟩
 ·rw [if_neg he];rw [decide_eq_false (fun h=>he (hd.1 h))]at h1;have h3:=dy (H:=H1) (l:=l) (s:=s) (i:=i) k1 l1
  obtain⟨r,H',e,g1,g2⟩:=eD (P:=Tryz.prog) (E:=cC) (H:=H) (args:= [oQ l]) (Q:=fun r H'=>r=.pan (.agg #[.int .i64 i,.int .i64 2])/\H'=H1) Tryz.func131 rfl (Nat.le_of_ble_eq_true rfl) (by decide) (by kernel_rfl) (by
   simp [<-hH1];refine ia [(0,3)] (by kernel_rfl) (by kernel_rfl) ?_;simp [h1,b1,k1];refine au (g:=127) (first:=#[]) (caps:=#[]) (H1:=H1) rfl rfl rfl (by simp) (by simpa using h3) ?_;simp)
  subst g1 g2;exact⟨_,_,i,_,by decide,e,cc⟩
theorem lT (hk:H.get l=some (cu s i)) (hl:l<H.n) (hi:i<=s.length) (hs:s.length<=1000000):RE 129 [oQ l] H l s ((Tg.Cl.szP s i).map fun x=>(str x.1,x.2)):=by
 obtain⟨k1,l1,c1⟩:=ij hk hl ⟨[ptr l 0],149,true⟩;have b1:(H.new ⟨[ptr l 0],149,true⟩).get H.n=some ⟨[ptr l 0],149,true⟩:=ak;obtain⟨H1,hH1⟩: ∃H1,H1=H.new ⟨[ptr l 0],149,true⟩:=⟨_,rfl⟩
 rw [<-hH1]at b1 k1 l1 c1;have h1:=fq (t:= [42]) k1 l1 hi hs (by decide);have cc:Cur H H1 l s i:=⟨by rw [hH1];exact Nat.le_succ _,k1,fun k h1 h2=>by rw [hH1,aa (by omega)]⟩
 unfold Tg.Cl.szP;cases hp:Lib.hasPrefix (s.drop i) [42]with
 |true=>
  rw [hp]at h1;simp only [if_true,List.length_cons,List.length_nil]at h1⊢;have h1:LC Tryz.prog EJ 128 [ptr l 0,str [42]] H1=some (.bool true,H1.set l (cu s (i+1))):=h1;generalize i+1=j at*
  obtain⟨r,H',e,g1,g2⟩:=eD (P:=Tryz.prog) (E:=cC) (H:=H) (args:= [oQ l]) (Q:=fun r H'=>r=.ret (str [])/\H'=H1.set l (cu s j)) Tryz.func129 rfl (Nat.le_of_ble_eq_true rfl) (by decide) (by kernel_rfl) (by
   simp [<-hH1,b1,h1])
  subst g1 g2;exact⟨_,e,c1 j⟩
 |false=>
  rw [hp]at h1;simp only [Bool.false_eq_true,if_false]at h1⊢;have h2:=ie k1 hi;have h4:=fO (g:=187) (p:=Tg.Ur.isD) (fun H b=>nr) k1 l1 hi hs;generalize (s.drop i).take (Tg.Mi.while_ Tg.Ur.isD (s.drop i))=w at*;generalize i+Tg.Mi.while_ Tg.Ur.isD (s.drop i)=j at*;have h3:=lS (H:=H1) (l:=l) (s:=s) (i:=i) k1 l1;have h3b:=dy (H:=H1) (l:=l) (s:=s) (i:=i) k1 l1;cases hd:s.drop i with
  |nil=>
   have hlt:decide (i<s.length)=false:=by
    rw [decide_eq_false_iff_not];have:=congrArg List.length hd;rw [List.length_drop]at this;simp at this;omega
   rw [hd,hlt]at h2;simp only [Tg.Cl.dgt,Bool.false_eq_true,if_false]
   obtain⟨r,H',e,g1,g2⟩:=eD (P:=Tryz.prog) (E:=cC) (H:=H) (args:= [oQ l]) (Q:=fun r H'=>r=.pan (.agg #[.int .i64 i,.int .i64 2])/\H'=H1) Tryz.func129 rfl (Nat.le_of_ble_eq_true rfl) (by decide) (by kernel_rfl) (by
    simp [<-hH1,b1,h1,h2];refine oJ [(0,4)] (by kernel_rfl) (by kernel_rfl) ?_;simp [b1];refine au (g:=127) (first:=#[]) (caps:=#[]) (H1:=H1) rfl rfl rfl (by simp) (by simpa using h3b) ?_;simp)
   subst g1 g2;exact⟨_,_,i,_,by decide,e,cc⟩
  |cons b r0=>
   have hlt:decide (i<s.length)=true:=by
    rw [decide_eq_true_iff];have:=congrArg List.length hd;rw [List.length_drop]at this;simp at this;omega
   rw [hd,hlt]at h2;have h2:LC Tryz.prog EJ 176 [ptr l 0,.int .i64 0] H1=some (.tuple #[.int .u8 (b.toNat:Int),.bool true],H1):=h2;have h5:=fun H:LH=>nr (H:=H) (b:=b);show RE _ _ _ _ _ (Option.map _ (if Tg.Ur.isD b=true then some (w,j)else none));cases hb:Tg.Ur.isD b with
   |true=>
    rw [hb]at h5;simp only [if_true,Option.map_some]
    obtain⟨r,H',e,g1,g2⟩:=eD (P:=Tryz.prog) (E:=cC) (H:=H) (args:= [oQ l]) (Q:=fun r H'=>r=.ret (str w)/\H'=H1.set l (cu s j)) Tryz.func129 rfl (Nat.le_of_ble_eq_true rfl) (by decide) (by kernel_rfl) (by
     simp [<-hH1,b1,h1,h2];refine jD ?_;simp [b1,h5,h3,h4])
    subst g1 g2;exact⟨_,e,c1 j⟩
   |false=>
    rw [hb]at h5;simp only [Bool.false_eq_true,if_false,Option.map_none]
    obtain⟨r,H',e,g1,g2⟩:=eD (P:=Tryz.prog) (E:=cC) (H:=H) (args:= [oQ l]) (Q:=fun r H'=>r=.pan (.agg #[.int .i64 i,.int .i64 2])/\H'=H1) Tryz.func129 rfl (Nat.le_of_ble_eq_true rfl) (by decide) (by kernel_rfl) (by
     simp [<-hH1,b1,h1,h2];refine oJ [(0,4)] (by kernel_rfl) (by kernel_rfl) ?_;simp [b1,h5];refine au (g:=127) (first:=#[]) (caps:=#[]) (H1:=H1) rfl rfl rfl (by simp) (by simpa using h3b) ?_;simp)
    subst g1 g2;exact⟨_,_,i,_,by decide,e,cc⟩
end
end Go.Proofs.YtbeoilidocfofaaGreatDoor.Mi
namespace Tg.Hd
end Tg.Hd
namespace Go.Proofs.YtbeoilidocfofaaGreatDoor
open Go.Lg Go.Tg
section
variable {H:LH} {b:UInt8} {s p:List UInt8}
end
section
variable {H:LH} {v w:Value} {l m:List Tg.Hd.Hdr} {N:Nat} {s name value:List UInt8} {h:Tg.Hd.Hdr} {p:Nat}
end
end Go.Proofs.YtbeoilidocfofaaGreatDoor
namespace Tg.Hd
def getP (name:List UInt8) (l:List Hdr):List (List UInt8):=(l.filter (isP name)).map fun h=>h.2
theorem getP_take {name:List UInt8} {l:List Hdr} {i:Nat} (h:i<l.length):getP name (l.take (i+1))=getP name (l.take i)++(if isP name l[i]=true then [l[i].2]else []):=by
 rw [List.take_succ_eq_append_getElem h];unfold getP;rw [List.filter_append,List.map_append];congr 1;cases hx:isP name l[i]<;>simp [hx]
theorem getP_len (name:List UInt8) (l:List Hdr):(getP name l).length<=l.length:=by
 unfold getP;rw [List.length_map];exact List.length_filter_le _ _
def joinC (l:List (List UInt8)):List UInt8:=Go.Lib.join l [44,32]
end Tg.Hd
namespace Go.Proofs.YtbeoilidocfofaaGreatDoor
open Go.Lg Go.Tg
abbrev gn (N:Nat) (H:LH) (v:Value) (xs:List (List UInt8)):Prop:=bA N H 9 1 v xs.length (xs.map str)
section
variable {H H':LH} {v w:Value} {l m:List Tg.Hd.Hdr} {N:Nat} {s name value:List UInt8} {h:Tg.Hd.Hdr} {p:Nat} {xs ys:List (List UInt8)}
structure OutS (H:LH) (v:Value) (H':LH) (xs:List (List UInt8)):Prop where
 row:gn H.n H' v xs
 le:H.n<=H'.n
 old: ∀k,k<H.n->H'.get k=H.get k
theorem OutS.trunc (h:OutS H v H' xs): ∃H2,Lg.trunc H (v,H')=(v,H2)/\OutS H v H2 xs:=by
 rcases cm v H H' with e|⟨e,hf,_⟩
 ·exact⟨H',e,h⟩
 ·refine⟨H,e,⟨?_,Nat.le_refl _,fun _ _=>rfl⟩⟩;refine⟨h.row.1,?_⟩;rcases h.row.2 with h2|⟨k,c,rest,rfl,_⟩
  ·exact .inl h2
  ·simp [ao,az,aA]at hf
theorem gn.at (h:gn N H v xs) {i:Nat} (hi:i<xs.length): ∃k o,(∀H':LH,iu Tryz.prog 116 v (.int .i64 i) H'=some (ptr k o,H'))/\k<H.n/\ ∀H':LH,H'.get k=H.get k->gI Tryz.prog 9 (ptr k o) H'=some (str xs[i]):=by
 rcases h.2 with⟨rfl,h0⟩|⟨k,c,rest,rfl,g1,g2,g3,g4,g5⟩
 ·omega
 ·refine⟨k,0+i*1,fun H'=>?_,g2,fun H' e=>?_⟩
  ·have q:=eq_true (show(i:Int)<(xs.length:Int) by omega);simp [q]
  ·rw [g3]at e
   have e2:(xs.map str++rest)[0+i*1]?=some (str xs[i]):=by
    rw [show 0+i*1=i by omega,List.getElem?_append_left (by simpa using hi),List.getElem?_map,List.getElem?_eq_getElem hi];rfl
   rw [fk e];simp;simpa using e2
theorem gn.len (h:gn N H v xs):aI Tryz.prog .len [116] [v] H'=some (.int .i64 xs.length,H'):=bA.len h Tryz.underlying116
theorem bA.weak {P:Program} {N':Nat} {e:TypeId} {s n:Nat} {zs:List Value} (h:bA N H e s v n zs) (hn:N'<=N):bA N' H e s v n zs:=by
 refine⟨h.1,?_⟩;rcases h.2 with h2|⟨k,c,rest,rfl,g1,g2,g3,g4,g5⟩
 ·exact .inl h2
 ·exact .inr ⟨k,c,rest,rfl,by omega,g2,g3,g4,g5⟩
theorem vY (hr:bT H v l) (hl:l.length<=90000) (hs: ∀h∈l,h.1.length<=1048576): ∃v' H',LC Tryz.prog EJ 115 [str name,v] H=some (v',H')/\OutS H v' H' (Tg.Hd.getP name l):=by
 have key: ∃r,LC Tryz.prog EJ 115 [str name,v] H=some (Lg.trunc H r)/\OutS H r.1 r.2 (Tg.Hd.getP name l):=by
  refine aD (P:=Tryz.prog) (E:=EJ) (f:=115) rfl Tryz.func115 rfl (Nat.le_of_ble_eq_true rfl) (by decide) (by kernel_rfl) ?_;simp [Fx,hr.len];refine aK (fun(i:Nat) fr' H'=>fr' 6=.func (.func 224) #[] #[ptr H.n 0]/\fr' 11=v/\fr' 12=.int .i64 l.length/\fr' 13=.int .i64 i/\i<=l.length/\ ∃w,fr' 5=w/\gn (H.n+1) H' w (Tg.Hd.getP name (l.take i))/\H.n+1<=H'.n/\H'.get H.n=some ⟨[str name],9,true⟩/\ ∀k,k<H.n->H'.get k=H.get k) (fun i=>l.length-i) 0 ⟨by simp,by simp,by simp,by simp,Nat.zero_le _,.slice none 0 0,by simp,⟨by simp [Tg.Hd.getP],.inl ⟨rfl,rfl⟩⟩,by simp,by simp,fun k hk=>aa (by omega)⟩ ?_;rintro i fr' H' ⟨f6,f11,f12,f13,hi,w,f5,ho,hn2,hb0,hold⟩ ih;have hr':=hr.keep (by omega) hold;by_cases hlt:i<l.length
  ·have q:=eq_true (show(i:Int)<(l.length:Int) by omega);have hw1:IntKind.i64.wrap ((i:Int)+1)=((i+1:Nat):Int):=by rw [wrapI (by omega) (by omega)];omega
   obtain⟨k,o,g1,g2,g3⟩:=hr'.at hlt;obtain⟨g4,_,_⟩:=g3 H' rfl;have hm:=hs l[i] (List.getElem_mem hlt);have hgl:=Tg.Hd.getP_len name (l.take i);rw [List.length_take]at hgl;have hnew:=Tg.Hd.getP_take (name:=name) hlt;have ihx:=fun fr2 H2=>ih (i+1) fr2 H2 (by omega);clear ih;generalize Tg.Hd.getP name (l.take (i+1))=c' at*;generalize Tg.Hd.getP name (l.take i)=c at*;generalize l[i]=x at*;have hnm:=xU (H:=H'.new (hb x)) (p:=H.n) (name:=name) (h:=x) (by rw [aa (by omega)];exact hb0) (by rw [aL];omega) hm;have ho1:gn (H.n+1) (H'.new (hb x)) w c:=ho.keep (Nat.le_succ _) (fun j hj _ hjn=>aa (by omega));have hnw: ∀k,k<H.n+1->(H'.new (hb x)).get k=H'.get k:=fun k hk=>aa (by omega);cases hx:Tg.Hd.isP name x with
   |true=>
    rw [hx]at hnm hnew;rw [if_pos rfl]at hnew;obtain⟨v',H2,a1,a2,a3,a4⟩:=Fs (x:=x.2) ho1 (by rw [aL];omega) (by omega);rw [<-hnew]at a2;have hg2: ∀k,k<H.n+1->H2.get k=H'.get k:=fun k hk=>by rw [a4 k hk,hnw k hk]
    simp [f6,f11,f12,f13,f5,q,hlt,g1,g4,hnm,a1];refine ihx _ _ ⟨?_,?_,?_,?_,by omega,v',?_,a2,a3,by rw [hg2 _ (by omega)];exact hb0,fun k hk=>by rw [hg2 k (by omega)];exact hold k hk⟩
    all_goals simp [f6,f11,f12,hw1]
   |false=>
    rw [hx]at hnm hnew;rw [if_neg (by decide),List.append_nil]at hnew;subst hnew;simp [f6,f11,f12,f13,f5,q,hlt,g1,g4,hnm];refine ihx _ _ ⟨?_,?_,?_,?_,by omega,w,?_,ho1,by rw [aL];omega,by rw [hnw _ (by omega)];exact hb0,fun k hk=>by rw [hnw k (by omega)];exact hold k hk⟩
    all_goals simp [f6,f11,f12,f5,hw1]
  ·have q:=eq_false (show¬(i:Int)<(l.length:Int) by omega);rw [List.take_of_length_le (by omega)]at ho;simp [f12,f13,f5,q];exact⟨bA.weak (P:=Tryz.prog) ho (by omega),by omega,hold⟩
 obtain⟨r,e,ho⟩:=key;obtain⟨H2,e2,ho2⟩:=ho.trunc;exact⟨r.1,H2,by rw [e,<-e2],ho2⟩
theorem uI (hr:bT H v l) (hl:l.length<=90000) (hs: ∀h∈l,h.1.length<=1048576): ∃v' H',LC Tryz.prog EJ 84 [str name,v] H=some (v',H')/\OutS H v' H' (Tg.Hd.getP name l):=by
 obtain⟨v',H',e,ho⟩:=vY (name:=name) hr hl hs
 have key: ∃r,LC Tryz.prog EJ 84 [str name,v] H=some (Lg.trunc H r)/\OutS H r.1 r.2 (Tg.Hd.getP name l):=by
  refine aD (P:=Tryz.prog) (E:=EJ) (f:=84) rfl Tryz.func84 rfl (Nat.le_of_ble_eq_true rfl) (by decide) (by kernel_rfl) ?_;simp [e];exact ho
 obtain⟨r,e,ho⟩:=key;obtain⟨H2,e2,ho2⟩:=ho.trunc;exact⟨r.1,H2,by rw [e,<-e2],ho2⟩
theorem BO (h:gn N H v xs) (hne:xs≠ []) (hn:xs.length<=1000000) (hl:(Tg.Hd.joinC xs).length<=9000000):LC Tryz.prog EJ 174 [v] H=some (str (Tg.Hd.joinC xs),H):=by
 have hj:LC Tryz.prog EJ 259 [v,str [44,32]] H=some (str (Tg.Hd.joinC xs),H):=by
  rcases h.2 with⟨rfl,h0⟩|⟨k,c,rest,rfl,g1,g2,g3,g4,g5⟩
  ·exact absurd (List.eq_nil_of_length_eq_zero h0) hne
  ·exact AX (n:=xs.length) g3 (by intro e;exact hne (List.eq_nil_of_length_eq_zero e)) g4 (by omega) rfl (by rw [List.drop_zero,List.take_left' (by simp)]) (by unfold Tg.Hd.joinC at hl;omega)
 have hj2:LC Tryz.prog EJ 225 [v] H=some (str (Tg.Hd.joinC xs),H):=by
  refine ag rfl Tryz.func225 rfl (Nat.le_of_ble_eq_true rfl) (by decide) (by kernel_rfl) (by simp) ?_;simp [hj]
 refine ag rfl Tryz.func174 rfl (Nat.le_of_ble_eq_true rfl) (by decide) (by kernel_rfl) (by simp) ?_;simp [hj2]
theorem FA (hr:bT H v l) (hl:l.length<=90000) (hs: ∀h∈l,h.1.length<=1048576) (hjl:(Tg.Hd.joinC (Tg.Hd.getP name l)).length<=9000000):
  LC Tryz.prog EJ 116 [str name,v] H=some (.tuple #[str (Tg.Hd.joinC (Tg.Hd.getP name l)),.bool (decide (Tg.Hd.getP name l≠ []))],H):=by
 obtain⟨v',H',e,ho⟩:=vY (name:=name) hr hl hs;have hgl:=Tg.Hd.getP_len name l;refine ag rfl Tryz.func116 rfl (Nat.le_of_ble_eq_true rfl) (by decide) (by kernel_rfl) rfl ?_;generalize Tg.Hd.getP name l=xs at*;have hlen:=fun H2:LH=>ho.row.len (H':=H2);by_cases hx:xs= []
 ·subst hx;simp at hlen;simp [e,hlen,Tg.Hd.joinC,Lib.join];exact⟨ho.le,ho.old⟩
 ·have hc:=BO ho.row hx (by omega) hjl;have q:=eq_false (show¬(xs.length:Int)=0 by intro e;exact hx (List.eq_nil_of_length_eq_zero (by omega)));simp [e,hlen,hx,hc];exact⟨ho.le,ho.old⟩
end
end Go.Proofs.YtbeoilidocfofaaGreatDoor
namespace Tg.Hd
theorem uJ {xs:List (List UInt8)} {i:Nat} (h:i<xs.length):joinC (xs.take (i+1))=if i=0 then xs[i]else joinC (xs.take i)++([44,32]++xs[i]):=by
 rw [List.take_succ_eq_append_getElem h];by_cases hi:i=0
 ·subst hi;rw [if_pos rfl];simp [joinC,Go.Lib.join_cons,Go.Lib.joinTail]
 ·rw [if_neg hi];cases xs with
  |nil=>simp at h
  |cons a r=>
   obtain⟨j,rfl⟩: ∃j,i=j+1:=⟨i-1,by omega⟩
   rw [List.take_succ_cons,List.cons_append];unfold joinC;rw [Go.Lib.join_cons,Go.Lib.join_cons];unfold Go.Lib.joinTail;rw [List.map_append,List.flatten_append];simp
theorem joinC_len {m:Nat} {xs:List (List UInt8)} (h: ∀x∈xs,x.length<=m): ∀i,i<=xs.length->(joinC (xs.take i)).length<=i*(m+2)
 |0,_=>by simp [joinC,Go.Lib.join]
 |i+1,hi=>by
  have ih:=joinC_len h i (by omega);have hx:=h xs[i] (List.getElem_mem (by omega));rw [uJ (by omega),Nat.add_mul];split
  ·omega
  ·simp;omega
end Tg.Hd
namespace Go.Proofs.YtbeoilidocfofaaGreatDoor
open Go.Lg Go.Tg
section
variable {H H':LH} {v w:Value} {N M:Nat} {xs ys:List (List UInt8)}
end
end Go.Proofs.YtbeoilidocfofaaGreatDoor
namespace Tg.Cl
theorem szP_len {s:List UInt8} {i:Nat} {x:List UInt8×Nat} (e:szP s i=some x):x.1.length<=s.length:=by
 unfold szP at e;split at e
 ·injection e with e;subst e;simp
 ·split at e
  ·injection e with e;subst e;show(List.take _ _).length<=_;rw [List.length_take,List.length_drop];omega
  ·cases e
def partP (s:List UInt8) (i2:Nat):Option (List UInt8×List UInt8×Nat):=
 if Go.Lib.hasPrefix (s.drop i2) [42]=true then some ([],[],i2+1)
 else(szP s i2).bind fun x=>if x.1= []then none else(sgP s [45] x.2).bind fun j=>(szP s j).bind fun y=>if y.1= []then none else some (x.1,y.1,y.2)
def contP (s:List UInt8):Option (List UInt8×List UInt8×List UInt8):=
 (unP s (blk s 0)).bind fun i1=>if blk s i1=i1 then none else
  (partP s (blk s i1)).bind fun x=>(sgP s [47] x.2.2).bind fun i4=>(szP s i4).bind fun y=>
   if y.1= []/\Go.Lib.hasPrefix (s.drop (blk s i1)) [42]=true then none else if blk s y.2=s.length then some (x.1,x.2.1,y.1)else none
def decE (x:List UInt8):Int:=if x= []\/x.all Tg.Nu.isD=false then 2 else if 9007199254740991<Tg.Nu.dv 0 x then 9 else 0
def decN (x:List UInt8):Int:=if x= []\/x.all Tg.Nu.isD=false then 0 else if 9007199254740991<Tg.Nu.dv 0 x then 0 else(Tg.Nu.dv 0 x:Nat)
def saidN (x:List UInt8):Int:=if x= []then -1 else if decE x≠0 then 0 else decN x
def saidE (x:List UInt8) (e:Int):Int:=if x= []then e else if decE x≠0 then decE x else e
end Tg.Cl
namespace Go.Proofs.YtbeoilidocfofaaGreatDoor.Mi
open Go.Lg Go.Tg
section
variable {H H':LH} {s t x:List UInt8} {l i j n p b:Nat} {e:Int}
theorem il (hx:x.length<=1000000):LC Tryz.prog EJ 132 [str x,.int .i64 e] H=some (.tuple #[.int .i64 (Tg.Cl.saidN x),.int .i64 (Tg.Cl.saidE x e)],H):=by
 have h1: ∀H:LH,LC Tryz.prog EJ 189 [str x] H=some (.tuple #[.int .i64 (Tg.Cl.decN x),.int .i64 (Tg.Cl.decE x)],H):=fun H=>xR (by omega);refine ag rfl Tryz.func132 rfl (Nat.le_of_ble_eq_true rfl) (by decide) (by kernel_rfl) rfl ?_;unfold Tg.Cl.saidN Tg.Cl.saidE;generalize Tg.Cl.decN x=a at*;generalize Tg.Cl.decE x=c at*;by_cases h0:x= []
 ·subst h0;simp
 ·have h0:=eq_false h0;by_cases hc:c=0
  ·subst hc;simp [h0,h1]
  ·have hc:=eq_false hc;simp [h0,h1,hc]
def CQ (s:List UInt8) (H:LH) (l b p:Nat) (r:Res) (H':LH):Prop:=
 H.n<=H'.n/\(∀k,k<H.n->k≠l->k≠b->k≠p->H'.get k=H.get k)/\match Tg.Cl.contP s with
 |some (f,t,a)=>r=.ret (.tuple #[])/\H'.get b=some ⟨[.int .i64 (Tg.Cl.saidE a (Tg.Cl.saidE t (Tg.Cl.saidE f 0)))],85,true⟩/\H'.get p=some ⟨[.int .i64 (Tg.Cl.saidN f),.int .i64 (Tg.Cl.saidN t),.int .i64 (Tg.Cl.saidN a)],104,true⟩
 |none=>H'.get p=H.get p/\ ∃a c:Int,c=2/\r=.pan (.agg #[.int .i64 a,.int .i64 c])
theorem FB (hk:H.get l=some (cu s 0)) (hl:l<H.n) (hb:H.get b=some ⟨[.int .i64 0],85,true⟩) (hp0:H.get p=some ⟨[.int .i64 0,.int .i64 0,.int .i64 0],104,true⟩) (hbn:b<H.n) (hpn:p<H.n) (hbl:b≠l) (hpl:p≠l) (hbp:b≠p) (hs:s.length<=1000000):
  ∃r H',R Tryz.prog cC (.call 124 [oQ l,ptr b 0,ptr p 0] H r H')/\CQ s H l b p r H':=by
 have hpb:=hbp.symm;refine eD Tryz.func124 rfl (Nat.le_of_ble_eq_true rfl) (by decide) (by kernel_rfl) ?_;obtain⟨k0,l0,c1⟩:=ij hk hl ⟨[ptr l 0],149,true⟩;have g0:(H.new ⟨[ptr l 0],149,true⟩).get H.n=some ⟨[ptr l 0],149,true⟩:=ak;have b0:(H.new ⟨[ptr l 0],149,true⟩).get b=some ⟨[.int .i64 0],85,true⟩:=(aa (by omega)).trans hb;have p0:(H.new ⟨[ptr l 0],149,true⟩).get p=some ⟨[.int .i64 0,.int .i64 0,.int .i64 0],104,true⟩:=(aa (by omega)).trans hp0;have old0: ∀k,k<H.n->(H.new ⟨[ptr l 0],149,true⟩).get k=H.get k:=fun k hk=>aa (by omega);obtain⟨H0,hH0⟩: ∃H0,H0=H.new ⟨[ptr l 0],149,true⟩:=⟨_,rfl⟩
 have n0:H0.n=H.n+1:=by rw [hH0];rfl
 rw [<-hH0]at k0 l0 g0 b0 p0 old0;have mkpan: ∀ {a c:Int} {j:Nat} {H':LH},Tg.Cl.contP s=none->c=2->Cur H0 H' l s j->CQ s H l b p (.pan (.agg #[.int .i64 a,.int .i64 c])) H':=fun h hc cc=>⟨by have:=cc.n;omega,fun k h1 h2 _ _=>(cc.old k (by omega) h2).trans (old0 k h1),by rw [h];exact⟨(cc.old p (by omega) hpl).trans (old0 p hpn),_,_,hc,rfl⟩⟩
 have mkret: ∀ {f t a:List UInt8} {j:Nat} {H' H2:LH},Tg.Cl.contP s=some (f,t,a)->Cur H0 H' l s j->H2.n=H'.n->H2.get b=some ⟨[.int .i64 (Tg.Cl.saidE a (Tg.Cl.saidE t (Tg.Cl.saidE f 0)))],85,true⟩->H2.get p=some ⟨[.int .i64 (Tg.Cl.saidN f),.int .i64 (Tg.Cl.saidN t),.int .i64 (Tg.Cl.saidN a)],104,true⟩->(∀k,k≠b->k≠p->H2.get k=H'.get k)->CQ s H l b p (.ret (.tuple #[])) H2:=fun h cc hn h1 h2 h3=>⟨by have:=cc.n;omega,fun k g1 g2 g3 g4=>by rw [h3 k g3 g4];exact(cc.old k (by omega) g2).trans (old0 k g1),by rw [h];exact⟨rfl,h1,h2⟩⟩
 obtain⟨H1,e1,c01⟩:=ik (H:=H0) k0 l0 (Nat.zero_le _) hs;have n1:=c01.n;have g1:=(c01.old H.n (by omega) (by omega)).trans g0;have hi0:=Tg.Cl.blk_le (s:=s) (Nat.zero_le _);simp [<-hH0,g0,e1,g1];have r2:=Fz (H:=H1) c01.at_ (by omega) hi0 hs;cases hu:Tg.Cl.unP s (Tg.Cl.blk s 0)with
 |none=>
  rw [hu]at r2;obtain⟨a,c,j,H2,hc,e2,c2⟩:=r2;refine au (g:=126) (first:=#[]) (caps:=#[]) (H1:=H2) rfl rfl rfl (by simp) (by simpa using e2) ?_;simp;exact mkpan (by simp [Tg.Cl.contP,hu]) hc (c01.trans c2)
 |some i1=>
  rw [hu]at r2;obtain⟨H2,e2,c2⟩:=r2;have n2:=c2.n;have g2:=(c2.old H.n (by omega) (by omega)).trans g1;have c02:=c01.trans c2;have hi1:=Tg.Cl.unP_le hi0 hu;refine ai (g:=126) (first:=#[]) (caps:=#[]) (H1:=H2) rfl rfl rfl (by simp) (by simpa using e2) rfl ?_;simp;obtain⟨H3,e3,c3⟩:=ik (H:=H2) c2.at_ (by omega) hi1 hs;have n3:=c3.n;have g3:=(c3.old H.n (by omega) (by omega)).trans g2;have c03:=c02.trans c3;have hi2:=Tg.Cl.blk_le hi1
  have hwl:((s.drop i1).take (Tg.Mi.while_ Tg.Mi.tab (s.drop i1))= [])↔Tg.Cl.blk s i1=i1:=by
   have:=Tg.Mi.while_le Tg.Mi.tab (s.drop i1);unfold Tg.Cl.blk;rw [<-List.length_eq_zero_iff,List.length_take];omega
  generalize (s.drop i1).take (Tg.Mi.while_ Tg.Mi.tab (s.drop i1))=w at*;by_cases hw:Tg.Cl.blk s i1=i1
  ·have hw0:=eq_true (hwl.2 hw);refine ia [(0,2)] (by kernel_rfl) (by kernel_rfl) ?_;simp [g2,e3,hw0,g3];have r4:=dy (H:=H3) c3.at_ (by omega);refine au (g:=127) (first:=#[]) (caps:=#[]) (H1:=H3) rfl rfl rfl (by simp) (by simpa using r4) ?_;simp;exact mkpan (by simp [Tg.Cl.contP,hu,hw]) (by decide) c03
  have hw0:=eq_false (fun h=>hw (hwl.1 h));have r4:=lS (H:=H3) c3.at_ (by omega);refine jD ?_;simp [g2,e3,hw0,g3,r4];have r5:=fq (H:=H3) (t:= [42]) c3.at_ (by omega) hi2 hs (by decide);cases hp:Lib.hasPrefix (s.drop (Tg.Cl.blk s i1)) [42]with
  |true=>
   rw [hp]at r5;simp only [if_true,List.length_cons,List.length_nil]at r5
   have hi3:Tg.Cl.blk s i1+1<=s.length:=by
    have:=Tg.Cl.pre_lenP hp;rw [List.length_drop]at this;simp at this;omega
   obtain⟨f,hf0⟩: ∃f:List UInt8,f= []:=⟨_,rfl⟩
   obtain⟨t,ht0⟩: ∃t:List UInt8,t= []:=⟨_,rfl⟩
   have hpart:Tg.Cl.partP s (Tg.Cl.blk s i1)=some (f,t,Tg.Cl.blk s i1+1):=by unfold Tg.Cl.partP;rw [if_pos hp,hf0,ht0]
   have hfl:f.length<=1000000:=by rw [hf0];decide
   have htl:t.length<=1000000:=by rw [ht0];decide
   have r5:LC Tryz.prog EJ 128 [ptr l 0,str [42]] H3=some (.bool true,H3.set l (cu s (Tg.Cl.blk s i1+1))):=r5;generalize Tg.Cl.blk s i1+1=i3 at*;obtain⟨H4,hH4⟩: ∃H4,H4=H3.set l (cu s i3):=⟨_,rfl⟩
   rw [<-hH4]at r5;have c4:Cur H3 H4 l s i3:=⟨by rw [hH4];exact Nat.le_refl _,by rw [hH4,aw],fun k h1 h2=>by rw [hH4,ah h2]⟩
   have n4:=c4.n;have g4:=(c4.old H.n (by omega) (by omega)).trans g3;have c04:=c03.trans c4;simp [g3,r5,g4];have r12:=qw (H:=H4) (t:= [47]) c4.at_ (by omega) hi3 hs (by decide);cases h12:Tg.Cl.sgP s [47] i3 with
   |none=>
    rw [h12]at r12;obtain⟨a,c,j,H5,hc,e5,c5⟩:=r12;refine au (g:=130) (first:=#[]) (caps:=#[]) (H1:=H5) rfl rfl rfl (by simp) (by simpa using e5) ?_;simp;exact mkpan (by simp [Tg.Cl.contP,hu,hw,hpart,h12]) hc (c04.trans c5)
   |some i4=>
    rw [h12]at r12;obtain⟨H5,e5,c5⟩:=r12;have n5:=c5.n;have g5:=(c5.old H.n (by omega) (by omega)).trans g4;have c05:=c04.trans c5;have hi4:=Tg.Cl.sgP_le hi3 h12;refine ai (g:=130) (first:=#[]) (caps:=#[]) (H1:=H5) rfl rfl rfl (by simp) (by simpa using e5) rfl ?_;simp [g5];have r13:=lT (H:=H5) c5.at_ (by omega) hi4 hs;cases h13:Tg.Cl.szP s i4 with
    |none=>
     rw [h13]at r13;obtain⟨a,c,j,H6,hc,e6,c6⟩:=r13;refine au (g:=129) (first:=#[]) (caps:=#[]) (H1:=H6) rfl rfl rfl (by simp) (by simpa using e6) ?_;simp;exact mkpan (by simp [Tg.Cl.contP,hu,hw,hpart,h12,h13]) hc (c05.trans c6)
    |some y=>
     obtain⟨al,i5⟩:=y;rw [h13]at r13;obtain⟨H6,e6,c6⟩:=r13;have n6:=c6.n;have g6:=(c6.old H.n (by omega) (by omega)).trans g5;have c06:=c05.trans c6;have hi5:i5<=s.length:=Tg.Cl.szP_le hi4 h13;have hall:al.length<=1000000:=Nat.le_trans (Tg.Cl.szP_len h13) hs;refine ai (g:=129) (first:=#[]) (caps:=#[]) (H1:=H6) rfl rfl rfl (by simp) (by simpa using e6) rfl ?_;by_cases hal:al= []
     ·subst hal;simp [g6];have r14:=dy (H:=H6) c6.at_ (by omega);refine au (g:=127) (first:=#[]) (caps:=#[]) (H1:=H6) rfl rfl rfl (by simp) (by simpa using r14) ?_;simp;exact mkpan (by simp [Tg.Cl.contP,hu,hw,hpart,h12,h13,hp]) (by decide) c06
     have hz:=eq_false hal;simp [g6,hz];have r14:=gM (H:=H6) c6.at_ (by omega);refine ai (g:=127) (first:=#[]) (caps:=#[]) (H1:=H6) rfl rfl rfl (by simp) (by simpa using r14) rfl ?_;obtain⟨H7,e7,c7⟩:=ik (H:=H6) c6.at_ (by omega) hi5 hs;have n7:=c7.n;have g7:=(c7.old H.n (by omega) (by omega)).trans g6;have c07:=c06.trans c7;have hi6:=Tg.Cl.blk_le hi5;simp [g6,e7,g7];have r16:=BN (H:=H7) c7.at_ (by omega) hi6;by_cases hend:Tg.Cl.blk s i5=s.length
     ·rw [if_pos hend]at r16;obtain⟨H8,e8,c8⟩:=r16;have n8:=c8.n;have c08:=c07.trans c8;have b8:=(c08.old b (by omega) hbl).trans b0;have p8:=(c08.old p (by omega) hpl).trans p0;refine ai (g:=131) (first:=#[]) (caps:=#[]) (H1:=H8) rfl rfl rfl (by simp) (by simpa using e8) rfl ?_;subst hf0 ht0;have s1:=fun H:LH=>il (H:=H) (x:= []) (e:=0) hfl;have s2:=fun H:LH=>il (H:=H) (x:= []) (e:=Tg.Cl.saidE [] 0) htl;have s3:=fun H:LH=>il (H:=H) (x:=al) (e:=Tg.Cl.saidE [] (Tg.Cl.saidE [] 0)) hall;have fin:=fun H2=>mkret (f:= []) (t:= []) (a:=al) (H2:=H2) (by simp [Tg.Cl.contP,hu,hw,hpart,h12,h13,hend,hal]) c08;simp [s1,s2,s3,b8,p8,hbp,hpb];exact fin _ rfl aw (by rw [ah hpb,aw]) (fun k g1 g2=>by rw [ah g1,ah g2,ah g1,ah g2,ah g1,ah g2])
     ·rw [if_neg hend]at r16;obtain⟨a,c,j,H8,hc,e8,c8⟩:=r16;refine au (g:=131) (first:=#[]) (caps:=#[]) (H1:=H8) rfl rfl rfl (by simp) (by simpa using e8) ?_;simp;exact mkpan (by simp [Tg.Cl.contP,hu,hw,hpart,h12,h13,hend,hal]) hc (c07.trans c8)
  |false=>
   rw [hp]at r5;simp only [Bool.false_eq_true,if_false]at r5;simp [g3,r5];have r6:=lT (H:=H3) c3.at_ (by omega) hi2 hs;have pn: ∀ {x:Option (List UInt8×Nat)},Tg.Cl.szP s (Tg.Cl.blk s i1)=x->Tg.Cl.partP s (Tg.Cl.blk s i1)=x.bind fun x=>if x.1= []then none else(Tg.Cl.sgP s [45] x.2).bind fun j=>(Tg.Cl.szP s j).bind fun y=>if y.1= []then none else some (x.1,y.1,y.2):=fun h=>by unfold Tg.Cl.partP;rw [hp,h];rfl
   cases h6:Tg.Cl.szP s (Tg.Cl.blk s i1)with
   |none=>
    rw [h6]at r6;obtain⟨a,c,j,H5,hc,e5,c5⟩:=r6;refine au (g:=129) (first:=#[]) (caps:=#[]) (H1:=H5) rfl rfl rfl (by simp) (by simpa using e5) ?_;simp;exact mkpan (by simp [Tg.Cl.contP,hu,hw,pn h6]) hc (c03.trans c5)
   |some y=>
    obtain⟨f,i7⟩:=y;rw [h6]at r6;obtain⟨Ha,ea,ca⟩:=r6;have na:=ca.n;have ga:=(ca.old H.n (by omega) (by omega)).trans g3;have c0a:=c03.trans ca;have hi7:i7<=s.length:=Tg.Cl.szP_le hi2 h6;have hfl:f.length<=1000000:=Nat.le_trans (Tg.Cl.szP_len h6) hs;refine ai (g:=129) (first:=#[]) (caps:=#[]) (H1:=Ha) rfl rfl rfl (by simp) (by simpa using ea) rfl ?_;by_cases hf0:f= []
    ·have hf1:=eq_true hf0;simp [ga,hf1];have r7:=dy (H:=Ha) ca.at_ (by omega);refine au (g:=127) (first:=#[]) (caps:=#[]) (H1:=Ha) rfl rfl rfl (by simp) (by simpa using r7) ?_;simp;exact mkpan (by simp [Tg.Cl.contP,hu,hw,pn h6,hf0]) (by decide) c0a
    have hf1:=eq_false hf0;simp [ga,hf1];have r7:=gM (H:=Ha) ca.at_ (by omega);refine ai (g:=127) (first:=#[]) (caps:=#[]) (H1:=Ha) rfl rfl rfl (by simp) (by simpa using r7) rfl ?_;simp [ga];have r8:=qw (H:=Ha) (t:= [45]) ca.at_ (by omega) hi7 hs (by decide);cases h8:Tg.Cl.sgP s [45] i7 with
    |none=>
     rw [h8]at r8;obtain⟨a,c,j,H5,hc,e5,c5⟩:=r8;refine au (g:=130) (first:=#[]) (caps:=#[]) (H1:=H5) rfl rfl rfl (by simp) (by simpa using e5) ?_;simp;exact mkpan (by simp [Tg.Cl.contP,hu,hw,pn h6,hf0,h8]) hc (c0a.trans c5)
    |some i8=>
     rw [h8]at r8;obtain⟨Hb,eb,cb⟩:=r8;have nb:=cb.n;have gb:=(cb.old H.n (by omega) (by omega)).trans ga;have c0b:=c0a.trans cb;have hi8:=Tg.Cl.sgP_le hi7 h8;refine ai (g:=130) (first:=#[]) (caps:=#[]) (H1:=Hb) rfl rfl rfl (by simp) (by simpa using eb) rfl ?_;simp [gb];have r9:=lT (H:=Hb) cb.at_ (by omega) hi8 hs;cases h9:Tg.Cl.szP s i8 with
     |none=>
      rw [h9]at r9;obtain⟨a,c,j,H5,hc,e5,c5⟩:=r9;refine au (g:=129) (first:=#[]) (caps:=#[]) (H1:=H5) rfl rfl rfl (by simp) (by simpa using e5) ?_;simp;exact mkpan (by simp [Tg.Cl.contP,hu,hw,pn h6,hf0,h8,h9]) hc (c0b.trans c5)
     |some y=>
      obtain⟨t,i3⟩:=y;rw [h9]at r9;obtain⟨H4,e4,cc4⟩:=r9;have n4:=cc4.n;have g4:=(cc4.old H.n (by omega) (by omega)).trans gb;have c04:=c0b.trans cc4;have hi3:i3<=s.length:=Tg.Cl.szP_le hi8 h9;have htl:t.length<=1000000:=Nat.le_trans (Tg.Cl.szP_len h9) hs;have c4:=cc4;refine ai (g:=129) (first:=#[]) (caps:=#[]) (H1:=H4) rfl rfl rfl (by simp) (by simpa using e4) rfl ?_;by_cases ht0:t= []
      ·have ht1:=eq_true ht0;simp [g4,ht1];have r10:=dy (H:=H4) c4.at_ (by omega);refine au (g:=127) (first:=#[]) (caps:=#[]) (H1:=H4) rfl rfl rfl (by simp) (by simpa using r10) ?_;simp;exact mkpan (by simp [Tg.Cl.contP,hu,hw,pn h6,hf0,h8,h9,ht0]) (by decide) c04
      have ht1:=eq_false ht0;simp [g4,ht1];have r10:=gM (H:=H4) c4.at_ (by omega);refine ai (g:=127) (first:=#[]) (caps:=#[]) (H1:=H4) rfl rfl rfl (by simp) (by simpa using r10) rfl ?_;have hpart:Tg.Cl.partP s (Tg.Cl.blk s i1)=some (f,t,i3):=by rw [pn h6];simp [hf0,h8,h9,ht0]
      simp [g4];have r12:=qw (H:=H4) (t:= [47]) c4.at_ (by omega) hi3 hs (by decide);cases h12:Tg.Cl.sgP s [47] i3 with
      |none=>
       rw [h12]at r12;obtain⟨a,c,j,H5,hc,e5,c5⟩:=r12;refine au (g:=130) (first:=#[]) (caps:=#[]) (H1:=H5) rfl rfl rfl (by simp) (by simpa using e5) ?_;simp;exact mkpan (by simp [Tg.Cl.contP,hu,hw,hpart,h12]) hc (c04.trans c5)
      |some i4=>
       rw [h12]at r12;obtain⟨H5,e5,c5⟩:=r12;have n5:=c5.n;have g5:=(c5.old H.n (by omega) (by omega)).trans g4;have c05:=c04.trans c5;have hi4:=Tg.Cl.sgP_le hi3 h12;refine ai (g:=130) (first:=#[]) (caps:=#[]) (H1:=H5) rfl rfl rfl (by simp) (by simpa using e5) rfl ?_;simp [g5];have r13:=lT (H:=H5) c5.at_ (by omega) hi4 hs;cases h13:Tg.Cl.szP s i4 with
       |none=>
        rw [h13]at r13;obtain⟨a,c,j,H6,hc,e6,c6⟩:=r13;refine au (g:=129) (first:=#[]) (caps:=#[]) (H1:=H6) rfl rfl rfl (by simp) (by simpa using e6) ?_;simp;exact mkpan (by simp [Tg.Cl.contP,hu,hw,hpart,h12,h13]) hc (c05.trans c6)
       |some y=>
        obtain⟨al,i5⟩:=y;rw [h13]at r13;obtain⟨H6,e6,c6⟩:=r13;have n6:=c6.n;have g6:=(c6.old H.n (by omega) (by omega)).trans g5;have c06:=c05.trans c6;have hi5:i5<=s.length:=Tg.Cl.szP_le hi4 h13;have hall:al.length<=1000000:=Nat.le_trans (Tg.Cl.szP_len h13) hs;refine ai (g:=129) (first:=#[]) (caps:=#[]) (H1:=H6) rfl rfl rfl (by simp) (by simpa using e6) rfl ?_;by_cases hal:al= []
        all_goals first|(have hz:=eq_true hal;simp [g6,hz])|(have hz:=eq_false hal;simp [g6,hz])
        all_goals
         have r14:=gM (H:=H6) c6.at_ (by omega);refine ai (g:=127) (first:=#[]) (caps:=#[]) (H1:=H6) rfl rfl rfl (by simp) (by simpa using r14) rfl ?_;obtain⟨H7,e7,c7⟩:=ik (H:=H6) c6.at_ (by omega) hi5 hs;have n7:=c7.n;have g7:=(c7.old H.n (by omega) (by omega)).trans g6;have c07:=c06.trans c7;have hi6:=Tg.Cl.blk_le hi5;simp [g6,e7,g7];have r16:=BN (H:=H7) c7.at_ (by omega) hi6;by_cases hend:Tg.Cl.blk s i5=s.length
         ·rw [if_pos hend]at r16;obtain⟨H8,e8,c8⟩:=r16;have n8:=c8.n;have c08:=c07.trans c8;have b8:=(c08.old b (by omega) hbl).trans b0;have p8:=(c08.old p (by omega) hpl).trans p0;refine ai (g:=131) (first:=#[]) (caps:=#[]) (H1:=H8) rfl rfl rfl (by simp) (by simpa using e8) rfl ?_;have s1:=fun H:LH=>il (H:=H) (x:=f) (e:=0) hfl;have s2:=fun H:LH=>il (H:=H) (x:=t) (e:=Tg.Cl.saidE f 0) htl;have s3:=fun H:LH=>il (H:=H) (x:=al) (e:=Tg.Cl.saidE t (Tg.Cl.saidE f 0)) hall;have fin:=fun H2=>mkret (f:=f) (t:=t) (a:=al) (H2:=H2) (by simp [Tg.Cl.contP,hu,hw,hpart,h12,h13,hend,hp]) c08;simp [s1,s2,s3,b8,p8,hbp,hpb];exact fin _ rfl aw (by rw [ah hpb,aw]) (fun k g1 g2=>by rw [ah g1,ah g2,ah g1,ah g2,ah g1,ah g2])
         ·rw [if_neg hend]at r16;obtain⟨a,c,j,H8,hc,e8,c8⟩:=r16;refine au (g:=131) (first:=#[]) (caps:=#[]) (H1:=H8) rfl rfl rfl (by simp) (by simpa using e8) ?_;simp;exact mkpan (by simp [Tg.Cl.contP,hu,hw,hpart,h12,h13,hend,hp]) hc (c07.trans c8)
end
end Go.Proofs.YtbeoilidocfofaaGreatDoor.Mi
namespace Tg.Cl
def goodP (f t a:Int):Bool:=
 if f= -1/\t= -1 then decide (0<=a)&&decide (a<=9007199254740991)
 else decide (0<=f)&&decide (f<=t)&&decide (t<=9007199254740991)&&(decide (a= -1)||(decide (t<a)&&decide (a<=9007199254740991)))
def contR (s:List UInt8):(Int×Int×Int)×Int:=match contP s with
 |none=>((0,0,0),2)
 |some (f,t,a)=>if saidE a (saidE t (saidE f 0))≠0\/goodP (saidN f) (saidN t) (saidN a)=false then((0,0,0),9)else((saidN f,saidN t,saidN a),0)
end Tg.Cl
namespace Go.Proofs.YtbeoilidocfofaaGreatDoor.Mi
open Go.Lg Go.Tg
section
variable {H H':LH} {s t x:List UInt8} {l i j n p b:Nat} {e:Int}
@[simp] theorem Qg:aF Tryz.prog 154=some false:=by kernel_rfl
@[simp] theorem Ra:sz Tryz.prog 154=some 1:=by kernel_rfl
theorem xW:bG Tryz.prog 149 [.pointer none] [(0,ptr l 0)]=some [ptr l 0]:=by
 rw [aB (o:=0) (n:=1) (g:=false) (by simp) rfl (by simp) (by simp)];simp
abbrev fC (b p:Nat):Value:=.func (.func 124) #[] #[ptr b 0,ptr p 0]
theorem FC {fb sb:Nat} (hf:H.get fb=some ⟨[fC b p],154,true⟩) (hsb:H.get sb=some ⟨[str s],9,true⟩) (hb:H.get b=some ⟨[.int .i64 0],85,true⟩) (hp0:H.get p=some ⟨[.int .i64 0,.int .i64 0,.int .i64 0],104,true⟩) (hfn:fb<H.n) (hsn:sb<H.n) (hbn:b<H.n) (hpn:p<H.n) (hbp:b≠p) (hs:s.length<=1000000):
  ∃r H',R Tryz.prog cC (.call 183 [ptr fb 0,ptr sb 0] H r H')/\CQ s (H.new (cu s 0)) H.n b p r H':=by
 refine eD Tryz.func183 rfl (Nat.le_of_ble_eq_true rfl) (by decide) (by kernel_rfl) ?_;have h1:=nn (H:=H) (s:=s);obtain⟨H1,hH1⟩: ∃H1,H1=H.new (cu s 0):=⟨_,rfl⟩
 rw [<-hH1]at h1;have n1:H1.n=H.n+1:=by rw [hH1];rfl
 have k1:H1.get H.n=some (cu s 0):=by rw [hH1,ak]
 have f1:H1.get fb=some ⟨[fC b p],154,true⟩:=by rw [hH1];exact(aa (by omega)).trans hf
 have b1:H1.get b=some ⟨[.int .i64 0],85,true⟩:=by rw [hH1];exact(aa (by omega)).trans hb
 have p1:H1.get p=some ⟨[.int .i64 0,.int .i64 0,.int .i64 0],104,true⟩:=by rw [hH1];exact(aa (by omega)).trans hp0
 obtain⟨r,H',e,q⟩:=FB k1 (by omega) b1 p1 (by omega) (by omega) (by omega) (by omega) hbp hs;rw [<-hH1];refine ia [(0,2)] (by kernel_rfl) (by kernel_rfl) ?_;simp [hf,hsb,h1,f1,xW];have hq:=q;obtain⟨_,_,q3⟩:=q;cases hc:Tg.Cl.contP s with
 |none=>
  rw [hc]at q3;obtain⟨_,a,c,_,rfl⟩:=q3;refine au (g:=124) (first:=#[]) (caps:=#[ptr b 0,ptr p 0]) (H1:=H') rfl rfl rfl (by simp) (by simpa using e) ?_;simpa using hq
 |some y=>
  rw [hc]at q3;obtain⟨f,t,a⟩:=y;obtain⟨rfl,_⟩:=q3;refine ai (g:=124) (first:=#[]) (caps:=#[ptr b 0,ptr p 0]) (H1:=H') rfl rfl rfl (by simp) (by simpa using e) rfl ?_;simpa using hq
abbrev iQ (x y:Int):LB:=⟨[.int .i64 x,.int .i64 y],127,true⟩
theorem BP {g:FuncId} {caps:Array Value} {u:Value} {H1:LH} (hc:R Tryz.prog cC (.call g caps.toList (H.new (iQ 0 0)) (.ret u) H1)) (hk:H1.get H.n=some (iQ 0 0)) (hn:H.n<H1.n):R Tryz.prog cC (.call 98 [.func (.func g) #[] caps] H (.ret (.tuple #[.agg #[.int .i64 0,.int .i64 0],.bool false])) H1):=by
 have hcat:R Tryz.prog cC (.call 142 [.func (.func g) #[] caps] (H.new (iQ 0 0)) (.ret (.tuple #[dR,.bool false])) H1):=R.cat (E:=cC) rfl (by simpa using hc)
 have same:H1.set H.n (iQ 0 0)=H1:=by
  unfold LH.set;congr 1;funext k;by_cases h:k=H.n
  ·subst h;simp [hk]
  ·simp [h]
 refine cH Tryz.func98 rfl (Nat.le_of_ble_eq_true rfl) (by decide) (by kernel_rfl) ?_;simp;refine ai (g:=142) (first:=#[]) (caps:=#[]) (H1:=H1) rfl rfl rfl (by simp) (by simpa using hcat) rfl ?_;simp [dR,hk,same]
theorem xX {g:FuncId} {caps:Array Value} {x y:Int} {H1:LH} (hc:R Tryz.prog cC (.call g caps.toList (H.new (iQ 0 0)) (.pan (.agg #[.int .i64 x,.int .i64 y])) H1)) (hk:H1.get H.n=some (iQ 0 0)) (hn:H.n<H1.n):R Tryz.prog cC (.call 98 [.func (.func g) #[] caps] H (.ret (.tuple #[.agg #[.int .i64 x,.int .i64 y],.bool true])) (H1.set H.n (iQ x y))):=by
 have hcat:R Tryz.prog cC (.call 142 [.func (.func g) #[] caps] (H.new (iQ 0 0)) (.ret (.tuple #[.agg #[.int .i64 x,.int .i64 y],.bool true])) H1):=R.catp (E:=cC) rfl (by simpa using hc);refine cH Tryz.func98 rfl (Nat.le_of_ble_eq_true rfl) (by decide) (by kernel_rfl) ?_;simp;refine ai (g:=142) (first:=#[]) (caps:=#[]) (H1:=H1) rfl rfl rfl (by simp) (by simpa using hcat) rfl ?_;simp [hk]
theorem KO (hb:H.get b=some ⟨[.int .i64 0],85,true⟩) (hp0:H.get p=some ⟨[.int .i64 0,.int .i64 0,.int .i64 0],104,true⟩) (hbn:b<H.n) (hpn:p<H.n) (hbp:b≠p) (hs:s.length<=1000000):
  ∃(c:Int) (H':LH),R Tryz.prog cC (.call 123 [str s,fC b p] H (.ret (.int .i64 c)) H')/\H.n<=H'.n/\(∀k,k<H.n->k≠b->k≠p->H'.get k=H.get k)/\match Tg.Cl.contP s with
   |none=>c=2/\H'.get p=some ⟨[.int .i64 0,.int .i64 0,.int .i64 0],104,true⟩
   |some (f,t,a)=>c=0/\H'.get b=some ⟨[.int .i64 (Tg.Cl.saidE a (Tg.Cl.saidE t (Tg.Cl.saidE f 0)))],85,true⟩/\H'.get p=some ⟨[.int .i64 (Tg.Cl.saidN f),.int .i64 (Tg.Cl.saidN t),.int .i64 (Tg.Cl.saidN a)],104,true⟩:=by
 obtain⟨H1,hH1⟩: ∃H1,H1=(H.new ⟨[str s],9,true⟩).new ⟨[fC b p],154,true⟩:=⟨_,rfl⟩
 have n1:H1.n=H.n+1+1:=by rw [hH1];rfl
 have le1:H.le H1:=by rw [hH1];exact le_refl.new.new
 have s1:H1.get H.n=some ⟨[str s],9,true⟩:=by rw [hH1,aa (by simp),ak]
 have f1:H1.get (H.n+1)=some ⟨[fC b p],154,true⟩:=by rw [hH1];exact ak
 obtain⟨H2,hH2⟩: ∃H2,H2=H1.new (iQ 0 0):=⟨_,rfl⟩
 have n2:H2.n=H1.n+1:=by rw [hH2];rfl
 have le2:H1.le H2:=by rw [hH2];exact le_refl.new
 have z2:H2.get H1.n=some (iQ 0 0):=by rw [hH2];exact ak
 have le02:=le1.trans le2;obtain⟨r,H3,e3,q1,q2,q3⟩:=FC (H:=H2) (fb:=H.n+1) (sb:=H.n) ((le2.2 _ (by omega)).trans f1) ((le2.2 _ (by omega)).trans s1) ((le02.2 b hbn).trans hb) ((le02.2 p hpn).trans hp0) (by omega) (by omega) (by omega) (by omega) hbp hs;rw [aL]at q1;have old3: ∀k,k<H2.n->k≠b->k≠p->H3.get k=H2.get k:=fun k h1 h2 h3=>(q2 k (by rw [aL];omega) (by omega) h2 h3).trans (aa (by omega));have z3:H3.get H1.n=some (iQ 0 0):=(old3 H1.n (by omega) (by omega) (by omega)).trans z2;rw [hH2]at e3;cases hc:Tg.Cl.contP s with
 |none=>
  rw [hc]at q3;obtain⟨qp,a,c,rfl,rfl⟩:=q3;have ec:=xX (H:=H1) (g:=183) (caps:=#[ptr (H.n+1) 0,ptr H.n 0]) (by simpa using e3) z3 (by omega)
  have key: ∃r H',R Tryz.prog cC (.call 123 [str s,fC b p] H r H')/\r=.ret (.int .i64 2)/\H'=(H3.set H1.n (iQ a 2)).new (iQ a 2):=by
   refine fL Tryz.func123 rfl (Nat.le_of_ble_eq_true rfl) (by decide) (by kernel_rfl) ?_;simp [<-hH1];refine ai (g:=98) (first:=#[]) (caps:=#[]) (H1:=H3.set H1.n (iQ a 2)) rfl rfl rfl (by simp) (by simpa using ec) rfl ?_;simp
  obtain⟨r,H',e,rfl,rfl⟩:=key;refine⟨2,_,e,by simp;omega,fun k h1 h2 h3=>?_,rfl,?_⟩
  ·rw [aa (by simp;omega),ah (by omega),old3 k (by omega) h2 h3];exact le02.2 k h1
  ·rw [aa (by simp;omega),ah (by omega),qp,aa (by omega)];exact(le02.2 p hpn).trans hp0
 |some y=>
  rw [hc]at q3;obtain⟨f,t,a⟩:=y;obtain⟨rfl,qb,qp⟩:=q3;have ec:=BP (H:=H1) (g:=183) (caps:=#[ptr (H.n+1) 0,ptr H.n 0]) (by simpa using e3) z3 (by omega)
  have key: ∃r H',R Tryz.prog cC (.call 123 [str s,fC b p] H r H')/\r=.ret (.int .i64 0)/\H'=H3.new (iQ 0 0):=by
   refine fL Tryz.func123 rfl (Nat.le_of_ble_eq_true rfl) (by decide) (by kernel_rfl) ?_;simp [<-hH1];refine ai (g:=98) (first:=#[]) (caps:=#[]) (H1:=H3) rfl rfl rfl (by simp) (by simpa using ec) rfl ?_;simp
  obtain⟨r,H',e,rfl,rfl⟩:=key;refine⟨0,_,e,by simp;omega,fun k h1 h2 h3=>?_,rfl,?_,?_⟩
  ·rw [aa (by omega),old3 k (by omega) h2 h3];exact le02.2 k h1
  ·rw [aa (by omega)];exact qb
  ·rw [aa (by omega)];exact qp
theorem FD {f t a:Int} :LC Tryz.prog EJ 133 [.agg #[.int .i64 f,.int .i64 t,.int .i64 a]] H=some (.bool (Tg.Cl.goodP f t a),H):=by
 refine ag rfl Tryz.func133 rfl (Nat.le_of_ble_eq_true rfl) (by decide) (by kernel_rfl) rfl ?_;unfold Tg.Cl.goodP;by_cases h1:f= -1
 ·by_cases h2:t= -1
  ·subst h1 h2;by_cases h3:0<=a
   ·by_cases h4:a<=9007199254740991<;>simp [h3,h4]
   ·simp [h3]
  ·have h2:=eq_false h2;subst h1;simp [h2]
 ·have h1:=eq_false h1;by_cases h3:0<=f
  ·by_cases h4:f<=t
   ·by_cases h5:t<=9007199254740991
    ·by_cases h6:a= -1
     ·have h6:=eq_true h6;simp [h1,h3,h4,h5,h6]
     ·have h6:=eq_false h6;by_cases h7:t<a
      ·by_cases h8:a<=9007199254740991<;>simp [h1,h3,h4,h5,h6,h7,h8]
      ·simp [h1,h3,h4,h5,h6,h7]
    ·simp [h1,h3,h4,h5]
   ·simp [h1,h3,h4]
  ·simp [h1,h3]
abbrev pv3 (x:Int×Int×Int):Value:=.agg #[.int .i64 x.1,.int .i64 x.2.1,.int .i64 x.2.2]
theorem content_r (hs:s.length<=1000000):R Tryz.prog cC (.call 92 [str s] H (.ret (.tuple #[pv3 (Tg.Cl.contR s).1,.int .i64 (Tg.Cl.contR s).2])) H):=by
 obtain⟨H1,hH1⟩: ∃H1,H1=(H.new ⟨[.int .i64 0,.int .i64 0,.int .i64 0],104,true⟩).new ⟨[.int .i64 0],85,true⟩:=⟨_,rfl⟩
 have n1:H1.n=H.n+1+1:=by rw [hH1];rfl
 have le1:H.le H1:=by rw [hH1];exact le_refl.new.new
 have p1:H1.get H.n=some ⟨[.int .i64 0,.int .i64 0,.int .i64 0],104,true⟩:=by rw [hH1,aa (by simp),ak]
 have b1:H1.get (H.n+1)=some ⟨[.int .i64 0],85,true⟩:=by rw [hH1];exact ak
 have sm:H1.set (H.n+1) ⟨[.int .i64 0],85,true⟩=H1:=by
  unfold LH.set;congr 1;funext k;by_cases h:k=H.n+1
  ·subst h;simp [b1]
  ·simp [h]
 obtain⟨c,H2,e2,n2,old2,q2⟩:=KO (H:=H1) (b:=H.n+1) (p:=H.n) b1 p1 (by omega) (by omega) (by omega) hs;have hle: ∀x,H.le (H2.set H.n x):=fun x=>⟨by simp;omega,fun k hk=>by rw [ah (by omega),old2 k (by omega) (by omega) (by omega)];exact le1.2 k hk⟩
 have hle0:H.le H2:=⟨by omega,fun k hk=>by rw [old2 k (by omega) (by omega) (by omega)];exact le1.2 k hk⟩
 refine bz Tryz.func92 rfl (Nat.le_of_ble_eq_true rfl) (by decide) (by kernel_rfl) rfl ?_;simp [<-hH1,b1,sm];refine ai (g:=123) (first:=#[]) (caps:=#[]) (H1:=H2) rfl rfl rfl (by simp) (by simpa using e2) rfl ?_;unfold Tg.Cl.contR;cases hc:Tg.Cl.contP s with
 |none=>
  rw [hc]at q2;obtain⟨rfl,qp⟩:=q2;simp [qp,hle]
 |some y=>
  obtain⟨f,t,a⟩:=y;rw [hc]at q2;obtain⟨rfl,qb,qp⟩:=q2;simp only;have hg:=fun H:LH=>FD (H:=H) (f:=Tg.Cl.saidN f) (t:=Tg.Cl.saidN t) (a:=Tg.Cl.saidN a);generalize Tg.Cl.saidE a (Tg.Cl.saidE t (Tg.Cl.saidE f 0))=z at*;generalize Tg.Cl.saidN f=nf at*;generalize Tg.Cl.saidN t=nt at*;generalize Tg.Cl.saidN a=na at*;by_cases hz:z=0
  ·subst hz;cases hgd:Tg.Cl.goodP nf nt na with
   |true=>
    rw [hgd]at hg
    have sm2:H2.set H.n ⟨[.int .i64 nf,.int .i64 nt,.int .i64 na],104,true⟩=H2:=by
     unfold LH.set;congr 1;funext k;by_cases h:k=H.n
     ·subst h;simp [qp]
     ·simp [h]
    simp [qb,qp,hg,hgd,sm2,hle0]
   |false=>
    rw [hgd]at hg;simp [qb,qp,hg,hgd,hle]
  ·have hz:=eq_false hz;simp [qb,qp,hz,hle]
end
end Go.Proofs.YtbeoilidocfofaaGreatDoor.Mi
namespace Go.Proofs.YtbeoilidocfofaaGreatDoor.Jx
open Go.Lg Go.Tg Tg.Js
def cJ (H:LH):Prop:=0<H.ng/\Lib.TabIs Tryz.prog H.base "strings.asciiSpace" .u8 Lib.asciiSpaceTab
def d_:Lg.Spec:=fun args H=>match args with
 | [.string s,.int .u8 c]=>some (.int .i64 (Lib.indexByte s.data.toList c.toNat.toUInt8),H)
 |_=>none
open Classical in
noncomputable def ct:Lg.Spec:=fun args H=>match args with
 | [.string s]=>if s.size<4294967281/\(∀(j:Nat) b,s.data.toList[j]?=some b->b.toNat<128)/\cJ H/\(Lib.fields s.data.toList).length<=maxLen then
   some (sl H.n (Lib.fields s.data.toList).length (Lib.fields s.data.toList).length,H.new ⟨(Lib.fields s.data.toList).map (fun l=>.string ⟨l.toArray⟩),9,true⟩)
  else none
 |_=>none
def dU (H:LH):Prop:=2<H.ng/\ ∃m,H.base.cell? ⟨2,0,none⟩=some (.int .i64 m)
noncomputable def oR:List (FuncId×Lg.Spec):= [
 ]++ [
 ]++ [
 ]
noncomputable def EJ:Ext:=iA ([(201,d_),(88,ct)]++oR) [76,77]
@[simp] theorem HM {n id k:Nat} :EJ.loud.ch n id k=L' n id k:=rfl
@[simp] theorem HN {s d:TypeId} :EJ.loud.cv s d=false:=rfl
@[simp] theorem HO {n id k:Nat} :EJ.loud.pm n id k= []:=rfl
@[simp] theorem vK {g:FuncId} :EJ.loud g=(decide (g=76)||decide (g=77)):=by
 unfold EJ iA;simp only [List.contains_cons,List.contains_nil,Bool.or_false];rw [Bool.eq_iff_iff];simp
theorem uC {P:Program} {H:LH} {ι:Ren} {w:World} (hrel:Rel P H ι w) (h:cJ H):Lib.TabIs Tryz.prog w "strings.asciiSpace" .u8 Lib.asciiSpaceTab:=by
 have h2:=h.2;unfold Lib.TabIs World.var? at h2⊢;rw [show Tryz.prog.globalNamed "strings.asciiSpace" =some 0 by kernel_rfl]at h2⊢;simp only [Option.bind_some]at h2⊢;rw [kH hrel h.1];exact h2
theorem FE: ∀p∈oR,cr Tryz.prog p.1 p.2:=by
 intro p hp;rcases List.mem_append.1 hp with hp|hp;rcases List.mem_append.1 hp with hp|hp
 ·skip
  cases hp
 ·skip
  cases hp
 ·skip
  cases hp
theorem extOk:ow Tryz.prog EJ:=by
 refine pW (fun p hp=>?_);rcases List.mem_append.1 hp with hp|hp
 case inr=>exact FE p hp
 rcases List.mem_cons.1 hp with rfl|hp
 ·intro args H v H' h;refine .inl ⟨⟨_,Tryz.func201,rfl,by decide⟩,?_⟩;unfold d_ at h;dsimp only at h;split at h
  ·simp only [Option.some.injEq,Prod.mk.injEq]at h;obtain⟨rfl,rfl⟩:=h
   exact ss (fun x hx=>by
    rcases List.mem_cons.1 hx with rfl|hx
    ·rfl
    ·rcases List.mem_cons.1 hx with rfl|hx
     ·rfl
     ·cases hx) rfl (fun w=>Tryz.strings_IndexByte _ _ w)
  ·cases h
 ·rcases List.mem_cons.1 hp with rfl|hp
  ·intro args H v H' h;refine .inl ⟨⟨_,Tryz.func88,rfl,by decide⟩,?_⟩;unfold ct at h;dsimp only at h;split at h
   ·rename_i s;split at h
    ·rename_i hc;obtain⟨h1,h2,h3,h4⟩:=hc;simp only [Option.some.injEq,Prod.mk.injEq]at h;obtain⟨rfl,rfl⟩:=h
     exact iJ (fun x hx=>by
      rcases List.mem_cons.1 hx with rfl|hx
      ·rfl
      ·cases hx) (fun x hx=>by
       obtain⟨l,_,rfl⟩:=List.mem_map.1 hx;rfl) (by kernel_rfl) (by simp) h4 (fun ι w hrel=>Tryz.strings_Fields s w h1 h2 (uC hrel h3))
    ·cases h
   ·cases h
  ·cases hp
theorem tOk:lz Tryz.prog (LC Tryz.prog EJ):=vu extOk mixed
section
variable {H:LH}
@[simp] theorem lj {s:List UInt8} {c:UInt8} :LC Tryz.prog EJ 201 [str s,.int .u8 c.toNat] H=some (.int .i64 (Lib.indexByte s c),H):=by
 refine dj (s:=d_) rfl ?_;simp [d_,str]
def iR:List UInt8:=w "await break case catch class const continue default delete do else export extends finally for from function get if import in instanceof let new of return set static switch throw try typeof var void while with yield async as"
theorem oS:Lib.fields iR=dm:=by decide+kernel
theorem BQ:(iR.all fun b=>decide (b.toNat<128))=true:=by decide+kernel
theorem BR (ht:cJ H):LC Tryz.prog EJ 88 [str iR] H=some (sl H.n 39 39,H.new ⟨dm.map str,9,true⟩):=by
 refine dj (s:=ct) rfl ?_;have e:(⟨iR.toArray⟩:ByteArray).data.toList=iR:=by simp
 have hl:dm.length=39:=by decide+kernel
 simp only [ct,str,e,oS,hl]
 have ha: ∀(j:Nat) b,iR[j]?=some b->b.toNat<128:=fun j b hb=>by
  have:=List.all_eq_true.1 BQ b (List.mem_of_getElem? hb);simpa using this
 rw [if_pos ⟨by rw [cN];decide+kernel,ha,ht,by simp [maxLen,oS,hl]⟩];rfl
end
end Go.Proofs.YtbeoilidocfofaaGreatDoor.Jx
namespace Go.Proofs.YtbeoilidocfofaaGreatDoor.Jx
open Go.Lg Tg.Js
section
variable {H:LH} {b:UInt8}
theorem sI:LC Tryz.prog EJ 235 [.int .u8 b.toNat] H=some (.bool (digit b),H):=by
 refine ag rfl Tryz.func235 rfl (Nat.le_of_ble_eq_true rfl) (by decide) (by kernel_rfl) rfl ?_;simp+contextual [digit,-Int.not_le,-Int.not_lt]
theorem ig:LC Tryz.prog EJ 187 [.int .u8 b.toNat] H=some (.bool (digit b),H):=by
 refine ag rfl Tryz.func187 rfl (Nat.le_of_ble_eq_true rfl) (by decide) (by kernel_rfl) rfl ?_;simp+contextual [sI,-Int.not_le,-Int.not_lt]
theorem FF:LC Tryz.prog EJ 262 [.int .u8 b.toNat] H=some (.bool (decide (97<=(b.toNat:Int))&&decide ((b.toNat:Int)<=122)),H):=by
 refine ag rfl Tryz.func262 rfl (Nat.le_of_ble_eq_true rfl) (by decide) (by kernel_rfl) rfl ?_;simp+contextual [-Int.not_le,-Int.not_lt]
theorem FG:LC Tryz.prog EJ 230 [.int .u8 b.toNat] H=some (.bool (decide (65<=(b.toNat:Int))&&decide ((b.toNat:Int)<=90)),H):=by
 refine ag rfl Tryz.func230 rfl (Nat.le_of_ble_eq_true rfl) (by decide) (by kernel_rfl) rfl ?_;simp+contextual [-Int.not_le,-Int.not_lt]
theorem xY:LC Tryz.prog EJ 234 [.int .u8 b.toNat] H=some (.bool (letter b),H):=by
 refine ag rfl Tryz.func234 rfl (Nat.le_of_ble_eq_true rfl) (by decide) (by kernel_rfl) rfl ?_;simp+contextual [letter,FF,FG,-Int.not_le,-Int.not_lt]
theorem BS:LC Tryz.prog EJ 185 [.int .u8 b.toNat] H=some (.bool (letter b),H):=by
 refine ag rfl Tryz.func185 rfl (Nat.le_of_ble_eq_true rfl) (by decide) (by kernel_rfl) rfl ?_;simp+contextual [xY,-Int.not_le,-Int.not_lt]
theorem uK:LC Tryz.prog EJ 208 [.int .u8 b.toNat] H=some (.bool (lZ b),H):=by
 refine ag rfl Tryz.func208 rfl (Nat.le_of_ble_eq_true rfl) (by decide) (by kernel_rfl) rfl ?_;simp+contextual [lZ,-Int.not_le,-Int.not_lt]
theorem FH:LC Tryz.prog EJ 209 [.int .u8 b.toNat] H=some (.bool (white b),H):=by
 refine ag rfl Tryz.func209 rfl (Nat.le_of_ble_eq_true rfl) (by decide) (by kernel_rfl) rfl ?_;simp+contextual [white,-Int.not_le,-Int.not_lt]
theorem vZ:LC Tryz.prog EJ 210 [.int .u8 b.toNat] H=some (.bool (inner b),H):=by
 refine ag rfl Tryz.func210 rfl (Nat.le_of_ble_eq_true rfl) (by decide) (by kernel_rfl) rfl ?_;simp (config:= { maxSteps:=2000000 })+contextual [inner,BS,ig,-Int.not_le,-Int.not_lt]
theorem KP:LC Tryz.prog EJ 280 [.int .u8 b.toNat] H=some (.int .u8 (M.pair b).toNat,H):=by
 refine ag rfl Tryz.func280 rfl (Nat.le_of_ble_eq_true rfl) (by decide) (by kernel_rfl) rfl ?_;simp+contextual [M.pair,-Int.not_le,-Int.not_lt]
end
def mc (m:M) (v:Value):List Value:= [.int .i64 m.depth,v,.int .i64 m.at_,.int .u8 m.by_.toNat,.bool m.taken,str m.said,.int .i64 m.last,.bool m.broken,.bool m.bad,.int .i64 m.place,.int .i64 m.pieces,.int .i64 m.ends,.int .i64 m.seen]
def mb (m:M) (v:Value):LB:=⟨mc m v,137,true⟩
theorem eX {H:LH} {l:Nat} {b:LB} (h:H.get l=some b):H.set l b=H:=by
 cases H with
 |mk n g ho w0 ng=>
  simp only [LH.set,LH.mk.injEq,true_and,and_true];funext k;split
  ·rename_i e;subst e;exact h.symm
  ·rfl
@[simp] theorem Ta {a b:UInt8} :((a.toNat:Int)=b.toNat)=(a=b):=by
 apply propext;constructor
 ·intro h;exact UInt8.toNat_inj.1 (by omega)
 ·rintro rfl;rfl
set_option maxRecDepth 100000
section
variable {H:LH} {b:UInt8} {m:M} {v:Value} {p:Nat}
@[simp] theorem KQ:(mb m v).cells.length=13:=by simp only [mb,mc];simp only [List.length_cons,List.length_nil]
@[simp] theorem OO:(mb m v).rw=true:=by simp only [mb]
theorem FI:(mb m v).elem=137:=rfl
@[simp] theorem BT:(mb m v).cells[0]?=some (.int .i64 m.depth):=rfl
@[simp] theorem BU {hl:0<(mb m v).cells.length} :(mb m v).cells[0]'hl=(.int .i64 m.depth):=rfl
@[simp] theorem BV {x:Int} :(⟨(mb m v).cells.set 0 (.int .i64 x),(mb m v).elem,true⟩:LB)=mb { m with depth:=x } v:=rfl
@[simp] theorem Rb:(mb m v).cells[2]?=some (.int .i64 m.at_):=rfl
@[simp] theorem Rc {hl:2<(mb m v).cells.length} :(mb m v).cells[2]'hl=(.int .i64 m.at_):=rfl
@[simp] theorem Rd {x:Int} :(⟨(mb m v).cells.set 2 (.int .i64 x),(mb m v).elem,true⟩:LB)=mb { m with at_:=x } v:=rfl
@[simp] theorem Re:(mb m v).cells[3]?=some (.int .u8 m.by_.toNat):=rfl
@[simp] theorem Rf {hl:3<(mb m v).cells.length} :(mb m v).cells[3]'hl=(.int .u8 m.by_.toNat):=rfl
@[simp] theorem Rh {x:UInt8} :(⟨(mb m v).cells.set 3 (.int .u8 x.toNat),(mb m v).elem,true⟩:LB)=mb { m with by_:=x } v:=rfl
@[simp] theorem OP:(mb m v).cells[4]?=some (.bool m.taken):=rfl
@[simp] theorem OQ {hl:4<(mb m v).cells.length} :(mb m v).cells[4]'hl=(.bool m.taken):=rfl
@[simp] theorem OR {x:Bool} :(⟨(mb m v).cells.set 4 (.bool x),(mb m v).elem,true⟩:LB)=mb { m with taken:=x } v:=rfl
@[simp] theorem Qh:(mb m v).cells[5]?=some (str m.said):=rfl
@[simp] theorem Qi {hl:5<(mb m v).cells.length} :(mb m v).cells[5]'hl=(str m.said):=rfl
@[simp] theorem Qj {x:List UInt8} :(⟨(mb m v).cells.set 5 (str x),(mb m v).elem,true⟩:LB)=mb { m with said:=x } v:=rfl
@[simp] theorem Qk:(mb m v).cells[6]?=some (.int .i64 m.last):=rfl
@[simp] theorem Ql {hl:6<(mb m v).cells.length} :(mb m v).cells[6]'hl=(.int .i64 m.last):=rfl
@[simp] theorem Qm {x:Int} :(⟨(mb m v).cells.set 6 (.int .i64 x),(mb m v).elem,true⟩:LB)=mb { m with last:=x } v:=rfl
@[simp] theorem MA:(mb m v).cells[7]?=some (.bool m.broken):=rfl
@[simp] theorem MB {hl:7<(mb m v).cells.length} :(mb m v).cells[7]'hl=(.bool m.broken):=rfl
@[simp] theorem MC {x:Bool} :(⟨(mb m v).cells.set 7 (.bool x),(mb m v).elem,true⟩:LB)=mb { m with broken:=x } v:=rfl
@[simp] theorem Rj:(mb m v).cells[8]?=some (.bool m.bad):=rfl
@[simp] theorem Rk {hl:8<(mb m v).cells.length} :(mb m v).cells[8]'hl=(.bool m.bad):=rfl
@[simp] theorem Rm {x:Bool} :(⟨(mb m v).cells.set 8 (.bool x),(mb m v).elem,true⟩:LB)=mb { m with bad:=x } v:=rfl
@[simp] theorem BW:(mb m v).cells[9]?=some (.int .i64 m.place):=rfl
@[simp] theorem BX {hl:9<(mb m v).cells.length} :(mb m v).cells[9]'hl=(.int .i64 m.place):=rfl
@[simp] theorem BY {x:Int} :(⟨(mb m v).cells.set 9 (.int .i64 x),(mb m v).elem,true⟩:LB)=mb { m with place:=x } v:=rfl
@[simp] theorem MD:(mb m v).cells[10]?=some (.int .i64 m.pieces):=rfl
@[simp] theorem ME {hl:10<(mb m v).cells.length} :(mb m v).cells[10]'hl=(.int .i64 m.pieces):=rfl
@[simp] theorem MF {x:Int} :(⟨(mb m v).cells.set 10 (.int .i64 x),(mb m v).elem,true⟩:LB)=mb { m with pieces:=x } v:=rfl
@[simp] theorem Qn:(mb m v).cells[11]?=some (.int .i64 m.ends):=rfl
@[simp] theorem Qo {hl:11<(mb m v).cells.length} :(mb m v).cells[11]'hl=(.int .i64 m.ends):=rfl
@[simp] theorem Qp {x:Int} :(⟨(mb m v).cells.set 11 (.int .i64 x),(mb m v).elem,true⟩:LB)=mb { m with ends:=x } v:=rfl
@[simp] theorem v_:(mb m v).cells[12]?=some (.int .i64 m.seen):=rfl
@[simp] theorem wa {hl:12<(mb m v).cells.length} :(mb m v).cells[12]'hl=(.int .i64 m.seen):=rfl
@[simp] theorem wb {x:Int} :(⟨(mb m v).cells.set 12 (.int .i64 x),(mb m v).elem,true⟩:LB)=mb { m with seen:=x } v:=rfl
@[simp] theorem Qq:(⟨(mb m v).cells.set 3 (.int .u8 34),(mb m v).elem,true⟩:LB)=mb { m with by_:=34 } v:=rfl
@[simp] theorem Qr:(⟨(mb m v).cells.set 3 (.int .u8 39),(mb m v).elem,true⟩:LB)=mb { m with by_:=39 } v:=rfl
@[simp] theorem Qs:(⟨(mb m v).cells.set 3 (.int .u8 47),(mb m v).elem,true⟩:LB)=mb { m with by_:=47 } v:=rfl
@[simp] theorem Qt:(⟨(mb m v).cells.set 3 (.int .u8 96),(mb m v).elem,true⟩:LB)=mb { m with by_:=96 } v:=rfl
@[simp] theorem BZ:(mb m v).cells[1]?=some v:=rfl
@[simp] theorem B3 {hl:1<(mb m v).cells.length} :(mb m v).cells[1]'hl=v:=rfl
@[simp] theorem B4 {x:Value} :(⟨(mb m v).cells.set 1 x,(mb m v).elem,true⟩:LB)=mb m x:=rfl
theorem own {f:FuncId} {fn:Func} {c:Code} {args:List Value} {u:Value} {B B':LB} (he:EJ f=none) (hf:Tryz.prog.funcs[f]?=some fn) (hb:fn.body=some c) (hN:args.length<=fn.ntmps) (hname:fn.name≠ "runtime.NumGoroutine") (hcd:codeOk EJ.loud fn.ntmps c=true)
  (hB:H.get p=some B) (hp:p<H.n) (hr:aZ Tryz.prog EJ fn [.code c] (enter args) H (fun r=>r=(u,H.set p B'))):LC Tryz.prog EJ f args H=some (u,H.set p B'):=by
 obtain⟨r,h,rfl⟩:=aD he hf hb hN hname hcd hr;rw [h,kE hB hp]
theorem B5 (h:H.get p=some (mb m v)):LC Tryz.prog EJ 211 [ptr p 0] H=some (.bool m.joined,H):=by
 refine ag rfl Tryz.func211 rfl (Nat.le_of_ble_eq_true rfl) (by decide) (by kernel_rfl) rfl ?_;simp+contextual [h,M.joined]
theorem gp (h:H.get p=some (mb m v)) (hp:p<H.n):LC Tryz.prog EJ 212 [ptr p 0] H=some (.tuple #[],H.set p (mb (m.fail) v)):=by
 refine own rfl Tryz.func212 rfl (Nat.le_of_ble_eq_true rfl) (by decide) (by kernel_rfl) h hp ?_;simp (config:= { maxSteps:=2000000 })+contextual [h,hp,eX h,M.fail,-Int.not_le,-Int.not_lt]
theorem qx (h:H.get p=some (mb m v)) (hp:p<H.n):LC Tryz.prog EJ 213 [ptr p 0] H=some (.tuple #[],H.set p (mb (m.piece) v)):=by
 refine own rfl Tryz.func213 rfl (Nat.le_of_ble_eq_true rfl) (by decide) (by kernel_rfl) h hp ?_;simp (config:= { maxSteps:=2000000 })+contextual [h,hp,eX h,M.piece,-Int.not_le,-Int.not_lt]
theorem jO {l:Int} (h:H.get p=some (mb m v)) (hp:p<H.n):LC Tryz.prog EJ 216 [ptr p 0,.int .i64 l] H=some (.tuple #[],H.set p (mb (m.ended l) v)):=by
 refine own rfl Tryz.func216 rfl (Nat.le_of_ble_eq_true rfl) (by decide) (by kernel_rfl) h hp ?_;simp (config:= { maxSteps:=2000000 })+contextual [h,hp,eX h,M.ended,-Int.not_le,-Int.not_lt]
theorem qz {l:Int} (hp:p<H.n):LC Tryz.prog EJ 216 [ptr p 0,.int .i64 l] (H.set p (mb m v))=some (.tuple #[],H.set p (mb (m.ended l) v)):=by
 rw [jO aw hp,set_set]
theorem uL (h:H.get p=some (mb m v)) (hp:p<H.n):LC Tryz.prog EJ 167 [ptr p 0,.int .u8 b.toNat] H=some (.tuple #[],H.set p (mb (m.inRemark b) v)):=by
 refine own rfl Tryz.func167 rfl (Nat.le_of_ble_eq_true rfl) (by decide) (by kernel_rfl) h hp ?_;simp (config:= { maxSteps:=2000000 })+contextual [h,hp,eX h,M.inRemark,uK,-Int.not_le,-Int.not_lt]
theorem B7 (h:H.get p=some (mb m v)) (hp:p<H.n):LC Tryz.prog EJ 168 [ptr p 0,.int .u8 b.toNat] H=some (.tuple #[],H.set p (mb (m.inLess b) v)):=by
 refine own rfl Tryz.func168 rfl (Nat.le_of_ble_eq_true rfl) (by decide) (by kernel_rfl) h hp ?_;simp (config:= { maxSteps:=2000000 })+contextual [h,hp,eX h,M.inLess,gp h hp,-Int.not_le,-Int.not_lt]
theorem sJ (h:H.get p=some (mb m v)) (hp:p<H.n):LC Tryz.prog EJ 169 [ptr p 0,.int .u8 b.toNat] H=some (.tuple #[],H.set p (mb (m.inText b) v)):=by
 refine own rfl Tryz.func169 rfl (Nat.le_of_ble_eq_true rfl) (by decide) (by kernel_rfl) h hp ?_;simp (config:= { maxSteps:=2000000 })+contextual [h,hp,eX h,M.inText,uK,gp h hp,jO h hp,-Int.not_le,-Int.not_lt]
theorem sK (hp:p<H.n):LC Tryz.prog EJ 169 [ptr p 0,.int .u8 b.toNat] (H.set p (mb m v))=some (.tuple #[],H.set p (mb (m.inText b) v)):=by
 rw [sJ aw hp,set_set]
end
end Go.Proofs.YtbeoilidocfofaaGreatDoor.Jx
namespace Go.Proofs.YtbeoilidocfofaaGreatDoor.Jx
open Go.Lg Tg.Js
structure At (p:Nat) (H:LH) (m:M) (v:Value):Prop where
 get:H.get p=some (mb m v)
 lt:p<H.n
 row:Row 0 H 5 v (m.stack.map bv)
 dom: ∀l,H.n<=l->H.get l=none
 len:(m.stack.length:Int)<=(m.depth:Int)
 depth:(m.depth:Int)<=200
structure Post (p:Nat) (H:LH) (m:M) (H':LH):Prop where
 at_: ∃v,At p H' m v
 fr: ∀m0 v0 v,At p H m0 v0->At p H' m v->Kp p v0 H v H'
section
variable {p:Nat} {H H' H1:LH} {m m' m1:M} {v v':Value} {b:UInt8}
theorem iS (h:mb m v=mb m' v'):v=v':=by
 have:=congrArg LB.cells h;simp only [mb,mc,List.cons.injEq]at this;exact this.2.1
theorem At.same (h:At p H m v) (k:At p H m' v'):v=v':=by
 have h1:=h.get;rw [k.get]at h1;injection h1 with h1;exact(iS h1).symm
theorem At.off (h:At p H m v):ay v p:=h.row.off_of_elem h.get (by show(137:Nat)≠5;decide)
theorem Post.trans (h:Post p H m1 H1) (k:Post p H1 m' H'):Post p H m' H':=by
 obtain⟨v1,a1⟩:=h.at_;exact⟨k.at_,fun m0 v0 v a0 a=>(h.fr m0 v0 v1 a0 a1).trans (k.fr _ v1 v a1 a)⟩
theorem At.mk_post (h:At p H m v) (k:At p H' m' v') (hk:Kp p v H v' H'):Post p H m' H':=
 ⟨⟨v',k⟩,fun m0 v0 v2 a0 a=>by rw [a0.same h,a.same k];exact hk⟩
theorem At.post (h:At p H m v):Post p H m H:=h.mk_post h Kp.refl
theorem At.set (h:At p H m v) (hs:m'.stack=m.stack) (hd:m'.depth=m.depth):At p (H.set p (mb m' v)) m' v:=by
 refine⟨aw,h.lt,?_,fun l hl=>?_,by rw [hs,hd];exact h.len,by rw [hd];exact h.depth⟩
 ·rw [hs];exact h.row.keep (fun k hk hn=>ah (fun e=>hn (e▸h.off)))
 ·rw [ah (fun e=>by have:=h.lt;have:H.n<=l:=hl;omega)];exact h.dom l hl
theorem At.setPost (h:At p H m v) (hs:m'.stack=m.stack) (hd:m'.depth=m.depth):Post p H m' (H.set p (mb m' v)):=h.mk_post (h.set hs hd) (Kp.set (fun _ h=>h))
theorem At.row_lt (h:At p H m v) {k:Nat} (hn: ¬ay v k):k<H.n:=by
 rcases h.row with⟨rfl,_⟩|⟨k',c,rest,rfl,g1,g2,g3⟩
 ·exact absurd df hn
 ·have:k=k':=by
   refine Classical.byContradiction (fun hne=>hn (fun n c' hx=>?_));injection hx with hx;injection hx with hx;injection hx with hx;omega
  subst this;rcases Nat.lt_or_ge k H.n with h1|h'
  ·exact h1
  ·rw [h.dom k h']at g2;cases g2
theorem dL {u:Value} {f:FuncId} {fn:Func} {c:Code} {args:List Value} (he:EJ f=none) (hf:Tryz.prog.funcs[f]?=some fn) (hb:fn.body=some c) (hN:args.length<=fn.ntmps) (hname:fn.name≠ "runtime.NumGoroutine") (hcd:codeOk EJ.loud fn.ntmps c=true)
  (h:At p H m v) (hr:aZ Tryz.prog EJ fn [.code c] (enter args) H (fun r=>r.1=u/\Post p H m' r.2)): ∃H',LC Tryz.prog EJ f args H=some (u,H')/\Post p H m' H':=by
 obtain⟨⟨u',H'⟩,hl,hu,hp⟩:=aD he hf hb hN hname hcd hr;simp only at hu;subst hu;rcases cm u' H H' with e|⟨e,_,hle⟩
 ·exact⟨H',by rw [hl,e],hp⟩
 ·refine⟨H,by rw [hl,e],?_⟩;obtain⟨⟨v',ha⟩,_⟩:=hp;have hg:=ha.get;rw [hle.2 p h.lt,h.get]at hg;injection hg with hg;have hv:=iS hg;subst hv;refine h.mk_post ⟨by rw [h.get,hg],h.lt,?_,h.dom,ha.len,ha.depth⟩ Kp.refl;exact ha.row.keep (fun k hk hn=>(hle.2 k (h.row_lt hn)).symm)
theorem a_ {f:FuncId} {fn:Func} {c:Code} {args:List Value} (he:EJ f=none) (hf:Tryz.prog.funcs[f]?=some fn) (hb:fn.body=some c) (hN:args.length<=fn.ntmps) (hname:fn.name≠ "runtime.NumGoroutine") (hcd:codeOk EJ.loud fn.ntmps c=true)
  (h:At p H m v) (hr:aZ Tryz.prog EJ fn [.code c] (enter args) H (fun r=>r.1=.tuple #[]/\Post p H m' r.2)): ∃H',LC Tryz.prog EJ f args H=some (.tuple #[],H')/\Post p H m' H':=dL he hf hb hN hname hcd h hr
theorem At.keep (h:At p H m v) (hn:H.n<=H'.n) (hk: ∀k,k<H.n->(k=p\/ ¬ay v k)->H'.get k=H.get k) (hd: ∀l,H'.n<=l->H'.get l=none):At p H' m v:=by
 refine⟨by rw [hk p h.lt (.inl rfl)];exact h.get,Nat.lt_of_lt_of_le h.lt hn,?_,hd,h.len,h.depth⟩;exact h.row.keep (fun k hk1 hn1=>hk k (h.row_lt hn1) (.inr hn1))
theorem At.new (h:At p H m v) {B:LB} :At p (H.new B) m v:=
 h.keep (Nat.le_succ _) (fun k hk _=>aa (by omega)) (fun l hl=>by have hl':H.n+1<=l:=hl;rw [aa (by omega)];exact h.dom l (by omega))
theorem At.newPost {B:LB} (h:At p H m v) (s1:m1.stack=m.stack) (d1:m1.depth=m.depth) (g1:m'.stack=m.stack) (g2:m'.depth=m.depth):Post p H m' (((H.set p (mb m1 v)).new B).set p (mb m' v)):=
 h.mk_post (((h.set s1 d1).new (B:=B)).set (m':=m') (g1.trans s1.symm) (g2.trans d1.symm)) (((Kp.set (fun _ h=>h)).trans Kp.new).trans (Kp.set (fun _ h=>h)))
theorem At.newPost' {B:LB} (h:At p H m v) (g1:m'.stack=m.stack) (g2:m'.depth=m.depth):Post p H m' ((H.new B).set p (mb m' v)):=
 h.mk_post ((h.new (B:=B)).set (m':=m') g1 g2) (Kp.new.trans (Kp.set (fun _ h=>h)))
theorem At.pushed (h:At p H m v) (hc:(m.stack.length:Int)<(m.depth:Int)): ∃v' H',eJ Tryz.prog 49 v (some (1,[.int .u8 b.toNat])) (H.new ⟨[.int .u8 b.toNat],5,true⟩)=some (v',H')/\aC v'=true/\H'.get p=some (mb m v)/\p<H'.n/\
  ∀m'':M,m''.stack=m.stack++ [b]->m''.depth=m.depth->Post p H m'' (H'.set p (mb m'' v')):=by
 have h1:=h.new (B:=⟨[.int .u8 b.toNat],5,true⟩);have hdep:=h.depth;obtain⟨v',H',e1,e2,e3,e4,e5,e6,e7,e8⟩:=Row.push (P:=Tryz.prog) (x:=.int .u8 b.toNat) h1.row Tryz.underlying49 (show ax Tryz.prog 5=some 1 by kernel_rfl) (by simp) (by simp [aH];omega) (Nat.zero_le _) h1.dom;have hg':H'.get p=some (mb m v):=by rw [e4 p h1.lt h1.off];exact h1.get
 have hp':p<H'.n:=Nat.lt_of_lt_of_le h1.lt e3;refine⟨v',H',e1,e2.cell,hg',hp',fun m'' g1 g2=>?_⟩;have hoff: ∀k,k<H.n+1->ay v k->ay v' k:=fun k hk ho=>e5 k hk ho
 have ha:At p (H'.set p (mb m'' v')) m'' v':=by
  refine⟨aw,hp',?_,fun l hl=>?_,by rw [g1,g2];simp;omega,by rw [g2];exact h.depth⟩
  ·have:=e2.keep (H':=H'.set p (mb m'' v')) (fun k hk hn=>ah (fun e=>hn (e▸e5 p h1.lt h1.off)));rw [g1];simpa [bv]using this
  ·rw [ah (fun e=>by have:H'.n<=l:=hl;omega)];exact e6 l hl
 refine h.mk_post ha ⟨by have:H.n+1<=H'.n:=e3;show H.n<=H'.n;omega,fun k hk hkp ho=>?_,fun k hk _ ho=>hoff k (by omega) ho,e7,e8⟩;rw [ah hkp,e4 k (by show k<H.n+1;omega) ho,aa (by omega)]
theorem At.last (h:At p H m v) {xs:List UInt8} {t:UInt8} (hs:m.stack=xs++ [t]):IntKind.i64.wrap ((m.stack.length:Int)-1)=xs.length/\
  (∀H',∃q,iu Tryz.prog 49 v (.int .i64 xs.length) H'=some (q,H')/\gI Tryz.prog 5 q H=some (.int .u8 t.toNat))/\
  ∃v',dG Tryz.prog 49 v none (some (.int .i64 xs.length))=some v'/\aC v'=true/\ ∀m'':M,m''.stack=xs->m''.depth=m.depth-> ∀m2:M,Post p H m'' (H.set p (mb m'' v')):=by
 have hlen:=h.len;have hdep:=h.depth;have hx:(m.stack.map bv).length=xs.length+1:=by simp [hs]
 have hl2:m.stack.length=xs.length+1:=by simp [hs]
 obtain⟨v',e1,e2,e3⟩:=Row.take (P:=Tryz.prog) (kd:=.i64) (j:=xs.length) h.row Tryz.underlying49 (show sz Tryz.prog 5=some 1 by kernel_rfl) (by omega) (by omega);have hgd:(m.stack.map bv).getD (xs.length:Int).toNat Value.nilFunc=.int .u8 t.toNat:=by simp [hs,bv]
 refine⟨by rw [wrap64_in (by omega) (by omega)];omega,fun H'=>?_,v',e1,e2.cell,fun m'' g1 g2 _=>?_⟩
 ·obtain⟨q,f1,f2⟩:=Row.at (P:=Tryz.prog) (H':=H') (kd:=.i64) (j:=xs.length) (d:=.nilFunc) h.row Tryz.underlying49 (show sz Tryz.prog 5=some 1 by kernel_rfl) (show aF Tryz.prog 5=some false by kernel_rfl) (by omega) (by omega);rw [hgd]at f2;exact⟨q,f1,f2⟩
 ·have htk:(m.stack.map bv).take (xs.length:Int).toNat=xs.map bv:=by simp [hs]
  rw [htk]at e2;refine h.mk_post (v':=v') ⟨aw,h.lt,?_,fun l hl=>?_,by rw [g1,g2];omega,by rw [g2];exact hdep⟩ (Kp.set e3)
  ·rw [g1];exact e2.keep (fun k hk hn=>ah (fun e=>hn (e▸e3 p h.off)))
  ·rw [ah (fun e=>by have hh:H.n<=l:=hl;have:=h.lt;omega)];exact h.dom l hl
end
section
variable {p:Nat} {H H' H1:LH} {m m' m1:M} {v v':Value} {b:UInt8}
theorem qB (h:At p H m v):Post p H m.fail (H.set p (mb m.fail v)):=h.setPost rfl rfl
theorem jP (h:At p H m v): ∃H',LC Tryz.prog EJ 217 [ptr p 0,.int .u8 b.toNat] H=some (.tuple #[],H')/\Post p H (m.push b) H':=by
 refine a_ rfl Tryz.func217 rfl (Nat.le_of_ble_eq_true rfl) (by decide) (by kernel_rfl) h ?_;have hl:=fun H'=>h.row.len (H':=H') Tryz.underlying49;have hg:=h.get;have hp:=h.lt;have hlen:=h.len;by_cases hc:(m.stack.length:Int)=m.depth
 ·simp+contextual [hg,hl,gp hg h.lt,hc];unfold M.push;rw [if_pos hc];exact h.setPost rfl rfl
 ·obtain⟨v',H',e1,hc',hg',hp',key⟩:=h.pushed (b:=b) (by omega);simp+contextual [hg,hl,hc,e1,hg',hc',hp',qz];unfold M.push;rw [if_neg hc];exact key _ rfl rfl
set_option maxHeartbeats 4000000 in
theorem kK (h:At p H m v): ∃H',LC Tryz.prog EJ 247 [ptr p 0,.int .u8 b.toNat] H=some (.tuple #[],H')/\Post p H (m.pop b) H':=by
 refine a_ rfl Tryz.func247 rfl (Nat.le_of_ble_eq_true rfl) (by decide) (by kernel_rfl) h ?_;have hl:=fun H'=>h.row.len (H':=H') Tryz.underlying49;have hg:=h.get;have hp:=h.lt;have hlen:=h.len;have hdep:=h.depth;rcases List.eq_nil_or_concat m.stack with hs|⟨xs,t,hs⟩
 ·simp (config:= { maxSteps:=4000000 })+contextual [hg,hl,hs,gp hg h.lt];simpa [M.pop,hs]using qB h
 ·rw [List.concat_eq_append]at hs;obtain⟨hw0,hat,v',e1,hcv,key0⟩:=h.last hs;have key:=fun m'' g1 g2=>key0 m'' g1 g2 m;obtain⟨q,f1,f2⟩:=hat H;have hw:IntKind.i64.wrap (xs.length:Int)=xs.length:=w64_in (by omega) (by rw [hs]at hlen;simp at hlen;omega);have hf:=gp hg h.lt;have hpa:=fun H=>KP (H:=H) (b:=b);have hneg:((xs.length:Int)<0)=False:=eq_false (by omega);have hen:=fun m l=>qz (H:=H) (m:=m) (v:=v') (l:=l) hp;have hlast:m.stack.getLast?=some t:=by simp [hs]
  have hdrop:m.stack.dropLast=xs:=by simp [hs]
  by_cases hb:b=125
  ·have hb':(b=125)=True:=eq_true hb;by_cases ht:t=96
   ·have ht':(t=96)=True:=eq_true ht;simp (config:= { maxSteps:=4000000 }) [hg,hl,hs,hw,e1,f1,f2,hf,hpa,hcv,hen,hp,hneg,hb',ht'];have hpop:m.pop b= { m with stack:=xs,at_:=4,by_:=96 } :=by simp [M.pop,hlast,hdrop,hb,ht]
    rw [hpop];have hk:=key ({ m with stack:=xs,at_:=4,by_:=96 }) rfl rfl;exact hk
   ·have ht':(t=96)=False:=eq_false ht;by_cases hq:t=M.pair b
    ·have hq':(t=M.pair b)=True:=eq_true hq;by_cases hx0:xs= []
     ·have hx0':(xs= [])=True:=eq_true hx0;simp (config:= { maxSteps:=4000000 }) [hg,hl,hs,hw,e1,f1,f2,hf,hpa,hcv,hen,hp,hneg,hb',ht',hq',hx0'];have hq2:t=M.pair 125:=hb▸hq;have hpop:m.pop b= { ({ m with stack:=xs } :M).ended 2 with ends:=w64 (m.ends+1) } :=by simp [M.pop,hlast,hdrop,hb,ht',hq2,hs,hx0,M.ended,M.pair]
      rw [hpop];have hk:=key ({ ({ m with stack:=xs } :M).ended 2 with ends:=w64 (m.ends+1) }) rfl rfl;exact hk
     ·simp (config:= { maxSteps:=4000000 }) [hg,hl,hs,hw,e1,f1,f2,hf,hpa,hcv,hen,hp,hneg,hb',ht',hq',hx0];have hq2:t=M.pair 125:=hb▸hq;have hpop:m.pop b=({ m with stack:=xs } :M).ended 2:=by simp [M.pop,hlast,hdrop,hb,ht',hq2,hs,hx0,M.ended,M.pair]
      rw [hpop];have hk:=key (({ m with stack:=xs } :M).ended 2) rfl rfl;exact hk
    ·have hq':(t=M.pair b)=False:=eq_false hq;simp (config:= { maxSteps:=4000000 }) [hg,hl,hs,hw,e1,f1,f2,hf,hpa,hcv,hen,hp,hneg,hb',ht',hq']
     have hpop:m.pop b=m.fail:=by
      unfold M.pop;rw [hlast];simp [ht',hq']
     rw [hpop];exact qB h
  ·have hb':(b=125)=False:=eq_false hb;by_cases hq:t=M.pair b
   ·have hq':(t=M.pair b)=True:=eq_true hq;simp (config:= { maxSteps:=4000000 }) [hg,hl,hs,hw,e1,f1,f2,hf,hpa,hcv,hen,hp,hneg,hb',hq']
    have hpop:m.pop b=({ m with stack:=xs } :M).ended 1:=by
     unfold M.pop;rw [hlast];simp [hb',hq',hdrop]
    rw [hpop];have hk:=key (({ m with stack:=xs } :M).ended 1) rfl rfl;exact hk
   ·have hq':(t=M.pair b)=False:=eq_false hq;simp (config:= { maxSteps:=4000000 }) [hg,hl,hs,hw,e1,f1,f2,hf,hpa,hcv,hen,hp,hneg,hb',hq']
    have hpop:m.pop b=m.fail:=by
     unfold M.pop;rw [hlast];simp [hb',hq']
    rw [hpop];exact qB h
end
section
variable {H:LH} {b:UInt8} {l n:Nat} {B:LB} {xs:List (List UInt8)} {s:List UInt8}
theorem iq {v:Value} {H':LH} (h:ao v=false):trunc H (v,H')=(v,H'):=by
 unfold trunc;rw [if_neg (by simp [h])]
theorem KR:iR= [97,119,97,105,116,32,98,114,101,97,107,32,99,97,115,101,32,99,97,116,99,104,32,99,108,97,115,115,32,99,111,110,115,116,32,99,111,110,116,105,110,117,101,32,100,101,102,97,117,108,116,32,100,101,108,101,116,101,32,100,111,32,101,108,115,101,32,101,120,112,111,114,116,32,101,120,116,101,110,100,115,32,102,105,110,97,108,108,121,32,102,111,114,32,102,114,111,109,32,102,117,110,99,116,105,111,110,32,103,101,116,32,105,102,32,105,109,112,111,114,116,32,105,110,32,105,110,115,116,97,110,99,101,111,102,32,108,101,116,32,110,101,119,32,111,102,32,114,101,116,117,114,110,32,115,101,116,32,115,116,97,116,105,99,32,115,119,105,116,99,104,32,116,104,114,111,119,32,116,114,121,32,116,121,112,101,111,102,32,118,97,114,32,118,111,105,100,32,119,104,105,108,101,32,119,105,116,104,32,121,105,101,108,100,32,97,115,121,110,99,32,97,115]:=by decide+kernel
theorem ny (ht:cJ H):LC Tryz.prog EJ 88 [str [97,119,97,105,116,32,98,114,101,97,107,32,99,97,115,101,32,99,97,116,99,104,32,99,108,97,115,115,32,99,111,110,115,116,32,99,111,110,116,105,110,117,101,32,100,101,102,97,117,108,116,32,100,101,108,101,116,101,32,100,111,32,101,108,115,101,32,101,120,112,111,114,116,32,101,120,116,101,110,100,115,32,102,105,110,97,108,108,121,32,102,111,114,32,102,114,111,109,32,102,117,110,99,116,105,111,110,32,103,101,116,32,105,102,32,105,109,112,111,114,116,32,105,110,32,105,110,115,116,97,110,99,101,111,102,32,108,101,116,32,110,101,119,32,111,102,32,114,101,116,117,114,110,32,115,101,116,32,115,116,97,116,105,99,32,115,119,105,116,99,104,32,116,104,114,111,119,32,116,114,121,32,116,121,112,101,111,102,32,118,97,114,32,118,111,105,100,32,119,104,105,108,101,32,119,105,116,104,32,121,105,101,108,100,32,97,115,121,110,99,32,97,115]] H=some (sl H.n 39 39,H.new ⟨dm.map str,9,true⟩):=by
 rw [<-KR];exact BR ht
theorem uM (ht:cJ H):LC Tryz.prog EJ 248 [] H=some (sl H.n 39 39,H.new ⟨dm.map str,9,true⟩):=by
 obtain⟨r,h,e⟩:=aD (Q:=fun r=>r=(sl H.n 39 39,H.new ⟨dm.map str,9,true⟩)) (P:=Tryz.prog) (E:=EJ) (H:=H) (args:= []) rfl Tryz.func248 rfl (Nat.le_of_ble_eq_true rfl) (by decide) (by kernel_rfl) (by simp [ny ht]);rw [h,e,iq (by simp [ao,az,aA])]
def find (s:List UInt8):List (List UInt8)->Int->Int
 | [],_=> -1
 |x::xs,k=>if s=x then k else find s xs (k+1)
theorem FJ (h:H.get l=some B) (hb:B.cells=xs.map str) (hn:xs.length<=1048576):LC Tryz.prog EJ 119 [sl l xs.length n,str s] H=some (.int .i64 (find s xs 0),H):=by
 refine ag rfl Tryz.func119 rfl (Nat.le_of_ble_eq_true rfl) (by decide) (by kernel_rfl) rfl ?_;simp+contextual;refine aK (fun(i:Nat) fr' H'=>fr' 0=sl l xs.length n/\fr' 1=str s/\fr' 7=.int .i64 xs.length/\fr' 8=.int .i64 i/\i<=xs.length/\find s (xs.drop i) i=find s xs 0/\H'=H) (fun i=>xs.length-i) 0 (by simp) ?_;rintro i fr' H' ⟨h0,h1,h7,h8,hi,hh,rfl⟩ ih;by_cases hlt:i<xs.length
 ·obtain⟨x,hx⟩: ∃x,xs[i]?=some x:=⟨_,List.getElem?_eq_getElem hlt⟩
  have hd:xs.drop i=x::xs.drop (i+1):=by
   rw [List.drop_eq_getElem_cons hlt];rw [List.getElem?_eq_getElem hlt]at hx;injection hx with hx;rw [hx]
  have hc:B.cells[i]?=some (str x):=by rw [hb];simp [hx]
  have hw:IntKind.i64.wrap ((i:Int)+1)=((i+1:Nat):Int):=by rw [wrap64_in (by omega) (by omega)];omega
  rw [hd,find]at hh;by_cases hs:s=x
  ·have hs':(s=x)=True:=eq_true hs;rw [if_pos hs]at hh;simp [h0,h1,h7,h8,hlt,h,hc,hs',<-hh]
  ·have hs':(s=x)=False:=eq_false hs;rw [if_neg hs]at hh;simp [h0,h1,h7,h8,hlt,h,hc,hs',hw];exact ih (i+1) _ _ (by omega) ⟨by simp [h0],by simp [h1],by simp [h7],by simp,hlt,by simpa using hh,rfl⟩
 ·have hd:xs.drop i= []:=List.drop_eq_nil_of_le (by omega);rw [hd,find]at hh;simp [h0,h1,h7,h8,hlt,<-hh]
theorem sL: ∀(xs:List (List UInt8)) (k:Int),0<=k->(0<=find s xs k↔s∈xs)
 | [],k,h=>by simp [find]
 |x::xs,k,h=>by
  unfold find;by_cases hs:s=x
  ·simp [hs,h]
  ·rw [if_neg hs,sL xs (k+1) (by omega)];simp [hs]
theorem uN (h:H.get l=some B) (hb:B.cells=xs.map str) (hn:xs.length<=1048576):LC Tryz.prog EJ 87 [sl l xs.length n,str s] H=some (.bool (xs.contains s),H):=by
 refine ag rfl Tryz.func87 rfl (Nat.le_of_ble_eq_true rfl) (by decide) (by kernel_rfl) rfl ?_;have hi:=FJ (s:=s) (n:=n) h hb hn;have:=sL (s:=s) xs 0 (by decide);simp [hi,this]
theorem B9:dm.length=39:=by decide+kernel
theorem lk (ht:cJ H):LC Tryz.prog EJ 215 [str s] H=some (.bool (dP s),H):=by
 refine ag rfl Tryz.func215 rfl (Nat.le_of_ble_eq_true rfl) (by decide) (by kernel_rfl) rfl ?_;have hk:=uM ht;have hc:=uN (H:=H.new ⟨dm.map str,9,true⟩) (l:=H.n) (n:=39) (s:=s) (xs:=dm) ak rfl (by rw [B9];decide);rw [B9]at hc;simp [hk,hc,dP,le_refl.new]
end
section
variable {p:Nat} {H H' H1:LH} {m m' m1:M} {v v':Value} {b:UInt8}
theorem xZ:signs= [123,125,40,41,91,93,59,44,60,62,61,33,43,45,42,47,37,38,124,94,126,63,58,46]:=by decide+kernel
theorem FK:LC Tryz.prog EJ 201 [str [123,125,40,41,91,93,59,44,60,62,61,33,43,45,42,47,37,38,124,94,126,63,58,46],.int .u8 b.toNat] H=some (.int .i64 (Lib.indexByte signs b),H):=by
 rw [<-xZ];exact lj
set_option maxHeartbeats 4000000 in
theorem wc (h:At p H m v): ∃H',LC Tryz.prog EJ 214 [ptr p 0,.int .u8 b.toNat] H=some (.tuple #[],H')/\Post p H (m.sign b) H':=by
 refine a_ rfl Tryz.func214 rfl (Nat.le_of_ble_eq_true rfl) (by decide) (by kernel_rfl) h ?_;have hg:=h.get;have hp:=h.lt;have h1:=h.set (m':=m.piece) rfl rfl;have hq:=h.setPost (m':=m.piece) rfl rfl;obtain⟨Hu,eu,pu⟩:=jP (b:=b) h1;obtain⟨Ho,eo,po⟩:=kK (b:=b) h1;have pu':=hq.trans pu;have po':=hq.trans po;have hpc:=qx hg hp;have hl:=fun H'=>h.row.len (H':=H') Tryz.underlying49;have hen:=fun m l=>qz (H:=H) (m:=m) (v:=v) (l:=l) hp;by_cases c1:b=40\/b=91\/b=123
 ·have e:m.sign b=m.piece.push b:=by unfold M.sign;rw [if_pos c1]
  rw [e];rcases c1 with c|c|c
  ·have f40:(b=40)=True:=eq_true c;have f91:(b=91)=False:=eq_false (by rw [c];decide);have f123:(b=123)=False:=eq_false (by rw [c];decide);have f41:(b=41)=False:=eq_false (by rw [c];decide);have f93:(b=93)=False:=eq_false (by rw [c];decide);have f125:(b=125)=False:=eq_false (by rw [c];decide);have f59:(b=59)=False:=eq_false (by rw [c];decide);simp (config:= { maxSteps:=4000000 }) [hpc,eu,f40,f91,f123,f41,f93,f125,f59,pu']
  ·have f40:(b=40)=False:=eq_false (by rw [c];decide);have f91:(b=91)=True:=eq_true c;have f123:(b=123)=False:=eq_false (by rw [c];decide);have f41:(b=41)=False:=eq_false (by rw [c];decide);have f93:(b=93)=False:=eq_false (by rw [c];decide);have f125:(b=125)=False:=eq_false (by rw [c];decide);have f59:(b=59)=False:=eq_false (by rw [c];decide);simp (config:= { maxSteps:=4000000 }) [hpc,eu,f40,f91,f123,f41,f93,f125,f59,pu']
  ·have f40:(b=40)=False:=eq_false (by rw [c];decide);have f91:(b=91)=False:=eq_false (by rw [c];decide);have f123:(b=123)=True:=eq_true c;have f41:(b=41)=False:=eq_false (by rw [c];decide);have f93:(b=93)=False:=eq_false (by rw [c];decide);have f125:(b=125)=False:=eq_false (by rw [c];decide);have f59:(b=59)=False:=eq_false (by rw [c];decide);simp (config:= { maxSteps:=4000000 }) [hpc,eu,f40,f91,f123,f41,f93,f125,f59,pu']
 ·have f40:(b=40)=False:=eq_false (fun c=>c1 (.inl c));have f91:(b=91)=False:=eq_false (fun c=>c1 (.inr (.inl c)));have f123:(b=123)=False:=eq_false (fun c=>c1 (.inr (.inr c)));by_cases c2:b=41\/b=93\/b=125
  ·have e:m.sign b=m.piece.pop b:=by unfold M.sign;rw [if_neg c1,if_pos c2]
   rw [e];rcases c2 with c|c|c
   ·have f40:(b=40)=False:=eq_false (by rw [c];decide);have f91:(b=91)=False:=eq_false (by rw [c];decide);have f123:(b=123)=False:=eq_false (by rw [c];decide);have f41:(b=41)=True:=eq_true c;have f93:(b=93)=False:=eq_false (by rw [c];decide);have f125:(b=125)=False:=eq_false (by rw [c];decide);have f59:(b=59)=False:=eq_false (by rw [c];decide);simp (config:= { maxSteps:=4000000 }) [hpc,eo,f40,f91,f123,f41,f93,f125,f59,po']
   ·have f40:(b=40)=False:=eq_false (by rw [c];decide);have f91:(b=91)=False:=eq_false (by rw [c];decide);have f123:(b=123)=False:=eq_false (by rw [c];decide);have f41:(b=41)=False:=eq_false (by rw [c];decide);have f93:(b=93)=True:=eq_true c;have f125:(b=125)=False:=eq_false (by rw [c];decide);have f59:(b=59)=False:=eq_false (by rw [c];decide);simp (config:= { maxSteps:=4000000 }) [hpc,eo,f40,f91,f123,f41,f93,f125,f59,po']
   ·have f40:(b=40)=False:=eq_false (by rw [c];decide);have f91:(b=91)=False:=eq_false (by rw [c];decide);have f123:(b=123)=False:=eq_false (by rw [c];decide);have f41:(b=41)=False:=eq_false (by rw [c];decide);have f93:(b=93)=False:=eq_false (by rw [c];decide);have f125:(b=125)=True:=eq_true c;have f59:(b=59)=False:=eq_false (by rw [c];decide);simp (config:= { maxSteps:=4000000 }) [hpc,eo,f40,f91,f123,f41,f93,f125,f59,po']
  ·have f41:(b=41)=False:=eq_false (fun c=>c2 (.inl c));have f93:(b=93)=False:=eq_false (fun c=>c2 (.inr (.inl c)));have f125:(b=125)=False:=eq_false (fun c=>c2 (.inr (.inr c)));have en:=fun m'' g1 g2=>h.setPost (m':=m'') g1 g2;by_cases c3:b=59
   ·have f59:=eq_true c3;by_cases c4:m.stack= []
    ·have e8:(m.stack= [])=True:=eq_true c4;simp (config:= { maxSteps:=4000000 }) [hpc,hl,hen,hp,f40,f91,f123,f41,f93,f125,f59,e8]
     have e:m.sign b= { m.piece.ended 0 with ends:=w64 (m.ends+1) } :=by
      unfold M.sign;rw [if_neg c1,if_neg c2,if_pos c3];simp [M.ended,M.piece,c4]
     rw [e];have hk:=en { m.piece.ended 0 with ends:=w64 (m.ends+1) } rfl rfl;exact hk
    ·have e8:(m.stack= [])=False:=eq_false c4;simp (config:= { maxSteps:=4000000 }) [hpc,hl,hen,hp,f40,f91,f123,f41,f93,f125,f59,e8]
     have e:m.sign b=m.piece.ended 0:=by
      unfold M.sign;rw [if_neg c1,if_neg c2,if_pos c3];simp [M.ended,M.piece,c4]
     rw [e];exact en (m.piece.ended 0) rfl rfl
   ·have f59:=eq_false c3;simp (config:= { maxSteps:=4000000 }) [hpc,hl,hen,hp,f40,f91,f123,f41,f93,f125,f59]
    have e:m.sign b=m.piece.ended 0:=by
     unfold M.sign;rw [if_neg c1,if_neg c2,if_neg c3]
    rw [e];exact en (m.piece.ended 0) rfl rfl
theorem B_ {H0:LH} :cg Tryz.prog 49 9 (sl H0.n 1 1) (H0.new ⟨[.int .u8 b.toNat],5,true⟩)=some (str [b]):=
 sj (e:=5) Tryz.underlying49 Tryz.underlying9 Tryz.underlying5 ak (by simp) (by simp)
theorem qC: ∀(l:List UInt8) (c:UInt8),0<=Lib.indexByte l c↔c∈l
 | [],c=>by simp [Lib.indexByte]
 |x::l,c=>by
  have ih:=qC l c;have hge:=Lib.indexByte_ge l c;unfold Lib.indexByte;by_cases hx:x=c
  ·simp [hx]
  ·have hx1:(x==c)=false:=by simp [hx]
   have hx2: ¬c=x:=fun e=>hx e.symm;rw [hx1];simp only [Bool.false_eq_true,if_false,List.mem_cons,hx2,false_or];by_cases h1:Lib.indexByte l c= -1
   ·simp [h1]at ih⊢;exact ih
   ·have:(Lib.indexByte l c== -1)=false:=by simp [h1]
    rw [this];simp only [Bool.false_eq_true,if_false];rw [<-ih];omega
set_option maxHeartbeats 4000000 in
theorem eY (h:At p H m v): ∃H',LC Tryz.prog EJ 163 [ptr p 0,.int .u8 b.toNat] H=some (.tuple #[],H')/\Post p H (m.begin b) H':=by
 refine a_ rfl Tryz.func163 rfl (Nat.le_of_ble_eq_true rfl) (by decide) (by kernel_rfl) h ?_;have hg:=h.get;have hp:=h.lt;have hne:(p=H.n)=False:=eq_false (by omega);have hpc:=qx hg hp;have hfl:=gp hg hp;have hjo:=B5 hg;have en:=fun m'' g1 g2=>h.setPost (m':=m'') g1 g2;obtain⟨Hs,es,ps⟩:=wc (b:=b) h;have hf:=fun H=>uK (H:=H) (b:=b);have hw:=fun H=>FH (H:=H) (b:=b);have hi:=fun H=>vZ (H:=H) (b:=b);have hd:=fun H=>ig (H:=H) (b:=b);have hcb: ∀B,cg Tryz.prog 49 9 (sl H.n 1 1) ((H.set p B).new ⟨[.int .u8 b.toNat],5,true⟩)=some (str [b]):=fun B=>B_ (H0:=H.set p B);have hgn: ∀A B,((H.set p A).new B).get p=some A:=fun A B=>by rw [aa (by show p≠H.n;omega),aw]
 by_cases c1:lZ b=true
 ·simp (config:= { maxSteps:=4000000 }) [hf,c1,hg,hp];have e:m.begin b= { m with broken:=true } :=by unfold M.begin;rw [if_pos c1]
  rw [e];exact en { m with broken:=true } rfl rfl
 rw [Bool.not_eq_true]at c1;by_cases c2:white b=true
 ·simp (config:= { maxSteps:=4000000 }) [hf,hw,c1,c2,hg,hp];have e:m.begin b=m:=by unfold M.begin;simp [c1,c2]
  rw [e];exact h.post
 rw [Bool.not_eq_true]at c2;by_cases c3:inner b=true
 ·by_cases c4:m.joined=true
  ·simp (config:= { maxSteps:=4000000 }) [hf,hw,hi,hjo,hfl,c1,c2,c3,c4,hg,hp];have e:m.begin b=m.fail:=by unfold M.begin;simp [c1,c2,c3,c4]
   rw [e];exact en m.fail rfl rfl
  ·rw [Bool.not_eq_true]at c4;by_cases c5:digit b=true
   ·simp (config:= { maxSteps:=4000000 }) [hf,hw,hi,hd,hjo,hpc,hcb,c1,c2,c3,c4,c5,hg,hp,hgn];have e:m.begin b= { m.piece with at_:=2,said:= [b] } :=by unfold M.begin;simp [c1,c2,c3,c4,c5]
    rw [e];exact h.newPost (m1:=m.piece) (m':= { m.piece with at_:=2,said:= [b] }) rfl rfl rfl rfl
   ·rw [Bool.not_eq_true]at c5;simp (config:= { maxSteps:=4000000 }) [hf,hw,hi,hd,hjo,hpc,hcb,c1,c2,c3,c4,c5,hg,hp,hgn];have e:m.begin b= { m.piece with at_:=1,said:= [b] } :=by unfold M.begin;simp [c1,c2,c3,c4,c5]
    rw [e];exact h.newPost (m1:=m.piece) (m':= { m.piece with at_:=1,said:= [b] }) rfl rfl rfl rfl
 rw [Bool.not_eq_true]at c3;by_cases c34:b=34\/b=39
 ·have e:m.begin b=if m.joined then m.fail else { m.piece with at_:=3,by_:=b } :=by unfold M.begin;simp [c1,c2,c3,c34]
  rw [e];by_cases c4:m.joined=true
  ·rw [if_pos c4];rcases c34 with c|c
   ·have f34:(b=34)=True:=eq_true c;simp (config:= { maxSteps:=4000000 }) [hf,hw,hi,hjo,hfl,hpc,c1,c2,c3,hg,hp,c4,f34];exact en m.fail rfl rfl
   ·have f34:(b=34)=False:=eq_false (by rw [c];decide);have f39:(b=39)=True:=eq_true c;simp (config:= { maxSteps:=4000000 }) [hf,hw,hi,hjo,hfl,hpc,c1,c2,c3,hg,hp,c4,f34,f39];exact en m.fail rfl rfl
  ·rw [if_neg c4];rw [Bool.not_eq_true]at c4;rcases c34 with c|c
   ·have f34:(b=34)=True:=eq_true c;simp (config:= { maxSteps:=4000000 }) [hf,hw,hi,hjo,hfl,hpc,c1,c2,c3,hg,hp,c4,f34];exact en { m.piece with at_:=3,by_:=b } rfl rfl
   ·have f34:(b=34)=False:=eq_false (by rw [c];decide);have f39:(b=39)=True:=eq_true c;simp (config:= { maxSteps:=4000000 }) [hf,hw,hi,hjo,hfl,hpc,c1,c2,c3,hg,hp,c4,f34,f39];exact en { m.piece with at_:=3,by_:=b } rfl rfl
 have f34:(b=34)=False:=eq_false (fun c=>c34 (.inl c));have f39:(b=39)=False:=eq_false (fun c=>c34 (.inr c));by_cases c96:b=96
 ·have f96:=eq_true c96;simp (config:= { maxSteps:=4000000 }) [hf,hw,hi,hjo,hfl,hpc,c1,c2,c3,hg,hp,f34,f39,f96];have e:m.begin b= { m.piece with at_:=4,by_:=b } :=by unfold M.begin;simp [c1,c2,c3,f34,f39,f96]
  rw [e];exact en { m.piece with at_:=4,by_:=b } rfl rfl
 have f96:=eq_false c96;by_cases c47:b=47
 ·have f47:=eq_true c47;simp (config:= { maxSteps:=4000000 }) [hf,hw,hi,hjo,hfl,hpc,c1,c2,c3,hg,hp,f34,f39,f96,f47];have e:m.begin b= { m with at_:=9 } :=by unfold M.begin;simp [c1,c2,c3,f34,f39,f96,f47]
  rw [e];exact en { m with at_:=9 } rfl rfl
 have f47:=eq_false c47;have hss:=fun H=>FK (H:=H) (b:=b)
 have hbody:m.begin b=if b=60/\m.pieces=0 then { m with at_:=13 } else if signs.contains b then m.sign b else m.fail:=by
  unfold M.begin;simp [c1,c2,c3,f34,f39,f96,f47]
 rw [hbody];have hmem:=qC signs b;by_cases c60:b=60
 ·have f60:=eq_true c60;by_cases c0:m.pieces=0
  ·simp (config:= { maxSteps:=4000000 }) [hf,hw,hi,hfl,c1,c2,c3,hg,hp,f34,f39,f96,f47,f60,c0];have hk:=en { m with at_:=13 } rfl rfl;simpa [c0]using hk
  ·by_cases cs:0<=Lib.indexByte signs b
   ·have cs':=eq_true cs;simp (config:= { maxSteps:=4000000 }) [hf,hw,hi,hfl,c1,c2,c3,hg,hp,f34,f39,f96,f47,f60,c0,hss,cs',es];exact(by rw [if_pos (hmem.1 cs)];exact ps)
   ·have cs':=eq_false cs;simp (config:= { maxSteps:=4000000 }) [hf,hw,hi,hfl,c1,c2,c3,hg,hp,f34,f39,f96,f47,f60,c0,hss,cs'];exact(by rw [if_neg (fun hh=>cs (hmem.2 hh))];exact en m.fail rfl rfl)
 ·have f60:=eq_false c60;by_cases cs:0<=Lib.indexByte signs b
  ·have cs':=eq_true cs;simp (config:= { maxSteps:=4000000 }) [hf,hw,hi,hfl,c1,c2,c3,hg,hp,f34,f39,f96,f47,f60,hss,cs',es];exact(by rw [if_pos (hmem.1 cs)];exact ps)
  ·have cs':=eq_false cs;simp (config:= { maxSteps:=4000000 }) [hf,hw,hi,hfl,c1,c2,c3,hg,hp,f34,f39,f96,f47,f60,hss,cs'];exact(by rw [if_neg (fun hh=>cs (hmem.2 hh))];exact en m.fail rfl rfl)
end
section
variable {p:Nat} {H H' H1:LH} {m m' m1:M} {v v':Value} {b:UInt8}
theorem sM (h:At p H m v): ∃H',LC Tryz.prog EJ 165 [ptr p 0,.int .u8 b.toNat] H=some (.tuple #[],H')/\Post p H (m.inDollar b) H':=by
 refine a_ rfl Tryz.func165 rfl (Nat.le_of_ble_eq_true rfl) (by decide) (by kernel_rfl) h ?_;have hg:=h.get;have hp:=h.lt;have h1:=h.set (m':= { m with at_:=4 }) rfl rfl;have hq:=h.setPost (m':= { m with at_:=4 }) rfl rfl;obtain⟨Hu,eu,pu⟩:=jP (b:=96) h1;have pu':=hq.trans pu;have eu':LC Tryz.prog EJ 217 [ptr p 0,.int .u8 96] (H.set p (mb { m with at_:=4 } v))=some (.tuple #[],Hu):=eu;have hit:=sK (H:=H) (m:= { m with at_:=4 }) (v:=v) (b:=b) hp;have en:=fun m'' g1 g2=>h.setPost (m':=m'') g1 g2;by_cases c:b=123
 ·have c':=eq_true c;simp (config:= { maxSteps:=4000000 }) [hg,hp,c',eu'];have e:m.inDollar b=({ m with at_:=4 } :M).push 96:=by unfold M.inDollar;simp [c]
  rw [e];exact pu'
 ·have c':=eq_false c;simp (config:= { maxSteps:=4000000 }) [hg,hp,c',hit];have e:m.inDollar b=({ m with at_:=4 } :M).inText b:=by unfold M.inDollar;simp [c]
  rw [e];refine en _ ?_ ?_
  ·unfold M.inText;repeat' split
   all_goals rfl
  ·unfold M.inText;repeat' split
   all_goals rfl
theorem gq (m:M) (b:UInt8):(m.inText b).stack=m.stack/\(m.inText b).depth=m.depth:=by
 unfold M.inText;repeat' split
 all_goals exact⟨rfl,rfl⟩
theorem iT (h:At p H m v): ∃H',LC Tryz.prog EJ 166 [ptr p 0,.int .u8 b.toNat] H=some (.tuple #[],H')/\Post p H (m.inSlash b) H':=by
 refine a_ rfl Tryz.func166 rfl (Nat.le_of_ble_eq_true rfl) (by decide) (by kernel_rfl) h ?_;have hg:=h.get;have hp:=h.lt;have en:=fun m'' g1 g2=>h.setPost (m':=m'') g1 g2;by_cases c1:b=47
 ·have f1:=eq_true c1;simp (config:= { maxSteps:=4000000 }) [hg,hp,f1];have e:m.inSlash b= { m with at_:=10 } :=by unfold M.inSlash;simp [c1]
  rw [e];exact en { m with at_:=10 } rfl rfl
 have f1:=eq_false c1;by_cases c2:b=42
 ·have f2:=eq_true c2;simp (config:= { maxSteps:=4000000 }) [hg,hp,f1,f2];have e:m.inSlash b= { m with at_:=11 } :=by unfold M.inSlash;simp [c2]
  rw [e];exact en { m with at_:=11 } rfl rfl
 have f2:=eq_false c2;by_cases c3:m.last=1\/m.last=2
 ·obtain⟨Hs,es,ps⟩:=wc (b:=47) h;have es':LC Tryz.prog EJ 214 [ptr p 0,.int .u8 47] H=some (.tuple #[],Hs):=es;obtain⟨v2,h2⟩:=ps.at_;obtain⟨Hb,eb,pb⟩:=eY (b:=b) h2;have e:m.inSlash b=(m.sign 47).begin b:=by unfold M.inSlash;rw [if_neg c1,if_neg c2,if_pos c3]
  rw [e];have pp:=ps.trans pb;by_cases c4:m.last=1
  ·have f4:=eq_true c4;simp (config:= { maxSteps:=4000000 }) [hg,hp,f1,f2,f4,es',eb];exact pp
  ·have f4:=eq_false c4;have f5:(m.last=2)=True:=eq_true (c3.resolve_left c4);simp (config:= { maxSteps:=4000000 }) [hg,hp,f1,f2,f4,f5,es',eb];exact pp
 ·have f4:(m.last=1)=False:=eq_false (fun c=>c3 (.inl c));have f5:(m.last=2)=False:=eq_false (fun c=>c3 (.inr c));have hpc:=qx hg hp;have hit:=sK (H:=H) (m:= { m.piece with at_:=6,by_:=47 }) (v:=v) (b:=b) hp;simp (config:= { maxSteps:=4000000 }) [hg,hp,f1,f2,f4,f5,hpc,hit];have e:m.inSlash b=({ m.piece with at_:=6,by_:=47 } :M).inText b:=by unfold M.inSlash;rw [if_neg c1,if_neg c2,if_neg c3]
  rw [e];exact en _ (gq _ _).1 (gq _ _).2
end
section
variable {p:Nat} {H H' H1:LH} {m m' m1:M} {v v':Value} {b:UInt8}
theorem kL (h:At p H m v) (ht:cJ H): ∃H',LC Tryz.prog EJ 164 [ptr p 0,.int .u8 b.toNat] H=some (.tuple #[],H')/\Post p H (m.inWord b) H':=by
 refine a_ rfl Tryz.func164 rfl (Nat.le_of_ble_eq_true rfl) (by decide) (by kernel_rfl) h ?_;have hg:=h.get;have hp:=h.lt;have hi:=fun H=>vZ (H:=H) (b:=b);have hkw:=fun s=>lk (s:=s) ht;have hcb:cg Tryz.prog 49 9 (sl H.n 1 1) (H.new ⟨[.int .u8 b.toNat],5,true⟩)=some (str [b]):=B_ (H0:=H);have hgn: ∀B,(H.new B).get p=some (mb m v):=fun B=>by rw [aa (by omega)];exact hg
 have grow: ∀(hc:inner b=true\/m.at_=2/\b=46),m.inWord b=if(m.said.length:Int)<=10 then { m with said:=m.said++ [b] } else m:=fun hc=>by
  unfold M.inWord;rw [if_pos hc]
 have hkr:=fun s=>lk (H:=H.ro) (s:=s) ht;have en:=fun m'' g1 g2=>h.setPost (m':=m'') g1 g2;have hla: ∀(hc:(m.said.length:Int)<=10),(m.said.length+1<=9223372036854775807)=True:=fun hc=>eq_true (by omega)
 have bad: ∀(c1:inner b=false) (c2: ¬(m.at_=2/\b=46)),m.inWord b=if m.at_=1/\dP m.said then(m.ended 3).begin b else(m.ended 1).begin b:=fun c1 c2=>by
  unfold M.inWord;rw [if_neg (fun hc=>by rcases hc with hc|hc;(rw [c1]at hc;cases hc);exact c2 hc)]
 by_cases c1:inner b=true
 ·rw [grow (.inl c1)];by_cases c2:(m.said.length:Int)<=10
  ·have f2:=eq_true c2;rw [if_pos c2];simp (config:= { maxSteps:=4000000 }) [hg,hp,hi,c1,f2,hcb,hgn,hla c2];exact h.newPost' rfl rfl
  ·have f2:=eq_false c2;rw [if_neg c2];simp (config:= { maxSteps:=4000000 }) [hg,hp,hi,c1,f2];exact h.post
 rw [Bool.not_eq_true]at c1;by_cases c3:m.at_=2
 ·by_cases c4:b=46
  ·have f4:=eq_true c4;rw [grow (.inr ⟨c3,c4⟩)];by_cases c2:(m.said.length:Int)<=10
   ·have f2:=eq_true c2;rw [if_pos c2];simp (config:= { maxSteps:=4000000 }) [hg,hp,hi,c1,c3,f4,f2,hcb,hgn,hla c2];exact h.newPost' rfl rfl
   ·have f2:=eq_false c2;rw [if_neg c2];simp (config:= { maxSteps:=4000000 }) [hg,hp,hi,c1,c3,f4,f2];exact h.post
  ·have f4:=eq_false c4;have h1:=en (m.ended 1) rfl rfl;obtain⟨v1,a1⟩:=h1.at_;obtain⟨H2,e2,p2⟩:=eY (b:=b) a1;rw [bad c1 (fun hc=>c4 hc.2),if_neg (fun hc=>by have:=hc.1;omega)];have hl:=jO (l:=1) hg hp;simp (config:= { maxSteps:=4000000 }) [hg,hp,hi,c1,c3,f4,hl,e2];exact h1.trans p2
 ·have f3:=eq_false c3;by_cases c5:m.at_=1/\dP m.said=true
  ·have h1:=en (m.ended 3) rfl rfl;obtain⟨v1,a1⟩:=h1.at_;obtain⟨H2,e2,p2⟩:=eY (b:=b) a1;rw [bad c1 (fun hc=>c3 hc.1),if_pos c5];have hl:=jO (l:=3) hg hp;simp (config:= { maxSteps:=4000000 }) [hg,hp,hi,c1,c5.1,hkw,hkr,c5.2,hl,e2];exact h1.trans p2
  ·have h1:=en (m.ended 1) rfl rfl;obtain⟨v1,a1⟩:=h1.at_;obtain⟨H2,e2,p2⟩:=eY (b:=b) a1;rw [bad c1 (fun hc=>c3 hc.1),if_neg c5];have hl:=jO (l:=1) hg hp;by_cases c6:m.at_=1
   ·have c7:dP m.said=false:=by
     cases hk:dP m.said with
     |true=>exact absurd ⟨c6,hk⟩ c5
     |false=>rfl
    simp (config:= { maxSteps:=4000000 }) [hg,hp,hi,c1,c6,hkw,hkr,c7,hl,e2];exact h1.trans p2
   ·have f6:=eq_false c6;simp (config:= { maxSteps:=4000000 }) [hg,hp,hi,c1,f3,f6,hkw,hkr,hl,e2];exact h1.trans p2
end
section
variable {H:LH} {b:UInt8} {l n:Nat} {B:LB} {xs:List Int} {s:Int}
def jQ (s:Int):List Int->Int->Int
 | [],_=> -1
 |x::xs,k=>if s=x then k else jQ s xs (k+1)
theorem Ca (h:H.get l=some B) (hb:B.cells=xs.map (Value.int .i64)) (hn:xs.length<=1048576):LC Tryz.prog EJ 218 [sl l xs.length n,Value.int .i64 s] H=some (.int .i64 (jQ s xs 0),H):=by
 refine ag rfl Tryz.func218 rfl (Nat.le_of_ble_eq_true rfl) (by decide) (by kernel_rfl) rfl ?_;simp+contextual;refine aK (fun(i:Nat) fr' H'=>fr' 0=sl l xs.length n/\fr' 1=Value.int .i64 s/\fr' 7=.int .i64 xs.length/\fr' 8=.int .i64 i/\i<=xs.length/\jQ s (xs.drop i) i=jQ s xs 0/\H'=H) (fun i=>xs.length-i) 0 (by simp) ?_;rintro i fr' H' ⟨h0,h1,h7,h8,hi,hh,rfl⟩ ih;by_cases hlt:i<xs.length
 ·obtain⟨x,hx⟩: ∃x,xs[i]?=some x:=⟨_,List.getElem?_eq_getElem hlt⟩
  have hd:xs.drop i=x::xs.drop (i+1):=by
   rw [List.drop_eq_getElem_cons hlt];rw [List.getElem?_eq_getElem hlt]at hx;injection hx with hx;rw [hx]
  have hc:B.cells[i]?=some (Value.int .i64 x):=by rw [hb];simp [hx]
  have hw:IntKind.i64.wrap ((i:Int)+1)=((i+1:Nat):Int):=by rw [wrap64_in (by omega) (by omega)];omega
  rw [hd,jQ]at hh;by_cases hs:s=x
  ·have hs':(s=x)=True:=eq_true hs;rw [if_pos hs]at hh;simp [h0,h1,h7,h8,hlt,h,hc,hs',<-hh]
  ·have hs':(s=x)=False:=eq_false hs;rw [if_neg hs]at hh;simp [h0,h1,h7,h8,hlt,h,hc,hs',hw];exact ih (i+1) _ _ (by omega) ⟨by simp [h0],by simp [h1],by simp [h7],by simp,hlt,by simpa using hh,rfl⟩
 ·have hd:xs.drop i= []:=List.drop_eq_nil_of_le (by omega);rw [hd,jQ]at hh;simp [h0,h1,h7,h8,hlt,<-hh]
theorem oT: ∀(xs:List Int) (k:Int),0<=k->(0<=jQ s xs k↔s∈xs)
 | [],k,h=>by simp [jQ]
 |x::xs,k,h=>by
  unfold jQ;by_cases hs:s=x
  ·simp [hs,h]
  ·rw [if_neg hs,oT xs (k+1) (by omega)];simp [hs]
theorem sN (h:H.get l=some B) (hb:B.cells=xs.map (Value.int .i64)) (hn:xs.length<=1048576):LC Tryz.prog EJ 170 [sl l xs.length n,Value.int .i64 s] H=some (.bool (xs.contains s),H):=by
 refine ag rfl Tryz.func170 rfl (Nat.le_of_ble_eq_true rfl) (by decide) (by kernel_rfl) rfl ?_;have hi:=Ca (s:=s) (n:=n) h hb hn;have:=oT (s:=s) xs 0 (by decide);simp [hi,this]
theorem KS {p:Nat} {m:M} {v:Value} {B0:LB} (hg:H.get p=some B0) (hc0:B0.cells=(mb m v).cells) (hp:p<H.n) (hl: ∀H',aI Tryz.prog .len [49] [v] H'=some (.int .i64 (m.stack.map bv).length,H')):LC Tryz.prog EJ 112 [ptr p 0] H=some (.int .i64 m.tell,H):=by
 refine ag rfl Tryz.func112 rfl (Nat.le_of_ble_eq_true rfl) (by decide) (by kernel_rfl) rfl ?_;have hgn: ∀B,(H.new B).get p=some B0:=fun B=>by rw [aa (by omega)];exact hg
 by_cases c1:m.bad=true
 ·simp (config:= { maxSteps:=4000000 }) [hg,hc0,hp,c1,M.tell]
 ·rw [Bool.not_eq_true]at c1;by_cases c2:m.stack= []
  ·have f2:=eq_true c2
   have hc:LC Tryz.prog EJ 170 [sl H.n 5 5,.int .i64 m.at_] (H.new ⟨[.int .i64 0,.int .i64 1,.int .i64 2,.int .i64 8,.int .i64 10],3,true⟩)=some (.bool (([0,1,2,8,10]:List Int).contains m.at_),H.new ⟨[.int .i64 0,.int .i64 1,.int .i64 2,.int .i64 8,.int .i64 10],3,true⟩):=
    sN (l:=H.n) (n:=5) (s:=m.at_) (xs:= [0,1,2,8,10]) ak rfl (by decide)
   by_cases c3:(([0,1,2,8,10]:List Int).contains m.at_)=true
   ·have e:m.tell=2:=by
     unfold M.tell;rw [c1,if_neg (by simp),if_pos ⟨c2,by simpa using c3⟩]
    rw [c3]at hc;simp (config:= { maxSteps:=4000000 }) [hg,hc0,hp,c1,hl,f2,hgn,hc,e,le_refl.new]
   ·rw [Bool.not_eq_true]at c3
    have e:m.tell=1:=by
     unfold M.tell;rw [c1,if_neg (by simp),if_neg (fun hh=>by
      have h2:=hh.2;have:(([0,1,2,8,10]:List Int).contains m.at_)=true:=by simpa using h2
      rw [this]at c3;cases c3)]
    rw [c3]at hc;simp (config:= { maxSteps:=4000000 }) [hg,hc0,hp,c1,hl,f2,hgn,hc,e,le_refl.new]
  ·have f2:=eq_false c2;simp (config:= { maxSteps:=4000000 }) [hg,hc0,hp,c1,hl,f2,hgn,M.tell]
theorem nA {p:Nat} {m:M} {v:Value} (h:At p H m v):LC Tryz.prog EJ 112 [ptr p 0] H=some (.int .i64 m.tell,H):=
 KS h.get rfl h.lt (fun H'=>h.row.len (H':=H') Tryz.underlying49)
end
section
variable {H:LH}
@[simp] theorem A5 {k:IntKind} {n:Int} :aA (.int k n)=true:=by simp only [aA]
@[simp] theorem xE {x:Bool} :aA (.bool x)=true:=by simp only [aA]
@[simp] theorem A4 {l:List UInt8} :aA (str l)=true:=by simp only [aA,str]
@[simp] theorem H_:aA (.slice none 0 0)=true:=by simp [aA]
@[simp] theorem MG:aA (.pointer none)=true:=by simp only [aA]
@[simp] theorem sG {P:Program} {t:TypeId} {cs:List Value} {i:Nat} {q:Nat×Nat×Bool} {v:Value} {ps:List (Nat×Value)} (hf:aq P t i=some q) (hn:q.2.1=1) (hv:aC v=true) (ho:q.1<cs.length):bG P t cs ((i,v)::ps)=bG P t (cs.set q.1 v) ps:=by
 obtain⟨o,n,g⟩:=q;exact aB hf hn hv ho
theorem uO (d:Int):(⟨[.int .i64 d,.slice none 0 0,.int .i64 0,.int .u8 0,.bool false,str [],.int .i64 0,.bool false,.bool false,.int .i64 (-1),.int .i64 0,.int .i64 0,.int .i64 0],137,true⟩:LB)=mb (new d) (.slice none 0 0):=rfl
theorem new_l {d:Int} (h0:0<=d) (h1:d<=200): ∃r,LC Tryz.prog EJ 75 [.int .i64 d] H=some r/\r=(.tuple #[ptr H.n 0,.int .i64 0],H.new (mb (new d) (.slice none 0 0))):=by
 obtain⟨r,h,e⟩:=aD (Q:=fun r=>r=(.tuple #[ptr H.n 0,.int .i64 0],H.new (mb (new d) (.slice none 0 0)))) (P:=Tryz.prog) (E:=EJ) (H:=H) (args:= [.int .i64 d]) rfl Tryz.func75 rfl (Nat.le_of_ble_eq_true rfl) (by decide) (by kernel_rfl) (by
  have f1:(d<0)=False:=eq_false (by omega);have f2:(200<d)=False:=eq_false (by omega);simp (config:= { maxSteps:=4000000 }) [f1,f2,uO])
 refine⟨r,?_,e⟩;rw [h,e,iq (by simp [ao,az,aA])]
end
section
variable {p:Nat} {H H' H1:LH} {m m' m1:M} {v v':Value} {b:UInt8} {s:List UInt8}
theorem nB (m:M) (b:UInt8):(m.inRemark b).stack=m.stack/\(m.inRemark b).depth=m.depth:=by
 unfold M.inRemark;dsimp only;repeat' split
 all_goals exact⟨rfl,rfl⟩
theorem qD (m:M) (b:UInt8):(m.inLess b).stack=m.stack/\(m.inLess b).depth=m.depth:=by
 unfold M.inLess;repeat' split
 all_goals exact⟨rfl,rfl⟩
theorem qE (h:At p H m v) (ht:cJ H): ∃H',LC Tryz.prog EJ 111 [ptr p 0,.int .u8 b.toNat] H=some (.tuple #[],H')/\Post p H (m.byte b) H':=by
 refine a_ rfl Tryz.func111 rfl (Nat.le_of_ble_eq_true rfl) (by decide) (by kernel_rfl) h ?_;have hg:=h.get;have hp:=h.lt;have en:=fun m'' (g:m''.stack=m.stack/\m''.depth=m.depth)=>h.setPost (m':=m'') g.1 g.2;obtain⟨H0,e0,p0⟩:=eY (b:=b) h;obtain⟨H1,e1,p1⟩:=kL (b:=b) h ht;obtain⟨H2,e2,p2⟩:=sM (b:=b) h;obtain⟨H3,e3,p3⟩:=iT (b:=b) h;have e4:=uL (b:=b) hg hp;have p4:=en _ (nB m b);have e5:=B7 (b:=b) hg hp;have p5:=en _ (qD m b);have e6:=sJ (b:=b) hg hp;have p6:=en _ (gq m b);unfold M.byte;by_cases c:m.at_=0
 ·simp (config:= { maxSteps:=4000000 }) [hg,hp,c,e0];exact p0
 have f0:=eq_false c;by_cases c:m.at_=1
 ·simp (config:= { maxSteps:=4000000 }) [hg,hp,c,e1];exact p1
 have f1:=eq_false c;by_cases c:m.at_=2
 ·simp (config:= { maxSteps:=4000000 }) [hg,hp,c,e1];exact p1
 have f2:=eq_false c;by_cases c:m.at_=8
 ·simp (config:= { maxSteps:=4000000 }) [hg,hp,c,e1];exact p1
 have f8:=eq_false c;by_cases c:m.at_=5
 ·simp (config:= { maxSteps:=4000000 }) [hg,hp,c,e2];exact p2
 have f5:=eq_false c;by_cases c:m.at_=9
 ·simp (config:= { maxSteps:=4000000 }) [hg,hp,c,e3];exact p3
 have f9:=eq_false c;by_cases c:m.at_=10
 ·simp (config:= { maxSteps:=4000000 }) [hg,hp,c,e4];exact p4
 have f10:=eq_false c;by_cases c:m.at_=11
 ·simp (config:= { maxSteps:=4000000 }) [hg,hp,c,e4];exact p4
 have f11:=eq_false c;by_cases c:m.at_=12
 ·simp (config:= { maxSteps:=4000000 }) [hg,hp,c,e4];exact p4
 have f12:=eq_false c;by_cases c:m.at_=13
 ·simp (config:= { maxSteps:=4000000 }) [hg,hp,c,e5];exact p5
 have f13:=eq_false c;by_cases c:m.at_=14
 ·simp (config:= { maxSteps:=4000000 }) [hg,hp,c,e5];exact p5
 have f14:=eq_false c;by_cases c:m.at_=15
 ·simp (config:= { maxSteps:=4000000 }) [hg,hp,c,e5];exact p5
 have f15:=eq_false c;simp (config:= { maxSteps:=4000000 }) [hg,hp,f0,f1,f2,f8,f5,f9,f10,f11,f12,f13,f14,f15,e6];exact p6
theorem cJ.post {m0:M} (ht:cJ H) (h0:At p H m0 v) (hp:Post p H m H'):cJ H':=by
 obtain⟨v',a⟩:=hp.at_;have k:=hp.fr _ _ _ h0 a;exact⟨by rw [k.ng];exact ht.1,by rw [k.base];exact ht.2⟩
theorem feed_take (m:M) (s:List UInt8) {i:Nat} (h:i<s.length):m.feed (s.take (i+1))=(m.feed (s.take i)).step s[i]:=by
 rw [List.take_succ_eq_append_getElem h,M.feed_append];rfl
theorem feed_ex (h:At p H m v) (ht:cJ H) (hs:s.length<=1048576): ∃H',LC Tryz.prog EJ 77 [ptr p 0,str s] H=some (.int .i64 (m.feed s).tell,H')/\Post p H (m.feed s) H':=by
 refine dL rfl Tryz.func77 rfl (Nat.le_of_ble_eq_true rfl) (by decide) (by kernel_rfl) h ?_;simp;refine aK (fun(i:Nat) fr' H'=>fr' 0=ptr p 0/\fr' 1=str s/\fr' 9=.int .i64 s.length/\fr' 10=.int .i64 i/\i<=s.length/\Post p H (m.feed (s.take i)) H') (fun i=>s.length-i) 0 ?_ ?_
 ·exact⟨by simp,by simp,by simp,by simp,Nat.zero_le _,h.post⟩
 rintro i fr' H' ⟨h0,h1,h9,h10,hi,hpo⟩ ih;obtain⟨v1,a1⟩:=hpo.at_;have hg:=a1.get;have hp:=a1.lt;by_cases hlt:i<s.length
 ·have hw:IntKind.i64.wrap ((i:Int)+1)=((i+1:Nat):Int):=by rw [wrap64_in (by omega) (by omega)];omega
  have hat:at_ s i=s[i]:=by simp [at_,hlt]
  have hst:=feed_take m s hlt;cases hb:(m.feed (s.take i)).bad with
  |true=>
   rw [M.step_bad _ _ hb]at hst;have hb':(!(m.feed (s.take i)).bad)=false:=by rw [hb];rfl
   simp (config:= { maxSteps:=4000000 }) [-Bool.not_eq_eq_eq_not,h0,h1,h9,h10,hlt,hg,hp,hb',hw];refine ih (i+1) _ _ (by omega) ⟨by simp [h0],by simp [h1],by simp [h9],by simp,hlt,?_⟩;rw [hst];exact hpo.trans (a1.setPost rfl rfl)
  |false=>
   rw [M.step_good _ _ hb]at hst;obtain⟨H2,e2,p2⟩:=qE (b:=s[i]) a1 (ht.post h hpo);obtain⟨v2,a2⟩:=p2.at_;have hg2:=a2.get;have hp2:=a2.lt;simp (config:= { maxSteps:=4000000 }) [h0,h1,h9,h10,hlt,hg,hp,hb,hw,hat,e2,hg2,hp2];refine ih (i+1) _ _ (by omega) ⟨by simp [h0],by simp [h1],by simp [h9],by simp,hlt,?_⟩;rw [hst];exact(hpo.trans p2).trans (a2.setPost rfl rfl)
 ·have hi2:s.take i=s:=List.take_of_length_le (by omega);rw [hi2]at hpo a1;have e:=nA a1;simp [h0,h1,h9,h10,hlt,e];exact hpo
theorem at_new {d:Int} (h0:0<=d) (h1:d<=200) (hd: ∀l,H.n<=l->H.get l=none):At H.n (H.new (mb (new d) (.slice none 0 0))) (new d) (.slice none 0 0):=
 ⟨ak,Nat.lt_succ_self _,.inl ⟨rfl,rfl⟩,fun l hl=>by
  have:H.n+1<=l:=hl;rw [aa (by omega)];exact hd l (by omega),h0,h1⟩
def clamp (d:Int):Int:=if(if d<0 then 0 else d)>200 then 200 else(if d<0 then 0 else d)
end
end Go.Proofs.YtbeoilidocfofaaGreatDoor.Jx
namespace Go.Proofs.YtbeoilidocfofaaGreatDoor.Jx.Jn
open Go.Lg Tg.Json
def mc (m:M) (v:Value):List Value:= [.int .i64 (m.depth:Nat),v,.int .i64 (m.pos:Nat),.bool m.key,str m.rest,.int .i64 (m.hex:Nat),.bool m.begun,.int .i64 (m.state:Nat),.int .i64 m.place,.int .i64 (m.seen:Nat)]
def mb (m:M) (v:Value):LB:=⟨mc m v,135,true⟩
section
variable {H:LH} {b:UInt8} {m:M} {v:Value} {p:Nat}
@[simp] theorem KQ:(mb m v).cells.length=10:=by simp only [mb,mc];simp only [List.length_cons,List.length_nil]
@[simp] theorem OO:(mb m v).rw=true:=by simp only [mb]
theorem FI:(mb m v).elem=135:=rfl
@[simp] theorem BT:(mb m v).cells[0]?=some (.int .i64 (m.depth:Nat)):=rfl
@[simp] theorem BU {hl:0<(mb m v).cells.length} :(mb m v).cells[0]'hl=(.int .i64 (m.depth:Nat)):=rfl
@[simp] theorem BV {x:Nat} :(⟨(mb m v).cells.set 0 (.int .i64 (x:Nat)),(mb m v).elem,true⟩:LB)=mb { m with depth:=x } v:=rfl
@[simp] theorem Rn:(mb m v).cells[2]?=some (.int .i64 (m.pos:Nat)):=rfl
@[simp] theorem Ro {hl:2<(mb m v).cells.length} :(mb m v).cells[2]'hl=(.int .i64 (m.pos:Nat)):=rfl
@[simp] theorem Rp {x:Nat} :(⟨(mb m v).cells.set 2 (.int .i64 (x:Nat)),(mb m v).elem,true⟩:LB)=mb { m with pos:=x } v:=rfl
@[simp] theorem Qu:(⟨(mb m v).cells.set 2 (.int .i64 0),(mb m v).elem,true⟩:LB)=mb { m with pos:=0 } v:=rfl
@[simp] theorem Qv:(⟨(mb m v).cells.set 2 (.int .i64 1),(mb m v).elem,true⟩:LB)=mb { m with pos:=1 } v:=rfl
@[simp] theorem Qw:(⟨(mb m v).cells.set 2 (.int .i64 2),(mb m v).elem,true⟩:LB)=mb { m with pos:=2 } v:=rfl
@[simp] theorem Qx:(⟨(mb m v).cells.set 2 (.int .i64 3),(mb m v).elem,true⟩:LB)=mb { m with pos:=3 } v:=rfl
@[simp] theorem Qy:(⟨(mb m v).cells.set 2 (.int .i64 4),(mb m v).elem,true⟩:LB)=mb { m with pos:=4 } v:=rfl
@[simp] theorem Qz:(⟨(mb m v).cells.set 2 (.int .i64 5),(mb m v).elem,true⟩:LB)=mb { m with pos:=5 } v:=rfl
@[simp] theorem QA:(⟨(mb m v).cells.set 2 (.int .i64 6),(mb m v).elem,true⟩:LB)=mb { m with pos:=6 } v:=rfl
@[simp] theorem QB:(⟨(mb m v).cells.set 2 (.int .i64 7),(mb m v).elem,true⟩:LB)=mb { m with pos:=7 } v:=rfl
@[simp] theorem QC:(⟨(mb m v).cells.set 2 (.int .i64 8),(mb m v).elem,true⟩:LB)=mb { m with pos:=8 } v:=rfl
@[simp] theorem QD:(⟨(mb m v).cells.set 2 (.int .i64 9),(mb m v).elem,true⟩:LB)=mb { m with pos:=9 } v:=rfl
@[simp] theorem OS:(⟨(mb m v).cells.set 2 (.int .i64 10),(mb m v).elem,true⟩:LB)=mb { m with pos:=10 } v:=rfl
@[simp] theorem OT:(⟨(mb m v).cells.set 2 (.int .i64 11),(mb m v).elem,true⟩:LB)=mb { m with pos:=11 } v:=rfl
@[simp] theorem OU:(⟨(mb m v).cells.set 2 (.int .i64 12),(mb m v).elem,true⟩:LB)=mb { m with pos:=12 } v:=rfl
@[simp] theorem OV:(⟨(mb m v).cells.set 2 (.int .i64 13),(mb m v).elem,true⟩:LB)=mb { m with pos:=13 } v:=rfl
@[simp] theorem OW:(⟨(mb m v).cells.set 2 (.int .i64 14),(mb m v).elem,true⟩:LB)=mb { m with pos:=14 } v:=rfl
@[simp] theorem OX:(⟨(mb m v).cells.set 2 (.int .i64 15),(mb m v).elem,true⟩:LB)=mb { m with pos:=15 } v:=rfl
@[simp] theorem OY:(⟨(mb m v).cells.set 2 (.int .i64 16),(mb m v).elem,true⟩:LB)=mb { m with pos:=16 } v:=rfl
@[simp] theorem OZ:(⟨(mb m v).cells.set 2 (.int .i64 17),(mb m v).elem,true⟩:LB)=mb { m with pos:=17 } v:=rfl
@[simp] theorem Rq:(mb m v).cells[3]?=some (.bool m.key):=rfl
@[simp] theorem Rs {hl:3<(mb m v).cells.length} :(mb m v).cells[3]'hl=(.bool m.key):=rfl
@[simp] theorem Rt {x:Bool} :(⟨(mb m v).cells.set 3 (.bool x),(mb m v).elem,true⟩:LB)=mb { m with key:=x } v:=rfl
@[simp] theorem QE:(mb m v).cells[4]?=some (str m.rest):=rfl
@[simp] theorem QF {hl:4<(mb m v).cells.length} :(mb m v).cells[4]'hl=(str m.rest):=rfl
@[simp] theorem QG {x:List UInt8} :(⟨(mb m v).cells.set 4 (str x),(mb m v).elem,true⟩:LB)=mb { m with rest:=x } v:=rfl
@[simp] theorem Ru:(mb m v).cells[5]?=some (.int .i64 (m.hex:Nat)):=rfl
@[simp] theorem Rv {hl:5<(mb m v).cells.length} :(mb m v).cells[5]'hl=(.int .i64 (m.hex:Nat)):=rfl
@[simp] theorem Rw {x:Nat} :(⟨(mb m v).cells.set 5 (.int .i64 (x:Nat)),(mb m v).elem,true⟩:LB)=mb { m with hex:=x } v:=rfl
@[simp] theorem QH:(⟨(mb m v).cells.set 5 (.int .i64 4),(mb m v).elem,true⟩:LB)=mb { m with hex:=4 } v:=rfl
@[simp] theorem O0:(mb m v).cells[6]?=some (.bool m.begun):=rfl
@[simp] theorem O1 {hl:6<(mb m v).cells.length} :(mb m v).cells[6]'hl=(.bool m.begun):=rfl
@[simp] theorem O2 {x:Bool} :(⟨(mb m v).cells.set 6 (.bool x),(mb m v).elem,true⟩:LB)=mb { m with begun:=x } v:=rfl
@[simp] theorem O3:(mb m v).cells[7]?=some (.int .i64 (m.state:Nat)):=rfl
@[simp] theorem O4 {hl:7<(mb m v).cells.length} :(mb m v).cells[7]'hl=(.int .i64 (m.state:Nat)):=rfl
@[simp] theorem O5 {x:Nat} :(⟨(mb m v).cells.set 7 (.int .i64 (x:Nat)),(mb m v).elem,true⟩:LB)=mb { m with state:=x } v:=rfl
@[simp] theorem MH:(⟨(mb m v).cells.set 7 (.int .i64 0),(mb m v).elem,true⟩:LB)=mb { m with state:=0 } v:=rfl
@[simp] theorem MI:(⟨(mb m v).cells.set 7 (.int .i64 3),(mb m v).elem,true⟩:LB)=mb { m with state:=3 } v:=rfl
@[simp] theorem BW:(mb m v).cells[8]?=some (.int .i64 m.place):=rfl
@[simp] theorem BX {hl:8<(mb m v).cells.length} :(mb m v).cells[8]'hl=(.int .i64 m.place):=rfl
@[simp] theorem BY {x:Int} :(⟨(mb m v).cells.set 8 (.int .i64 x),(mb m v).elem,true⟩:LB)=mb { m with place:=x } v:=rfl
@[simp] theorem v_:(mb m v).cells[9]?=some (.int .i64 (m.seen:Nat)):=rfl
@[simp] theorem wa {hl:9<(mb m v).cells.length} :(mb m v).cells[9]'hl=(.int .i64 (m.seen:Nat)):=rfl
@[simp] theorem wb {x:Nat} :(⟨(mb m v).cells.set 9 (.int .i64 (x:Nat)),(mb m v).elem,true⟩:LB)=mb { m with seen:=x } v:=rfl
@[simp] theorem BZ:(mb m v).cells[1]?=some v:=rfl
@[simp] theorem B3 {hl:1<(mb m v).cells.length} :(mb m v).cells[1]'hl=v:=rfl
@[simp] theorem B4 {x:Value} :(⟨(mb m v).cells.set 1 x,(mb m v).elem,true⟩:LB)=mb m x:=rfl
theorem Cb:Tg.Json.digit b=Tg.Js.digit b:=by
 unfold Tg.Json.digit Tg.Js.digit;simp only [UInt8.le_iff_toNat_le];congr 1<;> · congr 1;apply propext;simp;omega
theorem eK:LC Tryz.prog EJ 187 [.int .u8 b.toNat] H=some (.bool (Tg.Json.digit b),H):=by rw [Cb];exact ig
theorem Cc:LC Tryz.prog EJ 235 [.int .u8 b.toNat] H=some (.bool (Tg.Json.digit b),H):=by rw [Cb];exact sI
theorem lU:LC Tryz.prog EJ 108 [.int .u8 b.toNat] H=some (.bool (Tg.Json.white b),H):=by
 refine ag rfl Tryz.func108 rfl (Nat.le_of_ble_eq_true rfl) (by decide) (by kernel_rfl) rfl ?_;simp+contextual [Tg.Json.white,-Int.not_le,-Int.not_lt];intro h1 h2 h3;rw [Bool.eq_iff_iff];simp [h1,h2,h3]
theorem eL {q:Nat} :LC Tryz.prog EJ 162 [.int .i64 (q:Nat)] H=some (.bool (Tg.Json.ended q),H):=by
 refine ag rfl Tryz.func162 rfl (Nat.le_of_ble_eq_true rfl) (by decide) (by kernel_rfl) rfl ?_;have e: ∀k:Nat,((q:Int)=(k:Int))=(q=k):=fun k=>propext (by omega);have e1:=e 11;have e2:=e 12;have e3:=e 14;have e4:=e 17;simp at e1 e2 e3 e4;simp+contextual [Tg.Json.ended,e1,e2,e3,e4,-Int.not_le,-Int.not_lt];intro h1 h2 h3;rw [Bool.eq_iff_iff];simp [h1,h2,h3]
theorem x_:((97:Int)<=b.toNat)=(97<=b):=by rw [UInt8.le_iff_toNat_le];apply propext;simp;omega
theorem oU:((b.toNat:Int)<=102)=(b<=102):=by rw [UInt8.le_iff_toNat_le];apply propext;simp;omega
theorem Cd:((65:Int)<=b.toNat)=(65<=b):=by rw [UInt8.le_iff_toNat_le];apply propext;simp;omega
theorem Ce:((b.toNat:Int)<=70)=(b<=70):=by rw [UInt8.le_iff_toNat_le];apply propext;simp;omega
theorem O6:((b.toNat:Int)<32)=(b<32):=by rw [UInt8.lt_iff_toNat_lt];apply propext;simp;omega
theorem gp {st:Nat} (h:H.get p=some (mb m v)) (hp:p<H.n):LC Tryz.prog EJ 155 [ptr p 0,.int .i64 (st:Nat)] H=some (.tuple #[],H.set p (mb (m.fail st) v)):=by
 refine own rfl Tryz.func155 rfl (Nat.le_of_ble_eq_true rfl) (by decide) (by kernel_rfl) h hp ?_;simp (config:= { maxSteps:=2000000 })+contextual [h,hp,eX h,M.fail,-Int.not_le,-Int.not_lt]
theorem cn (h:H.get p=some (mb m v)) (hp:p<H.n):LC Tryz.prog EJ 155 [ptr p 0,.int .i64 0] H=some (.tuple #[],H.set p (mb (m.fail 0) v)):=gp (st:=0) h hp
theorem FL (h:H.get p=some (mb m v)) (hp:p<H.n):LC Tryz.prog EJ 155 [ptr p 0,.int .i64 3] H=some (.tuple #[],H.set p (mb (m.fail 3) v)):=gp (st:=3) h hp
end
structure At (p:Nat) (H:LH) (m:M) (v:Value):Prop where
 get:H.get p=some (mb m v)
 lt:p<H.n
 row:Row 0 H 5 v (m.stack.map bv)
 dom: ∀l,H.n<=l->H.get l=none
 len:(m.stack.length:Int)<=(m.depth:Int)
 depth:(m.depth:Int)<=200
structure Post (p:Nat) (H:LH) (m:M) (H':LH):Prop where
 at_: ∃v,At p H' m v
 fr: ∀m0 v0 v,At p H m0 v0->At p H' m v->Kp p v0 H v H'
section
variable {p:Nat} {H H' H1:LH} {m m' m1:M} {v v':Value} {b:UInt8}
theorem iS (h:mb m v=mb m' v'):v=v':=by
 have:=congrArg LB.cells h;simp only [mb,mc,List.cons.injEq]at this;exact this.2.1
theorem At.same (h:At p H m v) (k:At p H m' v'):v=v':=by
 have h1:=h.get;rw [k.get]at h1;injection h1 with h1;exact(iS h1).symm
theorem At.off (h:At p H m v):ay v p:=h.row.off_of_elem h.get (by show(135:Nat)≠5;decide)
theorem Post.trans (h:Post p H m1 H1) (k:Post p H1 m' H'):Post p H m' H':=by
 obtain⟨v1,a1⟩:=h.at_;exact⟨k.at_,fun m0 v0 v a0 a=>(h.fr m0 v0 v1 a0 a1).trans (k.fr _ v1 v a1 a)⟩
theorem At.mk_post (h:At p H m v) (k:At p H' m' v') (hk:Kp p v H v' H'):Post p H m' H':=
 ⟨⟨v',k⟩,fun m0 v0 v2 a0 a=>by rw [a0.same h,a.same k];exact hk⟩
theorem At.post (h:At p H m v):Post p H m H:=h.mk_post h Kp.refl
theorem At.set (h:At p H m v) (hs:m'.stack=m.stack) (hd:m'.depth=m.depth):At p (H.set p (mb m' v)) m' v:=by
 refine⟨aw,h.lt,?_,fun l hl=>?_,by rw [hs,hd];exact h.len,by rw [hd];exact h.depth⟩
 ·rw [hs];exact h.row.keep (fun k hk hn=>ah (fun e=>hn (e▸h.off)))
 ·rw [ah (fun e=>by have:=h.lt;have:H.n<=l:=hl;omega)];exact h.dom l hl
theorem At.setPost (h:At p H m v) (hs:m'.stack=m.stack) (hd:m'.depth=m.depth):Post p H m' (H.set p (mb m' v)):=h.mk_post (h.set hs hd) (Kp.set (fun _ h=>h))
theorem At.row_lt (h:At p H m v) {k:Nat} (hn: ¬ay v k):k<H.n:=by
 rcases h.row with⟨rfl,_⟩|⟨k',c,rest,rfl,g1,g2,g3⟩
 ·exact absurd df hn
 ·have:k=k':=by
   refine Classical.byContradiction (fun hne=>hn (fun n c' hx=>?_));injection hx with hx;injection hx with hx;injection hx with hx;omega
  subst this;rcases Nat.lt_or_ge k H.n with h1|h'
  ·exact h1
  ·rw [h.dom k h']at g2;cases g2
theorem dL {u:Value} {f:FuncId} {fn:Func} {c:Code} {args:List Value} (he:EJ f=none) (hf:Tryz.prog.funcs[f]?=some fn) (hb:fn.body=some c) (hN:args.length<=fn.ntmps) (hname:fn.name≠ "runtime.NumGoroutine") (hcd:codeOk EJ.loud fn.ntmps c=true)
  (h:At p H m v) (hr:aZ Tryz.prog EJ fn [.code c] (enter args) H (fun r=>r.1=u/\Post p H m' r.2)): ∃H',LC Tryz.prog EJ f args H=some (u,H')/\Post p H m' H':=by
 obtain⟨⟨u',H'⟩,hl,hu,hp⟩:=aD he hf hb hN hname hcd hr;simp only at hu;subst hu;rcases cm u' H H' with e|⟨e,_,hle⟩
 ·exact⟨H',by rw [hl,e],hp⟩
 ·refine⟨H,by rw [hl,e],?_⟩;obtain⟨⟨v',ha⟩,_⟩:=hp;have hg:=ha.get;rw [hle.2 p h.lt,h.get]at hg;injection hg with hg;have hv:=iS hg;subst hv;refine h.mk_post ⟨by rw [h.get,hg],h.lt,?_,h.dom,ha.len,ha.depth⟩ Kp.refl;exact ha.row.keep (fun k hk hn=>(hle.2 k (h.row_lt hn)).symm)
theorem a_ {f:FuncId} {fn:Func} {c:Code} {args:List Value} (he:EJ f=none) (hf:Tryz.prog.funcs[f]?=some fn) (hb:fn.body=some c) (hN:args.length<=fn.ntmps) (hname:fn.name≠ "runtime.NumGoroutine") (hcd:codeOk EJ.loud fn.ntmps c=true)
  (h:At p H m v) (hr:aZ Tryz.prog EJ fn [.code c] (enter args) H (fun r=>r.1=.tuple #[]/\Post p H m' r.2)): ∃H',LC Tryz.prog EJ f args H=some (.tuple #[],H')/\Post p H m' H':=dL he hf hb hN hname hcd h hr
theorem At.keep (h:At p H m v) (hn:H.n<=H'.n) (hk: ∀k,k<H.n->(k=p\/ ¬ay v k)->H'.get k=H.get k) (hd: ∀l,H'.n<=l->H'.get l=none):At p H' m v:=by
 refine⟨by rw [hk p h.lt (.inl rfl)];exact h.get,Nat.lt_of_lt_of_le h.lt hn,?_,hd,h.len,h.depth⟩;exact h.row.keep (fun k hk1 hn1=>hk k (h.row_lt hn1) (.inr hn1))
theorem At.new (h:At p H m v) {B:LB} :At p (H.new B) m v:=
 h.keep (Nat.le_succ _) (fun k hk _=>aa (by omega)) (fun l hl=>by have hl':H.n+1<=l:=hl;rw [aa (by omega)];exact h.dom l (by omega))
theorem At.newPost {B:LB} (h:At p H m v) (s1:m1.stack=m.stack) (d1:m1.depth=m.depth) (g1:m'.stack=m.stack) (g2:m'.depth=m.depth):Post p H m' (((H.set p (mb m1 v)).new B).set p (mb m' v)):=
 h.mk_post (((h.set s1 d1).new (B:=B)).set (m':=m') (g1.trans s1.symm) (g2.trans d1.symm)) (((Kp.set (fun _ h=>h)).trans Kp.new).trans (Kp.set (fun _ h=>h)))
theorem At.newPost' {B:LB} (h:At p H m v) (g1:m'.stack=m.stack) (g2:m'.depth=m.depth):Post p H m' ((H.new B).set p (mb m' v)):=
 h.mk_post ((h.new (B:=B)).set (m':=m') g1 g2) (Kp.new.trans (Kp.set (fun _ h=>h)))
theorem At.pushed (h:At p H m v) (hc:(m.stack.length:Int)<(m.depth:Int)): ∃v' H',eJ Tryz.prog 49 v (some (1,[.int .u8 b.toNat])) (H.new ⟨[.int .u8 b.toNat],5,true⟩)=some (v',H')/\aC v'=true/\H'.get p=some (mb m v)/\p<H'.n/\
  ∀m'':M,m''.stack=m.stack++ [b]->m''.depth=m.depth->Post p H m'' (H'.set p (mb m'' v')):=by
 have h1:=h.new (B:=⟨[.int .u8 b.toNat],5,true⟩);have hdep:=h.depth;obtain⟨v',H',e1,e2,e3,e4,e5,e6,e7,e8⟩:=Row.push (P:=Tryz.prog) (x:=.int .u8 b.toNat) h1.row Tryz.underlying49 (show ax Tryz.prog 5=some 1 by kernel_rfl) (by simp) (by simp [aH];omega) (Nat.zero_le _) h1.dom;have hg':H'.get p=some (mb m v):=by rw [e4 p h1.lt h1.off];exact h1.get
 have hp':p<H'.n:=Nat.lt_of_lt_of_le h1.lt e3;refine⟨v',H',e1,e2.cell,hg',hp',fun m'' g1 g2=>?_⟩;have hoff: ∀k,k<H.n+1->ay v k->ay v' k:=fun k hk ho=>e5 k hk ho
 have ha:At p (H'.set p (mb m'' v')) m'' v':=by
  refine⟨aw,hp',?_,fun l hl=>?_,by rw [g1,g2];simp;omega,by rw [g2];exact h.depth⟩
  ·have:=e2.keep (H':=H'.set p (mb m'' v')) (fun k hk hn=>ah (fun e=>hn (e▸e5 p h1.lt h1.off)));rw [g1];simpa [bv]using this
  ·rw [ah (fun e=>by have:H'.n<=l:=hl;omega)];exact e6 l hl
 refine h.mk_post ha ⟨by have:H.n+1<=H'.n:=e3;show H.n<=H'.n;omega,fun k hk hkp ho=>?_,fun k hk _ ho=>hoff k (by omega) ho,e7,e8⟩;rw [ah hkp,e4 k (by show k<H.n+1;omega) ho,aa (by omega)]
theorem At.last (h:At p H m v) {xs:List UInt8} {t:UInt8} (hs:m.stack=xs++ [t]):IntKind.i64.wrap ((m.stack.length:Int)-1)=xs.length/\
  (∀H',∃q,iu Tryz.prog 49 v (.int .i64 xs.length) H'=some (q,H')/\gI Tryz.prog 5 q H=some (.int .u8 t.toNat))/\
  ∃v',dG Tryz.prog 49 v none (some (.int .i64 xs.length))=some v'/\aC v'=true/\ ∀m'':M,m''.stack=xs->m''.depth=m.depth-> ∀m2:M,Post p H m'' (H.set p (mb m'' v')):=by
 have hlen:=h.len;have hdep:=h.depth;have hx:(m.stack.map bv).length=xs.length+1:=by simp [hs]
 have hl2:m.stack.length=xs.length+1:=by simp [hs]
 obtain⟨v',e1,e2,e3⟩:=Row.take (P:=Tryz.prog) (kd:=.i64) (j:=xs.length) h.row Tryz.underlying49 (show sz Tryz.prog 5=some 1 by kernel_rfl) (by omega) (by omega);have hgd:(m.stack.map bv).getD (xs.length:Int).toNat Value.nilFunc=.int .u8 t.toNat:=by simp [hs,bv]
 refine⟨by rw [wrap64_in (by omega) (by omega)];omega,fun H'=>?_,v',e1,e2.cell,fun m'' g1 g2 _=>?_⟩
 ·obtain⟨q,f1,f2⟩:=Row.at (P:=Tryz.prog) (H':=H') (kd:=.i64) (j:=xs.length) (d:=.nilFunc) h.row Tryz.underlying49 (show sz Tryz.prog 5=some 1 by kernel_rfl) (show aF Tryz.prog 5=some false by kernel_rfl) (by omega) (by omega);rw [hgd]at f2;exact⟨q,f1,f2⟩
 ·have htk:(m.stack.map bv).take (xs.length:Int).toNat=xs.map bv:=by simp [hs]
  rw [htk]at e2;refine h.mk_post (v':=v') ⟨aw,h.lt,?_,fun l hl=>?_,by rw [g1,g2];omega,by rw [g2];exact hdep⟩ (Kp.set e3)
  ·rw [g1];exact e2.keep (fun k hk hn=>ah (fun e=>hn (e▸e3 p h.off)))
  ·rw [ah (fun e=>by have hh:H.n<=l:=hl;have:=h.lt;omega)];exact h.dom l hl
end
section
variable {p:Nat} {H H' H1:LH} {m m' m1:M} {v v':Value} {b:UInt8}
theorem jP {q:Nat} {k:Int} (h:At p H m v) (hk:((q:Nat):Int)=k) (hs: ∀(m:M) (v:Value),(⟨(mb m v).cells.set 2 (.int .i64 k),(mb m v).elem,true⟩:LB)=mb { m with pos:=q } v): ∃H',LC Tryz.prog EJ 205 [ptr p 0,.int .u8 b.toNat,.int .i64 k] H=some (.tuple #[],H')/\Post p H (m.push b q) H':=by
 refine a_ rfl Tryz.func205 rfl (Nat.le_of_ble_eq_true rfl) (by decide) (by kernel_rfl) h ?_;have hl:=fun H'=>h.row.len (H':=H') Tryz.underlying49;have hg:=h.get;have hp:=h.lt;have hlen:=h.len;by_cases hc:m.stack.length=m.depth
 ·have hc':((m.stack.length:Int)=(m.depth:Int))=True:=eq_true (by omega);simp+contextual [hg,hl,FL hg h.lt,hc',hp];unfold M.push;rw [if_pos hc];exact h.setPost rfl rfl
 ·have hc':((m.stack.length:Int)=(m.depth:Int))=False:=eq_false (by omega);obtain⟨v',H',e1,hcl,hg',hp',key⟩:=h.pushed (b:=b) (by omega);simp+contextual [hg,hl,hc',e1,hg',hcl,hp,hp',hs];unfold M.push;rw [if_neg hc];exact key _ rfl rfl
theorem O7 (h:At p H m v):LC Tryz.prog EJ 206 [ptr p 0] H=some (.int .u8 m.top.toNat,H):=by
 refine ag rfl Tryz.func206 rfl (Nat.le_of_ble_eq_true rfl) (by decide) (by kernel_rfl) rfl ?_;have hl:=fun H'=>h.row.len (H':=H') Tryz.underlying49;have hg:=h.get;have hp:=h.lt;rcases List.eq_nil_or_concat m.stack with hs|⟨xs,t,hs⟩
 ·have ht:m.top=0:=by simp [M.top,hs]
  simp (config:= { maxSteps:=4000000 }) [hg,hp,hl,hs,ht]
 ·rw [List.concat_eq_append]at hs;obtain⟨hw0,hat,_⟩:=h.last hs;obtain⟨q,f1,f2⟩:=hat H;have ht:m.top=t:=by simp [M.top,hs]
  have hne:(m.stack= [])=False:=eq_false (by simp [hs]);have hn0:((m.stack.length:Int)=0)=False:=eq_false (by simp [hs];omega);simp (config:= { maxSteps:=4000000 }) [hg,hp,hl,hn0,hne,hw0,f1,f2,ht]
theorem kK (h:At p H m v) (hne:m.stack≠ []): ∃H',LC Tryz.prog EJ 152 [ptr p 0] H=some (.tuple #[],H')/\Post p H m.pop H':=by
 refine a_ rfl Tryz.func152 rfl (Nat.le_of_ble_eq_true rfl) (by decide) (by kernel_rfl) h ?_;have hl:=fun H'=>h.row.len (H':=H') Tryz.underlying49;have hg:=h.get;have hp:=h.lt;rcases List.eq_nil_or_concat m.stack with hs|⟨xs,t,hs⟩
 ·exact absurd hs hne
 ·rw [List.concat_eq_append]at hs;obtain⟨hw0,_,v',e1,hcv,key⟩:=h.last hs;simp (config:= { maxSteps:=4000000 }) [hg,hp,hl,hw0,e1,hcv];exact key m.pop (by simp [M.pop,hs]) rfl m
end
section
variable {p:Nat} {H H' H1:LH} {m m' m1:M} {v v':Value} {b:UInt8}
theorem ya (h:At p H m v): ∃H',LC Tryz.prog EJ 157 [ptr p 0,.int .u8 b.toNat] H=some (.tuple #[],H')/\Post p H (m.inText b) H':=by
 refine a_ rfl Tryz.func157 rfl (Nat.le_of_ble_eq_true rfl) (by decide) (by kernel_rfl) h ?_;have hg:=h.get;have hp:=h.lt;have en:=fun m'' (g:m''.stack=m.stack) (d:m''.depth=m.depth)=>h.setPost (m':=m'') g d;unfold M.inText;by_cases c1:b=34
 ·have f1:=eq_true c1;rw [if_pos c1];cases hk:m.key with
  |true=>simp (config:= { maxSteps:=4000000 }) [hg,hp,f1,hk];exact en _ rfl rfl
  |false=>simp (config:= { maxSteps:=4000000 }) [hg,hp,f1,hk];exact en _ rfl rfl
 ·have f1:=eq_false c1;rw [if_neg c1];by_cases c2:b=92
  ·have f2:=eq_true c2;rw [if_pos c2];simp (config:= { maxSteps:=4000000 }) [hg,hp,f1,f2];exact en _ rfl rfl
  ·have f2:=eq_false c2;rw [if_neg c2];by_cases c3:b<32
   ·have f3:=eq_true c3;rw [if_pos c3];simp (config:= { maxSteps:=4000000 }) [hg,hp,f1,f2,O6,f3,cn hg hp];exact en _ rfl rfl
   ·have f3:=eq_false c3;rw [if_neg c3];simp (config:= { maxSteps:=4000000 }) [hg,hp,f1,f2,O6,f3];exact h.post
theorem FM:([34,92,47,98,102,110,114,116]:List UInt8).contains b=Gt b:=by
 rw [Bool.eq_iff_iff];simp [Gt,or_assoc]
theorem iT (h:At p H m v): ∃H',LC Tryz.prog EJ 158 [ptr p 0,.int .u8 b.toNat] H=some (.tuple #[],H')/\Post p H (m.inSlash b) H':=by
 refine a_ rfl Tryz.func158 rfl (Nat.le_of_ble_eq_true rfl) (by decide) (by kernel_rfl) h ?_;have hg:=h.get;have hp:=h.lt;have en:=fun m'' (g:m''.stack=m.stack) (d:m''.depth=m.depth)=>h.setPost (m':=m'') g d
 have hx:(0<=Lib.indexByte [34,92,47,98,102,110,114,116] b)=(Gt b=true):=by
  rw [<-FM];apply propext;rw [qC];simp
 unfold M.inSlash;by_cases c1:b=117
 ·have f1:=eq_true c1;rw [if_pos c1];simp (config:= { maxSteps:=4000000 }) [hg,hp,f1];exact en _ rfl rfl
 ·have f1:=eq_false c1;rw [if_neg c1];cases c2:Gt b with
  |true=>
   rw [if_pos rfl];simp (config:= { maxSteps:=4000000 }) [hg,hp,f1,hx,c2];exact en _ rfl rfl
  |false=>
   rw [if_neg (by simp)];simp (config:= { maxSteps:=4000000 }) [hg,hp,f1,hx,c2,cn hg hp];exact en _ rfl rfl
theorem O8: ∃n:Int,LC Tryz.prog EJ 207 [.int .u8 b.toNat] H=some (.tuple #[.int .i64 n,.bool (Tg.Json.hex b)],H):=by
 have le9:Tg.Json.hex b=(Tg.Json.digit b||((97<=b&&b<=102)||(65<=b&&b<=70))):=by unfold Tg.Json.hex;rw [Bool.or_assoc]
 have key: ∀(w:Value) (Q:Value×LH->Prop),True:=fun _ _=>trivial;have hd:=Cc (H:=H) (b:=b);by_cases c0:Tg.Json.digit b=true
 ·refine⟨IntKind.i64.wrap (IntKind.u8.wrap ((b.toNat:Int)-48)),?_⟩;rw [le9,c0,Bool.true_or];refine ag rfl Tryz.func207 rfl (Nat.le_of_ble_eq_true rfl) (by decide) (by kernel_rfl) (by simp [ao,az,aA]) ?_;simp (config:= { maxSteps:=4000000 }) [hd,c0]
 rw [Bool.not_eq_true]at c0;rw [le9,c0,Bool.false_or];by_cases c1:97<=b
 ·by_cases c2:b<=102
  ·refine⟨IntKind.i64.wrap (IntKind.i64.wrap (IntKind.u8.wrap ((b.toNat:Int)-97))+10),?_⟩;have e:((decide (97<=b)&&decide (b<=102))||(decide (65<=b)&&decide (b<=70)))=true:=by simp [c1,c2]
   rw [e];refine ag rfl Tryz.func207 rfl (Nat.le_of_ble_eq_true rfl) (by decide) (by kernel_rfl) (by simp [ao,az,aA]) ?_;simp (config:= { maxSteps:=4000000 }) [hd,c0,x_,oU,eq_true c1,eq_true c2]
  ·have c4: ¬b<=70:=fun h=>c2 (by rw [UInt8.le_iff_toNat_le]at h⊢;simp at h⊢;omega);refine⟨0,?_⟩;have e:((decide (97<=b)&&decide (b<=102))||(decide (65<=b)&&decide (b<=70)))=false:=by simp [c2,c4]
   rw [e];refine ag rfl Tryz.func207 rfl (Nat.le_of_ble_eq_true rfl) (by decide) (by kernel_rfl) (by simp [ao,az,aA]) ?_;by_cases c3:65<=b
   ·simp (config:= { maxSteps:=4000000 }) [hd,c0,x_,oU,Cd,Ce,eq_true c1,eq_false c2,eq_true c3,eq_false c4]
   ·simp (config:= { maxSteps:=4000000 }) [hd,c0,x_,oU,Cd,Ce,eq_true c1,eq_false c2,eq_false c3,eq_false c4]
 ·by_cases c3:65<=b
  ·by_cases c4:b<=70
   ·refine⟨IntKind.i64.wrap (IntKind.i64.wrap (IntKind.u8.wrap ((b.toNat:Int)-65))+10),?_⟩;have e:((decide (97<=b)&&decide (b<=102))||(decide (65<=b)&&decide (b<=70)))=true:=by simp [c3,c4]
    rw [e];refine ag rfl Tryz.func207 rfl (Nat.le_of_ble_eq_true rfl) (by decide) (by kernel_rfl) (by simp [ao,az,aA]) ?_;simp (config:= { maxSteps:=4000000 }) [hd,c0,x_,oU,Cd,Ce,eq_false c1,eq_true c3,eq_true c4]
   ·refine⟨0,?_⟩;have e:((decide (97<=b)&&decide (b<=102))||(decide (65<=b)&&decide (b<=70)))=false:=by simp [c1,c4]
    rw [e];refine ag rfl Tryz.func207 rfl (Nat.le_of_ble_eq_true rfl) (by decide) (by kernel_rfl) (by simp [ao,az,aA]) ?_;simp (config:= { maxSteps:=4000000 }) [hd,c0,x_,oU,Cd,Ce,eq_false c1,eq_true c3,eq_false c4]
  ·refine⟨0,?_⟩;have e:((decide (97<=b)&&decide (b<=102))||(decide (65<=b)&&decide (b<=70)))=false:=by simp [c1,c3]
   rw [e];refine ag rfl Tryz.func207 rfl (Nat.le_of_ble_eq_true rfl) (by decide) (by kernel_rfl) (by simp [ao,az,aA]) ?_;simp (config:= { maxSteps:=4000000 }) [hd,c0,x_,oU,Cd,Ce,eq_false c1,eq_false c3]
theorem qG (h:At p H m v) (h1:1<=m.hex) (h4:m.hex<=4): ∃H',LC Tryz.prog EJ 159 [ptr p 0,.int .u8 b.toNat] H=some (.tuple #[],H')/\Post p H (m.inUnicode b) H':=by
 refine a_ rfl Tryz.func159 rfl (Nat.le_of_ble_eq_true rfl) (by decide) (by kernel_rfl) h ?_;have hg:=h.get;have hp:=h.lt;have en:=fun m'' (g:m''.stack=m.stack) (d:m''.depth=m.depth)=>h.setPost (m':=m'') g d;obtain⟨n,hx⟩:=O8 (H:=H) (b:=b);have hw:IntKind.i64.wrap ((m.hex:Int)-1)=((m.hex-1:Nat):Int):=by rw [wrap64_in (by omega) (by omega)];omega
 unfold M.inUnicode;cases c1:Tg.Json.hex b with
 |false=>
  rw [if_neg (by simp)];simp (config:= { maxSteps:=4000000 }) [hg,hp,hx,c1,cn hg hp];exact en _ rfl rfl
 |true=>
  rw [if_pos rfl];by_cases c2:m.hex-1=0
  ·have f2:(((m.hex-1:Nat):Int)=0)=True:=eq_true (by omega);rw [if_pos c2];simp (config:= { maxSteps:=4000000 }) [hg,hp,hx,c1,hw,f2];exact⟨fun _=>en { m with pos:=6,hex:=m.hex-1 } rfl rfl,fun hh=>absurd c2 hh⟩
  ·have f2:(((m.hex-1:Nat):Int)=0)=False:=eq_false (by omega);rw [if_neg c2];simp (config:= { maxSteps:=4000000 }) [hg,hp,hx,c1,hw,f2];exact⟨fun hh=>absurd hh c2,fun _=>en { m with hex:=m.hex-1 } rfl rfl⟩
theorem kL (h:At p H m v) (hr:m.rest≠ []): ∃H',LC Tryz.prog EJ 160 [ptr p 0,.int .u8 b.toNat] H=some (.tuple #[],H')/\Post p H (m.inWord b) H':=by
 refine a_ rfl Tryz.func160 rfl (Nat.le_of_ble_eq_true rfl) (by decide) (by kernel_rfl) h ?_;have hg:=h.get;have hp:=h.lt;have en:=fun m'' (g:m''.stack=m.stack) (d:m''.depth=m.depth)=>h.setPost (m':=m'') g d
 obtain⟨c,r,hcr⟩: ∃c r,m.rest=c::r:=by
  cases hm:m.rest with
  |nil=>exact absurd hm hr
  |cons c r=>exact⟨c,r,rfl⟩
 have hat:at_ (c::r) 0=c:=rfl;have hpos:((0:Int)<(r.length:Int)+1)=True:=eq_true (by omega);have hpos2:((1:Int)<=(r.length:Int)+1)=True:=eq_true (by omega);unfold M.inWord;by_cases c1:b=c
 ·subst c1;rw [if_pos (by rw [hcr];rfl)];by_cases c2:r= []
  ·have f2:=eq_true c2;rw [if_pos (by rw [hcr];exact c2)];simp (config:= { maxSteps:=4000000 }) [hg,hp,hcr,hat,hpos,hpos2,f2];exact en _ rfl rfl
  ·have f2:=eq_false c2;rw [if_neg (by rw [hcr];exact c2)];simp (config:= { maxSteps:=4000000 }) [hg,hp,hcr,hat,hpos,hpos2,f2];exact en _ rfl rfl
 ·have f1:=eq_false c1;rw [if_neg (by rw [hcr];exact fun hx=>c1 (by simpa using hx.symm))];simp (config:= { maxSteps:=4000000 }) [hg,hp,hcr,hat,hpos,f1,cn hg hp];exact en _ rfl rfl
end
section
variable {p:Nat} {H H' H1:LH} {m m' m1:M} {v v':Value} {b:UInt8}
set_option maxHeartbeats 4000000 in
theorem eY (h:At p H m v): ∃H',LC Tryz.prog EJ 153 [ptr p 0,.int .u8 b.toNat] H=some (.tuple #[],H')/\Post p H (m.first b) H':=by
 refine a_ rfl Tryz.func153 rfl (Nat.le_of_ble_eq_true rfl) (by decide) (by kernel_rfl) h ?_;have hg:=h.get;have hp:=h.lt;have en:=fun m'' (g:m''.stack=m.stack) (d:m''.depth=m.depth)=>h.setPost (m':=m'') g d;have hd:=fun H=>eK (H:=H) (b:=b);unfold M.first;by_cases c1:b=91
 ·obtain⟨H2,e2,p2⟩:=jP (b:=91) (q:=1) (k:=1) h rfl (fun _ _=>rfl);have e2':LC Tryz.prog EJ 205 [ptr p 0,.int .u8 91,.int .i64 1] H=some (.tuple #[],H2):=e2;subst c1;simp (config:= { maxSteps:=4000000 }) [hg,hp,e2'];exact p2
 have f1:=eq_false c1;rw [if_neg c1];by_cases c2:b=123
 ·obtain⟨H2,e2,p2⟩:=jP (b:=123) (q:=3) (k:=3) h rfl (fun _ _=>rfl);have e2':LC Tryz.prog EJ 205 [ptr p 0,.int .u8 123,.int .i64 3] H=some (.tuple #[],H2):=e2;subst c2;simp (config:= { maxSteps:=4000000 }) [hg,hp,e2'];exact p2
 have f2:=eq_false c2;rw [if_neg c2];by_cases c3:b=34
 ·rw [if_pos c3];simp (config:= { maxSteps:=4000000 }) [hg,hp,f1,f2,eq_true c3];exact en _ rfl rfl
 have f3:=eq_false c3;rw [if_neg c3];by_cases c4:b=45
 ·rw [if_pos c4];simp (config:= { maxSteps:=4000000 }) [hg,hp,f1,f2,f3,eq_true c4];exact en _ rfl rfl
 have f4:=eq_false c4;rw [if_neg c4];by_cases c5:b=48
 ·rw [if_pos c5];simp (config:= { maxSteps:=4000000 }) [hg,hp,f1,f2,f3,f4,eq_true c5];exact en _ rfl rfl
 have f5:=eq_false c5;rw [if_neg c5];cases c6:Tg.Json.digit b with
 |true=>
  rw [if_pos rfl];simp (config:= { maxSteps:=4000000 }) [hg,hp,f1,f2,f3,f4,f5,hd,c6];exact en _ rfl rfl
 |false=>
  rw [if_neg (by simp)];by_cases c7:b=116
  ·rw [if_pos c7];simp (config:= { maxSteps:=4000000 }) [hg,hp,f1,f2,f3,f4,f5,hd,c6,eq_true c7];exact en _ rfl rfl
  have f7:=eq_false c7;rw [if_neg c7];by_cases c8:b=102
  ·rw [if_pos c8];simp (config:= { maxSteps:=4000000 }) [hg,hp,f1,f2,f3,f4,f5,hd,c6,f7,eq_true c8];exact en _ rfl rfl
  have f8:=eq_false c8;rw [if_neg c8];by_cases c9:b=110
  ·rw [if_pos c9];simp (config:= { maxSteps:=4000000 }) [hg,hp,f1,f2,f3,f4,f5,hd,c6,f7,f8,eq_true c9];exact en _ rfl rfl
  have f9:=eq_false c9;rw [if_neg c9];simp (config:= { maxSteps:=4000000 }) [hg,hp,f1,f2,f3,f4,f5,hd,c6,f7,f8,f9,cn hg hp];exact en _ rfl rfl
theorem Cf {k:UInt8} (hk:k≠0) (h:m.top=k):m.stack≠ []:=by
 intro hs;rw [M.top,hs]at h;exact hk h.symm
set_option maxHeartbeats 4000000 in
theorem dM (h:At p H m v): ∃H',LC Tryz.prog EJ 156 [ptr p 0,.int .u8 b.toNat] H=some (.tuple #[],H')/\Post p H (m.after b) H':=by
 refine a_ rfl Tryz.func156 rfl (Nat.le_of_ble_eq_true rfl) (by decide) (by kernel_rfl) h ?_;have hg:=h.get;have hp:=h.lt;have a5:=h.set (m':= { m with pos:=5 }) rfl rfl;have p5:=h.setPost (m':= { m with pos:=5 }) rfl rfl;have ht:=O7 a5;have hf:=cn a5.get a5.lt;have hw:=fun H=>lU (H:=H) (b:=b);have en:=fun m'' (g:m''.stack=m.stack) (d:m''.depth=m.depth)=>h.setPost (m':=m'') g d;have hfail: ∀(h':({ m with pos:=5 } :M).after b=({ m with pos:=5 } :M).fail 0),True:=fun _=>trivial;unfold M.after;simp only;generalize hn:({ m with pos:=5 } :M)=n at*;have hn1:n.stack=m.stack:=by rw [<-hn]
 have hn2:n.depth=m.depth:=by rw [<-hn]
 cases c1:Tg.Json.white b with
 |true=>
  rw [if_pos rfl];simp (config:= { maxSteps:=4000000 }) [hg,hp,hn,ht,hw,c1];exact p5
 |false=>
  rw [if_neg (by simp)];by_cases c2:b=44
  ·have e2':=eq_true c2;have n93:(b=93)=False:=eq_false (by rw [c2];decide);have n125:(b=125)=False:=eq_false (by rw [c2];decide);by_cases t1:n.top=91
   ·rw [if_pos ⟨c2,t1⟩];simp (config:= { maxSteps:=4000000 }) [hg,hp,hn,ht,hw,c1,e2',n93,n125,t1];subst hn;exact en _ rfl rfl
   ·rw [if_neg (fun hx=>t1 hx.2)];by_cases t2:n.top=123
    ·rw [if_pos ⟨c2,t2⟩];simp (config:= { maxSteps:=4000000 }) [hg,hp,hn,ht,hw,c1,e2',n93,n125,t2];subst hn;exact en _ rfl rfl
    ·rw [if_neg (fun hx=>t2 hx.2),if_neg (by rintro(hx|hx)<;>exact absurd (c2.symm.trans hx.1) (by decide))];simp (config:= { maxSteps:=4000000 }) [hg,hp,hn,ht,hw,c1,e2',n93,n125,eq_false t1,eq_false t2,hf];exact en _ hn1 hn2
  ·have f2:=eq_false c2;rw [if_neg (fun hx=>c2 hx.1),if_neg (fun hx=>c2 hx.1)];by_cases c3:b=93
   ·have e3':=eq_true c3;have n125:(b=125)=False:=eq_false (by rw [c3];decide);by_cases t1:n.top=91
    ·obtain⟨H2,e2,p2⟩:=kK a5 (Cf (k:=91) (by decide) t1);rw [if_pos (.inl ⟨c3,t1⟩)];simp (config:= { maxSteps:=4000000 }) [hg,hp,hn,ht,hw,c1,f2,e3',n125,t1,e2];exact p5.trans p2
    ·rw [if_neg (by rintro(hx|hx);exact t1 hx.2;exact absurd (c3.symm.trans hx.1) (by decide))];simp (config:= { maxSteps:=4000000 }) [hg,hp,hn,ht,hw,c1,f2,e3',n125,eq_false t1,hf];exact en _ hn1 hn2
   ·have f3:=eq_false c3;by_cases c4:b=125
    ·have e4':=eq_true c4;by_cases t1:n.top=123
     ·obtain⟨H2,e2,p2⟩:=kK a5 (Cf (k:=123) (by decide) t1);rw [if_pos (.inr ⟨c4,t1⟩)];simp (config:= { maxSteps:=4000000 }) [hg,hp,hn,ht,hw,c1,f2,f3,e4',t1,e2];exact p5.trans p2
     ·rw [if_neg (by rintro(hx|hx);exact absurd (c4.symm.trans hx.1) (by decide);exact t1 hx.2)];simp (config:= { maxSteps:=4000000 }) [hg,hp,hn,ht,hw,c1,f2,f3,e4',eq_false t1,hf];exact en _ hn1 hn2
    ·have f4:=eq_false c4;rw [if_neg (by rintro(hx|hx);exact c3 hx.1;exact c4 hx.1)];simp (config:= { maxSteps:=4000000 }) [hg,hp,hn,ht,hw,c1,f2,f3,f4,hf];exact en _ hn1 hn2
theorem pos_eq {k:Nat} (hk:m.pos=k) (j:Nat):((m.pos:Int)=(j:Int))=(k=j):=by rw [hk];exact propext (by omega)
theorem sO (h:At p H m v) (h3:m.pos=3->m.stack≠ []): ∃H',LC Tryz.prog EJ 154 [ptr p 0,.int .u8 b.toNat] H=some (.tuple #[],H')/\Post p H (m.names b) H':=by
 refine a_ rfl Tryz.func154 rfl (Nat.le_of_ble_eq_true rfl) (by decide) (by kernel_rfl) h ?_;have hg:=h.get;have hp:=h.lt;have hw:=fun H=>lU (H:=H) (b:=b);have en:=fun m'' (g:m''.stack=m.stack) (d:m''.depth=m.depth)=>h.setPost (m':=m'') g d;have q3:((m.pos:Int)=3)=(m.pos=3):=propext (by omega);unfold M.names;cases c1:Tg.Json.white b with
 |true=>
  rw [if_pos rfl];simp (config:= { maxSteps:=4000000 }) [hg,hp,hw,c1];exact h.post
 |false=>
  rw [if_neg (by simp)];by_cases c2:b=34
  ·rw [if_pos c2];simp (config:= { maxSteps:=4000000 }) [hg,hp,hw,c1,eq_true c2];exact en _ rfl rfl
  have f2:=eq_false c2;rw [if_neg c2];by_cases c3:b=125
  ·by_cases c4:m.pos=3
   ·obtain⟨H2,e2,p2⟩:=kK h (h3 c4);rw [if_pos ⟨c3,c4⟩];simp (config:= { maxSteps:=4000000 }) [hg,hp,hw,c1,f2,eq_true c3,q3,eq_true c4,e2];exact p2
   ·rw [if_neg (fun hx=>c4 hx.2)];simp (config:= { maxSteps:=4000000 }) [hg,hp,hw,c1,f2,eq_true c3,q3,eq_false c4,cn hg hp];exact en _ rfl rfl
  ·rw [if_neg (fun hx=>c3 hx.1)];simp (config:= { maxSteps:=4000000 }) [hg,hp,hw,c1,f2,eq_false c3,cn hg hp];exact en _ rfl rfl
end
section
variable {p:Nat} {H H' H1:LH} {m m' m1:M} {v v':Value} {b:UInt8}
theorem da {X:M} (h:At p H m v) (e:m.inNumber b=X) (hs:X.stack=m.stack) (hd:X.depth=m.depth):Post p H (m.inNumber b) (H.set p (mb X v)):=by rw [e];exact h.setPost hs hd
theorem kM {Ha:LH} (pa:Post p H (m.after b) Ha) (e:m.inNumber b=m.after b):Post p H (m.inNumber b) Ha:=by rw [e];exact pa
set_option maxHeartbeats 4000000 in
theorem Cg (h:At p H m v) (hk:m.pos=10): ∃H',LC Tryz.prog EJ 161 [ptr p 0,.int .u8 b.toNat] H=some (.tuple #[],H')/\Post p H (m.inNumber b) H':=by
 refine a_ rfl Tryz.func161 rfl (Nat.le_of_ble_eq_true rfl) (by decide) (by kernel_rfl) h ?_;have hg:=h.get;have hp:=h.lt;have hki:(m.pos:Int)=10:=by rw [hk];rfl
 have hd:=fun H=>eK (H:=H) (b:=b);have hf:=cn hg hp;have he: ∀H:LH,LC Tryz.prog EJ 162 [.int .i64 10] H=some (.bool false,H):=fun H=>eL (q:=10);obtain⟨Ha,ea,pa⟩:=dM (b:=b) h;cases cd:Tg.Json.digit b with
 |true=>
  have n46:(b=46)=False:=eq_false (fun hx=>by rw [hx]at cd;exact absurd cd (by decide));have n101:(b=101)=False:=eq_false (fun hx=>by rw [hx]at cd;exact absurd cd (by decide));have n69:(b=69)=False:=eq_false (fun hx=>by rw [hx]at cd;exact absurd cd (by decide));have n43:(b=43)=False:=eq_false (fun hx=>by rw [hx]at cd;exact absurd cd (by decide));have n45:(b=45)=False:=eq_false (fun hx=>by rw [hx]at cd;exact absurd cd (by decide));by_cases c48:b=48
  ·have n48:=eq_true c48;simp (config:= { maxSteps:=8000000 }) [hg,hp,hki,hd,he,hf,ea,cd,n46,n101,n69,n43,n45,n48];exact da h (by unfold M.inNumber;simp [hk,fx,Tg.Json.ended,cd,n46,n101,n69,n43,n45,n48]) rfl rfl
  ·have n48:=eq_false c48;simp (config:= { maxSteps:=8000000 }) [hg,hp,hki,hd,he,hf,ea,cd,n46,n101,n69,n43,n45,n48];exact da h (by unfold M.inNumber;simp [hk,fx,Tg.Json.ended,cd,n46,n101,n69,n43,n45,n48]) rfl rfl
 |false=>
  have n48:(b=48)=False:=eq_false (fun hx=>by rw [hx]at cd;exact absurd cd (by decide));by_cases c101:b=101
  ·have n101:=eq_true c101;have n69:(b=69)=False:=eq_false (by rw [c101];decide);simp (config:= { maxSteps:=8000000 }) [hg,hp,hki,hd,he,hf,ea,cd,n48,n101,n69];exact da h (by unfold M.inNumber;simp [hk,fx,Tg.Json.ended,cd,n48,n101,n69]) rfl rfl
  have n101:=eq_false c101;by_cases c69:b=69
  ·have n69:=eq_true c69;simp (config:= { maxSteps:=8000000 }) [hg,hp,hki,hd,he,hf,ea,cd,n48,n101,n69];exact da h (by unfold M.inNumber;simp [hk,fx,Tg.Json.ended,cd,n48,n101,n69]) rfl rfl
  have n69:=eq_false c69;simp (config:= { maxSteps:=8000000 }) [hg,hp,hki,hd,he,hf,ea,cd,n48,n101,n69];exact da h (by unfold M.inNumber;simp [hk,fx,Tg.Json.ended,cd,n48,n101,n69]) rfl rfl
set_option maxHeartbeats 4000000 in
theorem Ch (h:At p H m v) (hk:m.pos=11): ∃H',LC Tryz.prog EJ 161 [ptr p 0,.int .u8 b.toNat] H=some (.tuple #[],H')/\Post p H (m.inNumber b) H':=by
 refine a_ rfl Tryz.func161 rfl (Nat.le_of_ble_eq_true rfl) (by decide) (by kernel_rfl) h ?_;have hg:=h.get;have hp:=h.lt;have hki:(m.pos:Int)=11:=by rw [hk];rfl
 have hd:=fun H=>eK (H:=H) (b:=b);have hf:=cn hg hp;have he: ∀H:LH,LC Tryz.prog EJ 162 [.int .i64 11] H=some (.bool true,H):=fun H=>eL (q:=11);obtain⟨Ha,ea,pa⟩:=dM (b:=b) h;cases cd:Tg.Json.digit b with
 |true=>
  have n46:(b=46)=False:=eq_false (fun hx=>by rw [hx]at cd;exact absurd cd (by decide));have n101:(b=101)=False:=eq_false (fun hx=>by rw [hx]at cd;exact absurd cd (by decide));have n69:(b=69)=False:=eq_false (fun hx=>by rw [hx]at cd;exact absurd cd (by decide));have n43:(b=43)=False:=eq_false (fun hx=>by rw [hx]at cd;exact absurd cd (by decide));have n45:(b=45)=False:=eq_false (fun hx=>by rw [hx]at cd;exact absurd cd (by decide));simp (config:= { maxSteps:=8000000 }) [hg,hp,hki,hd,he,hf,ea,cd,n46,n101,n69,n43,n45];exact kM pa (by unfold M.inNumber;simp [hk,fx,Tg.Json.ended,cd,n46,n101,n69,n43,n45])
 |false=>
  have n48:(b=48)=False:=eq_false (fun hx=>by rw [hx]at cd;exact absurd cd (by decide));by_cases c46:b=46
  ·have n46:=eq_true c46;have n101:(b=101)=False:=eq_false (by rw [c46];decide);have n69:(b=69)=False:=eq_false (by rw [c46];decide);have n43:(b=43)=False:=eq_false (by rw [c46];decide);have n45:(b=45)=False:=eq_false (by rw [c46];decide);simp (config:= { maxSteps:=8000000 }) [hg,hp,hki,hd,he,hf,ea,cd,n48,n46,n101,n69,n43,n45];exact da h (by unfold M.inNumber;simp [hk,fx,Tg.Json.ended,cd,n48,n46,n101,n69,n43,n45]) rfl rfl
  have n46:=eq_false c46;by_cases c101:b=101
  ·have n101:=eq_true c101;have n46:(b=46)=False:=eq_false (by rw [c101];decide);have n69:(b=69)=False:=eq_false (by rw [c101];decide);have n43:(b=43)=False:=eq_false (by rw [c101];decide);have n45:(b=45)=False:=eq_false (by rw [c101];decide);simp (config:= { maxSteps:=8000000 }) [hg,hp,hki,hd,he,hf,ea,cd,n48,n46,n101,n69,n43,n45];exact da h (by unfold M.inNumber;simp [hk,fx,Tg.Json.ended,cd,n48,n46,n101,n69,n43,n45]) rfl rfl
  have n101:=eq_false c101;by_cases c69:b=69
  ·have n69:=eq_true c69;have n46:(b=46)=False:=eq_false (by rw [c69];decide);have n101:(b=101)=False:=eq_false (by rw [c69];decide);have n43:(b=43)=False:=eq_false (by rw [c69];decide);have n45:(b=45)=False:=eq_false (by rw [c69];decide);simp (config:= { maxSteps:=8000000 }) [hg,hp,hki,hd,he,hf,ea,cd,n48,n46,n101,n69,n43,n45];exact da h (by unfold M.inNumber;simp [hk,fx,Tg.Json.ended,cd,n48,n46,n101,n69,n43,n45]) rfl rfl
  have n69:=eq_false c69;simp (config:= { maxSteps:=8000000 }) [hg,hp,hki,hd,he,hf,ea,cd,n48,n46,n101,n69];exact kM pa (by unfold M.inNumber;simp [hk,fx,Tg.Json.ended,cd,n48,n46,n101,n69])
set_option maxHeartbeats 4000000 in
theorem Ci (h:At p H m v) (hk:m.pos=12): ∃H',LC Tryz.prog EJ 161 [ptr p 0,.int .u8 b.toNat] H=some (.tuple #[],H')/\Post p H (m.inNumber b) H':=by
 refine a_ rfl Tryz.func161 rfl (Nat.le_of_ble_eq_true rfl) (by decide) (by kernel_rfl) h ?_;have hg:=h.get;have hp:=h.lt;have hki:(m.pos:Int)=12:=by rw [hk];rfl
 have hd:=fun H=>eK (H:=H) (b:=b);have hf:=cn hg hp;have he: ∀H:LH,LC Tryz.prog EJ 162 [.int .i64 12] H=some (.bool true,H):=fun H=>eL (q:=12);obtain⟨Ha,ea,pa⟩:=dM (b:=b) h;cases cd:Tg.Json.digit b with
 |true=>
  have n46:(b=46)=False:=eq_false (fun hx=>by rw [hx]at cd;exact absurd cd (by decide));have n101:(b=101)=False:=eq_false (fun hx=>by rw [hx]at cd;exact absurd cd (by decide));have n69:(b=69)=False:=eq_false (fun hx=>by rw [hx]at cd;exact absurd cd (by decide));have n43:(b=43)=False:=eq_false (fun hx=>by rw [hx]at cd;exact absurd cd (by decide));have n45:(b=45)=False:=eq_false (fun hx=>by rw [hx]at cd;exact absurd cd (by decide));simp (config:= { maxSteps:=8000000 }) [hg,hp,hki,hd,he,hf,ea,cd,n46,n101,n69,n43,n45];exact da h (by unfold M.inNumber;simp [hk,fx,Tg.Json.ended,cd,n46,n101,n69,n43,n45]) rfl rfl
 |false=>
  have n48:(b=48)=False:=eq_false (fun hx=>by rw [hx]at cd;exact absurd cd (by decide));by_cases c46:b=46
  ·have n46:=eq_true c46;have n101:(b=101)=False:=eq_false (by rw [c46];decide);have n69:(b=69)=False:=eq_false (by rw [c46];decide);have n43:(b=43)=False:=eq_false (by rw [c46];decide);have n45:(b=45)=False:=eq_false (by rw [c46];decide);simp (config:= { maxSteps:=8000000 }) [hg,hp,hki,hd,he,hf,ea,cd,n48,n46,n101,n69,n43,n45];exact da h (by unfold M.inNumber;simp [hk,fx,Tg.Json.ended,cd,n48,n46,n101,n69,n43,n45]) rfl rfl
  have n46:=eq_false c46;by_cases c101:b=101
  ·have n101:=eq_true c101;have n46:(b=46)=False:=eq_false (by rw [c101];decide);have n69:(b=69)=False:=eq_false (by rw [c101];decide);have n43:(b=43)=False:=eq_false (by rw [c101];decide);have n45:(b=45)=False:=eq_false (by rw [c101];decide);simp (config:= { maxSteps:=8000000 }) [hg,hp,hki,hd,he,hf,ea,cd,n48,n46,n101,n69,n43,n45];exact da h (by unfold M.inNumber;simp [hk,fx,Tg.Json.ended,cd,n48,n46,n101,n69,n43,n45]) rfl rfl
  have n101:=eq_false c101;by_cases c69:b=69
  ·have n69:=eq_true c69;have n46:(b=46)=False:=eq_false (by rw [c69];decide);have n101:(b=101)=False:=eq_false (by rw [c69];decide);have n43:(b=43)=False:=eq_false (by rw [c69];decide);have n45:(b=45)=False:=eq_false (by rw [c69];decide);simp (config:= { maxSteps:=8000000 }) [hg,hp,hki,hd,he,hf,ea,cd,n48,n46,n101,n69,n43,n45];exact da h (by unfold M.inNumber;simp [hk,fx,Tg.Json.ended,cd,n48,n46,n101,n69,n43,n45]) rfl rfl
  have n69:=eq_false c69;simp (config:= { maxSteps:=8000000 }) [hg,hp,hki,hd,he,hf,ea,cd,n48,n46,n101,n69];exact kM pa (by unfold M.inNumber;simp [hk,fx,Tg.Json.ended,cd,n48,n46,n101,n69])
end
section
variable {p:Nat} {H H' H1:LH} {m m' m1:M} {v v':Value} {b:UInt8}
theorem di {X:M} (h:At p H m v) (e:m.inNumber b=X) (hs:X.stack=m.stack) (hd:X.depth=m.depth):Post p H (m.inNumber b) (H.set p (mb X v)):=by rw [e];exact h.setPost hs hd
theorem FN {Ha:LH} (pa:Post p H (m.after b) Ha) (e:m.inNumber b=m.after b):Post p H (m.inNumber b) Ha:=by rw [e];exact pa
set_option maxHeartbeats 4000000 in
theorem Cj (h:At p H m v) (hk:m.pos=13): ∃H',LC Tryz.prog EJ 161 [ptr p 0,.int .u8 b.toNat] H=some (.tuple #[],H')/\Post p H (m.inNumber b) H':=by
 refine a_ rfl Tryz.func161 rfl (Nat.le_of_ble_eq_true rfl) (by decide) (by kernel_rfl) h ?_;have hg:=h.get;have hp:=h.lt;have hki:(m.pos:Int)=13:=by rw [hk];rfl
 have hd:=fun H=>eK (H:=H) (b:=b);have hf:=cn hg hp;have he: ∀H:LH,LC Tryz.prog EJ 162 [.int .i64 13] H=some (.bool false,H):=fun H=>eL (q:=13);obtain⟨Ha,ea,pa⟩:=dM (b:=b) h;cases cd:Tg.Json.digit b with
 |true=>
  have n46:(b=46)=False:=eq_false (fun hx=>by rw [hx]at cd;exact absurd cd (by decide));have n101:(b=101)=False:=eq_false (fun hx=>by rw [hx]at cd;exact absurd cd (by decide));have n69:(b=69)=False:=eq_false (fun hx=>by rw [hx]at cd;exact absurd cd (by decide));have n43:(b=43)=False:=eq_false (fun hx=>by rw [hx]at cd;exact absurd cd (by decide));have n45:(b=45)=False:=eq_false (fun hx=>by rw [hx]at cd;exact absurd cd (by decide));simp (config:= { maxSteps:=8000000 }) [hg,hp,hki,hd,he,hf,ea,cd,n46,n101,n69,n43,n45];exact di h (by unfold M.inNumber;simp [hk,fx,Tg.Json.ended,cd,n46,n101,n69,n43,n45]) rfl rfl
 |false=>
  have n48:(b=48)=False:=eq_false (fun hx=>by rw [hx]at cd;exact absurd cd (by decide));by_cases c101:b=101
  ·have n101:=eq_true c101;have n69:(b=69)=False:=eq_false (by rw [c101];decide);simp (config:= { maxSteps:=8000000 }) [hg,hp,hki,hd,he,hf,ea,cd,n48,n101,n69];exact di h (by unfold M.inNumber;simp [hk,fx,Tg.Json.ended,cd,n48,n101,n69]) rfl rfl
  have n101:=eq_false c101;by_cases c69:b=69
  ·have n69:=eq_true c69;simp (config:= { maxSteps:=8000000 }) [hg,hp,hki,hd,he,hf,ea,cd,n48,n101,n69];exact di h (by unfold M.inNumber;simp [hk,fx,Tg.Json.ended,cd,n48,n101,n69]) rfl rfl
  have n69:=eq_false c69;simp (config:= { maxSteps:=8000000 }) [hg,hp,hki,hd,he,hf,ea,cd,n48,n101,n69];exact di h (by unfold M.inNumber;simp [hk,fx,Tg.Json.ended,cd,n48,n101,n69]) rfl rfl
set_option maxHeartbeats 4000000 in
theorem Ck (h:At p H m v) (hk:m.pos=14): ∃H',LC Tryz.prog EJ 161 [ptr p 0,.int .u8 b.toNat] H=some (.tuple #[],H')/\Post p H (m.inNumber b) H':=by
 refine a_ rfl Tryz.func161 rfl (Nat.le_of_ble_eq_true rfl) (by decide) (by kernel_rfl) h ?_;have hg:=h.get;have hp:=h.lt;have hki:(m.pos:Int)=14:=by rw [hk];rfl
 have hd:=fun H=>eK (H:=H) (b:=b);have hf:=cn hg hp;have he: ∀H:LH,LC Tryz.prog EJ 162 [.int .i64 14] H=some (.bool true,H):=fun H=>eL (q:=14);obtain⟨Ha,ea,pa⟩:=dM (b:=b) h;cases cd:Tg.Json.digit b with
 |true=>
  have n46:(b=46)=False:=eq_false (fun hx=>by rw [hx]at cd;exact absurd cd (by decide));have n101:(b=101)=False:=eq_false (fun hx=>by rw [hx]at cd;exact absurd cd (by decide));have n69:(b=69)=False:=eq_false (fun hx=>by rw [hx]at cd;exact absurd cd (by decide));have n43:(b=43)=False:=eq_false (fun hx=>by rw [hx]at cd;exact absurd cd (by decide));have n45:(b=45)=False:=eq_false (fun hx=>by rw [hx]at cd;exact absurd cd (by decide));simp (config:= { maxSteps:=8000000 }) [hg,hp,hki,hd,he,hf,ea,cd,n46,n101,n69,n43,n45];exact di h (by unfold M.inNumber;simp [hk,fx,Tg.Json.ended,cd,n46,n101,n69,n43,n45]) rfl rfl
 |false=>
  have n48:(b=48)=False:=eq_false (fun hx=>by rw [hx]at cd;exact absurd cd (by decide));by_cases c101:b=101
  ·have n101:=eq_true c101;have n46:(b=46)=False:=eq_false (by rw [c101];decide);have n69:(b=69)=False:=eq_false (by rw [c101];decide);have n43:(b=43)=False:=eq_false (by rw [c101];decide);have n45:(b=45)=False:=eq_false (by rw [c101];decide);simp (config:= { maxSteps:=8000000 }) [hg,hp,hki,hd,he,hf,ea,cd,n48,n46,n101,n69,n43,n45];exact di h (by unfold M.inNumber;simp [hk,fx,Tg.Json.ended,cd,n48,n46,n101,n69,n43,n45]) rfl rfl
  have n101:=eq_false c101;by_cases c69:b=69
  ·have n69:=eq_true c69;have n46:(b=46)=False:=eq_false (by rw [c69];decide);have n101:(b=101)=False:=eq_false (by rw [c69];decide);have n43:(b=43)=False:=eq_false (by rw [c69];decide);have n45:(b=45)=False:=eq_false (by rw [c69];decide);simp (config:= { maxSteps:=8000000 }) [hg,hp,hki,hd,he,hf,ea,cd,n48,n46,n101,n69,n43,n45];exact di h (by unfold M.inNumber;simp [hk,fx,Tg.Json.ended,cd,n48,n46,n101,n69,n43,n45]) rfl rfl
  have n69:=eq_false c69;simp (config:= { maxSteps:=8000000 }) [hg,hp,hki,hd,he,hf,ea,cd,n48,n101,n69];exact FN pa (by unfold M.inNumber;simp [hk,fx,Tg.Json.ended,cd,n48,n101,n69])
set_option maxHeartbeats 4000000 in
theorem Cm (h:At p H m v) (hk:m.pos=15): ∃H',LC Tryz.prog EJ 161 [ptr p 0,.int .u8 b.toNat] H=some (.tuple #[],H')/\Post p H (m.inNumber b) H':=by
 refine a_ rfl Tryz.func161 rfl (Nat.le_of_ble_eq_true rfl) (by decide) (by kernel_rfl) h ?_;have hg:=h.get;have hp:=h.lt;have hki:(m.pos:Int)=15:=by rw [hk];rfl
 have hd:=fun H=>eK (H:=H) (b:=b);have hf:=cn hg hp;have he: ∀H:LH,LC Tryz.prog EJ 162 [.int .i64 15] H=some (.bool false,H):=fun H=>eL (q:=15);obtain⟨Ha,ea,pa⟩:=dM (b:=b) h;cases cd:Tg.Json.digit b with
 |true=>
  have n46:(b=46)=False:=eq_false (fun hx=>by rw [hx]at cd;exact absurd cd (by decide));have n101:(b=101)=False:=eq_false (fun hx=>by rw [hx]at cd;exact absurd cd (by decide));have n69:(b=69)=False:=eq_false (fun hx=>by rw [hx]at cd;exact absurd cd (by decide));have n43:(b=43)=False:=eq_false (fun hx=>by rw [hx]at cd;exact absurd cd (by decide));have n45:(b=45)=False:=eq_false (fun hx=>by rw [hx]at cd;exact absurd cd (by decide));simp (config:= { maxSteps:=8000000 }) [hg,hp,hki,hd,he,hf,ea,cd,n46,n101,n69,n43,n45];exact di h (by unfold M.inNumber;simp [hk,fx,Tg.Json.ended,cd,n46,n101,n69,n43,n45]) rfl rfl
 |false=>
  have n48:(b=48)=False:=eq_false (fun hx=>by rw [hx]at cd;exact absurd cd (by decide));by_cases c43:b=43
  ·have n43:=eq_true c43;have n46:(b=46)=False:=eq_false (by rw [c43];decide);have n101:(b=101)=False:=eq_false (by rw [c43];decide);have n69:(b=69)=False:=eq_false (by rw [c43];decide);have n45:(b=45)=False:=eq_false (by rw [c43];decide);simp (config:= { maxSteps:=8000000 }) [hg,hp,hki,hd,he,hf,ea,cd,n48,n46,n101,n69,n43,n45];exact di h (by unfold M.inNumber;simp [hk,fx,Tg.Json.ended,cd,n48,n46,n101,n69,n43,n45]) rfl rfl
  have n43:=eq_false c43;by_cases c45:b=45
  ·have n45:=eq_true c45;have n46:(b=46)=False:=eq_false (by rw [c45];decide);have n101:(b=101)=False:=eq_false (by rw [c45];decide);have n69:(b=69)=False:=eq_false (by rw [c45];decide);have n43:(b=43)=False:=eq_false (by rw [c45];decide);simp (config:= { maxSteps:=8000000 }) [hg,hp,hki,hd,he,hf,ea,cd,n48,n46,n101,n69,n43,n45];exact di h (by unfold M.inNumber;simp [hk,fx,Tg.Json.ended,cd,n48,n46,n101,n69,n43,n45]) rfl rfl
  have n45:=eq_false c45;by_cases c101:b=101
  ·have n101:=eq_true c101;have n69:(b=69)=False:=eq_false (by rw [c101];decide);simp (config:= { maxSteps:=8000000 }) [hg,hp,hki,hd,he,hf,ea,cd,n48,n43,n45,n101,n69];exact di h (by unfold M.inNumber;simp [hk,fx,Tg.Json.ended,cd,n48,n43,n45,n101,n69]) rfl rfl
  have n101:=eq_false c101;by_cases c69:b=69
  ·have n69:=eq_true c69;simp (config:= { maxSteps:=8000000 }) [hg,hp,hki,hd,he,hf,ea,cd,n48,n43,n45,n101,n69];exact di h (by unfold M.inNumber;simp [hk,fx,Tg.Json.ended,cd,n48,n43,n45,n101,n69]) rfl rfl
  have n69:=eq_false c69;simp (config:= { maxSteps:=8000000 }) [hg,hp,hki,hd,he,hf,ea,cd,n48,n43,n45,n101,n69];exact di h (by unfold M.inNumber;simp [hk,fx,Tg.Json.ended,cd,n48,n43,n45,n101,n69]) rfl rfl
end
section
variable {p:Nat} {H H' H1:LH} {m m' m1:M} {v v':Value} {b:UInt8}
set_option maxHeartbeats 4000000 in
theorem Cn (h:At p H m v) (hk:m.pos=16): ∃H',LC Tryz.prog EJ 161 [ptr p 0,.int .u8 b.toNat] H=some (.tuple #[],H')/\Post p H (m.inNumber b) H':=by
 refine a_ rfl Tryz.func161 rfl (Nat.le_of_ble_eq_true rfl) (by decide) (by kernel_rfl) h ?_;have hg:=h.get;have hp:=h.lt;have hki:(m.pos:Int)=16:=by rw [hk];rfl
 have hd:=fun H=>eK (H:=H) (b:=b);have hf:=cn hg hp;have he: ∀H:LH,LC Tryz.prog EJ 162 [.int .i64 16] H=some (.bool false,H):=fun H=>eL (q:=16);obtain⟨Ha,ea,pa⟩:=dM (b:=b) h;cases cd:Tg.Json.digit b with
 |true=>
  have n46:(b=46)=False:=eq_false (fun hx=>by rw [hx]at cd;exact absurd cd (by decide));have n101:(b=101)=False:=eq_false (fun hx=>by rw [hx]at cd;exact absurd cd (by decide));have n69:(b=69)=False:=eq_false (fun hx=>by rw [hx]at cd;exact absurd cd (by decide));have n43:(b=43)=False:=eq_false (fun hx=>by rw [hx]at cd;exact absurd cd (by decide));have n45:(b=45)=False:=eq_false (fun hx=>by rw [hx]at cd;exact absurd cd (by decide));simp (config:= { maxSteps:=8000000 }) [hg,hp,hki,hd,he,hf,ea,cd,n46,n101,n69,n43,n45];exact da h (by unfold M.inNumber;simp [hk,fx,Tg.Json.ended,cd,n46,n101,n69,n43,n45]) rfl rfl
 |false=>
  have n48:(b=48)=False:=eq_false (fun hx=>by rw [hx]at cd;exact absurd cd (by decide));by_cases c101:b=101
  ·have n101:=eq_true c101;have n69:(b=69)=False:=eq_false (by rw [c101];decide);simp (config:= { maxSteps:=8000000 }) [hg,hp,hki,hd,he,hf,ea,cd,n48,n101,n69];exact da h (by unfold M.inNumber;simp [hk,fx,Tg.Json.ended,cd,n48,n101,n69]) rfl rfl
  have n101:=eq_false c101;by_cases c69:b=69
  ·have n69:=eq_true c69;simp (config:= { maxSteps:=8000000 }) [hg,hp,hki,hd,he,hf,ea,cd,n48,n101,n69];exact da h (by unfold M.inNumber;simp [hk,fx,Tg.Json.ended,cd,n48,n101,n69]) rfl rfl
  have n69:=eq_false c69;simp (config:= { maxSteps:=8000000 }) [hg,hp,hki,hd,he,hf,ea,cd,n48,n101,n69];exact da h (by unfold M.inNumber;simp [hk,fx,Tg.Json.ended,cd,n48,n101,n69]) rfl rfl
set_option maxHeartbeats 4000000 in
theorem Co (h:At p H m v) (hk:m.pos=17): ∃H',LC Tryz.prog EJ 161 [ptr p 0,.int .u8 b.toNat] H=some (.tuple #[],H')/\Post p H (m.inNumber b) H':=by
 refine a_ rfl Tryz.func161 rfl (Nat.le_of_ble_eq_true rfl) (by decide) (by kernel_rfl) h ?_;have hg:=h.get;have hp:=h.lt;have hki:(m.pos:Int)=17:=by rw [hk];rfl
 have hd:=fun H=>eK (H:=H) (b:=b);have hf:=cn hg hp;have he: ∀H:LH,LC Tryz.prog EJ 162 [.int .i64 17] H=some (.bool true,H):=fun H=>eL (q:=17);obtain⟨Ha,ea,pa⟩:=dM (b:=b) h;cases cd:Tg.Json.digit b with
 |true=>
  have n46:(b=46)=False:=eq_false (fun hx=>by rw [hx]at cd;exact absurd cd (by decide));have n101:(b=101)=False:=eq_false (fun hx=>by rw [hx]at cd;exact absurd cd (by decide));have n69:(b=69)=False:=eq_false (fun hx=>by rw [hx]at cd;exact absurd cd (by decide));have n43:(b=43)=False:=eq_false (fun hx=>by rw [hx]at cd;exact absurd cd (by decide));have n45:(b=45)=False:=eq_false (fun hx=>by rw [hx]at cd;exact absurd cd (by decide));simp (config:= { maxSteps:=8000000 }) [hg,hp,hki,hd,he,hf,ea,cd,n46,n101,n69,n43,n45];exact da h (by unfold M.inNumber;simp [hk,fx,Tg.Json.ended,cd,n46,n101,n69,n43,n45]) rfl rfl
 |false=>
  have n48:(b=48)=False:=eq_false (fun hx=>by rw [hx]at cd;exact absurd cd (by decide));by_cases c101:b=101
  ·have n101:=eq_true c101;have n69:(b=69)=False:=eq_false (by rw [c101];decide);simp (config:= { maxSteps:=8000000 }) [hg,hp,hki,hd,he,hf,ea,cd,n48,n101,n69];exact kM pa (by unfold M.inNumber;simp [hk,fx,Tg.Json.ended,cd,n48,n101,n69])
  have n101:=eq_false c101;by_cases c69:b=69
  ·have n69:=eq_true c69;simp (config:= { maxSteps:=8000000 }) [hg,hp,hki,hd,he,hf,ea,cd,n48,n101,n69];exact kM pa (by unfold M.inNumber;simp [hk,fx,Tg.Json.ended,cd,n48,n101,n69])
  have n69:=eq_false c69;simp (config:= { maxSteps:=8000000 }) [hg,hp,hki,hd,he,hf,ea,cd,n48,n101,n69];exact kM pa (by unfold M.inNumber;simp [hk,fx,Tg.Json.ended,cd,n48,n101,n69])
theorem sP (h:At p H m v) (h10:10<=m.pos) (h17:m.pos<=17): ∃H',LC Tryz.prog EJ 161 [ptr p 0,.int .u8 b.toNat] H=some (.tuple #[],H')/\Post p H (m.inNumber b) H':=by
 have:m.pos=10\/m.pos=11\/m.pos=12\/m.pos=13\/m.pos=14\/m.pos=15\/m.pos=16\/m.pos=17:=by omega
 rcases this with hk|hk|hk|hk|hk|hk|hk|hk
 ·exact Cg h hk
 ·exact Ch h hk
 ·exact Ci h hk
 ·exact Cj h hk
 ·exact Ck h hk
 ·exact Cm h hk
 ·exact Cn h hk
 ·exact Co h hk
end
section
variable {p:Nat} {H H' H1:LH} {m m' m1:M} {v v':Value} {b:UInt8} {s:List UInt8}
set_option maxHeartbeats 4000000 in
theorem qE (h:At p H m v) (hw:JWF m): ∃H',LC Tryz.prog EJ 109 [ptr p 0,.int .u8 b.toNat] H=some (.tuple #[],H')/\Post p H (m.byte b) H':=by
 refine a_ rfl Tryz.func109 rfl (Nat.le_of_ble_eq_true rfl) (by decide) (by kernel_rfl) h ?_;have hg:=h.get;have hp:=h.lt;have en:=fun m'' (g:m''.stack=m.stack) (d:m''.depth=m.depth)=>h.setPost (m':=m'') g d;have hwh:=fun H=>lU (H:=H) (b:=b);have hf:=cn hg hp;have key: ∀k,m.pos=k-> ∀j:Nat,((m.pos:Int)=(j:Int))=(k=j):=fun k hk j=>pos_eq hk j;have e0:((m.pos:Int)=0)=(m.pos=0):=propext (by omega);have e1:((m.pos:Int)=1)=(m.pos=1):=propext (by omega);have e2:((m.pos:Int)=2)=(m.pos=2):=propext (by omega);have e3:((m.pos:Int)=3)=(m.pos=3):=propext (by omega);have e4:((m.pos:Int)=4)=(m.pos=4):=propext (by omega);have e5:((m.pos:Int)=5)=(m.pos=5):=propext (by omega);have e6:((m.pos:Int)=6)=(m.pos=6):=propext (by omega);have e7:((m.pos:Int)=7)=(m.pos=7):=propext (by omega);have e8:((m.pos:Int)=8)=(m.pos=8):=propext (by omega);have e9:((m.pos:Int)=9)=(m.pos=9):=propext (by omega);obtain⟨Hb,eb,pb⟩:=eY (b:=b) h;obtain⟨Ha,ea,pa⟩:=dM (b:=b) h;obtain⟨Ht,et,pt⟩:=ya (b:=b) h;obtain⟨Hs,es,ps⟩:=iT (b:=b) h;unfold M.byte;by_cases c0:m.pos=0
 ·have f0:=eq_true c0;rw [if_pos (.inl c0)];have f1:(m.pos=1)=False:=eq_false (by omega);cases cw:Tg.Json.white b with
  |true=>
   rw [if_pos rfl];simp (config:= { maxSteps:=4000000 }) [hg,hp,e0,f0,hwh,cw];exact h.post
  |false=>
   rw [if_neg (by simp),if_neg (fun hx=>by omega)];by_cases cb:b=93
   ·simp (config:= { maxSteps:=4000000 }) [hg,hp,e0,f0,e1,f1,hwh,cw,eq_true cb,eb];exact pb
   ·simp (config:= { maxSteps:=4000000 }) [hg,hp,e0,f0,e1,f1,hwh,cw,eq_false cb,eb];exact pb
 have f0:=eq_false c0;by_cases c1:m.pos=1
 ·have f1:=eq_true c1;rw [if_pos (.inr c1)];cases cw:Tg.Json.white b with
  |true=>
   rw [if_pos rfl];simp (config:= { maxSteps:=4000000 }) [hg,hp,e0,f0,e1,f1,hwh,cw];exact h.post
  |false=>
   rw [if_neg (by simp)];by_cases cb:b=93
   ·obtain⟨H2,e2,p2⟩:=kK h (hw.first (.inl c1));rw [if_pos ⟨cb,c1⟩];simp (config:= { maxSteps:=4000000 }) [hg,hp,e0,f0,e1,f1,hwh,cw,eq_true cb,e2];exact p2
   ·rw [if_neg (fun hx=>cb hx.1)];simp (config:= { maxSteps:=4000000 }) [hg,hp,e0,f0,e1,f1,hwh,cw,eq_false cb,eb];exact pb
 have f1:=eq_false c1;rw [if_neg (by rintro(hx|hx);exact c0 hx;exact c1 hx)];by_cases c2:m.pos=2
 ·have f2:=eq_true c2;obtain⟨Hn,en,pn⟩:=sO (b:=b) h (fun h3=>hw.first (.inr h3));rw [if_pos (.inl c2)];simp (config:= { maxSteps:=4000000 }) [hg,hp,e0,f0,e1,f1,e2,f2,en];exact pn
 have f2:=eq_false c2;by_cases c3:m.pos=3
 ·have f3:=eq_true c3;obtain⟨Hn,en,pn⟩:=sO (b:=b) h (fun h3=>hw.first (.inr h3));rw [if_pos (.inr c3)];simp (config:= { maxSteps:=4000000 }) [hg,hp,e0,f0,e1,f1,e2,f2,e3,f3,en];exact pn
 have f3:=eq_false c3;rw [if_neg (by rintro(hx|hx);exact c2 hx;exact c3 hx)];by_cases c4:m.pos=4
 ·have f4:=eq_true c4;rw [if_pos c4];cases cw:Tg.Json.white b with
  |true=>
   rw [if_pos rfl];simp (config:= { maxSteps:=4000000 }) [hg,hp,e0,f0,e1,f1,e2,f2,e3,f3,e4,f4,hwh,cw];exact h.post
  |false=>
   rw [if_neg (by simp)];by_cases cb:b=58
   ·rw [if_pos cb];simp (config:= { maxSteps:=4000000 }) [hg,hp,e0,f0,e1,f1,e2,f2,e3,f3,e4,f4,hwh,cw,eq_true cb];exact en _ rfl rfl
   ·rw [if_neg cb];simp (config:= { maxSteps:=4000000 }) [hg,hp,e0,f0,e1,f1,e2,f2,e3,f3,e4,f4,hwh,cw,eq_false cb,hf];exact en _ rfl rfl
 have f4:=eq_false c4;rw [if_neg c4];by_cases c5:m.pos=5
 ·rw [if_pos c5];simp (config:= { maxSteps:=4000000 }) [hg,hp,e0,f0,e1,f1,e2,f2,e3,f3,e4,f4,e5,eq_true c5,ea];exact pa
 have f5:=eq_false c5;rw [if_neg c5];by_cases c6:m.pos=6
 ·rw [if_pos c6];simp (config:= { maxSteps:=4000000 }) [hg,hp,e0,f0,e1,f1,e2,f2,e3,f3,e4,f4,e5,f5,e6,eq_true c6,et];exact pt
 have f6:=eq_false c6;rw [if_neg c6];by_cases c7:m.pos=7
 ·rw [if_pos c7];simp (config:= { maxSteps:=4000000 }) [hg,hp,e0,f0,e1,f1,e2,f2,e3,f3,e4,f4,e5,f5,e6,f6,e7,eq_true c7,es];exact ps
 have f7:=eq_false c7;rw [if_neg c7];by_cases c8:m.pos=8
 ·obtain⟨Hu,eu,pu⟩:=qG (b:=b) h (hw.hex1 c8) hw.hex;rw [if_pos c8];simp (config:= { maxSteps:=4000000 }) [hg,hp,e0,f0,e1,f1,e2,f2,e3,f3,e4,f4,e5,f5,e6,f6,e7,f7,e8,eq_true c8,eu];exact pu
 have f8:=eq_false c8;rw [if_neg c8];by_cases c9:m.pos=9
 ·obtain⟨Hu,eu,pu⟩:=kL (b:=b) h (hw.rest c9);rw [if_pos c9];simp (config:= { maxSteps:=4000000 }) [hg,hp,e0,f0,e1,f1,e2,f2,e3,f3,e4,f4,e5,f5,e6,f6,e7,f7,e8,f8,e9,eq_true c9,eu];exact pu
 have f9:=eq_false c9;rw [if_neg c9];obtain⟨Hu,eu,pu⟩:=sP (b:=b) h (by omega) hw.pos;simp (config:= { maxSteps:=4000000 }) [hg,hp,e0,f0,e1,f1,e2,f2,e3,f3,e4,f4,e5,f5,e6,f6,e7,f7,e8,f8,e9,f9,eu];exact pu
theorem nA (h:At p H m v):LC Tryz.prog EJ 110 [ptr p 0] H=some (.int .i64 (m.tell:Nat),H):=by
 refine ag rfl Tryz.func110 rfl (Nat.le_of_ble_eq_true rfl) (by decide) (by kernel_rfl) rfl ?_;have hl:=fun H'=>h.row.len (H':=H') Tryz.underlying49;have hg:=h.get;have hp:=h.lt;have e1:((m.state:Int)=1)=(m.state=1):=propext (by omega);have e5:((m.pos:Int)=5)=(m.pos=5):=propext (by omega);have he:=fun H=>eL (H:=H) (q:=m.pos);have hn:((m.stack.length:Int)=0)=(m.stack= []):=propext (by rw [<-List.length_eq_zero_iff];omega);unfold M.tell;by_cases c1:m.state=1
 ·by_cases c2:m.stack= []
  ·by_cases c3:m.pos=5
   ·rw [if_pos ⟨c1,c2,.inl c3⟩];simp (config:= { maxSteps:=4000000 }) [hg,hp,hl,e1,eq_true c1,hn,eq_true c2,e5,eq_true c3]
   ·cases c4:Tg.Json.ended m.pos with
    |true=>
     rw [if_pos ⟨c1,c2,.inr rfl⟩];simp (config:= { maxSteps:=4000000 }) [hg,hp,hl,e1,eq_true c1,hn,eq_true c2,e5,eq_false c3,he,c4]
    |false=>
     rw [if_neg (by rintro⟨_,_,hx|hx⟩;exact c3 hx;cases hx)];simp (config:= { maxSteps:=4000000 }) [hg,hp,hl,e1,eq_true c1,hn,eq_true c2,e5,eq_false c3,he,c4]
  ·rw [if_neg (fun hx=>c2 hx.2.1)];simp (config:= { maxSteps:=4000000 }) [hg,hp,hl,e1,eq_true c1,hn,eq_false c2]
 ·rw [if_neg (fun hx=>c1 hx.1)];simp (config:= { maxSteps:=4000000 }) [hg,hp,hl,e1,eq_false c1]
set_option maxHeartbeats 4000000 in
theorem feed_ex (h:At p H m v) (hw:JWF m) (hs:s.length<=1048576) (hse:m.seen<=1099511627776): ∃H',LC Tryz.prog EJ 76 [ptr p 0,str s] H=some (.int .i64 ((m.feed s).tell:Nat),H')/\Post p H (m.feed s) H':=by
 refine dL rfl Tryz.func76 rfl (Nat.le_of_ble_eq_true rfl) (by decide) (by kernel_rfl) h ?_;simp;refine aK (fun(i:Nat) fr' H'=>fr' 0=ptr p 0/\fr' 1=str s/\fr' 9=.int .i64 s.length/\fr' 10=.int .i64 i/\i<=s.length/\Post p H (m.feed (s.take i)) H') (fun i=>s.length-i) 0 ?_ ?_
 ·exact⟨by simp,by simp,by simp,by simp,Nat.zero_le _,h.post⟩
 rintro i fr' H' ⟨h0,h1,h9,h10,hi,hpo⟩ ih;obtain⟨v1,a1⟩:=hpo.at_;have hg:=a1.get;have hp:=a1.lt;have hwf:JWF (m.feed (s.take i)):=hw.feed;have hsn:(m.feed (s.take i)).seen<=1099511627776+1048576:=by rw [seen_feed];simp;omega
 by_cases hlt:i<s.length
 ·have hwr:IntKind.i64.wrap ((i:Int)+1)=((i+1:Nat):Int):=by rw [wrap64_in (by omega) (by omega)];omega
  have hat:at_ s i=s[i]:=by simp [at_,hlt]
  have hst:m.feed (s.take (i+1))=(m.feed (s.take i)).feed1 s[i]:=by rw [List.take_succ_eq_append_getElem hlt,feed_append];rfl
  generalize m.feed (s.take i)=m1 at*;generalize hb:s[i]=b at*;have hws:IntKind.i64.wrap ((m1.seen:Int)+1)=((m1.seen+1:Nat):Int):=by rw [wrap64_in (by omega) (by omega)];omega
  have hwh:=fun H=>lU (H:=H) (b:=b);have e1:((m1.state:Int)=1)=(m1.state=1):=propext (by omega);have pb:Post p H' (m1.beg b) (H'.set p (mb (m1.beg b) v1)):=a1.setPost rfl rfl;have ab:At p (H'.set p (mb (m1.beg b) v1)) (m1.beg b) v1:=a1.set rfl rfl;have hbg: ∀x,x=(m1.begun||!Tg.Json.white b)->mb { m1 with begun:=x } v1=mb (m1.beg b) v1:=fun x hx=>by rw [hx];rfl
  have gb:=ab.get;have lb:=ab.lt;have hws2:IntKind.i64.wrap (((m1.beg b).seen:Int)+1)=((m1.seen+1:Nat):Int):=hws;by_cases ho:m1.state=1
  ·have fo:=eq_true ho;have fo2:(((m1.beg b).state:Int)=1)=True:=eq_true (by show((m1.state:Int)=1);omega);obtain⟨H2,e2,p2⟩:=qE (b:=b) ab (hwf.beg b);obtain⟨v2,a2⟩:=p2.at_;have hg2:=a2.get;have hp2:=a2.lt;have hws3:IntKind.i64.wrap ((((m1.beg b).byte b).seen:Int)+1)=((m1.seen+1:Nat):Int):=by rw [j_];exact hws
   rw [tl ho]at hst;cases hbb:m1.begun with
   |true=>
    have hb2:=hbg true (by rw [hbb];rfl);simp (config:= { maxSteps:=4000000 }) [h0,h1,h9,h10,hlt,hg,hp,hbb,hwr,hat,hb,hb2,gb,fo2,e2,hg2,hp2,hws3];refine ih (i+1) _ _ (by omega) ⟨by simp [h0],by simp [h1],by simp [h9],by simp,hlt,?_⟩;rw [hst];exact((hpo.trans pb).trans p2).trans (a2.setPost rfl rfl)
   |false=>
    have hb2:=hbg (!Tg.Json.white b) (by rw [hbb];rfl);simp (config:= { maxSteps:=4000000 }) [h0,h1,h9,h10,hlt,hg,hp,hbb,hwr,hat,hb,hwh,hb2,gb,fo2,e2,hg2,hp2,hws3];refine ih (i+1) _ _ (by omega) ⟨by simp [h0],by simp [h1],by simp [h9],by simp,hlt,?_⟩;rw [hst];exact((hpo.trans pb).trans p2).trans (a2.setPost rfl rfl)
  ·have fo2:(((m1.beg b).state:Int)=1)=False:=eq_false (by show¬((m1.state:Int)=1);omega);have hst2:m1.feed1 b= { m1.beg b with seen:=m1.seen+1 } :=by unfold M.feed1;simp only;rw [if_neg ho];rfl
   rw [hst2]at hst;cases hbb:m1.begun with
   |true=>
    have hb2:=hbg true (by rw [hbb];rfl);simp (config:= { maxSteps:=4000000 }) [h0,h1,h9,h10,hlt,hg,hp,hbb,hwr,hat,hb,hb2,gb,fo2,hws2];refine ih (i+1) _ _ (by omega) ⟨by simp [h0],by simp [h1],by simp [h9],by simp,hlt,?_⟩;rw [hst];exact hpo.trans (a1.setPost rfl rfl)
   |false=>
    have hb2:=hbg (!Tg.Json.white b) (by rw [hbb];rfl);simp (config:= { maxSteps:=4000000 }) [h0,h1,h9,h10,hlt,hg,hp,hbb,hwr,hat,hb,hwh,hb2,gb,fo2,hws2];refine ih (i+1) _ _ (by omega) ⟨by simp [h0],by simp [h1],by simp [h9],by simp,hlt,?_⟩;rw [hst];exact hpo.trans (a1.setPost rfl rfl)
 ·have hi2:s.take i=s:=List.take_of_length_le (by omega);rw [hi2]at hpo a1;have e:=nA a1;simp [h0,h1,h9,h10,hlt,e];exact hpo
theorem state_l (h:At p H m v):LC Tryz.prog EJ 81 [ptr p 0] H=some (.int .i64 (m.tell:Nat),H):=by
 refine ag rfl Tryz.func81 rfl (Nat.le_of_ble_eq_true rfl) (by decide) (by kernel_rfl) rfl ?_;simp [nA h]
theorem begun_l (h:At p H m v):LC Tryz.prog EJ 79 [ptr p 0] H=some (.bool m.begun,H):=by
 refine ag rfl Tryz.func79 rfl (Nat.le_of_ble_eq_true rfl) (by decide) (by kernel_rfl) rfl ?_;have hg:=h.get;simp [hg]
theorem uO {d:Nat} :(⟨[.int .i64 d,.slice none 0 0,.int .i64 0,.bool false,str [],.int .i64 0,.bool false,.int .i64 1,.int .i64 (-1),.int .i64 0],135,true⟩:LB)=mb (M.start d) (.slice none 0 0):=rfl
theorem new_l {d:Nat} (h1:d<=200):LC Tryz.prog EJ 74 [.int .i64 (d:Nat)] H=some (.tuple #[ptr H.n 0,.int .i64 0],H.new (mb (M.start d) (.slice none 0 0))):=by
 obtain⟨r,h,e⟩:=aD (Q:=fun r=>r=(.tuple #[ptr H.n 0,.int .i64 0],H.new (mb (M.start d) (.slice none 0 0)))) (P:=Tryz.prog) (E:=EJ) (H:=H) (args:= [.int .i64 (d:Nat)]) rfl Tryz.func74 rfl (Nat.le_of_ble_eq_true rfl) (by decide) (by kernel_rfl) (by
  have f1:((d:Int)<0)=False:=eq_false (by omega);have f2:(200<(d:Int))=False:=eq_false (by omega);simp (config:= { maxSteps:=4000000 }) [f1,f2,uO])
 rw [h,e,iq (by simp [ao,az,aA])]
theorem at_new {d:Nat} (h1:d<=200) (hd: ∀l,H.n<=l->H.get l=none):At H.n (H.new (mb (M.start d) (.slice none 0 0))) (M.start d) (.slice none 0 0):=
 ⟨ak,Nat.lt_succ_self _,.inl ⟨rfl,rfl⟩,fun l hl=>by
  have:H.n+1<=l:=hl;rw [aa (by omega)];exact hd l (by omega),by simp [M.start],by simp [M.start];omega⟩
end
section
variable {p:Nat} {H H':LH} {m m':M} {v v':Value}
theorem At.back (h:At p H m v) (ha:At p H' m' v') (hle:H.le H'):At p H m' v':=by
 have hg:=ha.get;rw [hle.2 p h.lt,h.get]at hg;injection hg with hg;have hv:=iS hg;subst hv;exact⟨by rw [h.get,hg],h.lt,ha.row.keep (fun k hk hn=>(hle.2 k (h.row_lt hn)).symm),h.dom,ha.len,ha.depth⟩
end
end Go.Proofs.YtbeoilidocfofaaGreatDoor.Jx.Jn
namespace Go.Proofs.YtbeoilidocfofaaGreatDoor.Jx
open Go.Lg
section
open Tg.Js
variable {p:Nat} {H H':LH} {m m':M} {v v':Value}
theorem At.back (h:At p H m v) (ha:At p H' m' v') (hle:H.le H'):At p H m' v':=by
 have hg:=ha.get;rw [hle.2 p h.lt,h.get]at hg;injection hg with hg;have hv:=iS hg;subst hv;exact⟨by rw [h.get,hg],h.lt,ha.row.keep (fun k hk hn=>(hle.2 k (h.row_lt hn)).symm),h.dom,ha.len,ha.depth⟩
end
end Go.Proofs.YtbeoilidocfofaaGreatDoor.Jx
namespace Go.Proofs.YtbeoilidocfofaaGreatDoor.Jx.Lx
open Go.Lg Tg.Lx
def lc (m:L) (pj ps:Nat):List Value:= [ptr pj 0,ptr ps 0,.int .i64 m.verdict,str m.reason,.int .i64 m.at_,.int .i64 m.seen,.bool m.ended]
def lb (m:L) (pj ps:Nat):LB:=⟨lc m pj ps,93,true⟩
section
variable {H:LH} {b:UInt8} {m:L} {p pj ps:Nat}
@[simp] theorem Rx:(lb m pj ps).cells.length=7:=by simp only [lb,lc];simp only [List.length_cons,List.length_nil]
@[simp] theorem Tb:(lb m pj ps).rw=true:=by simp only [lb]
@[simp] theorem Uj:(lb m pj ps).cells[0]?=some (ptr pj 0):=rfl
@[simp] theorem Uk {hl:0<(lb m pj ps).cells.length} :(lb m pj ps).cells[0]'hl=ptr pj 0:=rfl
@[simp] theorem Ul:(lb m pj ps).cells[1]?=some (ptr ps 0):=rfl
@[simp] theorem Um {hl:1<(lb m pj ps).cells.length} :(lb m pj ps).cells[1]'hl=ptr ps 0:=rfl
@[simp] theorem KT:(lb m pj ps).cells[2]?=some (.int .i64 m.verdict):=rfl
@[simp] theorem KU {hl:2<(lb m pj ps).cells.length} :(lb m pj ps).cells[2]'hl=.int .i64 m.verdict:=rfl
@[simp] theorem KV {x:Int} :(⟨(lb m pj ps).cells.set 2 (.int .i64 x),(lb m pj ps).elem,true⟩:LB)=lb { m with verdict:=x } pj ps:=rfl
@[simp] theorem MJ:(lb m pj ps).cells[3]?=some (str m.reason):=rfl
@[simp] theorem ML {hl:3<(lb m pj ps).cells.length} :(lb m pj ps).cells[3]'hl=str m.reason:=rfl
@[simp] theorem MM {x:List UInt8} :(⟨(lb m pj ps).cells.set 3 (str x),(lb m pj ps).elem,true⟩:LB)=lb { m with reason:=x } pj ps:=rfl
@[simp] theorem Tc:(lb m pj ps).cells[4]?=some (.int .i64 m.at_):=rfl
@[simp] theorem Td {hl:4<(lb m pj ps).cells.length} :(lb m pj ps).cells[4]'hl=.int .i64 m.at_:=rfl
@[simp] theorem Te {x:Int} :(⟨(lb m pj ps).cells.set 4 (.int .i64 x),(lb m pj ps).elem,true⟩:LB)=lb { m with at_:=x } pj ps:=rfl
@[simp] theorem v_:(lb m pj ps).cells[5]?=some (.int .i64 m.seen):=rfl
@[simp] theorem wa {hl:5<(lb m pj ps).cells.length} :(lb m pj ps).cells[5]'hl=.int .i64 m.seen:=rfl
@[simp] theorem wb {x:Int} :(⟨(lb m pj ps).cells.set 5 (.int .i64 x),(lb m pj ps).elem,true⟩:LB)=lb { m with seen:=x } pj ps:=rfl
@[simp] theorem O9:(lb m pj ps).cells[6]?=some (.bool m.ended):=rfl
@[simp] theorem O_ {hl:6<(lb m pj ps).cells.length} :(lb m pj ps).cells[6]'hl=.bool m.ended:=rfl
@[simp] theorem O' {x:Bool} :(⟨(lb m pj ps).cells.set 6 (.bool x),(lb m pj ps).elem,true⟩:LB)=lb { m with ended:=x } pj ps:=rfl
structure At (H0:LH) (p pj ps:Nat) (vj vs:Value) (H:LH) (m:L):Prop where
 get:H.get p=some (lb m pj ps)
 lt:p<H.n
 aj:Jn.At pj H m.j vj
 aS:Go.Proofs.YtbeoilidocfofaaGreatDoor.Jx.At ps H m.s vs
 d1:p≠pj
 d2:p≠ps
 d3:pj≠ps
 o1:ay vj p
 o2:ay vs p
 o3:ay vj ps
 o4:ay vs pj
 o5: ∀k,ay vj k\/ay vs k
 tab:cJ H
 wf:Tg.Json.JWF m.j
 n0:H0.n<=H.n
 b0:H0.n<=p/\H0.n<=pj/\H0.n<=ps
 r0: ∀k,k<H0.n->ay vj k/\ay vs k
 keep: ∀k,k<H0.n->H.get k=H0.get k
def Post (H0:LH) (p pj ps:Nat) (m:L) (H:LH):Prop:= ∃vj vs,At H0 p pj ps vj vs H m
variable {H0 H':LH} {m':L} {vj vs vj' vs':Value}
theorem At.post (h:At H0 p pj ps vj vs H m):Post H0 p pj ps m H:=⟨_,_,h⟩
theorem At.le (h:At H0 p pj ps vj vs H m):H0.le H:=⟨h.n0,h.keep⟩
theorem At.set (h:At H0 p pj ps vj vs H m) (hj:m'.j=m.j) (hs:m'.s=m.s):At H0 p pj ps vj vs (H.set p (lb m' pj ps)) m':=by
 refine⟨aw,h.lt,?_,?_,h.d1,h.d2,h.d3,h.o1,h.o2,h.o3,h.o4,h.o5,h.tab,by rw [hj];exact h.wf,h.n0,h.b0,h.r0,fun k hk=>?_⟩
 ·rw [hj];exact h.aj.keep (Nat.le_refl _) (fun k hk hx=>ah (fun e=>by rcases hx with hx|hx;exact h.d1 (e.symm.trans hx);exact hx (e▸h.o1))) (fun l hl=>by have hl':H.n<=l:=hl;have:=h.lt;rw [ah (by omega)];exact h.aj.dom l hl')
 ·rw [hs];exact h.aS.keep (Nat.le_refl _) (fun k hk hx=>ah (fun e=>by rcases hx with hx|hx;exact h.d2 (e.symm.trans hx);exact hx (e▸h.o2))) (fun l hl=>by have hl':H.n<=l:=hl;have:=h.lt;rw [ah (by omega)];exact h.aS.dom l hl')
 ·rw [ah (by have:=h.b0.1;omega)];exact h.keep k hk
theorem At.new (h:At H0 p pj ps vj vs H m) {B:LB} :At H0 p pj ps vj vs (H.new B) m:=
 ⟨by rw [aa (by have:=h.lt;omega)];exact h.get,Nat.lt_succ_of_lt h.lt,h.aj.new,h.aS.new,h.d1,h.d2,h.d3,h.o1,h.o2,h.o3,h.o4,h.o5,h.tab,h.wf,Nat.le_succ_of_le h.n0,h.b0,h.r0,
  fun k hk=>by have:=h.n0;rw [aa (by omega)];exact h.keep k hk⟩
theorem At.goJ (h:At H0 p pj ps vj vs H m) {j':Tg.Json.M} (hp:Jn.Post pj H j' H') (hw:Tg.Json.JWF j'): ∃vj',At H0 p pj ps vj' vs H' { m with j:=j' } :=by
 obtain⟨vj',ha⟩:=hp.at_;have k:=hp.fr _ _ _ h.aj ha;have hlt:=h.aS.lt;refine⟨vj',by rw [k.keep p h.lt h.d1 h.o1];exact h.get,Nat.lt_of_lt_of_le h.lt k.n,ha,?_,h.d1,h.d2,h.d3,k.off p h.lt h.d1 h.o1,h.o2,k.off ps hlt (Ne.symm h.d3) h.o3,h.o4,fun q=>?_,⟨by rw [k.ng];exact h.tab.1,by rw [k.base];exact h.tab.2⟩,hw,Nat.le_trans h.n0 k.n,h.b0,fun q hq=>?_,fun q hq=>?_⟩
 ·refine h.aS.keep k.n (fun q hq hx=>?_) ha.dom;rcases hx with rfl|hx
  ·exact k.keep _ hq (Ne.symm h.d3) h.o3
  ·refine k.keep q hq (fun e=>hx (e▸h.o4)) ?_;rcases h.o5 q with h5|h5
   ·exact h5
   ·exact absurd h5 hx
 ·by_cases hx:ay vs q
  ·exact .inr hx
  ·refine .inl (k.off q (h.aS.row_lt hx) (fun e=>hx (e▸h.o4)) ?_);rcases h.o5 q with h5|h5
   ·exact h5
   ·exact absurd h5 hx
 ·have:=h.b0.2.1;have hn:=h.n0;exact⟨k.off q (by omega) (by omega) (h.r0 q hq).1,(h.r0 q hq).2⟩
 ·have:=h.b0.2.1;have hn:=h.n0;rw [k.keep q (by omega) (by omega) (h.r0 q hq).1];exact h.keep q hq
theorem At.goS (h:At H0 p pj ps vj vs H m) {s':Tg.Js.M} (hp:Go.Proofs.YtbeoilidocfofaaGreatDoor.Jx.Post ps H s' H'): ∃vs',At H0 p pj ps vj vs' H' { m with s:=s' } :=by
 obtain⟨vs',ha⟩:=hp.at_;have k:=hp.fr _ _ _ h.aS ha;have hlt:=h.aj.lt;refine⟨vs',by rw [k.keep p h.lt h.d2 h.o2];exact h.get,Nat.lt_of_lt_of_le h.lt k.n,?_,ha,h.d1,h.d2,h.d3,h.o1,k.off p h.lt h.d2 h.o2,h.o3,k.off pj hlt h.d3 h.o4,fun q=>?_,⟨by rw [k.ng];exact h.tab.1,by rw [k.base];exact h.tab.2⟩,h.wf,Nat.le_trans h.n0 k.n,h.b0,fun q hq=>?_,fun q hq=>?_⟩
 ·refine h.aj.keep k.n (fun q hq hx=>?_) ha.dom;rcases hx with rfl|hx
  ·exact k.keep _ hq h.d3 h.o4
  ·refine k.keep q hq (fun e=>hx (e▸h.o3)) ?_;rcases h.o5 q with h5|h5
   ·exact absurd h5 hx
   ·exact h5
 ·by_cases hx:ay vj q
  ·exact .inl hx
  ·refine .inr (k.off q (h.aj.row_lt hx) (fun e=>hx (e▸h.o3)) ?_);rcases h.o5 q with h5|h5
   ·exact absurd h5 hx
   ·exact h5
 ·have:=h.b0.2.2;have hn:=h.n0;exact⟨(h.r0 q hq).1,k.off q (by omega) (by omega) (h.r0 q hq).2⟩
 ·have:=h.b0.2.2;have hn:=h.n0;rw [k.keep q (by omega) (by omega) (h.r0 q hq).2];exact h.keep q hq
theorem dL {u:Value} {f:FuncId} {fn:Func} {c:Code} {args:List Value} (he:EJ f=none) (hf:Tryz.prog.funcs[f]?=some fn) (hb:fn.body=some c) (hN:args.length<=fn.ntmps) (hname:fn.name≠ "runtime.NumGoroutine") (hcd:codeOk EJ.loud fn.ntmps c=true)
  (h:At H0 p pj ps vj vs H m) (hr:aZ Tryz.prog EJ fn [.code c] (enter args) H (fun r=>r.1=u/\Post H0 p pj ps m' r.2)): ∃H',LC Tryz.prog EJ f args H=some (u,H')/\Post H0 p pj ps m' H':=by
 obtain⟨⟨u',H'⟩,hl,hu,hp⟩:=aD he hf hb hN hname hcd hr;simp only at hu;subst hu;rcases cm u' H H' with e|⟨e,_,hle⟩
 ·exact⟨H',by rw [hl,e],hp⟩
 ·refine⟨H,by rw [hl,e],?_⟩;obtain⟨vj',vs',ha⟩:=hp;refine⟨vj',vs',?_,h.lt,h.aj.back ha.aj hle,h.aS.back ha.aS hle,h.d1,h.d2,h.d3,ha.o1,ha.o2,ha.o3,ha.o4,ha.o5,h.tab,ha.wf,h.n0,h.b0,ha.r0,h.keep⟩;rw [<-hle.2 p h.lt];exact ha.get
end
end Go.Proofs.YtbeoilidocfofaaGreatDoor.Jx.Lx
namespace Go.Proofs.YtbeoilidocfofaaGreatDoor.Jx
open Go.Lg Tg.Js
section
variable {p:Nat} {H H' H1:LH} {m m' m1:M} {v v':Value} {b:UInt8} {s t:List UInt8}
theorem vP {d:Int} (h0:0<=d) (h1:d<=200):LC Tryz.prog EJ 75 [.int .i64 d] H=some (.tuple #[ptr H.n 0,.int .i64 0],H.new (mb (new d) (.slice none 0 0))):=by
 obtain⟨r,h,e⟩:=new_l (H:=H) h0 h1;rw [h,e]
theorem sQ {d:Int} (h0:0<=d) (h1:d<=200):clamp d=d:=by
 unfold clamp;rw [if_neg (show¬d<0 by omega),if_neg (by omega)]
end
end Go.Proofs.YtbeoilidocfofaaGreatDoor.Jx
namespace Go.Proofs.YtbeoilidocfofaaGreatDoor.Jx.Lx
open Go.Lg Tg.Lx
section
variable {H H' H0:LH} {b:UInt8} {m m':L} {p pj ps:Nat} {vj vs:Value} {s:List UInt8}
theorem sR {v:Int} {r:List UInt8} (hg:H.get p=some (lb m pj ps)) (hp:p<H.n):LC Tryz.prog EJ 80 [ptr p 0,.int .i64 v,str r] H=some (.tuple #[],H.set p (lb (m.settle v r) pj ps)):=by
 refine own rfl Tryz.func80 rfl (Nat.le_of_ble_eq_true rfl) (by decide) (by kernel_rfl) hg hp ?_;simp (config:= { maxSteps:=2000000 }) [hg,hp,L.settle]
theorem KW {ms:Tg.Js.M} (h:Go.Proofs.YtbeoilidocfofaaGreatDoor.Jx.At ps H ms vs):LC Tryz.prog EJ 113 [ptr ps 0] H=some (.int .i64 ms.ends,H):=by
 refine ag rfl Tryz.func113 rfl (Nat.le_of_ble_eq_true rfl) (by decide) (by kernel_rfl) rfl ?_;have hg:=h.get;simp [hg]
theorem sS {ms:Tg.Js.M} (h:Go.Proofs.YtbeoilidocfofaaGreatDoor.Jx.At ps H ms vs):LC Tryz.prog EJ 82 [ptr ps 0] H=some (.int .i64 ms.tell,H):=by
 refine ag rfl Tryz.func82 rfl (Nat.le_of_ble_eq_true rfl) (by decide) (by kernel_rfl) rfl ?_;simp [nA h]
theorem uP {j:Tg.Json.M} (n:Nat):((j.tell:Int)=(n:Int))=(j.tell=n):=propext (by omega)
theorem FO (h:At H0 p pj ps vj vs H m): ∃H',LC Tryz.prog EJ 78 [ptr p 0] H=some (.tuple #[],H')/\Post H0 p pj ps m.look H':=by
 refine dL rfl Tryz.func78 rfl (Nat.le_of_ble_eq_true rfl) (by decide) (by kernel_rfl) h ?_;have hg:=h.get;have hp:=h.lt;have hj:=Jn.state_l h.aj;have hs:=sS h.aS;have he:=KW h.aS;have hse:=fun v r=>sR (v:=v) (r:=r) hg hp;have e3:((m.j.tell:Int)=3)=(m.j.tell=3):=uP 3;have e0:((m.j.tell:Int)=0)=(m.j.tell=0):=uP 0;have en:=fun v r=>(h.set (m':=m.settle v r) rfl rfl).post;unfold L.look;by_cases c1:m.j.tell=3
 ·rw [if_pos c1];simp (config:= { maxSteps:=4000000 }) [hg,hp,hj,hs,he,e3,eq_true c1,hse];exact en _ _
 rw [if_neg c1];have f1:=eq_false c1;by_cases c2:m.s.tell=0
 ·rw [if_pos c2];simp (config:= { maxSteps:=4000000 }) [hg,hp,hj,hs,he,e3,f1,eq_true c2,hse];exact en _ _
 rw [if_neg c2];have f2:=eq_false c2;by_cases c3:m.j.tell=0
 ·have f3:=eq_true c3;by_cases c4:0<m.s.ends
  ·rw [if_pos ⟨c3,c4⟩];simp (config:= { maxSteps:=4000000 }) [hg,hp,hj,hs,he,e3,f1,f2,e0,f3,eq_true c4,hse];exact en _ _
  ·rw [if_neg (fun hx=>c4 hx.2)];simp (config:= { maxSteps:=4000000 }) [hg,hp,hj,hs,he,e3,f1,f2,e0,f3,eq_false c4,hse];exact h.post
 ·rw [if_neg (fun hx=>c3 hx.1)];simp (config:= { maxSteps:=4000000 }) [hg,hp,hj,hs,he,e3,f1,f2,e0,eq_false c3,hse];exact h.post
theorem uQ (m:L) (b:UInt8):(m.step b).j.seen<=m.j.seen+1:=by
 unfold L.step;split
 ·show m.j.seen<=_;omega
 ·have:((m.see.take1 b).look).j=m.j.feed [b]:=by
   rcases L.look_cases (m.see.take1 b)with e|⟨v,r,_,e⟩<;>rw [e]<;>rfl
  rw [this,Tg.Json.seen_feed];simp
theorem uR (t:List UInt8): ∀m:L,(m.feed t).j.seen<=m.j.seen+t.length:=by
 induction t with
 |nil=>intro m;exact Nat.le_refl _
 |cons b r ih=>
  intro m;have h1:=ih (m.step b);have h2:=uQ m b;show((m.step b).feed r).j.seen<=_;simp only [List.length_cons];omega
set_option maxHeartbeats 4000000 in
theorem Cp (h:At H0 p pj ps vj vs H m) (hs:s.length<=1048576) (hse:m.j.seen<=549755813888): ∃H',LC Tryz.prog EJ 50 [ptr p 0,str s] H=some (.int .i64 (m.feed s).verdict,H')/\Post H0 p pj ps (m.feed s) H':=by
 refine dL rfl Tryz.func50 rfl (Nat.le_of_ble_eq_true rfl) (by decide) (by kernel_rfl) h ?_;simp;refine aK (fun(i:Nat) fr' H'=>fr' 0=ptr p 0/\fr' 1=str s/\fr' 7=.int .i64 s.length/\fr' 8=.int .i64 i/\i<=s.length/\Post H0 p pj ps (m.feed (s.take i)) H') (fun i=>s.length-i) 0 ?_ ?_
 ·exact⟨by simp,by simp,by simp,by simp,Nat.zero_le _,h.post⟩
 rintro i fr' H' ⟨h0,h1,h9,h10,hi,vj1,vs1,a1⟩ ih;have hg:=a1.get;have hp:=a1.lt;have hsn:(m.feed (s.take i)).j.seen<=1099511627776:=by have:=uR (s.take i) m;simp at this;omega
 by_cases hlt:i<s.length
 ·have hwr:IntKind.i64.wrap ((i:Int)+1)=((i+1:Nat):Int):=by rw [wrap64_in (by omega) (by omega)];omega
  have hst:=L.feed_take m s hlt
  have hsub:sub s (i:Int) ((i:Int)+1)= [s[i]]:=by
   unfold sub;have e1:((i:Int)).toNat=i:=by omega
   have e2:((i:Int)+1).toNat=i+1:=by omega
   rw [e1,e2,List.take_succ_eq_append_getElem hlt,List.drop_append_of_le_length (by simp;omega)];rw [List.drop_eq_nil_of_le (by simp;omega)];rfl
  have hb1:((i:Int)<=(i:Int)+1)=True:=eq_true (by omega);have hb2:((i:Int)+1<=(s.length:Int))=True:=eq_true (by omega);generalize m.feed (s.take i)=m1 at*;generalize s[i]=b at*;have aS:=a1.set (m':=m1.see) rfl rfl;have gs:=aS.get;have ls:=aS.lt;have hsee:lb { m1 with seen:=IntKind.i64.wrap (m1.seen+1) } pj ps=lb m1.see pj ps:=rfl;unfold L.step at hst;by_cases c1:m1.verdict=0
  ·have f1:(m1.see.verdict=0)=True:=eq_true c1;cases c2:m1.ended with
   |true=>
    rw [if_pos (.inr c2)]at hst;have f2:m1.see.ended=true:=c2;simp (config:= { maxSteps:=4000000 }) [h0,h1,h9,h10,hlt,hg,hp,hwr,hsee,gs,f1,f2];refine ih (i+1) _ _ (by omega) ⟨by simp [h0],by simp [h1],by simp [h9],by simp,hlt,?_⟩;rw [hst];exact aS.post
   |false=>
    rw [if_neg (by rintro(hx|hx);exact hx c1;rw [c2]at hx;cases hx)]at hst;have f2:m1.see.ended=false:=c2;obtain⟨H2,e2,p2⟩:=Jn.feed_ex (s:= [b]) aS.aj aS.wf (by simp) hsn;obtain⟨vj2,a2⟩:=aS.goJ p2 aS.wf.feed;obtain⟨H3,e3,p3⟩:=feed_ex (s:= [b]) a2.aS a2.tab (by simp);obtain⟨vs3,a3⟩:=a2.goS p3;obtain⟨H4,e4,vj4,vs4,a4⟩:=FO a3;have g2:=a2.get;have g3:=a3.get;simp (config:= { maxSteps:=4000000 }) [h0,h1,h9,h10,hlt,hg,hp,hwr,hsee,gs,f1,f2,hsub,hb1,hb2,e2,g2,e3,g3,e4];refine ih (i+1) _ _ (by omega) ⟨by simp [h0],by simp [h1],by simp [h9],by simp,hlt,?_⟩;rw [hst];exact⟨_,_,a4⟩
  ·rw [if_pos (.inl c1)]at hst;have f1:(m1.see.verdict=0)=False:=eq_false c1;simp (config:= { maxSteps:=4000000 }) [h0,h1,h9,h10,hlt,hg,hp,hwr,hsee,gs,f1];refine ih (i+1) _ _ (by omega) ⟨by simp [h0],by simp [h1],by simp [h9],by simp,hlt,?_⟩;rw [hst];exact aS.post
 ·have hi2:s.take i=s:=List.take_of_length_le (by omega);rw [hi2]at a1 hg;simp [h0,h1,h9,h10,hlt,hg];exact a1.post
theorem FP (h:At H0 p pj ps vj vs H m): ∃H',LC Tryz.prog EJ 51 [ptr p 0] H=some (.int .i64 m.fin.verdict,H')/\Post H0 p pj ps m.fin H':=by
 refine dL rfl Tryz.func51 rfl (Nat.le_of_ble_eq_true rfl) (by decide) (by kernel_rfl) h ?_;have hg:=h.get;have hp:=h.lt;have ae:=h.set (m':= { m with ended:=true }) rfl rfl;have ge:=ae.get;have le:=ae.lt;have hj:=Jn.state_l ae.aj;have hb:=Jn.begun_l ae.aj;have hs:=sS ae.aS;have hse:=fun v r=>sR (v:=v) (r:=r) ge le;have en:=fun v r=>(h.set (m':=({ m with ended:=true } :L).settle v r) rfl rfl)
 have sv: ∀v r,(({ m with ended:=true } :L).settle v r).verdict=v:=fun _ _=>rfl;have e0:((m.j.tell:Int)=0)=(m.j.tell=0):=uP 0;unfold L.fin;by_cases c1:m.verdict≠0
 ·rw [if_pos c1];have f1:=eq_false c1;simp (config:= { maxSteps:=4000000 }) [hg,hp,ge,le,c1];exact ae.post
 rw [if_neg c1];have f1:(m.verdict=0)=True:=eq_true (Classical.byContradiction c1);cases c2:m.j.begun with
 |false=>
  rw [if_pos rfl];have hb':=hb;rw [show({ m with ended:=true } :L).j.begun=false from c2]at hb';simp (config:= { maxSteps:=4000000 }) [hg,hp,ge,le,f1,hb',hse,sv];exact(en _ _).post
 |true=>
  rw [if_neg (by simp)];have hb':=hb;rw [show({ m with ended:=true } :L).j.begun=true from c2]at hb';by_cases c3:m.j.tell≠0
  ·rw [if_pos c3];have f3:(m.j.tell=0)=False:=eq_false c3;simp (config:= { maxSteps:=4000000 }) [hg,hp,ge,le,f1,hb',hj,f3,hse,sv];exact(en _ _).post
  ·rw [if_neg c3];have f3:(m.j.tell=0)=True:=eq_true (by omega);by_cases c4:m.s.tell=2
   ·rw [if_pos c4];simp (config:= { maxSteps:=4000000 }) [hg,hp,ge,le,f1,hb',hj,f3,hs,eq_true c4,hse,sv];exact(en _ _).post
   ·rw [if_neg c4];simp (config:= { maxSteps:=4000000 }) [hg,hp,ge,le,f1,hb',hj,f3,hs,eq_false c4,hse,sv];exact(en _ _).post
end
section
variable {H H' H0:LH} {b:UInt8} {m m':L} {p pj ps:Nat} {vj vs:Value} {s:List UInt8}
def fresh (d:Nat) (H:LH):LH:=((H.new (Jn.mb (Tg.Json.M.start d) (.slice none 0 0))).new (Go.Proofs.YtbeoilidocfofaaGreatDoor.Jx.mb (Tg.Js.new d) (.slice none 0 0))).new (lb (L.new d) H.n (H.n+1))
theorem KX {d pj ps:Nat} :(⟨[ptr pj 0,ptr ps 0,.int .i64 0,str [],.int .i64 (-1),.int .i64 0,.bool false],93,true⟩:LB)=lb (L.new d) pj ps:=rfl
theorem FQ {d:Nat} (h1:d<=200):LC Tryz.prog EJ 49 [.int .i64 (d:Nat)] H=some (.tuple #[ptr (H.n+2) 0,.int .i64 0],fresh d H):=by
 obtain⟨r,h,e⟩:=aD (Q:=fun r=>r=(.tuple #[ptr (H.n+2) 0,.int .i64 0],fresh d H)) (P:=Tryz.prog) (E:=EJ) (H:=H) (args:= [.int .i64 (d:Nat)]) rfl Tryz.func49 rfl (Nat.le_of_ble_eq_true rfl) (by decide) (by kernel_rfl) (by
  have e1:=Jn.new_l (H:=H) h1;have e2:LC Tryz.prog EJ 75 [.int .i64 (d:Nat)] (H.new (Jn.mb (Tg.Json.M.start d) (.slice none 0 0)))=some (.tuple #[ptr (H.n+1) 0,.int .i64 0],(H.new (Jn.mb (Tg.Json.M.start d) (.slice none 0 0))).new (Go.Proofs.YtbeoilidocfofaaGreatDoor.Jx.mb (Tg.Js.new d) (.slice none 0 0))):=vP (by omega) (by omega);simp (config:= { maxSteps:=4000000 }) [e1,e2,KX (d:=d),fresh])
 rw [h,e,iq (by simp [ao,az,aA])]
theorem Cq {d:Nat} (h1:d<=200) (hd: ∀l,H.n<=l->H.get l=none) (ht:cJ H):At H (H.n+2) H.n (H.n+1) (.slice none 0 0) (.slice none 0 0) (fresh d H) (L.new d):=by
 have aj:=Jn.at_new (H:=H) h1 hd;have aT:=at_new (H:=H.new (Jn.mb (Tg.Json.M.start d) (.slice none 0 0))) (d:=(d:Int)) (by omega) (by omega) aj.dom;have aT':=aT.new (B:=lb (L.new d) H.n (H.n+1));have aj':=(aj.new (B:=Go.Proofs.YtbeoilidocfofaaGreatDoor.Jx.mb (Tg.Js.new d) (.slice none 0 0))).new (B:=lb (L.new d) H.n (H.n+1));refine⟨ak,Nat.lt_succ_self _,aj',aT',by omega,by omega,by omega,df,df,df,df,fun _=>.inl df,⟨ht.1,ht.2⟩,Tg.Json.JWF.start h1,?_,⟨by omega,Nat.le_refl _,by omega⟩,fun _ _=>⟨df,df⟩,fun k hk=>?_⟩
 ·show H.n<=H.n+1+1+1;omega
 ·unfold fresh;rw [aa (by show k≠H.n+1+1;omega),aa (by show k≠H.n+1;omega),aa (by omega)]
def jv (v:Int) (r:List UInt8) (a:Int):Value:=.agg ⟨[.int .i64 v,str r,.int .i64 a,.bool false]⟩
@[simp] theorem qH {v:Int} {r:List UInt8} {a:Int} :ao (jv v r a)=true:=by simp [jv,ao,az]
def jb (v:Int) (r:List UInt8) (a:Int):LB:=⟨[.int .i64 v,str r,.int .i64 a,.bool false],38,true⟩
@[simp] theorem Pa {v:Int} {r:List UInt8} {a:Int} :(jb v r a).cells= [.int .i64 v,str r,.int .i64 a,.bool false]:=by simp only [jb]
@[simp] theorem Tf {v:Int} {r:List UInt8} {a:Int} :(jb v r a).rw=true:=by simp only [jb]
def wholeP (s:List UInt8) (d:Nat) (en:Bool):L:=if en then((L.new d).feed s).fin else(L.new d).feed s
def atP (m:L):Int:=if m.at_<0 then 0 else m.at_
theorem FR {d:Int} {en:Bool} {D:Nat} (hD:(D:Int)=clamp d) (h2:D<=200) (hd: ∀l,H.n<=l->H.get l=none) (ht:cJ H) (hs:s.length<=1048576):
  LC Tryz.prog EJ 30 [str s,.int .i64 d,.bool en] H=some (jv (wholeP s D en).verdict (wholeP s D en).reason (atP (wholeP s D en)),H):=by
 refine ag rfl Tryz.func30 rfl (Nat.le_of_ble_eq_true rfl) (by decide) (by kernel_rfl) qH ?_;have hcl:(if 200<(if d<0 then(0:Int)else d)then(200:Int)else if d<0 then 0 else d)=(D:Int):=by rw [hD];unfold clamp;rfl
 have hd1: ∀l,(H.new (jb 0 [] 0)).n<=l->(H.new (jb 0 [] 0)).get l=none:=fun l hl=>by
  have hl':H.n+1<=l:=hl;rw [aa (by omega)];exact hd l (by omega)
 have hjb:(⟨[.int .i64 0,str [],.int .i64 0,.bool false],38,true⟩:LB)=jb 0 [] 0:=rfl;have ef:LC Tryz.prog EJ 49 [.int .i64 (D:Nat)] (H.new (jb 0 [] 0))=some (.tuple #[ptr (H.n+3) 0,.int .i64 0],fresh D (H.new (jb 0 [] 0))):=FQ h2;have a0:=Cq (H:=H.new (jb 0 [] 0)) h2 hd1 ⟨ht.1,ht.2⟩;have a0':At (H.new (jb 0 [] 0)) (H.n+3) (H.n+1) (H.n+2) (.slice none 0 0) (.slice none 0 0) (fresh D (H.new (jb 0 [] 0))) (L.new D):=a0;obtain⟨H1,e1,vj1,vs1,a1⟩:=Cp a0' hs (by show(0:Nat)<=_;omega);cases en with
 |false=>
  have hm:wholeP s D false=(L.new D).feed s:=rfl;rw [hm];generalize (L.new D).feed s=m at*;have g1:=a1.get;have k1:H1.get H.n=some (jb 0 [] 0):=by rw [a1.keep H.n (Nat.lt_succ_self _)];exact ak
  have hle:H.le H1:=le_refl.new.trans a1.le;have k1n:H.n<H1.n:=Nat.lt_of_lt_of_le (Nat.lt_succ_self _) a1.n0;have hat:(if m.at_<0 then(0:Int)else m.at_)=atP m:=rfl;simp (config:= { maxSteps:=4000000 }) [hjb,hcl,ef,e1,g1,k1,hat,jv,aW,hle.set]
 |true=>
  have hm:wholeP s D true=((L.new D).feed s).fin:=rfl;rw [hm];generalize (L.new D).feed s=m at*;obtain⟨H2,e2,vj2,vs2,a2⟩:=FP a1;generalize m.fin=m2 at*;have g2:=a2.get;have k2:H2.get H.n=some (jb 0 [] 0):=by rw [a2.keep H.n (Nat.lt_succ_self _)];exact ak
  have hle:H.le H2:=le_refl.new.trans a2.le;have hat:(if m2.at_<0 then(0:Int)else m2.at_)=atP m2:=rfl;simp (config:= { maxSteps:=4000000 }) [hjb,hcl,ef,e1,e2,g2,k2,hat,jv,aW,hle.set]
end
section
variable {H H' H0:LH} {b:UInt8} {m m':L} {p pj ps:Nat} {vj vs:Value} {s t:List UInt8}
def rv (l:Bool) (k d:Int):Value:=.agg ⟨[.bool l,.int .i64 k,.int .i64 d]⟩
@[simp] theorem QI {l:Bool} {k d:Int} :ao (rv l k d)=true:=by simp [rv,ao,az]
def lim (k:Int):Int:=if 1048576<(if k<1445 then(1445:Int)else k)then 1048576 else if k<1445 then 1445 else k
def snAt (n:Int):Int:=if 1445<(if n<0 then(0:Int)else n)then 1445 else if n<0 then 0 else n
theorem FT {l:Bool} {k d:Int} :LC Tryz.prog EJ 29 [rv l k d] H=some (.int .i64 (lim k),H):=by
 refine ag rfl Tryz.func29 rfl (Nat.le_of_ble_eq_true rfl) (by decide) (by kernel_rfl) rfl ?_;simp [rv,lim,le_refl.new]
theorem KY {n:Int} :LC Tryz.prog EJ 31 [.int .i64 n] H=some (.int .i64 (snAt n),H):=by
 refine ag rfl Tryz.func31 rfl (Nat.le_of_ble_eq_true rfl) (by decide) (by kernel_rfl) rfl ?_;simp [snAt]
theorem KZ (k:Int):1445<=lim k/\lim k<=1048576:=by
 unfold lim;repeat' split
 all_goals omega
structure J where
 v:Int
 r:List UInt8
 a:Int
def ofP (s:List UInt8) (k:Int) (D:Nat) (en:Bool):J:=
 let m:=wholeP (s.take (if lim k<s.length then lim k else s.length).toNat) D (en&&decide ((s.length:Int)<lim k))
 if m.verdict≠0 then⟨m.verdict,m.reason,if atP m<snAt s.length then snAt s.length else atP m⟩
 else if lim k<=(s.length:Int)then⟨2,L.rLimit,lim k⟩
 else⟨m.verdict,m.reason,atP m⟩
def J.val (j:J):Value:=jv j.v j.r j.a
@[simp] theorem flat_jval {j:J} :ao j.val=true:=qH
theorem of_l {l:Bool} {k d:Int} {en:Bool} {D:Nat} (hD:(D:Int)=clamp d) (h2:D<=200) (hd: ∀l,H.n<=l->H.get l=none) (ht:cJ H) (hs:s.length<=9223372036854775807):
  LC Tryz.prog EJ 23 [str s,rv l k d,.bool en] H=some ((ofP s k D en).val,H):=by
 refine ag rfl Tryz.func23 rfl (Nat.le_of_ble_eq_true rfl) (by decide) (by kernel_rfl) flat_jval ?_;obtain⟨hk1,hk2⟩:=KZ k;unfold ofP;dsimp only;have hl: ∀H,LC Tryz.prog EJ 29 [.agg ⟨[.bool l,.int .i64 k,.int .i64 d]⟩] H=some (.int .i64 (lim k),H):=fun H=>FT;generalize lim k=K at*;have ha:=fun H=>KY (H:=H) (n:=s.length);generalize snAt s.length=q at*;have hmin:(if(K:Int)<s.length then K else(s.length:Int))<=s.length:=by split<;>omega
 have hmin0:0<=(if(K:Int)<s.length then K else(s.length:Int)):=by split<;>omega
 generalize hN:(if(K:Int)<s.length then K else(s.length:Int))=N at*
 have hlen:(s.take N.toNat).length<=1048576:=by
  have:N<=1048576:=by rw [<-hN];split<;>omega
  simp;omega
 generalize hu:s.take N.toNat=u at*
 have B1: ∀(en2:Bool),LC Tryz.prog EJ 30 [str u,.int .i64 d,.bool en2] ((H.new ⟨[.bool l,.int .i64 k,.int .i64 d],23,true⟩).new (jb 0 [] 0)).ro=some (jv (wholeP u D en2).verdict (wholeP u D en2).reason (atP (wholeP u D en2)),((H.new ⟨[.bool l,.int .i64 k,.int .i64 d],23,true⟩).new (jb 0 [] 0)).ro):=fun en2=>by
  refine FR hD h2 (fun j hj=>?_) ⟨ht.1,ht.2⟩ hlen;have hj':H.n+1+1<=j:=hj;rw [uf,aa (by show j≠H.n+1;omega),aa (by omega),hd j (by omega)];rfl
 have hjb:(⟨[.int .i64 0,str [],.int .i64 0,.bool false],38,true⟩:LB)=jb 0 [] 0:=rfl;have hle:H.le (((H.new ⟨[.bool l,.int .i64 k,.int .i64 d],23,true⟩).new (jb 0 [] 0)).new (jb 0 [] 0)):=le_refl.new.new.new;have hfa: ∀(v:Int) (r:List UInt8) (a:Int),ao (.agg ⟨[.int .i64 v,str r,.int .i64 a,.bool false]⟩)=true:=fun v r a=>qH
 have c1:((s.length:Int)<K)=True/\(K<=(s.length:Int))=False\/((s.length:Int)<K)=False/\(K<=(s.length:Int))=True:=by
  rcases Int.lt_or_le (s.length:Int) K with h1|h1
  ·exact .inl ⟨eq_true h1,eq_false (by omega)⟩
  ·exact .inr ⟨eq_false (by omega),eq_true h1⟩
 obtain⟨en2,h2e⟩: ∃en2,en2=(en&&decide ((s.length:Int)<K)):=⟨_,rfl⟩
 rw [<-h2e];have B2:=B1 en2;generalize wholeP u D en2=m at*;have c2:m.verdict=0\/m.verdict≠0:=Decidable.em _;generalize atP m=am at*;rcases c1 with⟨f1,f2⟩|⟨f1,f2⟩<;>cases en<;>simp only [f1,decide_true,decide_false,Bool.true_and,Bool.false_and]at h2e<;>subst h2e<;>rcases c2 with f3|f3<;>simp (config:= { maxSteps:=4000000,maxDischargeDepth:=9 }) [rv,jv,J.val,hl,ha,hjb,hN,hu,hmin,hmin0,f1,f2,f3,B2,hfa,aW,L.rLimit,LH.le.set,LH.le.new]
end
end Go.Proofs.YtbeoilidocfofaaGreatDoor.Jx.Lx
