/-
  Texts joined, part 6: SnPart, SnGrp, SnGrpB, SnGrpC, MiVal, MiAll, MiEnds, Rp, MiSplit, UrCode, UrCodeB, UrCodeC, UrSplit, UrDots, NuPlain, NuParts, UrNum, UrGood, UrLens, UrParse, HdPlain, HdBack, HdCode, MiMime, MiPar, MiParse, MiGood, MiWith, HdRows, HdRef, HdList, HdText, HdSetC, HdSetR, MiRefA, MiRefB, MiRefC, MiSplitB, HdGet, HdGetR, MiComb, MiRefD, MiExt, MiRefE, MiSaid, MiSaidB, MiRefF, ObJudge, ObOf, ObLaw, DoorN, DoorR, ObMedP, ObMedia.
-/
import Derived.Test.YtjplaockjmhnjaaGreatDoorM5
import Derived.Test.YtjplaockjmhnjaaGreatDoorM4
import Derived.Test.YtjplaockjmhnjaaGreatDoorM1
import Derived.Lib.IndexAny
import Derived.Lib.SlTrimSet
import Derived.Lib.ItoaNum
import Derived.Test.YtjplaockjmhnjaaGreatDoorRows
import Derived.ProofKit
import Derived.WideShapes
import Derived.RowKit
import Derived.ChangeArms
import Derived.LaidMore
import Derived.LaidSub
import Derived.Lib.LaidTab
import Derived.Stop.Joined
import Derived.Shelf.Vars
import Derived.HandedShaped
import Derived.Lay
import Derived.DataShut
set_option linter.unusedSimpArgs false
set_option linter.unusedVariables false
set_option maxRecDepth 100000
namespace Go.Proofs.YtjplaockjmhnjaaGreatDoor.Sn
open Go.Lg Go.Tg
abbrev jv (v:Int) (r:List UInt8) (n:Int) (b:Bool):Value:=.agg #[.int .i64 v,str r,.int .i64 n,.bool b]
section
variable {H:LH} {s t:List UInt8} {v w:Value}
theorem jd_in {v v' n n':Int} {r r':List UInt8} {b b':Bool} :pureVal Tryz.prog (Op.equalIn Op.maxDepth 31 (jv v r n b) (jv v' r' n' b'))=some (decide (v=v'∧r=r'∧n=n'∧b=b')):=by
 show pureVal Tryz.prog (Op.equalIn ((9998+1)+1) _ _ _)=_
 have hs:Tryz.prog.stoodInHeld 31=false:=by kernel_rfl
 unfold Op.equalIn
 simp only [pureVal_bind,pureVal_und,Tryz.underlying31,Option.bind_some,pureVal_program,hs,Bool.false_eq_true,if_false,pureVal_pure]
 by_cases h1:v=v'<;>by_cases h2:r=r'<;>by_cases h3:n=n'<;>by_cases h4:b=b'<;>
  simp [←Array.forIn_toList,pureVal_bind,part_cell,eqIn_int,eqIn_str,eqIn_bool,h1,h2,h3,h4,Tryz.underlying3,Tryz.underlying9,Tryz.underlying4]
theorem jd_eq {v v' n n':Int} {r r':List UInt8} {b b':Bool} :lbin Tryz.prog .eql 31 (jv v r n b) (jv v' r' n' b')=some (.bool (decide (v=v'∧r=r'∧n=n'∧b=b'))):=lbin_agg rfl rfl (by kernel_rfl) jd_in
theorem lfill_j4 {v n:Int} {r:List UInt8} {b:Bool} :lfill Tryz.prog 31 [.int .i64 0,str [],.int .i64 0,.bool false] [(0,.int .i64 v),(1,str r),(2,.int .i64 n),(3,.bool b)]=some [.int .i64 v,str r,.int .i64 n,.bool b]:=by
 rw [lfill_cell (o:=0) (n:=1) (g:=false) (by simp) rfl (by simp) (by simp),lfill_cell (o:=1) (n:=1) (g:=false) (by simp) rfl (by simp) (by simp),lfill_cell (o:=2) (n:=1) (g:=false) (by simp) rfl (by simp) (by simp),lfill_cell (o:=3) (n:=1) (g:=false) (by simp) rfl (by simp) (by simp)]
 simp
theorem lfill_ask {c n:Bool} {m:Int} :lfill Tryz.prog 23 [str [],.bool false,.bool false,.int .i64 0] [(1,.bool c),(2,.bool n),(3,.int .i64 m)]=some [str [],.bool c,.bool n,.int .i64 m]:=by
 rw [lfill_cell (o:=1) (n:=1) (g:=false) (by simp) rfl (by simp) (by simp),lfill_cell (o:=2) (n:=1) (g:=false) (by simp) rfl (by simp) (by simp),lfill_cell (o:=3) (n:=1) (g:=false) (by simp) rfl (by simp) (by simp)]
 simp
theorem lfill_rep {m:Int} :lfill Tryz.prog 26 [.int .i64 0,.slice none 0 0] [(0,.int .i64 m)]=some [.int .i64 m,.slice none 0 0]:=by
 rw [lfill_cell (o:=0) (n:=1) (g:=false) (by simp) rfl (by simp) (by simp)]
 simp
end
abbrev mvp (a b:List UInt8) (p:Value):Value:=.agg #[str a,str b,p]
abbrev svp (a b:List UInt8) (p:Value) (h n g:Bool):Value:=.agg #[str a,str b,p,.bool h,.bool n,.bool g]
section
variable {H:LH} {s t:List UInt8} {pa:Option Addr} {pl pc:Nat}
theorem fields_k {u:List UInt8} {ws:List (List UInt8)} {n:Nat} (hl:u.length≤1000000) (ha:(u.all fun b=>decide (b.toNat<128))=true) (hf:Lib.fields u=ws) (hn:ws.length=n) (hw:n≤1000) (ht:Tab H):LC Tryz.prog EJ 121 [str u] H=some (sl H.n n n,H.new ⟨ws.map str,9,true⟩):=by
 refine LC_ext (s:=specFields) rfl ?_
 have e:(⟨u.toArray⟩:ByteArray).data.toList=u:=by simp
 simp only [specFields,str,e,hf,hn]
 have ha': ∀(j:Nat) b,u[j]?=some b→b.toNat<128:=fun j b hb=>by
  have:=List.all_eq_true.1 ha b (List.mem_of_getElem? hb)
  simpa using this
 rw [if_pos ⟨by rw [ba_size];omega,ha',ht,by simp [maxLen,hf,hn];omega⟩]
 rfl
theorem under_k {k u:List UInt8} {ws:List (List UInt8)} {n:Nat} (hl:u.length≤1000000) (ha:(u.all fun b=>decide (b.toNat<128))=true) (hf:Lib.fields u=ws) (hn:ws.length=n) (hw:n≤1000) (ht:Tab H):LC Tryz.prog EJ 82 [mvp s t (.slice pa pl pc),str k,str u] H=some (.bool (decide (s=k)&&decide (t∈ws)),H):=by
 refine LC_pure rfl Tryz.func82 rfl (Nat.le_of_ble_eq_true rfl) (by decide) (by kernel_rfl) rfl ?_
 by_cases h:s=k
 ·have h1:=fields_k (H:=H.new ⟨[str s,str t,.slice pa pl pc],41,true⟩) hl ha hf hn hw (show Tab (H.new _) from ht)
  have h2:LC Tryz.prog EJ 120 [sl (H.n+1) n n,str t] ((H.new ⟨[str s,str t,.slice pa pl pc],41,true⟩).new ⟨ws.map str,9,true⟩)=some (.bool (decide (t∈ws)),(H.new ⟨[str s,str t,.slice pa pl pc],41,true⟩).new ⟨ws.map str,9,true⟩):=by
   refine up rfl (contS_cl ?_ (by omega))
   rw [←hn]
   exact SRow.of (k:=(H.new ⟨[str s,str t,.slice pa pl pc],41,true⟩).n) (c:=ws.length) (rest:= []) (by rw [get_new,List.append_nil]) (Nat.lt_succ_self _)
  rw [decide_eq_true h,Bool.true_and]
  generalize decide (t∈ws)=b at*
  subst h
  simp only [n_new]at h1
  simp [h1,h2]
 ·rw [decide_eq_false h,Bool.false_and]
  have q:=eq_false h
  simp [q]
end
end Go.Proofs.YtjplaockjmhnjaaGreatDoor.Sn
namespace Tg.Sn
def isMedia (s t:List UInt8):Bool:=decide (s= [97,117,100,105,111])||(decide (s= [118,105,100,101,111])||(decide (s= [97,112,112,108,105,99,97,116,105,111,110])&&decide (t= [111,103,103])))
end Tg.Sn
namespace Go.Proofs.YtjplaockjmhnjaaGreatDoor.Sn
open Go.Lg Go.Tg
section
variable {H:LH} {s t:List UInt8} {pa:Option Addr} {pl pc:Nat}
theorem gmedia_k (ht:Tab H):LC Tryz.prog EJ 88 [mvp s t (.slice pa pl pc)] H=some (.bool (Tg.Sn.isMedia s t),H):=by
 refine LC_pure rfl Tryz.func88 rfl (Nat.le_of_ble_eq_true rfl) (by decide) (by kernel_rfl) rfl ?_
 have h2:=under_k (H:=H.new ⟨[str s,str t,.slice pa pl pc],41,true⟩) (s:=s) (t:=t) (pa:=pa) (pl:=pl) (pc:=pc) (k:= [97,112,112,108,105,99,97,116,105,111,110]) (u:= [111,103,103]) (ws:= [[111,103,103]]) (n:=1) (by decide) (by decide) (by decide+kernel) rfl (by decide) (show Tab (H.new _) from ht)
 have e:(decide (s= [97,112,112,108,105,99,97,116,105,111,110])&&decide (t∈ [[111,103,103]]))=(decide (s= [97,112,112,108,105,99,97,116,105,111,110])&&decide (t= [111,103,103])):=by simp
 rw [e]at h2
 unfold Tg.Sn.isMedia
 generalize (decide (s= [97,112,112,108,105,99,97,116,105,111,110])&&decide (t= [111,103,103]))=b2 at*
 by_cases h1:s= [97,117,100,105,111]
 ·simp [h1]
 ·by_cases h3:s= [118,105,100,101,111]
  ·simp [h3]
  ·cases b2<;>simp [h1,h3,h2]
end
section
variable {H:LH} {s t:List UInt8} {pa:Option Addr} {pl pc:Nat} {h n g:Bool}
theorem ess_k (h:s.length+t.length≤1000000):LC Tryz.prog EJ 122 [mvp s t (.slice pa pl pc)] H=some (str (s++47::t),H):=by
 have h1: ∀H:LH,LC Tryz.prog EJ 166 [mvp s t (.slice pa pl pc)] H=some (str (s++47::t),H):=fun H=>by
  refine LC_pure rfl Tryz.func166 rfl (Nat.le_of_ble_eq_true rfl) (by decide) (by kernel_rfl) rfl ?_
  have q1:=eq_true (show s.length+1≤9223372036854775807 by omega)
  have q2:=eq_true (show s.length+1+t.length≤9223372036854775807 by omega)
  simp [q1,q2]
 refine LC_pure rfl Tryz.func122 rfl (Nat.le_of_ble_eq_true rfl) (by decide) (by kernel_rfl) rfl ?_
 generalize s++47::t=e at*
 simp [h1]
theorem gimage_k:LC Tryz.prog EJ 87 [mvp s t (.slice pa pl pc)] H=some (.bool (decide (s= [105,109,97,103,101])),H):=by
 refine LC_pure rfl Tryz.func87 rfl (Nat.le_of_ble_eq_true rfl) (by decide) (by kernel_rfl) rfl ?_
 simp
end
end Go.Proofs.YtjplaockjmhnjaaGreatDoor.Sn
namespace Tg.Mi
def semi (x:List UInt8):Nat:=until_ [59] x
def valP (x:List UInt8):List UInt8×Bool×Nat:=
 match x with
 |34::r=>((coll r).1,true,1+(coll r).2.2+semi (r.drop (coll r).2.2))
 |_=>(back white (x.take (semi x)),decide (back white (x.take (semi x))≠ []),semi x)
theorem coll_le: ∀x:List UInt8,(coll x).2.2≤x.length
 | []=>by simp [coll]
 |b::r=>by
  unfold coll
  split
  ·simp
  ·split
   ·cases r with
    |nil=>simp
    |cons c r'=>
     have:=coll_le r'
     simp only [List.length_cons]
     omega
   ·have:=coll_le r
    simp only [List.length_cons]
    omega
end Tg.Mi
namespace Go.Proofs.YtjplaockjmhnjaaGreatDoor.Mi
open Go.Lg Go.Tg
section
variable {H H':LH} {N b l i:Nat} {s:List UInt8} {v:Value}
theorem OutC.set {j j':Nat} (h:OutC H l s j H') (hl:l<H.n):OutC H l s j' (H'.set l (cu s j')):=
 ⟨get_set,h.n,fun k hk hne=>by rw [get_set_ne hne];exact h.old k hk hne⟩
theorem val_q (hk:H.get l=some (cu s i)) (hl:l<H.n) (hi:i<s.length) (hs:s.length≤100000) (hq:s[i]=34) (hc:i+1+(Tg.Mi.coll (s.drop (i+1))).2.2≤s.length):
  ∃H',LC Tryz.prog EJ 283 [ptr l 0] H=some (.tuple #[str (Tg.Mi.coll (s.drop (i+1))).1,.bool true],H')∧OutC H l s (i+1+(Tg.Mi.coll (s.drop (i+1))).2.2+Tg.Mi.until_ [59] (s.drop (i+1+(Tg.Mi.coll (s.drop (i+1))).2.2))) H':=by
 have key: ∃r,LC Tryz.prog EJ 283 [ptr l 0] H=some (Lg.trunc H r)∧r.1=.tuple #[str (Tg.Mi.coll (s.drop (i+1))).1,.bool true]∧OutC H l s (i+1+(Tg.Mi.coll (s.drop (i+1))).2.2+Tg.Mi.until_ [59] (s.drop (i+1+(Tg.Mi.coll (s.drop (i+1))).2.2))) r.2:=by
  refine LC_runs (P:=Tryz.prog) (E:=EJ) (f:=283) rfl Tryz.func283 rfl (Nat.le_of_ble_eq_true rfl) (by decide) (by kernel_rfl) ?_
  have hp:=cpeek_k hk (by omega)
  rw [decide_eq_true hi,List.drop_eq_getElem_cons hi,hq]at hp
  have hp:LC Tryz.prog EJ 192 [ptr l 0,.int .i64 0] H=some (.tuple #[.int .u8 34,.bool true],H):=hp
  obtain⟨H1,e1,o1⟩:=Collect_ex (x:=true) hk hl hi hs hq
  simp only [if_true]at e1
  have hu:=cuntil_k (t:= [59]) o1.get (Nat.lt_of_lt_of_le hl o1.n) hc (by omega)
  simp [hp,e1,hu]
  exact o1.set hl
 obtain⟨⟨u,H1⟩,e,h1,h2⟩:=key
 simp only at h1 h2
 subst h1
 obtain⟨H2,e2,o2⟩:=h2.trunc hl (u:=.tuple #[str (Tg.Mi.coll (s.drop (i+1))).1,.bool true])
 exact⟨H2,by rw [e,e2],o2⟩
theorem val_n (hk:H.get l=some (cu s i)) (hl:l<H.n) (hi:i≤s.length) (hs:s.length≤100000) (hq:(s.drop i).head?≠some 34):
  ∃H',LC Tryz.prog EJ 283 [ptr l 0] H=some (.tuple #[str (Tg.Mi.back Tg.Mi.white ((s.drop i).take (Tg.Mi.until_ [59] (s.drop i)))),.bool (decide (Tg.Mi.back Tg.Mi.white ((s.drop i).take (Tg.Mi.until_ [59] (s.drop i)))≠ []))],H')∧OutC H l s (i+Tg.Mi.until_ [59] (s.drop i)) H':=by
 have hp:=cpeek_k hk hi
 have hu:=cuntil_k (t:= [59]) hk hl hi (by omega)
 have hm:=fun H:LH=>mback_k (H:=H) (s:=(s.drop i).take (Tg.Mi.until_ [59] (s.drop i))) (by rw [List.length_take,List.length_drop];omega)
 generalize (s.drop i).take (Tg.Mi.until_ [59] (s.drop i))=x at*
 generalize Tg.Mi.until_ [59] (s.drop i)=u at*
 have key: ∃r,LC Tryz.prog EJ 283 [ptr l 0] H=some (Lg.trunc H r)∧r.1=.tuple #[str (Tg.Mi.back Tg.Mi.white x),.bool (decide (Tg.Mi.back Tg.Mi.white x≠ []))]∧OutC H l s (i+u) r.2:=by
  refine LC_runs (P:=Tryz.prog) (E:=EJ) (f:=283) rfl Tryz.func283 rfl (Nat.le_of_ble_eq_true rfl) (by decide) (by kernel_rfl) ?_
  have fin:OutC H l s (i+u) (H.set l (cu s (i+u))):=⟨get_set,Nat.le_refl _,fun k _ hne=>get_set_ne hne⟩
  cases hd:s.drop i with
  |nil=>
   have hlt:decide (i<s.length)=false:=decide_eq_false (fun h=>by have:=List.length_drop (i:=i) (l:=s);rw [hd]at this;simp at this;omega)
   rw [hd,hlt]at hp
   have hp:LC Tryz.prog EJ 192 [ptr l 0,.int .i64 0] H=some (.tuple #[.int .u8 0,.bool false],H):=hp
   simp [hp,hu,hm]
   exact fin
  |cons b r=>
   rw [hd]at hp hq
   have hb:b≠34:=fun e=>hq (by rw [e];rfl)
   have hb:=eq_false (show¬(b.toNat:Int)=34 from fun e=>hb (UInt8.toNat_inj.mp (by show b.toNat=34;omega)))
   have hlt:decide (i<s.length)=true:=decide_eq_true (by have:=List.length_drop (i:=i) (l:=s);rw [hd]at this;simp at this;omega)
   rw [hlt]at hp
   have hp:LC Tryz.prog EJ 192 [ptr l 0,.int .i64 0] H=some (.tuple #[.int .u8 b.toNat,.bool true],H):=hp
   simp [hp,hb,hu,hm]
   exact fin
 obtain⟨⟨r1,H1⟩,e,h1,h2⟩:=key
 simp only at h1 h2
 subst h1
 obtain⟨H2,e2,o2⟩:=h2.trunc hl (u:=.tuple #[str (Tg.Mi.back Tg.Mi.white x),.bool (decide (Tg.Mi.back Tg.Mi.white x≠ []))])
 exact⟨H2,by rw [e,e2],o2⟩
end
section
variable {H H':LH} {s:List UInt8}
theorem count_k {g:FuncId} {p:UInt8→Bool} (hg: ∀(H:LH) (b:UInt8),LC Tryz.prog EJ g [.int .u8 b.toNat] H=some (.bool (p b),H)) (hs:s.length≤1000000):LC Tryz.prog EJ 287 [str s,.func (.func g) #[] #[]] H=some (.int .i64 (s.countP p:Nat),H):=by
 refine LC_pure rfl Tryz.func287 rfl (Nat.le_of_ble_eq_true rfl) (by decide) (by kernel_rfl) rfl ?_
 have hfn:=lbin_fn_ne (g:=g) (f:=#[]) (cp:=#[]) Tryz.underlying127
 simp
 refine loop_ind (fun(j:Nat) fr' H'=>fr' 0=str s∧fr' 1=.func (.func g) #[] #[]∧fr' 5=.int .i64 ((s.take j).countP p:Nat)∧fr' 6=.int .i64 j∧j≤s.length∧H=H') (fun j=>s.length-j) 0 ⟨by simp,by simp,by simp,by simp,Nat.zero_le _,rfl⟩ ?_
 rintro j fr' H' ⟨f0,f1,f5,f6,hj,rfl⟩ ih
 by_cases hlt:j<s.length
 ·have q0:=eq_true (show(j:Int)<(s.length:Int) by omega)
  have hw1:IntKind.i64.wrap ((j:Int)+1)=((j+1:Nat):Int):=by rw [wrapI (by omega) (by omega)];omega
  have hat:at_ s (j:Int)=s[j]:=at_in hlt
  have hcl:(s.take j).countP p≤j:=Nat.le_trans List.countP_le_length (by rw [List.length_take];omega)
  have hc:(s.take (j+1)).countP p=(s.take j).countP p+if p s[j]=true then 1 else 0:=by
   rw [List.take_succ_eq_append_getElem hlt,List.countP_append]
   simp [List.countP_cons]
  have hfin:=fun fr2 (g0:fr2 0=str s) (g1:fr2 1=.func (.func g) #[] #[]) (g5:fr2 5=.int .i64 ((s.take (j+1)).countP p:Nat)) (g6:fr2 6=.int .i64 ((j+1:Nat):Int))=>ih (j+1) fr2 H (by omega) ⟨g0,g1,g5,g6,by omega,rfl⟩
  rw [hc]at hfin
  have hgc:=fun H=>hg H s[j]
  clear ih hc
  generalize (s.take j).countP p=m at*
  generalize s[j]=c at*
  have hw2:IntKind.i64.wrap ((m:Int)+1)=((m+1:Nat):Int):=by rw [wrapI (by omega) (by omega)];omega
  cases hb:p c with
  |true=>
   rw [hb]at hgc hfin
   simp only [if_true]at hfin
   simp [f0,f1,f5,f6,q0,hat,hfn,hgc]
   refine hfin _ ?_ ?_ ?_ ?_
   all_goals simp [f0,f1,f5,hw1,hw2]
  |false=>
   rw [hb]at hgc hfin
   simp only [Bool.false_eq_true,if_false,Nat.add_zero]at hfin
   simp [f0,f1,f5,f6,q0,hat,hfn,hgc]
   refine hfin _ ?_ ?_ ?_ ?_
   all_goals simp [f0,f1,f5,hw1]
 ·have q0:=eq_false (show¬(j:Int)<(s.length:Int) by omega)
  rw [List.take_of_length_le (by omega)]at f5
  simp [f0,f1,f5,f6,q0,hfn]
theorem all_k {g:FuncId} {p:UInt8→Bool} (hg: ∀(H:LH) (b:UInt8),LC Tryz.prog EJ g [.int .u8 b.toNat] H=some (.bool (p b),H)) (hs:s.length≤1000000):LC Tryz.prog EJ 258 [str s,.func (.func g) #[] #[]] H=some (.bool (s.all p),H):=by
 refine LC_pure rfl Tryz.func258 rfl (Nat.le_of_ble_eq_true rfl) (by decide) (by kernel_rfl) rfl ?_
 have h1:=fun H:LH=>count_k (H:=H) (s:=s) hg hs
 have h2:s.all p=decide (((s.countP p:Nat):Int)=(s.length:Int)):=by
  rw [Bool.eq_iff_iff,decide_eq_true_eq,List.all_eq_true]
  have:=List.countP_eq_length (p:=p) (l:=s)
  constructor
  ·intro h;have:=this.2 h;omega
  ·intro h;exact this.1 (by omega)
 rw [h2]
 simp [h1]
end
end Go.Proofs.YtjplaockjmhnjaaGreatDoor.Mi
namespace Tg.Mi
def tab (b:UInt8):Bool:=decide ((b.toNat:Int)=9)||decide ((b.toNat:Int)=32)
theorem back_pre (f:UInt8→Bool): ∀s:List UInt8,back f s=s.take (back f s).length
 | []=>by simp [back]
 |b::r=>by
  have ih:=back_pre f r
  unfold back
  split
  ·simp
  ·rw [List.length_cons,List.take_succ_cons,←ih]
theorem back_le (f:UInt8→Bool) (s:List UInt8):(back f s).length≤s.length:=by
 have:=congrArg List.length (back_pre f s)
 rw [List.length_take]at this
 omega
end Tg.Mi
namespace Go.Proofs.YtjplaockjmhnjaaGreatDoor.Mi
open Go.Lg Go.Tg
section
variable {H H':LH} {s:List UInt8}
theorem tab_k {b:UInt8} :LC Tryz.prog EJ 227 [.int .u8 b.toNat] H=some (.bool (Tg.Mi.tab b),H):=by
 have h1: ∀H:LH,LC Tryz.prog EJ 263 [.int .u8 b.toNat] H=some (.bool (Tg.Mi.tab b),H):=fun H=>by
  refine LC_pure rfl Tryz.func263 rfl (Nat.le_of_ble_eq_true rfl) (by decide) (by kernel_rfl) rfl ?_
  unfold Tg.Mi.tab
  by_cases a1:(b.toNat:Int)=9
  ·simp [a1]
  ·have a1:=eq_false a1
   simp [a1]
 refine LC_pure rfl Tryz.func227 rfl (Nat.le_of_ble_eq_true rfl) (by decide) (by kernel_rfl) rfl ?_
 simp [h1]
theorem tabbed_k {b:UInt8} :LC Tryz.prog EJ 263 [.int .u8 b.toNat] H=some (.bool (Tg.Mi.tab b),H):=by
 refine LC_pure rfl Tryz.func263 rfl (Nat.le_of_ble_eq_true rfl) (by decide) (by kernel_rfl) rfl ?_
 unfold Tg.Mi.tab
 by_cases a1:(b.toNat:Int)=9
 ·simp [a1]
 ·have a1:=eq_false a1
  simp [a1]
theorem end_k {g:FuncId} {p:UInt8→Bool} (hg: ∀(H:LH) (b:UInt8),LC Tryz.prog EJ g [.int .u8 b.toNat] H=some (.bool (p b),H)) (hs:s.length≤1000000):LC Tryz.prog EJ 262 [str s,.func (.func g) #[] #[]] H=some (.int .i64 ((Tg.Mi.back p s).length:Nat),H):=by
 refine LC_pure rfl Tryz.func262 rfl (Nat.le_of_ble_eq_true rfl) (by decide) (by kernel_rfl) rfl ?_
 simp
 obtain⟨R,hR⟩: ∃R,R=Tg.Mi.back p s:=⟨_,rfl⟩
 rw [←hR]
 refine loop_ind (fun(k:Nat) fr' H'=> ∃j:Nat,fr' 0=str s∧fr' 1=.func (.func g) #[] #[]∧fr' 5=.int .i64 j∧j+k=s.length∧Tg.Mi.back p (s.take j)=R∧H=H') (fun k=>s.length-k) 0 ⟨s.length,by simp,by simp,by simp,by omega,by rw [List.take_length];exact hR.symm,rfl⟩ ?_
 rintro k fr' H' ⟨j,f0,f1,f5,hj,hq,rfl⟩ ih
 rcases Nat.eq_zero_or_pos j with h0|h0
 ·subst h0
  simp [Tg.Mi.back]at hq
  subst hq
  simp [f0,f1,f5]
 ·obtain⟨m,rfl⟩: ∃m,j=m+1:=⟨j-1,by omega⟩
  have hlt:m<s.length:=by omega
  have q0:=eq_true (show(0:Int)<(m:Int)+1 by omega)
  have hw2:IntKind.i64.wrap (m:Int)=(m:Int):=wrapI (by omega) (by omega)
  have hat:at_ s (m:Int)=s[m]:=at_in hlt
  have ql:=eq_true (show(m:Int)<(s.length:Int) by omega)
  rw [List.take_succ_eq_append_getElem hlt,Tg.Mi.back_snoc]at hq
  have hwh:=fun H:LH=>hg H s[m]
  cases hb:p s[m]with
  |true=>
   rw [hb]at hq hwh
   simp only [if_true]at hq
   simp [f0,f1,f5,q0,hw2,hat,ql,hwh]
   refine ih (k+1) _ _ (by omega) ⟨m,?_,?_,?_,by omega,hq,rfl⟩
   all_goals simp [f0,f1,hw2]
  |false=>
   rw [hb]at hq hwh
   simp only [Bool.false_eq_true,if_false]at hq
   have hl:R.length=m+1:=by rw [←hq,List.length_append,List.length_take];simp;omega
   have hl2:((m:Int)+1=(R.length:Int))=True:=eq_true (by omega)
   simp [f0,f1,f5,q0,hw2,hat,ql,hwh,hl]
theorem ends_k (hs:s.length≤1000000):LC Tryz.prog EJ 226 [str s] H=some (str (Tg.Mi.back Tg.Mi.tab s),H):=by
 refine LC_pure rfl Tryz.func226 rfl (Nat.le_of_ble_eq_true rfl) (by decide) (by kernel_rfl) rfl ?_
 have h1:=fun H:LH=>end_k (H:=H) (s:=s) (g:=263) (p:=Tg.Mi.tab) (fun H b=>tabbed_k) hs
 have hle:=Tg.Mi.back_le Tg.Mi.tab s
 have hp:=Tg.Mi.back_pre Tg.Mi.tab s
 have q:=eq_true (show(((Tg.Mi.back Tg.Mi.tab s).length:Nat):Int)≤(s.length:Int) by omega)
 generalize Tg.Mi.back Tg.Mi.tab s=y at*
 simp [h1,q,←hp]
theorem trim_k (hs:s.length≤1000000):LC Tryz.prog EJ 194 [str s] H=some (str ((Tg.Mi.back Tg.Mi.tab s).drop (Tg.Mi.while_ Tg.Mi.tab (Tg.Mi.back Tg.Mi.tab s))),H):=by
 refine LC_pure rfl Tryz.func194 rfl (Nat.le_of_ble_eq_true rfl) (by decide) (by kernel_rfl) rfl ?_
 have h1:=fun H:LH=>ends_k (H:=H) (s:=s) hs
 have hle:=Tg.Mi.back_le Tg.Mi.tab s
 generalize Tg.Mi.back Tg.Mi.tab s=y at*
 have h2:=cnew_k (H:=H) (s:=y)
 have h3:=cwhile_k (H:=H.new (cu y 0)) (s:=y) (l:=H.n) (i:=0) (g:=227) (p:=Tg.Mi.tab) (fun H b=>tab_k) get_new (by rw [n_new];omega) (Nat.zero_le _) (by omega)
 rw [List.drop_zero,Nat.zero_add]at h3
 have hw:=Tg.Mi.while_le Tg.Mi.tab y
 have h4:=crestall_k (H:=(H.new (cu y 0)).set H.n (cu y (Tg.Mi.while_ Tg.Mi.tab y))) (l:=H.n) get_set (by rw [n_set,n_new];omega) hw (by omega)
 generalize Tg.Mi.while_ Tg.Mi.tab y=u at*
 obtain⟨G1,hG1⟩: ∃G1,G1=H.new (cu y 0):=⟨_,rfl⟩
 rw [←hG1]at h2 h3 h4
 obtain⟨G2,hG2⟩: ∃G2,G2=G1.set H.n (cu y u):=⟨_,rfl⟩
 rw [←hG2]at h3 h4
 simp [h1,h2,h3,h4]
 rw [hG2,hG1]
 exact⟨by simp,fun k hk=>by simp [show k≠H.n by omega]⟩
end
end Go.Proofs.YtjplaockjmhnjaaGreatDoor.Mi
namespace Go.Lg
open Go.Tg Go.RowKit
def Keeps (N:Nat) (S:TypeId→Prop) (H H':LH):Prop:=H.n≤H'.n∧ ∀k b,k<H.n→H.get k=some b→k<N∨S b.elem→H'.get k=some b
structure El (α:Type) where
 n:Nat
 S:TypeId→Prop
 ok:Nat→LH→List Value→α→Prop
 len: ∀ {N H cs a},ok N H cs a→cs.length=n
 cell: ∀ {N H cs a},ok N H cs a→cs.all cellB=true
 keep: ∀ {N H H' cs a},Keeps N S H H'→ok N H cs a→ok N H' cs a
 ro: ∀ {N H cs a},ok N H cs a→ok N H.ro cs a
def El.flat {α:Type} (n:Nat) (f:α→List Value) (h1: ∀a,(f a).length=n) (h2: ∀a,(f a).all cellB=true):El α:=
 ⟨n,fun _=>False,fun _ _ cs a=>cs=f a,fun h=>by rw [h];exact h1 _,fun h=>by rw [h];exact h2 _,fun _ h=>h,fun h=>h⟩
def elS:El (List UInt8):=El.flat 1 (fun a=> [str a]) (fun _=>rfl) (fun _=>by simp)
def RowG {α:Type} (E:El α) (e:TypeId) (N:Nat) (H:LH) (v:Value) (l:List α):Prop:=
 (v=.slice none 0 0∧l= [])∨ ∃(k o c:Nat) (b:LB),v=.slice (some ⟨k,o,none⟩) l.length c∧H.get k=some b∧k<H.n∧(k<N∨b.elem=e)∧o+l.length*E.n≤b.cells.length∧ ∀(i:Nat) (h:i<l.length),E.ok N H ((b.cells.drop (o+i*E.n)).take E.n) l[i]
def OwnG {α:Type} (E:El α) (e:TypeId) (N M:Nat) (H:LH) (v:Value) (l:List α):Prop:=
 ∃xs,RowN M H e E.n v l.length xs∧ ∀(i:Nat) (h:i<l.length),E.ok N H ((xs.drop (i*E.n)).take E.n) l[i]
section
variable {α:Type} {E:El α} {P:Program} {H H' H1:LH} {v x:Value} {l:List α} {a:α} {e t u:TypeId} {N M k:Nat} {S S':TypeId→Prop} {b:LB} {cs:List Value}
theorem Keeps.refl:Keeps N S H H:=⟨Nat.le_refl _,fun _ _ _ h _=>h⟩
theorem Keeps.le (h:H.le H'):Keeps N S H H':=⟨h.1,fun k b hk hb _=>by rw [h.2 k hk];exact hb⟩
theorem Keeps.trans (h:Keeps N S H H1) (g:Keeps N S H1 H'):Keeps N S H H':=⟨Nat.le_trans h.1 g.1,fun k b hk hb hs=>g.2 k b (Nat.lt_of_lt_of_le hk h.1) (h.2 k b hk hb hs) hs⟩
theorem Keeps.weak (h:Keeps N S H H') (hs: ∀t,S' t→S t):Keeps N S' H H':=⟨h.1,fun k b hk hb g=>h.2 k b hk hb (g.imp_right (hs _))⟩
theorem Keeps.new:Keeps N S H (H.new b):=⟨Nat.le_succ _,fun k b hk hb _=>by rw [get_new_ne (by omega)];exact hb⟩
theorem RowG.nil:RowG E e N H (.slice none 0 0) []:=.inl ⟨rfl,rfl⟩
theorem RowG.keep (h:RowG E e N H v l) (hk:Keeps N (fun t=>t=e∨E.S t) H H'):RowG E e N H' v l:=by
 rcases h with h|⟨k,o,c,b,h1,g1,g2,g3,g5,g4⟩
 ·exact .inl h
 ·exact .inr ⟨k,o,c,b,h1,hk.2 k b g2 g1 (g3.imp_right .inl),Nat.lt_of_lt_of_le g2 hk.1,g3,g5,fun i hi=>E.keep (hk.weak fun t=>.inr) (g4 i hi)⟩
theorem RowG.le (h:RowG E e N H v l) (hk:H.le H'):RowG E e N H' v l:=h.keep (.le hk)
theorem RowG.ro (h:RowG E e N H v l):RowG E e N H.ro v l:=by
 rcases h with h|⟨k,o,c,b,h1,g1,g2,g3,g5,g4⟩
 ·exact .inl h
 ·exact .inr ⟨k,o,c,{ b with rw:=false },h1,by rw [get_ro,g1];rfl,by rw [n_ro];exact g2,g3,g5,fun i hi=>E.ro (g4 i hi)⟩
theorem RowG.keep1 {c:Nat} (h:RowG E e N H v l) (hn:H.n≤H'.n) (hc:H.get c=some b) (hne:b.elem≠e) (hS: ¬E.S b.elem) (hN:N≤c) (hk: ∀k,k<H.n→k≠c→H'.get k=H.get k):RowG E e N H' v l:=
 h.keep ⟨hn,fun k b' hkn hb hor=>by
  by_cases hkc:k=c
  ·subst hkc
   rw [hc]at hb
   injection hb with hb
   subst hb
   rcases hor with h1|h1|h1
   ·omega
   ·exact absurd h1 hne
   ·exact absurd h1 hS
  ·rw [hk k hkn hkc];exact hb⟩
theorem RowG.slice (h:RowG E e N H v l): ∃ad n c,v=.slice ad n c:=by
 rcases h with⟨rfl,_⟩|⟨k,o,c,b,rfl,_⟩<;>exact⟨_,_,_,rfl⟩
theorem RowG.len (h:RowG E e N H v l) (hu:P.underlying t=some (.slice e)):lbuiltin P .len [t] [v] H'=some (.int .i64 l.length,H'):=by
 rcases h with⟨rfl,rfl⟩|⟨k,o,c,b,rfl,h2⟩
 ·exact lbuiltin_len_slice hu
 ·exact lbuiltin_len_slice hu
theorem RowG.cell (h:RowG E e N H v l):cellB v=true:=by
 obtain⟨ad,n,c,rfl⟩:=h.slice;simp
theorem RowG.flat (h:RowG E e N H v l) (hf:flatB v=true):RowG E e N H' v l:=by
 rcases h with h|⟨k,o,c,b,rfl,_⟩
 ·exact .inl h
 ·simp [flatB,flat1B,atomB]at hf
theorem RowG.at (h:RowG E e N H v l) (hu:P.underlying t=some (.slice e)) (hs:sz P e=some E.n) {i:Nat} (hi:i<l.length): ∃k o cs,(∀H':LH,lixa P t v (.int .i64 i) H'=some (ptr k o,H'))∧k<H.n∧E.ok N H cs l[i]∧ ∀H':LH,H'.get k=H.get k→
  (aggB P e=some true→lld P e (ptr k o) H'=some (.agg cs.toArray))∧(∀(j:Nat) (u:TypeId) (x:Value),aggB P u=some false→cs[j]?=some x→lld P u (ptr k (o+j)) H'=some x)∧(∀(j m:Nat) (u:TypeId),aggB P u=some true→sz P u=some m→j+m≤E.n→lld P u (ptr k (o+j)) H'=some (.agg ((cs.drop j).take m).toArray)):=by
 rcases h with⟨rfl,rfl⟩|⟨k,o,c,b,rfl,g1,g2,g3,g0,g4⟩
 ·simp at hi
 ·have g6:=g4 i hi
  have hm:i*E.n+E.n≤l.length*E.n:=by rw [←Nat.succ_mul];exact Nat.mul_le_mul_right _ hi
  have g5:o+i*E.n+E.n≤b.cells.length:=by omega
  refine⟨k,o+i*E.n,_,fun H'=>?_,g2,g6,fun H' he=>?_⟩
  ·rw [lixa_row hu hs (by omega) (by omega)]
   simp
  ·rw [g1]at he
   refine⟨fun ha=>?_,fun j u x ha hx=>?_,fun j m u ha hm hj=>?_⟩
   ·rw [lld_ptr he,ha,hs,lldb_agg g5]
   ·rw [lld_ptr he,ha,lldb_cell]
    rw [List.getElem?_take]at hx
    split at hx
    ·rw [List.getElem?_drop]at hx;exact hx
    ·cases hx
   ·rw [lld_ptr he,ha,hm,lldb_agg (by omega),List.drop_take,List.take_take,List.drop_drop,Nat.min_eq_left (by omega)]
theorem RowG.src (h:RowG E e N H v l) (hu:P.underlying t=some (.slice e)) (hs:lesz P e=some E.n): ∃xs,lesrc P t v H=some (l.length,xs)∧xs.length=l.length*E.n∧xs.all cellB=true∧ ∀(i:Nat) (h:i<l.length),E.ok N H ((xs.drop (i*E.n)).take E.n) l[i]:=by
 rcases h with⟨rfl,rfl⟩|⟨k,o,c,b,rfl,g1,g2,g3,g0,g4⟩
 ·exact⟨[],lesrc_nil hu hs,by simp,rfl,fun i hi=>by simp at hi⟩
 ·have hi2: ∀(i:Nat) (h:i<l.length),((((b.cells.drop o).take (l.length*E.n)).drop (i*E.n)).take E.n)=(b.cells.drop (o+i*E.n)).take E.n:=fun i hi=>by
   have hm:i*E.n+E.n≤l.length*E.n:=by rw [←Nat.succ_mul];exact Nat.mul_le_mul_right _ hi
   rw [List.drop_take,List.take_take,List.drop_drop,Nat.min_eq_left (by omega)]
  have hl:((b.cells.drop o).take (l.length*E.n)).length=l.length*E.n:=by rw [List.length_take,List.length_drop];omega
  refine⟨_,lesrc_row hu hs g1 g0,hl,?_,fun i hi=>by rw [hi2 i hi];exact g4 i hi⟩
  rw [List.all_eq_true]
  intro x hx
  obtain⟨q,hq,rfl⟩:=List.getElem_of_mem hx
  rw [hl]at hq
  have hn0:0<E.n:=by rcases Nat.eq_zero_or_pos E.n with h|h;rw [h]at hq;omega;exact h
  have hil:q/E.n<l.length:=by rw [Nat.div_lt_iff_lt_mul hn0];exact hq
  have hc:=E.cell (g4 _ hil)
  rw [←hi2 _ hil,List.all_eq_true]at hc
  refine hc _ ?_
  have hd:q=q/E.n*E.n+q%E.n:=by rw [Nat.mul_comm];exact(Nat.div_add_mod q E.n).symm
  have hmod:q%E.n<E.n:=Nat.mod_lt _ hn0
  have hm:q/E.n*E.n+E.n≤l.length*E.n:=by rw [←Nat.succ_mul];exact Nat.mul_le_mul_right _ hil
  generalize (b.cells.drop o).take (l.length*E.n)=ys at*
  rw [List.mem_iff_getElem]
  refine⟨q%E.n,by rw [List.length_take,List.length_drop];omega,?_⟩
  rw [List.getElem_take,List.getElem_drop]
  congr 1
  exact hd.symm
theorem OwnG.nil:OwnG E e N M H (.slice none 0 0) []:=⟨[],RowN.nil,fun i h=>by simp at h⟩
theorem OwnG.row (h:OwnG E e N M H v l):RowG E e N H v l:=by
 obtain⟨xs,h1,h2⟩:=h
 have hl:=h1.1
 rcases h1.2 with⟨rfl,h0⟩|⟨k,c,rest,rfl,g1,g2,g3,g4,g5⟩
 ·exact .inl ⟨rfl,List.eq_nil_of_length_eq_zero h0⟩
 ·refine .inr ⟨k,0,c,_,rfl,g3,g2,.inr rfl,by rw [List.length_append,hl];omega,fun i hi=>?_⟩
  have hm:i*E.n+E.n≤l.length*E.n:=by rw [←Nat.succ_mul];exact Nat.mul_le_mul_right _ hi
  simp only [Nat.zero_add]
  rw [List.drop_append_of_le_length (by omega),List.take_append_of_le_length (by rw [List.length_drop];omega)]
  exact h2 i hi
theorem OwnG.off_lt (h:OwnG E e N M H v l) (hk:k<M):offRow v k:=by obtain⟨xs,h1,_⟩:=h;exact h1.off_lt hk
theorem OwnG.off_elem (h:OwnG E e N M H v l) (hk:H.get k=some b) (hne:b.elem≠e):offRow v k:=by obtain⟨xs,h1,_⟩:=h;exact h1.off_of_elem hk hne
theorem OwnG.off_ge (h:OwnG E e N M H v l) (hk:H.n≤k):offRow v k:=by obtain⟨xs,h1,_⟩:=h;exact h1.off_ge hk
theorem OwnG.keep (h:OwnG E e N M H v l) (hk:Keeps N E.S H H') (hr: ∀k,M≤k→ ¬offRow v k→k<H.n→H'.get k=H.get k):OwnG E e N M H' v l:=by
 obtain⟨xs,h1,h2⟩:=h
 exact⟨xs,h1.keep hk.1 hr,fun i hi=>E.keep hk (h2 i hi)⟩
theorem OwnG.le (h:OwnG E e N M H v l) (hk:H.le H'):OwnG E e N M H' v l:=h.keep (.le hk) fun k _ _ hk2=>hk.2 k hk2
theorem OwnG.keep1 {c:Nat} (h:OwnG E e N M H v l) (hn:H.n≤H'.n) (hc:H.get c=some b) (hne:b.elem≠e) (hS: ¬E.S b.elem) (hN:N≤c) (hk: ∀k,k<H.n→k≠c→H'.get k=H.get k):OwnG E e N M H' v l:=
 h.keep ⟨hn,fun k b' hkn hb hor=>by
  by_cases hkc:k=c
  ·subst hkc
   rw [hc]at hb
   injection hb with hb
   subst hb
   rcases hor with h1|h1
   ·omega
   ·exact absurd h1 hS
  ·rw [hk k hkn hkc];exact hb⟩ fun k _ hno hkn=>hk k hkn fun e=>hno (e▸h.off_elem hc hne)
theorem OwnG.cell (h:OwnG E e N M H v l):cellB v=true:=by obtain⟨xs,h1,_⟩:=h;exact h1.cell
theorem OwnG.weak {M':Nat} (h:OwnG E e N M H v l) (hm:M'≤M):OwnG E e N M' H v l:=by
 obtain⟨xs,h1,h2⟩:=h
 refine⟨xs,⟨h1.1,?_⟩,h2⟩
 rcases h1.2 with h3|⟨k,c,rest,rfl,g1,g2⟩
 ·exact .inl h3
 ·exact .inr ⟨k,c,rest,rfl,Nat.le_trans hm g1,g2⟩
theorem OwnG.flat (h:OwnG E e N M H' v l) (hf:flatB v=true):OwnG E e N M H v l:=by
 obtain⟨xs,h1,h2⟩:=h
 rcases h1.2 with⟨rfl,h0⟩|⟨k,c,rest,rfl,_⟩
 ·obtain rfl:=List.eq_nil_of_length_eq_zero h0
  exact .nil
 ·simp [flatB,flat1B,atomB]at hf
theorem OwnG.app (h:OwnG E e N M H v l) (hu:P.underlying t=some (.slice e)) (hs:lesz P e=some E.n) (hN:N≤M) (hM:M≤H.n) (hl:l.length+1≤maxElems) (hc:E.ok N H cs a) (hS: ¬E.S e):
  ∃v' H2,lapp P t v (some (1,cs)) (H.new ⟨cs,e,true⟩)=some (v',H2)∧OwnG E e N M H2 v' (l++ [a])∧H.n<H2.n∧(∀k,k<H.n→offRow v k→H2.get k=H.get k)∧(∀k,k<H.n→offRow v k→offRow v' k)∧Keeps N (fun t=>t≠e) H H2:=by
 have h':=h.le (H':=H.new ⟨cs,e,true⟩) le_refl.new
 have hc':=E.keep (.le (H':=H.new ⟨cs,e,true⟩) le_refl.new) hc
 obtain⟨xs,h1,h2⟩:=h'
 obtain⟨v',H2,ha,hr,hk,hf⟩:=RowN.app (P:=P) (t:=t) (new:=cs) (m:=1) h1 hu hs (E.cell hc) (by rw [E.len hc,Nat.one_mul]) hl (by rw [n_new];omega) (.inl (Nat.le_refl 1))
 have kp:Keeps N (fun t=>t≠e) (H.new ⟨cs,e,true⟩) H2:=⟨hk.le,fun k b hkn hb hor=>by
  rw [←hb]
  refine hk.get k hkn ?_
  rcases hor with hor|hor
  ·exact h1.off_lt (by omega)
  ·exact h1.off_of_elem hb hor⟩
 refine⟨v',H2,ha,⟨xs++cs,by rw [List.length_append];exact hr,fun i hi=>?_⟩,?_,fun k hkn ho=>?_,fun k hkn ho=>hk.off k (by rw [n_new];omega) ho,Keeps.new.trans kp⟩
 ·have kS:Keeps N E.S (H.new ⟨cs,e,true⟩) H2:=kp.weak fun t ht he=>hS (he▸ht)
  have hxl:xs.length=l.length*E.n:=h1.1
  rcases Nat.lt_or_ge i l.length with hil|hil
  ·have hm:i*E.n+E.n≤l.length*E.n:=by rw [←Nat.succ_mul];exact Nat.mul_le_mul_right _ hil
   rw [List.drop_append_of_le_length (by omega),List.take_append_of_le_length (by rw [List.length_drop];omega),List.getElem_append_left hil]
   exact E.keep kS (h2 i hil)
  ·have hie:i=l.length:=by rw [List.length_append]at hi;simp at hi;omega
   subst hie
   rw [←hxl,List.drop_left,List.take_of_length_le (by rw [E.len hc];exact Nat.le_refl _),List.getElem_append_right (by omega)]
   simpa using E.keep kS hc'
 ·have:=hk.le;rw [n_new]at this;omega
 ·rw [hk.get k (by rw [n_new];omega) ho,get_new_ne (by omega)]
end
section
variable {α:Type} {E:El α} {P:Program} {H H':LH} {v w:Value} {l:List α} {e t:TypeId} {N M:Nat}
theorem OwnG.copy (h:RowG E e N H w l) (hu:P.underlying t=some (.slice e)) (hs:lesz P e=some E.n) (hl:l.length≤maxElems) (hM:M≤H.n):
  ∃v' H2,lapp P t (sl H.n 0 0) (lesrc P t w (H.new ⟨[],e,true⟩)) (H.new ⟨[],e,true⟩)=some (v',H2)∧OwnG E e N M H2 v' l∧H.le H2:=by
 have h':=h.le (H':=H.new ⟨[],e,true⟩) le_refl.new
 obtain⟨xs,x1,x2,x3,x4⟩:=h'.src hu hs
 have h1:RowN H.n (H.new ⟨[],e,true⟩) e E.n (sl H.n 0 0) 0 []:=⟨by simp,.inr ⟨H.n,0,[],rfl,Nat.le_refl _,by simp,by simp,Nat.le_refl _,by simp⟩⟩
 obtain⟨v',H2,ha,hr,hk,hf⟩:=RowN.app (P:=P) (t:=t) (new:=xs) (m:=l.length) h1 hu hs x3 x2 (by omega) (by rw [n_new];omega) (.inr full_new)
 rw [x1]
 have hle:H.le H2:=⟨by have:=hk.le;rw [n_new]at this;omega,fun k hkn=>by rw [hk.get k (by rw [n_new];omega) (h1.off_lt hkn),get_new_ne (by omega)]⟩
 refine⟨v',H2,ha,⟨xs,?_,fun i hi=>?_⟩,hle⟩
 ·rw [Nat.zero_add,List.nil_append]at hr
  refine⟨hr.1,?_⟩
  rcases hr.2 with h2|⟨k,c,rest,rfl,g1,g2,g3,g4,g5⟩
  ·exact .inl h2
  ·exact .inr ⟨k,c,rest,rfl,by omega,g2,g3,g4,g5⟩
 ·obtain⟨ys,y1,y2,y3,y4⟩:=h.src hu hs
  have hxy:lesrc P t w (H.new ⟨[],e,true⟩)=lesrc P t w H:=by
   rcases h with⟨rfl,rfl⟩|⟨k,o,c,b,rfl,g1,g2,g3,g0,g4⟩
   ·rw [lesrc_nil hu hs,lesrc_nil hu hs]
   ·rw [lesrc_row hu hs g1 g0,lesrc_row hu hs (by rw [get_new_ne (by omega)];exact g1) g0]
  rw [hxy,y1]at x1
  injection x1 with x1
  injection x1 with _ x1
  subst x1
  exact E.keep (.le hle) (y4 i hi)
end
section
variable {P:Program} {E:Ext} {f:FuncId} {args:List Value} {H H':LH}
def Gives (P:Program) (E:Ext) (f:FuncId) (args:List Value) (H:LH) (R:LH→Value→Prop):Prop:= ∃v H',LC P E f args H=some (v,H')∧H.le H'∧R H' v
theorem gives_of {R:LH→Value→Prop} (h: ∃r,LC P E f args H=some (trunc H r)∧(H.le r.2∧R r.2 r.1)) (hf: ∀v H',flatB v=true→R H' v→R H v):Gives P E f args H R:=by
 obtain⟨⟨v,H'⟩,h1,h2,h3⟩:=h
 rcases trunc_or v H H' with e|⟨e,g,_⟩
 ·exact⟨v,H',by rw [h1,e],h2,h3⟩
 ·exact⟨v,H,by rw [h1,e],le_refl,hf v H' g h3⟩
end
end Go.Lg
namespace Tg.Mi
def trimP (s:List UInt8):List UInt8:=(back tab s).drop (while_ tab (back tab s))
def cutQ:Nat→List UInt8→List UInt8→List (List UInt8)
 |0,_,acc=> [acc]
 |_+1,[],acc=> [acc]
 |n+1,b::r,acc=>if b=34 then cutQ n (r.drop (coll r).2.2) (acc++34::(coll r).2.1)else if b=44 then acc::cutQ n r []else cutQ n r (acc++ [b])
def splitP (s:List UInt8):List (List UInt8):=(cutQ s.length s []).map trimP
theorem cutQ_fuel: ∀(n m:Nat) (x acc:List UInt8),x.length≤n→x.length≤m→cutQ n x acc=cutQ m x acc
 |0,0,_,_,_,_=>rfl
 |0,m+1,x,acc,h,_=>by
  have:x= []:=List.eq_nil_of_length_eq_zero (by omega)
  subst this;rfl
 |n+1,0,x,acc,_,h=>by
  have:x= []:=List.eq_nil_of_length_eq_zero (by omega)
  subst this;rfl
 |n+1,m+1,[],acc,_,_=>rfl
 |n+1,m+1,b::r,acc,h1,h2=>by
  simp only [List.length_cons]at h1 h2
  have hd:(r.drop (coll r).2.2).length≤r.length:=by rw [List.length_drop];omega
  unfold cutQ
  rw [cutQ_fuel n m (r.drop (coll r).2.2) _ (by omega) (by omega),cutQ_fuel n m r [] (by omega) (by omega),cutQ_fuel n m r (acc++ [b]) (by omega) (by omega)]
theorem comma_F: ∀k:Fin 256,(Go.Lib.indexByte [34,44] (UInt8.ofNat k.1)<0↔UInt8.ofNat k.1≠34∧UInt8.ofNat k.1≠44):=by decide+kernel
theorem comma_iff (b:UInt8):Go.Lib.indexByte [34,44] b<0↔b≠34∧b≠44:=by
 have h:=comma_F ⟨b.toNat,b.toNat_lt⟩
 simpa using h
theorem cutQ_until: ∀(x acc:List UInt8) (n:Nat),x.length≤n→cutQ n x acc=cutQ n (x.drop (until_ [34,44] x)) (acc++x.take (until_ [34,44] x))
 | [],acc,n,_=>by simp [until_]
 |b::r,acc,n,hn=>by
  by_cases h:Go.Lib.indexByte [34,44] b<0
  ·obtain⟨h1,h2⟩:=(comma_iff b).1 h
   have e:until_ [34,44] (b::r)=until_ [34,44] r+1:=by
    conv=>lhs;unfold until_
    rw [if_pos h]
   obtain⟨m,rfl⟩: ∃m,n=m+1:=⟨n-1,by simp at hn;omega⟩
   rw [e,List.drop_succ_cons,List.take_succ_cons]
   simp only [List.length_cons]at hn
   have hd:(r.drop (until_ [34,44] r)).length≤r.length:=by rw [List.length_drop];omega
   conv=>lhs;unfold cutQ
   rw [if_neg h1,if_neg h2,cutQ_until r (acc++ [b]) m (by omega),cutQ_fuel m (m+1) _ _ (by omega) (by omega)]
   simp
  ·have e:until_ [34,44] (b::r)=0:=by
    conv=>lhs;unfold until_
    rw [if_neg h]
   rw [e];simp
theorem coll_all: ∀x:List UInt8,(coll x).2.1=x.take (coll x).2.2
 | []=>by simp [coll]
 |b::r=>by
  unfold coll
  split
  ·rename_i h;subst h;rfl
  ·split
   ·rename_i h;subst h
    cases r with
    |nil=>rfl
    |cons c r'=>
     have:=coll_all r'
     simp only [List.take_succ_cons,←this]
   ·have:=coll_all r
    simp only [List.take_succ_cons,←this]
theorem until_stopG {t:List UInt8} : ∀ {x:List UInt8} {b:UInt8} {r:List UInt8},x.drop (until_ t x)=b::r→ ¬Go.Lib.indexByte t b<0
 | [],b,r,h=>by simp [until_]at h
 |a::y,b,r,h=>by
  unfold until_ at h
  split at h
  ·exact until_stopG (x:=y) (by simpa using h)
  ·rename_i hn
   simp only [List.drop_zero,List.cons.injEq]at h
   obtain⟨rfl,_⟩:=h
   exact hn
end Tg.Mi
namespace Go.Proofs.YtjplaockjmhnjaaGreatDoor
open Go.Lg Go.Tg
section
variable {H H':LH} {N b c:Nat} {t:List UInt8} {v:Value}
theorem Bld.keep1 (h:Bld N H b t v) (hn:H.n≤H'.n) (hne:b≠c) (ho:offRow v c) (hk: ∀k,k<H.n→k≠c→H'.get k=H.get k):Bld N H' b t v:=by
 obtain⟨p,hg,hp⟩:=h.get
 exact⟨⟨p,by rw [hk b h.lt hne];exact hg,hp⟩,h.row.keep hn fun k _ hno hkn=>hk k hkn (fun e=>hno (e▸ho)),h.full,h.off,Nat.lt_of_lt_of_le h.lt hn,Nat.le_trans h.N hn,h.nil⟩
theorem Bld.off_of {B:LB} (h:Bld N H b t v) (hg:H.get c=some B) (hne:B.elem≠5):offRow v c:=h.row.off_of_elem hg hne
end
end Go.Proofs.YtjplaockjmhnjaaGreatDoor
namespace Go.Proofs.YtjplaockjmhnjaaGreatDoor.Mi
open Go.Lg Go.Tg
section
variable {H H':LH} {N M b c l i:Nat} {s t:List UInt8} {v w p:Value} {xs:List (List UInt8)}
theorem reset_k (hg:H.get b=some ⟨[p,v],157,true⟩) (hb:b<H.n):LC Tryz.prog EJ 196 [ptr b 0] H=some (.tuple #[],H.set b ⟨[.pointer none,.slice none 0 0],157,true⟩):=by
 obtain⟨r,h,e⟩:=LC_runs (P:=Tryz.prog) (E:=EJ) (f:=196) rfl Tryz.func196 rfl (Nat.le_of_ble_eq_true rfl) (by decide) (by kernel_rfl) (H:=H) (args:= [ptr b 0]) (Q:=fun r=>r=(.tuple #[],H.set b ⟨[.pointer none,.slice none 0 0],157,true⟩)) (by simp [hg])
 rw [h,e,trunc_set hg hb]
theorem own_no_touch {N':Nat} {α:Type} {E:El α} {e:TypeId} {zs:List α} (h:OwnG E e N M H w zs) (hb:Bld N' H b t v) (hne:e≠5) {k:Nat} (hk: ¬offRow w k):offRow v k:=by
 obtain⟨xs,h1,_⟩:=h
 rcases h1.2 with⟨rfl,_⟩|⟨k',c',rest,rfl,_,_,g,_⟩
 ·exact absurd off_nil hk
 ·by_cases e2:k=k'
  ·subst e2;exact hb.off_of g hne
  ·exact absurd (fun n c e=>e2 (by injection e with e;injection e with e;injection e with e;exact e.symm)) hk
end
end Go.Proofs.YtjplaockjmhnjaaGreatDoor.Mi
namespace Go.Proofs.YtjplaockjmhnjaaGreatDoor
open Go.Lg Go.Tg
section
variable {H:LH} {b:UInt8} {s p:List UInt8}
theorem digit_cl:LC Tryz.prog EJ 302 [.int .u8 b.toNat] H=some (.bool (Tg.Ur.isD b),H):=by
 refine LC_pure rfl Tryz.func302 rfl (Nat.le_of_ble_eq_true rfl) (by decide) (by kernel_rfl) rfl ?_
 unfold Tg.Ur.isD
 by_cases h1:(48:Int)≤b.toNat<;>by_cases h2:(b.toNat:Int)≤57<;>simp [h1,h2]
theorem wrap8 {n:Int} :IntKind.u8.wrap n=n%256:=IntKind.wrap_u8 _
theorem great_cl:LC Tryz.prog EJ 229 [.int .u8 b.toNat] H=some (.bool (decide ((65:Int)≤b.toNat)&&decide ((b.toNat:Int)≤90)),H):=by
 refine LC_pure rfl Tryz.func229 rfl (Nat.le_of_ble_eq_true rfl) (by decide) (by kernel_rfl) rfl ?_
 by_cases h1:(65:Int)≤b.toNat<;>by_cases h2:(b.toNat:Int)≤90<;>simp [h1,h2]
theorem low_cl:LC Tryz.prog EJ 197 [.int .u8 b.toNat] H=some (.int .u8 (Tg.Lo.low b).toNat,H):=by
 refine LC_pure rfl Tryz.func197 rfl (Nat.le_of_ble_eq_true rfl) (by decide) (by kernel_rfl) rfl ?_
 unfold Tg.Lo.low
 have hlt:=b.toNat_lt
 by_cases h1:(65:Int)≤b.toNat<;>by_cases h2:(b.toNat:Int)≤90
 ·have e:(b+32).toNat=b.toNat+32:=by rw [UInt8.toNat_add];show(b.toNat+32)%256=_;omega
  have hw:IntKind.u8.wrap ((b.toNat:Int)+32)=((b+32).toNat:Int):=by rw [wrap8,e];omega
  simp [great_cl,h1,h2,hw]
 all_goals simp [great_cl,h1,h2]
theorem low_eq {a b:UInt8} :(((Tg.Lo.low a).toNat:Int)=((Tg.Lo.low b).toNat:Int))=(Tg.Lo.low a=Tg.Lo.low b):=by
 apply propext
 constructor
 ·intro h;exact UInt8.toNat_inj.1 (by omega)
 ·intro h;rw [h]
theorem same_cl (hs:s.length≤9223372036854775806):LC Tryz.prog EJ 153 [str s,str p] H=some (.bool (decide (Tg.Lo.lower s=Tg.Lo.lower p)),H):=by
 refine LC_pure rfl Tryz.func153 rfl (Nat.le_of_ble_eq_true rfl) (by decide) (by kernel_rfl) rfl ?_
 by_cases hl:s.length=p.length
 ·have q1:((s.length:Int)=(p.length:Int))=True:=eq_true (by omega)
  refine runs_cut 2 (fun fr' H'=>fr' 0=str s∧fr' 1=str p∧H'=H) ?_ (fun K hK=>?_) rfl
  ·rintro fr' H' ⟨h0,h1,rfl⟩
   simp [h0,h1]
   refine loop_ind (fun(i:Nat) fr2 H2=>fr2 0=str s∧fr2 1=str p∧fr2 12=.int .i64 s.length∧fr2 13=.int .i64 i∧i≤s.length∧Tg.Lo.lower (s.take i)=Tg.Lo.lower (p.take i)∧H2=H') (fun i=>s.length-i) 0 ⟨by simp [h0],by simp [h1],by simp,by simp,by simp,by simp,rfl⟩ ?_
   rintro i fr2 H2 ⟨g0,g1,g12,g13,hi,he,rfl⟩ ih
   by_cases hlt:i<s.length
   ·have hlp:i<p.length:=by omega
    have a1:=at_in hlt
    have a2:=at_in hlp
    have hw:IntKind.i64.wrap ((i:Int)+1)=((i+1:Nat):Int):=by rw [wrapI (by omega) (by omega)];omega
    have t1:s.take (i+1)=s.take i++ [s[i]]:=List.take_succ_eq_append_getElem hlt
    have t2:p.take (i+1)=p.take i++ [p[i]]:=List.take_succ_eq_append_getElem hlp
    have hle:=@low_eq s[i] p[i]
    by_cases hc:Tg.Lo.low s[i]=Tg.Lo.low p[i]
    ·have qc:=eq_true hc
     rw [qc]at hle
     have hn:Tg.Lo.lower (s.take (i+1))=Tg.Lo.lower (p.take (i+1)):=by
      rw [t1,t2];unfold Tg.Lo.lower at he⊢;rw [List.map_append,List.map_append,he];simp [hc]
     have hc':=congrArg UInt8.toNat hc
     generalize hi1:i+1=i1 at*
     simp [g0,g1,g12,g13,hlt,hlp,a1,a2,low_cl,hle,hc,hw]
     exact ih i1 _ _ (by omega) ⟨by simp [g0],by simp [g1],by simp [g12],by simp,by omega,hn,rfl⟩
    ·have qc:=eq_false hc
     rw [qc]at hle
     have hne: ¬Tg.Lo.lower s=Tg.Lo.lower p:=by
      intro h
      have:=congrArg (fun l=>l[i]?) h
      simp [Tg.Lo.lower,hlt,hlp]at this
      exact hc this
     simp [g0,g1,g12,g13,hlt,hlp,a1,a2,low_cl,hle,hc,hne]
   ·have e1:s.take i=s:=List.take_of_length_le (by omega)
    have e2:p.take i=p:=List.take_of_length_le (by omega)
    rw [e1,e2]at he
    simp [g0,g1,g12,g13,hlt,he]
  ·simp [q1]
   exact hK _ _ ⟨by simp,by simp,rfl⟩
 ·have q1:((s.length:Int)=(p.length:Int))=False:=eq_false (by omega)
  have hne: ¬Tg.Lo.lower s=Tg.Lo.lower p:=by
   intro h
   have:=congrArg List.length h
   simp [Tg.Lo.lower]at this
   exact hl this
  simp [q1,hne]
end
end Go.Proofs.YtjplaockjmhnjaaGreatDoor
namespace Tg.Ur
end Tg.Ur
namespace Go.Proofs.YtjplaockjmhnjaaGreatDoor
open Go.Lg Go.Tg
section
variable {H:LH} {b:UInt8} {s p:List UInt8}
theorem dw_le {q:UInt8→Bool} (s:List UInt8):(s.dropWhile q).length≤s.length:=(List.dropWhile_suffix q).length_le
end
end Go.Proofs.YtjplaockjmhnjaaGreatDoor
namespace Tg.Ur
end Tg.Ur
namespace Go.Proofs.YtjplaockjmhnjaaGreatDoor
open Go.Lg Go.Tg
section
variable {H:LH} {b:UInt8} {s p:List UInt8}
theorem Bld.new {N b:Nat} {l:List UInt8} {v:Value} {x:LB} (h:Bld N H b l v):Bld N (H.new x) b l v:=
 ⟨by obtain⟨p,hg,hp⟩:=h.get;exact⟨p,by rw [get_new_ne (by have:=h.lt;omega)];exact hg,hp⟩,h.row.keep (Nat.le_succ _) (fun k _ _ hk=>get_new_ne (by omega)),h.full,h.off,by rw [n_new];have:=h.lt;omega,by rw [n_new];have:=h.N;omega,h.nil⟩
theorem Bld.off_lt {N b k:Nat} {l:List UInt8} {v:Value} (h:Bld N H b l v) (hk:k<N):offRow v k:=by
 intro n c e
 rcases h.row.2 with⟨rfl,_⟩|⟨k',c',rest,rfl,g1,_⟩
 ·cases e
 ·injection e with e;injection e with e;injection e with e;omega
theorem Bld.first:Bld H.n (H.new ⟨[.pointer none,.slice none 0 0],157,true⟩) H.n [] (.slice none 0 0):=
 ⟨⟨_,get_new,.inl rfl⟩,RowN.nil,(by unfold Full;simp),(fun _ _ e=>by cases e),(by rw [n_new];omega),(by rw [n_new];omega),fun _=>rfl⟩
end
end Go.Proofs.YtjplaockjmhnjaaGreatDoor
namespace Tg.Ur
open Go
end Tg.Ur
namespace Go.Proofs.YtjplaockjmhnjaaGreatDoor
open Go.Lg Go.Tg
section
variable {H:LH} {b:UInt8} {s p:List UInt8}
theorem out_app {v:Value} {acc:List (List UInt8)} {N:Nat} {x:List UInt8} (h:RowN N H 9 1 v acc.length (acc.map str)) (hN:N≤H.n) (hl:acc.length≤100000):
  ∃v' H2,lapp Tryz.prog 60 v (some (1,[str x])) (H.new ⟨[str x],9,true⟩)=some (v',H2)∧RowN N H2 9 1 v' (acc++ [x]).length ((acc++ [x]).map str)∧N≤H2.n∧ ∀k,k<N→H2.get k=H.get k:=by
 have h2:RowN N (H.new ⟨[str x],9,true⟩) 9 1 v acc.length (acc.map str):=h.keep (Nat.le_succ _) (fun k _ _ hk=>get_new_ne (by omega))
 obtain⟨v',H2,ha,hr,hk,_⟩:=h2.app (t:=60) (new:= [x].map str) (m:=1) Tryz.underlying60 (by kernel_rfl) (by simp) (by simp) (by unfold maxElems;omega) (by rw [n_new];omega) (.inl (Nat.le_refl 1))
 refine⟨v',H2,ha,by rw [List.length_append,List.map_append];exact hr,Nat.le_trans (by rw [n_new];omega) hk.le,fun k hkn=>?_⟩
 rw [hk.get k (by rw [n_new];omega) (h.off_lt hkn),get_new_ne (by omega)]
end
end Go.Proofs.YtjplaockjmhnjaaGreatDoor
namespace Tg.Nu
def isD (b:UInt8):Bool:=decide (48≤(b.toNat:Int))&&decide ((b.toNat:Int)≤57)
def isE (b:UInt8):Bool:=decide (b=101)||decide (b=69)
def wh (st:Nat):Bool:=st==2||st==3||st==5||st==8
def nx (st:Nat) (b:UInt8):Nat:=
 if st=0∨st=1 then
  if b=45∧st=0 then 1 else if b=48 then 2 else if isD b then 3 else 9
 else if(st=4∨st=5)∧isD b then 5
 else if st=6∨st=7∨st=8 then
  if isD b then 8 else if st=6∧(b=43∨b=45)then 7 else 9
 else if st=3∧isD b then 3
 else if b=46∧(st=2∨st=3)then 4
 else if isE b∧wh st then 6 else 9
def en (st:Nat) (s:List UInt8):Nat:=s.foldl nx st
def acc (st:Nat) (s:List UInt8):Bool:=wh (en st s)
def hd:List UInt8→Bool
 | []=>false
 |c::_=>isD c
def all8 (v:List UInt8):Bool:=hd v&&(v.dropWhile isD).isEmpty
def B6 (r:List UInt8):Bool:=
 match r with
 | []=>false
 |c::q=>if c=43∨c=45 then all8 q else all8 r
def B2 (u:List UInt8):Bool:=
 match u with
 | []=>true
 |c::r=>isE c&&B6 r
theorem drop_take (u:List UInt8):u.drop (u.takeWhile isD).length=u.dropWhile isD:=by
 induction u with
 |nil=>rfl
 |cons b u ih=>
  rw [List.takeWhile_cons,List.dropWhile_cons]
  split
  ·simpa using ih
  ·rfl
end Tg.Nu
namespace Tg.Nu
open Go
theorem any_cons (b:UInt8) (l c:List UInt8):Lib.indexAny (b::l) c=if c.contains b then 0 else if Lib.indexAny l c== -1 then -1 else Lib.indexAny l c+1:=rfl
def digs (l:List UInt8):Prop:= ∀b∈l,isD b=true
def eoT:Option (UInt8×List UInt8×List UInt8)→List UInt8
 |none=> []
 |some (e,sg,ep)=>e::(sg++ep)
def foT:Option (List UInt8)→List UInt8
 |none=> []
 |some f=>46::f
structure Num where
 neg:Bool
 ip:List UInt8
 f:Option (List UInt8)
 e:Option (UInt8×List UInt8×List UInt8)
def OkE:Option (UInt8×List UInt8×List UInt8)→Prop
 |none=>True
 |some (c,sg,ep)=>isE c=true∧(sg= []∨sg= [43]∨sg= [45])∧digs ep∧ep≠ []
def OkF:Option (List UInt8)→Prop
 |none=>True
 |some f=>digs f
structure Num.Ok (n:Num):Prop where
 ip:digs n.ip
 ip0:n.ip≠ []
 f:OkF n.f
 e:OkE n.e
def Num.head (n:Num):List UInt8:=n.ip++foT n.f
def Num.body (n:Num):List UInt8:=n.head++eoT n.e
def Num.text (n:Num):List UInt8:=(if n.neg then [45]else [])++n.body
def nz (b:UInt8):Bool:=b==48
def lead (l:List UInt8):List UInt8:=l.dropWhile nz
def trail (l:List UInt8):List UInt8:=(l.reverse.dropWhile nz).reverse
def Num.fp (n:Num):List UInt8:=match n.f with|none=> []|some f=>f
def Num.all (n:Num):List UInt8:=lead (n.ip++n.fp)
def Num.short (n:Num):List UInt8:=trail n.all
theorem Num.Ok.cons {n:Num} (h:n.Ok): ∃c r,n.ip=c::r∧isD c=true:=by
 cases hip:n.ip with
 |nil=>exact absurd hip h.ip0
 |cons c r=>exact⟨c,r,rfl,h.ip c (by rw [hip];simp)⟩
end Tg.Nu
namespace Tg.Nu
def cat (d l:List UInt8):List UInt8:=if d≠ []then d++l else lead l
end Tg.Nu
namespace Go.Proofs.YtjplaockjmhnjaaGreatDoor
open Go.Lg Go.Tg
section
open Tg.Nu
variable {H:LH} {b:UInt8} {s t:List UInt8}
end
section
variable {H:LH} {b:UInt8} {s t:List UInt8}
end
end Go.Proofs.YtjplaockjmhnjaaGreatDoor
namespace Tg.Ur
def textP (u:Url):List UInt8:=u.scheme++ [58,47,47]++u.host++(if u.port≠0 then 58::Go.Lib.itoa u.port else [])++u.path++u.query
def text (u:Url):List UInt8:=if good u then textP u else []
def port (u:Url):Int:=if own u.scheme=0∨u.port=0 then own u.scheme else u.port
def origin (u:Url):List UInt8:=if good u then u.scheme++ [58,47,47]++u.host++ [58]++Go.Lib.itoa (port u)else []
end Tg.Ur
namespace Go.Proofs.YtjplaockjmhnjaaGreatDoor
open Go.Lg Go.Tg
section
variable {H:LH} {b:UInt8} {s t:List UInt8}
@[simp] theorem lfill_cell' {P:Program} {t:TypeId} {cs:List Value} {i:Nat} {q:Nat×Nat×Bool} {v:Value} {ps:List (Nat×Value)} (hf:fldi P t i=some q) (hn:q.2.1=1) (hv:cellB v=true) (ho:q.1<cs.length):lfill P t cs ((i,v)::ps)=lfill P t (cs.set q.1 v) ps:=by
 obtain⟨o,n,g⟩:=q
 exact lfill_cell hf hn hv ho
end
end Go.Proofs.YtjplaockjmhnjaaGreatDoor
namespace Tg.Hd
open Go.Lg (str)
abbrev Hdr:=List UInt8×List UInt8
def white (b:UInt8):Bool:=([9,10,13,32]:List UInt8).contains b
def trimE (s:List UInt8):List UInt8:=(s.reverse.dropWhile white).reverse
def trim (s:List UInt8):List UInt8:=(trimE s).dropWhile white
def signs:List UInt8:= [33,35,36,37,38,39,42,43,45,46,94,95,124,126,96]
def isL (b:UInt8):Bool:=(decide ((97:Int)≤b.toNat)&&decide ((b.toNat:Int)≤122))||(decide ((65:Int)≤b.toNat)&&decide ((b.toNat:Int)≤90))
def isD (b:UInt8):Bool:=decide ((48:Int)≤b.toNat)&&decide ((b.toNat:Int)≤57)
def tok (b:UInt8):Bool:=isL b||isD b||signs.contains b
def free (of s:List UInt8):Bool:=s.all fun b=>!of.contains b
def fine (h:Hdr):Bool:=decide (h.1≠ [])&&h.1.all tok&&decide (trim h.2=h.2)&&free [0,13,10] h.2&&decide (h.2.length≤8192)
def good (l:List Hdr):Bool:=decide (l.length≤100)&&l.all fine
def cells (l:List Hdr):List Go.Value:=l.flatMap fun h=> [str h.1,str h.2]
theorem cells_cons (h:Hdr) (l:List Hdr):cells (h::l)=str h.1::str h.2::cells l:=rfl
theorem cells_app (a b:List Hdr):cells (a++b)=cells a++cells b:=List.flatMap_append
theorem cells_len: ∀l:List Hdr,(cells l).length=l.length*2
 | []=>rfl
 |h::l=>by rw [cells_cons];simp [cells_len l];omega
theorem cells_at: ∀ {l:List Hdr} {i:Nat} (h:i<l.length) (r:List Go.Value),((cells l++r).drop (i*2)).take 2= [str l[i].1,str l[i].2]∧(cells l++r)[i*2]?=some (str l[i].1)∧(cells l++r)[i*2+1]?=some (str l[i].2)
 | [],i,h,_=>by simp at h
 |x::l,0,h,r=>by rw [cells_cons];exact⟨rfl,rfl,rfl⟩
 |x::l,i+1,h,r=>by
  have ih:=cells_at (l:=l) (i:=i) (by simpa using h) r
  rw [cells_cons,show(i+1)*2=i*2+2 by omega]
  exact ih
def stripR (t:List UInt8):List UInt8:=if t.getLast?=some 13 then t.dropLast else t
def upto (c:UInt8) (t:List UInt8):Nat:=(t.takeWhile fun b=>!(b==c)).length
def lineP (t:List UInt8):Option Hdr:=
 if t.contains 58 then
  let h:Hdr:=(t.take (upto 58 t),trim (t.drop (upto 58 t+1)))
  if fine h then some h else none
 else none
def rows:List (List UInt8)→Nat→List Hdr→List Hdr×Int×Int
 | [],_,acc=>if 100<acc.length then([],0,6)else(acc,0,0)
 |t::l,n,acc=>if stripR t= []then rows l (n+1) acc else match lineP (stripR t)with
  |none=>([],((n+1:Nat):Int),2)
  |some h=>rows l (n+1) (acc++ [h])
def text (l:List Hdr):List UInt8:=l.flatMap fun h=>h.1++ [58,32]++h.2++ [13,10]
def few (l:List Hdr) (n:Nat):List Hdr:=(l.take n).map fun h=>(h.1.take 30,h.2.take 100)
def same (a b:List UInt8):Bool:=decide (a.map Tg.Lo.low=b.map Tg.Lo.low)
end Tg.Hd
namespace Tg.Hd
structure FineP (h:Hdr):Prop where
 ne:h.1≠ []
 tok: ∀b∈h.1,tok b=true
 trim:trim h.2=h.2
 free: ∀b∈h.2,b≠0∧b≠13∧b≠10
 len:h.2.length≤8192
end Tg.Hd
namespace Go.Proofs.YtjplaockjmhnjaaGreatDoor
open Go.Lg Go.Tg
section
variable {H:LH} {b:UInt8} {s t:List UInt8}
theorem white_cl:LC Tryz.prog EJ 182 [.int .u8 b.toNat] H=some (.bool (Tg.Hd.white b),H):=by
 refine LC_pure rfl Tryz.func182 rfl (Nat.le_of_ble_eq_true rfl) (by decide) (by kernel_rfl) rfl ?_
 by_cases h1:b=9
 ·subst h1;simp [Tg.Hd.white]
 by_cases h2:b=10
 ·subst h2;simp [Tg.Hd.white]
 by_cases h3:b=13
 ·subst h3;simp [Tg.Hd.white]
 by_cases h4:b=32
 ·subst h4;simp [Tg.Hd.white]
 simp [Tg.Hd.white,h1,h2,h3,h4]
theorem end_cl {g:FuncId} {q:UInt8→Bool} (hg: ∀(b:UInt8) (H:LH),LC Tryz.prog EJ g [.int .u8 b.toNat] H=some (.bool (q b),H)) (hs:s.length≤9223372036854775806):
  LC Tryz.prog EJ 262 [str s,.func (.func g) #[] #[]] H=some (.int .i64 ((s.reverse.dropWhile q).length:Nat),H):=by
 refine LC_pure rfl Tryz.func262 rfl (Nat.le_of_ble_eq_true rfl) (by decide) (by kernel_rfl) rfl ?_
 obtain⟨x,hx⟩: ∃x,x=(s.reverse.dropWhile q).length:=⟨_,rfl⟩
 rw [←hx]
 simp
 refine loop_ind (fun(i:Nat) fr' H'=>fr' 0=str s∧fr' 1=.func (.func g) #[] #[]∧fr' 5=.int .i64 i∧i≤s.length∧x=((s.take i).reverse.dropWhile q).length∧H'=H) (fun i=>i) s.length ⟨by simp,by simp,by simp,Nat.le_refl _,by rw [List.take_length];exact hx,rfl⟩ ?_
 rintro i fr' H' ⟨h0,h1,h5,hi,hc,rfl⟩ ih
 by_cases hz:0<i
 ·have q0:=eq_true (show(0:Int)<(i:Int) by omega)
  have hlt:i-1<s.length:=by omega
  have hw:IntKind.i64.wrap ((i:Int)-1)=((i-1:Nat):Int):=by rw [wrapI (by omega) (by omega)];omega
  have hat:at_ s ((i-1:Nat):Int)=s[i-1]:=at_in hlt
  have q1:=eq_true (show((i-1:Nat):Int)<(s.length:Int) by omega)
  have e:s.take i=s.take (i-1)++ [s[i-1]]:=by
   have:=List.take_succ_eq_append_getElem hlt
   rw [show i-1+1=i by omega]at this
   exact this
  rw [e,List.reverse_append,List.reverse_singleton,List.singleton_append,List.dropWhile_cons]at hc
  have hgc:=hg s[i-1]
  generalize s[i-1]=c at*
  generalize hk:i-1=k at*
  cases hq:q c with
  |true=>
   rw [hq]at hc hgc
   rw [if_pos rfl]at hc
   simp [h0,h1,h5,q0,hz,hw,hat,q1,hlt,hgc]
   refine ih k _ _ (by omega) ⟨?_,?_,?_,by omega,hc,rfl⟩
   all_goals simp [h0,h1,hw]
  |false=>
   rw [hq]at hc hgc
   rw [if_neg (by decide)]at hc
   have hxi:x=i:=by rw [hc];simp;omega
   subst hxi
   simp [h0,h1,h5,q0,hz,hw,hat,q1,hlt,hgc]
 ·have q0:=eq_false (show¬(0:Int)<(i:Int) by omega)
  have hi0:i=0:=by omega
  subst hi0
  have hx0:x=0:=by rw [hc];rfl
  subst hx0
  simp [h0,h1,h5]
theorem trimE_take:Tg.Hd.trimE s=s.take (s.reverse.dropWhile Tg.Hd.white).length:=by
 have h2:Tg.Hd.trimE s<+:s:=List.reverse_suffix.mp (by unfold Tg.Hd.trimE;rw [List.reverse_reverse];exact List.dropWhile_suffix _)
 have:=List.prefix_iff_eq_take.mp h2
 rw [this]
 congr 1
 unfold Tg.Hd.trimE
 rw [List.length_reverse]
theorem Trim_cl (hs:s.length≤9223372036854775806):LC Tryz.prog EJ 250 [str s] H=some (str (Tg.Hd.trim s),H):=by
 refine LC_pure rfl Tryz.func250 rfl (Nat.le_of_ble_eq_true rfl) (by decide) (by kernel_rfl) rfl ?_
 have he:=fun H:LH=>end_cl (H:=H) (s:=s) (g:=182) (q:=Tg.Hd.white) (fun b H=>white_cl) hs
 have hw:=fun(H:LH) (b:UInt8)=>white_cl (H:=H) (b:=b)
 obtain⟨x,hx⟩: ∃x,x=Tg.Hd.trim s:=⟨_,rfl⟩
 rw [←hx]
 unfold Tg.Hd.trim at hx
 rw [trimE_take]at hx
 have hle:(s.reverse.dropWhile Tg.Hd.white).length≤s.length:=by
  have:=(List.dropWhile_suffix (l:=s.reverse) Tg.Hd.white).length_le
  rwa [List.length_reverse]at this
 generalize (s.reverse.dropWhile Tg.Hd.white).length=n at*
 have q1:=eq_true (show(n:Int)≤(s.length:Int) by omega)
 have htl:(s.take n).length≤9223372036854775806:=by rw [List.length_take];omega
 simp [he,q1,hle]
 generalize s.take n=t at*
 refine loop_ind (fun(i:Nat) fr' H'=>fr' 0=str t∧fr' 3=.int .i64 i∧i≤t.length∧x=(t.drop i).dropWhile Tg.Hd.white∧H'=H) (fun i=>t.length-i) 0 ⟨by simp,by simp,Nat.zero_le _,hx,rfl⟩ ?_
 rintro i fr' H' ⟨h0,h3,hi,hc,rfl⟩ ih
 by_cases hlt:i<t.length
 ·have q:=eq_true (show(i:Int)<(t.length:Int) by omega)
  have hat:at_ t (i:Int)=t[i]:=at_in hlt
  have hw1:IntKind.i64.wrap ((i:Int)+1)=((i+1:Nat):Int):=by rw [wrapI (by omega) (by omega)];omega
  have qi:=eq_true (show(i:Int)≤(t.length:Int) by omega)
  rw [List.drop_eq_getElem_cons hlt,List.dropWhile_cons]at hc
  have hwc:=fun H=>hw H t[i]
  have hdr:t.drop i=t[i]::t.drop (i+1):=List.drop_eq_getElem_cons hlt
  generalize t[i]=c at*
  cases hq:Tg.Hd.white c with
  |true=>
   rw [hq]at hc hwc
   rw [if_pos rfl]at hc
   simp [h0,h3,q,hlt,hat,hwc]
   refine ih (i+1) _ _ (by omega) ⟨?_,?_,by omega,hc,rfl⟩
   all_goals simp [h0,hw1]
  |false=>
   rw [hq]at hc hwc
   rw [if_neg (by decide),←hdr]at hc
   simp [h0,h3,q,hlt,hat,hwc,qi,hi,hc]
 ·have q:=eq_false (show¬(i:Int)<(t.length:Int) by omega)
  have qi:=eq_true (show(i:Int)≤(t.length:Int) by omega)
  have hil:i=t.length:=by omega
  rw [List.drop_of_length_le (by omega)]at hc
  subst hil
  simp [h0,h3,hc]
theorem small_cl:LC Tryz.prog EJ 242 [.int .u8 b.toNat] H=some (.bool (decide ((97:Int)≤b.toNat)&&decide ((b.toNat:Int)≤122)),H):=by
 refine LC_pure rfl Tryz.func242 rfl (Nat.le_of_ble_eq_true rfl) (by decide) (by kernel_rfl) rfl ?_
 by_cases h1:(97:Int)≤b.toNat<;>by_cases h2:(b.toNat:Int)≤122<;>simp [h1,h2]
theorem letter_cl:LC Tryz.prog EJ 210 [.int .u8 b.toNat] H=some (.bool (Tg.Hd.isL b),H):=by
 refine LC_pure rfl Tryz.func210 rfl (Nat.le_of_ble_eq_true rfl) (by decide) (by kernel_rfl) rfl ?_
 have h1:=fun H:LH=>small_cl (H:=H) (b:=b)
 have h2:=fun H:LH=>great_cl (H:=H) (b:=b)
 unfold Tg.Hd.isL
 cases e1:(decide ((97:Int)≤b.toNat)&&decide ((b.toNat:Int)≤122))<;>rw [e1]at h1<;>
 cases e2:(decide ((65:Int)≤b.toNat)&&decide ((b.toNat:Int)≤90))<;>rw [e2]at h2<;>simp [h1,h2]
theorem Token_cl:LC Tryz.prog EJ 281 [.int .u8 b.toNat] H=some (.bool (Tg.Hd.tok b),H):=by
 refine LC_pure rfl Tryz.func281 rfl (Nat.le_of_ble_eq_true rfl) (by decide) (by kernel_rfl) rfl ?_
 have h1:=fun H:LH=>letter_cl (H:=H) (b:=b)
 have h2: ∀H:LH,LC Tryz.prog EJ 302 [.int .u8 b.toNat] H=some (.bool (Tg.Hd.isD b),H):=fun H=>digit_cl (H:=H) (b:=b)
 have h3:=idx_lt Tg.Hd.signs b
 unfold Tg.Hd.tok
 cases e1:Tg.Hd.isL b with
 |true=>rw [e1]at h1;simp [h1]
 |false=>
  rw [e1]at h1
  cases e2:Tg.Hd.isD b with
  |true=>rw [e2]at h2;simp [h1,h2]
  |false=>
   rw [e2]at h2
   rw [h3]
   unfold Tg.Hd.signs
   simp [h1,h2]
   generalize Lib.indexByte _ b=x
   rw [Bool.eq_iff_iff]
   simp
abbrev hv (h:Tg.Hd.Hdr):Value:=.agg #[str h.1,str h.2]
abbrev hb (h:Tg.Hd.Hdr):LB:=⟨[str h.1,str h.2],67,true⟩
theorem trimH_len (s:List UInt8):(Tg.Hd.trim s).length≤s.length:=by
 unfold Tg.Hd.trim Tg.Hd.trimE
 refine Nat.le_trans (dw_le _) ?_
 rw [List.length_reverse]
 refine Nat.le_trans (dw_le _) ?_
 rw [List.length_reverse]
 exact Nat.le_refl _
end
end Go.Proofs.YtjplaockjmhnjaaGreatDoor
namespace Tg.Mi
abbrev Par:=List UInt8×List UInt8
structure Mim where
 t:List UInt8
 s:List UInt8
 ps:List Par
deriving DecidableEq
def tokenP (s:List UInt8):Bool:=decide (s≠ [])&&s.all Tg.Hd.tok
def quo (b:UInt8):Bool:=decide ((b.toNat:Int)=9)||(decide (32≤(b.toNat:Int))&&decide ((b.toNat:Int)≤126))||decide (128≤(b.toNat:Int))
def fnd (name:List UInt8):List Par→Nat→Int
 | [],_=> -1
 |p::l,i=>if p.1=name then i else fnd name l (i+1)
theorem fnd_ge (name:List UInt8): ∀(l:List Par) (i:Nat),fnd name l i= -1∨ ∃j:Nat,fnd name l i=((i+j:Nat):Int)∧j<l.length∧ ∀(h:j<l.length),l[j].1=name
 | [],i=>.inl rfl
 |p::l,i=>by
  unfold fnd
  by_cases h:p.1=name
  ·rw [if_pos h];exact .inr ⟨0,by simp,by simp,fun _=>h⟩
  ·rw [if_neg h]
   rcases fnd_ge name l (i+1)with h2|⟨j,h2,h3,h4⟩
   ·exact .inl h2
   ·refine .inr ⟨j+1,?_,by simpa using h3,fun _=>by simpa using h4 h3⟩
    rw [h2];congr 1;omega
def parP (x:List UInt8):Par×Bool×Nat:=
 match x.drop (while_ white x+until_ [59,61] (x.drop (while_ white x)))with
 |61::y=>if y= []then((Tg.Lo.lower ((x.drop (while_ white x)).take (until_ [59,61] (x.drop (while_ white x)))),[]),false,while_ white x+until_ [59,61] (x.drop (while_ white x))+1)
   else((Tg.Lo.lower ((x.drop (while_ white x)).take (until_ [59,61] (x.drop (while_ white x)))),(valP y).1),(valP y).2.1&&(tokenP (Tg.Lo.lower ((x.drop (while_ white x)).take (until_ [59,61] (x.drop (while_ white x)))))&&(valP y).1.all quo),while_ white x+until_ [59,61] (x.drop (while_ white x))+1+(valP y).2.2)
 |_=>((Tg.Lo.lower ((x.drop (while_ white x)).take (until_ [59,61] (x.drop (while_ white x)))),[]),false,while_ white x+until_ [59,61] (x.drop (while_ white x)))
theorem valP_le (x:List UInt8):(valP x).2.2≤x.length:=by
 unfold valP
 split
 ·rename_i r
  have h1:=coll_le r
  have h2:=until_le [59] (r.drop (coll r).2.2)
  rw [List.length_drop]at h2
  simp only [List.length_cons,semi]
  omega
 ·exact until_le [59] x
theorem coll_len: ∀x:List UInt8,(coll x).1.length≤x.length
 | []=>by simp [coll]
 |b::r=>by
  unfold coll
  split
  ·simp
  ·split
   ·cases r with
    |nil=>simp
    |cons c r'=>have:=coll_len r';simp;omega
   ·have:=coll_len r;simp;omega
theorem valP_len (x:List UInt8):(valP x).1.length≤x.length:=by
 unfold valP
 split
 ·rename_i r
  have:=coll_len r
  simp only [List.length_cons];omega
 ·have:=back_le white (x.take (semi x))
  rw [List.length_take]at this
  simp only;omega
theorem parP_le (x:List UInt8):(parP x).2.2≤x.length:=by
 have h1:=while_le white x
 have h2:=until_le [59,61] (x.drop (while_ white x))
 rw [List.length_drop]at h2
 unfold parP
 split
 ·rename_i y hy
  have h3:=congrArg List.length hy
  rw [List.length_drop,List.length_cons]at h3
  split
  ·simp only;omega
  ·have:=valP_le y
   simp only;omega
 ·simp only;omega
end Tg.Mi
namespace Go.Proofs.YtjplaockjmhnjaaGreatDoor.Mi
open Go.Lg Go.Tg
abbrev pv2 (p:Tg.Mi.Par):Value:=.agg #[str p.1,str p.2]
abbrev mv (t u:List UInt8) (v:Value):Value:=.agg #[str t,str u,v]
def elP:El Tg.Mi.Par:=El.flat 2 (fun a=> [str a.1,str a.2]) (fun _=>rfl) (fun _=>by simp)
section
variable {H H':LH} {N M b c l i p:Nat} {s t u name:List UInt8} {v w:Value} {ps:List Tg.Mi.Par} {a:Tg.Mi.Par}
theorem szP:sz Tryz.prog 87=some elP.n:=by kernel_rfl
theorem mtoken_k (hs:s.length≤1000000):LC Tryz.prog EJ 253 [str s] H=some (.bool (Tg.Mi.tokenP s),H):=by
 refine LC_pure rfl Tryz.func253 rfl (Nat.le_of_ble_eq_true rfl) (by decide) (by kernel_rfl) rfl ?_
 have h1:=fun H:LH=>all_k (H:=H) (s:=s) (g:=281) (p:=Tg.Hd.tok) (fun H b=>Token_cl) hs
 unfold Tg.Mi.tokenP
 by_cases h:s= []
 ·subst h;simp
 ·simp [h,h1]
theorem quoted_k {b:UInt8} :LC Tryz.prog EJ 259 [.int .u8 b.toNat] H=some (.bool (Tg.Mi.quo b),H):=by
 refine LC_pure rfl Tryz.func259 rfl (Nat.le_of_ble_eq_true rfl) (by decide) (by kernel_rfl) rfl ?_
 unfold Tg.Mi.quo
 by_cases a1:(b.toNat:Int)=9
 ·simp [a1]
 ·by_cases a2:32≤(b.toNat:Int)
  ·by_cases a3:(b.toNat:Int)≤126
   ·have a1:=eq_false a1
    have a2:=eq_true a2
    have a3:=eq_true a3
    simp [a1,a2,a3]
   ·have a1:=eq_false a1
    have a2:=eq_true a2
    have a3:=eq_false a3
    simp [a1,a2,a3]
  ·have a1:=eq_false a1
   have a2:=eq_false a2
   simp [a1,a2]
theorem qall_k (hs:s.length≤1000000):LC Tryz.prog EJ 258 [str s,.func (.func 259) #[] #[]] H=some (.bool (s.all Tg.Mi.quo),H):=all_k (fun H b=>quoted_k) hs
theorem lower_len:(Tg.Lo.lower s).length=s.length:=by simp [Tg.Lo.lower]
theorem Lower_k (hs:s.length≤1000000):LC Tryz.prog EJ 251 [str s] H=some (str (Tg.Lo.lower s),H):=by
 refine LC_pure rfl Tryz.func251 rfl (Nat.le_of_ble_eq_true rfl) (by decide) (by kernel_rfl) rfl ?_
 have h1:=fun H:LH=>lower_l (H:=H) (s:=s) (by unfold maxLen;omega)
 simp [h1]
theorem par_at (hr:RowG elP 87 N H v ps) {i:Nat} (hi:i<ps.length): ∃k o,(∀H':LH,lixa Tryz.prog 39 v (.int .i64 i) H'=some (ptr k o,H'))∧k<H.n∧ ∀H':LH,H'.get k=H.get k→
  lld Tryz.prog 87 (ptr k o) H'=some (pv2 ps[i])∧lld Tryz.prog 9 (ptr k o) H'=some (str ps[i].1)∧lld Tryz.prog 9 (ptr k (o+1)) H'=some (str ps[i].2):=by
 obtain⟨k,o,cs,h1,h2,h3,h4⟩:=hr.at (P:=Tryz.prog) (t:=39) Tryz.underlying39 szP hi
 have h3:cs= [str ps[i].1,str ps[i].2]:=h3
 subst h3
 refine⟨k,o,h1,h2,fun H' he=>?_⟩
 obtain⟨g1,g2,_⟩:=h4 H' he
 exact⟨g1 (by kernel_rfl),g2 0 _ _ (by kernel_rfl) rfl,g2 1 _ _ (by kernel_rfl) rfl⟩
theorem find1_k (hg:H.get p=some ⟨[str name],9,true⟩) (hp:p<H.n):LC Tryz.prog EJ 285 [pv2 a,ptr p 0] H=some (.bool (decide (a.1=name)),H):=by
 refine LC_pure rfl Tryz.func285 rfl (Nat.le_of_ble_eq_true rfl) (by decide) (by kernel_rfl) rfl ?_
 have hne:=eq_false (show¬p=H.n by omega)
 simp [hg,hne,le_refl.new]
theorem pindex_k (hr:RowG elP 87 N H v ps) (hl:ps.length≤1000000) (hg:H.get p=some ⟨[str name],9,true⟩) (hp:p<H.n):LC Tryz.prog EJ 284 [v,.func (.func 285) #[] #[ptr p 0]] H=some (.int .i64 (Tg.Mi.fnd name ps 0),H):=by
 refine LC_pure rfl Tryz.func284 rfl (Nat.le_of_ble_eq_true rfl) (by decide) (by kernel_rfl) (by simp) ?_
 obtain⟨x,hx⟩: ∃x,x=Tg.Mi.fnd name ps 0:=⟨_,rfl⟩
 rw [←hx]
 have hlen:=fun H':LH=>hr.len (P:=Tryz.prog) (t:=39) (H':=H') Tryz.underlying39
 simp [hlen]
 refine loop_ind (fun(i:Nat) fr' H'=>fr' 0=v∧fr' 1=.func (.func 285) #[] #[ptr p 0]∧fr' 7=.int .i64 ps.length∧fr' 8=.int .i64 i∧i≤ps.length∧x=Tg.Mi.fnd name (ps.drop i) i∧H'=H) (fun i=>ps.length-i) 0 ⟨by simp,by simp,by simp,by simp,Nat.zero_le _,hx,rfl⟩ ?_
 rintro i fr' H' ⟨h0,h1,h7,h8,hi,hc,rfl⟩ ih
 by_cases hlt:i<ps.length
 ·have q:=eq_true (show(i:Int)<(ps.length:Int) by omega)
  have hw:IntKind.i64.wrap ((i:Int)+1)=((i+1:Nat):Int):=by rw [wrapI (by omega) (by omega)];omega
  obtain⟨k,o,g1,g2,g3⟩:=par_at hr hlt
  obtain⟨g4,_,_⟩:=g3 H' rfl
  have ho:=fun a=>find1_k (H:=H') (p:=p) (name:=name) (a:=a) hg hp
  rw [List.drop_eq_getElem_cons hlt]at hc
  generalize ps[i]=a at*
  unfold Tg.Mi.fnd at hc
  by_cases hf:a.1=name
  ·rw [if_pos hf]at hc
   have hf:=eq_true hf
   subst hc
   simp [h0,h1,h7,h8,q,hlt,g1,g4,ho,hf]
  ·rw [if_neg hf]at hc
   have hf:=eq_false hf
   simp [h0,h1,h7,h8,q,hlt,g1,g4,ho,hf]
   refine ih (i+1) _ _ (by omega) ⟨?_,?_,?_,?_,by omega,hc,rfl⟩
   all_goals simp [h0,h1,h7,hw]
 ·have q:=eq_false (show¬(i:Int)<(ps.length:Int) by omega)
  rw [List.drop_of_length_le (by omega)]at hc
  have hc:x= -1:=hc
  subst hc
  simp [h0,h1,h7,h8,q,hlt]
theorem mfind_k (hr:RowG elP 87 N H v ps) (hl:ps.length≤1000000):LC Tryz.prog EJ 255 [mv t u v,str name] H=some (.int .i64 (Tg.Mi.fnd name ps 0),H):=by
 refine LC_pure rfl Tryz.func255 rfl (Nat.le_of_ble_eq_true rfl) (by decide) (by kernel_rfl) rfl ?_
 have hcv:=hr.cell
 obtain⟨Hb,hHb⟩: ∃Hb,Hb=(H.new ⟨[str t,str u,v],41,true⟩).new ⟨[str name],9,true⟩:=⟨_,rfl⟩
 have hle:H.le Hb:=by rw [hHb];exact le_refl.new.new
 have h1:=pindex_k (H:=Hb) (p:=H.n+1) (name:=name) (hr.le hle) hl (by rw [hHb];exact get_new) (by rw [hHb,n_new,n_new];omega)
 rw [hHb]at h1
 have d1:(H.n=H.n+1)=False:=eq_false (by omega)
 simp [hcv,h1,d1,le_refl.new.new]
end
section
variable {H H':LH} {N M b c l i p:Nat} {s t u name:List UInt8} {v w:Value} {ps:List Tg.Mi.Par} {a:Tg.Mi.Par}
theorem val_ex (hk:H.get l=some (cu s i)) (hl:l<H.n) (hi:i≤s.length) (hs:s.length≤100000):
  ∃H',LC Tryz.prog EJ 283 [ptr l 0] H=some (.tuple #[str (Tg.Mi.valP (s.drop i)).1,.bool (Tg.Mi.valP (s.drop i)).2.1],H')∧OutC H l s (i+(Tg.Mi.valP (s.drop i)).2.2) H':=by
 have hd:(s.drop i).length=s.length-i:=List.length_drop
 by_cases hq:(s.drop i).head?=some 34
 ·obtain⟨r,hr⟩: ∃r,s.drop i=34::r:=by
   cases hx:s.drop i with
   |nil=>rw [hx]at hq;simp at hq
   |cons b r=>rw [hx]at hq;simp at hq;subst hq;exact⟨r,rfl⟩
  have hlt:i<s.length:=by rw [hr]at hd;simp at hd;omega
  have h2:=List.drop_eq_getElem_cons hlt
  rw [hr]at h2
  injection h2 with h3 h4
  have hcl:=Tg.Mi.coll_le r
  have hrl:r.length+1=s.length-i:=by rw [hr]at hd;simpa using hd
  obtain⟨H1,e1,o1⟩:=val_q hk hl hlt hs h3.symm (by rw [←h4];omega)
  rw [←h4]at e1 o1
  rw [hr]
  refine⟨H1,e1,?_⟩
  have hdd:s.drop (i+1+(Tg.Mi.coll r).2.2)=r.drop (Tg.Mi.coll r).2.2:=by rw [←List.drop_drop,←h4]
  rw [hdd]at o1
  show OutC H l s (i+(1+(Tg.Mi.coll r).2.2+Tg.Mi.until_ [59] (r.drop (Tg.Mi.coll r).2.2))) H1
  rw [show i+(1+(Tg.Mi.coll r).2.2+Tg.Mi.until_ [59] (r.drop (Tg.Mi.coll r).2.2))=i+1+(Tg.Mi.coll r).2.2+Tg.Mi.until_ [59] (r.drop (Tg.Mi.coll r).2.2) by omega]
  exact o1
 ·obtain⟨H1,e1,o1⟩:=val_n hk hl hi hs hq
  have hv:Tg.Mi.valP (s.drop i)=(Tg.Mi.back Tg.Mi.white ((s.drop i).take (Tg.Mi.until_ [59] (s.drop i))),decide (Tg.Mi.back Tg.Mi.white ((s.drop i).take (Tg.Mi.until_ [59] (s.drop i)))≠ []),Tg.Mi.until_ [59] (s.drop i)):=by
   unfold Tg.Mi.valP
   split
   ·rename_i r hr;rw [hr]at hq;simp at hq
   ·rfl
  rw [hv]
  exact⟨H1,e1,o1⟩
theorem lfill_q1 {a:List UInt8} :lfill Tryz.prog 87 [str [],str []] [(0,str a)]=some [str a,str []]:=by
 rw [lfill_cell (o:=0) (n:=1) (g:=false) (by simp) rfl (by simp) (by simp)]
 simp
theorem OutC.le_trans {j j':Nat} {H1:LH} (h:OutC H l s j H1) (g:OutC H1 l s j' H'):OutC H l s j' H':=⟨g.get,Nat.le_trans h.n g.n,fun k hk hne=>by rw [g.old k (Nat.lt_of_lt_of_le hk h.n) hne,h.old k hk hne]⟩
theorem param_ex (hk:H.get l=some (cu s i)) (hl:l<H.n) (hi:i≤s.length) (hs:s.length≤100000):
  ∃H',LC Tryz.prog EJ 254 [ptr l 0] H=some (.tuple #[pv2 (Tg.Mi.parP (s.drop i)).1,.bool (Tg.Mi.parP (s.drop i)).2.1],H')∧OutC H l s (i+(Tg.Mi.parP (s.drop i)).2.2) H':=by
 have key: ∃r,LC Tryz.prog EJ 254 [ptr l 0] H=some (Lg.trunc H r)∧r.1=.tuple #[pv2 (Tg.Mi.parP (s.drop i)).1,.bool (Tg.Mi.parP (s.drop i)).2.1]∧OutC H l s (i+(Tg.Mi.parP (s.drop i)).2.2) r.2:=by
  refine LC_runs (P:=Tryz.prog) (E:=EJ) (f:=254) rfl Tryz.func254 rfl (Nat.le_of_ble_eq_true rfl) (by decide) (by kernel_rfl) ?_
  have hwl:=Tg.Mi.while_le Tg.Mi.white (s.drop i)
  have hul:=Tg.Mi.until_le [59,61] ((s.drop i).drop (Tg.Mi.while_ Tg.Mi.white (s.drop i)))
  have hd:(s.drop i).length=s.length-i:=List.length_drop
  rw [List.length_drop]at hul
  have hne:l≠H.n:=by omega
  have hp:Tg.Mi.parP (s.drop i)=Tg.Mi.parP (s.drop i):=rfl
  conv at hp=>rhs;unfold Tg.Mi.parP
  rw [hp]
  clear hp
  have e1:=cwhile_k (H:=H.new ⟨[str [],str []],87,true⟩) (g:=142) (p:=Tg.Mi.white) (fun H b=>white_k) (by rw [get_new_ne hne];exact hk) (by rw [n_new];omega) hi (by omega)
  have e2:=cuntil_k (H:=(H.new ⟨[str [],str []],87,true⟩).set l (cu s (i+Tg.Mi.while_ Tg.Mi.white (s.drop i)))) (t:= [59,61]) get_set (by rw [n_set,n_new];omega) (by omega) (by omega)
  simp only [List.drop_drop]at e2 hul⊢
  generalize Tg.Mi.while_ Tg.Mi.white (s.drop i)=w0 at*
  generalize hx:s.drop (i+w0)=x at*
  generalize hu0:Tg.Mi.until_ [59,61] x=u0 at*
  have e3:=fun H:LH=>Lower_k (H:=H) (s:=x.take u0) (by rw [List.length_take];omega)
  have hnl:(x.take u0).length≤100000:=by rw [List.length_take];omega
  rw [show i+(w0+u0)=i+w0+u0 by omega]
  rw [set_set]at e2
  obtain⟨H2,hH2⟩: ∃H2,H2=(H.new ⟨[str [],str []],87,true⟩).set l (cu s (i+w0+u0)):=⟨_,rfl⟩
  have e2':=e2
  have hn2:H2.n=H.n+1:=by rw [hH2];rfl
  have g2:H2.get l=some (cu s (i+w0+u0)):=by rw [hH2,get_set]
  have g2p:H2.get H.n=some ⟨[str [],str []],87,true⟩:=by rw [hH2,get_set_ne (by omega),get_new]
  have o2: ∀k,k<H.n→k≠l→H2.get k=H.get k:=fun k hk2 hne2=>by rw [hH2,get_set_ne hne2,get_new_ne (by omega)]
  have hnml:(Tg.Lo.lower (x.take u0)).length≤100000:=by rw [lower_len];exact hnl
  generalize Tg.Lo.lower (x.take u0)=nm at*
  obtain⟨H3,hH3⟩: ∃H3,H3=H2.new ⟨[str nm,str []],87,true⟩:=⟨_,rfl⟩
  have hn3:H3.n=H.n+1+1:=by rw [hH3,n_new,hn2]
  have g3:H3.get l=some (cu s (i+w0+u0)):=by rw [hH3,get_new_ne (by omega)];exact g2
  have g3p:H3.get H.n=some ⟨[str [],str []],87,true⟩:=by rw [hH3,get_new_ne (by omega)];exact g2p
  have g3q:H3.get (H.n+1)=some ⟨[str nm,str []],87,true⟩:=by rw [hH3];exact get_new_eq hn2.symm
  have o3: ∀k,k<H.n→k≠l→H3.get k=H.get k:=fun k hk2 hne2=>by rw [hH3,get_new_ne (by omega)];exact o2 k hk2 hne2
  have e4:=cskip_k (H:=H3) (t:= [61]) g3 (by omega) (by omega) (by omega) (by decide)
  have d1:(H.n=H.n+1)=False:=eq_false (by omega)
  have d2:(H.n+1=H.n)=False:=eq_false (by omega)
  have dl1:(l=H.n)=False:=eq_false (by omega)
  have dl2:(l=H.n+1)=False:=eq_false (by omega)
  have dl3:(H.n=l)=False:=eq_false (by omega)
  have dl4:(H.n+1=l)=False:=eq_false (by omega)
  have fin: ∀(G:LH) (j j':Nat) (B:LB),G.get l=some (cu s j)→H.n+2≤G.n→(∀k,k<H.n→k≠l→G.get k=H.get k)→j'=j→OutC H l s j' (G.set H.n B):=fun G j j' B h1 h2 h3 e=>e▸⟨by rw [get_set_ne (by omega)];exact h1,by rw [n_set];omega,fun k hk hne=>by rw [get_set_ne (by omega)];exact h3 k hk hne⟩
  by_cases hy: ∃y,s.drop (i+w0+u0)=61::y
  ·obtain⟨y,hy⟩:=hy
   have hlen:(s.drop (i+w0+u0)).length=s.length-(i+w0+u0):=List.length_drop
   rw [hy]at hlen e4
   simp only [List.length_cons]at hlen
   have hpre:Lib.hasPrefix (61::y) [61]=true:=by simp [Lib.hasPrefix]
   rw [hpre,if_pos rfl]at e4
   have e4:LC Tryz.prog EJ 144 [ptr l 0,str [61]] H3=some (.bool true,H3.set l (cu s (i+w0+u0+1))):=e4
   have hyd:s.drop (i+w0+u0+1)=y:=by rw [←List.drop_drop,hy];rfl
   have e5:=cend_k (H:=H3.set l (cu s (i+w0+u0+1))) (l:=l) (i:=i+w0+u0+1) (s:=s) get_set (by omega)
   rw [hyd]at e5
   rw [hy]
   simp only
   by_cases hy0:y= []
   ·rw [if_pos hy0]
    have qy:=eq_true hy0
    simp only [qy,decide_true]at e5
    simp [e1,e2',←hH2,e3,hn2,lfill_q1,←hH3,e4,e5,g3p,g3q,d1,d2,dl1,dl2,dl3,dl4]
    exact fin _ _ _ _ get_set (by rw [n_set];omega) (fun k hk hne=>by rw [get_set_ne hne];exact o3 k hk hne) (by omega)
   ·rw [if_neg hy0]
    have qy:=eq_false hy0
    simp only [qy,decide_false]at e5
    have e6:=val_ex (H:=H3.set l (cu s (i+w0+u0+1))) (l:=l) (i:=i+w0+u0+1) (s:=s) get_set (by rw [n_set];omega) (by omega) hs
    rw [hyd]at e6
    obtain⟨H5,e6,o6⟩:=e6
    have hvl:(Tg.Mi.valP y).1.length≤1000000:=Nat.le_trans (Tg.Mi.valP_len y) (by omega)
    generalize (Tg.Mi.valP y).1=vv at*
    generalize (Tg.Mi.valP y).2.1=vb at*
    generalize (Tg.Mi.valP y).2.2=vn at*
    have g5:=o6.get
    have n5:=o6.n
    rw [n_set]at n5
    have o5: ∀k,k<H.n→k≠l→H5.get k=H.get k:=fun k hk hne=>by rw [o6.old k (by rw [n_set];omega) hne,get_set_ne hne];exact o3 k hk hne
    have g5p:H5.get H.n=some ⟨[str [],str []],87,true⟩:=by rw [o6.old _ (by rw [n_set];omega) (by omega),get_set_ne (by omega)];exact g3p
    have g5q:H5.get (H.n+1)=some ⟨[str nm,str []],87,true⟩:=by rw [o6.old _ (by rw [n_set];omega) (by omega),get_set_ne (by omega)];exact g3q
    have e7:=fun H:LH=>mtoken_k (H:=H) (s:=nm) (by omega)
    have e8:=fun H:LH=>qall_k (H:=H) (s:=vv) hvl
    have dn1:(H.n=H5.n)=False:=eq_false (by omega)
    cases vb<;>cases h9:Tg.Mi.tokenP nm
    all_goals
     rw [h9]at e7
     simp [e1,e2',←hH2,e3,hn2,lfill_q1,←hH3,e4,e5,e6,e7,e8,g5p,g5q,d1,d2,dl1,dl2,dl3,dl4,h9]
     exact fin _ _ _ _ (by rw [get_set_ne (by omega)];exact g5) (by rw [n_set];omega) (fun k hk hne=>by rw [get_set_ne (by omega)];exact o5 k hk hne) (by omega)
  ·have hpre:Lib.hasPrefix (s.drop (i+w0+u0)) [61]=false:=by
    cases hz:s.drop (i+w0+u0)with
    |nil=>rfl
    |cons b r=>
     have hb:b≠61:=fun e=>hy ⟨r,by rw [hz,e]⟩
     show((61:UInt8)==b&&List.isPrefixOf [] r)=false
     rw [beq_false_of_ne (fun e=>hb e.symm)];rfl
   rw [hpre]at e4
   simp only [Bool.false_eq_true,if_false]at e4
   split
   ·rename_i y hz;exact absurd ⟨y,hz⟩ hy
   ·simp [e1,e2',←hH2,e3,hn2,lfill_q1,←hH3,e4,g3p,g3q,d1,d2,dl1,dl2,dl3,dl4]
    exact fin _ _ _ _ g3 (by omega) o3 (by omega)
 obtain⟨⟨u,H1⟩,e,h1,h2⟩:=key
 simp only at h1 h2
 subst h1
 obtain⟨H2,e2,o2⟩:=h2.trunc hl (u:=.tuple #[pv2 (Tg.Mi.parP (s.drop i)).1,.bool (Tg.Mi.parP (s.drop i)).2.1])
 exact⟨H2,by rw [e,e2],o2⟩
end
end Go.Proofs.YtjplaockjmhnjaaGreatDoor.Mi
namespace Tg.Mi
def parsP:Nat→List UInt8→List Par→List Par
 |0,_,ps=>ps
 |n+1,x,ps=>match x with
  |59::y=>parsP n (y.drop (parP y).2.2) (if(parP y).2.1=true∧fnd (parP y).1.1 ps 0<0 then ps++ [(parP y).1]else ps)
  |_=>ps
def parseP (s0:List UInt8):Option Mim:=
 match (Tg.Hd.trim s0).drop (until_ [47] (Tg.Hd.trim s0))with
 |_::r=>if tokenP (Tg.Lo.lower ((Tg.Hd.trim s0).take (until_ [47] (Tg.Hd.trim s0))))&&tokenP (Tg.Lo.lower (back white (r.take (until_ [59] r))))then
   some ⟨Tg.Lo.lower ((Tg.Hd.trim s0).take (until_ [47] (Tg.Hd.trim s0))),Tg.Lo.lower (back white (r.take (until_ [59] r))),parsP (r.length+1) (r.drop (until_ [59] r)) []⟩else none
 | []=>none
theorem parsP_fuel: ∀(n m:Nat) (x:List UInt8) (ps:List Par),x.length<n→x.length<m→parsP n x ps=parsP m x ps
 |0,_,_,_,h,_=>by omega
 |n+1,0,_,_,_,h=>by omega
 |n+1,m+1,x,ps,h1,h2=>by
  unfold parsP
  split
  ·rename_i y
   simp only [List.length_cons]at h1 h2
   exact parsP_fuel n m _ _ (by rw [List.length_drop];omega) (by rw [List.length_drop];omega)
  ·rfl
end Tg.Mi
namespace Go.Proofs.YtjplaockjmhnjaaGreatDoor.Mi
open Go.Lg Go.Tg
section
variable {H H':LH} {N M b c l i p:Nat} {s t u name:List UInt8} {v w:Value} {ps:List Tg.Mi.Par} {a:Tg.Mi.Par}
theorem lesz_par:lesz Tryz.prog 87=some elP.n:=by kernel_rfl
def ParseR (N:Nat) (o:Option Tg.Mi.Mim) (H:LH) (r:Value):Prop:=match o with
 |some m=> ∃v,r=.tuple #[mv m.t m.s v,.int .i64 0]∧RowG elP 87 N H v m.ps
 |none=>r=.tuple #[mv [] [] (.slice none 0 0),.int .i64 2]
theorem flat_mvt {x:Value} (h:flatB (.tuple #[mv t u v,x])=true) (hc:cellB v=true):flatB v=true:=by
 simp only [flatB,List.all_cons,Bool.and_eq_true,flat1B,List.all_nil,Bool.and_true]at h
 have h1:=h.1.2.2
 cases v<;>first|exact h1|(simp [cellB]at hc)
theorem ParseR.flat {o:Option Tg.Mi.Mim} (h:ParseR N o H' v) (hf:flatB v=true):ParseR N o H v:=by
 cases o with
 |none=>exact h
 |some m=>
  obtain⟨w,rfl,h⟩:=h
  exact⟨w,rfl,h.flat (flat_mvt hf h.cell)⟩
theorem bs1p {a:Tg.Mi.Par} :lbuildSlice Tryz.prog 39 1 [(0,pv2 a)] H=some (sl H.n 1 1,H.new ⟨[str a.1,str a.2],87,true⟩):=by
 unfold lbuildSlice
 simp [Instr.fill,Value.cells,Array.range]
 rfl
theorem mparse_ex (hN:N≤H.n) (hs:s.length≤100000):Gives Tryz.prog EJ 218 [str s] H (ParseR N (Tg.Mi.parseP s)):=by
 refine gives_of ?_ (fun v H' hf h=>h.flat hf)
 refine LC_runs (P:=Tryz.prog) (E:=EJ) (f:=218) rfl Tryz.func218 rfl (Nat.le_of_ble_eq_true rfl) (by decide) (by kernel_rfl) ?_
 unfold Tg.Mi.parseP
 have e0:=fun H:LH=>Trim_cl (H:=H) (s:=s) (by omega)
 have hxl:(Tg.Hd.trim s).length≤100000:=Nat.le_trans (trimH_len s) hs
 generalize Tg.Hd.trim s=x at*
 have hk:=Tg.Mi.until_le [47] x
 have hstop:=fun b r=>Tg.Mi.until_stopG (t:= [47]) (x:=x) (b:=b) (r:=r)
 obtain⟨B0,hB0⟩: ∃B0:LB,B0=⟨[str [],str [],.slice none 0 0],41,true⟩:=⟨_,rfl⟩
 have e1:=cnew_k (H:=H.new ⟨[str [],str [],.slice none 0 0],41,true⟩) (s:=x)
 rw [n_new]at e1
 have e2:=cuntil_k (H:=(H.new ⟨[str [],str [],.slice none 0 0],41,true⟩).new (cu x 0)) (l:=H.n+1) (i:=0) (s:=x) (t:= [47]) (by exact get_new) (by rw [n_new,n_new];omega) (Nat.zero_le _) (by omega)
 rw [List.drop_zero,Nat.zero_add,new_set_eq (n_new).symm]at e2
 generalize hk0:Tg.Mi.until_ [47] x=k at*
 have htl:(x.take k).length≤100000:=by rw [List.length_take];omega
 have e3:=fun H:LH=>Lower_k (H:=H) (s:=x.take k) (by omega)
 have htl2:(Tg.Lo.lower (x.take k)).length≤100000:=by rw [lower_len];exact htl
 generalize Tg.Lo.lower (x.take k)=ty at*
 obtain⟨G2,hG2⟩: ∃G2,G2=((H.new ⟨[str [],str [],.slice none 0 0],41,true⟩).new (cu x k)).new ⟨[str ty,str [],.slice none 0 0],41,true⟩:=⟨_,rfl⟩
 have n2:G2.n=H.n+1+1+1:=by rw [hG2];rfl
 have a2:G2.get H.n=some B0:=by rw [hG2,get_new_ne (by simp;omega),get_new_ne (by simp),get_new,hB0]
 have b2:G2.get (H.n+1)=some (cu x k):=by rw [hG2,get_new_ne (by simp)];exact get_new
 have c2:G2.get (H.n+1+1)=some ⟨[str ty,str [],.slice none 0 0],41,true⟩:=by rw [hG2];exact get_new
 have le2:H.le G2:=by rw [hG2];exact le_refl.new.new.new
 have e4:=cskip_k (H:=G2) (t:= [47]) b2 (by omega) hk (by omega) (by decide)
 have d1:(H.n=H.n+1)=False:=eq_false (by omega)
 have d2:(H.n=H.n+1+1)=False:=eq_false (by omega)
 have d3:(H.n+1=H.n+1+1)=False:=eq_false (by omega)
 have d4:(H.n+1+1=H.n+1)=False:=eq_false (by omega)
 have d5:(H.n+1+1=H.n)=False:=eq_false (by omega)
 have d6:(H.n+1=H.n)=False:=eq_false (by omega)
 cases hx:x.drop k with
 |nil=>
  rw [hx]at e4
  have e4:LC Tryz.prog EJ 144 [ptr (H.n+1) 0,str [47]] G2=some (.bool false,G2):=e4
  have e5:=cuntil_k (t:= [59]) b2 (by omega) hk (by omega)
  rw [hx]at e5
  have e5:LC Tryz.prog EJ 146 [ptr (H.n+1) 0,str [59]] G2=some (str [],G2.set (H.n+1) (cu x k)):=e5
  have e6:=fun H:LH=>mback_k (H:=H) (s:= []) (by decide)
  have e6: ∀H:LH,LC Tryz.prog EJ 252 [str []] H=some (str [],H):=e6
  have e7: ∀H:LH,LC Tryz.prog EJ 251 [str []] H=some (str [],H):=fun H=>Lower_k (H:=H) (s:= []) (by decide)
  simp [e0,e1,e2,e3,←hG2,n2,e4,e5,e6,e7,a2,c2,hB0,d1,d2,d3,d4,d5,d6,ParseR,le2]
  exact(le2.set (by omega)).set (by omega)
 |cons b r=>
  have hb:b=47:=by
   have h1:=hstop b r hx
   by_cases h2:b=47
   ·exact h2
   ·have h3:=eq_false (show¬(47:UInt8)=b from fun e=>h2 e.symm)
    exact absurd (by simp [Lib.indexByte,h3]) h1
  subst hb
  have hlen:(x.drop k).length=x.length-k:=List.length_drop
  rw [hx]at e4 hlen
  simp only [List.length_cons]at hlen
  have hpre:Lib.hasPrefix (47::r) [47]=true:=by simp [Lib.hasPrefix]
  rw [hpre,if_pos rfl]at e4
  have e4:LC Tryz.prog EJ 144 [ptr (H.n+1) 0,str [47]] G2=some (.bool true,G2.set (H.n+1) (cu x (k+1))):=e4
  have hr:x.drop (k+1)=r:=by rw [←List.drop_drop,hx];rfl
  have e5:=cuntil_k (H:=G2.set (H.n+1) (cu x (k+1))) (t:= [59]) get_set (by rw [n_set];omega) (by omega) (by omega)
  rw [hr,set_set]at e5
  have hu:=Tg.Mi.until_le [59] r
  simp only
  generalize hu0:Tg.Mi.until_ [59] r=u0 at*
  have hul:(r.take u0).length≤100000:=by rw [List.length_take];omega
  have e6:=fun H:LH=>mback_k (H:=H) (s:=r.take u0) (by omega)
  have hbl:=Tg.Mi.back_le Tg.Mi.white (r.take u0)
  generalize Tg.Mi.back Tg.Mi.white (r.take u0)=bk at*
  have e7:=fun H:LH=>Lower_k (H:=H) (s:=bk) (by omega)
  have hsl:(Tg.Lo.lower bk).length≤100000:=by rw [lower_len];omega
  generalize Tg.Lo.lower bk=sb at*
  have e8:=fun H:LH=>mtoken_k (H:=H) (s:=ty) (by omega)
  have e9:=fun H:LH=>mtoken_k (H:=H) (s:=sb) (by omega)
  obtain⟨G3,hG3⟩: ∃G3,G3=(G2.set (H.n+1) (cu x (k+1+u0))).set (H.n+1+1) ⟨[str ty,str sb,.slice none 0 0],41,true⟩:=⟨_,rfl⟩
  have n3:G3.n=H.n+1+1+1:=by rw [hG3,n_set,n_set,n2]
  have a3:G3.get H.n=some B0:=by rw [hG3,get_set_ne (by omega),get_set_ne (by omega)];exact a2
  have b3:G3.get (H.n+1)=some (cu x (k+1+u0)):=by rw [hG3,get_set_ne (by omega)];exact get_set
  have c3:G3.get (H.n+1+1)=some ⟨[str ty,str sb,.slice none 0 0],41,true⟩:=by rw [hG3];exact get_set
  have le3:H.le G3:=by rw [hG3];exact(le2.set (by omega)).set (by omega)
  by_cases htk:Tg.Mi.tokenP ty=true∧Tg.Mi.tokenP sb=true
  ·obtain⟨t1,t2⟩:=htk
   rw [t1]at e8
   rw [t2]at e9
   rw [t1,t2]
   simp only [Bool.and_self,if_true]
   obtain⟨T,hT⟩: ∃T,T=Tg.Mi.parsP (r.length+1) (r.drop u0) []:=⟨_,rfl⟩
   rw [←hT]
   simp [e0,e1,e2,e3,←hG2,n2,e4,e5,e6,e7,e8,e9,a2,c2,d1,d2,d3,d4,d5,d6,←hG3,c3]
   refine loop_ind (fun(j:Nat) fr' H'=> ∃v ps,fr' 2=ptr H.n 0∧fr' 4=ptr (H.n+1) 0∧fr' 5=ptr (H.n+1+1) 0∧j≤x.length∧ps.length≤j∧OwnG elP 87 N H.n H' v ps∧H'.get H.n=some B0∧H'.get (H.n+1)=some (cu x j)∧H'.get (H.n+1+1)=some ⟨[str ty,str sb,v],41,true⟩∧H.n+3≤H'.n∧(∀k,k<H.n→H'.get k=H.get k)∧T=Tg.Mi.parsP (x.length-j+1) (x.drop j) ps) (fun j=>x.length-j) (k+1+u0) ⟨.slice none 0 0,[],by simp,by simp,by simp,by omega,by simp,OwnG.nil,a3,b3,c3,by omega,le3.2,?_⟩ ?_
   ·rw [hT,←List.drop_drop,hr]
    exact Tg.Mi.parsP_fuel _ _ _ _ (by rw [List.length_drop];omega) (by rw [List.length_drop];omega)
   rintro j fr' H2 ⟨v,ps,f2,f4,f5,hj,hpl,how,ga,gb,gc,hn,hold,hq⟩ ih
   have hcv:=how.cell
   have q4:=cskip_k (t:= [59]) gb (by omega) hj (by omega) (by decide)
   have hjl:(x.drop j).length=x.length-j:=List.length_drop
   by_cases hy: ∃y,x.drop j=59::y
   ·obtain⟨y,hy⟩:=hy
    rw [hy]at q4 hjl hq
    simp only [List.length_cons]at hjl
    have hpre:Lib.hasPrefix (59::y) [59]=true:=by simp [Lib.hasPrefix]
    rw [hpre,if_pos rfl]at q4
    have q4:LC Tryz.prog EJ 144 [ptr (H.n+1) 0,str [59]] H2=some (.bool true,H2.set (H.n+1) (cu x (j+1))):=q4
    have hyd:x.drop (j+1)=y:=by rw [←List.drop_drop,hy];rfl
    unfold Tg.Mi.parsP at hq
    simp only at hq
    obtain⟨H5,q5,o5⟩:=param_ex (H:=H2.set (H.n+1) (cu x (j+1))) (l:=H.n+1) (i:=j+1) (s:=x) get_set (by rw [n_set];omega) (by omega) hxl
    rw [hyd]at q5 o5
    have hnl:=Tg.Mi.parP_le y
    have hdd:y.drop (Tg.Mi.parP y).2.2=x.drop (j+1+(Tg.Mi.parP y).2.2):=by rw [←hyd,List.drop_drop]
    rw [hdd]at hq
    generalize (Tg.Mi.parP y).1=p at*
    generalize (Tg.Mi.parP y).2.1=ok at*
    generalize (Tg.Mi.parP y).2.2=pn at*
    have gb5:=o5.get
    have n5:=o5.n
    rw [n_set]at n5
    have k5: ∀k,k<H2.n→k≠H.n+1→H5.get k=H2.get k:=fun k hk hne=>by rw [o5.old k (by rw [n_set];exact hk) hne,get_set_ne hne]
    have how5:OwnG elP 87 N H.n H5 v ps:=how.keep1 n5 gb (by show 125≠87;decide) (fun h=>h) (by omega) k5
    have ga5:H5.get H.n=some B0:=by rw [k5 _ (by omega) (by omega)];exact ga
    have gc5:H5.get (H.n+1+1)=some ⟨[str ty,str sb,v],41,true⟩:=by rw [k5 _ (by omega) (by omega)];exact gc
    have hold5: ∀k,k<H.n→H5.get k=H.get k:=fun k hk=>by rw [k5 k (by omega) (by omega)];exact hold k hk
    obtain⟨H6,hH6⟩: ∃H6,H6=H5.new ⟨[str p.1,str p.2],87,true⟩:=⟨_,rfl⟩
    have n6:H6.n=H5.n+1:=by rw [hH6];rfl
    have le6:H5.le H6:=by rw [hH6];exact le_refl.new
    have g6:H6.get H5.n=some ⟨[str p.1,str p.2],87,true⟩:=by rw [hH6];exact get_new
    have how6:=how5.le le6
    have ga6:=(le6.2 H.n (by omega)).trans ga5
    have gb6:=(le6.2 (H.n+1) (by omega)).trans gb5
    have gc6:=(le6.2 (H.n+1+1) (by omega)).trans gc5
    have q7:=mfind_k (H:=H6) (t:=ty) (u:=sb) (name:=p.1) how6.row (by omega)
    have m1:(H.n+1+1=H5.n)=False:=eq_false (by omega)
    have m2:(H5.n=H.n+1+1)=False:=eq_false (by omega)
    have hrn:x.length-(j+1+pn)+1≤x.length-j:=by omega
    have fu: ∀ps,Tg.Mi.parsP (x.length-j) (x.drop (j+1+pn)) ps=Tg.Mi.parsP (x.length-(j+1+pn)+1) (x.drop (j+1+pn)) ps:=fun ps=>Tg.Mi.parsP_fuel _ _ _ _ (by rw [List.length_drop];omega) (by rw [List.length_drop];omega)
    rw [fu]at hq
    by_cases hc:ok=true∧Tg.Mi.fnd p.1 ps 0<0
    ·rw [if_pos hc]at hq
     obtain⟨rfl,hf⟩:=hc
     have hf:=eq_true hf
     obtain⟨v7,H7,a7,r7,n7,k7,o7,kp7⟩:=how6.app (t:=39) (cs:= [str p.1,str p.2]) (a:=p) Tryz.underlying39 lesz_par hN (by omega) (by unfold maxElems;omega) rfl (fun h=>h)
     have oa:offRow v H.n:=how6.off_elem ga6 (by rw [hB0];show 41≠87;decide)
     have ob:offRow v (H.n+1):=how6.off_elem gb6 (by show 125≠87;decide)
     have oc:offRow v (H.n+1+1):=how6.off_elem gc6 (by show 41≠87;decide)
     have ga7:=(k7 _ (by omega) oa).trans ga6
     have gb7:=(k7 _ (by omega) ob).trans gb6
     have gc7:=(k7 _ (by omega) oc).trans gc6
     have cv7:=r7.cell
     have hfin:=fun fr2 (g2:fr2 2=ptr H.n 0) (g4:fr2 4=ptr (H.n+1) 0) (g5:fr2 5=ptr (H.n+1+1) 0)=>ih (j+1+pn) fr2 (H7.set (H.n+1+1) ⟨[str ty,str sb,v7],41,true⟩) (by omega) ⟨v7,ps++ [p],g2,g4,g5,by omega,by rw [List.length_append,List.length_singleton];omega,
      r7.keep1 (Nat.le_refl _) gc7 (by show 41≠87;decide) (fun h=>h) (by omega) (fun k _ hne=>get_set_ne hne),by rw [get_set_ne (by omega)];exact ga7,by rw [get_set_ne (by omega)];exact gb7,get_set,by rw [n_set];omega,fun k hk=>by rw [get_set_ne (by omega),k7 k (by omega) (how6.off_lt hk),le6.2 k (by omega)];exact hold5 k hk,hq⟩
     clear ih hq
     simp [f2,f4,f5,q4,q5,←hH6,q7,hf,gc6,g6,bs1p,a7,gc7,m1,m2,hcv,cv7]
     refine hfin _ ?_ ?_ ?_
     all_goals simp [f2,f4,f5]
    ·rw [if_neg hc]at hq
     have hfin:=fun fr2 (g2:fr2 2=ptr H.n 0) (g4:fr2 4=ptr (H.n+1) 0) (g5:fr2 5=ptr (H.n+1+1) 0)=>ih (j+1+pn) fr2 H6 (by omega) ⟨v,ps,g2,g4,g5,by omega,by omega,how6,ga6,gb6,gc6,by omega,fun k hk=>by rw [le6.2 k (by omega)];exact hold5 k hk,hq⟩
     clear ih hq
     cases ok with
     |false=>
      simp [f2,f4,f5,q4,q5,←hH6]
      refine hfin _ ?_ ?_ ?_
      all_goals simp [f2,f4,f5]
     |true=>
      have hf:=eq_false (fun h=>hc ⟨rfl,h⟩)
      simp [f2,f4,f5,q4,q5,←hH6,q7,hf,gc6,g6,m1,m2,hcv]
      refine hfin _ ?_ ?_ ?_
      all_goals simp [f2,f4,f5]
   ·have hpre:Lib.hasPrefix (x.drop j) [59]=false:=by
     cases hz:x.drop j with
     |nil=>rfl
     |cons b r=>
      have hb:b≠59:=fun e=>hy ⟨r,by rw [hz,e]⟩
      show((59:UInt8)==b&&List.isPrefixOf [] r)=false
      rw [beq_false_of_ne (fun e=>hb e.symm)];rfl
    rw [hpre]at q4
    simp only [Bool.false_eq_true,if_false]at q4
    have hT2:T=ps:=by
     rw [hq]
     unfold Tg.Mi.parsP
     split
     ·rename_i y hz;exact absurd ⟨y,hz⟩ hy
     ·rfl
    clear ih hq
    simp [f2,f4,f5,q4,ga,gc,hB0,hcv]
    rw [hT2]
    exact⟨⟨by show H.n≤H2.n;omega,hold⟩,v,rfl,(how.keep1 (H':=H2.set H.n _) (Nat.le_refl _) ga (by rw [hB0];show 41≠87;decide) (fun h=>h) hN (fun k _ hne=>get_set_ne hne)).row⟩
  ·have hno:(Tg.Mi.tokenP ty&&Tg.Mi.tokenP sb)=false:=by
    cases h1:Tg.Mi.tokenP ty<;>cases h2:Tg.Mi.tokenP sb<;>simp_all
   rw [hno]
   simp only [Bool.false_eq_true,if_false]
   cases h1:Tg.Mi.tokenP ty with
   |false=>
    rw [h1]at e8
    simp [e0,e1,e2,e3,←hG2,n2,e4,e5,e6,e7,e8,a2,c2,d1,d2,d3,d4,d5,d6,←hG3,a3,c3,hB0,ParseR,le3]
   |true=>
    have h2:Tg.Mi.tokenP sb=false:=by rw [h1]at hno;simpa using hno
    rw [h1]at e8
    rw [h2]at e9
    simp [e0,e1,e2,e3,←hG2,n2,e4,e5,e6,e7,e8,e9,a2,c2,d1,d2,d3,d4,d5,d6,←hG3,a3,c3,hB0,ParseR,le3]
end
end Go.Proofs.YtjplaockjmhnjaaGreatDoor.Mi
namespace Tg.Mi
def essP (t s:List UInt8):List UInt8:=t++([47]++s)
def plainP (s:List UInt8):Bool:=tokenP s&&decide (Tg.Lo.lower s=s)
def goodL (all:List Par):List Par→Nat→Bool
 | [],_=>true
 |p::r,i=>plainP p.1&&(p.2.all quo&&(decide (fnd p.1 all 0=(i:Int))&&goodL all r (i+1)))
def goodM (m:Mim):Bool:=goodL m.ps m.ps 0&&(plainP m.t&&plainP m.s)
def parmP (ps:List Par) (name:List UInt8):List UInt8×Bool:=if fnd name ps 0<0 then([],false)else((ps.getD (fnd name ps 0).toNat ([],[])).2,true)
def charset:List UInt8:= [99,104,97,114,115,101,116]
def withP (m:Mim) (name value:List UInt8):Mim:=⟨m.t,m.s,m.ps++ [(name,value)]⟩
end Tg.Mi
namespace Go.Proofs.YtjplaockjmhnjaaGreatDoor.Mi
open Go.Lg Go.Tg
def elM:El Tg.Mi.Mim:=⟨3,fun t=>t=87,fun N H cs m=> ∃v,cs= [str m.t,str m.s,v]∧RowG elP 87 N H v m.ps,
 fun h=>by obtain⟨v,rfl,_⟩:=h;rfl,fun h=>by obtain⟨v,rfl,h⟩:=h;simp [h.cell],fun hk h=>by obtain⟨v,e,h⟩:=h;exact⟨v,e,h.keep (hk.weak fun t ht=>ht.elim id False.elim)⟩,fun h=>by obtain⟨v,e,h⟩:=h;exact⟨v,e,h.ro⟩⟩
section
variable {H H':LH} {N M b c l i p:Nat} {s t u name value:List UInt8} {v w:Value} {ps:List Tg.Mi.Par} {a:Tg.Mi.Par}
theorem cat_s {x y:List UInt8} (h:x.length+y.length≤9000000):lbin Tryz.prog .add 9 (str x) (str y)=some (str (x++y)):=lbin_cat (by omega)
theorem ess_k (ht:t.length≤1000000) (hu:u.length≤1000000) (hc:cellB v=true):LC Tryz.prog EJ 122 [mv t u v] H=some (str (Tg.Mi.essP t u),H):=by
 have h1: ∀H:LH,LC Tryz.prog EJ 166 [mv t u v] H=some (str (Tg.Mi.essP t u),H):=fun H=>by
  refine LC_pure rfl Tryz.func166 rfl (Nat.le_of_ble_eq_true rfl) (by decide) (by kernel_rfl) rfl ?_
  have c1:=cat_s (x:=t) (y:= [47]) (by simp;omega)
  have c2:=cat_s (x:=t++ [47]) (y:=u) (by simp;omega)
  rw [List.append_assoc]at c2
  unfold Tg.Mi.essP
  simp [hc,c1,c2,le_refl.new]
 refine LC_pure rfl Tryz.func122 rfl (Nat.le_of_ble_eq_true rfl) (by decide) (by kernel_rfl) rfl ?_
 simp [hc,h1,le_refl.new]
theorem getD_at {j:Nat} (h:j<ps.length):ps.getD j ([],[])=ps[j]:=by rw [List.getD_eq_getElem?_getD,List.getElem?_eq_getElem h];rfl
theorem mparam_k (hr:RowG elP 87 N H v ps) (hl:ps.length≤1000000):LC Tryz.prog EJ 219 [mv t u v,str name] H=some (.tuple #[str (Tg.Mi.parmP ps name).1,.bool (Tg.Mi.parmP ps name).2],H):=by
 refine LC_pure rfl Tryz.func219 rfl (Nat.le_of_ble_eq_true rfl) (by decide) (by kernel_rfl) rfl ?_
 have hcv:=hr.cell
 have hr1:=hr.le (H':=H.new ⟨[str t,str u,v],41,true⟩) le_refl.new
 have h1:=mfind_k (t:=t) (u:=u) (name:=name) hr1 hl
 unfold Tg.Mi.parmP
 rcases Tg.Mi.fnd_ge name ps 0 with hf|⟨j,hf,hj,_⟩
 ·rw [hf]at h1
  rw [hf,if_pos (by decide)]
  simp [hcv,h1,le_refl.new]
 ·rw [Nat.zero_add]at hf
  rw [hf]at h1
  rw [hf,if_neg (by omega),Int.toNat_natCast,getD_at hj]
  obtain⟨k,o,g1,g2,g3⟩:=par_at hr1 hj
  obtain⟨g4,g5,g6⟩:=g3 _ rfl
  have q:=eq_false (show¬(j:Int)<0 by omega)
  simp [hcv,h1,q,g1,g6,le_refl.new]
theorem mplain_k (hs:s.length≤1000000):LC Tryz.prog EJ 286 [str s] H=some (.bool (Tg.Mi.plainP s),H):=by
 refine LC_pure rfl Tryz.func286 rfl (Nat.le_of_ble_eq_true rfl) (by decide) (by kernel_rfl) rfl ?_
 have h1:=fun H:LH=>mtoken_k (H:=H) hs
 have h2:=fun H:LH=>Lower_k (H:=H) hs
 unfold Tg.Mi.plainP
 cases hq:Tg.Mi.tokenP s with
 |false=>rw [hq]at h1;simp [h1]
 |true=>rw [hq]at h1;simp [h1,h2]
theorem mgood_k (hr:RowG elP 87 N H v ps) (hl:ps.length≤100000) (hs: ∀p∈ps,p.1.length≤1000000∧p.2.length≤1000000) (ht:t.length≤1000000) (hu:u.length≤1000000):LC Tryz.prog EJ 257 [mv t u v] H=some (.bool (Tg.Mi.goodM ⟨t,u,ps⟩),H):=by
 refine LC_pure rfl Tryz.func257 rfl (Nat.le_of_ble_eq_true rfl) (by decide) (by kernel_rfl) rfl ?_
 have hcv:=hr.cell
 have hlen:=fun H':LH=>hr.len (P:=Tryz.prog) (t:=39) (H':=H') Tryz.underlying39
 have h1:=fun H:LH=>mplain_k (H:=H) ht
 have h2:=fun H:LH=>mplain_k (H:=H) hu
 obtain⟨x,hx⟩: ∃x,x=Tg.Mi.goodM ⟨t,u,ps⟩:=⟨_,rfl⟩
 rw [←hx]
 unfold Tg.Mi.goodM at hx
 simp only at hx
 simp [hcv,hlen]
 refine loop_ind (fun(i:Nat) fr' H'=>fr' 1=ptr H.n 0∧fr' 6=v∧fr' 7=.int .i64 ps.length∧fr' 8=.int .i64 i∧i≤ps.length∧H.le H'∧H.n<H'.n∧H'.get H.n=some ⟨[str t,str u,v],41,true⟩∧x=(Tg.Mi.goodL ps (ps.drop i) i&&(Tg.Mi.plainP t&&Tg.Mi.plainP u))) (fun i=>ps.length-i) 0 ⟨by simp,by simp,by simp,by simp,Nat.zero_le _,le_refl.new,by simp,get_new,hx⟩ ?_
 rintro i fr' H2 ⟨f1,f6,f7,f8,hi,hle,hn,hg,hq⟩ ih
 have hr2:=hr.le hle
 by_cases hlt:i<ps.length
 ·have q:=eq_true (show(i:Int)<(ps.length:Int) by omega)
  have hw:IntKind.i64.wrap ((i:Int)+1)=((i+1:Nat):Int):=by rw [wrapI (by omega) (by omega)];omega
  obtain⟨k,o,g1,g2,g3⟩:=par_at hr2 hlt
  obtain⟨g4,_,_⟩:=g3 H2 rfl
  have hm:=hs ps[i] (List.getElem_mem hlt)
  rw [List.drop_eq_getElem_cons hlt]at hq
  obtain⟨H3,hH3⟩: ∃H3,H3=H2.new ⟨[str ps[i].1,str ps[i].2],87,true⟩:=⟨_,rfl⟩
  have le3:H2.le H3:=by rw [hH3];exact le_refl.new
  have p1:=fun H:LH=>mplain_k (H:=H) hm.1
  have p2:=fun H:LH=>qall_k (H:=H) hm.2
  have p3:=mfind_k (H:=H3) (t:=t) (u:=u) (name:=ps[i].1) (hr2.le le3) (by omega)
  have g6:H3.get H2.n=some ⟨[str ps[i].1,str ps[i].2],87,true⟩:=by rw [hH3];exact get_new
  have g7:=(le3.2 H.n hn).trans hg
  generalize ps[i]=a at*
  unfold Tg.Mi.goodL at hq
  have dn:(H.n=H2.n)=False:=eq_false (by omega)
  have n3:H3.n=H2.n+1:=by rw [hH3];rfl
  cases c1:Tg.Mi.plainP a.1 with
  |false=>
   rw [c1]at p1 hq
   simp only [Bool.false_and]at hq
   clear ih
   simp [f1,f6,f7,f8,q,hlt,g1,g4,←hH3,p1,g6,g7,dn,hq]
   exact hle.trans le3
  |true=>
   rw [c1]at p1 hq
   cases c2:a.2.all Tg.Mi.quo with
   |false=>
    rw [c2]at p2 hq
    simp only [Bool.false_and,Bool.and_false]at hq
    clear ih
    simp [f1,f6,f7,f8,q,hlt,g1,g4,←hH3,p1,p2,g6,g7,dn,hq]
    exact hle.trans le3
   |true=>
    rw [c2]at p2 hq
    by_cases c3:Tg.Mi.fnd a.1 ps 0=(i:Int)
    ·rw [decide_eq_true c3]at hq
     simp only [Bool.true_and]at hq
     have c3:=eq_true c3
     have hfin:=fun fr2 (g1:fr2 1=ptr H.n 0) (g6:fr2 6=v) (g7':fr2 7=.int .i64 ps.length) (g8:fr2 8=.int .i64 ((i+1:Nat):Int))=>ih (i+1) fr2 H3 (by omega) ⟨g1,g6,g7',g8,by omega,hle.trans le3,by omega,g7,hq⟩
     clear ih hq
     simp [f1,f6,f7,f8,q,hlt,g1,g4,←hH3,p1,p2,p3,g6,g7,dn,c3,hcv]
     refine hfin _ ?_ ?_ ?_ ?_
     all_goals simp [f1,f6,f7,hw]
    ·rw [decide_eq_false c3]at hq
     simp only [Bool.false_and,Bool.and_false]at hq
     have c3:=eq_false c3
     clear ih
     simp [f1,f6,f7,f8,q,hlt,g1,g4,←hH3,p1,p2,p3,g6,g7,dn,c3,hcv,hq]
     exact hle.trans le3
 ·have q:=eq_false (show¬(i:Int)<(ps.length:Int) by omega)
  rw [List.drop_of_length_le (by omega)]at hq
  simp only [Tg.Mi.goodL,Bool.true_and]at hq
  clear ih
  cases c1:Tg.Mi.plainP t with
  |false=>
   rw [c1]at h1 hq
   simp only [Bool.false_and]at hq
   simp [f1,f6,f7,f8,q,hlt,hg,h1,hq]
   exact hle
  |true=>
   rw [c1]at h1 hq
   simp only [Bool.true_and]at hq
   simp [f1,f6,f7,f8,q,hlt,hg,h1,h2,hq]
   exact hle
end
end Go.Proofs.YtjplaockjmhnjaaGreatDoor.Mi
namespace Tg.Mi
def stepP (t s set:List UInt8) (next:Mim):Mim×List UInt8:=
 if essP t s≠essP next.t next.s then(next,(parmP next.ps charset).1)
 else if(parmP next.ps charset).2=false∧set≠ []∧goodM (withP next charset set)=true then(withP next charset set,set)else(next,set)
end Tg.Mi
namespace Go.Proofs.YtjplaockjmhnjaaGreatDoor.Mi
open Go.Lg Go.Tg
section
variable {H H':LH} {N M b c l i p:Nat} {s t u name value set:List UInt8} {v w:Value} {ps:List Tg.Mi.Par} {a:Tg.Mi.Par} {m:Tg.Mi.Mim}
theorem bs0p:lbuildSlice Tryz.prog 39 0 [] H=some (sl H.n 0 0,H.new ⟨[],87,true⟩):=by
 unfold lbuildSlice
 simp [Instr.fill,Array.range,Value.cells]
 try rfl
theorem clone_ex (hr:RowG elP 87 N H v ps) (hl:ps.length≤1000000):Gives Tryz.prog EJ 256 [v] H fun H' r=>OwnG elP 87 N H.n H' r ps:=by
 refine gives_of ?_ (fun v H' hf h=>h.flat hf)
 refine LC_runs (P:=Tryz.prog) (E:=EJ) (f:=256) rfl Tryz.func256 rfl (Nat.le_of_ble_eq_true rfl) (by decide) (by kernel_rfl) ?_
 obtain⟨v',H2,a1,a2,a3⟩:=OwnG.copy (M:=H.n) (P:=Tryz.prog) (t:=39) hr Tryz.underlying39 lesz_par (by unfold maxElems;omega) (Nat.le_refl _)
 rcases hr with⟨rfl,rfl⟩|⟨k,o,c,b,rfl,h2⟩
 ·simp
  exact OwnG.nil
 ·simp [bs0p,a1]
  exact⟨a3,a2⟩
theorem own_ex (hr:RowG elP 87 N H v ps) (hl:ps.length≤1000000) (hN:N≤H.n):Gives Tryz.prog EJ 220 [mv t u v] H fun H' r=> ∃v',r=mv t u v'∧RowG elP 87 N H' v' ps:=by
 refine gives_of ?_ (fun v H' hf h=>by
  obtain⟨w,rfl,h⟩:=h
  refine⟨w,rfl,h.flat ?_⟩
  have hc:=h.cell
  simp only [flatB,flat1B,List.all_cons,Bool.and_eq_true]at hf
  have h1:=hf.2.2.1
  cases w<;>first|exact h1|(simp [cellB]at hc))
 refine LC_runs (P:=Tryz.prog) (E:=EJ) (f:=220) rfl Tryz.func220 rfl (Nat.le_of_ble_eq_true rfl) (by decide) (by kernel_rfl) ?_
 have hcv:=hr.cell
 obtain⟨H1,hH1⟩: ∃H1,H1=(H.new ⟨[str t,str u,v],41,true⟩).new ⟨[str [],str [],.slice none 0 0],41,true⟩:=⟨_,rfl⟩
 have le1:H.le H1:=by rw [hH1];exact le_refl.new.new
 have n1:H1.n=H.n+1+1:=by rw [hH1];rfl
 have a1:H1.get H.n=some ⟨[str t,str u,v],41,true⟩:=by rw [hH1,get_new_ne (by simp),get_new]
 have b1:H1.get (H.n+1)=some ⟨[str [],str [],.slice none 0 0],41,true⟩:=by rw [hH1];exact get_new
 obtain⟨v2,H2,e2,le2,r2⟩:=clone_ex (hr.le le1) hl
 have cv2:=r2.cell
 have a2:=(le2.2 H.n (by omega)).trans a1
 have b2:=(le2.2 (H.n+1) (by omega)).trans b1
 have d1:(H.n=H.n+1)=False:=eq_false (by omega)
 have d2:(H.n+1=H.n)=False:=eq_false (by omega)
 have n2:=le2.1
 simp [hcv,←hH1,e2,a1,a2,b2,cv2,d1,d2]
 have le3:=le1.trans le2
 refine⟨le3,?_⟩
 have k2:=r2.keep1 (H':=H2.set H.n ⟨[str t,str u,v2],41,true⟩) (Nat.le_refl _) a2 (by show 41≠87;decide) (fun h=>h) hN (fun k _ hne=>get_set_ne hne)
 have k3:=k2.keep1 (c:=H.n+1) (H':=(H2.set H.n ⟨[str t,str u,v2],41,true⟩).set (H.n+1) ⟨[str t,str u,v2],41,true⟩) (Nat.le_refl _) (by rw [get_set_ne (by omega)];exact b2) (by show 41≠87;decide) (fun h=>h) (by omega) (fun k _ hne=>get_set_ne hne)
 exact k3.row
theorem with_ex (hr:RowG elP 87 N H v ps) (hl:ps.length≤10000) (hN:N≤H.n) (hs: ∀p∈ps,p.1.length≤1000000∧p.2.length≤1000000) (ht:t.length≤1000000) (hu:u.length≤1000000) (hnm:name.length≤1000000) (hvl:value.length≤1000000):
  Gives Tryz.prog EJ 221 [mv t u v,str name,str value] H fun H' r=>if Tg.Mi.goodM (Tg.Mi.withP ⟨t,u,ps⟩ name value)=true then∃v',r=.tuple #[mv t u v',.int .i64 0]∧RowG elP 87 N H' v' (ps++ [(name,value)])else∃e:Int,e≠0∧r=.tuple #[mv [] [] (.slice none 0 0),.int .i64 e]:=by
 refine gives_of ?_ (fun v H' hf h=>by
  split at h
  ·obtain⟨w,rfl,h⟩:=h
   rw [if_pos (by assumption)]
   exact⟨w,rfl,h.flat (flat_mvt hf h.cell)⟩
  ·rw [if_neg (by assumption)];exact h)
 refine LC_runs (P:=Tryz.prog) (E:=EJ) (f:=221) rfl Tryz.func221 rfl (Nat.le_of_ble_eq_true rfl) (by decide) (by kernel_rfl) ?_
 have hcv:=hr.cell
 obtain⟨H1,hH1⟩: ∃H1,H1=(H.new ⟨[str t,str u,v],41,true⟩).new ⟨[str [],str [],.slice none 0 0],41,true⟩:=⟨_,rfl⟩
 have le1:H.le H1:=by rw [hH1];exact le_refl.new.new
 have n1:H1.n=H.n+1+1:=by rw [hH1];rfl
 have a1:H1.get H.n=some ⟨[str t,str u,v],41,true⟩:=by rw [hH1,get_new_ne (by simp),get_new]
 have b1:H1.get (H.n+1)=some ⟨[str [],str [],.slice none 0 0],41,true⟩:=by rw [hH1];exact get_new
 obtain⟨v2,H2,e2,le2,r2⟩:=clone_ex (hr.le le1) (by omega)
 have a2:=(le2.2 H.n (by omega)).trans a1
 have b2:=(le2.2 (H.n+1) (by omega)).trans b1
 have n2:=le2.1
 obtain⟨v3,H3,e3,r3,n3,k3,o3,kp3⟩:=r2.app (t:=39) (cs:= [str name,str value]) (a:=(name,value)) Tryz.underlying39 lesz_par (by omega) (by omega) (by unfold maxElems;omega) rfl (fun h=>h)
 have oa:offRow v2 H.n:=r2.off_lt (by omega)
 have ob:offRow v2 (H.n+1):=r2.off_lt (by omega)
 have a3:=(k3 _ (by omega) oa).trans a2
 have b3:=(k3 _ (by omega) ob).trans b2
 have cv3:=r3.cell
 obtain⟨H4,hH4⟩: ∃H4,H4=H3.new ⟨[str t,str u,v3],41,true⟩:=⟨_,rfl⟩
 have le4:H3.le H4:=by rw [hH4];exact le_refl.new
 have a4:=(le4.2 H.n (by omega)).trans a3
 have b4:=(le4.2 (H.n+1) (by omega)).trans b3
 have c4:H4.get H3.n=some ⟨[str t,str u,v3],41,true⟩:=by rw [hH4];exact get_new
 have r4:=r3.le le4
 have hps: ∀p∈ps++ [(name,value)],p.1.length≤1000000∧p.2.length≤1000000:=fun p hp=>by
  rcases List.mem_append.1 hp with h|h
  ·exact hs p h
  ·rw [List.mem_singleton.1 h];exact⟨hnm,hvl⟩
 have e5:=mgood_k (t:=t) (u:=u) r4.row (by rw [List.length_append,List.length_singleton];omega) hps ht hu
 have hle0:H.le H4:=⟨by have:=le4.1;have:=le1.1;omega,fun k hk=>by rw [le4.2 k (by omega),k3 k (by omega) (r2.off_lt (by omega)),le2.2 k (by omega),le1.2 k hk]⟩
 have hr4:=hr.le hle0
 have e6:=mgood_k (t:=t) (u:=u) hr4 (by omega) hs ht hu
 have e7:=mfind_k (t:=t) (u:=u) (name:=name) hr4 (by omega)
 have e8:=fun H:LH=>qall_k (H:=H) hvl
 have d1:(H.n=H.n+1)=False:=eq_false (by omega)
 have d2:(H.n+1=H.n)=False:=eq_false (by omega)
 have m1:(H.n=H2.n)=False:=eq_false (by omega)
 have m2:(H.n=H3.n)=False:=eq_false (by omega)
 unfold Tg.Mi.withP
 have hbp: ∀H:LH,lbuildSlice Tryz.prog 39 1 [(0,.agg #[str name,str value])] H=some (sl H.n 1 1,H.new ⟨[str name,str value],87,true⟩):=fun H=>bs1p (a:=(name,value))
 have n4:=le4.1
 cases hg:Tg.Mi.goodM ⟨t,u,ps++ [(name,value)]⟩with
 |true=>
  rw [hg]at e5
  simp only [if_true]
  simp [hcv,←hH1,e2,a1,a2,a3,hbp,e3,m1,m2,cv3,←hH4,c4,e5,b4]
  exact⟨hle0,(r4.keep1 (H':=H4.set (H.n+1) ⟨[str t,str u,v3],41,true⟩) (Nat.le_refl _) b4 (by show 41≠87;decide) (fun h=>h) (by omega) (fun k _ hne=>get_set_ne hne)).row⟩
 |false=>
  rw [hg]at e5
  simp only [Bool.false_eq_true,if_false]
  cases hg2:Tg.Mi.goodM ⟨t,u,ps⟩with
  |false=>
   rw [hg2]at e6
   simp [hcv,←hH1,e2,a1,a2,a3,a4,hbp,e3,m1,m2,cv3,←hH4,c4,e5,e6,b4]
   exact hle0
  |true=>
   rw [hg2]at e6
   by_cases hf:0≤Tg.Mi.fnd name ps 0
   ·have hf:=eq_true hf
    cases hv:value.all Tg.Mi.quo
    all_goals
     rw [hv]at e8
     simp [hcv,←hH1,e2,a1,a2,a3,a4,hbp,e3,m1,m2,cv3,←hH4,c4,e5,e6,e7,e8,hf,b4]
     exact hle0
   ·have hf:=eq_false hf
    simp [hcv,←hH1,e2,a1,a2,a3,a4,hbp,e3,m1,m2,cv3,←hH4,c4,e5,e6,e7,hf,b4]
    exact hle0
theorem charset_eq:Tg.Mi.charset= [99,104,97,114,115,101,116]:=rfl
theorem parm_len (hs: ∀p∈ps,p.1.length≤1000000∧p.2.length≤1000000):(Tg.Mi.parmP ps name).1.length≤1000000:=by
 unfold Tg.Mi.parmP
 split
 ·simp
 ·rename_i h
  rcases Tg.Mi.fnd_ge name ps 0 with hf|⟨j,hf,hj,_⟩
  ·rw [hf]at h;exact absurd (by decide) h
  ·rw [Nat.zero_add]at hf
   rw [hf,Int.toNat_natCast,getD_at hj]
   exact(hs _ (List.getElem_mem hj)).2
theorem step_ex (hr:RowG elP 87 N H v m.ps) (hl:m.ps.length≤10000) (hN:N≤H.n) (hs: ∀p∈m.ps,p.1.length≤1000000∧p.2.length≤1000000) (ht:m.t.length≤1000000) (hu:m.s.length≤1000000) (ht':t.length≤1000000) (hu':u.length≤1000000) (hset:set.length≤1000000) (hw:cellB w=true):
  Gives Tryz.prog EJ 188 [mv t u w,str set,mv m.t m.s v] H fun H' r=> ∃v',r=.tuple #[mv (Tg.Mi.stepP t u set m).1.t (Tg.Mi.stepP t u set m).1.s v',str (Tg.Mi.stepP t u set m).2]∧RowG elP 87 N H' v' (Tg.Mi.stepP t u set m).1.ps:=by
 refine gives_of ?_ (fun v H' hf h=>by
  obtain⟨w,rfl,h⟩:=h
  exact⟨w,rfl,h.flat (flat_mvt hf h.cell)⟩)
 refine LC_runs (P:=Tryz.prog) (E:=EJ) (f:=188) rfl Tryz.func188 rfl (Nat.le_of_ble_eq_true rfl) (by decide) (by kernel_rfl) ?_
 have hcv:=hr.cell
 obtain⟨H1,hH1⟩: ∃H1,H1=((H.new ⟨[str t,str u,w],41,true⟩).new ⟨[str m.t,str m.s,v],41,true⟩).new ⟨[str [],str [],.slice none 0 0],41,true⟩:=⟨_,rfl⟩
 have le1:H.le H1:=by rw [hH1];exact le_refl.new.new.new
 have n1:H1.n=H.n+1+1+1:=by rw [hH1];rfl
 have a1:H1.get H.n=some ⟨[str t,str u,w],41,true⟩:=by rw [hH1,get_new_ne (by simp;omega),get_new_ne (by simp),get_new]
 have b1:H1.get (H.n+1)=some ⟨[str m.t,str m.s,v],41,true⟩:=by rw [hH1,get_new_ne (by simp)];exact get_new
 have c1:H1.get (H.n+1+1)=some ⟨[str [],str [],.slice none 0 0],41,true⟩:=by rw [hH1];exact get_new
 have hr1:=hr.le le1
 have e1:=mparam_k (H:=H1) (t:=m.t) (u:=m.s) (name:= [99,104,97,114,115,101,116]) hr1 (by omega)
 rw [←charset_eq]at e1
 have e2:=fun H:LH=>ess_k (H:=H) ht' hu' hw
 have e3:=fun H:LH=>ess_k (H:=H) ht hu hcv
 have hnow:=parm_len (name:=Tg.Mi.charset) hs
 have d1:(H.n=H.n+1)=False:=eq_false (by omega)
 have d2:(H.n=H.n+1+1)=False:=eq_false (by omega)
 have d3:(H.n+1=H.n+1+1)=False:=eq_false (by omega)
 have d4:(H.n+1+1=H.n+1)=False:=eq_false (by omega)
 have d5:(H.n+1+1=H.n)=False:=eq_false (by omega)
 have d6:(H.n+1=H.n)=False:=eq_false (by omega)
 obtain⟨v2,H2,o2,le2,w2,⟨rfl⟩,r2⟩:=own_ex (t:=m.t) (u:=m.s) hr1 (by omega) (by omega)
 have b2:=(le2.2 (H.n+1) (by omega)).trans b1
 have c2:=(le2.2 (H.n+1+1) (by omega)).trans c1
 have n2:=le2.1
 have cw2:=r2.cell
 have fin: ∀(G:LH) (zs:List Tg.Mi.Par) (x:Value),H.le G→G.get (H.n+1+1)=some ⟨[str [],str [],.slice none 0 0],41,true⟩→RowG elP 87 N G x zs→RowG elP 87 N (G.set (H.n+1+1) ⟨[str m.t,str m.s,x],41,true⟩) x zs:=fun G zs x h1 h2 h3=>h3.keep ⟨Nat.le_refl _,fun k b hk hb hor=>by
  by_cases hkc:k=H.n+1+1
  ·subst hkc
   rw [h2]at hb
   injection hb with hb
   subst hb
   rcases hor with h4|h4|h4
   ·omega
   ·exact absurd h4 (by show 41≠87;decide)
   ·exact h4.elim
  ·rw [get_set_ne hkc];exact hb⟩
 unfold Tg.Mi.stepP
 simp only [charset_eq]at e1 hnow
 by_cases q1:Tg.Mi.essP t u=Tg.Mi.essP m.t m.s
 ·rw [if_neg (fun h=>h q1)]
  have q1:=eq_true q1
  cases q2:(Tg.Mi.parmP m.ps Tg.Mi.charset).2 with
  |true=>
   rw [charset_eq]at q2
   rw [q2]at e1
   simp only [Bool.true_eq_false,false_and,if_false]
   simp [hw,hcv,←hH1,e1,e2,e3,a1,b1,c1,q1,o2,b2,c2,cw2,d1,d2,d3,d4,d5,d6]
   exact⟨(le1.trans le2).set (by omega),fin _ _ _ (le1.trans le2) c2 r2⟩
  |false=>
   rw [charset_eq]at q2
   rw [q2]at e1
   by_cases q3:set= []
   ·subst q3
    simp only [ne_eq,not_true_eq_false,false_and,and_false,if_false]
    simp [hw,hcv,←hH1,e1,e2,e3,a1,b1,c1,q1,o2,b2,c2,cw2,d1,d2,d3,d4,d5,d6]
    exact⟨(le1.trans le2).set (by omega),fin _ _ _ (le1.trans le2) c2 r2⟩
   ·have q3f:=eq_false q3
    obtain⟨r3,H3,o3,le3,R3⟩:=with_ex (t:=m.t) (u:=m.s) (name:= [99,104,97,114,115,101,116]) (value:=set) hr1 hl (by omega) hs ht hu (by decide) hset
    rw [←charset_eq]at R3
    have n3:=le3.1
    cases q4:Tg.Mi.goodM (Tg.Mi.withP m Tg.Mi.charset set)with
    |true=>
     have q4':Tg.Mi.goodM (Tg.Mi.withP ⟨m.t,m.s,m.ps⟩ Tg.Mi.charset set)=true:=q4
     rw [if_pos q4']at R3
     obtain⟨v3,rfl,r3⟩:=R3
     have cv3:=r3.cell
     rw [if_pos ⟨rfl,q3,rfl⟩]
     have c3:=(le3.2 (H.n+1+1) (by omega)).trans c1
     obtain⟨H4,hH4⟩: ∃H4,H4=H3.new ⟨[str m.t,str m.s,v3],41,true⟩:=⟨_,rfl⟩
     have le4:H3.le H4:=by rw [hH4];exact le_refl.new
     have c4:=(le4.2 (H.n+1+1) (by omega)).trans c3
     have g4:H4.get H3.n=some ⟨[str m.t,str m.s,v3],41,true⟩:=by rw [hH4];exact get_new
     have m1:(H.n+1+1=H3.n)=False:=eq_false (by omega)
     simp [hw,hcv,←hH1,e1,e2,e3,a1,b1,c1,q1,q3f,o3,cv3,←hH4,c4,g4,d1,d2,d3,d4,d5,d6,m1]
     have hle:=(le1.trans le3).trans le4
     exact⟨hle.set (by omega),v3,⟨rfl,rfl,rfl⟩,fin _ _ _ hle c4 (r3.le le4)⟩
    |false=>
     have q4': ¬Tg.Mi.goodM (Tg.Mi.withP ⟨m.t,m.s,m.ps⟩ Tg.Mi.charset set)=true:=by
      show¬Tg.Mi.goodM (Tg.Mi.withP m Tg.Mi.charset set)=true
      rw [q4];decide
     rw [if_neg q4']at R3
     obtain⟨e,he,rfl⟩:=R3
     have he:=eq_false he
     simp only [Bool.false_eq_true,and_false,if_false]
     have b3:=(le3.2 (H.n+1) (by omega)).trans b1
     have c3:=(le3.2 (H.n+1+1) (by omega)).trans c1
     obtain⟨H4,hH4⟩: ∃H4,H4=H3.new ⟨[str [],str [],.slice none 0 0],41,true⟩:=⟨_,rfl⟩
     have le4:H3.le H4:=by rw [hH4];exact le_refl.new
     have b4:=(le4.2 (H.n+1) (by omega)).trans b3
     have c4:=(le4.2 (H.n+1+1) (by omega)).trans c3
     have g4:H4.get H3.n=some ⟨[str [],str [],.slice none 0 0],41,true⟩:=by rw [hH4];exact get_new
     have hss:H4.set H3.n ⟨[str [],str [],.slice none 0 0],41,true⟩=H4:=by rw [hH4,new_set]
     have hle4:=(le1.trans le3).trans le4
     obtain⟨v5,H5,o5,le5,w5,⟨rfl⟩,r5⟩:=own_ex (t:=m.t) (u:=m.s) (hr.le hle4) (by omega) (by have:=hle4.1;omega)
     have n4:=le4.1
     have c5:=(le5.2 (H.n+1+1) (by omega)).trans c4
     have cw5:=r5.cell
     have m1:(H.n+1=H3.n)=False:=eq_false (by omega)
     simp [hw,hcv,←hH1,e1,e2,e3,a1,b1,c1,q1,q3f,o3,he,←hH4,g4,hss,b4,o5,c5,cw5,d1,d2,d3,d4,d5,d6,m1]
     have hle:=hle4.trans le5
     exact⟨hle.set (by omega),fin _ _ _ hle c5 r5⟩
 ·rw [if_pos q1]
  have q1:=eq_false q1
  simp [hw,hcv,←hH1,e1,e2,e3,a1,b1,c1,q1,o2,b2,c2,cw2,d1,d2,d3,d4,d5,d6]
  exact⟨(le1.trans le2).set (by omega),w2,⟨rfl,rfl⟩,fin _ _ _ (le1.trans le2) c2 r2⟩
end
end Go.Proofs.YtjplaockjmhnjaaGreatDoor.Mi
namespace Go.Proofs.YtjplaockjmhnjaaGreatDoor
open Go.Lg Go.Tg
def HRow (H:LH) (v:Value) (l:List Tg.Hd.Hdr):Prop:=
 (v=.slice none 0 0∧l= [])∨ ∃(k o c:Nat),v=.slice (some ⟨k,o,none⟩) l.length c∧(l≠ []→ ∃b:LB,H.get k=some b∧k<H.n∧ ∀(i:Nat) (h:i<l.length),o+i*2+2≤b.cells.length∧(b.cells.drop (o+i*2)).take 2= [str l[i].1,str l[i].2]∧b.cells[o+i*2]?=some (str l[i].1)∧b.cells[o+i*2+1]?=some (str l[i].2))
abbrev HOwn (N:Nat) (H:LH) (v:Value) (l:List Tg.Hd.Hdr):Prop:=RowN N H 67 2 v l.length (Tg.Hd.cells l)
section
variable {H H':LH} {v:Value} {l:List Tg.Hd.Hdr} {N:Nat}
theorem HRow.keep (h:HRow H v l) (hn:H.n≤H'.n) (hk: ∀k,k<H.n→H'.get k=H.get k):HRow H' v l:=by
 rcases h with h|⟨k,o,c,h1,h2⟩
 ·exact .inl h
 ·refine .inr ⟨k,o,c,h1,fun hne=>?_⟩
  obtain⟨b,h2,h3,h4⟩:=h2 hne
  exact⟨b,by rw [hk k h3];exact h2,by omega,h4⟩
theorem HRow.len (h:HRow H v l):lbuiltin Tryz.prog .len [24] [v] H'=some (.int .i64 l.length,H'):=by
 rcases h with⟨rfl,rfl⟩|⟨k,o,c,rfl,h2⟩
 ·simp
 ·simp
theorem HRow.at (h:HRow H v l) {i:Nat} (hi:i<l.length): ∃k o,(∀H':LH,lixa Tryz.prog 24 v (.int .i64 i) H'=some (ptr k o,H'))∧k<H.n∧ ∀H':LH,H'.get k=H.get k→
  lld Tryz.prog 67 (ptr k o) H'=some (hv l[i])∧lld Tryz.prog 9 (ptr k o) H'=some (str l[i].1)∧lld Tryz.prog 9 (ptr k (o+1)) H'=some (str l[i].2):=by
 rcases h with⟨rfl,rfl⟩|⟨k,o,c,rfl,h2⟩
 ·simp at hi
 ·obtain⟨b,h2,h3,h4⟩:=h2 (fun e=>by rw [e]at hi;simp at hi)
  obtain⟨g1,g2,g3,g4⟩:=h4 i hi
  refine⟨k,o+i*2,fun H'=>?_,h3,fun H' e=>?_⟩
  ·have q:=eq_true (show(i:Int)<(l.length:Int) by omega)
   simp [q]
  ·rw [h2]at e
   have hlt:o+i*2<b.cells.length:=by omega
   have hlt2:o+i*2+1<b.cells.length:=by omega
   rw [List.getElem?_eq_getElem hlt]at g3
   rw [List.getElem?_eq_getElem hlt2]at g4
   injection g3 with g3
   injection g4 with g4
   simp [e,g1,g2,g3,g4,hlt,hlt2]
theorem HOwn.row (h:HOwn N H v l):HRow H v l:=by
 rcases h.2 with⟨rfl,h0⟩|⟨k,c,rest,rfl,h1,h2,h3,h4,h5⟩
 ·exact .inl ⟨rfl,List.eq_nil_of_length_eq_zero h0⟩
 ·refine .inr ⟨k,0,c,rfl,fun _=>⟨_,h3,h2,fun i hi=>?_⟩⟩
  have g:=Tg.Hd.cells_at hi rest
  have hl:=Tg.Hd.cells_len l
  simp only [Nat.zero_add]
  refine⟨?_,g⟩
  rw [List.length_append,hl];omega
theorem HOwn.nil:HOwn N H (.slice none 0 0) []:=RowN.nil
theorem h_app (h:HOwn N H v l) (hN:N≤H.n) (hl:l.length≤100000) (a b:List UInt8):
  ∃v' H2,lapp Tryz.prog 24 v (some (1,[str a,str b])) (H.new ⟨[str a,str b],67,true⟩)=some (v',H2)∧HOwn N H2 v' (l++ [(a,b)])∧H.n<H2.n∧(∀k,k<H.n→offRow v k→H2.get k=H.get k)∧(Full v→Full v')∧(∀k,k<H.n→offRow v k→offRow v' k):=by
 have h2:HOwn N (H.new ⟨[str a,str b],67,true⟩) v l:=h.keep (Nat.le_succ _) (fun k _ _ hk=>get_new_ne (by omega))
 obtain⟨v',H2,ha,hr,hk,hf⟩:=RowN.app (P:=Tryz.prog) (t:=24) (new:= [str a,str b]) (m:=1) h2 Tryz.underlying24 (by kernel_rfl) (by simp) (by simp) (by unfold maxElems;omega) (by rw [n_new];omega) (.inl (Nat.le_refl 1))
 refine⟨v',H2,ha,?_,?_,fun k hkn ho=>?_,hf,fun k hkn ho=>?_⟩
 ·have e:Tg.Hd.cells (l++ [(a,b)])=Tg.Hd.cells l++ [str a,str b]:=by rw [Tg.Hd.cells_app];rfl
  rw [HOwn,List.length_append,e];exact hr
 ·have:=hk.le;rw [n_new]at this;omega
 ·rw [hk.get k (by rw [n_new];omega) ho,get_new_ne (by omega)]
 ·exact hk.off k (by rw [n_new];omega) ho
end
end Go.Proofs.YtjplaockjmhnjaaGreatDoor
namespace Tg.Hd
end Tg.Hd
namespace Go.Proofs.YtjplaockjmhnjaaGreatDoor
open Go.Lg Go.Tg
section
variable {H:LH} {b:UInt8} {s p:List UInt8}
end
end Go.Proofs.YtjplaockjmhnjaaGreatDoor
namespace Tg.Hd
end Tg.Hd
namespace Go.Proofs.YtjplaockjmhnjaaGreatDoor
open Go.Lg Go.Tg
section
variable {H:LH} {v w:Value} {l m:List Tg.Hd.Hdr} {N:Nat}
end
section
variable {H:LH} {v w:Value} {l m:List Tg.Hd.Hdr} {N:Nat} {s:List UInt8}
theorem hcut_cl {k:Int} (h0:0≤k):LC Tryz.prog EJ 9 [str s,.int .i64 k] H=some (str (s.take k.toNat),H):=by
 refine LC_pure rfl Tryz.func9 rfl (Nat.le_of_ble_eq_true rfl) (by decide) (by kernel_rfl) (by simp) ?_
 by_cases hc:k<s.length
 ·have f:=eq_true hc
  have f2:=eq_true (show k≤s.length by omega)
  have f3:=eq_true h0
  simp [f,f2,f3]
 ·have f:=eq_false hc
  have e:s.take k.toNat=s:=List.take_of_length_le (by omega)
  simp [f,e]
theorem bs0h:lbuildSlice Tryz.prog 24 0 [] H=some (sl H.n 0 0,H.new ⟨[],67,true⟩):=by
 unfold lbuildSlice
 simp [Instr.fill,Value.cells]
 rfl
theorem bs1h {a b:List UInt8} :lbuildSlice Tryz.prog 24 1 [(0,.agg #[str a,str b])] H=some (sl H.n 1 1,H.new ⟨[str a,str b],67,true⟩):=by
 unfold lbuildSlice
 simp [Instr.fill,Value.cells,Array.range]
 rfl
structure OutRow (H:LH) (v:Value) (H':LH) (l:List Tg.Hd.Hdr):Prop where
 row:HOwn H.n H' v l
 full:Full v
 le:H.n≤H'.n
 old: ∀k,k<H.n→H'.get k=H.get k
theorem OutRow.trunc {H':LH} (h:OutRow H v H' l): ∃H2,Lg.trunc H (v,H')=(v,H2)∧OutRow H v H2 l:=by
 rcases trunc_or v H H' with e|⟨e,hf,_⟩
 ·exact⟨H',e,h⟩
 ·refine⟨H,e,⟨?_,h.full,Nat.le_refl _,fun _ _=>rfl⟩⟩
  refine⟨h.row.1,?_⟩
  rcases h.row.2 with h2|⟨k,c,rest,rfl,_⟩
  ·exact .inl h2
  ·simp [flatB,flat1B,atomB]at hf
theorem few_hl (hr:HRow H v l) (hl:l.length≤9223372036854775807) {c:Nat} (hc:c≤1000): ∃v' H',LC Tryz.prog EJ 23 [v,.int .i64 c] H=some (v',H')∧OutRow H v' H' (Tg.Hd.few l c):=by
 have key: ∃r,LC Tryz.prog EJ 23 [v,.int .i64 c] H=some (Lg.trunc H r)∧OutRow H r.1 r.2 (Tg.Hd.few l c):=by
  refine LC_runs (P:=Tryz.prog) (E:=EJ) (f:=23) rfl Tryz.func23 rfl (Nat.le_of_ble_eq_true rfl) (by decide) (by kernel_rfl) ?_
  simp [bs0h]
  refine loop_ind (fun(i:Nat) fr' H'=>fr' 0=v∧fr' 1=.int .i64 c∧fr' 6=.int .i64 i∧i≤l.length∧i≤c∧ ∃w,fr' 5=w∧OutRow H w H' ((l.take i).map fun h=>(h.1.take 30,h.2.take 100))) (fun i=>l.length-i) 0 ⟨by simp,by simp,by simp,Nat.zero_le _,Nat.zero_le _,sl H.n 0 0,by simp,⟨?_,full_new,by simp,fun k hk=>get_new_ne (by omega)⟩⟩ ?_
  ·exact⟨by simp [Tg.Hd.cells],.inr ⟨H.n,0,[],by simp,Nat.le_refl _,by simp,by simp [Tg.Hd.cells],by simp,by simp [Tg.Hd.cells]⟩⟩
  rintro i fr' H' ⟨h0,h1,h6,hi,hic,w,h5,hrow,hfull,hn,hk⟩ ih
  have hr':=hr.keep hn hk
  by_cases hlt:i<l.length
  ·have q:=eq_true (show(i:Int)<(l.length:Int) by omega)
   by_cases hlc:i<c
   ·have qc:=eq_true (show(i:Int)<(c:Int) by omega)
    have hw1:IntKind.i64.wrap ((i:Int)+1)=((i+1:Nat):Int):=by rw [wrapI (by omega) (by omega)];omega
    obtain⟨k,o,g1,g2,g3⟩:=hr'.at hlt
    obtain⟨_,g4,g5⟩:=g3 H' rfl
    have hc1:=fun H:LH=>hcut_cl (H:=H) (s:=l[i].1) (k:=30) (by decide)
    have hc2:=fun H:LH=>hcut_cl (H:=H) (s:=l[i].2) (k:=100) (by decide)
    simp only [show((30:Int).toNat)=30 from rfl,show((100:Int).toNat)=100 from rfl]at hc1 hc2
    have hnew:(l.take (i+1)).map (fun h:Tg.Hd.Hdr=>((h.1.take 30,h.2.take 100):Tg.Hd.Hdr))=(l.take i).map (fun h:Tg.Hd.Hdr=>((h.1.take 30,h.2.take 100):Tg.Hd.Hdr))++ [(l[i].1.take 30,l[i].2.take 100)]:=by
     rw [List.take_succ_eq_append_getElem hlt,List.map_append];rfl
    obtain⟨v',H2,a1,a2,a3,a4,a5,a6⟩:=h_app hrow hn (by rw [List.length_map,List.length_take];omega) (l[i].1.take 30) (l[i].2.take 100)
    rw [←hnew]at a2
    have hfin:=fun fr2 (f0:fr2 0=v) (f1:fr2 1=.int .i64 c) (f6:fr2 6=.int .i64 ((i+1:Nat):Int)) (f5:fr2 5=v')=>ih (i+1) fr2 H2 (by omega) ⟨f0,f1,f6,by omega,by omega,v',f5,⟨a2,a5 hfull,by omega,fun k hk2=>by rw [a4 k (by omega) (hrow.off_lt hk2),hk k hk2]⟩⟩
    clear ih
    generalize l[i].1.take 30=x1 at*
    generalize l[i].2.take 100=x2 at*
    generalize l[i]=a at*
    simp [h0,h1,h5,h6,q,qc,hlt,hlc,g1,g4,g5,hc1,hc2,bs1h,a1,hr.len]
    refine hfin _ ?_ ?_ ?_ ?_
    all_goals simp [h0,h1,hw1]
   ·have qc:=eq_false (show¬(i:Int)<(c:Int) by omega)
    have hic:i=c:=by omega
    subst hic
    simp [h0,h1,h5,h6,q,hlt,hr.len]
    exact⟨hrow,hfull,hn,hk⟩
  ·have q:=eq_false (show¬(i:Int)<(l.length:Int) by omega)
   have e:l.take i=l.take c:=by rw [List.take_of_length_le (by omega),List.take_of_length_le (by omega)]
   rw [e]at hrow
   simp [h0,h1,h5,h6,q,hr.len]
   exact⟨hrow,hfull,hn,hk⟩
 obtain⟨r,e,ho⟩:=key
 obtain⟨H2,e2,ho2⟩:=ho.trunc
 exact⟨r.1,H2,by rw [e,←e2],ho2⟩
end
end Go.Proofs.YtjplaockjmhnjaaGreatDoor
namespace Tg.Hd
def isP (name:List UInt8) (h:Hdr):Bool:=decide (Tg.Lo.lower h.1=Tg.Lo.lower name)
end Tg.Hd
namespace Go.Proofs.YtjplaockjmhnjaaGreatDoor
open Go.Lg Go.Tg
section
variable {H:LH} {v w:Value} {l m:List Tg.Hd.Hdr} {N:Nat} {s name value:List UInt8} {h:Tg.Hd.Hdr} {p:Nat}
theorem csame_cl (hs:s.length≤9223372036854775806) {t:List UInt8} :LC Tryz.prog EJ 112 [str s,str t] H=some (.bool (decide (Tg.Lo.lower s=Tg.Lo.lower t)),H):=by
 refine LC_pure rfl Tryz.func112 rfl (Nat.le_of_ble_eq_true rfl) (by decide) (by kernel_rfl) rfl ?_
 have hh:=fun H:LH=>same_cl (H:=H) (s:=s) (p:=t) hs
 simp [hh]
theorem named1_cl (hg:H.get p=some ⟨[str name],9,true⟩) (hp:p<H.n) (hs:h.1.length≤1048576):LC Tryz.prog EJ 222 [hv h,ptr p 0] H=some (.bool (Tg.Hd.isP name h),H):=by
 refine LC_pure rfl Tryz.func222 rfl (Nat.le_of_ble_eq_true rfl) (by decide) (by kernel_rfl) (by simp) ?_
 have hh:=fun H:LH=>csame_cl (H:=H) (s:=h.1) (t:=name) (by omega)
 have hne:(p=H.n)=False:=eq_false (by omega)
 unfold Tg.Hd.isP
 simp [hh,hg,hne,le_refl.new]
theorem named_l:LC Tryz.prog EJ 189 [str name] H=some (.func (.func 222) #[] #[ptr H.n 0],H.new ⟨[str name],9,true⟩):=by
 obtain⟨r,h,e⟩: ∃r,LC Tryz.prog EJ 189 [str name] H=some (Lg.trunc H r)∧r=(.func (.func 222) #[] #[ptr H.n 0],H.new ⟨[str name],9,true⟩):=by
  refine LC_runs (P:=Tryz.prog) (E:=EJ) (f:=189) rfl Tryz.func189 rfl (Nat.le_of_ble_eq_true rfl) (by decide) (by kernel_rfl) ?_
  simp
 rw [h,e,trunc_no (by simp [flatB,flat1B,atomB])]
theorem HOwn.weak {N':Nat} (h:HOwn N H v l) (hn:N'≤N):HOwn N' H v l:=by
 refine⟨h.1,?_⟩
 rcases h.2 with h2|⟨k,c,rest,rfl,g1,g2,g3,g4,g5⟩
 ·exact .inl h2
 ·exact .inr ⟨k,c,rest,rfl,by omega,g2,g3,g4,g5⟩
end
end Go.Proofs.YtjplaockjmhnjaaGreatDoor
namespace Tg.Hd
end Tg.Hd
namespace Go.Proofs.YtjplaockjmhnjaaGreatDoor
open Go.Lg Go.Tg
section
variable {H:LH} {b:UInt8} {s p:List UInt8}
end
section
variable {H:LH} {v w:Value} {l m:List Tg.Hd.Hdr} {N:Nat} {s name value:List UInt8} {h:Tg.Hd.Hdr} {p:Nat}
end
end Go.Proofs.YtjplaockjmhnjaaGreatDoor
namespace Tg.Mi
end Tg.Mi
namespace Go.Proofs.YtjplaockjmhnjaaGreatDoor.Mi
open Go.Lg Go.Tg
section
variable {H H':LH} {N M:Nat} {s t:List UInt8} {v w:Value}
end
section
variable {H H':LH} {N M:Nat} {s t u name:List UInt8} {v w:Value} {ps:List Tg.Mi.Par}
end
end Go.Proofs.YtjplaockjmhnjaaGreatDoor.Mi
namespace Tg.Mi
end Tg.Mi
namespace Go.Proofs.YtjplaockjmhnjaaGreatDoor.Mi
open Go.Lg Go.Tg
section
variable {H H':LH} {N M:Nat} {s t u name:List UInt8} {v w:Value} {ps:List Tg.Mi.Par}
end
section
variable {H H':LH} {N M b c l i:Nat} {s t:List UInt8} {v w p:Value} {xs:List (List UInt8)}
theorem lesz_str:lesz Tryz.prog 9=some elS.n:=by kernel_rfl
theorem piece_ex {D:Nat} {C:LB} {y z:List UInt8} {vb vo:Value} {out:List (List UInt8)} (hb:Bld D H b y vb) (how:OwnG elS 9 N D H vo out) (hN:N≤D) (hDb:D≤b) (hc:H.get c=some C) (hcn:c<H.n) (hcb:c≠b) (hC1:C.elem≠5) (hC2:C.elem≠9) (hy:y.length≤maxLen) (ho:out.length+1≤maxElems):
  ∃H5 v7 H7 H8,LC Tryz.prog EJ 195 [ptr b 0] H=some (str y,H5)∧lapp Tryz.prog 60 vo (some (1,[str z])) (H5.new ⟨[str z],9,true⟩)=some (v7,H7)∧LC Tryz.prog EJ 196 [ptr b 0] H7=some (.tuple #[],H8)∧cellB v7=true∧
   Bld D H8 b [] (.slice none 0 0)∧OwnG elS 9 N D H8 v7 (out++ [z])∧H8.get c=some C∧H.n≤H8.n∧ ∀k,k<D→H8.get k=H.get k:=by
 obtain⟨H5,e5,n5,k5⟩:=bstr_kp hb hy
 obtain⟨p,gb,hp⟩:=hb.get
 have hlt:=hb.lt
 have hoff: ∀k,k<D→offRow vb k:=fun k hk=>hb.row.off_lt hk
 have how5:OwnG elS 9 N D H5 vo out:=how.keep ⟨by omega,fun k b hk hb hor=>by rcases hor with h|h;exact(by rw [k5 k (hoff k (by omega))];exact hb);exact h.elim⟩ (fun k h1 hno hk=>k5 k (own_no_touch how hb (by decide) hno))
 obtain⟨v7,H7,a7,r7,n7,k7,o7,kp7⟩:=how5.app (t:=60) (cs:= [str z]) (a:=z) Tryz.underlying60 lesz_str hN (by have:=hb.N;omega) ho rfl (fun h=>h)
 have g5b:H5.get b=some ⟨[p,vb],157,true⟩:=by rw [k5 b hb.off];exact gb
 have ob:offRow vo b:=how5.off_elem g5b (by show 157≠9;decide)
 have g7b:H7.get b=some ⟨[p,vb],157,true⟩:=by rw [k7 b (by omega) ob];exact g5b
 have g5c:H5.get c=some C:=by rw [k5 c (hb.off_of hc hC1)];exact hc
 have g7c:H7.get c=some C:=by rw [k7 c (by omega) (how5.off_elem g5c hC2)];exact g5c
 refine⟨H5,v7,H7,H7.set b ⟨[.pointer none,.slice none 0 0],157,true⟩,e5,a7,reset_k g7b (by omega),r7.cell,?_,?_,?_,?_,?_⟩
 ·exact⟨⟨_,get_set,.inl rfl⟩,RowN.nil,(by unfold Full;simp),(fun n c e=>by cases e),(by rw [n_set];omega),(by rw [n_set];have:=hb.N;omega),fun _=>rfl⟩
 ·refine r7.keep ⟨Nat.le_refl _,fun k b hk hb hor=>by rcases hor with h|h;exact(by rw [get_set_ne (by omega)];exact hb);exact h.elim⟩ (fun k _ hno _=>get_set_ne (fun e=>hno (e▸o7 b (by omega) ob)))
 ·rw [get_set_ne hcb];exact g7c
 ·rw [n_set];omega
 ·intro k hk
  rw [get_set_ne (by omega),k7 k (by have:=hb.N;omega) (how5.off_lt hk),k5 k (hoff k hk)]
theorem split_ex (hN:N≤H.n) (hs:s.length≤100000):Gives Tryz.prog EJ 152 [str s] H fun H' v=>RowG elS 9 N H' v (Tg.Mi.splitP s):=by
 refine gives_of ?_ (fun v H' hf h=>h.flat hf)
 refine LC_runs (P:=Tryz.prog) (E:=EJ) (f:=152) rfl Tryz.func152 rfl (Nat.le_of_ble_eq_true rfl) (by decide) (by kernel_rfl) ?_
 obtain⟨T,hT⟩: ∃T,T=Tg.Mi.splitP s:=⟨_,rfl⟩
 rw [←hT]
 obtain⟨Hb,hHb⟩: ∃Hb,Hb=(H.new ⟨[.pointer none,.slice none 0 0],157,true⟩).new (cu s 0):=⟨_,rfl⟩
 have hnb:Hb.n=H.n+1+1:=by rw [hHb];rfl
 have hnew:=cnew_k (H:=H.new ⟨[.pointer none,.slice none 0 0],157,true⟩) (s:=s)
 rw [←hHb,n_new]at hnew
 have hob: ∀k,k<H.n→Hb.get k=H.get k:=fun k hk2=>by rw [hHb,get_new_ne (by simp;omega),get_new_ne (by omega)]
 have gb:Hb.get H.n=some ⟨[.pointer none,.slice none 0 0],157,true⟩:=by rw [hHb,get_new_ne (by simp),get_new]
 have gc:Hb.get (H.n+1)=some (cu s 0):=by rw [hHb];exact get_new
 have bl:Bld H.n Hb H.n [] (.slice none 0 0):=⟨⟨_,gb,.inl rfl⟩,RowN.nil,(by unfold Full;simp),(fun n c e=>by cases e),(by omega),(by omega),fun _=>rfl⟩
 simp [hnew]
 refine loop_ind (fun(j:Nat) fr' H'=> ∃acc out vb vo,fr' 3=vo∧fr' 4=ptr H.n 0∧fr' 5=ptr (H.n+1) 0∧j≤s.length∧acc.length≤j∧out.length≤j∧Bld H.n H' H.n acc vb∧OwnG elS 9 N H.n H' vo out∧H'.get (H.n+1)=some (cu s j)∧H.n+2≤H'.n∧(∀k,k<H.n→H'.get k=H.get k)∧T=out++(Tg.Mi.cutQ (s.length-j) (s.drop j) acc).map Tg.Mi.trimP) (fun j=>s.length-j) 0 ⟨[],[],_,_,by simp,by simp,by simp,Nat.zero_le _,by simp,by simp,bl,OwnG.nil,gc,by omega,hob,by rw [hT];rfl⟩ ?_
 rintro j fr' H2 ⟨acc,out,vb,vo,f3,f4,f5,hj,hacc,hout,hbl,how,hcu,hn2,hold,hq⟩ ih
 have hu:=cuntil_k (t:= [34,44]) hcu (by omega) hj (by omega)
 have hul:=Tg.Mi.until_le [34,44] (s.drop j)
 have hdl:(s.drop j).length=s.length-j:=List.length_drop
 rw [Tg.Mi.cutQ_until _ _ _ (by omega),List.drop_drop]at hq
 have hstop:=fun b r=>Tg.Mi.until_stopG (t:= [34,44]) (x:=s.drop j) (b:=b) (r:=r)
 rw [List.drop_drop]at hstop
 have hxl:((s.drop j).take (Tg.Mi.until_ [34,44] (s.drop j))).length=Tg.Mi.until_ [34,44] (s.drop j):=by rw [List.length_take];omega
 generalize (s.drop j).take (Tg.Mi.until_ [34,44] (s.drop j))=x at*
 generalize Tg.Mi.until_ [34,44] (s.drop j)=u at*
 obtain⟨H3,hH3⟩: ∃H3,H3=H2.set (H.n+1) (cu s (j+u)):=⟨_,rfl⟩
 rw [←hH3]at hu
 have hn3:H3.n=H2.n:=by rw [hH3];rfl
 have hk3: ∀k,k≠H.n+1→H3.get k=H2.get k:=fun k hk=>by rw [hH3,get_set_ne hk]
 have hc3:H3.get (H.n+1)=some (cu s (j+u)):=by rw [hH3,get_set]
 have ho2:offRow vb (H.n+1):=hbl.off_of hcu (by show 125≠5;decide)
 have hbl3:=hbl.keep1 (H':=H3) (c:=H.n+1) (by omega) (by omega) ho2 (fun k _ h=>hk3 k h)
 have how3:OwnG elS 9 N H.n H3 vo out:=how.keep ⟨by omega,fun k b hk hb hor=>by rcases hor with h|h;exact(by rw [hk3 k (by omega)];exact hb);exact h.elim⟩ (fun k _ hno _=>hk3 k (fun e=>hno (e▸how.off_elem hcu (by show 125≠9;decide))))
 obtain⟨v4,H4,e4,b4,k4⟩:=wstr_ex (s:=x) hbl3 (by unfold maxElems;omega)
 have hn4:H3.n≤H4.n:=k4.n
 have ho3:offRow vb (H.n+1):=ho2
 have hc4:H4.get (H.n+1)=some (cu s (j+u)):=by rw [k4.keep _ (by omega) (by omega) ho3];exact hc3
 have how4:OwnG elS 9 N H.n H4 vo out:=how3.keep ⟨hn4,fun k b hk hb hor=>by rcases hor with h|h;exact(by rw [k4.keep k hk (by omega) (hbl3.row.off_lt (by omega))];exact hb);exact h.elim⟩ (fun k h1 hno hk=>k4.keep k hk (fun e=>hno (by
  obtain⟨p,hg,_⟩:=hbl3.get
  subst e;exact how3.off_elem hg (by show 157≠9;decide))) (own_no_touch how3 hbl3 (by decide) hno))
 have hold4: ∀k,k<H.n→H4.get k=H.get k:=fun k hk=>by rw [k4.keep k (by omega) (by omega) (hbl3.row.off_lt hk),hk3 k (by omega),hold k hk]
 have hpk:=cpeek_k hc4 (by omega)
 clear hbl hbl3 how how3 hold hH3
 cases hy:s.drop (j+u)with
 |nil=>
  rw [hy]at hpk hq
  have hlen4:(s.drop (j+u)).length=s.length-(j+u):=List.length_drop
  rw [hy]at hlen4
  have hlt:decide (j+u<s.length)=false:=decide_eq_false (by simp at hlen4;omega)
  rw [hlt]at hpk
  have e6:=fun H:LH=>trim_k (H:=H) (s:=acc++x) (by simp;omega)
  obtain⟨H5,v7,H7,H8,e5,a7,e8,cv,b8,w8,c8,n8,k8⟩:=piece_ex (z:=Tg.Mi.trimP (acc++x)) b4 how4 hN (Nat.le_refl _) hc4 (by omega) (by omega) (by show 125≠5;decide) (by show 125≠9;decide) (by unfold maxLen;simp;omega) (by unfold maxElems;omega)
  have hT2:T=out++ [Tg.Mi.trimP (acc++x)]:=by
   rw [hq]
   cases s.length-j<;>rfl
  unfold Tg.Mi.trimP at a7 hT2 w8
  clear ih
  simp [f3,f4,f5,hu,e4,hpk,e5,e6,a7,e8]
  rw [hT2]
  exact⟨⟨by omega,fun k hk=>by rw [k8 k hk,hold4 k hk]⟩,w8.row⟩
 |cons b r=>
  have hlen4:(s.drop (j+u)).length=s.length-(j+u):=List.length_drop
  rw [hy]at hpk hq hlen4
  have hlt:j+u<s.length:=by simp at hlen4;omega
  rw [decide_eq_true hlt]at hpk
  have hpk:LC Tryz.prog EJ 192 [ptr (H.n+1) 0,.int .i64 0] H4=some (.tuple #[.int .u8 b.toNat,.bool true],H4):=hpk
  have hsb:s[j+u]=b:=by
   have:=List.drop_eq_getElem_cons hlt
   rw [hy]at this
   injection this with h1 h2
   exact h1.symm
  have hr:s.drop (j+u+1)=r:=by rw [←List.drop_drop,hy];rfl
  obtain⟨m,hm⟩: ∃m,s.length-j=m+1:=⟨s.length-j-1,by omega⟩
  rw [hm]at hq
  unfold Tg.Mi.cutQ at hq
  by_cases hb:b=34
  ·subst hb
   rw [if_pos rfl]at hq
   obtain⟨H5,e5,o5⟩:=collect_ex hc4 (by omega) hlt hs hsb
   rw [hr]at e5 o5
   have hcl:=Tg.Mi.coll_le r
   have hrl:r.length+1=s.length-(j+u):=by simpa using hlen4
   have hall:(34::(Tg.Mi.coll r).2.1).length≤1+(Tg.Mi.coll r).2.2:=by
    have:=Tg.Mi.coll_all r
    rw [this];simp;omega
   have b5:=b4.keep1 (H':=H5) (c:=H.n+1) o5.n (by omega) (b4.off_of hc4 (by show 125≠5;decide)) (fun k hk hne=>o5.old k hk hne)
   have w5:OwnG elS 9 N H.n H5 vo out:=how4.keep ⟨o5.n,fun k b hk hb hor=>by rcases hor with h|h;exact(by rw [o5.old k hk (by omega)];exact hb);exact h.elim⟩ (fun k _ hno hk=>o5.old k hk (fun e=>hno (e▸how4.off_elem hc4 (by show 125≠9;decide))))
   obtain⟨v6,H6,e6,b6,k6⟩:=wstr_ex (s:=34::(Tg.Mi.coll r).2.1) b5 (by unfold maxElems;rw [List.length_append];omega)
   have hcx:=o5.get
   have w6:OwnG elS 9 N H.n H6 vo out:=w5.keep ⟨k6.n,fun k b hk hb hor=>by rcases hor with h|h;exact(by rw [k6.keep k hk (by omega) (b5.row.off_lt (by omega))];exact hb);exact h.elim⟩ (fun k h1 hno hk=>k6.keep k hk (fun e=>hno (by
    obtain⟨p,hg,_⟩:=b5.get
    subst e;exact w5.off_elem hg (by show 157≠9;decide))) (own_no_touch w5 b5 (by decide) hno))
   have hc6:H6.get (H.n+1)=some (cu s (j+u+1+(Tg.Mi.coll r).2.2)):=by
    rw [k6.keep _ (by have:=o5.n;omega) (by omega) (b5.off_of hcx (by show 125≠5;decide))];exact hcx
   have hn6:H.n+2≤H6.n:=by have:=o5.n;have:=k6.n;omega
   have hd:r.drop (Tg.Mi.coll r).2.2=s.drop (j+u+1+(Tg.Mi.coll r).2.2):=by rw [←hr,List.drop_drop]
   rw [hd,Tg.Mi.cutQ_fuel m (s.length-(j+u+1+(Tg.Mi.coll r).2.2)) _ _ (by rw [List.length_drop];omega) (by rw [List.length_drop];omega)]at hq
   have hfin:=fun fr2 (g3:fr2 3=vo) (g4:fr2 4=ptr H.n 0) (g5:fr2 5=ptr (H.n+1) 0)=>ih (j+u+1+(Tg.Mi.coll r).2.2) fr2 H6 (by omega) ⟨acc++x++34::(Tg.Mi.coll r).2.1,out,v6,vo,g3,g4,g5,by omega,by rw [List.length_append,List.length_append];omega,by omega,b6,w6,hc6,hn6,fun k hk=>by rw [k6.keep k (by have:=o5.n;omega) (by omega) (b5.row.off_lt hk),o5.old k (by omega) (by omega),hold4 k hk],by rw [List.append_assoc]at hq⊢;exact hq⟩
   clear ih hq
   have hb34:((UInt8.toNat 34:Nat):Int)=34:=rfl
   rw [hb34]at hpk
   simp [f3,f4,f5,hu,e4,hpk,e5,e6]
   refine hfin _ ?_ ?_ ?_
   all_goals simp [f3,f4,f5]
  ·have hb44:b=44:=by
    have h1:=hstop b r hy
    by_cases h2:b=44
    ·exact h2
    ·exact absurd ((Tg.Mi.comma_iff b).2 ⟨hb,h2⟩) h1
   subst hb44
   rw [if_neg (by decide),if_pos rfl]at hq
   have e6:=fun H:LH=>trim_k (H:=H) (s:=acc++x) (by simp;omega)
   obtain⟨H5,v7,H7,H8,e5,a7,e8,cv,b8,w8,c8,n8,k8⟩:=piece_ex (z:=Tg.Mi.trimP (acc++x)) b4 how4 hN (Nat.le_refl _) hc4 (by omega) (by omega) (by show 125≠5;decide) (by show 125≠9;decide) (by unfold maxLen;simp;omega) (by unfold maxElems;omega)
   have e9:=cnext_k c8 (by omega) hlt (by omega)
   rw [←hr,Tg.Mi.cutQ_fuel m (s.length-(j+u+1)) _ _ (by rw [List.length_drop];omega) (by rw [List.length_drop];omega),List.map_cons]at hq
   have hfin:=fun fr2 (g3:fr2 3=v7) (g4:fr2 4=ptr H.n 0) (g5:fr2 5=ptr (H.n+1) 0)=>ih (j+u+1) fr2 (H8.set (H.n+1) (cu s (j+u+1))) (by omega) ⟨[],out++ [Tg.Mi.trimP (acc++x)],_,v7,g3,g4,g5,by omega,Nat.zero_le _,by rw [List.length_append,List.length_singleton];omega,
    b8.keep1 (c:=H.n+1) (Nat.le_refl _) (by omega) (fun n c e=>by cases e) (fun k _ hne=>get_set_ne hne),
    w8.keep ⟨Nat.le_refl _,fun k b hk hb hor=>by rcases hor with h|h;exact(by rw [get_set_ne (by omega)];exact hb);exact h.elim⟩ (fun k _ hno _=>get_set_ne (fun e=>hno (e▸w8.off_elem c8 (by show 125≠9;decide)))),
    get_set,by rw [n_set];omega,fun k hk=>by rw [get_set_ne (by omega),k8 k hk,hold4 k hk],by rw [List.append_assoc];exact hq⟩
   unfold Tg.Mi.trimP at a7 hfin
   clear ih hq
   have hb44:((UInt8.toNat 44:Nat):Int)=44:=rfl
   rw [hb44]at hpk
   simp [f3,f4,f5,hu,e4,hpk,e5,e6,a7,e8,e9]
   refine hfin _ ?_ ?_ ?_
   all_goals simp [f3,f4,f5]
end
end Go.Proofs.YtjplaockjmhnjaaGreatDoor.Mi
namespace Tg.Hd
def getP (name:List UInt8) (l:List Hdr):List (List UInt8):=(l.filter (isP name)).map fun h=>h.2
theorem getP_take {name:List UInt8} {l:List Hdr} {i:Nat} (h:i<l.length):getP name (l.take (i+1))=getP name (l.take i)++(if isP name l[i]=true then [l[i].2]else []):=by
 rw [List.take_succ_eq_append_getElem h]
 unfold getP
 rw [List.filter_append,List.map_append]
 congr 1
 cases hx:isP name l[i]<;>simp [hx]
theorem getP_len (name:List UInt8) (l:List Hdr):(getP name l).length≤l.length:=by
 unfold getP
 rw [List.length_map]
 exact List.length_filter_le _ _
def joinC (l:List (List UInt8)):List UInt8:=Go.Lib.join l [44,32]
end Tg.Hd
namespace Go.Proofs.YtjplaockjmhnjaaGreatDoor
open Go.Lg Go.Tg
abbrev SOwn (N:Nat) (H:LH) (v:Value) (xs:List (List UInt8)):Prop:=RowN N H 9 1 v xs.length (xs.map str)
section
variable {H H':LH} {v w:Value} {l m:List Tg.Hd.Hdr} {N:Nat} {s name value:List UInt8} {h:Tg.Hd.Hdr} {p:Nat} {xs ys:List (List UInt8)}
structure OutS (H:LH) (v:Value) (H':LH) (xs:List (List UInt8)):Prop where
 row:SOwn H.n H' v xs
 le:H.n≤H'.n
 old: ∀k,k<H.n→H'.get k=H.get k
theorem OutS.trunc (h:OutS H v H' xs): ∃H2,Lg.trunc H (v,H')=(v,H2)∧OutS H v H2 xs:=by
 rcases trunc_or v H H' with e|⟨e,hf,_⟩
 ·exact⟨H',e,h⟩
 ·refine⟨H,e,⟨?_,Nat.le_refl _,fun _ _=>rfl⟩⟩
  refine⟨h.row.1,?_⟩
  rcases h.row.2 with h2|⟨k,c,rest,rfl,_⟩
  ·exact .inl h2
  ·simp [flatB,flat1B,atomB]at hf
theorem SOwn.at (h:SOwn N H v xs) {i:Nat} (hi:i<xs.length): ∃k o,(∀H':LH,lixa Tryz.prog 60 v (.int .i64 i) H'=some (ptr k o,H'))∧k<H.n∧ ∀H':LH,H'.get k=H.get k→lld Tryz.prog 9 (ptr k o) H'=some (str xs[i]):=by
 rcases h.2 with⟨rfl,h0⟩|⟨k,c,rest,rfl,g1,g2,g3,g4,g5⟩
 ·omega
 ·refine⟨k,0+i*1,fun H'=>?_,g2,fun H' e=>?_⟩
  ·have q:=eq_true (show(i:Int)<(xs.length:Int) by omega)
   simp [q]
  ·rw [g3]at e
   have e2:(xs.map str++rest)[0+i*1]?=some (str xs[i]):=by
    rw [show 0+i*1=i by omega,List.getElem?_append_left (by simpa using hi),List.getElem?_map,List.getElem?_eq_getElem hi];rfl
   rw [lld_ptr e]
   simp
   simpa using e2
theorem SOwn.len (h:SOwn N H v xs):lbuiltin Tryz.prog .len [60] [v] H'=some (.int .i64 xs.length,H'):=RowN.len h Tryz.underlying60
theorem RowN.weak {P:Program} {N':Nat} {e:TypeId} {s n:Nat} {zs:List Value} (h:RowN N H e s v n zs) (hn:N'≤N):RowN N' H e s v n zs:=by
 refine⟨h.1,?_⟩
 rcases h.2 with h2|⟨k,c,rest,rfl,g1,g2,g3,g4,g5⟩
 ·exact .inl h2
 ·exact .inr ⟨k,c,rest,rfl,by omega,g2,g3,g4,g5⟩
theorem cget_ex (hr:HRow H v l) (hl:l.length≤90000) (hs: ∀h∈l,h.1.length≤1048576): ∃v' H',LC Tryz.prog EJ 150 [str name,v] H=some (v',H')∧OutS H v' H' (Tg.Hd.getP name l):=by
 have key: ∃r,LC Tryz.prog EJ 150 [str name,v] H=some (Lg.trunc H r)∧OutS H r.1 r.2 (Tg.Hd.getP name l):=by
  refine LC_runs (P:=Tryz.prog) (E:=EJ) (f:=150) rfl Tryz.func150 rfl (Nat.le_of_ble_eq_true rfl) (by decide) (by kernel_rfl) ?_
  simp [named_l,hr.len]
  refine loop_ind (fun(i:Nat) fr' H'=>fr' 6=.func (.func 222) #[] #[ptr H.n 0]∧fr' 11=v∧fr' 12=.int .i64 l.length∧fr' 13=.int .i64 i∧i≤l.length∧ ∃w,fr' 5=w∧SOwn (H.n+1) H' w (Tg.Hd.getP name (l.take i))∧H.n+1≤H'.n∧H'.get H.n=some ⟨[str name],9,true⟩∧ ∀k,k<H.n→H'.get k=H.get k) (fun i=>l.length-i) 0 ⟨by simp,by simp,by simp,by simp,Nat.zero_le _,.slice none 0 0,by simp,⟨by simp [Tg.Hd.getP],.inl ⟨rfl,rfl⟩⟩,by simp,by simp,fun k hk=>get_new_ne (by omega)⟩ ?_
  rintro i fr' H' ⟨f6,f11,f12,f13,hi,w,f5,ho,hn2,hb0,hold⟩ ih
  have hr':=hr.keep (by omega) hold
  by_cases hlt:i<l.length
  ·have q:=eq_true (show(i:Int)<(l.length:Int) by omega)
   have hw1:IntKind.i64.wrap ((i:Int)+1)=((i+1:Nat):Int):=by rw [wrapI (by omega) (by omega)];omega
   obtain⟨k,o,g1,g2,g3⟩:=hr'.at hlt
   obtain⟨g4,_,_⟩:=g3 H' rfl
   have hm:=hs l[i] (List.getElem_mem hlt)
   have hgl:=Tg.Hd.getP_len name (l.take i)
   rw [List.length_take]at hgl
   have hnew:=Tg.Hd.getP_take (name:=name) hlt
   have ihx:=fun fr2 H2=>ih (i+1) fr2 H2 (by omega)
   clear ih
   generalize Tg.Hd.getP name (l.take (i+1))=c' at*
   generalize Tg.Hd.getP name (l.take i)=c at*
   generalize l[i]=x at*
   have hnm:=named1_cl (H:=H'.new (hb x)) (p:=H.n) (name:=name) (h:=x) (by rw [get_new_ne (by omega)];exact hb0) (by rw [n_new];omega) hm
   have ho1:SOwn (H.n+1) (H'.new (hb x)) w c:=ho.keep (Nat.le_succ _) (fun j hj _ hjn=>get_new_ne (by omega))
   have hnw: ∀k,k<H.n+1→(H'.new (hb x)).get k=H'.get k:=fun k hk=>get_new_ne (by omega)
   cases hx:Tg.Hd.isP name x with
   |true=>
    rw [hx]at hnm hnew
    rw [if_pos rfl]at hnew
    obtain⟨v',H2,a1,a2,a3,a4⟩:=out_app (x:=x.2) ho1 (by rw [n_new];omega) (by omega)
    rw [←hnew]at a2
    have hg2: ∀k,k<H.n+1→H2.get k=H'.get k:=fun k hk=>by rw [a4 k hk,hnw k hk]
    simp [f6,f11,f12,f13,f5,q,hlt,g1,g4,hnm,a1]
    refine ihx _ _ ⟨?_,?_,?_,?_,by omega,v',?_,a2,a3,by rw [hg2 _ (by omega)];exact hb0,fun k hk=>by rw [hg2 k (by omega)];exact hold k hk⟩
    all_goals simp [f6,f11,f12,hw1]
   |false=>
    rw [hx]at hnm hnew
    rw [if_neg (by decide),List.append_nil]at hnew
    subst hnew
    simp [f6,f11,f12,f13,f5,q,hlt,g1,g4,hnm]
    refine ihx _ _ ⟨?_,?_,?_,?_,by omega,w,?_,ho1,by rw [n_new];omega,by rw [hnw _ (by omega)];exact hb0,fun k hk=>by rw [hnw k (by omega)];exact hold k hk⟩
    all_goals simp [f6,f11,f12,f5,hw1]
  ·have q:=eq_false (show¬(i:Int)<(l.length:Int) by omega)
   rw [List.take_of_length_le (by omega)]at ho
   simp [f12,f13,f5,q]
   exact⟨RowN.weak (P:=Tryz.prog) ho (by omega),by omega,hold⟩
 obtain⟨r,e,ho⟩:=key
 obtain⟨H2,e2,ho2⟩:=ho.trunc
 exact⟨r.1,H2,by rw [e,←e2],ho2⟩
theorem Get_ex (hr:HRow H v l) (hl:l.length≤90000) (hs: ∀h∈l,h.1.length≤1048576): ∃v' H',LC Tryz.prog EJ 110 [str name,v] H=some (v',H')∧OutS H v' H' (Tg.Hd.getP name l):=by
 obtain⟨v',H',e,ho⟩:=cget_ex (name:=name) hr hl hs
 have key: ∃r,LC Tryz.prog EJ 110 [str name,v] H=some (Lg.trunc H r)∧OutS H r.1 r.2 (Tg.Hd.getP name l):=by
  refine LC_runs (P:=Tryz.prog) (E:=EJ) (f:=110) rfl Tryz.func110 rfl (Nat.le_of_ble_eq_true rfl) (by decide) (by kernel_rfl) ?_
  simp [e]
  exact ho
 obtain⟨r,e,ho⟩:=key
 obtain⟨H2,e2,ho2⟩:=ho.trunc
 exact⟨r.1,H2,by rw [e,←e2],ho2⟩
theorem cjoin_cl (h:SOwn N H v xs) (hne:xs≠ []) (hn:xs.length≤1000000) (hl:(Tg.Hd.joinC xs).length≤9000000):LC Tryz.prog EJ 190 [v] H=some (str (Tg.Hd.joinC xs),H):=by
 have hj:LC Tryz.prog EJ 260 [v,str [44,32]] H=some (str (Tg.Hd.joinC xs),H):=by
  rcases h.2 with⟨rfl,h0⟩|⟨k,c,rest,rfl,g1,g2,g3,g4,g5⟩
  ·exact absurd (List.eq_nil_of_length_eq_zero h0) hne
  ·exact join_l (n:=xs.length) g3 (by intro e;exact hne (List.eq_nil_of_length_eq_zero e)) g4 (by omega) rfl (by rw [List.drop_zero,List.take_left' (by simp)]) (by unfold Tg.Hd.joinC at hl;omega)
 have hj2:LC Tryz.prog EJ 223 [v] H=some (str (Tg.Hd.joinC xs),H):=by
  refine LC_pure rfl Tryz.func223 rfl (Nat.le_of_ble_eq_true rfl) (by decide) (by kernel_rfl) (by simp) ?_
  simp [hj]
 refine LC_pure rfl Tryz.func190 rfl (Nat.le_of_ble_eq_true rfl) (by decide) (by kernel_rfl) (by simp) ?_
 simp [hj2]
theorem comb_cl (hr:HRow H v l) (hl:l.length≤90000) (hs: ∀h∈l,h.1.length≤1048576) (hjl:(Tg.Hd.joinC (Tg.Hd.getP name l)).length≤9000000):
  LC Tryz.prog EJ 151 [str name,v] H=some (.tuple #[str (Tg.Hd.joinC (Tg.Hd.getP name l)),.bool (decide (Tg.Hd.getP name l≠ []))],H):=by
 obtain⟨v',H',e,ho⟩:=cget_ex (name:=name) hr hl hs
 have hgl:=Tg.Hd.getP_len name l
 refine LC_pure rfl Tryz.func151 rfl (Nat.le_of_ble_eq_true rfl) (by decide) (by kernel_rfl) rfl ?_
 generalize Tg.Hd.getP name l=xs at*
 have hlen:=fun H2:LH=>ho.row.len (H':=H2)
 by_cases hx:xs= []
 ·subst hx
  simp at hlen
  simp [e,hlen,Tg.Hd.joinC,Lib.join]
  exact⟨ho.le,ho.old⟩
 ·have hc:=cjoin_cl ho.row hx (by omega) hjl
  have q:=eq_false (show¬(xs.length:Int)=0 by intro e;exact hx (List.eq_nil_of_length_eq_zero (by omega)))
  simp [e,hlen,hx,hc]
  exact⟨ho.le,ho.old⟩
end
end Go.Proofs.YtjplaockjmhnjaaGreatDoor
namespace Tg.Hd
theorem joinC_take {xs:List (List UInt8)} {i:Nat} (h:i<xs.length):joinC (xs.take (i+1))=if i=0 then xs[i]else joinC (xs.take i)++([44,32]++xs[i]):=by
 rw [List.take_succ_eq_append_getElem h]
 by_cases hi:i=0
 ·subst hi
  rw [if_pos rfl]
  simp [joinC,Go.Lib.join_cons,Go.Lib.joinTail]
 ·rw [if_neg hi]
  cases xs with
  |nil=>simp at h
  |cons a r=>
   obtain⟨j,rfl⟩: ∃j,i=j+1:=⟨i-1,by omega⟩
   rw [List.take_succ_cons,List.cons_append]
   unfold joinC
   rw [Go.Lib.join_cons,Go.Lib.join_cons]
   unfold Go.Lib.joinTail
   rw [List.map_append,List.flatten_append]
   simp
theorem joinC_len {m:Nat} {xs:List (List UInt8)} (h: ∀x∈xs,x.length≤m): ∀i,i≤xs.length→(joinC (xs.take i)).length≤i*(m+2)
 |0,_=>by simp [joinC,Go.Lib.join]
 |i+1,hi=>by
  have ih:=joinC_len h i (by omega)
  have hx:=h xs[i] (List.getElem_mem (by omega))
  rw [joinC_take (by omega),Nat.add_mul]
  split
  ·omega
  ·simp;omega
end Tg.Hd
namespace Go.Proofs.YtjplaockjmhnjaaGreatDoor
open Go.Lg Go.Tg
section
variable {H H':LH} {v w:Value} {N M:Nat} {xs ys:List (List UInt8)}
end
end Go.Proofs.YtjplaockjmhnjaaGreatDoor
namespace Tg.Mi
def valuesP (xs:List (List UInt8)):List (List UInt8):=if xs= []then []else splitP (Tg.Hd.joinC xs)
def every:List UInt8:= [42,47,42]
def oneP (s:List UInt8):Option Mim:=match parseP s with
 |some m=>if essP m.t m.s=every then none else some m
 |none=>none
def allP (l:List (List UInt8)):List Mim:=l.filterMap oneP
def foldM:List Mim→Mim×List UInt8→Mim×List UInt8
 | [],x=>x
 |n::l,x=>foldM l (stepP x.1.t x.1.s x.2 n)
def extractP (xs:List (List UInt8)):Option Mim:=if allP (valuesP xs)= []then none else some (foldM (allP (valuesP xs)) (⟨[],[],[]⟩,[])).1
def BdM (B:Nat) (m:Mim):Prop:=m.t.length≤B∧m.s.length≤B∧m.ps.length≤B∧ ∀p∈m.ps,p.1.length≤B∧p.2.length≤B
theorem parP_bd (y:List UInt8):(parP y).1.1.length≤y.length∧(parP y).1.2.length≤y.length:=by
 have hn:(Tg.Lo.lower ((y.drop (while_ white y)).take (until_ [59,61] (y.drop (while_ white y))))).length≤y.length:=by
  rw [show∀z:List UInt8,(Tg.Lo.lower z).length=z.length from fun z=>by simp [Tg.Lo.lower]]
  rw [List.length_take,List.length_drop];omega
 unfold parP
 split
 ·rename_i z hz
  have h3:=congrArg List.length hz
  rw [List.length_drop,List.length_cons]at h3
  split
  ·exact⟨hn,by simp⟩
  ·have:=valP_len z
   exact⟨hn,by show(valP z).1.length≤y.length;omega⟩
 ·exact⟨hn,by simp⟩
theorem parsP_bd {B:Nat} : ∀(n:Nat) (x:List UInt8) (ps:List Par),x.length≤B→(∀p∈ps,p.1.length≤B∧p.2.length≤B)→(parsP n x ps).length≤ps.length+x.length∧ ∀p∈parsP n x ps,p.1.length≤B∧p.2.length≤B
 |0,x,ps,_,h=>⟨by simp [parsP],h⟩
 |n+1,x,ps,hx,h=>by
  unfold parsP
  split
  ·rename_i y
   simp only [List.length_cons]at hx⊢
   have hb:=parP_bd y
   have hd:(y.drop (parP y).2.2).length≤y.length:=by rw [List.length_drop];omega
   split
   ·have h2:=parsP_bd (B:=B) n (y.drop (parP y).2.2) (ps++ [(parP y).1]) (by omega) (fun p hp=>by
     rcases List.mem_append.1 hp with h1|h1
     ·exact h p h1
     ·rw [List.mem_singleton.1 h1];omega)
    refine⟨?_,h2.2⟩
    have:=h2.1
    rw [List.length_append,List.length_singleton]at this
    omega
   ·have h2:=parsP_bd (B:=B) n (y.drop (parP y).2.2) ps (by omega) h
    exact⟨by have:=h2.1;omega,h2.2⟩
  ·exact⟨by omega,h⟩
theorem parseP_bd {B:Nat} {s:List UInt8} {m:Mim} (hs:s.length≤B) (ht:(Tg.Hd.trim s).length≤s.length) (h:parseP s=some m):BdM B m:=by
 unfold parseP at h
 split at h
 ·rename_i b r hr
  have h3:=congrArg List.length hr
  rw [List.length_drop,List.length_cons]at h3
  split at h
  ·injection h with h
   subst h
   have hlow: ∀z:List UInt8,(Tg.Lo.lower z).length=z.length:=fun z=>by simp [Tg.Lo.lower]
   have hb:=back_le white (r.take (until_ [59] r))
   rw [List.length_take]at hb
   have hp:=parsP_bd (B:=B) (r.length+1) (r.drop (until_ [59] r)) [] (by rw [List.length_drop];omega) (by simp)
   have hp1:=hp.1
   rw [List.length_drop,List.length_nil]at hp1
   exact⟨by rw [hlow,List.length_take];omega,by rw [hlow];omega,by show(parsP _ _ _).length≤B;omega,hp.2⟩
  ·cases h
 ·cases h
theorem cutQ_bd {B:Nat} : ∀(n:Nat) (x acc:List UInt8),acc.length+x.length≤B→ ∀p∈cutQ n x acc,p.length≤B
 |0,x,acc,h,p,hp=>by simp [cutQ]at hp;subst hp;omega
 |n+1,[],acc,h,p,hp=>by simp [cutQ]at hp;subst hp;simpa using h
 |n+1,b::r,acc,h,p,hp=>by
  simp only [List.length_cons]at h
  unfold cutQ at hp
  split at hp
  ·have h1:=coll_all r
   have h2:=coll_le r
   exact cutQ_bd n _ _ (by rw [List.length_append,List.length_cons,List.length_drop,h1,List.length_take];omega) p hp
  ·split at hp
   ·rcases List.mem_cons.1 hp with h1|h1
    ·subst h1;omega
    ·exact cutQ_bd n r [] (by simp;omega) p h1
   ·exact cutQ_bd n r (acc++ [b]) (by rw [List.length_append,List.length_singleton];omega) p hp
theorem cutQ_len: ∀(n:Nat) (x acc:List UInt8),(cutQ n x acc).length≤x.length+1
 |0,x,acc=>by simp [cutQ]
 |n+1,[],acc=>by simp [cutQ]
 |n+1,b::r,acc=>by
  unfold cutQ
  split
  ·have:=cutQ_len n (r.drop (coll r).2.2) (acc++34::(coll r).2.1)
   rw [List.length_drop]at this
   simp only [List.length_cons];omega
  ·split
   ·have:=cutQ_len n r []
    simp only [List.length_cons];omega
   ·have:=cutQ_len n r (acc++ [b])
    simp only [List.length_cons];omega
theorem trimP_le (s:List UInt8):(trimP s).length≤s.length:=by
 have:=back_le tab s
 unfold trimP
 rw [List.length_drop];omega
theorem valuesP_bd {B:Nat} {xs:List (List UInt8)} (h:(Tg.Hd.joinC xs).length≤B):(valuesP xs).length≤B+1∧ ∀p∈valuesP xs,p.length≤B:=by
 unfold valuesP
 split
 ·simp
 ·unfold splitP
  refine⟨?_,fun p hp=>?_⟩
  ·have:=cutQ_len (Tg.Hd.joinC xs).length (Tg.Hd.joinC xs) []
   rw [List.length_map];omega
  ·obtain⟨q,hq,rfl⟩:=List.mem_map.1 hp
   exact Nat.le_trans (trimP_le q) (cutQ_bd _ _ _ (by simpa using h) q hq)
theorem stepP_bd {B:Nat} {t s set:List UInt8} {n:Mim} (hn:BdM B n) (hs:set.length≤B) (hc:charset.length≤B):BdM (B+1) (stepP t s set n).1∧(stepP t s set n).2.length≤B:=by
 have hp:(parmP n.ps charset).1.length≤B:=by
  unfold parmP
  split
  ·simp
  ·rename_i h
   rcases fnd_ge charset n.ps 0 with hf|⟨j,hf,hj,_⟩
   ·rw [hf]at h;exact absurd (by decide) h
   ·rw [Nat.zero_add]at hf
    rw [hf,Int.toNat_natCast,List.getD_eq_getElem?_getD,List.getElem?_eq_getElem hj]
    exact(hn.2.2.2 _ (List.getElem_mem hj)).2
 have hup:BdM (B+1) n:=⟨Nat.le_succ_of_le hn.1,Nat.le_succ_of_le hn.2.1,Nat.le_succ_of_le hn.2.2.1,fun p hp=>⟨Nat.le_succ_of_le (hn.2.2.2 p hp).1,Nat.le_succ_of_le (hn.2.2.2 p hp).2⟩⟩
 unfold stepP
 split
 ·exact⟨hup,hp⟩
 ·split
  ·refine⟨⟨hup.1,hup.2.1,by show(n.ps++ [(charset,set)]).length≤B+1;rw [List.length_append,List.length_singleton];have:=hn.2.2.1;omega,fun p hp=>?_⟩,hs⟩
   rcases List.mem_append.1 hp with h1|h1
   ·exact hup.2.2.2 p h1
   ·rw [List.mem_singleton.1 h1];exact⟨Nat.le_succ_of_le hc,Nat.le_succ_of_le hs⟩
  ·exact⟨hup,hs⟩
end Tg.Mi
namespace Go.Proofs.YtjplaockjmhnjaaGreatDoor.Mi
open Go.Lg Go.Tg
section
variable {H H':LH} {N M b c l i p:Nat} {s t u name value set:List UInt8} {v w:Value} {ps:List Tg.Mi.Par} {a:Tg.Mi.Par} {m:Tg.Mi.Mim} {xs:List (List UInt8)}
theorem lesz_mime:lesz Tryz.prog 41=some elM.n:=by kernel_rfl
theorem szS:sz Tryz.prog 9=some elS.n:=by kernel_rfl
theorem szM:sz Tryz.prog 41=some elM.n:=by kernel_rfl
theorem values_ex (h:SOwn M H v xs) (hn:xs.length≤10000) (hl:(Tg.Hd.joinC xs).length≤100000) (hN:N≤H.n):Gives Tryz.prog EJ 217 [v] H fun H' r=>RowG elS 9 N H' r (Tg.Mi.valuesP xs):=by
 refine gives_of ?_ (fun v H' hf h=>h.flat hf)
 refine LC_runs (P:=Tryz.prog) (E:=EJ) (f:=217) rfl Tryz.func217 rfl (Nat.le_of_ble_eq_true rfl) (by decide) (by kernel_rfl) ?_
 have hlen:=fun H2:LH=>SOwn.len h (H':=H2)
 unfold Tg.Mi.valuesP
 by_cases hx:xs= []
 ·subst hx
  simp at hlen
  simp [hlen]
  exact RowG.nil
 ·have q:=eq_false (show¬(xs.length:Int)=0 by intro e;exact hx (List.eq_nil_of_length_eq_zero (by omega)))
  have hj:LC Tryz.prog EJ 223 [v] H=some (str (Tg.Hd.joinC xs),H):=by
   have hj:LC Tryz.prog EJ 260 [v,str [44,32]] H=some (str (Tg.Hd.joinC xs),H):=by
    rcases h.2 with⟨rfl,h0⟩|⟨k,c,rest,rfl,g1,g2,g3,g4,g5⟩
    ·exact absurd (List.eq_nil_of_length_eq_zero h0) hx
    ·exact join_l (n:=xs.length) g3 (by intro e;exact hx (List.eq_nil_of_length_eq_zero e)) g4 (by omega) rfl (by rw [List.drop_zero,List.take_left' (by simp)]) (by unfold Tg.Hd.joinC at hl;omega)
   refine LC_pure rfl Tryz.func223 rfl (Nat.le_of_ble_eq_true rfl) (by decide) (by kernel_rfl) (by simp) ?_
   simp [hj]
  obtain⟨v2,H2,e2,le2,r2⟩:=split_ex hN hl
  rw [if_neg hx]
  simp [hlen,hx,hj,e2]
  exact⟨le2,r2⟩
theorem str_at (hr:RowG elS 9 N H v xs) {i:Nat} (hi:i<xs.length): ∃k o,(∀H':LH,lixa Tryz.prog 60 v (.int .i64 i) H'=some (ptr k o,H'))∧k<H.n∧ ∀H':LH,H'.get k=H.get k→lld Tryz.prog 9 (ptr k o) H'=some (str xs[i]):=by
 obtain⟨k,o,cs,h1,h2,h3,h4⟩:=hr.at (P:=Tryz.prog) (t:=60) Tryz.underlying60 szS hi
 have h3:cs= [str xs[i]]:=h3
 subst h3
 exact⟨k,o,h1,h2,fun H' he=>(h4 H' he).2.1 0 _ _ (by kernel_rfl) rfl⟩
theorem mime_at {ms:List Tg.Mi.Mim} (hr:RowG elM 41 N H v ms) {i:Nat} (hi:i<ms.length): ∃k o w,(∀H':LH,lixa Tryz.prog 81 v (.int .i64 i) H'=some (ptr k o,H'))∧k<H.n∧RowG elP 87 N H w ms[i].ps∧ ∀H':LH,H'.get k=H.get k→lld Tryz.prog 41 (ptr k o) H'=some (mv ms[i].t ms[i].s w):=by
 obtain⟨k,o,cs,h1,h2,h3,h4⟩:=hr.at (P:=Tryz.prog) (t:=81) Tryz.underlying81 szM hi
 obtain⟨w,rfl,h5⟩:=h3
 exact⟨k,o,w,h1,h2,h5,fun H' he=>(h4 H' he).1 (by kernel_rfl)⟩
theorem bs1m:lbuildSlice Tryz.prog 81 1 [(0,mv t u v)] H=some (sl H.n 1 1,H.new ⟨[str t,str u,v],41,true⟩):=by
 unfold lbuildSlice
 simp [Instr.fill,Value.cells,Array.range]
 rfl
theorem all_ex (h:SOwn M H v xs) (hn:xs.length≤10000) (hl:(Tg.Hd.joinC xs).length≤5000) (hN:N≤H.n):Gives Tryz.prog EJ 187 [v] H fun H' r=>OwnG elM 41 N H.n H' r (Tg.Mi.allP (Tg.Mi.valuesP xs)):=by
 refine gives_of ?_ (fun v H' hf h=>h.flat hf)
 refine LC_runs (P:=Tryz.prog) (E:=EJ) (f:=187) rfl Tryz.func187 rfl (Nat.le_of_ble_eq_true rfl) (by decide) (by kernel_rfl) ?_
 obtain⟨v1,H1,e1,le1,r1⟩:=values_ex h hn (by omega) hN
 obtain⟨hb1,hb2⟩:=Tg.Mi.valuesP_bd hl
 generalize Tg.Mi.valuesP xs=ys at*
 have hlen:=fun H':LH=>r1.len (P:=Tryz.prog) (t:=60) (H':=H') Tryz.underlying60
 simp [e1,hlen]
 refine loop_ind (fun(i:Nat) fr' H'=> ∃vo,fr' 3=vo∧fr' 9=v1∧fr' 10=.int .i64 ys.length∧fr' 11=.int .i64 i∧i≤ys.length∧OwnG elM 41 N H1.n H' vo (Tg.Mi.allP (ys.take i))∧H1.n≤H'.n∧(∀k,k<H1.n→H'.get k=H1.get k)) (fun i=>ys.length-i) 0 ⟨_,by simp,by simp,by simp,by simp,Nat.zero_le _,OwnG.nil,Nat.le_refl _,fun _ _=>rfl⟩ ?_
 rintro i fr' H2 ⟨vo,f3,f9,f10,f11,hi,how,hn2,hold⟩ ih
 have le2:H1.le H2:=⟨hn2,hold⟩
 have r2:=r1.le le2
 by_cases hlt:i<ys.length
 ·have q:=eq_true (show(i:Int)<(ys.length:Int) by omega)
  have hw:IntKind.i64.wrap ((i:Int)+1)=((i+1:Nat):Int):=by rw [wrapI (by omega) (by omega)];omega
  obtain⟨k,o,g1,g2,g3⟩:=str_at r2 hlt
  have g4:=g3 H2 rfl
  have hyl:=hb2 ys[i] (List.getElem_mem hlt)
  have hnew:Tg.Mi.allP (ys.take (i+1))=Tg.Mi.allP (ys.take i)++(match Tg.Mi.oneP ys[i]with|some m=> [m]|none=> []):=by
   rw [List.take_succ_eq_append_getElem hlt]
   unfold Tg.Mi.allP
   rw [List.filterMap_append]
   congr 1
   simp only [List.filterMap_cons,List.filterMap_nil]
   cases Tg.Mi.oneP ys[i]<;>rfl
  have hol:(Tg.Mi.allP (ys.take i)).length≤i:=Nat.le_trans (List.length_filterMap_le _ _) (by rw [List.length_take];omega)
  obtain⟨v3,H3,e3,le3,r3⟩:=mparse_ex (s:=ys[i]) (show N≤H2.n by have:=le1.1;omega) (by omega)
  have how3:=how.le le3
  have hbd:=fun m h=>Tg.Mi.parseP_bd (B:=5000) (m:=m) hyl (trimH_len _) h
  have ihx:=fun fr2 H5=>ih (i+1) fr2 H5 (by omega)
  clear ih
  rw [hnew]at ihx
  unfold Tg.Mi.oneP at ihx
  generalize Tg.Mi.allP (ys.take i)=out at*
  generalize ys[i]=y at*
  cases hp:Tg.Mi.parseP y with
  |none=>
   rw [hp]at r3 ihx
   have r3:v3=.tuple #[mv [] [] (.slice none 0 0),.int .i64 2]:=r3
   subst r3
   have hfin:=fun fr2 (g3:fr2 3=vo) (g9:fr2 9=v1) (g10:fr2 10=.int .i64 ys.length) (g11:fr2 11=.int .i64 ((i+1:Nat):Int))=>ihx fr2 (H3.new ⟨[str [],str [],.slice none 0 0],41,true⟩) ⟨vo,g3,g9,g10,g11,by omega,by simpa using how3.le le_refl.new,by rw [n_new];have:=le3.1;omega,fun k hk=>by rw [get_new_ne (by have:=le3.1;omega),le3.2 k (by omega),hold k hk]⟩
   clear ihx
   simp [f3,f9,f10,f11,q,hlt,g1,g4,e3]
   refine hfin _ ?_ ?_ ?_ ?_
   all_goals simp [f3,f9,f10,hw]
  |some m=>
   rw [hp]at r3 ihx
   obtain⟨vp,rfl,r3⟩:=r3
   obtain⟨bt,bs,bp,bq⟩:=hbd m hp
   have hcp:=r3.cell
   obtain⟨H4,hH4⟩: ∃H4,H4=H3.new ⟨[str m.t,str m.s,vp],41,true⟩:=⟨_,rfl⟩
   have le4:H3.le H4:=by rw [hH4];exact le_refl.new
   have g6:H4.get H3.n=some ⟨[str m.t,str m.s,vp],41,true⟩:=by rw [hH4];exact get_new
   have e5:=fun H:LH=>ess_k (H:=H) (t:=m.t) (u:=m.s) (v:=vp) (by omega) (by omega) hcp
   have how4:=how3.le le4
   have hev:Tg.Mi.every= [42,47,42]:=rfl
   have hn3:=le3.1
   have hn4:=le4.1
   have hn1:=le1.1
   by_cases hc:Tg.Mi.essP m.t m.s=Tg.Mi.every
   ·simp only [if_pos hc,List.append_nil]at ihx
    have hc:=eq_true hc
    rw [hev]at hc
    have hfin:=fun fr2 (g3:fr2 3=vo) (g9:fr2 9=v1) (g10:fr2 10=.int .i64 ys.length) (g11:fr2 11=.int .i64 ((i+1:Nat):Int))=>ihx fr2 H4 ⟨vo,g3,g9,g10,g11,by omega,how4,by omega,fun k hk=>by rw [le4.2 k (by omega),le3.2 k (by omega),hold k hk]⟩
    clear ihx
    simp [f3,f9,f10,f11,q,hlt,g1,g4,e3,←hH4,hcp,g6,e5,hc]
    refine hfin _ ?_ ?_ ?_ ?_
    all_goals simp [f3,f9,f10,hw]
   ·simp only [if_neg hc]at ihx
    have hc:=eq_false hc
    rw [hev]at hc
    obtain⟨v5,H5,a5,r5,n5,k5,o5,kp5⟩:=how4.app (t:=81) (cs:= [str m.t,str m.s,vp]) (a:=m) Tryz.underlying81 lesz_mime (by omega) (by omega) (by unfold maxElems;omega) ⟨vp,rfl,r3.le le4⟩ (by show¬41=87;decide)
    have hfin:=fun fr2 (g3:fr2 3=v5) (g9:fr2 9=v1) (g10:fr2 10=.int .i64 ys.length) (g11:fr2 11=.int .i64 ((i+1:Nat):Int))=>ihx fr2 H5 ⟨v5,g3,g9,g10,g11,by omega,r5,by omega,fun k hk=>by rw [k5 k (by omega) (how4.off_lt hk),le4.2 k (by omega),le3.2 k (by omega),hold k hk]⟩
    clear ihx
    simp [f3,f9,f10,f11,q,hlt,g1,g4,e3,←hH4,hcp,g6,e5,hc,bs1m,a5]
    refine hfin _ ?_ ?_ ?_ ?_
    all_goals simp [f3,f9,f10,hw]
 ·have q:=eq_false (show¬(i:Int)<(ys.length:Int) by omega)
  rw [List.take_of_length_le (by omega)]at how
  simp [f3,f9,f10,f11,q,hlt]
  exact⟨le1.trans le2,how.weak le1.1⟩
end
section
variable {H H':LH} {N M:Nat} {s t u name:List UInt8} {v w:Value} {ps:List Tg.Mi.Par} {xs:List (List UInt8)}
end
end Go.Proofs.YtjplaockjmhnjaaGreatDoor.Mi
namespace Tg.Mi
theorem oneP_bd {B:Nat} {s:List UInt8} {m:Mim} (hs:s.length≤B) (ht:(Tg.Hd.trim s).length≤s.length) (h:oneP s=some m):BdM B m:=by
 unfold oneP at h
 split at h
 ·rename_i m' hp
  split at h
  ·cases h
  ·injection h with h;subst h;exact parseP_bd hs ht hp
 ·cases h
theorem allP_bd {B:Nat} {l:List (List UInt8)} (h: ∀s∈l,s.length≤B) (ht: ∀s:List UInt8,(Tg.Hd.trim s).length≤s.length): ∀m∈allP l,BdM B m:=by
 intro m hm
 obtain⟨s,hs,e⟩:=List.mem_filterMap.1 hm
 exact oneP_bd (h s hs) (ht s) e
end Tg.Mi
namespace Go.Proofs.YtjplaockjmhnjaaGreatDoor.Mi
open Go.Lg Go.Tg
section
variable {H H':LH} {N M b c l i p:Nat} {s t u name value set:List UInt8} {v w:Value} {ps:List Tg.Mi.Par} {a:Tg.Mi.Par} {m:Tg.Mi.Mim} {xs:List (List UInt8)}
def MimR (e:Int) (N:Nat) (o:Option Tg.Mi.Mim) (H:LH) (r:Value):Prop:=match o with
 |some m=> ∃v,r=.tuple #[mv m.t m.s v,.int .i64 0]∧RowG elP 87 N H v m.ps
 |none=>r=.tuple #[mv [] [] (.slice none 0 0),.int .i64 e]
theorem MimR.flat {e:Int} {o:Option Tg.Mi.Mim} (h:MimR e N o H' v) (hf:flatB v=true):MimR e N o H v:=by
 cases o with
 |none=>exact h
 |some m=>
  obtain⟨w,rfl,h⟩:=h
  exact⟨w,rfl,h.flat (flat_mvt hf h.cell)⟩
theorem extract_ex (h:SOwn M H v xs) (hn:xs.length≤10000) (hl:(Tg.Hd.joinC xs).length≤5000) (hN:N≤H.n):Gives Tryz.prog EJ 149 [v] H (MimR 4 N (Tg.Mi.extractP xs)):=by
 refine gives_of ?_ (fun v H' hf h=>h.flat hf)
 refine LC_runs (P:=Tryz.prog) (E:=EJ) (f:=149) rfl Tryz.func149 rfl (Nat.le_of_ble_eq_true rfl) (by decide) (by kernel_rfl) ?_
 unfold Tg.Mi.extractP
 obtain⟨H0,hH0⟩: ∃H0,H0=(H.new ⟨[str [],str [],.slice none 0 0],41,true⟩).new ⟨[str [],str [],.slice none 0 0],41,true⟩:=⟨_,rfl⟩
 have le0:H.le H0:=by rw [hH0];exact le_refl.new.new
 have n0:H0.n=H.n+1+1:=by rw [hH0];rfl
 have a0:H0.get H.n=some ⟨[str [],str [],.slice none 0 0],41,true⟩:=by rw [hH0,get_new_ne (by simp),get_new]
 have b0:H0.get (H.n+1)=some ⟨[str [],str [],.slice none 0 0],41,true⟩:=by rw [hH0];exact get_new
 have h0:SOwn M H0 v xs:=RowN.keep h le0.1 (fun k _ _ hk=>le0.2 k hk)
 obtain⟨v1,H1,e1,le1,r1⟩:=all_ex h0 hn hl (show N≤H0.n by omega)
 have hbd: ∀m∈Tg.Mi.allP (Tg.Mi.valuesP xs),Tg.Mi.BdM 5000 m:=Tg.Mi.allP_bd (Tg.Mi.valuesP_bd hl).2 trimH_len
 have hcl:(Tg.Mi.allP (Tg.Mi.valuesP xs)).length≤5001:=Nat.le_trans (List.length_filterMap_le _ _) (Tg.Mi.valuesP_bd hl).1
 generalize Tg.Mi.allP (Tg.Mi.valuesP xs)=ms at*
 have a1:=(le1.2 H.n (by omega)).trans a0
 have b1:=(le1.2 (H.n+1) (by omega)).trans b0
 have n1:=le1.1
 have hlen:=fun H':LH=>r1.row.len (P:=Tryz.prog) (t:=81) (H':=H') Tryz.underlying81
 obtain⟨T,hT⟩: ∃T,T=Tg.Mi.foldM ms (⟨[],[],[]⟩,[]):=⟨_,rfl⟩
 rw [←hT]
 have d1:(H.n=H.n+1)=False:=eq_false (by omega)
 have d2:(H.n+1=H.n)=False:=eq_false (by omega)
 simp [←hH0,e1,hlen]
 refine loop_ind (fun(i:Nat) fr' H'=> ∃(m:Tg.Mi.Mim) (set:List UInt8) (vp:Value),fr' 2=ptr H.n 0∧fr' 4=ptr (H.n+1) 0∧fr' 5=str set∧fr' 6=v1∧fr' 11=v1∧fr' 12=.int .i64 ms.length∧fr' 13=.int .i64 i∧i≤ms.length∧H'.get H.n=some ⟨[str [],str [],.slice none 0 0],41,true⟩∧H'.get (H.n+1)=some ⟨[str m.t,str m.s,vp],41,true⟩∧RowG elP 87 N H' vp m.ps∧OwnG elM 41 N (H.n+1+1) H' v1 ms∧H.n+2≤H'.n∧(∀k,k<H.n→H'.get k=H.get k)∧Tg.Mi.BdM 5001 m∧set.length≤5000∧T=Tg.Mi.foldM (ms.drop i) (m,set)) (fun i=>ms.length-i) 0 ⟨⟨[],[],[]⟩,[],.slice none 0 0,by simp,by simp,by simp,by simp,by simp,by simp,by simp,Nat.zero_le _,a1,b1,RowG.nil,r1.weak (by omega),by omega,fun k hk=>by rw [le1.2 k (by omega),le0.2 k hk],⟨by decide,by decide,by decide,by simp⟩,by simp,hT⟩ ?_
 rintro i fr' H2 ⟨m,set,vp,f2,f4,f5,f6,f11,f12,f13,hi,ga,gb,hrp,how,hn2,hold,hbm,hsl,hq⟩ ih
 have hcp:=hrp.cell
 by_cases hlt:i<ms.length
 ·have q:=eq_true (show(i:Int)<(ms.length:Int) by omega)
  have hw:IntKind.i64.wrap ((i:Int)+1)=((i+1:Nat):Int):=by rw [wrapI (by omega) (by omega)];omega
  obtain⟨k,o,wp,g1,g2,g3,g4⟩:=mime_at how.row hlt
  have g4:=g4 H2 rfl
  rw [List.drop_eq_getElem_cons hlt]at hq
  have hbn:=hbd ms[i] (List.getElem_mem hlt)
  generalize ms[i]=nx at*
  unfold Tg.Mi.foldM at hq
  obtain⟨bt,bs,bp,bq⟩:=hbn
  have hcw:=g3.cell
  obtain⟨H3,hH3⟩: ∃H3,H3=H2.new ⟨[str nx.t,str nx.s,wp],41,true⟩:=⟨_,rfl⟩
  have le3:H2.le H3:=by rw [hH3];exact le_refl.new
  have n3:H3.n=H2.n+1:=by rw [hH3];rfl
  have c3:H3.get H2.n=some ⟨[str nx.t,str nx.s,wp],41,true⟩:=by rw [hH3];exact get_new
  have gb3:=(le3.2 (H.n+1) (by omega)).trans gb
  obtain⟨r4,H4,e4,le4,x4,rfl,r4⟩:=step_ex (m:=nx) (t:=m.t) (u:=m.s) (w:=vp) (set:=set) (N:=N) (H:=H3) (g3.le le3) (by omega) (by omega) (fun p hp=>by have:=bq p hp;omega) (by omega) (by omega) (by have:=hbm.1;omega) (by have:=hbm.2.1;omega) (by omega) hcp
  have hsb:=Tg.Mi.stepP_bd (t:=m.t) (s:=m.s) (set:=set) (n:=nx) (B:=5000) ⟨bt,bs,bp,bq⟩ hsl (by decide)
  generalize Tg.Mi.stepP m.t m.s set nx=X at*
  have hcx:=r4.cell
  have gb4:=(le4.2 (H.n+1) (by omega)).trans gb3
  have ga4:=((le3.trans le4).2 H.n (by omega)).trans ga
  have n4:=le4.1
  have how4:=how.le (le3.trans le4)
  have m1:(H.n+1=H2.n)=False:=eq_false (by omega)
  have m2:(H.n=H2.n)=False:=eq_false (by omega)
  have hfin:=fun fr2 (g2:fr2 2=ptr H.n 0) (g4':fr2 4=ptr (H.n+1) 0) (g5:fr2 5=str X.2) (g6:fr2 6=v1) (g11:fr2 11=v1) (g12:fr2 12=.int .i64 ms.length) (g13:fr2 13=.int .i64 ((i+1:Nat):Int))=>ih (i+1) fr2 (H4.set (H.n+1) ⟨[str X.1.t,str X.1.s,x4],41,true⟩) (by omega) ⟨X.1,X.2,x4,g2,g4',g5,g6,g11,g12,g13,by omega,by rw [get_set_ne (by omega)];exact ga4,get_set,
   r4.keep ⟨Nat.le_refl _,fun k b hk hb hor=>by
    by_cases hkc:k=H.n+1
    ·subst hkc
     rw [gb4]at hb
     injection hb with hb
     subst hb
     rcases hor with h4|h4|h4
     ·omega
     ·exact absurd h4 (by show 41≠87;decide)
     ·exact h4.elim
    ·rw [get_set_ne hkc];exact hb⟩,
   how4.keep ⟨Nat.le_refl _,fun k b hk hb hor=>by
    by_cases hkc:k=H.n+1
    ·subst hkc
     rw [gb4]at hb
     injection hb with hb
     subst hb
     rcases hor with h4|h4
     ·omega
     ·exact absurd h4 (by show¬41=87;decide)
    ·rw [get_set_ne hkc];exact hb⟩ (fun k hk _ _=>get_set_ne (by omega)),
   by rw [n_set];omega,fun k hk=>by rw [get_set_ne (by omega),(le3.trans le4).2 k (by omega)];exact hold k hk,hsb.1,hsb.2,hq⟩
  clear ih hq
  simp [f2,f4,f5,f6,f11,f12,f13,q,hlt,g1,g4,hcw,←hH3,gb3,c3,e4,gb4,hcx,m1]
  refine hfin _ ?_ ?_ ?_ ?_ ?_ ?_ ?_
  all_goals simp [f2,f4,f6,f11,f12,hw]
 ·have q:=eq_false (show¬(i:Int)<(ms.length:Int) by omega)
  rw [List.drop_of_length_le (by omega)]at hq
  have hq:T=(m,set):=hq
  subst hq
  have hlen2:=fun H':LH=>how.row.len (P:=Tryz.prog) (t:=81) (H':=H') Tryz.underlying81
  have hle2:H.le H2:=⟨by omega,hold⟩
  clear ih
  by_cases hm:ms= []
  ·subst hm
   obtain rfl:i=0:=by simpa using hi
   simp at hlen2 f12 f13
   simp [f2,f4,f5,f6,f11,f12,f13,hlen2,ga,MimR]
   exact hle2
  ·have qm:=eq_false (show¬(ms.length:Int)=0 by intro e;exact hm (List.eq_nil_of_length_eq_zero (by omega)))
   rw [if_neg hm]
   simp [f2,f4,f5,f6,f11,f12,f13,q,hlt,hlen2,ga,gb,hm,qm,hcp,d1,d2]
   refine⟨hle2,vp,rfl,hrp.keep ⟨Nat.le_refl _,fun k b hk hb hor=>by
    by_cases hkc:k=H.n
    ·subst hkc
     rw [ga]at hb
     injection hb with hb
     subst hb
     rcases hor with h4|h4|h4
     ·omega
     ·exact absurd h4 (by show 41≠87;decide)
     ·exact h4.elim
    ·rw [get_set_ne hkc];exact hb⟩⟩
theorem Extract_ex (h:SOwn M H v xs) (hn:xs.length≤10000) (hl:(Tg.Hd.joinC xs).length≤5000) (hN:N≤H.n):Gives Tryz.prog EJ 109 [v] H (MimR 4 N (Tg.Mi.extractP xs)):=by
 refine gives_of ?_ (fun v H' hf h=>h.flat hf)
 refine LC_runs (P:=Tryz.prog) (E:=EJ) (f:=109) rfl Tryz.func109 rfl (Nat.le_of_ble_eq_true rfl) (by decide) (by kernel_rfl) ?_
 obtain⟨H0,hH0⟩: ∃H0,H0=H.new ⟨[str [],str [],.slice none 0 0],41,true⟩:=⟨_,rfl⟩
 have le0:H.le H0:=by rw [hH0];exact le_refl.new
 have n0:H0.n=H.n+1:=by rw [hH0];rfl
 have a0:H0.get H.n=some ⟨[str [],str [],.slice none 0 0],41,true⟩:=by rw [hH0,get_new]
 have h0:SOwn M H0 v xs:=RowN.keep h le0.1 (fun k _ _ hk=>le0.2 k hk)
 obtain⟨v1,H1,e1,le1,r1⟩:=extract_ex (N:=N) h0 hn hl (by omega)
 have a1:=(le1.2 H.n (by omega)).trans a0
 have hle:=le0.trans le1
 cases hx:Tg.Mi.extractP xs with
 |none=>
  rw [hx]at r1
  have r1:v1=.tuple #[mv [] [] (.slice none 0 0),.int .i64 4]:=r1
  subst r1
  simp [←hH0,e1,a1,MimR]
  exact hle
 |some m=>
  rw [hx]at r1
  obtain⟨vp,rfl,r1⟩:=r1
  have hcp:=r1.cell
  simp [←hH0,e1,a1,hcp,MimR]
  refine⟨hle,r1.keep ⟨Nat.le_refl _,fun k b hk hb hor=>by
    by_cases hkc:k=H.n
    ·subst hkc
     rw [a1]at hb
     injection hb with hb
     subst hb
     rcases hor with h4|h4|h4
     ·omega
     ·exact absurd h4 (by show 41≠87;decide)
     ·exact h4.elim
    ·rw [get_set_ne hkc];exact hb⟩⟩
end
end Go.Proofs.YtjplaockjmhnjaaGreatDoor.Mi
namespace Tg.Mi
end Tg.Mi
namespace Go.Proofs.YtjplaockjmhnjaaGreatDoor.Mi
open Go.Lg Go.Tg
section
variable {H H':LH} {N M:Nat} {s t u name set:List UInt8} {v w:Value} {ps:List Tg.Mi.Par} {xs:List (List UInt8)} {m:Tg.Mi.Mim}
end
end Go.Proofs.YtjplaockjmhnjaaGreatDoor.Mi
namespace Tg.Mi
def ctype:List UInt8:= [67,111,110,116,101,110,116,45,84,121,112,101]
def xopt:List UInt8:= [88,45,67,111,110,116,101,110,116,45,84,121,112,101,45,79,112,116,105,111,110,115]
def word:List UInt8:= [110,111,115,110,105,102,102]
def SmH (l:List Tg.Hd.Hdr):Prop:=l.length≤8∧ ∀h∈l,h.1.length≤30∧h.2.length≤100
def typeP (l:List Tg.Hd.Hdr):Option Mim:=extractP (Tg.Hd.getP ctype l)
def rawP (l:List Tg.Hd.Hdr):List UInt8:=(Tg.Hd.getP ctype l).getLast?.getD []
def noP (l:List Tg.Hd.Hdr):Bool:=match valuesP (Tg.Hd.getP xopt l)with
 | []=>false
 |a::_=>decide (Tg.Lo.lower a=Tg.Lo.lower word)
def noM:Mim:=⟨[],[],[]⟩
theorem getP_mem {name:List UInt8} {l:List Tg.Hd.Hdr} {x:List UInt8} (h:x∈Tg.Hd.getP name l): ∃a∈l,a.2=x:=by
 unfold Tg.Hd.getP at h
 obtain⟨a,ha,e⟩:=List.mem_map.1 h
 exact⟨a,(List.mem_filter.1 ha).1,e⟩
theorem joinS {name:List UInt8} {l:List Tg.Hd.Hdr} (h:SmH l):(Tg.Hd.joinC (Tg.Hd.getP name l)).length≤1000:=by
 have h1:=Tg.Hd.joinC_len (m:=100) (xs:=Tg.Hd.getP name l) (fun x hx=>by
  obtain⟨a,ha,rfl⟩:=getP_mem hx
  exact(h.2 a ha).2) (Tg.Hd.getP name l).length (Nat.le_refl _)
 rw [List.take_of_length_le (Nat.le_refl _)]at h1
 have h2:=Tg.Hd.getP_len name l
 have h3:=h.1
 have h4:=Nat.mul_le_mul_right (100+2) (show(Tg.Hd.getP name l).length≤8 by omega)
 omega
end Tg.Mi
namespace Go.Proofs.YtjplaockjmhnjaaGreatDoor
open Go.Lg Go.Tg
theorem HRow.ro {H:LH} {v:Value} {l:List Tg.Hd.Hdr} (h:HRow H v l):HRow H.ro v l:=by
 rcases h with h|⟨k,o,c,h1,h2⟩
 ·exact .inl h
 ·refine .inr ⟨k,o,c,h1,fun hne=>?_⟩
  obtain⟨b,h2,h3,h4⟩:=h2 hne
  exact⟨{ b with rw:=false },by rw [get_ro,h2];rfl,by rw [n_ro];exact h3,h4⟩
end Go.Proofs.YtjplaockjmhnjaaGreatDoor
namespace Go.Proofs.YtjplaockjmhnjaaGreatDoor.Mi
open Go.Lg Go.Tg
abbrev svp (m:Tg.Mi.Mim) (v:Value) (has no bug:Bool):Value:=.agg #[str m.t,str m.s,v,.bool has,.bool no,.bool bug]
section
variable {H H':LH} {N M:Nat} {v w:Value} {l:List Tg.Hd.Hdr} {m:Tg.Mi.Mim} {xs:List (List UInt8)}
theorem nextract_ex (hr:HRow H v l) (hs:Tg.Mi.SmH l) (hN:N≤H.n):Gives Tryz.prog EJ 68 [v] H fun H' r=> ∃w,r=.tuple #[mv ((Tg.Mi.typeP l).getD Tg.Mi.noM).t ((Tg.Mi.typeP l).getD Tg.Mi.noM).s w,.bool (Tg.Mi.typeP l).isSome]∧RowG elP 87 N H' w ((Tg.Mi.typeP l).getD Tg.Mi.noM).ps:=by
 refine gives_of ?_ (fun v H' hf h=>by
  obtain⟨w,rfl,h⟩:=h
  exact⟨w,rfl,h.flat (flat_mvt hf h.cell)⟩)
 refine LC_runs (P:=Tryz.prog) (E:=EJ) (f:=68) rfl Tryz.func68 rfl (Nat.le_of_ble_eq_true rfl) (by decide) (by kernel_rfl) ?_
 obtain⟨H0,hH0⟩: ∃H0,H0=H.new ⟨[str [],str [],.slice none 0 0],41,true⟩:=⟨_,rfl⟩
 have le0:H.le H0:=by rw [hH0];exact le_refl.new
 have n0:H0.n=H.n+1:=by rw [hH0];rfl
 have a0:H0.get H.n=some ⟨[str [],str [],.slice none 0 0],41,true⟩:=by rw [hH0,get_new]
 obtain⟨v1,H1,e1,o1⟩:=Get_ex (name:=Tg.Mi.ctype) (hr.keep le0.1 le0.2) (by have:=hs.1;omega) (fun h hh=>by have:=(hs.2 h hh).1;omega)
 have le1:H0.le H1:=⟨o1.le,o1.old⟩
 have hjl:=Tg.Mi.joinS (name:=Tg.Mi.ctype) hs
 have hgl:=Tg.Hd.getP_len Tg.Mi.ctype l
 obtain⟨v2,H2,e2,le2,r2⟩:=Extract_ex (N:=N) o1.row (by have:=hs.1;omega) (by omega) (by have:=le1.1;omega)
 rw [show Tg.Mi.ctype= [67,111,110,116,101,110,116,45,84,121,112,101] from rfl]at e1
 have a2:=((le1.trans le2).2 H.n (by omega)).trans a0
 have hle:=le0.trans (le1.trans le2)
 have n2:=hle.1
 have hlt2:H.n<H2.n:=by have:=(le1.trans le2).1;omega
 have m1:(H.n=H2.n)=False:=eq_false (by omega)
 change MimR 4 N (Tg.Mi.typeP l) H2 v2 at r2
 cases hx:Tg.Mi.typeP l with
 |none=>
  rw [hx]at r2
  have r2:v2=.tuple #[mv [] [] (.slice none 0 0),.int .i64 4]:=r2
  subst r2
  simp [←hH0,e1,e2,a2,m1,Tg.Mi.noM]
  exact⟨hle.new,RowG.nil⟩
 |some m=>
  rw [hx]at r2
  obtain⟨vp,rfl,r2⟩:=r2
  have hcp:=r2.cell
  simp [←hH0,e1,e2,a2,m1,hcp,Tg.Mi.noM]
  refine⟨hle.new,(r2.le (H':=H2.new ⟨[str m.t,str m.s,vp],41,true⟩) le_refl.new).keep ⟨Nat.le_refl _,fun k b hk hb hor=>by
    by_cases hkc:k=H.n
    ·subst hkc
     rw [get_new_ne (by omega),a2]at hb
     injection hb with hb
     subst hb
     rcases hor with h4|h4|h4
     ·omega
     ·exact absurd h4 (by show 41≠87;decide)
     ·exact h4.elim
    ·rw [get_set_ne hkc];exact hb⟩⟩
theorem nraw_k (hr:HRow H v l) (hs:Tg.Mi.SmH l): ∃b,LC Tryz.prog EJ 69 [v] H=some (.tuple #[str (Tg.Mi.rawP l),.bool b],H):=by
 obtain⟨v1,H1,e1,o1⟩:=Get_ex (name:=Tg.Mi.ctype) hr (by have:=hs.1;omega) (fun h hh=>by have:=(hs.2 h hh).1;omega)
 have hgl:=Tg.Hd.getP_len Tg.Mi.ctype l
 have hl8:=hs.1
 rw [show Tg.Mi.ctype= [67,111,110,116,101,110,116,45,84,121,112,101] from rfl]at e1
 refine⟨decide (Tg.Hd.getP Tg.Mi.ctype l≠ []),?_⟩
 refine LC_pure rfl Tryz.func69 rfl (Nat.le_of_ble_eq_true rfl) (by decide) (by kernel_rfl) rfl ?_
 unfold Tg.Mi.rawP
 have ho:=o1.row
 have hle:=o1.le
 have hold:=o1.old
 generalize Tg.Hd.getP Tg.Mi.ctype l=xs at*
 have hlen:=fun H':LH=>SOwn.len ho (H':=H')
 by_cases hx:xs= []
 ·subst hx
  simp at hlen
  simp [e1,hlen]
  exact⟨hle,hold⟩
 ·have hp:=List.length_pos_iff.2 hx
  have q:=eq_false (show¬(xs.length:Int)=0 by omega)
  obtain⟨k,o,g1,g2,g3⟩:=SOwn.at ho (i:=xs.length-1) (by omega)
  have g4:=g3 H1 rfl
  have hw:IntKind.i64.wrap ((xs.length:Int)-1)=((xs.length-1:Nat):Int):=by rw [wrapI (by omega) (by omega)];omega
  have hla:xs.getLast?.getD []=xs[xs.length-1]'(by omega):=by
   rw [List.getLast?_eq_getElem?,List.getElem?_eq_getElem (by omega)];rfl
  simp [e1,hlen,hx,q,hw,g1,g4,hla]
  exact⟨hle,hold⟩
theorem nvalues_ex (hr:HRow H v l) (hs:Tg.Mi.SmH l) (hN:N≤H.n):Gives Tryz.prog EJ 111 [v] H fun H' r=>RowG elS 9 N H' r (Tg.Mi.valuesP (Tg.Hd.getP Tg.Mi.xopt l)):=by
 refine gives_of ?_ (fun v H' hf h=>h.flat hf)
 refine LC_runs (P:=Tryz.prog) (E:=EJ) (f:=111) rfl Tryz.func111 rfl (Nat.le_of_ble_eq_true rfl) (by decide) (by kernel_rfl) ?_
 have hjl:=Tg.Mi.joinS (name:=Tg.Mi.xopt) hs
 have e1:=comb_cl (name:=Tg.Mi.xopt) hr (by have:=hs.1;omega) (fun h hh=>by have:=(hs.2 h hh).1;omega) (by omega)
 rw [show Tg.Mi.xopt= [88,45,67,111,110,116,101,110,116,45,84,121,112,101,45,79,112,116,105,111,110,115] from rfl]at e1 hjl⊢
 unfold Tg.Mi.valuesP
 generalize Tg.Hd.getP _ l=xs at*
 obtain⟨v2,H2,e2,le2,r2⟩:=split_ex (s:=Tg.Hd.joinC xs) hN (by omega)
 by_cases hx:xs= []
 ·subst hx
  simp [e1]
  exact RowG.nil
 ·rw [if_neg hx]
  simp [e1,hx,e2]
  exact⟨le2,r2⟩
theorem nis_k (hr:HRow H v l) (hs:Tg.Mi.SmH l):LC Tryz.prog EJ 70 [v] H=some (.bool (Tg.Mi.noP l),H):=by
 refine LC_pure rfl Tryz.func70 rfl (Nat.le_of_ble_eq_true rfl) (by decide) (by kernel_rfl) rfl ?_
 obtain⟨v1,H1,e1,le1,r1⟩:=nvalues_ex (N:=H.n) hr hs (Nat.le_refl _)
 have hb:=(Tg.Mi.valuesP_bd (B:=1000) (xs:=Tg.Hd.getP Tg.Mi.xopt l) (Tg.Mi.joinS hs)).2
 unfold Tg.Mi.noP
 generalize Tg.Mi.valuesP (Tg.Hd.getP Tg.Mi.xopt l)=ys at*
 have hlen:=fun H':LH=>r1.len (P:=Tryz.prog) (t:=60) (H':=H') Tryz.underlying60
 cases ys with
 |nil=>
  simp at hlen
  simp [e1,hlen]
  exact le1
 |cons a r=>
  have hal:=hb a (by simp)
  obtain⟨k,o,g1,g2,g3⟩:=str_at r1 (i:=0) (by simp)
  have g4:=g3 H1 rfl
  have e3:=fun H:LH=>csame_cl (H:=H) (s:=a) (t:= [110,111,115,110,105,102,102]) (by omega)
  have q:=eq_true (show(0:Int)<(r.length:Int)+1 by omega)
  simp at hlen g4 g1
  rw [show Tg.Mi.word= [110,111,115,110,105,102,102] from rfl]
  simp [e1,hlen,q,g1,g4,e3]
  exact le1
end
section
variable {H H':LH} {N M:Nat} {v w:Value} {l:List Tg.Hd.Hdr} {m:Tg.Mi.Mim} {xs:List (List UInt8)}
theorem lfill_said {a b:List UInt8} {h n g:Bool} (hc:cellB v=true):lfill Tryz.prog 43 [str [],str [],.slice none 0 0,.bool false,.bool false,.bool false] [(0,mv a b v),(1,.bool h),(2,.bool n),(3,.bool g)]=some [str a,str b,v,.bool h,.bool n,.bool g]:=by
 rw [lfill_agg (o:=0) (n:=3) (g:=true) (by simp) rfl (by simp)]
 show lfill _ _ [str a,str b,v,.bool false,.bool false,.bool false] _=_
 rw [lfill_cell (o:=3) (n:=1) (g:=false) (by simp) rfl (by simp) (by simp),lfill_cell (o:=4) (n:=1) (g:=false) (by simp) rfl (by simp) (by simp),lfill_cell (o:=5) (n:=1) (g:=false) (by simp) rfl (by simp) (by simp)]
 simp
def SaidR (N:Nat) (l:List Tg.Hd.Hdr) (H:LH) (r:Value):Prop:= ∃w,r=svp ((Tg.Mi.typeP l).getD Tg.Mi.noM) w (Tg.Mi.typeP l).isSome (Tg.Mi.noP l) (Tg.Sn.bug (Tg.Mi.rawP l))∧RowG elP 87 N H w ((Tg.Mi.typeP l).getD Tg.Mi.noM).ps
theorem SaidR.flat (h:SaidR N l H' v) (hf:flatB v=true):SaidR N l H v:=by
 obtain⟨w,rfl,h⟩:=h
 refine⟨w,rfl,h.flat ?_⟩
 have hc:=h.cell
 simp only [flatB,flat1B,List.all_cons,Bool.and_eq_true]at hf
 have h1:=hf.2.2.1
 cases w<;>first|exact h1|(simp [cellB]at hc)
theorem said_ex (hr:HRow H v l) (hs:Tg.Mi.SmH l) (hN:N≤H.n):Gives Tryz.prog EJ 33 [v] H (SaidR N l):=by
 refine gives_of ?_ (fun v H' hf h=>h.flat hf)
 refine LC_runs (P:=Tryz.prog) (E:=EJ) (f:=33) rfl Tryz.func33 rfl (Nat.le_of_ble_eq_true rfl) (by decide) (by kernel_rfl) ?_
 obtain⟨H0,hH0⟩: ∃H0,H0=H.new ⟨[str [],str [],.slice none 0 0,.bool false,.bool false,.bool false],43,true⟩:=⟨_,rfl⟩
 have le0:H.le H0:=by rw [hH0];exact le_refl.new
 have n0:H0.n=H.n+1:=by rw [hH0];rfl
 have a0:H0.get H.n=some ⟨[str [],str [],.slice none 0 0,.bool false,.bool false,.bool false],43,true⟩:=by rw [hH0,get_new]
 obtain⟨r1,H1,e1,le1,w1,rfl,rw1⟩:=nextract_ex (N:=N) (hr.keep le0.1 le0.2) hs (by omega)
 have hc1:=rw1.cell
 have n1:=le1.1
 have a1:=(le1.2 H.n (by omega)).trans a0
 unfold SaidR
 generalize ((Tg.Mi.typeP l).getD Tg.Mi.noM)=m at*
 generalize (Tg.Mi.typeP l).isSome=has at*
 obtain⟨H2,hH2⟩: ∃H2,H2=H1.new ⟨[str m.t,str m.s,w1],41,true⟩:=⟨_,rfl⟩
 have le2:H1.le H2:=by rw [hH2];exact le_refl.new
 have g2:H2.get H1.n=some ⟨[str m.t,str m.s,w1],41,true⟩:=by rw [hH2,get_new]
 have a2:=(le2.2 H.n (by omega)).trans a1
 have hle:=le0.trans (le1.trans le2)
 have hr2:=hr.keep hle.1 hle.2
 obtain⟨rb,e2⟩:=nraw_k hr2 hs
 have e3:=nis_k hr2.ro hs
 have e4:=fun H:LH=>bug_cl (H:=H) (s:=Tg.Mi.rawP l)
 have m1:(H.n=H1.n)=False:=eq_false (by omega)
 simp [←hH0,e1,←hH2,hc1,e2,e3,e4,g2,a2,lfill_said,m1]
 exact⟨hle,(rw1.le le2).keep1 (Nat.le_refl _) a2 (by show 43≠87;decide) (fun h=>h) hN (fun k _ hne=>get_set_ne hne)⟩
end
end Go.Proofs.YtjplaockjmhnjaaGreatDoor.Mi
namespace Tg.Mi
end Tg.Mi
namespace Go.Proofs.YtjplaockjmhnjaaGreatDoor.Mi
open Go.Lg Go.Tg
section
variable {H H':LH} {N M:Nat} {s t u name set:List UInt8} {v w:Value} {ps:List Tg.Mi.Par} {xs:List (List UInt8)} {m:Tg.Mi.Mim} {l:List Tg.Hd.Hdr}
end
end Go.Proofs.YtjplaockjmhnjaaGreatDoor.Mi
namespace Tg.Ob
def wMedia:List UInt8:= [109,101,100,105,97]
def wNoMedia:List UInt8:= [110,111,32,109,101,100,105,97]
def wNoPart:List UInt8:= [110,111,32,112,97,114,116]
def wImage:List UInt8:= [105,109,97,103,101]
def wNosniff:List UInt8:= [110,111,115,110,105,102,102]
def wStatus:List UInt8:= [115,116,97,116,117,115]
def wUntyped:List UInt8:= [117,110,116,121,112,101,100]
def wMislab:List UInt8:= [109,105,115,108,97,98,101,108,108,101,100]
def labP (m:Tg.Mi.Mim):Bool:=decide (m.t=wImage)||Tg.Sn.isMedia m.t m.s
def judgeP (me st:Int) (l:List Tg.Hd.Hdr) (s:List UInt8):Int×List UInt8:=
 if(Tg.Sn.kind s).2=true then(1,wMedia)
 else if me≠0 then(2,wNoMedia)
 else if st=206 then(2,wNoPart)
 else if(Tg.Sn.kind s).1≠ []then(1,wImage)
 else if Tg.Mi.noP l=true then(2,wNosniff)
 else if¬(200≤st∧st≤299)then(2,wStatus)
 else if(Tg.Mi.typeP l).isSome=false then(1,wUntyped)
 else if labP ((Tg.Mi.typeP l).getD Tg.Mi.noM)=true then(2,wMislab)
 else(0,[])
end Tg.Ob
namespace Go.Proofs.YtjplaockjmhnjaaGreatDoor.Sn
open Go.Lg Go.Tg
section
variable {H H':LH} {N:Nat} {s t u:List UInt8} {v w:Value} {l:List Tg.Hd.Hdr} {a1 a2:Bool} {me st:Int}
theorem tab_bs (h:Tab H) (b:Bs H H'):Tab H':=⟨by rw [b.2];exact h.1,by rw [b.1];exact h.2⟩
theorem nsaid_ex (hr:HRow H v l) (hs:Tg.Mi.SmH l): ∃r H',LC Tryz.prog EJ 33 [v] H=some (r,H')∧H.le H'∧Mi.SaidR H.n l H' r∧Bs H H':=by
 obtain⟨r,H',e,h1,h2⟩:=Mi.said_ex (N:=H.n) hr hs (Nat.le_refl _)
 exact⟨r,H',up rfl e,h1,h2,ext_bs e⟩
theorem label_k {m:Tg.Mi.Mim} {h n g:Bool} (hv: ∃pa pl pc,v=.slice pa pl pc) (ht:Tab H):LC Tryz.prog EJ 52 [Mi.svp m v h n g] H=some (.bool (Tg.Ob.labP m),H):=by
 obtain⟨pa,pl,pc,rfl⟩:=hv
 refine LC_pure rfl Tryz.func52 rfl (Nat.le_of_ble_eq_true rfl) (by decide) (by kernel_rfl) rfl ?_
 have h1:=fun H:LH=>gimage_k (H:=H) (s:=m.t) (t:=m.s) (pa:=pa) (pl:=pl) (pc:=pc)
 have h2:=gmedia_k (H:=H.new ⟨[str m.t,str m.s,.slice pa pl pc,.bool h,.bool n,.bool g],43,true⟩) (s:=m.t) (t:=m.s) (pa:=pa) (pl:=pl) (pc:=pc) (tab_bs ht ⟨by simp,by simp⟩)
 unfold Tg.Ob.labP Tg.Ob.wImage
 by_cases q:m.t= [105,109,97,103,101]
 ·have q:=eq_true q
  simp [h1,q,le_refl.new]
 ·have q:=eq_false q
  simp [h1,q,h2,le_refl.new]
theorem part_k (hc:cellB v=true):LC Tryz.prog EJ 45 [.agg #[.int .i64 st,v]] H=some (.bool (decide (st=206)),H):=by
 have h1: ∀H:LH,LC Tryz.prog EJ 80 [.agg #[.int .i64 st,v]] H=some (.bool (decide (st=206)),H):=fun H=>by
  have h0: ∀H:LH,LC Tryz.prog EJ 119 [.int .i64 st] H=some (.bool (decide (st=206)),H):=fun H=>by
   refine LC_pure rfl Tryz.func119 rfl (Nat.le_of_ble_eq_true rfl) (by decide) (by kernel_rfl) rfl ?_
   simp
  refine LC_pure rfl Tryz.func80 rfl (Nat.le_of_ble_eq_true rfl) (by decide) (by kernel_rfl) rfl ?_
  simp [hc,h0,le_refl.new]
 refine LC_pure rfl Tryz.func45 rfl (Nat.le_of_ble_eq_true rfl) (by decide) (by kernel_rfl) rfl ?_
 simp [hc,h1,le_refl.new]
theorem okst_k:LC Tryz.prog EJ 51 [.int .i64 st] H=some (.bool (decide (200≤st∧st≤299)),H):=by
 have h1: ∀H:LH,∃x,LC Tryz.prog EJ 86 [.int .i64 st] H=some (.int .i64 x,H)∧decide (x=2)=decide (200≤st∧st≤299):=fun H=>by
  by_cases a:st<100
  ·refine⟨0,?_,?_⟩
   ·refine LC_pure rfl Tryz.func86 rfl (Nat.le_of_ble_eq_true rfl) (by decide) (by kernel_rfl) rfl ?_
    have a:=eq_true a
    simp [a]
   ·rw [decide_eq_false (show¬(200≤st∧st≤299) by omega)];rfl
  ·by_cases b:999<st
   ·refine⟨0,?_,?_⟩
    ·refine LC_pure rfl Tryz.func86 rfl (Nat.le_of_ble_eq_true rfl) (by decide) (by kernel_rfl) rfl ?_
     have a:=eq_false a
     have b:=eq_true b
     simp [a,b]
    ·rw [decide_eq_false (show¬(200≤st∧st≤299) by omega)];rfl
   ·refine⟨st.tdiv 100,?_,?_⟩
    ·refine LC_pure rfl Tryz.func86 rfl (Nat.le_of_ble_eq_true rfl) (by decide) (by kernel_rfl) rfl ?_
     have a:=eq_false a
     have b:=eq_false b
     have hd:st.tdiv 100=st/100:=Int.tdiv_eq_ediv_of_nonneg (by omega)
     have hw:IntKind.i64.wrap (st.tdiv 100)=st.tdiv 100:=Mi.wrapI (by rw [hd];omega) (by rw [hd];omega)
     simp [a,b,hw]
    ·have hd:st.tdiv 100=st/100:=Int.tdiv_eq_ediv_of_nonneg (by omega)
     rw [decide_eq_decide,hd];omega
 obtain⟨x,e,hx⟩:=h1 H
 refine LC_pure rfl Tryz.func51 rfl (Nat.le_of_ble_eq_true rfl) (by decide) (by kernel_rfl) rfl ?_
 rw [←hx]
 simp [e]
theorem judge_k (hr:HRow H v l) (hs:Tg.Mi.SmH l) (ht:Tab H) (hc:cellB v=true):LC Tryz.prog EJ 24 [.agg #[str u,.bool a1,.bool a2,.int .i64 me],.agg #[.int .i64 st,v],str s] H=some (.tuple #[.int .i64 (Tg.Ob.judgeP me st l s).1,str (Tg.Ob.judgeP me st l s).2],H):=by
 refine LC_pure rfl Tryz.func24 rfl (Nat.le_of_ble_eq_true rfl) (by decide) (by kernel_rfl) rfl ?_
 obtain⟨H1,hH1⟩: ∃H1,H1=(H.new ⟨[str u,.bool a1,.bool a2,.int .i64 me],23,true⟩).new ⟨[.int .i64 st,v],26,true⟩:=⟨_,rfl⟩
 have le1:H.le H1:=by rw [hH1];exact le_refl.new.new
 have n1:H1.n=H.n+1+1:=by rw [hH1];rfl
 have g1:H1.get H.n=some ⟨[str u,.bool a1,.bool a2,.int .i64 me],23,true⟩:=by rw [hH1,get_new_ne (by simp),get_new]
 have k1:H1.get (H.n+1)=some ⟨[.int .i64 st,v],26,true⟩:=by rw [hH1];exact get_new
 obtain⟨r2,H2,e2,le2,⟨w,rfl,hw⟩,bs2⟩:=nsaid_ex (hr.keep le1.1 le1.2) hs
 have hcw:=hw.cell
 have hsw:=hw.slice
 obtain⟨H3,hH3⟩: ∃H3,H3=H2.new ⟨[str ((Tg.Mi.typeP l).getD Tg.Mi.noM).t,str ((Tg.Mi.typeP l).getD Tg.Mi.noM).s,w,.bool (Tg.Mi.typeP l).isSome,.bool (Tg.Mi.noP l),.bool (Tg.Sn.bug (Tg.Mi.rawP l))],43,true⟩:=⟨_,rfl⟩
 have le3:H2.le H3:=by rw [hH3];exact le_refl.new
 have g3:=(le3.2 H.n (by have:=le2.1;omega)).trans ((le2.2 H.n (by omega)).trans g1)
 have k3:=(le3.2 (H.n+1) (by have:=le2.1;omega)).trans ((le2.2 (H.n+1) (by omega)).trans k1)
 have s3:H3.get H2.n=some ⟨[str ((Tg.Mi.typeP l).getD Tg.Mi.noM).t,str ((Tg.Mi.typeP l).getD Tg.Mi.noM).s,w,.bool (Tg.Mi.typeP l).isSome,.bool (Tg.Mi.noP l),.bool (Tg.Sn.bug (Tg.Mi.rawP l))],43,true⟩:=by rw [hH3];exact get_new
 have hle:=(le1.trans le2).trans le3
 have ht3:Tab H3:=(tab_bs ht ((show Bs H H1 from by rw [hH1];exact⟨by simp,by simp⟩).trans (bs2.trans (show Bs H2 H3 from by rw [hH3];exact⟨by simp,by simp⟩))))
 have e4:=fun H:LH=>okind_k (H:=H) (s:=s)
 have e5:=fun H:LH=>part_k (H:=H) (st:=st) hc
 have e6:=fun H:LH=>okst_k (H:=H) (st:=st)
 have e7:=label_k (m:=(Tg.Mi.typeP l).getD Tg.Mi.noM) (h:=(Tg.Mi.typeP l).isSome) (n:=Tg.Mi.noP l) (g:=Tg.Sn.bug (Tg.Mi.rawP l)) hsw ht3
 unfold Tg.Ob.judgeP
 generalize ((Tg.Mi.typeP l).getD Tg.Mi.noM)=m at*
 generalize (Tg.Mi.typeP l).isSome=has at*
 generalize Tg.Mi.noP l=no at*
 generalize Tg.Sn.bug (Tg.Mi.rawP l)=bg at*
 generalize (Tg.Sn.kind s).1=ki at*
 generalize (Tg.Sn.kind s).2=km at*
 cases km with
 |true=>
  simp [←hH1,k1,hc,e2,←hH3,hcw,e4,Tg.Ob.wMedia]
  exact hle
 |false=>
  by_cases h1:me=0
  ·have h1:=eq_true h1
   by_cases h2:st=206
   ·have h2:=eq_true h2
    simp only [h2,decide_true]at e5
    simp [←hH1,k1,hc,e2,←hH3,hcw,e4,g3,k3,h1,e5,h2,Tg.Ob.wNoPart]
    exact hle
   ·have h2:=eq_false h2
    simp only [h2,decide_false]at e5
    by_cases h3:ki= []
    ·subst h3
     cases no with
     |true=>
      simp [←hH1,k1,hc,e2,←hH3,hcw,e4,g3,k3,h1,e5,h2,s3,Tg.Ob.wNosniff]
      exact hle
     |false=>
      by_cases h4:200≤st∧st≤299
      ·have h4':=eq_true h4
       simp only [h4',decide_true]at e6
       have h41:=eq_true h4.1
       have h42:=eq_true h4.2
       cases has with
       |false=>
        simp [←hH1,k1,hc,e2,←hH3,hcw,e4,g3,k3,h1,e5,h2,s3,e6,h41,h42,Tg.Ob.wUntyped]
        exact hle
       |true=>
        cases hlab:Tg.Ob.labP m with
        |true=>
         rw [hlab]at e7
         simp [←hH1,k1,hc,e2,←hH3,hcw,e4,g3,k3,h1,e5,h2,s3,e6,h41,h42,e7,Tg.Ob.wMislab]
         exact hle
        |false=>
         rw [hlab]at e7
         simp [←hH1,k1,hc,e2,←hH3,hcw,e4,g3,k3,h1,e5,h2,s3,e6,h41,h42,e7]
         exact hle
      ·have h4':=eq_false h4
       simp only [h4',decide_false]at e6
       simp only [h4',not_false_eq_true,if_true]
       simp [←hH1,k1,hc,e2,←hH3,hcw,e4,g3,k3,h1,e5,h2,s3,e6,Tg.Ob.wStatus]
       exact hle
    ·have h3:=eq_false h3
     simp [←hH1,k1,hc,e2,←hH3,hcw,e4,g3,k3,h1,e5,h2,h3,Tg.Ob.wImage]
     exact hle
  ·have h1:=eq_false h1
   simp [←hH1,k1,hc,e2,←hH3,hcw,e4,g3,h1,Tg.Ob.wNoMedia]
   exact hle
end
end Go.Proofs.YtjplaockjmhnjaaGreatDoor.Sn
namespace Tg.Mi
end Tg.Mi
namespace Tg.Hd
theorem few_few (l:List Hdr) (n:Nat):few (few l n) n=few l n:=by
 unfold few
 rw [←List.map_take,List.take_take,Nat.min_self,List.map_map]
 apply List.map_congr_left
 intro h _
 simp [List.take_take]
theorem few_sm (l:List Hdr):Tg.Mi.SmH (few l 8):=by
 unfold few
 refine⟨by rw [List.length_map,List.length_take];omega,fun h hh=>?_⟩
 obtain⟨a,_,rfl⟩:=List.mem_map.1 hh
 exact⟨by simp only [List.length_take];omega,by simp only [List.length_take];omega⟩
end Tg.Hd
namespace Tg.Ob
structure Jud where
 v:Int
 r:List UInt8
 n:Int
 m:Bool
deriving DecidableEq
def noJ:Jud:=⟨0,[],0,false⟩
def at31 (n:Int):Int:=if n<0 then 0 else if 1445<n then 1445 else n
def ofP (me st:Int) (l:List Tg.Hd.Hdr) (s:List UInt8):Jud:=
 if(judgeP me st l s).1=0 then noJ else⟨(judgeP me st l s).1,(judgeP me st l s).2,at31 s.length,decide ((judgeP me st l s).2=wMedia)⟩
end Tg.Ob
namespace Go.Proofs.YtjplaockjmhnjaaGreatDoor.Sn
open Go.Lg Go.Tg
abbrev jv4 (j:Tg.Ob.Jud):Value:=.agg #[.int .i64 j.v,str j.r,.int .i64 j.n,.bool j.m]
abbrev askv (u:List UInt8) (a1 a2:Bool) (me:Int):Value:=.agg #[str u,.bool a1,.bool a2,.int .i64 me]
abbrev repv (st:Int) (v:Value):Value:=.agg #[.int .i64 st,v]
section
variable {H H':LH} {N:Nat} {s t u:List UInt8} {v w:Value} {l:List Tg.Hd.Hdr} {a1 a2:Bool} {me st:Int}
theorem at4_k {n:Int} :LC Tryz.prog EJ 25 [.int .i64 n] H=some (.int .i64 (Tg.Ob.at31 n),H):=at_k
theorem of_k (hr:HRow H v l) (hs:Tg.Mi.SmH l) (ht:Tab H) (hc:cellB v=true):LC Tryz.prog EJ 10 [askv u a1 a2 me,repv st v,str s] H=some (jv4 (Tg.Ob.ofP me st l s),H):=by
 refine LC_pure rfl Tryz.func10 rfl (Nat.le_of_ble_eq_true rfl) (by decide) (by kernel_rfl) rfl ?_
 obtain⟨H1,hH1⟩: ∃H1,H1=((H.new ⟨[str u,.bool a1,.bool a2,.int .i64 me],23,true⟩).new ⟨[.int .i64 st,v],26,true⟩).new ⟨[.int .i64 0,str [],.int .i64 0,.bool false],31,true⟩:=⟨_,rfl⟩
 have le1:H.le H1:=by rw [hH1];exact le_refl.new.new.new
 have n1:H1.n=H.n+1+1+1:=by rw [hH1];rfl
 have g1:H1.get H.n=some ⟨[str u,.bool a1,.bool a2,.int .i64 me],23,true⟩:=by rw [hH1,get_new_ne (by simp;omega),get_new_ne (by simp),get_new]
 have k1:H1.get (H.n+1)=some ⟨[.int .i64 st,v],26,true⟩:=by rw [hH1,get_new_ne (by simp)];exact get_new
 have j1:H1.get (H.n+1+1)=some ⟨[.int .i64 0,str [],.int .i64 0,.bool false],31,true⟩:=by rw [hH1];exact get_new
 have ht1:Tab H1:=tab_bs ht (by rw [hH1];exact⟨by simp,by simp⟩)
 have e1:=judge_k (u:=u) (a1:=a1) (a2:=a2) (me:=me) (st:=st) (s:=s) (hr.keep le1.1 le1.2) hs ht1 hc
 have e2:=fun H:LH=>at4_k (H:=H) (n:=s.length)
 unfold Tg.Ob.ofP
 generalize (Tg.Ob.judgeP me st l s).1=vd at*
 generalize (Tg.Ob.judgeP me st l s).2=rs at*
 have hm:Tg.Ob.wMedia= [109,101,100,105,97]:=rfl
 by_cases h0:vd=0
 ·subst h0
  simp [hc,←hH1,g1,k1,j1,e1,Tg.Ob.noJ]
  exact le1.set (by omega)
 ·have h0f:=eq_false h0
  rw [if_neg h0,hm]
  simp [hc,←hH1,g1,k1,j1,e1,h0f,e2,lfill_j4]
  exact le1.set (by omega)
end
section
variable {H H':LH} {N:Nat} {s t u:List UInt8} {v w:Value} {l:List Tg.Hd.Hdr} {a1 a2:Bool} {me st:Int}
theorem ask_k:LC Tryz.prog EJ 7 [askv u a1 a2 me] H=some (askv (u.take 80) a1 a2 me,H):=by
 refine LC_pure rfl Tryz.func7 rfl (Nat.le_of_ble_eq_true rfl) (by decide) (by kernel_rfl) rfl ?_
 have h1:=fun H:LH=>cut_k (H:=H) (s:=u) (k:=80) (by decide)
 simp only [show((80:Int).toNat)=80 from rfl]at h1
 generalize u.take 80=u2 at*
 have d1:(H.n=H.n+1)=False:=eq_false (by omega)
 have d2:(H.n+1=H.n)=False:=eq_false (by omega)
 simp [h1,d1,d2]
 try exact(le_refl.new.new.set (Nat.le_refl _)).set (by omega)
theorem flat_rep (h:flatB (repv st v)=true) (hc:cellB v=true):flatB v=true:=by
 simp only [flatB,flat1B,List.all_cons,Bool.and_eq_true]at h
 have h1:=h.2.1
 cases v<;>first|exact h1|(simp [cellB]at hc)
theorem hrow_slice (h:HRow H v l):cellB v=true:=by
 rcases h with⟨rfl,_⟩|⟨k,o,c,rfl,_⟩<;>simp
theorem few30_ex (hr:HRow H v l) (hl:l.length≤9223372036854775807): ∃v' H',LC Tryz.prog EJ 8 [repv st v] H=some (repv st v',H')∧H.le H'∧HOwn H.n H' v' (Tg.Hd.few l 8)∧Bs H H':=by
 have hc:=hrow_slice hr
 obtain⟨H1,hH1⟩: ∃H1,H1=(H.new ⟨[.int .i64 st,v],26,true⟩).new ⟨[.int .i64 0,.slice none 0 0],26,true⟩:=⟨_,rfl⟩
 have le1:H.le H1:=by rw [hH1];exact le_refl.new.new
 have n1:H1.n=H.n+1+1:=by rw [hH1];rfl
 have a1:H1.get H.n=some ⟨[.int .i64 st,v],26,true⟩:=by rw [hH1,get_new_ne (by simp),get_new]
 have b1:H1.get (H.n+1)=some ⟨[.int .i64 0,.slice none 0 0],26,true⟩:=by rw [hH1];exact get_new
 obtain⟨v2,H2,e2,o2⟩:=few_hl (hr.keep le1.1 le1.2) hl (c:=8) (by decide)
 have bs2:=ext_bs e2
 have e2:LC Tryz.prog EJ 23 [v,.int .i64 8] H1=some (v2,H2):=up rfl e2
 have le2:H1.le H2:=⟨o2.le,o2.old⟩
 have a2:=(le2.2 H.n (by omega)).trans a1
 have b2:=(le2.2 (H.n+1) (by omega)).trans b1
 have n2:=le2.1
 have hr2:=o2.row.row
 have hc2:=hrow_slice hr2
 have d1:(H.n=H.n+1)=False:=eq_false (by omega)
 have d2:(H.n+1=H.n)=False:=eq_false (by omega)
 have hle:=le1.trans le2
 have key: ∃r,LC Tryz.prog EJ 8 [repv st v] H=some (Lg.trunc H r)∧r.1=repv st v2∧r.2=(H2.set H.n ⟨[.int .i64 st,v2],26,true⟩).set (H.n+1) ⟨[.int .i64 st,v2],26,true⟩:=by
  refine LC_runs (P:=Tryz.prog) (E:=EJ) (f:=8) rfl Tryz.func8 rfl (Nat.le_of_ble_eq_true rfl) (by decide) (by kernel_rfl) ?_
  simp [hc,←hH1,a1,e2,a2,b2,hc2,d1,d2]
 obtain⟨⟨r,H3⟩,e3,h1,h2⟩:=key
 simp only at h1 h2
 subst h1 h2
 have hle3:H.le ((H2.set H.n ⟨[.int .i64 st,v2],26,true⟩).set (H.n+1) ⟨[.int .i64 st,v2],26,true⟩):=(hle.set (Nat.le_refl _)).set (by omega)
 have hold:HOwn H.n ((H2.set H.n ⟨[.int .i64 st,v2],26,true⟩).set (H.n+1) ⟨[.int .i64 st,v2],26,true⟩) v2 (Tg.Hd.few l 8):=by
  have h0:=RowN.keep (H':=(H2.set H.n ⟨[.int .i64 st,v2],26,true⟩).set (H.n+1) ⟨[.int .i64 st,v2],26,true⟩) o2.row (Nat.le_refl _) (fun k hk _ _=>by rw [get_set_ne (by omega),get_set_ne (by omega)])
  exact HOwn.weak h0 (by omega)
 rcases trunc_or (repv st v2) H ((H2.set H.n ⟨[.int .i64 st,v2],26,true⟩).set (H.n+1) ⟨[.int .i64 st,v2],26,true⟩)with e4|⟨e4,hf,_⟩
 ·exact⟨v2,_,by rw [e3,e4],hle3,hold,(show Bs H H1 from by rw [hH1];exact⟨by simp,by simp⟩).trans (bs2.trans ⟨by simp,by simp⟩)⟩
 ·refine⟨v2,H,by rw [e3,e4],le_refl,?_,Bs.refl _⟩
  have hf2:=flat_rep hf hc2
  refine⟨hold.1,?_⟩
  rcases hold.2 with h|⟨k,c,rest,rfl,_⟩
  ·exact .inl h
  ·simp [flatB,flat1B,atomB]at hf2
theorem lives31_k (ht:Tab H):LC Tryz.prog EJ 12 [] H=some (.bool true,H):=by
 refine LC_pure rfl Tryz.func12 rfl (Nat.le_of_ble_eq_true rfl) (by decide) (by kernel_rfl) rfl ?_
 have h1:=of_k (H:=H) (v:=.slice none 0 0) (l:= []) (a1:=true) (a2:=true) (me:=1) (st:=206) (u:= []) (s:= [73,68,51]) (.inl ⟨rfl,rfl⟩) ⟨by decide,by simp⟩ ht (by simp)
 rw [show Tg.Ob.ofP 1 206 [] [73,68,51]=⟨1,[109,101,100,105,97],3,true⟩ by decide+kernel]at h1
 have h2:=jd_eq (v:=1) (v':=1) (n:=3) (n':=3) (r:= [109,101,100,105,97]) (r':= [109,101,100,105,97]) (b:=true) (b':=true)
 rw [decide_eq_true ⟨rfl,rfl,rfl,rfl⟩]at h2
 simp [lfill_ask,lfill_rep,lfill_j4,h1,h2]
end
end Go.Proofs.YtjplaockjmhnjaaGreatDoor.Sn
namespace Go.Proofs.YtjplaockjmhnjaaGreatDoor
open Go.ChangeShapes Go.WideShapes Go.ChangeAt Go.RowKit Go.Tg Go.Lg
theorem sizeN {W:World} (h:W.ShapedOpen Tryz.prog):2+1≤W.heap.size:=by
 obtain⟨m,h2⟩:=Go.Proofs.cell_of_shapedOpen_int (P:=Tryz.prog) (w:=W) (zero:=#[.int .i64 0]) (t:=3) (g:=2) h (of_decide_eq_true (by kernel_rfl)) (by kernel_rfl) rfl (by kernel_rfl) (by kernel_rfl) Tryz.underlying3
 have h2':W.cell? ⟨2,0,none⟩=some (.int .i64 m):=h2
 rcases Nat.lt_or_ge 2 W.heap.size with h3|h3
 ·omega
 ·simp [World.cell?,Array.getElem?_eq_none h3]at h2'
theorem returns_and_shaped {H:Type} {enc:TypeId×Value→H} {a:Assume} {C:Checked} {os:Os} {f:FuncId} {fn:Func} {s:ChangeSpec} {conds:List PathCond} {apart fresh handsOn again:Bool} {X:World→Array Value→Prop}
  (hX: ∀(w w':World) (args:Array Value),w.heap=w'.heap→X w args→X w' args)
  (own:Go.ownKnob C.prog.godebug=none) (started:os.Started) (noInit:C.prog.inits.idxOf? f=none) (hfn:C.prog.funcs[f]?=some fn)
  (witness: ∃(w:World) (tape:Tape) (i:Input),w.os=os∧(w.forCall tape i).Shaped C.prog∧i.vars= []∧Input.okWide C.prog (w.forCall tape i) .any w.heap.size f i∧
   ((s.pre enc C.prog fn conds apart (w.forCall tape i).memory i.args∧X (w.forCall tape i).memory i.args)∧sizedMet enc C.prog fn (OpenSpec.ofChange s) apart (w.forCall tape i).memory i.args)∧a.holds C.prog (lone (Frame.enter C.prog f i.args .normal) [] (w.forCall tape i)))
  (contract: ∀(W:World) (base:Nat) (args:Array Value) (ds gs:List (DataW H)) (before:List MemPlace),
   (∀(j:Nat) t v,fn.params[j]?=some t→args[j]?=some v→Value.okWide C.prog W .any base t v)→
   DataW.Whole enc C.prog fn.params.toList s.vars apart W args.toList ds gs before→
   X W args→W.ShapedOpen C.prog→
   Calls C.prog f args W fun e W'=> ∃v,e=.returned v∧s.post enc C.prog fn apart fresh handsOn again W args v W'):
  ReturnsInHanded a C os f .any (fun w args=>(s.pre enc C.prog fn conds apart w args∧X w args)∧sizedMet enc C.prog fn (OpenSpec.ofChange s) apart w args) (s.post enc C.prog fn apart fresh handsOn again):=by
 refine returnsInHanded_of_calls own started noInit witness ?_
 intro w tape i _ hsh _ hok hpre hholds
 obtain⟨_,_,_,fn',hfn',_,_,_,_,hval⟩:=hok
 have e:fn'=fn:=Option.some.inj (hfn'.symm.trans hfn)
 subst e
 obtain⟨⟨⟨ds,gs,before,hw,hc⟩,hx⟩,hz⟩:=hpre
 have hw':=DataW.Whole.of_heap (w':=w.forCall tape i) (by rfl) hw
 refine(contract (w.forCall tape i) w.heap.size i.args ds gs before hval hw' (hX _ _ _ (by rfl) hx) hsh).mono fun e W' ⟨v,he,hp⟩=>?_
 subst he
 exact ChangeSpec.post_blind hp
end Go.Proofs.YtjplaockjmhnjaaGreatDoor
namespace Go.Proofs.YtjplaockjmhnjaaGreatDoor.Sn
open Go.ChangeShapes Go.WideShapes Go.ChangeAt Go.RowKit Go.Tg Go.Lg
theorem cells_hdrR:Tryz.prog.cellsOf 67=2:=by kernel_rfl
theorem cells_hdrsR:Tryz.prog.cellsOf 24=1:=by kernel_rfl
theorem cells_strR:Tryz.prog.cellsOf 9=1:=by kernel_rfl
theorem cells_intR:Tryz.prog.cellsOf 3=1:=by kernel_rfl
theorem cells_boolR:Tryz.prog.cellsOf 4=1:=by kernel_rfl
theorem cells_ask:Tryz.prog.cellsOf 23=4:=by kernel_rfl
theorem cells_rep:Tryz.prog.cellsOf 26=2:=by kernel_rfl
theorem hdr_of_trodR {HH:Type} {enc:TypeId×Value→HH} {W:World} {base fuel:Nat} {sp:Nat→Bool} {held:Bool} {cs:List Value} {x:DataW HH×List MemPlace} (n:Nat) (hf:DataW.trod enc Tryz.prog W base sp held fuel 67 cs=some x): ∃a:Tg.Hd.Hdr,cs.map (lift1 n)= [str a.1,str a.2]:=by
 cases fuel with
 |zero=>simp [DataW.trod]at hf
 |succ m=>
  rw [DataW.trod_step]at hf
  unfold DataW.trodStep at hf
  simp only [Tryz.underlying67,Value.cells]at hf
  split at hf
  ·rename_i hs
   rw [cells_hdrR]at hs
   match cs,hs with
   | [c0,c1],_=>
   simp only [Option.map_eq_some_iff]at hf
   obtain⟨xs,hx,e1⟩:=hf
   simp only [List.mapM_cons,List.mapM_nil,bind,Option.bind_eq_some_iff,pure,Option.some.injEq,cells_strR]at hx
   obtain⟨y0,h0,_,⟨y1,h1,_,rfl,rfl⟩,rfl⟩:=hx
   obtain⟨s0,q0,_,_⟩:=DataW.trod_string Tryz.underlying9 h0
   obtain⟨s1,q1,_,_⟩:=DataW.trod_string Tryz.underlying9 h1
   simp at q0 q1
   subst q0;subst q1
   exact⟨(s0.data.toList,s1.data.toList),by simp only [str_ba];rfl⟩
  ·cases hf
theorem hrow_ofR {W:World} {g:Nat} {v:Value} {xs:List Tg.Hd.Hdr} (h:RowOf (LH.lift W g) 2 (fun(a:Tg.Hd.Hdr) cs=>cs= [str a.1,str a.2]) v xs):HRow (LH.lift W g) v xs:=by
 rcases h with h|⟨l,o,c,h1,_,h2,h3⟩
 ·exact .inl h
 ·refine .inr ⟨l,o,c,h1,fun hne=>?_⟩
  obtain⟨b,h4,h5,h6⟩:=h3 hne
  refine⟨b,h4,h2,fun i hi=>?_⟩
  have h7:=h6 i xs[i] (List.getElem?_eq_getElem hi)
  have hle:o+i*2+2≤b.cells.length:=by
   have:=Nat.mul_le_mul_right 2 (show i+1≤xs.length by omega)
   omega
  have e1:b.cells[o+i*2]?=((b.cells.drop (o+i*2)).take 2)[0]?:=by rw [List.getElem?_take,if_pos (by decide),List.getElem?_drop];rfl
  have e2:b.cells[o+i*2+1]?=((b.cells.drop (o+i*2)).take 2)[1]?:=by rw [List.getElem?_take,if_pos (by decide),List.getElem?_drop]
  exact⟨hle,h7,by rw [e1,h7];rfl,by rw [e2,h7];rfl⟩
theorem lift_intR {n:Nat} {k:IntKind} {x:Int} :lift1 n (.int k x)=.int k x:=rfl
theorem lift_boolR {n:Nat} {x:Bool} :lift1 n (.bool x)=.bool x:=rfl
theorem lift_strR {n:Nat} (s:ByteArray):lift1 n (.string s)=str s.data.toList:=by rw [←str_ba];rfl
def I64R (n:Int):Prop:= -9223372036854775808≤n∧n≤9223372036854775807
theorem i64_ofR {n:Int} (h:(Lit.int .i64 n).wf=true):I64R n:=(Lit.wf_int_iff .i64 n).1 h
theorem lift_aggR {n:Nat} {cs:Array Value} {l:List Value} (h:cs.toList.map (lift1 n)=l):liftV n (.agg cs)=.agg ⟨l⟩:=by
 show Value.agg (cs.map (lift1 n))=_
 congr 1
 rw [←h,←Array.toList_map]
theorem open_ask {HH:Type} {enc:TypeId×Value→HH} {W:World} {base b0:Nat} {held:Bool} {r:Reach} {v:Value} {d:DataW HH} {ps:List MemPlace}
  (hval:Value.okWide Tryz.prog W r b0 23 v) (hd:DataW.Trod enc Tryz.prog W base (fun _=>true) held 23 v d ps):
  ∃(u:List UInt8) (a1 a2:Bool) (me:Int),liftV W.heap.size v=askv u a1 a2 me∧I64R me:=by
 obtain⟨cs,rfl,hs⟩:=okWide_struct Tryz.underlying23 hval
 rw [cells_ask]at hs
 obtain⟨l⟩:=cs
 match l,hs with
 | [c0,c1,c2,c3],_=>
 obtain⟨fuel,hf⟩:=hd
 cases fuel with
 |zero=>simp [DataW.trod]at hf
 |succ n=>
  rw [DataW.trod_step]at hf
  unfold DataW.trodStep at hf
  simp only [Tryz.underlying23,Value.cells]at hf
  rw [if_pos (by rw [cells_ask];rfl)]at hf
  simp only [Option.map_eq_some_iff]at hf
  obtain⟨xs,hx,e1⟩:=hf
  simp only [List.mapM_cons,List.mapM_nil,bind,Option.bind_eq_some_iff,pure,Option.some.injEq,cells_strR,cells_intR,cells_boolR]at hx
  obtain⟨y0,h0,_,⟨y1,h1,_,⟨y2,h2,_,⟨y3,h3,_,rfl,rfl⟩,rfl⟩,rfl⟩,rfl⟩:=hx
  obtain⟨s0,q0,_,_⟩:=DataW.trod_string Tryz.underlying9 h0
  obtain⟨k1,q1,_,_⟩:=DataW.trod_bool Tryz.underlying4 h1
  obtain⟨k2,q2,_,_⟩:=DataW.trod_bool Tryz.underlying4 h2
  obtain⟨k3,q3,rfl,w3⟩:=DataW.trod_int Tryz.underlying3 h3
  simp at q0 q1 q2 q3
  subst q0;subst q1;subst q2;subst q3
  exact⟨s0.data.toList,k1,k2,_,lift_aggR (by simp only [List.map_cons,List.map_nil,lift_strR,lift_boolR,lift_intR]),i64_ofR w3⟩
theorem open_reply {HH:Type} {enc:TypeId×Value→HH} {W:World} {g base b0:Nat} {held:Bool} {r:Reach} {v:Value} {d:DataW HH} {ps:List MemPlace} (hw0:0<W.heap.size)
  (hval:Value.okWide Tryz.prog W r b0 26 v) (hd:DataW.Trod enc Tryz.prog W base (fun _=>true) held 26 v d ps):
  ∃(st:Int) (p:Value) (l:List Tg.Hd.Hdr),liftV W.heap.size v=repv st p∧HRow (LH.lift W g) p l∧l.length≤maxLen∧I64R st:=by
 obtain⟨cs,rfl,hs⟩:=okWide_struct Tryz.underlying26 hval
 rw [cells_rep]at hs
 obtain⟨l⟩:=cs
 match l,hs with
 | [c0,c1],_=>
 obtain⟨fuel,hf⟩:=hd
 cases fuel with
 |zero=>simp [DataW.trod]at hf
 |succ n=>
  rw [DataW.trod_step]at hf
  unfold DataW.trodStep at hf
  simp only [Tryz.underlying26,Value.cells]at hf
  rw [if_pos (by rw [cells_rep];rfl)]at hf
  simp only [Option.map_eq_some_iff]at hf
  obtain⟨xs,hx,e1⟩:=hf
  simp only [List.mapM_cons,List.mapM_nil,bind,Option.bind_eq_some_iff,pure,Option.some.injEq,cells_intR,cells_hdrsR]at hx
  obtain⟨y0,h0,_,⟨y1,h1,_,rfl,rfl⟩,rfl⟩:=hx
  obtain⟨k0,q0,rfl,w0⟩:=DataW.trod_int Tryz.underlying3 h0
  obtain⟨v1,xs,hc,hr,hl⟩:=row_of_trod (El:=fun(a:Tg.Hd.Hdr) cs=>cs= [str a.1,str a.2]) (g:=g) Tryz.underlying24 cells_hdrR (by decide) hw0 (fun fuel cs y hy=>hdr_of_trodR W.heap.size hy) h1
  simp at q0 hc
  subst q0;subst hc
  exact⟨_,_,xs,lift_aggR (by simp only [List.map_cons,List.map_nil,lift_intR]),hrow_ofR hr,hl,i64_ofR w0⟩
noncomputable def laidO2:List (String×DataW Unit):= [("unicode.White_Space",Rows.laid_unicode_White_Space),("strings.asciiSpace",Rows.laid_strings_asciiSpace)]
theorem gTabR:Tryz.prog.globalNamed "strings.asciiSpace" =some 0:=by kernel_rfl
theorem tab_of_laidO2 {W:World} (h:laidMetH Tryz.prog laidO2 W):Lib.TabIs Tryz.prog W "strings.asciiSpace" .u8 Lib.asciiSpaceTab:=by
 have h1:laidMet Tryz.prog laidO2 W:=by rwa [MakeChecks.laidMetH_plain _ _ _ (by kernel_rfl)]at h
 have h2:=h1.filter (fun x=>x.1== "strings.asciiSpace")
 have e:laidO2.filter (fun x=>x.1== "strings.asciiSpace")= [("strings.asciiSpace",Lib.tabData .u8 Lib.asciiSpaceTab)]:=by kernel_rfl
 rw [e]at h2
 exact Lib.tabIs_of_head (g:=0) (t:=137) (e:=5) (n:=256) gTabR (by kernel_rfl) (by kernel_rfl) (by kernel_rfl) (by kernel_rfl) (by kernel_rfl) h2
theorem tabO2 {W:World} (h:laidMetH Tryz.prog laidO2 W):Tab (LH.lift W 3):=⟨by show 0<3;decide,tab_of_laidO2 h⟩
theorem sizeO {W:World} (h:W.ShapedOpen Tryz.prog):3≤W.heap.size:=sizeN h
end Go.Proofs.YtjplaockjmhnjaaGreatDoor.Sn
namespace Tg.Ob
theorem kind_take {s x:List UInt8} (h:1445≤s.length):Tg.Sn.kind (s.take 1445++x)=Tg.Sn.kind s:=by
 have e:(s.take 1445++x).take 1445=s.take 1445:=by
  rw [List.take_append_of_le_length (by rw [List.length_take];omega),List.take_take,Nat.min_self]
 unfold Tg.Sn.kind
 rw [e]
theorem of_take {me st:Int} {l:List Tg.Hd.Hdr} {s x:List UInt8} (h:1445≤s.length):ofP me st l (s.take 1445++x)=ofP me st l s:=by
 have h1:judgeP me st l (s.take 1445++x)=judgeP me st l s:=by
  unfold judgeP
  rw [kind_take h]
 have h2:at31 ((s.take 1445++x).length:Nat)=at31 (s.length:Nat):=by
  unfold at31
  rw [List.length_append,List.length_take]
  have e1: ¬(((min 1445 s.length+x.length:Nat):Int)<0):=by omega
  have e2: ¬(((s.length:Nat):Int)<0):=by omega
  rw [if_neg e1,if_neg e2]
  split<;>split<;>omega
 unfold ofP
 rw [h1,h2]
theorem judge_media {me st:Int} {l:List Tg.Hd.Hdr} {s:List UInt8} :((judgeP me st l s).2=wMedia↔(Tg.Sn.kind s).2=true)∧((Tg.Sn.kind s).2=true→(judgeP me st l s).1=1):=by
 unfold judgeP
 cases h:(Tg.Sn.kind s).2 with
 |true=>simp
 |false=>
  simp only [Bool.false_eq_true,if_false,iff_false,false_implies,and_true]
  split
  ·decide
  ·split
   ·decide
   ·split
    ·decide
    ·split
     ·decide
     ·split
      ·decide
      ·split
       ·decide
       ·split<;>decide
theorem of_media {me st:Int} {l:List Tg.Hd.Hdr} {s:List UInt8} :(ofP me st l s).m=(Tg.Sn.kind s).2∧((Tg.Sn.kind s).2=true→(ofP me st l s).v=1):=by
 obtain⟨h1,h2⟩:=judge_media (me:=me) (st:=st) (l:=l) (s:=s)
 unfold ofP
 by_cases h0:(judgeP me st l s).1=0
 ·rw [if_pos h0]
  cases hk:(Tg.Sn.kind s).2 with
  |true=>rw [h2 hk]at h0;cases h0
  |false=>exact⟨rfl,fun h=>by cases h⟩
 ·rw [if_neg h0]
  refine⟨?_,h2⟩
  show decide ((judgeP me st l s).2=wMedia)=_
  rw [Bool.eq_iff_iff,decide_eq_true_iff]
  exact h1
end Tg.Ob
namespace Go.Proofs.YtjplaockjmhnjaaGreatDoor.Sn
open Go.Lg Go.Tg
section
variable {H H':LH} {N:Nat} {s t u:List UInt8} {v w:Value} {l:List Tg.Hd.Hdr} {a1 a2:Bool} {me st:Int}
theorem media31 (hr:HRow H v l) (hl:l.length≤9223372036854775807) (ht:Tab H): ∃H',LC Tryz.prog EJ 4 [askv u a1 a2 me,repv st v,str s] H=some (.bool true,H'):=by
 refine⟨H,?_⟩
 refine LC_pure rfl Tryz.func4 rfl (Nat.le_of_ble_eq_true rfl) (by decide) (by kernel_rfl) rfl ?_
 have hc:=hrow_slice hr
 obtain⟨H1,hH1⟩: ∃H1,H1=(H.new ⟨[str u,.bool a1,.bool a2,.int .i64 me],23,true⟩).new ⟨[.int .i64 st,v],26,true⟩:=⟨_,rfl⟩
 have le1:H.le H1:=by rw [hH1];exact le_refl.new.new
 have n1:H1.n=H.n+1+1:=by rw [hH1];rfl
 have bs1:Bs H H1:=by rw [hH1];exact⟨by simp,by simp⟩
 have a1':H1.get H.n=some ⟨[str u,.bool a1,.bool a2,.int .i64 me],23,true⟩:=by rw [hH1,get_new_ne (by simp),get_new]
 have b1:H1.get (H.n+1)=some ⟨[.int .i64 st,v],26,true⟩:=by rw [hH1];exact get_new
 have e1:=fun H:LH=>ask_k (H:=H) (u:=u) (a1:=a1) (a2:=a2) (me:=me)
 obtain⟨v2,H2,e2,le2,hr2,bs2⟩:=few30_ex (st:=st) (hr.keep le1.1 le1.2) hl
 have hc2:=hrow_slice hr2.row
 have e3:=fun H:LH=>cut_k (H:=H) (s:=s) (k:=2000) (by decide)
 simp only [show((2000:Int).toNat)=2000 from rfl]at e3
 have a2':=(le2.2 H.n (by omega)).trans a1'
 have b2:=(le2.2 (H.n+1) (by omega)).trans b1
 have n2:=le2.1
 have hs2:(s.take 2000).length≤2000:=by rw [List.length_take];omega
 generalize u.take 80=u2 at*
 generalize s.take 2000=s2 at*
 have d1:(H.n=H.n+1)=False:=eq_false (by omega)
 have d2:(H.n+1=H.n)=False:=eq_false (by omega)
 obtain⟨H3,hH3⟩: ∃H3,H3=(H2.set H.n ⟨[str u2,.bool a1,.bool a2,.int .i64 me],23,true⟩).set (H.n+1) ⟨[.int .i64 st,v2],26,true⟩:=⟨_,rfl⟩
 have hle2:=le1.trans le2
 have le3:H.le H3:=by rw [hH3];exact(hle2.set (Nat.le_refl _)).set (by omega)
 have a3:H3.get H.n=some ⟨[str u2,.bool a1,.bool a2,.int .i64 me],23,true⟩:=by rw [hH3,get_set_ne (by omega),get_set]
 have b3:H3.get (H.n+1)=some ⟨[.int .i64 st,v2],26,true⟩:=by rw [hH3,get_set]
 have n3:H3.n=H2.n:=by rw [hH3];rfl
 have bs3:Bs H2 H3:=by rw [hH3];exact⟨by simp,by simp⟩
 have hr3:HOwn H1.n H3 v2 (Tg.Hd.few l 8):=RowN.keep hr2 (by omega) (fun k hk _ _=>by rw [hH3,get_set_ne (by omega),get_set_ne (by omega)])
 have ht3:=tab_bs ht (bs1.trans (bs2.trans bs3))
 obtain⟨v4,H4,e4,le4,hr4,bs4⟩:=few30_ex (st:=st) hr3.row (by have:=(Tg.Hd.few_sm l).1;omega)
 rw [Tg.Hd.few_few]at hr4
 have hc4:=hrow_slice hr4.row
 have a4:=(le4.2 H.n (by omega)).trans a3
 have b4:=(le4.2 (H.n+1) (by omega)).trans b3
 have ht4:=tab_bs ht3 bs4
 have e5:=of_k (u:=u2) (a1:=a1) (a2:=a2) (me:=me) (st:=st) (s:=s2) hr4.row (Tg.Hd.few_sm l) ht4 hc4
 have hln:=le4.1
 have om:=Tg.Ob.of_media (me:=me) (st:=st) (l:=Tg.Hd.few l 8) (s:=s2)
 have hk2:(Tg.Sn.kind s2).2=decide (Tg.Un.film (s2.take 1445)≠ []):=by
  unfold Tg.Sn.kind
  by_cases h:Tg.Un.film (s2.take 1445)= []
  ·simp [h]
  ·simp [h]
 have e6:=fun H:LH=>rmedia_k (H:=H) (s:=s2)
 generalize hJ:Tg.Ob.ofP me st (Tg.Hd.few l 8) s2=J at*
 obtain⟨H5,hH5⟩: ∃H5,H5=(H4.new ⟨[.int .i64 J.v,str J.r,.int .i64 J.n,.bool J.m],31,true⟩).new ⟨s2.map fun b=>Value.int .u8 b.toNat,MK Tryz.prog 5,decide (s2.length≤maxLen)⟩:=⟨_,rfl⟩
 have j5:H5.get H4.n=some ⟨[.int .i64 J.v,str J.r,.int .i64 J.n,.bool J.m],31,true⟩:=by rw [hH5,get_new_ne (by simp),get_new]
 have y5:H5.get (H4.n+1)=some ⟨s2.map fun b=>Value.int .u8 b.toNat,MK Tryz.prog 5,decide (s2.length≤maxLen)⟩:=by rw [hH5];exact get_new
 have aw:(H4.new ⟨[.int .i64 0,str [],.int .i64 0,.bool false],31,true⟩).get H.n=_:=(get_new_ne (by omega)).trans a4
 have bw:(H4.new ⟨[.int .i64 0,str [],.int .i64 0,.bool false],31,true⟩).get (H.n+1)=_:=(get_new_ne (by omega)).trans b4
 have le5:H4.le H5:=by rw [hH5];exact le_refl.new.new
 have n5:H5.n=H4.n+1+1:=by rw [hH5];rfl
 have a5:=(le5.2 H.n (by omega)).trans a4
 have b5:=(le5.2 (H.n+1) (by omega)).trans b4
 rw [hk2]at om
 obtain⟨fm,hfm⟩: ∃fm,fm=Tg.Un.film (s2.take 1445):=⟨_,rfl⟩
 rw [←hfm]at om e6
 have bs5:Bs H4 H5:=by rw [hH5];exact⟨by simp,by simp⟩
 have ht5:Tab H5:=tab_bs ht4 bs5
 have f1:=lives31_k ht5
 have hle5:=(le3.trans le4).trans le5
 by_cases hq:s2.length<1445
 ·have q:=eq_true (show(s2.length:Int)<1445 by omega)
  by_cases hz:fm= []
  ·rw [hz]at om e6
   have om1:J.m=false:=by rw [om.1];simp
   rw [om1]at j5 hH5
   simp [hc,←hH1,a1',e1,b1,e2,e3,a2',b2,hc2,d1,d2,←hH3,a3,b3,e4,a4,b4,e5,hc4,←hH5,j5,y5,a5,b5,aw,bw,om1,e6,q,f1]
   exact hle5
  ·have om1:J.m=true:=by rw [om.1];simp [hz]
   have om2:=om.2 (by simp [hz])
   have hz:=eq_false hz
   rw [om1,om2]at j5 hH5
   simp [hc,←hH1,a1',e1,b1,e2,e3,a2',b2,hc2,d1,d2,←hH3,a3,b3,e4,a4,b4,e5,hc4,←hH5,j5,y5,a5,b5,aw,bw,om1,om2,e6,q,f1,hz]
   exact hle5
 ·have q:=eq_false (show¬(s2.length:Int)<1445 by omega)
  have hln5:=le5.1
  have hr5:HOwn H1.n H5 v2 (Tg.Hd.few l 8):=RowN.keep hr3 (by omega) (fun k _ _ hk=>(le4.trans le5).2 k hk)
  obtain⟨v6,H6,e6',le6,hr6,bs6⟩:=few30_ex (st:=st) hr5.row (by have:=(Tg.Hd.few_sm l).1;omega)
  rw [Tg.Hd.few_few]at hr6
  have hc6:=hrow_slice hr6.row
  have ht6:=tab_bs ht5 bs6
  have e7:=of_k (u:=u2) (a1:=a1) (a2:=a2) (me:=me) (st:=st) (s:=s2.take 1445++ [73,68,51,0]) hr6.row (Tg.Hd.few_sm l) ht6 hc6
  rw [Tg.Ob.of_take (by omega),hJ]at e7
  have a6:=(le6.2 H.n (by omega)).trans a5
  have b6:=(le6.2 (H.n+1) (by omega)).trans b5
  have j6:=(le6.2 H4.n (by omega)).trans j5
  have y6:=(le6.2 (H4.n+1) (by omega)).trans y5
  have f2:=lives31_k ht6
  have q2:=eq_true (show 1445≤s2.length by omega)
  have cv: ∀ {H:LH} (c:Nat),H.get (H4.n+1)=some ⟨s2.map fun b=>Value.int .u8 b.toNat,MK Tryz.prog 5,decide (s2.length≤maxLen)⟩→lconv Tryz.prog 35 9 (.slice (some ⟨H4.n+1,0,none⟩) 1445 c) H=some (str (s2.take 1445)):=fun c hb=>lconv_bs Tryz.underlying35 Tryz.underlying9 Tryz.underlying5 hb (by simp;omega) (by
   show lbs (((u8c s2).drop 0).take 1445)=some (s2.take 1445)
   rw [List.drop_zero,show(u8c s2).take 1445=u8c (s2.take 1445) by unfold u8c;rw [List.map_take],lbs_u8c])
  have p6:lpart Tryz.prog 35 (.slice (some ⟨H4.n+1,0,none⟩) s2.length s2.length) none (some (.int .i64 1445))=some (.slice (some ⟨H4.n+1,0,none⟩) 1445 s2.length):=lpart_row_ns (s:=1) Tryz.underlying35 (by kernel_rfl) (by decide) (by omega)
  have ad:lbin Tryz.prog .add 9 (str (s2.take 1445)) (str [73,68,51,0])=some (str (s2.take 1445++ [73,68,51,0])):=lbin_cat (by simp only [List.length_take,List.length_cons,List.length_nil];omega)
  have jq:=jd_eq (v:=J.v) (v':=J.v) (n:=J.n) (n':=J.n) (r:=J.r) (r':=J.r) (b:=J.m) (b':=J.m)
  rw [decide_eq_true ⟨rfl,rfl,rfl,rfl⟩]at jq
  have jq:lbin Tryz.prog .eql 31 (jv4 J) (.agg #[.int .i64 J.v,str J.r,.int .i64 J.n,.bool J.m])=some (.bool true):=jq
  have c5:=fun c:Nat=>cv c y5
  have c6:=fun c:Nat=>cv c y6
  by_cases hz:fm= []
  ·rw [hz]at om e6
   have om1:J.m=false:=by rw [om.1];simp
   rw [om1]at j5 hH5 j6 jq
   simp [hc,←hH1,a1',e1,b1,e2,e3,a2',b2,hc2,d1,d2,←hH3,a3,b3,e4,a4,b4,e5,hc4,←hH5,j5,y5,a5,b5,aw,bw,om1,e6,q,p6,ad,jq,f2,e6',hc6,a6,b6,j6,y6,c5,c6,e7]
   exact hle5.trans le6
  ·have om1:J.m=true:=by rw [om.1];simp [hz]
   have om2:=om.2 (by simp [hz])
   have hz:=eq_false hz
   rw [om1,om2]at j5 hH5 j6 jq
   simp [hc,←hH1,a1',e1,b1,e2,e3,a2',b2,hc2,d1,d2,←hH3,a3,b3,e4,a4,b4,e5,hc4,←hH5,j5,y5,a5,b5,aw,bw,om1,om2,e6,q,p6,ad,jq,f2,hz,e6',hc6,a6,b6,j6,y6,c5,c6,e7]
   exact hle5.trans le6
end
end Go.Proofs.YtjplaockjmhnjaaGreatDoor.Sn
