/-
  Texts joined, part 1: Kit, End, LgByte, UnPlain, Shelf, StLow, StBld0, UnPlainB, UnPlainC, UnEq, UrPlain, JsPlain, JsonPlain, LxPlain, ProgK.
-/
import Derived.WalkKit
import Derived.WalkSpells
import Derived.WalkLawsBesides
import Derived.Lib.Hide
import Derived.Lib.Strings
import Derived.Lib.AppendStr
import Derived.Deep.Upon
import Derived.Below
import Derived.ChangeSame
import Derived.Carry
import Derived.ShutString
import Derived.OpenShut
import Derived.Shelf.Strings.Builder1
import Derived.Shelf.Strings.Builder2
import Derived.Shelf.Strings.OnBuilder
import Derived.Shelf.Small.Bits
import Derived.Shelf.Small.Strs
import Derived.Shelf.Strings.BuilderF
import Derived.Shelf.Utf8.RuneCount
import Derived.Shelf.Strings.Builder2Cap
import Derived.Shelf.Strings.Search1
import Derived.Shelf.Strings.Search2
import Derived.Shelf.Strings.Search3
import Derived.Shelf.Strings.Count
import Derived.Shelf.LaysM
import Derived.Shelf.Strings.Shaped
import Derived.Shelf.Strings.Prefix
import Derived.Shelf.Strings.Split
import Derived.Shelf.Strings.Fields
import Derived.Shelf.Strings.SplitShaped
import Derived.Shelf.Unicode.Latin
import Derived.Shelf.Unicode.Decode
import Derived.Shelf.Strings.RuneCount
import Derived.Shelf.Bits.Mul64
import Derived.Shelf.Strings.Repeat
import Derived.Shelf.Unicode.DecodeSlow
import Derived.Shelf.Unicode.DecodeAny
import Derived.Shelf.Unicode.Is16White
import Derived.Shelf.Unicode.IsSpaceAny
import Derived.Shelf.Unicode.Is16WhiteD
import Derived.Shelf.Unicode.IsSpaceAnyD
import Derived.Shelf.Unicode.Is16Any
import Derived.Shelf.Unicode.Is32Any
import Derived.Shelf.Unicode.ExclAny
import Derived.Shelf.Slices.Turned
import Derived.Test.YtbeoilidocfofaaGreatDoorProg
import Derived.Laws.Externs
import Derived.Laws.BytesString
import Derived.Lib.ConvBytes
import Derived.Deep.LoopGhost
import Derived.Test.YtbeoilidocfofaaGreatDoorRows
import Derived.ProofKit
import Derived.Stop.Joined
import Derived.SevenTiedAt
import Derived.LaidMore
import Derived.Lay
set_option linter.all false
namespace Go.Tg
open Go.RowKit
theorem wo (s:ByteArray):s.toList=s.data.toList:=by
 have:=@ByteArray.toList_eq s;exact this
structure Change (S:Nat->Prop) (w w':World):Prop where
 os:w'.os=w.os
 tape:w'.tape=w.tape
 output:w'.output=w.output
 size:w.heap.size<=w'.heap.size
 block: ∀k,k<w.heap.size-> ¬S k->w'.heap[k]?=w.heap[k]?
namespace Change
variable {S T U:Nat->Prop} {w w' w'':World}
theorem refl (S:Nat->Prop) (w:World):Change S w w:=⟨rfl,rfl,rfl,Nat.le_refl _,fun _ _ _=>rfl⟩
theorem trans (h:Change S w w') (k:Change T w' w'') (hT: ∀i,T i->S i\/w.heap.size<=i):Change S w w'':=
 ⟨k.os.trans h.os,k.tape.trans h.tape,k.output.trans h.output,Nat.le_trans h.size k.size,fun i hi hn=>
  (k.block i (Nat.lt_of_lt_of_le hi h.size) (fun ht=>by rcases hT i ht with h|h;exact hn h;omega)).trans (h.block i hi hn)⟩
theorem mono (h:Change S w w') (hT: ∀i,i<w.heap.size->S i->T i):Change T w w':=
 ⟨h.os,h.tape,h.output,h.size,fun i hi hn=>h.block i hi (fun hs=>hn (hT i hi hs))⟩
theorem drew (h:Change S w w'):Change S w w'.drew:=⟨h.os,h.tape,h.output,h.size,h.block⟩
theorem alloc (h:Change S w w') (o:Obj):Change S w (w'.alloc o):=
 ⟨h.os,h.tape,h.output,Nat.le_trans h.size (by simp),fun i hi hn=>(Below.heap_alloc w' o i (Nat.lt_of_lt_of_le hi h.size)).trans (h.block i hi hn)⟩
theorem setCell (h:Change S w w') {p:Addr} (hp:S p.block\/w.heap.size<=p.block) (u:Value):Change S w (w'.setCell p u):=
 ⟨h.os,h.tape,h.output,by simpa [World.setCell]using h.size,fun i hi hn=>(Below.heap_setCell w' p u i (by
  rintro rfl;rcases hp with hp|hp
  ·exact hn hp
  ·omega)).trans (h.block i hi hn)⟩
theorem grown (h:Change S w w') {r:Option Nat} (g:w'.grownBy w'' r) (hr: ∀k,r=some k->S k\/w.heap.size<=k):Change S w w'':=
 ⟨g.os.trans h.os,g.tape.trans h.tape,g.output.trans h.output,Nat.le_trans h.size g.size,fun i hi hn=>
  (g.block i (Nat.lt_of_lt_of_le hi h.size) (fun e=>by rcases hr i e.symm with h|h;exact hn h;omega)).trans (h.block i hi hn)⟩
theorem below {B:Nat} (h:Change S w w') (hB:B<=w.heap.size) (hS: ∀k,S k->B<=k):Below B w w':=
 ⟨h.os,h.tape,h.output,h.size,fun k hk=>h.block k (by omega) (fun hs=>by have:=hS k hs;omega)⟩
theorem lt (h:Change S w w') {k:Nat} (hk:k<w.heap.size):k<w'.heap.size:=Nat.lt_of_lt_of_le hk h.size
theorem one (b:Nat) (w:World):Change (fun k=>k=b) w w:=refl _ w
theorem set {b:Nat} (h:Change (fun k=>k=b) w w') (i:Nat) (u:Value):Change (fun k=>k=b) w (w'.setCell ⟨b,i,none⟩ u):=h.setCell (.inl rfl) u
end Change
def Blk (w:World) (b:Nat) (t:TypeId) (cs:Array Value):Prop:=w.heap[b]?=some (.cells cs t (0,0))
namespace Blk
variable {w w':World} {b:Nat} {t:TypeId} {cs:Array Value}
theorem cell (h:Blk w b t cs) (i:Nat):w.cell? ⟨b,i,none⟩=cs[i]?:=by
 unfold Blk at h;simp [World.cell?,h]
theorem free (h:Blk w b t cs) (i:Nat):w.frozen? ⟨b,i,none⟩=false:=by
 unfold Blk at h;simp [World.frozen?,h]
theorem lt (h:Blk w b t cs):b<w.heap.size:=lt_of_block h
theorem set (h:Blk w b t cs) (i:Nat) (v:Value):Blk (w.setCell ⟨b,i,none⟩ v) b t (cs.setIfInBounds i v):=by
 unfold Blk at h⊢;simp only [World.setCell,Array.getElem?_modify,h];simp
theorem drew (h:Blk w b t cs):Blk w.drew b t cs:=h
theorem alloc (h:Blk w b t cs) (o:Obj):Blk (w.alloc o) b t cs:=by
 unfold Blk at h⊢;rw [Below.heap_alloc _ _ _ (lt_of_block h)];exact h
theorem new (w:World) (t:TypeId) (cs:Array Value):Blk (w.alloc (.cells cs t)) w.heap.size t cs:=by
 unfold Blk;exact(MapKept.heap_alloc w _).1
end Blk
structure Upd (w:World) (b:Nat) (t:TypeId) (W:World) (cs:Array Value):Prop where
 blk:Blk W b t cs
 chg:Change (fun k=>k=b) w W
namespace Upd
variable {w W:World} {b:Nat} {t:TypeId} {cs:Array Value}
theorem base (h:Blk w b t cs):Upd w b t w cs:=⟨h,Change.one b w⟩
theorem set {i:Nat} {v:Value} (h:Upd w b t W cs):Upd w b t (W.setCell ⟨b,i,none⟩ v) (cs.setIfInBounds i v):=⟨h.blk.set i v,h.chg.set i v⟩
theorem drew (h:Upd w b t W cs):Upd w b t W.drew cs:=⟨h.blk,h.chg.drew⟩
theorem alloc {o:Obj} (h:Upd w b t W cs):Upd w b t (W.alloc o) cs:=⟨h.blk.alloc o,h.chg.alloc o⟩
end Upd
theorem row_lt {w:World} {base e size n:Nat} {v:Value} {xs:List Value} (h:w.ownsRow base e size v n xs) {g:Nat} (hg:v.ownBlock=some g):g<w.heap.size:=by
 rcases h.2 with⟨h2,_⟩|⟨g',cap,cur,rfl,_,hh,r⟩
 ·rw [h2]at hg;cases hg
 ·cases hg;exact lt_of_block hh
section
variable {P:Program} (w:World)
theorem qT (t ty e:TypeId) (i:TypeInfo) (z:Value) (size bytes:Nat) (ht:P.underlying t=some (.slice e)) (hi:P.info? e=some i) (hz:i.zero=some z)
  (hsize:i.size=size) (hby:i.bytes=bytes) (hzs:z.cells.size=size) (hsz:0<size)
  (v:Value) (n:Nat) (xs:List Value) (hown:w.ownsRow 0 e size v n xs)
  (a:Addr) (m c:Nat) (news:List Value) (hl:news.length=m*size) (hnews: ∀j u,news[j]?=some u->w.cell? (a.add j)=some u) (h1: ∀u∈news,u.oneCell'=true)
  (hpos:0<n+m) (h63:n+m<=maxLen) (hbytes:(n+m)*bytes<=140737488355328):
  ∃g cap w',(Builtin.append_ #[t,t] ty #[v,.slice (some a) m c]).run P w=.ok (.slice (some ⟨g,0,none⟩) (n+m) cap) w'/\w'.ownsRow 0 e size (.slice (some ⟨g,0,none⟩) (n+m) cap) (n+m) (xs++news)/\w.grownBy w' v.ownBlock/\
   (v.ownBlock=some g\/g=w.heap.size):=by
 obtain⟨v',w',hr,h2,h3,h4⟩:=run_append_own (P:=P) w 0 t ty e i z size bytes ht hi hz hsize hby hzs hsz v n xs hown a m c news hl hnews h1 h63 hbytes (Nat.zero_le _)
 have hv: ∃g cap,v'=.slice (some ⟨g,0,none⟩) (n+m) cap:=by
  rcases h2.2 with⟨_,h⟩|⟨g,cap,_,h,_⟩
  ·omega
  ·exact⟨g,cap,h⟩
 obtain⟨g,cap,rfl⟩:=hv;refine⟨g,cap,w',hr,h2,h3,?_⟩;subst hsize;subst hby;have hsmall:n+m<=9223372036854775807:=by simp only [maxLen]at h63;omega
 rcases hown.2 with⟨rfl,rfl⟩|⟨g0,cap0,cur,rfl,_,hh,hnc,hcm,hcs,htake⟩
 ·have hr2:=run_append_nil (P:=P) w t ty e i z ht hi hz a m c news hl hnews (by omega) (by omega) (by have hb:=hbytes;simp only [Nat.zero_add]at hb;omega);rw [hr2]at hr;injection hr with hr hw;injection hr with hr;injection hr with hr;injection hr with hr;exact .inr hr.symm
 ·by_cases hroom:n+m<=cap0
  ·have hfit:n*i.size+news.length<=cur.size:=by rw [hl,hcs,<-Nat.add_mul];exact Nat.mul_le_mul_right _ hroom
   have hr2:=run_append_room (P:=P) w t ty e i ht hi g0 n cap0 cur hh a m c news hl hnews h1 hroom hfit;rw [hr2]at hr;injection hr with hr hw;injection hr with hr;injection hr with hr;injection hr with hr;exact .inl (by rw [<-hr];rfl)
  ·have holds: ∀j u,xs[j]?=some u->w.cell? ((⟨g0,0,none⟩:Addr).add j)=some u:=hown.cells (g:=g0) rfl;have hr2:=run_append_grow (P:=P) w t ty e i z ht hi hz ⟨g0,0,none⟩ n cap0 xs hown.1 holds a m c news hl hnews (by omega) (by omega) (growslice_fits (by omega) hbytes);rw [hr2]at hr;injection hr with hr hw;injection hr with hr;injection hr with hr;injection hr with hr;exact .inr hr.symm
theorem o8 (t u ty e:TypeId) (i:TypeInfo) (ht:P.underlying t=some (.slice e)) (hu:P.underlying u=some .string) (hi:P.info? e=some i) (hz:i.zero=some (.int .u8 0))
  (hsize:i.size=1) (hby:i.bytes=1) (v:Value) (n:Nat) (xs:List Value) (hown:w.ownsRow 0 e 1 v n xs) (s:ByteArray)
  (hpos:0<n+s.size) (h63:n+s.size<=maxLen) (hbytes:n+s.size<=140737488355328):
  ∃g cap w',(Builtin.append_ #[t,u] ty #[v,.string s]).run P w=.ok (.slice (some ⟨g,0,none⟩) (n+s.size) cap) w'/\w'.ownsRow 0 e 1 (.slice (some ⟨g,0,none⟩) (n+s.size) cap) (n+s.size) (xs++Lib.strCells s)/\w.grownBy w' v.ownBlock/\
   (v.ownBlock=some g\/g=w.heap.size):=by
 obtain⟨v',w',hr,h2,h3,h4⟩:=Lib.run_append_own_string (P:=P) w 0 t u ty e i ht hu hi hz hsize hby v n xs hown s h63 hbytes (Nat.zero_le _)
 have hv: ∃g cap,v'=.slice (some ⟨g,0,none⟩) (n+s.size) cap:=by
  rcases h2.2 with⟨_,h⟩|⟨g,cap,_,h,_⟩
  ·omega
  ·exact⟨g,cap,h⟩
 obtain⟨g,cap,rfl⟩:=hv;refine⟨g,cap,w',hr,h2,h3,?_⟩;have hsmall:n+s.size<=9223372036854775807:=by simp only [maxLen]at h63;omega
 have hfit: ∀c,c<n+s.size->Builtin.nextslicecap (n+s.size) c*i.bytes<=281474976710656:=fun c hc=>by
  refine growslice_fits (by omega) ?_;rw [hby];omega
 have hsrc:Src P i.size u (.string s) s.size (byteCells s) w:=by rw [hsize];exact Src.ofString w hu s
 rcases hown.2 with⟨rfl,rfl⟩|⟨g0,cap0,cur,rfl,_,hh,hnc,hcm,hcs,htake⟩
 ·have hr2:=run_append_grow_src (P:=P) w t u ty e i (.int .u8 0) ht hi hz none 0 0 [] (run_firstCells_none w.drew i.size 0 0 0) (.string s) s.size (byteCells s) hsrc (by omega) (by omega) (hfit 0 (by omega));rw [hr2]at hr;injection hr with hr hw;injection hr with hr;injection hr with hr;injection hr with hr;exact .inr hr.symm
 ·by_cases hroom:n+s.size<=cap0
  ·have hr2:=Lib.run_append_room_string (P:=P) w t u ty e i ht hu hi hsize g0 n cap0 cur hh s hroom (by omega);rw [hr2]at hr;injection hr with hr hw;injection hr with hr;injection hr with hr;injection hr with hr;exact .inl (by rw [<-hr];rfl)
  ·have holds: ∀j u,xs[j]?=some u->w.cell? ((⟨g0,0,none⟩:Addr).add j)=some u:=hown.cells (g:=g0) rfl;have hr2:=Lib.run_append_grow_string (P:=P) w t u ty e i (.int .u8 0) ht hu hi hz ⟨g0,0,none⟩ n cap0 xs (by rw [hsize];exact hown.1) holds s (by omega) (by omega) (hfit cap0 (by omega));rw [hr2]at hr;injection hr with hr hw;injection hr with hr;injection hr with hr;injection hr with hr;exact .inr hr.symm
def j7 (P:Program) (t u e:TypeId) (size:Nat) (y:Value) (m:Nat) (news:List Value) (w:World):Prop:=
 (t=u/\ ∃ad c,y=.slice (some ad) m c/\news.length=m*size/\ ∀(j:Nat) (x:Value),news[j]?=some x->w.cell? (ad.add j)=some x)\/
 (P.underlying u=some .string/\size=1/\(∃i,P.info? e=some i/\i.zero=some (.int .u8 0)/\i.bytes=1)/\ ∃bs:ByteArray,y=.string bs/\m=bs.size/\news=Lib.strCells bs)
theorem fP (t u ty e:TypeId) (i:TypeInfo) (z:Value) (size bytes:Nat) (ht:P.underlying t=some (.slice e)) (hi:P.info? e=some i) (hz:i.zero=some z)
  (hsize:i.size=size) (hby:i.bytes=bytes) (hzs:z.cells.size=size) (hsz:0<size)
  (v:Value) (n:Nat) (xs:List Value) (hown:w.ownsRow 0 e size v n xs)
  (y:Value) (m:Nat) (news:List Value) (hs:j7 P t u e size y m news w) (h1: ∀u∈news,u.oneCell'=true)
  (hpos:0<n+m) (h63:n+m<=maxLen) (hbytes:(n+m)*bytes<=140737488355328):
  ∃g cap w',(Builtin.append_ #[t,u] ty #[v,y]).run P w=.ok (.slice (some ⟨g,0,none⟩) (n+m) cap) w'/\w'.ownsRow 0 e size (.slice (some ⟨g,0,none⟩) (n+m) cap) (n+m) (xs++news)/\w.grownBy w' v.ownBlock/\
   (v.ownBlock=some g\/g=w.heap.size):=by
 rcases hs with⟨rfl,ad,c,rfl,hl,hc⟩|⟨hu,rfl,⟨i',hi',hz',hb'⟩,bs,rfl,rfl,rfl⟩
 ·exact qT w t ty e i z size bytes ht hi hz hsize hby hzs hsz v n xs hown ad m c news hl hc h1 hpos h63 hbytes
 ·rw [hi]at hi';injection hi' with hi';subst hi';exact o8 w t u ty e i ht hu hi hz' hsize hb' v n xs hown bs hpos h63 (by rw [<-hby,hb']at hbytes;omega)
theorem j8 (t u ty e:TypeId) (i:TypeInfo) (ht:P.underlying t=some (.slice e)) (hi:P.info? e=some i) (g sLen sCap:Nat) (cur:Array Value) (hg:w.heap[g]?=some (.cells cur e (0,0)))
  (y:Value) (m:Nat) (news:List Value) (hs:j7 P t u e i.size y m news w) (h1: ∀u∈news,u.oneCell'=true) (hroom:sLen+m<=sCap) (hfit:sLen*i.size+news.length<=cur.size):
  (Builtin.append_ #[t,u] ty #[.slice (some ⟨g,0,none⟩) sLen sCap,y]).run P w=.ok (.slice (some ⟨g,0,none⟩) (sLen+m) sCap) (w.setRow g (cur.toList.take (sLen*i.size)++news++cur.toList.drop (sLen*i.size+news.length)).toArray):=by
 rcases hs with⟨rfl,ad,c,rfl,hl,hc⟩|⟨hu,h0,_,bs,rfl,rfl,rfl⟩
 ·exact run_append_room (P:=P) w t ty e i ht hi g sLen sCap cur hg ad m c news hl hc h1 hroom hfit
 ·have:=Lib.run_append_room_string (P:=P) w t u ty e i ht hu hi h0 g sLen sCap cur hg bs hroom (by rw [h0,Nat.mul_one,Lib.strCells_length]at hfit;exact hfit);rw [this,h0,Nat.mul_one,Lib.strCells_length]
end
end Go.Tg
namespace Go.Tg
open Go.RowKit Go.WideShapes Go.ChangeShapes
section
variable {H:Type} {enc:TypeId×Value->H} {P:Program}
end
theorem lX {w w':World} (h:Change (fun _=>False) w w'):Below w.heap.size w w':=h.below (Nat.le_refl _) (fun _ h=>h.elim)
section
variable {H:Type} {enc:TypeId×Value->H} {P:Program}
theorem iw {W W':World} (hl:laidOutB P=true) (hb:Below W.heap.size W W'): ∀ {ts:List TypeId} {vs:List Value} {ds:List (DataW H)} {ps:List MemPlace} {sp:Nat->Bool},
  (∀t∈ts,P.readableRec t=true/\t<P.types.size)->DataW.TrodAll enc P W 0 (fun _=>true) true ts vs ds ps->(∀p∈ps,p.block<W.heap.size)->(∀p∈ps,sp p.block=true)->DataW.TrodAll enc P W' 0 sp true ts vs ds ps
 | [],[],[],_,_,_,h,_,_=>h
 |t::ts,v::vs,d::ds,ps,sp,hr,h,hlt,hs=>by
  obtain⟨p,q,h1,h2,rfl⟩:=h;obtain⟨hr1,hr2⟩:=hr t (by simp)
  exact⟨p,q,WideElems.Trod_stays hl hr1 hr2 h1 (fun x hx=>hb.same (hlt x (by simp [hx]))) (fun x hx=>hs x (by simp [hx])),
   iw hl hb (fun t' ht'=>hr t' (by simp [ht'])) h2 (fun x hx=>hlt x (by simp [hx])) (fun x hx=>hs x (by simp [hx])),rfl⟩
 | [],_::_,_,_,_,_,h,_,_=>absurd h (by simp [DataW.TrodAll])
 | [],[],_::_,_,_,_,h,_,_=>absurd h (by simp [DataW.TrodAll])
 |_::_,[],_,_,_,_,h,_,_=>absurd h (by simp [DataW.TrodAll])
 |_::_,_::_,[],_,_,_,h,_,_=>absurd h (by simp [DataW.TrodAll])
theorem yK {f:Func} {s:ChangeSpec} {W W':World} {args:Array Value} {ds gs:List (DataW H)} {before:List MemPlace} (hl:laidOutB P=true)
  (hW:DataW.Whole enc P f.params.toList s.vars false W args.toList ds gs before) (hv:s.vars= []) (hr: ∀t∈f.params.toList,P.readableRec t=true/\t<P.types.size)
  {tb:TypeId} (hres:f.resultTypes=#[tb]) (htb:P.underlying tb=some .bool) (hfn:s.fn H ds= { results:= [.lit (.bool true)],args:=ds }) (hb:Below W.heap.size W W'):
  s.post enc P f false true false false W args (.bool true) W':=by
 have hlt: ∀p∈before,p.block<W.heap.size:=fun p hp=>hW.lt p hp;have hW0:=hW;obtain⟨p,q,hA,hV,rfl,hz,hn⟩:=hW;rw [hv]at hV;cases gs with
 |cons=>exact absurd hV (by simp [DataW.TrodVars])
 |nil=>
  have hq:q= []:=hV;subst hq;refine⟨ds,[],p++ [],[],p,[],hW0,?_,?_,?_,World.keptBut_mono (fun x hx=>⟨hx,?_⟩) (hb.frame (· ∈p++ [])),fun h=>by cases h⟩
  ·rw [List.append_nil,hfn,hres];exact trodAll_cons_mk (shut_bool htb _) trodAll_mk0
  ·rw [List.append_nil,hfn];exact iw hl hb hr hA (fun x hx=>hlt x (by simp [hx])) (fun x hx=>by simpa using hlt x (by simp [hx]))
  ·rw [List.append_nil,hfn,hv];rfl
  ·exact .inr (.inl (by simpa using hx))
end
end Go.Tg
namespace Go.Lg
theorem MP (b:UInt8) (n:Nat) (hn:n<256):((b.toNat:Int)=n)=(b=UInt8.ofNat n):=by
 have:=b.toNat_lt;apply propext;constructor
 ·intro h;apply UInt8.toNat_inj.1;simp;omega
 ·rintro rfl;simp;omega
section
variable {b:UInt8}
@[simp] theorem Tk {n:Nat} (hn:n<256):((b.toNat:Int)=no_index (@OfNat.ofNat Int n instOfNat))=(b=UInt8.ofNat n):=MP b n hn
@[simp] theorem Tl:((b.toNat:Int)=0)=(b=0):=MP b 0 (by decide)
@[simp] theorem Tm:((b.toNat:Int)<256)=True:=by simp;have:=b.toNat_lt;omega
end
end Go.Lg
namespace Tg.Un
structure Pat where
 b:List UInt8
 m:List UInt8
 s:List UInt8
 t:List UInt8
deriving DecidableEq
def begins (k:List UInt8):List UInt8->Nat
 | []=>0
 |c::s=>if k.contains c then begins k s+1 else 0
theorem begins_le (k:List UInt8): ∀s:List UInt8,begins k s<=s.length
 | []=>Nat.le_refl 0
 |c::s=>by
  unfold begins;have:=begins_le k s;split<;>simp<;>omega
def fit:List UInt8->List UInt8->List UInt8->Bool
 |c::s,b::bs,m::ms=>(c&&&m==b)&&fit s bs ms
 |_,_,_=>true
def fitN:List UInt8->List UInt8->List UInt8->Nat×Bool
 |c::s,b::bs,m::ms=>if c&&&m=b then((fitN s bs ms).1+1,(fitN s bs ms).2)else(0,false)
 |_,_,_=>(0,true)
theorem fitN_2: ∀s b m:List UInt8,(fitN s b m).2=fit s b m
 | [],_,_=>by simp [fitN,fit]
 |_::_,[],_=>by simp [fitN,fit]
 |_::_,_::_,[]=>by simp [fitN,fit]
 |c::s,b::bs,m::ms=>by
  unfold fitN fit;by_cases h:c&&&m=b
  ·rw [if_pos h,fitN_2 s bs ms];simp [h]
  ·rw [if_neg h];simp [h]
theorem fitN_1: ∀s b m:List UInt8,m.length=b.length->fit s b m=true->(fitN s b m).1=min s.length b.length
 | [],_,_,_,_=>by simp [fitN]
 |_::_,[],_,_,_=>by simp [fitN]
 |_::_,_::_,[],h,_=>by simp at h
 |c::s,b::bs,m::ms,h,hf=>by
  unfold fitN;unfold fit at hf;by_cases hc:c&&&m=b
  ·have hf:fit s bs ms=true:=by simpa [hc]using hf
   rw [if_pos hc,fitN_1 s bs ms (by simpa using h) hf];simp only [List.length_cons];omega
  ·simp [hc]at hf
def good (p:Pat):Bool:=decide (1<=p.b.length)&&decide (p.b.length<=64)&&decide (p.m.length=p.b.length)
def rest (p:Pat) (s:List UInt8):List UInt8:=s.drop (begins p.s s)
def hits (p:Pat) (s:List UInt8):Bool:=good p&&(fit (rest p s) p.b p.m&&decide (p.b.length<=(rest p s).length))
def opens (p:Pat) (s:List UInt8):Bool:=good p&&(fit (rest p s) p.b p.m&&decide ((rest p s).length<p.b.length))
def at_ (s:List UInt8):List Pat->Nat->Int
 | [],_=> -1
 |p::l,i=>if hits p s=true then i else at_ s l (i+1)
def typeOf (s:List UInt8):List Pat->List UInt8
 | []=> []
 |p::l=>if hits p s=true then p.t else typeOf s l
theorem at_none {s:List UInt8} : ∀ {l:List Pat} {i:Nat},at_ s l i<0->typeOf s l= []
 | [],_,_=>rfl
 |p::l,i,h=>by
  unfold at_ at h;unfold typeOf;split at h
  ·omega
  ·rename_i hh;rw [if_neg hh];exact at_none h
theorem at_some {s:List UInt8} : ∀ {l:List Pat} {i:Nat},0<=at_ s l i-> ∃(k:Nat) (hk:k<l.length),at_ s l i=((i+k:Nat):Int)/\typeOf s l=l[k].t
 | [],i,h=>by simp [at_]at h
 |p::l,i,h=>by
  unfold at_ at h⊢;unfold typeOf;split
  ·exact⟨0,by simp,by simp,by simp⟩
  ·rename_i hh;rw [if_neg hh]at h;obtain⟨k,hk,h1,h2⟩:=at_some h;exact⟨k+1,by simp;omega,by rw [h1];omega,by rw [h2];simp⟩
def letter (c:UInt8):Bool:=(decide ((97:Int)<=c.toNat)&&decide ((c.toNat:Int)<=122))||(decide ((65:Int)<=c.toNat)&&decide ((c.toNat:Int)<=90))
def up (c:UInt8):UInt8:=if letter c then c&&&223 else c
def msk (c:UInt8):UInt8:=if letter c then 223 else 255
def white:List UInt8:= [9,10,12,13,32]
def tag (s t:List UInt8):Pat:=⟨s.map up,s.map msk,white,t⟩
end Tg.Un
namespace Go.Proofs
open Go.Shelf
def Tryz.lays156_ren:Go.Shelf.Ren:=⟨fun|156=>259|165=>242|166=>175|169=>179|240=>226|241=>270|276=>260|277=>292|n=>n,fun|31=>116|9=>9|3=>3|4=>4|0=>0|20=>20|72=>180|76=>183|70=>178|37=>49|75=>182|127=>213|164=>236|5=>5|80=>36|n=>n,fun|n=>n⟩
theorem Tryz.lays156:Go.Proofs.Lays.n156 Tryz.prog Tryz.lays156_ren:= {
 mixed:=by kernel_rfl
 f156:=Tryz.func259.trans (congrArg some (by kernel_rfl))
 f165:=Tryz.func242.trans (congrArg some (by kernel_rfl))
 f166:=Tryz.func175.trans (congrArg some (by kernel_rfl))
 f169:=Tryz.func179.trans (congrArg some (by kernel_rfl))
 f240:=Tryz.func226.trans (congrArg some (by kernel_rfl))
 f241:=Tryz.func270.trans (congrArg some (by kernel_rfl))
 f276:=Tryz.func260.trans (congrArg some (by kernel_rfl))
 f277:=Tryz.func292.trans (congrArg some (by kernel_rfl))
 t0:=Tryz.underlying0
 a0:=Tryz.isAgg0
 z0:=Tryz.sizeOf0
 v0:=Tryz.zeroValue0
 t3:=Tryz.underlying3
 a3:=Tryz.isAgg3
 z3:=Tryz.sizeOf3
 v3:=Tryz.zeroValue3
 t4:=Tryz.underlying4
 a4:=Tryz.isAgg4
 z4:=Tryz.sizeOf4
 v4:=Tryz.zeroValue4
 t9:=Tryz.underlying9
 a9:=Tryz.isAgg9
 z9:=Tryz.sizeOf9
 v9:=Tryz.zeroValue9
 t20:=Tryz.underlying20
 a20:=Tryz.isAgg20
 z20:=Tryz.sizeOf20
 v20:=Tryz.zeroValue20
 t31:=Tryz.underlying116
 a31:=Tryz.isAgg116
 z31:=Tryz.sizeOf116
 v31:=Tryz.zeroValue116
 t37:=Tryz.underlying49
 a37:=Tryz.isAgg49
 z37:=Tryz.sizeOf49
 v37:=Tryz.zeroValue49
 t70:=Tryz.underlying178
 a70:=Tryz.isAgg178
 z70:=Tryz.sizeOf178
 v70:=Tryz.zeroValue178
 t72:=Tryz.underlying180
 a72:=Tryz.isAgg180
 z72:=Tryz.sizeOf180
 v72:=Tryz.zeroValue180
 t75:=Tryz.underlying182
 a75:=Tryz.isAgg182
 z75:=Tryz.sizeOf182
 v75:=Tryz.zeroValue182
 t76:=Tryz.underlying183
 a76:=Tryz.isAgg183
 z76:=Tryz.sizeOf183
 v76:=Tryz.zeroValue183
 t127:=Tryz.underlying213
 a127:=Tryz.isAgg213
 z127:=Tryz.sizeOf213
 v127:=Tryz.zeroValue213
 t164:=Tryz.underlying236
 a164:=Tryz.isAgg236
 z164:=Tryz.sizeOf236
 v164:=Tryz.zeroValue236 }
theorem Tryz.Builder_Extra_156:Builder.Extra Tryz.prog Tryz.lays156_ren:= {
 sizeBuilder:=by kernel_rfl
 liesBuilder:=by kernel_rfl
 t5:=Tryz.underlying5
 a5:=Tryz.isAgg5
 z5:=Tryz.sizeOf5
 v5:=Tryz.zeroValue5
 infoByte:=by kernel_rfl
 cellsByte:=by kernel_rfl
 sizeByte:=by kernel_rfl
 neB5:=by decide }
open Go.RowKit in
theorem Tryz.strings_Join_none (a:Option Addr) (c:Nat) (sep:ByteArray) (w:World):
  Calls Tryz.prog 259 #[.slice a 0 c,.string sep] w fun e w'=>e=.returned (.string ⟨#[]⟩)/\w'=w:=Any.strings_Join_none Tryz.lays156 Tryz.Builder_Extra_156 a c sep w
open Go.RowKit in
theorem Tryz.strings_Join (bk o c:Nat) (xs:List ByteArray) (sep:ByteArray) (w:World) (hcells: ∀(j:Nat) x,xs[j]?=some x->w.cell? ⟨bk,o+j,none⟩=some (.string x)) (hbk:bk<w.heap.size) (hN:xs.length<=140737488355328) (hcap:xs.length<=c) (hlen:(Lib.join (xs.map (·.data.toList)) sep.data.toList).length<=140737488355328):
  Calls Tryz.prog 259 #[.slice (some ⟨bk,o,none⟩) xs.length c,.string sep] w fun e w'=>e=.returned (.string ⟨(Lib.join (xs.map (·.data.toList)) sep.data.toList).toArray⟩)/\Below w.heap.size w w':=Any.strings_Join Tryz.lays156 Tryz.Builder_Extra_156 bk o c xs sep w hcells hbk hN hcap hlen
def Tryz.lays131_ren:Go.Shelf.Ren:=⟨fun|131=>312|126=>325|n=>n,fun|5=>5|3=>3|9=>9|n=>n,fun|n=>n⟩
theorem Tryz.lays131:Go.Proofs.Lays.n131 Tryz.prog Tryz.lays131_ren:= {
 mixed:=by kernel_rfl
 f126:=Tryz.func325.trans (congrArg some (by kernel_rfl))
 f131:=Tryz.func312.trans (congrArg some (by kernel_rfl))
 t3:=Tryz.underlying3
 a3:=Tryz.isAgg3
 z3:=Tryz.sizeOf3
 v3:=Tryz.zeroValue3
 t5:=Tryz.underlying5
 a5:=Tryz.isAgg5
 z5:=Tryz.sizeOf5
 v5:=Tryz.zeroValue5
 t9:=Tryz.underlying9
 a9:=Tryz.isAgg9
 z9:=Tryz.sizeOf9
 v9:=Tryz.zeroValue9 }
theorem Tryz.bits_LeadingZeros8 (x:Int) (w:World) (h0:0<=x) (h1:x<=255):
  Calls Tryz.prog 312 #[.int .u8 x] w fun e w'=>e=.returned (.int .i64 (8-(Lib.bitLen x.toNat:Int)))/\w'=w:=Any.bits_LeadingZeros8 Tryz.lays131 x w h0 h1
def Tryz.lays137_ren:Go.Shelf.Ren:=⟨fun|137=>201|217=>244|266=>271|n=>n,fun|9=>9|5=>5|3=>3|n=>n,fun|n=>n⟩
theorem Tryz.lays137:Go.Proofs.Lays.n137 Tryz.prog Tryz.lays137_ren:= {
 mixed:=by kernel_rfl
 f137:=Tryz.func201.trans (congrArg some (by kernel_rfl))
 f217:=Tryz.func244.trans (congrArg some (by kernel_rfl))
 f266:=Tryz.func271.trans (congrArg some (by kernel_rfl))
 t3:=Tryz.underlying3
 a3:=Tryz.isAgg3
 z3:=Tryz.sizeOf3
 v3:=Tryz.zeroValue3
 t5:=Tryz.underlying5
 a5:=Tryz.isAgg5
 z5:=Tryz.sizeOf5
 v5:=Tryz.zeroValue5
 t9:=Tryz.underlying9
 a9:=Tryz.isAgg9
 z9:=Tryz.sizeOf9
 v9:=Tryz.zeroValue9 }
open Go.RowKit in
theorem Tryz.strings_IndexByte (s:ByteArray) (c:Int) (w:World):
  Calls Tryz.prog 201 #[.string s,.int .u8 c] w fun e w'=>e=.returned (.int .i64 (Lib.indexByte s.data.toList c.toNat.toUInt8))/\w'=w:=Any.strings_IndexByte Tryz.lays137 s c w
def Tryz.lays219_ren:Go.Shelf.Ren:=⟨fun|219=>291|217=>244|225=>306|224=>307|267=>308|266=>271|314=>319|n=>n,fun|9=>9|3=>3|4=>4|5=>5|46=>59|146=>244|51=>193|n=>n,fun|1=>2|n=>n⟩
theorem Tryz.lays219:Go.Proofs.Lays.n219 Tryz.prog Tryz.lays219_ren:= {
 mixed:=by kernel_rfl
 f217:=Tryz.func244.trans (congrArg some (by kernel_rfl))
 f219:=Tryz.func291.trans (congrArg some (by kernel_rfl))
 f224:=Tryz.func307.trans (congrArg some (by kernel_rfl))
 f225:=Tryz.func306.trans (congrArg some (by kernel_rfl))
 f266:=Tryz.func271.trans (congrArg some (by kernel_rfl))
 f267:=Tryz.func308.trans (congrArg some (by kernel_rfl))
 f314:=Tryz.func319.trans (congrArg some (by kernel_rfl))
 t3:=Tryz.underlying3
 a3:=Tryz.isAgg3
 z3:=Tryz.sizeOf3
 v3:=Tryz.zeroValue3
 t4:=Tryz.underlying4
 a4:=Tryz.isAgg4
 z4:=Tryz.sizeOf4
 v4:=Tryz.zeroValue4
 t5:=Tryz.underlying5
 a5:=Tryz.isAgg5
 z5:=Tryz.sizeOf5
 v5:=Tryz.zeroValue5
 t9:=Tryz.underlying9
 a9:=Tryz.isAgg9
 z9:=Tryz.sizeOf9
 v9:=Tryz.zeroValue9
 t46:=Tryz.underlying59
 a46:=Tryz.isAgg59
 z46:=Tryz.sizeOf59
 v46:=Tryz.zeroValue59
 t51:=Tryz.underlying193
 a51:=Tryz.isAgg193
 z51:=Tryz.sizeOf193
 v51:=Tryz.zeroValue193
 t146:=Tryz.underlying244
 a146:=Tryz.isAgg244
 z146:=Tryz.sizeOf244
 v146:=Tryz.zeroValue244
 g1:=by kernel_rfl }
open Go.RowKit Go.Lib in
theorem Tryz.stringslite_Index_one (s:ByteArray) (c:UInt8) (w:World):
  Calls Tryz.prog 291 #[.string s,.string ⟨#[c]⟩] w fun e w'=>e=.returned (.int .i64 (Lib.indexByte s.data.toList c))/\w'=w:=Any.stringslite_Index_one Tryz.lays219 s c w
open Go.RowKit Go.Lib in
theorem Tryz.stringslite_Index (s sub:ByteArray) (m:Int) (w:World) (hs:s.size<4294967281) (hm:w.cell? ⟨2,0,none⟩=some (.int .i64 m)):
  Calls Tryz.prog 291 #[.string s,.string sub] w fun e w'=>e=.returned (.int .i64 (Lib.index s.data.toList sub.data.toList))/\w'=w:=Any.stringslite_Index Tryz.lays219 s sub m w hs hm
def Tryz.lays99_ren:Go.Shelf.Ren:=⟨fun|99=>95|206=>135|n=>n,fun|9=>9|4=>4|3=>3|n=>n,fun|n=>n⟩
theorem Tryz.lays99:Go.Proofs.Lays.n99 Tryz.prog Tryz.lays99_ren:= {
 mixed:=by kernel_rfl
 f99:=Tryz.func95.trans (congrArg some (by kernel_rfl))
 f206:=Tryz.func135.trans (congrArg some (by kernel_rfl))
 t3:=Tryz.underlying3
 a3:=Tryz.isAgg3
 z3:=Tryz.sizeOf3
 v3:=Tryz.zeroValue3
 t4:=Tryz.underlying4
 a4:=Tryz.isAgg4
 z4:=Tryz.sizeOf4
 v4:=Tryz.zeroValue4
 t9:=Tryz.underlying9
 a9:=Tryz.isAgg9
 z9:=Tryz.sizeOf9
 v9:=Tryz.zeroValue9 }
open Go.RowKit Go.Lib in
theorem Tryz.strings_HasPrefix (s p:ByteArray) (w:World):
  Calls Tryz.prog 95 #[.string s,.string p] w fun e w'=>e=.returned (.bool (Lib.hasPrefix s.data.toList p.data.toList))/\w'=w:=Any.strings_HasPrefix Tryz.lays99 s p w
def Tryz.lays146_ren:Go.Shelf.Ren:=⟨fun|146=>191|221=>239|268=>265|138=>266|143=>267|195=>288|197=>289|218=>290|219=>291|260=>305|217=>244|225=>306|224=>307|267=>308|266=>271|314=>319|n=>n,fun|9=>9|31=>116|3=>3|4=>4|0=>0|105=>256|21=>21|5=>5|46=>59|119=>144|139=>279|138=>278|146=>244|51=>193|n=>n,fun|1=>2|3=>3|4=>4|n=>n⟩
theorem Tryz.lays146:Go.Proofs.Lays.n146 Tryz.prog Tryz.lays146_ren:= {
 mixed:=by kernel_rfl
 f138:=Tryz.func266.trans (congrArg some (by kernel_rfl))
 f143:=Tryz.func267.trans (congrArg some (by kernel_rfl))
 f146:=Tryz.func191.trans (congrArg some (by kernel_rfl))
 f195:=Tryz.func288.trans (congrArg some (by kernel_rfl))
 f197:=Tryz.func289.trans (congrArg some (by kernel_rfl))
 f217:=Tryz.func244.trans (congrArg some (by kernel_rfl))
 f218:=Tryz.func290.trans (congrArg some (by kernel_rfl))
 f219:=Tryz.func291.trans (congrArg some (by kernel_rfl))
 f221:=Tryz.func239.trans (congrArg some (by kernel_rfl))
 f224:=Tryz.func307.trans (congrArg some (by kernel_rfl))
 f225:=Tryz.func306.trans (congrArg some (by kernel_rfl))
 f260:=Tryz.func305.trans (congrArg some (by kernel_rfl))
 f266:=Tryz.func271.trans (congrArg some (by kernel_rfl))
 f267:=Tryz.func308.trans (congrArg some (by kernel_rfl))
 f268:=Tryz.func265.trans (congrArg some (by kernel_rfl))
 f314:=Tryz.func319.trans (congrArg some (by kernel_rfl))
 t0:=Tryz.underlying0
 a0:=Tryz.isAgg0
 z0:=Tryz.sizeOf0
 v0:=Tryz.zeroValue0
 t3:=Tryz.underlying3
 a3:=Tryz.isAgg3
 z3:=Tryz.sizeOf3
 v3:=Tryz.zeroValue3
 t4:=Tryz.underlying4
 a4:=Tryz.isAgg4
 z4:=Tryz.sizeOf4
 v4:=Tryz.zeroValue4
 t5:=Tryz.underlying5
 a5:=Tryz.isAgg5
 z5:=Tryz.sizeOf5
 v5:=Tryz.zeroValue5
 t9:=Tryz.underlying9
 a9:=Tryz.isAgg9
 z9:=Tryz.sizeOf9
 v9:=Tryz.zeroValue9
 t21:=Tryz.underlying21
 a21:=Tryz.isAgg21
 z21:=Tryz.sizeOf21
 v21:=Tryz.zeroValue21
 t31:=Tryz.underlying116
 a31:=Tryz.isAgg116
 z31:=Tryz.sizeOf116
 v31:=Tryz.zeroValue116
 t46:=Tryz.underlying59
 a46:=Tryz.isAgg59
 z46:=Tryz.sizeOf59
 v46:=Tryz.zeroValue59
 t51:=Tryz.underlying193
 a51:=Tryz.isAgg193
 z51:=Tryz.sizeOf193
 v51:=Tryz.zeroValue193
 t105:=Tryz.underlying256
 a105:=Tryz.isAgg256
 z105:=Tryz.sizeOf256
 v105:=Tryz.zeroValue256
 t119:=Tryz.underlying144
 a119:=Tryz.isAgg144
 z119:=Tryz.sizeOf144
 t138:=Tryz.underlying278
 a138:=Tryz.isAgg278
 z138:=Tryz.sizeOf278
 v138:=Tryz.zeroValue278
 t139:=Tryz.underlying279
 a139:=Tryz.isAgg279
 z139:=Tryz.sizeOf279
 v139:=Tryz.zeroValue279
 t146:=Tryz.underlying244
 a146:=Tryz.isAgg244
 z146:=Tryz.sizeOf244
 v146:=Tryz.zeroValue244
 g1:=by kernel_rfl
 g3:=by kernel_rfl
 g4:=by kernel_rfl }
open Go.RowKit Go.Lib in
theorem Tryz.strings_Split (s sep:ByteArray) (m:Int) (w:World) (hs:s.size<4294967281) (hm:w.cell? ⟨2,0,none⟩=some (.int .i64 m)) (h1:1<=sep.size):
  Calls Tryz.prog 191 #[.string s,.string sep] w fun e w'=>
   e=.returned (.slice (some ⟨w.heap.size,0,none⟩) (Lib.countB s sep+1) (Lib.countB s sep+1))/\w'=w.alloc (.cells ((Lib.splitB sep 0 (Lib.countB s sep) s).map Value.string).toArray 9):=Any.strings_Split Tryz.lays146 (by kernel_rfl) s sep m w hs hm h1
def Tryz.lays157_ren:Go.Shelf.Ren:=⟨fun|157=>88|229=>120|199=>121|261=>182|311=>231|312=>232|n=>n,fun|9=>9|31=>116|3=>3|5=>5|4=>4|119=>144|0=>0|40=>146|152=>190|21=>21|154=>192|51=>193|141=>195|196=>217|193=>214|198=>219|49=>31|194=>215|201=>222|226=>239|46=>59|227=>240|n=>n,fun|0=>0|6=>1|n=>n⟩
theorem Tryz.lays157:Go.Proofs.Lays.n157 Tryz.prog Tryz.lays157_ren:= {
 mixed:=by kernel_rfl
 f157:=Tryz.func88.trans (congrArg some (by kernel_rfl))
 f199:=Tryz.func121.trans (congrArg some (by kernel_rfl))
 f229:=Tryz.func120.trans (congrArg some (by kernel_rfl))
 f261:=Tryz.func182.trans (congrArg some (by kernel_rfl))
 f311:=Tryz.func231.trans (congrArg some (by kernel_rfl))
 f312:=Tryz.func232.trans (congrArg some (by kernel_rfl))
 t0:=Tryz.underlying0
 a0:=Tryz.isAgg0
 z0:=Tryz.sizeOf0
 v0:=Tryz.zeroValue0
 t3:=Tryz.underlying3
 a3:=Tryz.isAgg3
 z3:=Tryz.sizeOf3
 v3:=Tryz.zeroValue3
 t4:=Tryz.underlying4
 a4:=Tryz.isAgg4
 z4:=Tryz.sizeOf4
 v4:=Tryz.zeroValue4
 t5:=Tryz.underlying5
 a5:=Tryz.isAgg5
 z5:=Tryz.sizeOf5
 v5:=Tryz.zeroValue5
 t9:=Tryz.underlying9
 a9:=Tryz.isAgg9
 z9:=Tryz.sizeOf9
 v9:=Tryz.zeroValue9
 t21:=Tryz.underlying21
 a21:=Tryz.isAgg21
 z21:=Tryz.sizeOf21
 v21:=Tryz.zeroValue21
 t31:=Tryz.underlying116
 a31:=Tryz.isAgg116
 z31:=Tryz.sizeOf116
 v31:=Tryz.zeroValue116
 t40:=Tryz.underlying146
 a40:=Tryz.isAgg146
 z40:=Tryz.sizeOf146
 v40:=Tryz.zeroValue146
 t46:=Tryz.underlying59
 a46:=Tryz.isAgg59
 z46:=Tryz.sizeOf59
 v46:=Tryz.zeroValue59
 t49:=Tryz.underlying31
 a49:=Tryz.isAgg31
 z49:=Tryz.sizeOf31
 v49:=Tryz.zeroValue31
 t51:=Tryz.underlying193
 a51:=Tryz.isAgg193
 z51:=Tryz.sizeOf193
 v51:=Tryz.zeroValue193
 t119:=Tryz.underlying144
 a119:=Tryz.isAgg144
 z119:=Tryz.sizeOf144
 t141:=Tryz.underlying195
 a141:=Tryz.isAgg195
 z141:=Tryz.sizeOf195
 v141:=Tryz.zeroValue195
 t152:=Tryz.underlying190
 a152:=Tryz.isAgg190
 z152:=Tryz.sizeOf190
 v152:=Tryz.zeroValue190
 t154:=Tryz.underlying192
 a154:=Tryz.isAgg192
 z154:=Tryz.sizeOf192
 v154:=Tryz.zeroValue192
 t193:=Tryz.underlying214
 a193:=Tryz.isAgg214
 z193:=Tryz.sizeOf214
 v193:=Tryz.zeroValue214
 t194:=Tryz.underlying215
 a194:=Tryz.isAgg215
 z194:=Tryz.sizeOf215
 v194:=Tryz.zeroValue215
 t196:=Tryz.underlying217
 a196:=Tryz.isAgg217
 z196:=Tryz.sizeOf217
 v196:=Tryz.zeroValue217
 t198:=Tryz.underlying219
 a198:=Tryz.isAgg219
 z198:=Tryz.sizeOf219
 v198:=Tryz.zeroValue219
 t201:=Tryz.underlying222
 a201:=Tryz.isAgg222
 z201:=Tryz.sizeOf222
 v201:=Tryz.zeroValue222
 t226:=Tryz.underlying239
 a226:=Tryz.isAgg239
 z226:=Tryz.sizeOf239
 v226:=Tryz.zeroValue239
 t227:=Tryz.underlying240
 a227:=Tryz.isAgg240
 z227:=Tryz.sizeOf240
 v227:=Tryz.zeroValue240
 g0:=by kernel_rfl
 g6:=by kernel_rfl }
open Go.RowKit Go.Lib in
theorem Tryz.strings_Fields (s:ByteArray) (w:World) (hs:s.size<4294967281) (hascii: ∀(j:Nat) b,s.data.toList[j]?=some b->b.toNat<128) (htab:Lib.TabIs Tryz.prog w "strings.asciiSpace" .u8 Lib.asciiSpaceTab):
  Calls Tryz.prog 88 #[.string s] w fun e w'=>
   e=.returned (.slice (some ⟨w.heap.size,0,none⟩) (Lib.fields s.data.toList).length (Lib.fields s.data.toList).length)/\w'=w.alloc (.cells ((Lib.fields s.data.toList).map fun l=>Value.string ⟨l.toArray⟩).toArray 9):=Any.strings_Fields Tryz.lays157 (by kernel_rfl) (by kernel_rfl) s w hs hascii htab
def Tryz.lays105_ren:Go.Shelf.Ren:=⟨fun|105=>194|212=>241|99=>95|165=>242|166=>175|170=>243|169=>179|263=>268|264=>269|206=>135|240=>226|241=>270|276=>260|277=>292|n=>n,fun|9=>9|3=>3|4=>4|20=>20|0=>0|46=>59|109=>227|5=>5|72=>180|76=>183|51=>193|146=>244|53=>246|148=>247|70=>178|37=>49|75=>182|127=>213|164=>236|80=>36|n=>n,fun|n=>n⟩
theorem Tryz.lays105:Go.Proofs.Lays.n105 Tryz.prog Tryz.lays105_ren:= {
 mixed:=by kernel_rfl
 f99:=Tryz.func95.trans (congrArg some (by kernel_rfl))
 f105:=Tryz.func194.trans (congrArg some (by kernel_rfl))
 f165:=Tryz.func242.trans (congrArg some (by kernel_rfl))
 f166:=Tryz.func175.trans (congrArg some (by kernel_rfl))
 f169:=Tryz.func179.trans (congrArg some (by kernel_rfl))
 f170:=Tryz.func243.trans (congrArg some (by kernel_rfl))
 f206:=Tryz.func135.trans (congrArg some (by kernel_rfl))
 f212:=Tryz.func241.trans (congrArg some (by kernel_rfl))
 f240:=Tryz.func226.trans (congrArg some (by kernel_rfl))
 f241:=Tryz.func270.trans (congrArg some (by kernel_rfl))
 f263:=Tryz.func268.trans (congrArg some (by kernel_rfl))
 f264:=Tryz.func269.trans (congrArg some (by kernel_rfl))
 f276:=Tryz.func260.trans (congrArg some (by kernel_rfl))
 f277:=Tryz.func292.trans (congrArg some (by kernel_rfl))
 t0:=Tryz.underlying0
 a0:=Tryz.isAgg0
 z0:=Tryz.sizeOf0
 v0:=Tryz.zeroValue0
 t3:=Tryz.underlying3
 a3:=Tryz.isAgg3
 z3:=Tryz.sizeOf3
 v3:=Tryz.zeroValue3
 t4:=Tryz.underlying4
 a4:=Tryz.isAgg4
 z4:=Tryz.sizeOf4
 v4:=Tryz.zeroValue4
 t5:=Tryz.underlying5
 a5:=Tryz.isAgg5
 z5:=Tryz.sizeOf5
 v5:=Tryz.zeroValue5
 t9:=Tryz.underlying9
 a9:=Tryz.isAgg9
 z9:=Tryz.sizeOf9
 v9:=Tryz.zeroValue9
 t20:=Tryz.underlying20
 a20:=Tryz.isAgg20
 z20:=Tryz.sizeOf20
 v20:=Tryz.zeroValue20
 t37:=Tryz.underlying49
 a37:=Tryz.isAgg49
 z37:=Tryz.sizeOf49
 v37:=Tryz.zeroValue49
 t46:=Tryz.underlying59
 a46:=Tryz.isAgg59
 z46:=Tryz.sizeOf59
 v46:=Tryz.zeroValue59
 t51:=Tryz.underlying193
 a51:=Tryz.isAgg193
 z51:=Tryz.sizeOf193
 v51:=Tryz.zeroValue193
 t53:=Tryz.underlying246
 a53:=Tryz.isAgg246
 z53:=Tryz.sizeOf246
 v53:=Tryz.zeroValue246
 t70:=Tryz.underlying178
 a70:=Tryz.isAgg178
 z70:=Tryz.sizeOf178
 v70:=Tryz.zeroValue178
 t72:=Tryz.underlying180
 a72:=Tryz.isAgg180
 z72:=Tryz.sizeOf180
 v72:=Tryz.zeroValue180
 t75:=Tryz.underlying182
 a75:=Tryz.isAgg182
 z75:=Tryz.sizeOf182
 v75:=Tryz.zeroValue182
 t76:=Tryz.underlying183
 a76:=Tryz.isAgg183
 z76:=Tryz.sizeOf183
 v76:=Tryz.zeroValue183
 t109:=Tryz.underlying227
 a109:=Tryz.isAgg227
 z109:=Tryz.sizeOf227
 v109:=Tryz.zeroValue227
 t127:=Tryz.underlying213
 a127:=Tryz.isAgg213
 z127:=Tryz.sizeOf213
 v127:=Tryz.zeroValue213
 t146:=Tryz.underlying244
 a146:=Tryz.isAgg244
 z146:=Tryz.sizeOf244
 v146:=Tryz.zeroValue244
 t148:=Tryz.underlying247
 a148:=Tryz.isAgg247
 z148:=Tryz.sizeOf247
 v148:=Tryz.zeroValue247
 t164:=Tryz.underlying236
 a164:=Tryz.isAgg236
 z164:=Tryz.sizeOf236
 v164:=Tryz.zeroValue236 }
theorem Tryz.Builder_Extra_105:Builder.Extra Tryz.prog Tryz.lays105_ren:= {
 sizeBuilder:=by kernel_rfl
 liesBuilder:=by kernel_rfl
 t5:=Tryz.underlying5
 a5:=Tryz.isAgg5
 z5:=Tryz.sizeOf5
 v5:=Tryz.zeroValue5
 infoByte:=by kernel_rfl
 cellsByte:=by kernel_rfl
 sizeByte:=by kernel_rfl
 neB5:=by decide }
open Go.RowKit Go.Lib in
theorem Tryz.strings_Repeat (s:ByteArray) (c:Nat) (w:World) (hc:c<=9223372036854775807) (hlen:s.size*c<=140737488355328):
  Calls Tryz.prog 194 #[.string s,.int .i64 c] w fun e w'=>e=.returned (.string ⟨(Lib.repeatL s.data.toList c).toArray⟩)/\Below w.heap.size w w':=Any.strings_Repeat Tryz.lays105 Tryz.Builder_Extra_105 s c w hc hlen
end Go.Proofs
set_option maxRecDepth 1000000
namespace Tg.Lo
def low (b:UInt8):UInt8:=if(65:Int)<=b.toNat/\(b.toNat:Int)<=90 then b+32 else b
def lower (s:List UInt8):List UInt8:=s.map low
end Tg.Lo
namespace Go.Proofs.YtbeoilidocfofaaGreatDoor
open Go.RowKit Go.Lib Go.Tg
theorem MQ (b:UInt8) (w:World):Calls Tryz.prog 181 #[.int .u8 b.toNat] w fun e w'=>e=.returned (.int .u8 (Tg.Lo.low b).toNat)/\w'=w:=by
 have hlt:=b.toNat_lt;have e1:(65:Int)<=b.toNat/\(b.toNat:Int)<=90->(b+32).toNat=b.toNat+32:=fun h=>by rw [UInt8.toNat_add];show(b.toNat+32)%256=_;omega
 by_cases h1:(65:Int)<=b.toNat
 ·by_cases h2:(b.toNat:Int)<=90
  ·have e:=e1 ⟨h1,h2⟩;have hl:(Tg.Lo.low b).toNat=b.toNat+32:=by unfold Tg.Lo.low;rw [if_pos ⟨h1,h2⟩,e]
   rw [hl]
   go_enter Tryz.func181,Tryz.ntmps181
   go_wp2
   go_ret
   exact⟨by rw [show((b.toNat+32:Nat):Int)=(b.toNat:Int)+32 by omega];rfl,rfl⟩
  ·have hl:(Tg.Lo.low b).toNat=b.toNat:=by unfold Tg.Lo.low;rw [if_neg (fun h=>h2 h.2)]
   rw [hl]
   go_enter Tryz.func181,Tryz.ntmps181
   go_wp2
   go_ret
   exact⟨rfl,rfl⟩
 ·have hl:(Tg.Lo.low b).toNat=b.toNat:=by unfold Tg.Lo.low;rw [if_neg (fun h=>h1 h.1)]
  rw [hl]
  go_enter Tryz.func181,Tryz.ntmps181
  go_wp2
  go_ret
  exact⟨rfl,rfl⟩
def yL (k:Nat) (s:List UInt8) (i:Nat) (w w':World):Prop:=
 ∃arr f,w'.heap[k]?=some (.cells arr 5 (f,f+1))/\arr.size=f/\s.length<=f/\(∀(j:Nat) b,s[j]?=some b->arr[j]?=some (.int .u8 (if j<i then(Tg.Lo.low b).toNat else b.toNat:Nat)))/\Change (fun _=>False) w w'
set_option maxHeartbeats 4000000 in
theorem Dj (s:ByteArray) (w:World) (hs:s.size<=maxLen):Calls Tryz.prog 281 #[.string s] w fun e w'=>e=.returned (.string ⟨(Tg.Lo.lower s.data.toList).toArray⟩)/\Change (fun _=>False) w w':=by
 have t3:=Tryz.underlying3;have t4:=Tryz.underlying4;have t5:=Tryz.underlying5;have t9:=Tryz.underlying9;have t81:=Tryz.underlying49;have hcv:=Lib.run_convert_string_bytes w 9 49 5 s t9 t81 t5
 go_enter Tryz.func281,Tryz.ntmps281
 go_wp2
 go_loopg [9,4] s.size (fun g p _ wr=> ∃i:Nat,i+g=s.size/\p=.int .i64 i/\yL w.heap.size s.data.toList i w wr)
 case atStart=>
  refine⟨0,by omega,rfl,Lib.bytesCells w 5 s,(Lib.bytesCells w 5 s).size,Lib.bytesWorld_at_new w 5 s,rfl,?_,?_,?_⟩
  ·simp [Lib.bytesCells,<-Lib.size_eq]
  ·intro j b hb;have hj:j<s.size:=by have:=(List.getElem?_eq_some_iff.1 hb).1;rw [Lib.size_eq];exact this
   unfold Lib.bytesCells;rw [Array.getElem?_append_left (by simpa using hj),Array.getElem?_map,<-Array.getElem?_toList,hb];simp
  ·refine⟨?_,?_,?_,by rw [Lib.bytesWorld_size];omega,fun k hk _=>Lib.bytesWorld_at_old w 5 s k hk⟩<;>(unfold Lib.bytesWorld World.freeze;split<;>rfl)
 case round=>
  obtain⟨i,hig,rfl,hlow⟩:=hrel;have HL:Aside (yL w.heap.size s.data.toList i w wr):=hlow;cases gk with
  |zero=>
   obtain rfl:i=s.size:=by omega
   obtain⟨arr,f,h1,h2,h3,h4,h5⟩:=hlow;have hlen:(Tg.Lo.lower s.data.toList).length=s.size:=by rw [Lib.size_eq];simp [Tg.Lo.lower]
   have hcs:=run_convert_bytes_back (P:=Tryz.prog) wr 49 9 5 ⟨w.heap.size,0,none⟩ (grownCap w s.size 0 5) (Tg.Lo.lower s.data.toList) t81 t5 t9 (fun j hj=>by
    have hj2:j<s.data.toList.length:=by rw [Lib.size_eq]at hlen;omega
    have:=h4 j _ (List.getElem?_eq_getElem hj2);rw [if_pos (by rw [Lib.size_eq];exact hj2)]at this
    have e:((⟨w.heap.size,0,none⟩:Addr).add j)=⟨w.heap.size,j,none⟩:=by
     unfold Addr.add;split
     ·rename_i hz;subst hz;rfl
     ·simp
    rw [e];simp only [World.cell?,h1];rw [show(if(none:Option Nat).isSome=true then none else arr[j]?)=arr[j]? from rfl,this];simp [Tg.Lo.lower])
   rw [hlen]at hcs;have HC:Aside (Change (fun _=>False) w wr):=h5;clear h1 h2 h3 h4 h5 HL
   go_wp2
   go_ret
   exact⟨rfl,HC.out⟩
  |succ g=>
   have hi:i<s.size:=by omega
   obtain⟨x,hx⟩: ∃x:UInt8,s[i]'hi=x:=⟨_,rfl⟩
   have hxl:s.data.toList[i]?=some x:=by rw [<-hx];exact Lib.data_getElem? s i hi
   obtain⟨arr,f,h1,h2,h3,h4,h5⟩:=hlow;have hc:=h4 i x hxl;rw [if_neg (Nat.lt_irrefl i)]at hc;have hcell:wr.cell? ⟨w.heap.size,i,none⟩=some (.int .u8 x.toNat):=by simp [World.cell?,h1,hc]
   have hfz:wr.frozen? ⟨w.heap.size,i,none⟩=false:=by
    have:i<f:=by rw [Lib.size_eq]at hi;omega
    simp [World.frozen?,h1];omega
   have HL2:Aside (yL w.heap.size s.data.toList (i+1) w (wr.setCell ⟨w.heap.size,i,none⟩ (.int .u8 (Tg.Lo.low x).toNat))):=by
    refine⟨arr.setIfInBounds i (.int .u8 (Tg.Lo.low x).toNat),f,by simp [World.setCell,Array.getElem?_modify,h1],by simp [h2],h3,fun j b hb=>?_,?_⟩
    ·by_cases hji:j=i
     ·subst hji;rw [hxl]at hb;injection hb with hb;subst hb;rw [Array.getElem?_setIfInBounds_self_of_lt (by rw [Lib.size_eq]at hi;omega),if_pos (Nat.lt_succ_self _)]
     ·rw [Array.getElem?_setIfInBounds_ne (fun e=>hji e.symm),h4 j b hb];by_cases hj:j<i
      ·rw [if_pos hj,if_pos (by omega)]
      ·rw [if_neg hj,if_neg (by omega)]
    ·refine⟨h5.os,h5.tape,h5.output,by simp [World.setCell];exact h5.size,fun k hk hn=>?_⟩;rw [<-h5.block k hk hn];simp only [World.setCell,Array.getElem?_modify];rw [if_neg (by omega)]
   have hw1:wrap64 ((i:Int)+1)=((i+1:Nat):Int):=by
    rw [IntWalk.wrap64_in _ ⟨by omega,by unfold maxLen at hs;omega⟩];omega
   clear h1 h2 h3 h4 h5 hc hxl hx
   go_wp2_with (go_at_call 181;refine(MQ x _).mono ?_;rintro e w' ⟨rfl,hw⟩;rw [hw])
   go_roundg g
   case measure=>omega
   case rel=>exact⟨i+1,by omega,by rw [hw1],HL2.out⟩
end Go.Proofs.YtbeoilidocfofaaGreatDoor
namespace Go.Proofs.YtbeoilidocfofaaGreatDoor
open Go.RowKit Go.Lib Go.Tg Go.Shelf
theorem nK {w:World} {g n:Nat} :Change (fun k=>k=g) w (w.freeze ⟨g,0,none⟩ n):=by
 unfold World.freeze;split
 ·exact Change.refl _ w
 ·refine⟨rfl,rfl,rfl,by simp,fun k hk hn=>?_⟩;simp only [Array.getElem?_modify];rw [if_neg (fun e=>hn e.symm)]
theorem kR {S:Nat->Prop} {w:World} :Change S w w.drew:=⟨rfl,rfl,rfl,Nat.le_refl _,fun _ _ _=>rfl⟩
set_option maxHeartbeats 2000000 in
theorem ti (b g cap:Nat) (l:List UInt8) (cur:Array Value) (w:World) (h0:l≠ []) (hbk:w.cell? ⟨b,1,none⟩=some (.slice (some ⟨g,0,none⟩) l.length cap))
  (hg:w.heap[g]?=some (.cells cur 5 (0,0))) (hcap:l.length<=cap) (hcs:l.length<=cur.size) (hcm:l.length<=maxLen) (hcell: ∀(j:Nat) x,l[j]?=some x->cur[j]?=some (.int .u8 x.toNat)):
  Calls Tryz.prog 179 #[.pointer (some ⟨b,0,none⟩)] w fun e w'=>e=.returned (.string ⟨l.toArray⟩)/\Change (fun k=>k=g) w w':=by
 have hl0:l.length≠0:=by simpa using h0
 have c1:w.drew.cell? ⟨b,1,none⟩=some (.slice (some ⟨g,0,none⟩) l.length cap):=hbk
 have hSD:(Builtin.unsafeSliceData_ #[49] 213 #[.slice (some ⟨g,0,none⟩) l.length cap]).run Tryz.prog w.drew=.ok (.pointer (some ⟨g,0,none⟩)) w.drew:=
  Lib.run_unsafeSliceData_row _ _ _ _ _ _ (by omega)
 have hUS:(Builtin.unsafeString_ #[213,3] 9 #[.pointer (some ⟨g,0,none⟩),.int .i64 l.length]).run Tryz.prog w.drew=.ok (.string ⟨l.toArray⟩) (w.drew.freeze ⟨g,0,none⟩ l.length):=by
  refine Lib.run_unsafeString_row w.drew 213 3 9 5 Tryz.underlying213 (by kernel_rfl) g cur.size (by have hg':w.drew.heap[g]?=some (.cells cur 5 (0,0)):=hg;simp [World.shape?,hg']) l h0 (by omega) (by unfold maxLen at hcm;omega) ?_;intro j x hx;have hg':w.drew.heap[g]?=some (.cells cur 5 (0,0)):=hg
  have e:((⟨g,0,none⟩:Addr).add j)=⟨g,j,none⟩:=by
   unfold Addr.add;split
   ·rename_i hz;subst hz;rfl
   ·simp
  rw [e,Lib.cell_of_heap hg'];exact hcell j x hx
 have hmix:Tryz.prog.follows .mixedOrders=true:=by kernel_rfl
 go_enter Tryz.func179,Tryz.ntmps179
 go_wp2
 go_region_o
 all_goals (go_wp2;go_ret;exact⟨rfl,kR.trans nK (fun _ h=>.inl h)⟩)
set_option maxHeartbeats 2000000 in
theorem lY (b:Nat) (w:World) (hbk:w.cell? ⟨b,1,none⟩=some (.slice none 0 0)):
  Calls Tryz.prog 179 #[.pointer (some ⟨b,0,none⟩)] w fun e w'=>e=.returned (.string ⟨#[]⟩)/\Change (fun _=>False) w w':=by
 have c1:w.drew.cell? ⟨b,1,none⟩=some (.slice none 0 0):=hbk;have hSD:(Builtin.unsafeSliceData_ #[49] 213 #[.slice none 0 0]).run Tryz.prog w.drew=.ok (.pointer none) w.drew:=Lib.run_unsafeSliceData_nil _ _ _ _ _;have hUS:(Builtin.unsafeString_ #[213,3] 9 #[.pointer none,.int .i64 0]).run Tryz.prog w.drew=.ok (.string .empty) w.drew:=Lib.run_unsafeString_none _ _ _ _ _;have hmix:Tryz.prog.follows .mixedOrders=true:=by kernel_rfl
 go_enter Tryz.func179,Tryz.ntmps179
 go_wp2
 go_region_o
 all_goals (go_wp2;go_ret;exact⟨rfl,kR⟩)
theorem yM (k:Nat):liesAt Tryz.prog Tryz.prog.depth 180 ((2+k*2)/Tryz.prog.cellsOf 180) 0 180 1=true:=by
 have h1:Tryz.prog.cellsOf 180=2:=by kernel_rfl
 have h2:sameLayout Tryz.prog Tryz.prog.depth 180 180=true:=by kernel_rfl
 obtain⟨d,hd⟩: ∃d,Tryz.prog.depth=d+1:=⟨Tryz.prog.depth-1,by have:Tryz.prog.depth≠0:=of_decide_eq_true (by kernel_rfl);omega⟩
 rw [hd]at h2⊢;have e:(2+k*2)/Tryz.prog.cellsOf 180=k+1:=by rw [h1];omega
 rw [e];unfold liesAt;rw [hd];unfold rowAt;simp only [h1,h2];simp
theorem yN (b:Nat) (w:World) (h0:w.cell? ⟨b,0,none⟩=some (.pointer (some ⟨b,0,none⟩))):
  Calls Tryz.prog 226 #[.pointer (some ⟨b,0,none⟩)] w fun e w'=>e=.returned (.tuple #[])/\w'=w:=by
 obtain⟨j,hj,_⟩: ∃j,Tryz.prog.info? 180=some j/\j.size=2:=Option.map_eq_some_iff.1 (show(Tryz.prog.info? 180).map (·.size)=some 2 by kernel_rfl)
 go_enter Tryz.func226,Tryz.ntmps226
 go_wp2
 rw [Lib.run_neq_ptr_same w _ Tryz.underlying178 hj]
 go_wp2
 go_end0
 exact⟨rfl,rfl⟩
theorem wq (b k:Nat) (w:World) (h0:w.cell? ⟨b,0,none⟩=some (.pointer none)) (hsh:w.shape? b=some (180,2+k*2)) (hfz:w.frozen? ⟨b,0,none⟩=false):
  Calls Tryz.prog 226 #[.pointer (some ⟨b,0,none⟩)] w fun e w'=>e=.returned (.tuple #[])/\w'=w.setCell ⟨b,0,none⟩ (.pointer (some ⟨b,0,none⟩)):=by
 obtain⟨j,hj,hjs⟩: ∃j,Tryz.prog.info? 180=some j/\j.size=2:=Option.map_eq_some_iff.1 (show(Tryz.prog.info? 180).map (·.size)=some 2 by kernel_rfl)
 go_enter Tryz.func226,Tryz.ntmps226
 go_wp2
 rw [Lib.run_to_unsafe w ⟨b,0,none⟩ Tryz.underlying178 Tryz.underlying236 hj (by rw [hjs];decide) hsh (show 0<2+k*2 by omega)];simp only [Result.andThen];rw [Oper.upon_value]
 go_wp2
 rw [run_callFunc_extern Tryz.func260 (by kernel_rfl) (by kernel_rfl) (by kernel_rfl) (e:=Extern.AbiNoEscape.same) (by kernel_rfl)];rw [Lib.run_noEscape];simp only [Result.andThen];rw [Oper.upon_value]
 go_wp2
 rw [Lib.run_from_unsafe w ⟨b,0,none⟩ Tryz.underlying236 Tryz.underlying178 hj hsh (yM k)];simp only [Result.andThen];rw [Oper.upon_value]
 go_wp2
 go_end0
 exact⟨rfl,rfl⟩
end Go.Proofs.YtbeoilidocfofaaGreatDoor
namespace Tg.Un
def bs (s:String):List UInt8:=s.toUTF8.data.toList
def num4:List UInt8->Nat
 |a::b::c::d::_=>((a.toNat*256+b.toNat)*256+c.toNat)*256+d.toNat
 |_=>0
def ftyp:List UInt8:= [102,116,121,112]
def mp4h (s:List UInt8):Bool:=decide (12<=s.length)&&(decide (num4 s<=s.length)&&(decide (num4 s%4=0)&&((s.drop 4).take 4==ftyp)))
def brands (s:List UInt8):List (List UInt8):=(s.drop 8).take 4::(List.range ((num4 s-16)/4)).map fun i=>(s.drop (16+4*i)).take 4
def mp4 (s:List UInt8):Bool:=mp4h s&&(brands s).any fun b=>b.take 3== [109,112,52]
def width (b:UInt8):Nat:=
 if 128<=b.toNat then 1 else if 64<=b.toNat then 2 else if 32<=b.toNat then 3 else if 16<=b.toNat then 4 else if 8<=b.toNat then 5 else if 4<=b.toNat then 6 else if 2<=b.toNat then 7 else 8
def pre:List UInt8->List UInt8->Bool
 |_,[]=>true
 |c::s,d::p=>c==d&&pre s p
 | [],_::_=>false
def webmS:List UInt8:= [119,101,98,109]
def padded:List UInt8->Bool
 | []=>false
 |c::s=>if c=0 then padded s else pre (c::s) webmS
def mark:List UInt8:= [26,69,223,163]
def webmAt (s:List UInt8):Nat->Nat->Bool
 |0,_=>false
 |n+1,at_=>
  if s.length<=at_\/38<=at_ then false
  else if pre (s.drop at_) [66,130]=true then
   if s.length<=at_+2 then false
   else if s.length<=at_+2+width (s.getD (at_+2) 0)+4 then false
   else if padded (s.drop (at_+2+width (s.getD (at_+2) 0)))=true then true
   else webmAt s n (at_+2+width (s.getD (at_+2) 0)+1)
  else webmAt s n (at_+1)
def webm (s:List UInt8):Bool:=pre s mark&&webmAt s 38 4
def rateO:List Nat:= [0,32,40,48,56,64,80,96,112,128,160,192,224,256,320]
def rateE:List Nat:= [0,8,16,24,32,40,48,56,64,80,96,112,128,144,160]
def freqs:List Nat:= [44100,48000,32000]
structure Frm where
 v:Nat
 r:Nat
 f:Nat
 p:Bool
def head3:List UInt8->Option Frm
 |a::b::c::_::_=>
  if a.toNat=255/\224<=b.toNat/\b.toNat/2%4=1/\c.toNat/16<15/\c.toNat/4%4<3 then
   some ⟨b.toNat/8%4,1000*(if b.toNat/8%2=1 then rateO else rateE).getD (c.toNat/16) 0,freqs.getD (c.toNat/4%4) 0,c.toNat/2%2==1⟩
  else none
 |_=>none
def flen (f:Frm):Nat:=f.r*(if f.v%2=1 then 144 else 72)/f.f+(if f.p then 1 else 0)
def mp3 (s:List UInt8):Bool:=
 match head3 s with
 |some f=>decide (4<=flen f)&&(decide (flen f<=s.length)&&(head3 (s.drop (flen f))).isSome)
 |none=>false
def Tn (b:UInt8):Bool:=decide (b.toNat<=8)||(b.toNat==11||((decide (14<=b.toNat)&&decide (b.toNat<=26))||(decide (28<=b.toNat)&&decide (b.toNat<=31))))
def MR:List UInt8->Nat->Int
 | [],_=> -1
 |b::s,i=>if Tn b=true then i else MR s (i+1)
def htmlT:List UInt8:= [116,101,120,116,47,104,116,109,108]
def Ig:List UInt8:= [116,101,120,116,47,120,109,108]
def MS:List UInt8:= [97,112,112,108,105,99,97,116,105,111,110,47,112,100,102]
def plainT:List UInt8:= [116,101,120,116,47,112,108,97,105,110]
def Dk:List UInt8:= [97,112,112,108,105,99,97,116,105,111,110,47,111,99,116,101,116,45,115,116,114,101,97,109]
def tagsS:List UInt8:= [33,68,79,67,84,89,80,69,32,72,84,77,76,44,72,84,77,76,44,72,69,65,68,44,83,67,82,73,80,84,44,73,70,82,65,77,69,44,72,49,44,68,73,86,44,70,79,78,84,44,84,65,66,76,69,44,65,44,83,84,89,76,69,44,84,73,84,76,69,44,66,44,66,79,68,89,44,66,82,44,80]
def tagsL:List (List UInt8):= [[33,68,79,67,84,89,80,69,32,72,84,77,76],[72,84,77,76],[72,69,65,68],[83,67,82,73,80,84],[73,70,82,65,77,69],[72,49],[68,73,86],[70,79,78,84],[84,65,66,76,69],[65],[83,84,89,76,69],[84,73,84,76,69],[66],[66,79,68,89],[66,82],[80]]
def ends:List UInt8->Bool
 | []=>false
 |c::_=>decide (c.toNat=32)||decide (c.toNat=62)
def tagged (s t:List UInt8):Bool:=hits (tag (60::t) htmlT) s&&ends (s.drop (begins white s+(t.length+1)))
def html (s:List UInt8):Bool:=hits (tag [60,33,45,45] htmlT) s||tagsL.any (tagged s)
def exactP (sign:List UInt8) (more:Nat) (kind:List UInt8):Pat:=⟨sign++List.replicate more 0,List.replicate sign.length 255++List.replicate more 0,[],kind⟩
def QJ:Pat:=⟨[60,63,120,109,108],List.replicate 5 255,white,Ig⟩
def xml (s:List UInt8):Bool:=hits QJ s
def RD (s:List UInt8):Bool:=pre s [37,80,68,70,45]
def Ih:List Pat:= [exactP [37,33,80,83,45,65,100,111,98,101,45] 0 [97,112,112,108,105,99,97,116,105,111,110,47,112,111,115,116,115,99,114,105,112,116],exactP [254,255] 2 plainT,exactP [255,254] 2 plainT,exactP [239,187,191] 1 plainT]
def imageL:List Pat:= [⟨[0,0,1,0],[255,255,255,255],[],[105,109,97,103,101,47,120,45,105,99,111,110]⟩,⟨[0,0,2,0],[255,255,255,255],[],[105,109,97,103,101,47,120,45,105,99,111,110]⟩,⟨[66,77],[255,255],[],[105,109,97,103,101,47,98,109,112]⟩,⟨[71,73,70,56,55,97],[255,255,255,255,255,255],[],[105,109,97,103,101,47,103,105,102]⟩,⟨[71,73,70,56,57,97],[255,255,255,255,255,255],[],[105,109,97,103,101,47,103,105,102]⟩,⟨[82,73,70,70,0,0,0,0,87,69,66,80,86,80],[255,255,255,255,0,0,0,0,255,255,255,255,255,255],[],[105,109,97,103,101,47,119,101,98,112]⟩,⟨[137,80,78,71,13,10,26,10],[255,255,255,255,255,255,255,255],[],[105,109,97,103,101,47,112,110,103]⟩,⟨[255,216,255],[255,255,255],[],[105,109,97,103,101,47,106,112,101,103]⟩]
def mediaL:List Pat:= [⟨[70,79,82,77,0,0,0,0,65,73,70,70],[255,255,255,255,0,0,0,0,255,255,255,255],[],[97,117,100,105,111,47,97,105,102,102]⟩,⟨[73,68,51],[255,255,255],[],[97,117,100,105,111,47,109,112,101,103]⟩,⟨[79,103,103,83,0],[255,255,255,255,255],[],[97,112,112,108,105,99,97,116,105,111,110,47,111,103,103]⟩,⟨[77,84,104,100,0,0,0,6],[255,255,255,255,255,255,255,255],[],[97,117,100,105,111,47,109,105,100,105]⟩,⟨[82,73,70,70,0,0,0,0,65,86,73,32],[255,255,255,255,0,0,0,0,255,255,255,255],[],[118,105,100,101,111,47,97,118,105]⟩,⟨[82,73,70,70,0,0,0,0,87,65,86,69],[255,255,255,255,0,0,0,0,255,255,255,255],[],[97,117,100,105,111,47,119,97,118,101]⟩]
def MT:List Pat:= [⟨[31,139,8],[255,255,255],[],[97,112,112,108,105,99,97,116,105,111,110,47,120,45,103,122,105,112]⟩,⟨[80,75,3,4],[255,255,255,255],[],[97,112,112,108,105,99,97,116,105,111,110,47,122,105,112]⟩,⟨[82,97,114,32,26,7,0],[255,255,255,255,255,255,255],[],[97,112,112,108,105,99,97,116,105,111,110,47,120,45,114,97,114,45,99,111,109,112,114,101,115,115,101,100]⟩]
def orS (l:List (List UInt8)):List UInt8:=
 match l with
 | []=> []
 |s::l=>if s= []then orS l else s
def QK:List UInt8:= [118,105,100,101,111,47,109,112,52]
def MU:List UInt8:= [118,105,100,101,111,47,119,101,98,109]
def MV:List UInt8:= [97,117,100,105,111,47,109,112,101,103]
def film (s:List UInt8):List UInt8:=orS [typeOf s mediaL,if mp4 s=true then QK else [],if webm s=true then MU else [],if mp3 s=true then MV else []]
def binary (s:List UInt8):Bool:=decide (0<=MR s 0)
def MW (s:List UInt8):List UInt8:=orS [typeOf s Ih,typeOf s imageL,film s,typeOf s MT,if binary s=false then plainT else [],Dk]
def kind (s:List UInt8) (scripts:Bool):List UInt8:=
 if scripts=true/\orS [if html s=true then htmlT else [],if xml s=true then Ig else [],if RD s=true then MS else []]≠ []then orS [if html s=true then htmlT else [],if xml s=true then Ig else [],if RD s=true then MS else []]
 else MW s
def type (s:List UInt8) (scripts:Bool):List UInt8:=kind (s.take 1445) scripts
end Tg.Un
set_option maxRecDepth 100000
namespace Tg.Un
def low (c:UInt8):UInt8:=if(65:Int)<=c.toNat/\(c.toNat:Int)<=90 then c+32 else c
def lower (s:List UInt8):List UInt8:=s.map low
end Tg.Un
namespace Tg.Ur
def hx (b:UInt8):Option Nat:=
 if(48:Int)<=b.toNat/\(b.toNat:Int)<=57 then some (b.toNat-48)
 else if(97:Int)<=b.toNat/\(b.toNat:Int)<=102 then some (b.toNat-87)
 else if(65:Int)<=b.toNat/\(b.toNat:Int)<=70 then some (b.toNat-55)else none
def isD (b:UInt8):Bool:=decide ((48:Int)<=b.toNat)&&decide ((b.toNat:Int)<=57)
def QL:List UInt8:= [48,49,50,51,52,53,54,55,56,57,65,66,67,68,69,70]
def Dl (n:Nat):UInt8:=QL.getD n 0
def To (b:UInt8):List UInt8:= [37,Dl (b.toNat/16),Dl (b.toNat%16)]
def okB (b:UInt8):Bool:=decide ((32:Int)<b.toNat)&&decide ((b.toNat:Int)<=126)&&!([34,60,62,96]:List UInt8).contains b
def Gt:List UInt8->Option (List UInt8)
 |37::x::y::_=>match hx x,hx y with
  |some a,some b=>some [37,Dl a,Dl b]
  |_,_=>none
 |_=>none
def qt (s:List UInt8):List UInt8:=
 match s with
 | []=> []
 |b::r=>match Gt (b::r)with
  |some e=>e++qt (r.drop 2)
  |none=>(if okB b then [b]else To b)++qt r
termination_by s.length
decreasing_by
 ·simp;omega
 ·simp
open Tg.Lo
def MY (s:List UInt8):Nat->Nat
 |n=>match s with
  | []=>n
  |46::r=>MY r (n+1)
  |b::r=>if lower ((b::r).take 3)= [37,50,101]then MY (r.drop 2) (n+1)else 0
termination_by s.length
decreasing_by
 ·simp
 ·simp;omega
def pieces:List UInt8->List (List UInt8)
 | []=> [[]]
 |b::r=>if b=47 then []::pieces r else match pieces r with
  | []=> [[b]]
  |p::l=>(b::p)::l
def Gu (last:Bool) (out:List (List UInt8)) (p:List UInt8):List (List UInt8):=
 if MY p 0≠1/\MY p 0≠2 then out++ [p]
 else(if MY p 0=2 then out.dropLast else out)++(if last then [[]]else [])
def yO:List (List UInt8)->List (List UInt8)->List (List UInt8)
 |out,[]=>out
 |out,[p]=>Gu true out p
 |out,p::l=>yO (Gu false out p) l
def joinS:List (List UInt8)->List UInt8
 | []=> []
 |p::l=>47::(p++joinS l)
def MZ (path:List UInt8):List UInt8:=
 match path with
 |47::r=>if joinS (yO [] (pieces r))= []then [47]else joinS (yO [] (pieces r))
 |_=> []
def isName (b:UInt8):Bool:=(decide ((97:Int)<=b.toNat)&&decide ((b.toNat:Int)<=122))||(decide ((48:Int)<=b.toNat)&&decide ((b.toNat:Int)<=57))||b==46||b==45
def ve:List UInt8->Bool
 |46::46::_=>true
 |_::r=>ve r
 | []=>false
def named (s:List UInt8):Bool:=decide (s≠ [])&&decide (s.length<=253)&&s.all isName&&decide (s[0]?≠some 46)&&!ve s
def own (s:List UInt8):Int:=if s= [104,116,116,112]\/s= [119,115]then 80 else if s= [104,116,116,112,115]\/s= [119,115,115]then 443 else 0
structure Url where
 scheme:List UInt8
 host:List UInt8
 port:Int
 path:List UInt8
 query:List UInt8
deriving DecidableEq
def none:Url:=⟨[],[],0,[],[]⟩
def free (of s:List UInt8):Bool:=s.all fun b=>!of.contains b
def good (u:Url):Bool:=
 decide (own u.scheme≠0)&&(decide (u.port=0)||(decide (1<=u.port)&&decide (u.port<=65535)&&decide (u.port≠own u.scheme)))
  &&(decide (u.path[0]?=some 47)&&decide (MZ u.path=u.path)&&decide (qt u.path=u.path)&&free [63,35] u.path)
  &&(decide (u.query= [])||(decide (u.query[0]?=some 63)&&decide (qt u.query=u.query)&&free [35] u.query))&&named u.host
def upto (stops s:List UInt8):Nat:=(s.takeWhile fun b=>!stops.contains b).length
def M0 (s:List UInt8):List UInt8:=s.dropWhile fun b=>decide ((b.toNat:Int)<=32)
def trim (s:List UInt8):List UInt8:=((M0 s).reverse.dropWhile fun b=>decide ((b.toNat:Int)<=32)).reverse
def Dm (r2:List UInt8):List UInt8×List UInt8:=match r2 with
 |58::r3=>(r3.take (upto [47,63] r3),r3.drop (upto [47,63] r3))
 |_=>([],r2)
def parts (s0:List UInt8):Option (Url×List UInt8):=
 let s:=s0.take (upto [35] s0)
 let k:=upto [58] s
 if(s.drop k).take 3= [58,47,47]then
  let r:=s.drop (k+3)
  let h:=upto [58,47,63] r
  let r2:=r.drop h
  let pl:=Dm r2
  let q:=upto [63] pl.2
  let path:=if pl.2.take q= []then [47]else pl.2.take q
  some (⟨lower (s.take k),lower (r.take h),0,MZ (qt path),qt (pl.2.drop q)⟩,pl.1)
 else Option.none
def yP (s:List UInt8):Nat:=s.foldl (fun n b=>10*n+(b.toNat-48)) 0
def number (s scheme:List UInt8):Int×Int:=
 if s= []then(0,0)
 else if s.all isD=false then(0,2)
 else if 9007199254740991<yP s then(0,9)
 else if yP s=0\/65535<yP s then(0,9)
 else if(yP s:Int)=own scheme then(0,0)
 else(yP s,0)
end Tg.Ur
namespace Tg.Js
abbrev w64 (n:Int):Int:=Go.IntKind.i64.wrap n
theorem w64_in {n:Int} (h1: -9223372036854775808<=n) (h2:n<=9223372036854775807):w64 n=n:=Go.IntWalk.i64_in _ ⟨h1,h2⟩
structure M where
 depth:Int
 stack:List UInt8
 at_:Int
 by_:UInt8
 taken:Bool
 said:List UInt8
 last:Int
 broken:Bool
 bad:Bool
 place:Int
 pieces:Int
 ends:Int
 seen:Int
deriving DecidableEq
def letter (b:UInt8):Bool:=decide (97<=(b.toNat:Int))&&decide ((b.toNat:Int)<=122)||decide (65<=(b.toNat:Int))&&decide ((b.toNat:Int)<=90)
def digit (b:UInt8):Bool:=decide (48<=(b.toNat:Int))&&decide ((b.toNat:Int)<=57)
def lZ (b:UInt8):Bool:=decide (b=10)||decide (b=13)
def white (b:UInt8):Bool:=decide (b=32)||decide (9<=(b.toNat:Int))&&decide ((b.toNat:Int)<=13)
def inner (b:UInt8):Bool:=letter b||digit b||decide (b=95)||decide (b=36)||decide (128<=(b.toNat:Int))
def w (s:String):List UInt8:=s.toUTF8.data.toList
def dm:List (List UInt8):= ["await","break","case","catch","class","const","continue","default","delete","do","else","export","extends","finally","for","from","function","get","if","import","in","instanceof","let","new","of","return","set","static","switch","throw","try","typeof","var","void","while","with","yield","async","as"].map w
def dP (s:List UInt8):Bool:=dm.contains s
def signs:List UInt8:=w "{}()[];,<>=!+-*/%&|^~?:."
namespace M
variable (m:M) (b:UInt8)
def fail:M:= { m with bad:=true,place:=m.seen }
def piece:M:= { m with pieces:=w64 (m.pieces+1) }
def joined:Bool:=m.last==1&&!m.broken
def ended (last:Int):M:= { m with at_:=0,last:=last,broken:=false }
def push:M:=if(m.stack.length:Int)=m.depth then m.fail else { m with stack:=m.stack++ [b] }.ended 0
def pair:UInt8:=if b=41 then 40 else if b=93 then 91 else 123
def top:Option UInt8:=m.stack.getLast?
def pop:M:=
 match m.stack.getLast? with
 |none=>m.fail
 |some t=>
  if b=125/\t=96 then { m with stack:=m.stack.dropLast,at_:=4,by_:=96 }
  else if t=pair b then
   let m':M:= { m with stack:=m.stack.dropLast }
   if b≠125 then m'.ended 1
   else
    let m2:=m'.ended 2
    if m.stack.length=1 then { m2 with ends:=w64 (m2.ends+1) } else m2
  else m.fail
def sign:M:=
 let p:=m.piece
 if b=40\/b=91\/b=123 then p.push b
 else if b=41\/b=93\/b=125 then p.pop b
 else if b=59 then
  let q:=p.ended 0
  if q.stack= []then { q with ends:=w64 (q.ends+1) } else q
 else p.ended 0
def begin:M:=
 if lZ b then { m with broken:=true }
 else if white b then m
 else if inner b then
  if m.joined then m.fail
  else { m.piece with at_:=if digit b then 2 else 1,said:= [b] }
 else if b=34\/b=39 then
  if m.joined then m.fail else { m.piece with at_:=3,by_:=b }
 else if b=96 then { m.piece with at_:=4,by_:=b }
 else if b=47 then { m with at_:=9 }
 else if b=60/\m.pieces=0 then { m with at_:=13 }
 else if signs.contains b then m.sign b
 else m.fail
def inWord:M:=
 if inner b\/m.at_=2/\b=46 then(if(m.said.length:Int)<=10 then { m with said:=m.said++ [b] } else m)
 else if m.at_=1/\dP m.said then(m.ended 3).begin b
 else(m.ended 1).begin b
def inText:M:=
 if m.taken then { m with taken:=false }
 else if m.at_≠4/\lZ b then m.fail
 else if b=92 then { m with taken:=true }
 else if m.at_=7 then(if b=93 then { m with at_:=6 } else m)
 else if m.at_=6/\b=91 then { m with at_:=7 }
 else if m.at_=4/\b=36 then { m with at_:=5 }
 else if b=m.by_/\m.at_=6 then { m with at_:=8 }
 else if b=m.by_ then m.ended 1
 else m
def inDollar:M:=
 let p:M:= { m with at_:=4 }
 if b=123 then p.push 96 else p.inText b
def inSlash:M:=
 if b=47 then { m with at_:=10 }
 else if b=42 then { m with at_:=11 }
 else if m.last=1\/m.last=2 then(m.sign 47).begin b
 else { m.piece with at_:=6,by_:=47 }.inText b
def inRemark:M:=
 let p:M:= { m with broken:=m.broken||lZ b }
 if m.at_=10/\lZ b then { p with at_:=0 }
 else if m.at_=12/\b=47 then { p with at_:=0 }
 else if m.at_≠10/\b=42 then { p with at_:=12 }
 else if m.at_=12 then { p with at_:=11 }
 else p
def inLess:M:=
 if m.at_=13/\b=33 then { m with at_:=14 }
 else if m.at_=14/\b=45 then { m with at_:=15 }
 else if m.at_=15/\b=45 then { m with at_:=10 }
 else m.fail
def byte:M:=
 if m.at_=0 then m.begin b
 else if m.at_=1\/m.at_=2\/m.at_=8 then m.inWord b
 else if m.at_=5 then m.inDollar b
 else if m.at_=9 then m.inSlash b
 else if m.at_=10\/m.at_=11\/m.at_=12 then m.inRemark b
 else if m.at_=13\/m.at_=14\/m.at_=15 then m.inLess b
 else m.inText b
def tell:Int:=
 if m.bad then 0
 else if m.stack= []/\(m.at_=0\/m.at_=1\/m.at_=2\/m.at_=8\/m.at_=10)then 2
 else 1
def step:M:=let p:=if m.bad then m else m.byte b
 { p with seen:=w64 (p.seen+1) }
def feed (m:M) (s:List UInt8):M:=s.foldl step m
end M
def new (depth:Int):M:= { depth:=depth,stack:= [],at_:=0,by_:=0,taken:=false,said:= [],last:=0,broken:=false,bad:=false,place:= -1,pieces:=0,ends:=0,seen:=0 }
namespace M
theorem feed_append (m:M) (s t:List UInt8):m.feed (s++t)=(m.feed s).feed t:=by simp [feed]
structure Nx (c:Nat) (m m':M):Prop where
 seen:m'.seen=m.seen
 isBad:m'.bad=true->m'.place=m.seen\/m.bad=true/\m'.place=m.place
 good:m'.bad=false->m'.place=m.place/\m.bad=false
 ends:0<=m.ends->m.ends<=4611686018427387904->m.ends<=m'.ends/\m'.ends<=m.ends+c
theorem Nx.trans {c d e:Nat} {m m1 m2:M} (h:Nx c m m1) (k:Nx d m1 m2) (hc:c<=1) (he:c+d<=e) (hm:m1.ends<=4611686018427387904\/c=0):Nx e m m2:=by
 refine⟨k.seen.trans h.seen,fun hb=>?_,fun hb=>?_,fun h0 h1=>?_⟩
 ·rcases k.isBad hb with k1|⟨k1,k2⟩
  ·exact .inl (k1.trans h.seen)
  ·rcases h.isBad k1 with h1|⟨h1,h2⟩
   ·exact .inl (k2.trans h1)
   ·exact .inr ⟨h1,k2.trans h2⟩
 ·obtain⟨k1,k2⟩:=k.good hb;obtain⟨h1,h2⟩:=h.good k2;exact⟨k1.trans h1,h2⟩
 ·obtain⟨a1,a2⟩:=h.ends h0 h1;obtain⟨b1,b2⟩:=k.ends (by omega) (by omega);omega
theorem Nx.same {c:Nat} {m m':M} (h1:m'.seen=m.seen) (h2:m'.bad=m.bad) (h3:m'.place=m.place) (h4:m'.ends=m.ends):Nx c m m':=
 ⟨h1,fun h=>.inr ⟨h2▸h,h3⟩,fun h=>⟨h3,h2▸h⟩,fun _ _=>by omega⟩
theorem Nx.fail {c:Nat} (m:M):Nx c m m.fail:=⟨rfl,fun _=>.inl rfl,(fun h=>by simp [M.fail]at h),fun _ _=>by simp only [M.fail];omega⟩
theorem Nx.inc {m m':M} (h1:m'.seen=m.seen) (h2:m'.bad=m.bad) (h3:m'.place=m.place) (h4:m'.ends=w64 (m.ends+1)):Nx 1 m m':=
 ⟨h1,fun h=>.inr ⟨h2▸h,h3⟩,fun h=>⟨h3,h2▸h⟩,fun h0 h5=>by rw [h4,w64_in (by omega) (by omega)];omega⟩
theorem vf (m:M) (b:UInt8):Nx 0 m (m.push b):=by
 unfold push;split
 ·exact Nx.fail m
 ·exact Nx.same rfl rfl rfl rfl
theorem Ii (m:M) (b:UInt8):Nx 1 m (m.pop b):=by
 unfold pop;split
 ·exact Nx.fail m
 ·split
  ·exact Nx.same rfl rfl rfl rfl
  ·split
   ·dsimp only;split
    ·exact Nx.same rfl rfl rfl rfl
    ·split
     ·exact Nx.inc rfl rfl rfl rfl
     ·exact Nx.same rfl rfl rfl rfl
   ·exact Nx.fail m
theorem Dn (m:M) (b:UInt8):Nx 1 m (m.sign b):=by
 have hp:Nx 0 m m.piece:=Nx.same rfl rfl rfl rfl;unfold sign;dsimp only;split
 ·exact hp.trans (vf _ b) (by omega) (by omega) (.inr rfl)
 ·split
  ·exact hp.trans (Ii _ b) (by omega) (by omega) (.inr rfl)
  ·split
   ·split
    ·exact Nx.inc rfl rfl rfl rfl
    ·exact Nx.same rfl rfl rfl rfl
   ·exact Nx.same rfl rfl rfl rfl
theorem Ij (m:M):Nx 0 m (m.sign 47):=by
 unfold sign;simp only [show¬((47:UInt8)=40\/(47:UInt8)=91\/(47:UInt8)=123) by decide,show¬((47:UInt8)=41\/(47:UInt8)=93\/(47:UInt8)=125) by decide,show¬((47:UInt8)=59) by decide,if_false];exact Nx.same rfl rfl rfl rfl
theorem i_ (m:M) (b:UInt8):Nx 1 m (m.begin b):=by
 unfold begin
 repeat' split
 all_goals first|exact Nx.fail m|exact Dn m b|exact Nx.same rfl rfl rfl rfl
theorem j9 (m:M) (b:UInt8):Nx 1 m (m.inText b):=by
 unfold inText
 repeat' split
 all_goals first|exact Nx.fail m|exact Nx.same rfl rfl rfl rfl
theorem Dp (m:M) (b:UInt8):Nx 1 m (m.byte b):=by
 unfold byte;split
 ·exact i_ m b
 split
 ·unfold inWord;split
  ·split<;>exact Nx.same rfl rfl rfl rfl
  ·split
   ·exact(Nx.same (c:=0) (m:=m) (m':=m.ended 3) rfl rfl rfl rfl).trans (i_ _ b) (by omega) (by omega) (.inr rfl)
   ·exact(Nx.same (c:=0) (m:=m) (m':=m.ended 1) rfl rfl rfl rfl).trans (i_ _ b) (by omega) (by omega) (.inr rfl)
 split
 ·unfold inDollar;dsimp only;split
  ·exact(Nx.same (c:=0) (m:=m) (m':= { m with at_:=4 }) rfl rfl rfl rfl).trans (vf _ 96) (by omega) (by omega) (.inr rfl)
  ·exact(Nx.same (c:=0) (m:=m) (m':= { m with at_:=4 }) rfl rfl rfl rfl).trans (j9 _ b) (by omega) (by omega) (.inr rfl)
 split
 ·unfold inSlash;split
  ·exact Nx.same rfl rfl rfl rfl
  split
  ·exact Nx.same rfl rfl rfl rfl
  split
  ·exact(Ij m).trans (i_ _ b) (by omega) (by omega) (.inr rfl)
  ·exact(Nx.same (c:=0) (m:=m) (m':= { m.piece with at_:=6,by_:=47 }) rfl rfl rfl rfl).trans (j9 _ b) (by omega) (by omega) (.inr rfl)
 split
 ·unfold inRemark;dsimp only
  repeat' split
  all_goals exact Nx.same rfl rfl rfl rfl
 split
 ·unfold inLess
  repeat' split
  all_goals first|exact Nx.fail m|exact Nx.same rfl rfl rfl rfl
 ·exact j9 m b
structure Inv (n:Nat) (m:M):Prop where
 seen:m.seen=n
 isBad:m.bad=true->0<=m.place/\m.place<n
 good:m.bad=false->m.place= -1
 e0:0<=m.ends
 e1:m.ends<=n
theorem step_bad (m:M) (b:UInt8) (h:m.bad=true):m.step b= { m with seen:=w64 (m.seen+1) } :=by
 unfold step;simp [h]
theorem step_good (m:M) (b:UInt8) (h:m.bad=false):m.step b= { m.byte b with seen:=w64 ((m.byte b).seen+1) } :=by
 unfold step;simp [h]
theorem yQ {n:Nat} {m:M} (h:Inv n m) (hn:n<1152921504606846976) (b:UInt8):Inv (n+1) (m.step b)/\m.ends<=(m.step b).ends/\(m.bad=true->(m.step b).bad=true/\(m.step b).place=m.place/\(m.step b).ends=m.ends)/\(m.bad=false->(m.step b).bad=true->(n:Int)<=(m.step b).place):=by
 have hs:=h.seen;have e0:=h.e0;have e1:=h.e1;cases hb:m.bad with
 |true=>
  rw [step_bad m b hb];obtain⟨p1,p2⟩:=h.isBad hb;refine⟨⟨?_,fun _=>⟨p1,?_⟩,fun h2=>?_,e0,?_⟩,Int.le_refl _,fun _=>⟨hb,rfl,rfl⟩,fun h2=>by cases h2⟩
  ·show w64 (m.seen+1)=_;rw [hs,w64_in (by omega) (by omega)];omega
  ·show m.place<_;omega
  ·have:m.bad=false:=h2;rw [hb]at this;cases this
  ·show m.ends<=_;omega
 |false=>
  rw [step_good m b hb];have hx:=Dp m b;obtain⟨g1,g2⟩:=hx.ends e0 (by omega);refine⟨⟨?_,fun h2=>?_,fun h2=>?_,?_,?_⟩,g1,(fun h2=>by cases h2),fun _ h2=>?_⟩
  ·show w64 ((m.byte b).seen+1)=_;rw [hx.seen,hs,w64_in (by omega) (by omega)];omega
  ·show 0<=(m.byte b).place/\(m.byte b).place<_;rcases hx.isBad h2 with h3|⟨h3,_⟩
   ·rw [h3,hs];omega
   ·rw [hb]at h3;cases h3
  ·show(m.byte b).place= -1;rw [(hx.good h2).1];exact h.good hb
  ·show 0<=(m.byte b).ends;omega
  ·show(m.byte b).ends<=_;omega
  ·show _<=(m.byte b).place;rcases hx.isBad h2 with h3|⟨h3,_⟩
   ·rw [h3,hs];omega
   ·rw [hb]at h3;cases h3
theorem l4: ∀(t:List UInt8) (n:Nat) (m:M),Inv n m->n+t.length<=1152921504606846976->Inv (n+t.length) (m.feed t)/\m.ends<=(m.feed t).ends/\(m.bad=true->(m.feed t).bad=true/\(m.feed t).place=m.place/\(m.feed t).ends=m.ends)/\(m.bad=false->(m.feed t).bad=true->(n:Int)<=(m.feed t).place)
 | [],n,m,h,_=>⟨h,Int.le_refl _,fun h=>⟨h,rfl,rfl⟩,fun h1 h2=>by
   have:m.bad=true:=h2;rw [h1]at this;cases this⟩
 |b::t,n,m,h,hn=>by
  have hl:(b::t).length=t.length+1:=rfl;obtain⟨h1,h2,h3,h4⟩:=yQ h (by omega) b;obtain⟨g1,g2,g3,g4⟩:=l4 t (n+1) (m.step b) h1 (by omega);have e:m.feed (b::t)=(m.step b).feed t:=rfl;rw [e];refine⟨by rw [hl,show n+(t.length+1)=n+1+t.length by omega];exact g1,Int.le_trans h2 g2,fun hb=>?_,fun hb hb2=>?_⟩
  ·obtain⟨a1,a2,a3⟩:=h3 hb;obtain⟨b1,b2,b3⟩:=g3 a1;exact⟨b1,b2.trans a2,b3.trans a3⟩
  ·cases hs:(m.step b).bad with
   |true=>
    have:=h4 hb hs;rw [(g3 hs).2.1];exact this
   |false=>
    have:=g4 hs hb2;omega
theorem Dq (d:Int):Inv 0 (new d):=⟨rfl,(fun h=>by cases h),fun _=>rfl,Int.le_refl 0,Int.le_refl 0⟩
theorem l5 {m:M} :m.tell=0↔m.bad=true:=by
 unfold tell;cases m.bad<;>simp;split<;>decide
theorem stays (d:Int) (s t:List UInt8) (hs:s.length<=1000) (ht:t.length<=1000):
  let m:=(new d).feed s
  let m':=(new d).feed (s++t)
  (m.tell=0->m'.tell=0/\m'.place=m.place/\m'.ends=m.ends/\0<=m.place/\m.place<s.length)/\
  (m.tell≠0->m.place= -1/\(m'.place= -1\/(s.length:Int)<=m'.place)/\m.ends<=m'.ends):=by
 dsimp only;obtain⟨i1,_,_,_⟩:=l4 s 0 (new d) (Dq d) (by omega);rw [Nat.zero_add]at i1;obtain⟨j1,j2,j3,j4⟩:=l4 t s.length ((new d).feed s) i1 (by omega);rw [feed_append];constructor
 ·intro h;have hb:=l5.1 h;obtain⟨a1,a2,a3⟩:=j3 hb;exact⟨l5.2 a1,a2,a3,i1.isBad hb⟩
 ·intro h
  have hb:((new d).feed s).bad=false:=by
   cases hq:((new d).feed s).bad with
   |true=>exact absurd (l5.2 hq) h
   |false=>rfl
  refine⟨i1.good hb,?_,j2⟩;cases hq:(((new d).feed s).feed t).bad with
  |true=>exact .inr (j4 hb hq)
  |false=>exact .inl (j1.good hq)
end M
end Tg.Js
namespace Tg.Json
def white (b:UInt8):Bool:=b==32||b==9||b==10||b==13
def digit (b:UInt8):Bool:=48<=b&&b<=57
def hex (b:UInt8):Bool:=digit b||(97<=b&&b<=102)||(65<=b&&b<=70)
def Gt (b:UInt8):Bool:=b==34||b==92||b==47||b==98||b==102||b==110||b==114||b==116
structure M where
 depth:Nat
 stack:List UInt8
 pos:Nat
 key:Bool
 rest:List UInt8
 hex:Nat
 begun:Bool
 state:Nat
 place:Int
 seen:Nat
def M.start (d:Nat):M:=⟨d,[],0,false,[],0,false,1,-1,0⟩
def M.top (m:M):UInt8:=m.stack.getLast?.getD 0
def M.fail (m:M) (s:Nat):M:= { m with state:=s,place:=m.seen }
def M.push (m:M) (b:UInt8) (p:Nat):M:=if m.stack.length=m.depth then m.fail 3 else { m with stack:=m.stack++ [b],pos:=p }
def M.pop (m:M):M:= { m with stack:=m.stack.dropLast,pos:=5 }
def M.first (m:M) (b:UInt8):M:=
 if b=91 then m.push b 1
 else if b=123 then m.push b 3
 else if b=34 then { m with pos:=6,key:=false }
 else if b=45 then { m with pos:=10 }
 else if b=48 then { m with pos:=11 }
 else if digit b then { m with pos:=12 }
 else if b=116 then { m with pos:=9,rest:= [114,117,101] }
 else if b=102 then { m with pos:=9,rest:= [97,108,115,101] }
 else if b=110 then { m with pos:=9,rest:= [117,108,108] }
 else m.fail 0
def M.after (m:M) (b:UInt8):M:=
 let m:= { m with pos:=5 }
 if white b then m
 else if b=44/\m.top=91 then { m with pos:=0 }
 else if b=44/\m.top=123 then { m with pos:=2 }
 else if(b=93/\m.top=91)\/(b=125/\m.top=123)then m.pop
 else m.fail 0
def M.inText (m:M) (b:UInt8):M:=
 if b=34 then(if m.key then { m with pos:=4 } else { m with pos:=5 })
 else if b=92 then { m with pos:=7 }
 else if b<32 then m.fail 0
 else m
def M.inSlash (m:M) (b:UInt8):M:=
 if b=117 then { m with pos:=8,hex:=4 }
 else if Gt b then { m with pos:=6 }
 else m.fail 0
def M.inUnicode (m:M) (b:UInt8):M:=
 if Json.hex b then(if m.hex-1=0 then { m with pos:=6,hex:=m.hex-1 } else { m with hex:=m.hex-1 })
 else m.fail 0
def M.inWord (m:M) (b:UInt8):M:=
 if m.rest.head?=some b then(if m.rest.tail= []then { m with rest:=m.rest.tail,pos:=5 } else { m with rest:=m.rest.tail })
 else m.fail 0
def ended (p:Nat):Bool:=p==11||p==12||p==14||p==17
def fx (b:UInt8):Bool:=b==101||b==69
def M.inNumber (m:M) (b:UInt8):M:=
 if m.pos=10/\b=48 then { m with pos:=11 }
 else if(m.pos=10\/m.pos=12)/\digit b then { m with pos:=12 }
 else if(m.pos=13\/m.pos=14)/\digit b then { m with pos:=14 }
 else if(m.pos=15\/m.pos=16\/m.pos=17)/\digit b then { m with pos:=17 }
 else if m.pos=15/\(b=43\/b=45)then { m with pos:=16 }
 else if(m.pos=11\/m.pos=12)/\b=46 then { m with pos:=13 }
 else if(m.pos=11\/m.pos=12\/m.pos=14)/\fx b then { m with pos:=15 }
 else if ended m.pos then m.after b
 else m.fail 0
def M.names (m:M) (b:UInt8):M:=
 if white b then m
 else if b=34 then { m with pos:=6,key:=true }
 else if b=125/\m.pos=3 then m.pop
 else m.fail 0
def M.byte (m:M) (b:UInt8):M:=
 if m.pos=0\/m.pos=1 then
  (if white b then m else if b=93/\m.pos=1 then m.pop else m.first b)
 else if m.pos=2\/m.pos=3 then m.names b
 else if m.pos=4 then(if white b then m else if b=58 then { m with pos:=0 } else m.fail 0)
 else if m.pos=5 then m.after b
 else if m.pos=6 then m.inText b
 else if m.pos=7 then m.inSlash b
 else if m.pos=8 then m.inUnicode b
 else if m.pos=9 then m.inWord b
 else m.inNumber b
def M.tell (m:M):Nat:=if m.state=1/\m.stack= []/\(m.pos=5\/ended m.pos)then 2 else m.state
def M.feed1 (m:M) (b:UInt8):M:=
 let m:= { m with begun:=m.begun||!white b }
 let m:=if m.state=1 then m.byte b else m
 { m with seen:=m.seen+1 }
def M.feed (m:M) (l:List UInt8):M:=l.foldl M.feed1 m
def skip:List UInt8->Nat
 | []=>0
 |b::r=>if white b then skip r+1 else 0
def word:List UInt8->List UInt8->Nat×Nat
 |_,[]=>(0,4)
 | [],_::_=>(0,1)
 |b::r,c::w=>if b=c then((word r w).1+1,(word r w).2)else(0,0)
def add (n:Nat) (x:Nat×Nat):Nat×Nat:=(x.1+n,x.2)
def quote:Nat->List UInt8->Nat×Nat
 |_,[]=>(0,1)
 |k,b::r=>
  if k=0 then
   (if b<32 then(0,0)else if b=34 then(1,4)else if b=92 then add 1 (quote 1 r)else add 1 (quote 0 r))
  else if k=1 then
   (if b=117 then add 1 (quote 5 r)else if Gt b then add 1 (quote 0 r)else(0,0))
  else(if hex b then add 1 (quote (if k=2 then 0 else k-1) r)else(0,0))
def number:Nat->List UInt8->Nat×Nat
 |p,[]=>if ended p then(0,4)else(0,1)
 |p,b::r=>
  if p=10/\b=48 then add 1 (number 11 r)
  else if(p=10\/p=12)/\digit b then add 1 (number 12 r)
  else if(p=13\/p=14)/\digit b then add 1 (number 14 r)
  else if(p=15\/p=16\/p=17)/\digit b then add 1 (number 17 r)
  else if p=15/\(b=43\/b=45)then add 1 (number 16 r)
  else if(p=11\/p=12)/\b=46 then add 1 (number 13 r)
  else if(p=11\/p=12\/p=14)/\fx b then add 1 (number 15 r)
  else if ended p then(0,4)
  else(0,0)
def named:Bool->List UInt8->Nat×Nat
 |false,_=>(0,4)
 |true,[]=>(0,1)
 |true,b::r=>
  if b≠34 then(0,0)
  else if(quote 0 r).2≠4 then add 1 (quote 0 r)
  else
   let n:=(quote 0 r).1
   let k:=skip (r.drop n)
   match (r.drop n).drop k with
   | []=>(1+n+k,1)
   |c::_=>if c≠58 then(1+n+k,0)else(1+n+k+1,4)
def close (o:Bool):UInt8:=if o then 125 else 93
def tj (o:Bool) (next:List UInt8->Nat×Nat) (l:List UInt8):Nat×Nat:=
 match l.drop (skip l)with
 | []=>(skip l,1)
 |c::q=>if c=close o then(skip l+1,4)else if c≠44 then(skip l,0)else add (skip l+1) (next q)
def list (val:List UInt8->Nat×Nat) (o:Bool):Nat->Bool->List UInt8->Nat×Nat
 |0,_,_=>(0,1)
 |f+1,one,l=>
  match l.drop (skip l)with
  | []=>(skip l,1)
  |b::r=>
   if one/\b=close o then(skip l+1,4)
   else add (skip l)
    (if(named o (b::r)).2≠4 then named o (b::r)
     else add (named o (b::r)).1
     (let l1:=(b::r).drop (named o (b::r)).1
      if(val l1).2≠4 then val l1
      else add (val l1).1 (tj o (list val o f false) (l1.drop (val l1).1))))
def value:Nat->List UInt8->Nat×Nat
 |0,l=>
  match l.drop (skip l)with
  | []=>(skip l,1)
  |b::r=>
   if b=91\/b=123 then(skip l,3)
   else add (skip l) (flat b r)
 |d+1,l=>
  match l.drop (skip l)with
  | []=>(skip l,1)
  |b::r=>
   if b=91\/b=123 then add (skip l+1) (list (value d) (b==123) (r.length+1) true r)
   else add (skip l) (flat b r)
where flat (b:UInt8) (r:List UInt8):Nat×Nat:=
 if b=34 then add 1 (quote 0 r)
 else if b=45 then add 1 (number 10 r)
 else if digit b then number 10 (b::r)
 else if b=116 then word (b::r) [116,114,117,101]
 else if b=102 then word (b::r) [102,97,108,115,101]
 else if b=110 then word (b::r) [110,117,108,108]
 else(0,0)
def whole (l:List UInt8) (d:Nat):Nat×Int:=
 let x:=value d l
 if x.2=1 then(1,-1)
 else if x.2≠4 then(x.2,x.1)
 else
  let k:=skip (l.drop x.1)
  if x.1+k<l.length then(0,(x.1+k:Nat))else(2,-1)
theorem gU (m:M) (b:UInt8) (r:List UInt8):m.feed (b::r)=(m.feed1 b).feed r:=rfl
theorem feed_append (m:M) (l k:List UInt8):m.feed (l++k)=(m.feed l).feed k:=by simp [M.feed,List.foldl_append]
theorem l6 (l:List UInt8): ∀m:M,m.state≠1->(m.feed l).state=m.state/\(m.feed l).place=m.place:=by
 induction l with
 |nil=>intro m _;exact⟨rfl,rfl⟩
 |cons b r ih=>
  intro m h;have:=ih (m.feed1 b) (by simp [M.feed1,h]);rw [gU];simp only [M.feed1,h]at this⊢;exact this
theorem tk (m:M) (b:UInt8):(m.first b).seen=m.seen:=by
 unfold M.first M.push M.fail;simp only [apply_ite M.seen,ite_self]
theorem l7 (m:M) (b:UInt8):(m.after b).seen=m.seen:=by
 unfold M.after M.pop M.fail;simp only [apply_ite M.seen,ite_self]
theorem nL (m:M) (b:UInt8):(m.inNumber b).seen=m.seen:=by
 unfold M.inNumber M.fail;simp only [apply_ite M.seen,ite_self,l7]
theorem j_ (m:M) (b:UInt8):(m.byte b).seen=m.seen:=by
 unfold M.byte M.names M.inText M.inSlash M.inUnicode M.inWord M.pop M.fail;simp only [apply_ite M.seen,ite_self,l7,tk,nL]
theorem l8 (m:M) (b:UInt8):(m.feed1 b).seen=m.seen+1:=by
 unfold M.feed1;simp only;split
 ·rw [j_]
 ·rfl
def M.beg (m:M) (b:UInt8):M:= { m with begun:=m.begun||!white b }
theorem tl {m:M} {b:UInt8} (h:m.state=1):m.feed1 b= { (m.beg b).byte b with seen:=m.seen+1 } :=by
 unfold M.feed1;simp only;rw [if_pos h];show _=({ (m.beg b).byte b with seen:=(m.beg b).seen+1 } :M);rw [<-j_ (m.beg b) b];rfl
def fQ (m:M) (l:List UInt8) (x:Nat×Nat) (ok:M->List UInt8->Prop):Prop:=
 (x.2=4/\x.1<=l.length/\ ∃m':M,m.feed l=m'.feed (l.drop x.1)/\m'.depth=m.depth/\m'.state=1/\m'.place=m.place/\m'.seen=m.seen+x.1/\ok m' (l.drop x.1))\/
 (x.2=1/\(m.feed l).tell=1/\(m.feed l).place=m.place)\/
 ((x.2=0\/x.2=3)/\(m.feed l).state=x.2/\(m.feed l).place=((m.seen+x.1:Nat):Int)/\x.1<l.length)
theorem fQ.seq {m:M} {l:List UInt8} {n:Nat} {y:Nat×Nat} {ok ok':M->List UInt8->Prop} (h:fQ m l (n,4) ok)
  (k: ∀m':M,m'.depth=m.depth->m'.state=1->m'.place=m.place->ok m' (l.drop n)->fQ m' (l.drop n) y ok'):fQ m l (add n y) ok':=by
 rcases h with⟨_,hn,m',hf,hd,hs,hp,he,ho⟩|⟨h,_⟩|⟨h,_⟩
 ·simp only at hn hf he ho;rcases k m' hd hs hp ho with⟨h4,hn',m'',hf',hd',hs',hp',he',ho'⟩|⟨h1,ht,hp'⟩|⟨h0,hs',hp',hl⟩
  ·refine .inl ⟨h4,?_,m'',?_,hd'.trans hd,hs',hp'.trans hp,?_,?_⟩
   ·simp only [add];simp at hn';omega
   ·simp only [add];rw [hf,hf',List.drop_drop,Nat.add_comm]
   ·simp only [add];omega
   ·simp only [add];rw [List.drop_drop,Nat.add_comm]at ho';exact ho'
  ·exact .inr (.inl ⟨h1,by rw [hf];exact ht,by rw [hf,hp',hp]⟩)
  ·refine .inr (.inr ⟨h0,by rw [hf];exact hs',?_,?_⟩)
   ·rw [hf,hp',he];simp only [add];congr 1;omega
   ·simp only [add];simp at hl;omega
 ·simp at h
 ·simp at h
theorem fQ.one {m:M} {b:UInt8} {r:List UInt8} {y:Nat×Nat} {ok:M->List UInt8->Prop}
  (hd:(m.feed1 b).depth=m.depth) (hp:(m.feed1 b).place=m.place) (hs:(m.feed1 b).state=1)
  (k:fQ (m.feed1 b) r y ok):fQ m (b::r) (add 1 y) ok:=by
 have:fQ m (b::r) (1,4) (fun m' _=>m'=m.feed1 b):=
  .inl ⟨rfl,by simp,m.feed1 b,by simp [gU],hd,hs,hp,l8 m b,rfl⟩
 refine this.seq (fun m' _ _ _ h=>?_);subst h;exact k
theorem fQ.bad {m:M} {b:UInt8} {r:List UInt8} {s:Nat} {ok:M->List UInt8->Prop} (hs:s=0\/s=3)
  (h:(m.feed1 b).state=s) (hp:(m.feed1 b).place=m.seen):fQ m (b::r) (0,s) ok:=by
 refine .inr (.inr ⟨hs,?_,?_,by simp⟩)<;>rw [gU]
 ·rw [(l6 r _ (by rw [h];omega)).1,h]
 ·rw [(l6 r _ (by rw [h];omega)).2,hp];simp
theorem fQ.mono {m:M} {l:List UInt8} {x:Nat×Nat} {ok ok':M->List UInt8->Prop} (h:fQ m l x ok) (k: ∀m' l',ok m' l'->ok' m' l'):fQ m l x ok':=by
 rcases h with⟨h4,hn,m',hf,hd,hs,hp,he,ho⟩|h|h
 ·exact .inl ⟨h4,hn,m',hf,hd,hs,hp,he,k _ _ ho⟩
 ·exact .inr (.inl h)
 ·exact .inr (.inr h)
def okB (st:List UInt8) (m:M) (l:List UInt8):Prop:=
 m.stack=st/\(m.pos=5\/ended m.pos=true)/\ ∀b r,l=b::r->(m.beg b).byte b=(m.beg b).after b
theorem fQ.open {m:M} {l:List UInt8} {n:Nat} {ok:M->List UInt8->Prop} (h:m.tell=1) (e:l= []):fQ m l (n,1) ok:=by
 subst e;exact .inr (.inl ⟨rfl,h,rfl⟩)
theorem fQ.then {m:M} {l:List UInt8} {n:Nat} {ok:M->List UInt8->Prop} {x:Nat×Nat} {ok':M->List UInt8->Prop} (h:fQ m l (n,4) ok) (hx:x.1=n+(x.1-n))
  (k: ∀m':M,m'.depth=m.depth->m'.state=1->m'.place=m.place->ok m' (l.drop n)->fQ m' (l.drop n) (x.1-n,x.2) ok'):fQ m l x ok':=by
 have:=h.seq k;have e:add n (x.1-n,x.2)=x:=by unfold add;ext<;>simp;omega
 rwa [e]at this
structure JWF (m:M):Prop where
 hex:m.hex<=4
 hex1:m.pos=8->1<=m.hex
 rest:m.pos=9->m.rest≠ []
 rlen:m.rest.length<=5
 first:m.pos=1\/m.pos=3->m.stack≠ []
 len:m.stack.length<=m.depth
 depth:m.depth<=200
 pos:m.pos<=17
 state:m.state<=3
theorem JWF.at {m:M} (h:JWF m) (p:Nat) (hp:p<=17) (h1:p≠1) (h3:p≠3) (h8:p≠8) (h9:p≠9):JWF { m with pos:=p } :=
 ⟨h.hex,fun e=>absurd e h8,fun e=>absurd e h9,h.rlen,fun e=>by rcases e with e|e;exact absurd e h1;exact absurd e h3,h.len,h.depth,hp,h.state⟩
theorem JWF.fail {m:M} (h:JWF m) (s:Nat) (hs:s<=3):JWF (m.fail s):=⟨h.hex,h.hex1,h.rest,h.rlen,h.first,h.len,h.depth,h.pos,hs⟩
theorem JWF.pop {m:M} (h:JWF m):JWF m.pop:=
 ⟨h.hex,fun e=>by simp [M.pop]at e,fun e=>by simp [M.pop]at e,h.rlen,fun e=>by simp [M.pop]at e,by have:=h.len;simp [M.pop];omega,h.depth,by simp [M.pop],h.state⟩
theorem JWF.push {m:M} (h:JWF m) (b:UInt8) (p:Nat) (hp:p<=17) (h8:p≠8) (h9:p≠9):JWF (m.push b p):=by
 unfold M.push;split
 ·exact h.fail 3 (by omega)
 ·exact⟨h.hex,fun e=>absurd e h8,fun e=>absurd e h9,h.rlen,fun _=>by simp,by have:=h.len;simp;omega,h.depth,hp,h.state⟩
theorem JWF.key {m:M} (h:JWF m) (k:Bool):JWF { m with key:=k } :=⟨h.hex,h.hex1,h.rest,h.rlen,h.first,h.len,h.depth,h.pos,h.state⟩
theorem JWF.beg {m:M} (h:JWF m) (b:UInt8):JWF (m.beg b):=⟨h.hex,h.hex1,h.rest,h.rlen,h.first,h.len,h.depth,h.pos,h.state⟩
theorem JWF.saw {m:M} (h:JWF m) (n:Nat):JWF { m with seen:=n } :=⟨h.hex,h.hex1,h.rest,h.rlen,h.first,h.len,h.depth,h.pos,h.state⟩
theorem JWF.after {m:M} (h:JWF m) (b:UInt8):JWF (m.after b):=by
 have h5:=h.at 5 (by omega) (by omega) (by omega) (by omega) (by omega);unfold M.after;simp only
 repeat' split
 ·exact h5
 ·exact h.at 0 (by omega) (by omega) (by omega) (by omega) (by omega)
 ·exact h.at 2 (by omega) (by omega) (by omega) (by omega) (by omega)
 ·exact h5.pop
 ·exact h5.fail 0 (by omega)
theorem Dr {c:Prop} [Decidable c] {a b:M} (h1:JWF a) (h2:JWF b):JWF (if c then a else b):=by split<;>assumption
theorem JWF.byte {m:M} (h:JWF m) (b:UInt8):JWF (m.byte b):=by
 unfold M.byte;by_cases c1:m.pos=0\/m.pos=1
 ·rw [if_pos c1];unfold M.first
  have w: ∀r:List UInt8,r≠ []->r.length<=5->JWF { m with pos:=9,rest:=r } :=fun r hr hl=>
   ⟨h.hex,fun e=>by simp at e,fun _=>hr,hl,fun e=>by simp at e,h.len,h.depth,by simp,h.state⟩
  repeat' (with_reducible refine Dr ?_ ?_)
  ·exact h
  ·exact h.pop
  ·exact h.push _ _ (by omega) (by omega) (by omega)
  ·exact h.push _ _ (by omega) (by omega) (by omega)
  ·exact(h.at 6 (by omega) (by omega) (by omega) (by omega) (by omega)).key false
  ·exact h.at 10 (by omega) (by omega) (by omega) (by omega) (by omega)
  ·exact h.at 11 (by omega) (by omega) (by omega) (by omega) (by omega)
  ·exact h.at 12 (by omega) (by omega) (by omega) (by omega) (by omega)
  ·exact w _ (by simp) (by simp)
  ·exact w _ (by simp) (by simp)
  ·exact w _ (by simp) (by simp)
  ·exact h.fail 0 (by omega)
 rw [if_neg c1];by_cases c2:m.pos=2\/m.pos=3
 ·rw [if_pos c2];unfold M.names
  repeat' split
  ·exact h
  ·exact(h.at 6 (by omega) (by omega) (by omega) (by omega) (by omega)).key true
  ·exact h.pop
  ·exact h.fail 0 (by omega)
 rw [if_neg c2];by_cases c3:m.pos=4
 ·rw [if_pos c3]
  repeat' split
  ·exact h
  ·exact h.at 0 (by omega) (by omega) (by omega) (by omega) (by omega)
  ·exact h.fail 0 (by omega)
 rw [if_neg c3];by_cases c4:m.pos=5
 ·rw [if_pos c4];exact h.after b
 rw [if_neg c4];by_cases c5:m.pos=6
 ·rw [if_pos c5];unfold M.inText
  repeat' split
  ·exact h.at 4 (by omega) (by omega) (by omega) (by omega) (by omega)
  ·exact h.at 5 (by omega) (by omega) (by omega) (by omega) (by omega)
  ·exact h.at 7 (by omega) (by omega) (by omega) (by omega) (by omega)
  ·exact h.fail 0 (by omega)
  ·exact h
 rw [if_neg c5];by_cases c6:m.pos=7
 ·rw [if_pos c6];unfold M.inSlash
  repeat' split
  ·exact⟨by simp,fun _=>by simp,fun e=>by simp at e,h.rlen,fun e=>by simp at e,h.len,h.depth,by simp,h.state⟩
  ·exact h.at 6 (by omega) (by omega) (by omega) (by omega) (by omega)
  ·exact h.fail 0 (by omega)
 rw [if_neg c6];by_cases c7:m.pos=8
 ·rw [if_pos c7];unfold M.inUnicode;have:=h.hex
  repeat' split
  ·exact⟨by simp;omega,fun e=>by simp at e,fun e=>by simp at e,h.rlen,fun e=>by simp at e,h.len,h.depth,by simp,h.state⟩
  ·exact⟨by simp;omega,fun _=>by simp;omega,fun e=>by simp [c7]at e,h.rlen,fun e=>by simp [c7]at e,h.len,h.depth,h.pos,h.state⟩
  ·exact h.fail 0 (by omega)
 rw [if_neg c7];by_cases c8:m.pos=9
 ·rw [if_pos c8];unfold M.inWord;have:=h.rlen
  repeat' split
  ·exact⟨h.hex,fun e=>by simp at e,fun e=>by simp at e,by simp;omega,fun e=>by simp at e,h.len,h.depth,by simp,h.state⟩
  ·exact⟨h.hex,fun e=>by simp [c8]at e,fun _=>by assumption,by simp;omega,fun e=>by simp [c8]at e,h.len,h.depth,h.pos,h.state⟩
  ·exact h.fail 0 (by omega)
 rw [if_neg c8];unfold M.inNumber
 repeat' split
 ·exact h.at 11 (by omega) (by omega) (by omega) (by omega) (by omega)
 ·exact h.at 12 (by omega) (by omega) (by omega) (by omega) (by omega)
 ·exact h.at 14 (by omega) (by omega) (by omega) (by omega) (by omega)
 ·exact h.at 17 (by omega) (by omega) (by omega) (by omega) (by omega)
 ·exact h.at 16 (by omega) (by omega) (by omega) (by omega) (by omega)
 ·exact h.at 13 (by omega) (by omega) (by omega) (by omega) (by omega)
 ·exact h.at 15 (by omega) (by omega) (by omega) (by omega) (by omega)
 ·exact h.after b
 ·exact h.fail 0 (by omega)
theorem JWF.feed1 {m:M} (h:JWF m) (b:UInt8):JWF (m.feed1 b):=by
 unfold M.feed1;simp only;split
 ·exact((h.beg b).byte b).saw _
 ·exact(h.beg b).saw _
theorem JWF.feed {l:List UInt8} : ∀ {m:M},JWF m->JWF (m.feed l):=by
 induction l with
 |nil=>intro m h;exact h
 |cons b r ih=>intro m h;exact ih (h.feed1 b)
theorem JWF.start {d:Nat} (h:d<=200):JWF (M.start d):=⟨by simp [M.start],fun _=>by simp_all [M.start],fun _=>by simp_all [M.start],by simp [M.start],fun e=>by simp [M.start]at e,by simp [M.start],h,by simp [M.start],by simp [M.start]⟩
theorem seen_feed (l:List UInt8): ∀m:M,(m.feed l).seen=m.seen+l.length:=by
 induction l with
 |nil=>intro m;rfl
 |cons b r ih=>intro m;rw [gU,ih,l8];simp;omega
end Tg.Json
namespace Tg.Lx
structure L where
 j:Tg.Json.M
 s:Tg.Js.M
 verdict:Int
 reason:List UInt8
 at_:Int
 seen:Int
 ended:Bool
namespace L
def settle (m:L) (v:Int) (r:List UInt8):L:= { m with verdict:=v,reason:=r,at_:=m.seen }
def Gv:List UInt8:= [100,101,101,112]
def RF:List UInt8:= [110,111,32,115,99,114,105,112,116]
def o9:List UInt8:= [115,99,114,105,112,116]
def Ik:List UInt8:= [98,108,97,110,107]
def M1:List UInt8:= [106,115,111,110]
def QM:List UInt8:= [99,117,116,32,111,102,102]
def rLimit:List UInt8:= [108,105,109,105,116]
def look (m:L):L:=
 if m.j.tell=3 then m.settle 2 Gv
 else if m.s.tell=0 then m.settle 2 RF
 else if m.j.tell=0/\0<m.s.ends then m.settle 1 o9
 else m
def see (m:L):L:= { m with seen:=Tg.Js.w64 (m.seen+1) }
def take1 (m:L) (b:UInt8):L:= { m with j:=m.j.feed [b],s:=m.s.feed [b] }
def step (m:L) (b:UInt8):L:=if m.verdict≠0\/m.ended=true then m.see else(m.see.take1 b).look
def feed (m:L) (s:List UInt8):L:=s.foldl step m
def fin (m:L):L:=
 if m.verdict≠0 then { m with ended:=true }
 else if m.j.begun=false then({ m with ended:=true } :L).settle 1 Ik
 else if m.j.tell≠0 then({ m with ended:=true } :L).settle 2 M1
 else if m.s.tell=2 then({ m with ended:=true } :L).settle 1 o9
 else({ m with ended:=true } :L).settle 2 QM
def new (d:Nat):L:=⟨Tg.Json.M.start d,Tg.Js.new d,0,[],-1,0,false⟩
theorem feed_append (m:L) (s t:List UInt8):m.feed (s++t)=(m.feed s).feed t:=by simp [feed]
theorem feed_take (m:L) (s:List UInt8) {i:Nat} (h:i<s.length):m.feed (s.take (i+1))=(m.feed (s.take i)).step s[i]:=by
 rw [List.take_succ_eq_append_getElem h,feed_append];rfl
theorem fin_verdict (m:L):m.fin.verdict≠0:=by
 unfold fin settle;by_cases h:m.verdict≠0
 ·rw [if_pos h];exact h
 ·rw [if_neg h]
  repeat' split
  all_goals simp
structure Inv (n:Nat) (m:L):Prop where
 seen:m.seen=n
 at1:m.at_<=n
 at0: -1<=m.at_
 at2:m.verdict≠0->0<=m.at_
 v:m.verdict=0\/m.verdict=1\/m.verdict=2
theorem look_cases (m:L):m.look=m\/ ∃v r,(v=1\/v=2)/\m.look=m.settle v r:=by
 unfold look
 repeat' split
 ·exact .inr ⟨2,Gv,.inr rfl,rfl⟩
 ·exact .inr ⟨2,RF,.inr rfl,rfl⟩
 ·exact .inr ⟨1,o9,.inl rfl,rfl⟩
 ·exact .inl rfl
theorem wu (m:L):m.fin= { m with ended:=true } /\m.verdict≠0\/ ∃v r,(v=1\/v=2)/\m.fin=({ m with ended:=true } :L).settle v r:=by
 unfold fin;by_cases h:m.verdict≠0
 ·rw [if_pos h];exact .inl ⟨rfl,h⟩
 ·rw [if_neg h]
  repeat' split
  ·exact .inr ⟨_,_,.inl rfl,rfl⟩
  ·exact .inr ⟨_,_,.inr rfl,rfl⟩
  ·exact .inr ⟨_,_,.inl rfl,rfl⟩
  ·exact .inr ⟨_,_,.inr rfl,rfl⟩
theorem Inv.step {n:Nat} {m:L} (h:Inv n m) (hn:n<1152921504606846976) (b:UInt8):Inv (n+1) (m.step b):=by
 have hw:Tg.Js.w64 (m.seen+1)=((n+1:Nat):Int):=by rw [h.seen];rw [Tg.Js.w64_in (by omega) (by omega)];omega
 have hs:Inv (n+1) m.see:=⟨hw,by have:=h.at1;show m.at_<=_;omega,h.at0,h.at2,h.v⟩
 unfold L.step;split
 ·exact hs
 ·have ht:Inv (n+1) (m.see.take1 b):=⟨hs.seen,hs.at1,hs.at0,hs.at2,hs.v⟩
  rcases look_cases (m.see.take1 b)with e|⟨v,r,hv,e⟩
  ·rw [e];exact ht
  ·rw [e];have e1:=ht.seen;refine⟨e1,?_,?_,?_,?_⟩
   ·show(m.see.take1 b).seen<=_;omega
   ·show -1<=(m.see.take1 b).seen;omega
   ·intro _;show 0<=(m.see.take1 b).seen;omega
   ·exact .inr hv
theorem Inv.feed (t:List UInt8): ∀ {n:Nat} {m:L},Inv n m->n+t.length<=1152921504606846976->Inv (n+t.length) (m.feed t):=by
 induction t with
 |nil=>intro n m h _;exact h
 |cons b r ih=>
  intro n m h hn;simp only [List.length_cons]at hn;have:=ih (h.step (by omega) b) (by omega);rw [show n+1+r.length=n+(b::r).length by simp;omega]at this;exact this
theorem Inv.new (d:Nat):Inv 0 (new d):=⟨rfl,by show(-1:Int)<=0;omega,Int.le_refl _,fun h=>absurd rfl h,.inl rfl⟩
theorem Inv.fin {n:Nat} {m:L} (h:Inv n m):Inv n m.fin:=by
 rcases wu m with⟨e,_⟩|⟨v,r,hv,e⟩
 ·rw [e];exact⟨h.seen,h.at1,h.at0,h.at2,h.v⟩
 ·rw [e];have e1:=h.seen;exact⟨e1,by show m.seen<=_;omega,by show -1<=m.seen;omega,fun _=>by show 0<=m.seen;omega,.inr hv⟩
end L
end Tg.Lx
namespace Go.Proofs.YtbeoilidocfofaaGreatDoor.PK
theorem k2:(laidOutB Tryz.checked.prog)=true:=by kernel_rfl
theorem k3:(mapsRowed Tryz.checked.prog)=true:=by kernel_rfl
theorem k6:((Rows.classifyPointRow.stops== []))=true:=by kernel_rfl
theorem k7:((Tryz.checked.prog.stops== []))=true:=by kernel_rfl
theorem k8:((Rows.classifyPointRow.knobs== []))=true:=by kernel_rfl
theorem k9:((Tryz.checked.prog.stopKnobs== []))=true:=by kernel_rfl
theorem k23:((Rows.classifyPointRow.plainKeys==Tryz.checked.prog.plainKeys))=true:=by kernel_rfl
theorem k24:(Rows.classifyPointRow.shortTexts.isNone)=true:=by kernel_rfl
theorem k25:(Tryz.checked.prog.stopsHeard)=true:=by kernel_rfl
theorem k26:(Tryz.checked.prog.mayEnter)=true:=by kernel_rfl
theorem k27:((Rows.classifyPointRow.lifted==Tryz.checked.prog.liftsFinal))=true:=by kernel_rfl
theorem k28:((Tryz.checked.prog.make==some Rows.classifyPointRow.make))=true:=by kernel_rfl
theorem k30:((Rows.classifyPointRow.pinned==Rows.classifyPointRow.pinnedBy))=true:=by kernel_rfl
theorem main0:Tryz.checked.prog.mainIs=some (true,"91e0afe17776c86955c5574f0f5e8b24854a4a2522fb0930330b2cf11b558dea".toList):=by kernel_rfl
theorem looks0:true=Tryz.checked.prog.looks []:=by kernel_rfl
end Go.Proofs.YtbeoilidocfofaaGreatDoor.PK
