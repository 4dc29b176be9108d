/-
  Texts joined, part 1: Kit, End, LgByte, UnPlain, Shelf, StLow, StBld0, UnPlainB, UnPlainC, UnEq, UrPlain, ProgK.
-/
import Derived.WalkKit
import Derived.WalkSpells
import Derived.WalkLawsBesides
import Derived.Lib.Hide
import Derived.Lib.Strings
import Derived.Lib.AppendStr
import Derived.Deep.Upon
import Derived.Below
import Derived.ChangeSame
import Derived.Carry
import Derived.ShutString
import Derived.OpenShut
import Derived.Shelf.Strings.Builder1
import Derived.Shelf.Strings.Builder2
import Derived.Shelf.Strings.OnBuilder
import Derived.Shelf.Small.Bits
import Derived.Shelf.Small.Strs
import Derived.Shelf.Strings.BuilderF
import Derived.Shelf.Strings.BuilderK
import Derived.Shelf.Utf8.RuneCount
import Derived.Shelf.Strings.Builder2Cap
import Derived.Shelf.Strings.Search1
import Derived.Shelf.Strings.Search2
import Derived.Shelf.Strings.Search3
import Derived.Shelf.Strings.Count
import Derived.Shelf.LaysM
import Derived.Shelf.Strings.Shaped
import Derived.Shelf.Strings.Prefix
import Derived.Shelf.Strings.Split
import Derived.Shelf.Strings.Fields
import Derived.Shelf.Strings.SplitShaped
import Derived.Shelf.Unicode.Latin
import Derived.Shelf.Unicode.Decode
import Derived.Shelf.Strings.RuneCount
import Derived.Shelf.Strings.Explode
import Derived.Shelf.Bits.Mul64
import Derived.Shelf.Strings.Repeat
import Derived.Shelf.Unicode.DecodeSlow
import Derived.Shelf.Unicode.DecodeAny
import Derived.Shelf.Unicode.Is16White
import Derived.Shelf.Unicode.IsSpaceAny
import Derived.Shelf.Unicode.Is16WhiteD
import Derived.Shelf.Unicode.IsSpaceAnyD
import Derived.Shelf.Strings.FieldsAny
import Derived.Shelf.Strings.FieldsFuncAny
import Derived.Shelf.Unicode.Is16Any
import Derived.Shelf.Unicode.Is32Any
import Derived.Shelf.Unicode.ExclAny
import Derived.Shelf.Strings.BuilderCap
import Derived.Shelf.Slices.Turned
import Derived.Test.YtcgiaiimbnoknaaGreatDoorProg
import Derived.Laws.Externs
import Derived.Laws.BytesString
import Derived.Lib.ConvBytes
import Derived.Deep.LoopGhost
import Derived.Test.YtcgiaiimbnoknaaGreatDoorRows
import Derived.ProofKit
import Derived.Stop.Joined
import Derived.SevenTiedAt
import Derived.LaidMore
import Derived.Lay
set_option linter.unusedSimpArgs false
set_option linter.unusedVariables false
namespace Go.Tg
open Go.RowKit
theorem ba_toList (s:ByteArray):s.toList=s.data.toList:=by
 have:=@ByteArray.toList_eq s
 exact this
structure Change (S:Nat→Prop) (w w':World):Prop where
 os:w'.os=w.os
 tape:w'.tape=w.tape
 output:w'.output=w.output
 size:w.heap.size≤w'.heap.size
 block: ∀k,k<w.heap.size→ ¬S k→w'.heap[k]?=w.heap[k]?
namespace Change
variable {S T U:Nat→Prop} {w w' w'':World}
theorem refl (S:Nat→Prop) (w:World):Change S w w:=⟨rfl,rfl,rfl,Nat.le_refl _,fun _ _ _=>rfl⟩
theorem trans (h:Change S w w') (k:Change T w' w'') (hT: ∀i,T i→S i∨w.heap.size≤i):Change S w w'':=
 ⟨k.os.trans h.os,k.tape.trans h.tape,k.output.trans h.output,Nat.le_trans h.size k.size,fun i hi hn=>
  (k.block i (Nat.lt_of_lt_of_le hi h.size) (fun ht=>by rcases hT i ht with h|h;exact hn h;omega)).trans (h.block i hi hn)⟩
theorem mono (h:Change S w w') (hT: ∀i,i<w.heap.size→S i→T i):Change T w w':=
 ⟨h.os,h.tape,h.output,h.size,fun i hi hn=>h.block i hi (fun hs=>hn (hT i hi hs))⟩
theorem drew (h:Change S w w'):Change S w w'.drew:=⟨h.os,h.tape,h.output,h.size,h.block⟩
theorem alloc (h:Change S w w') (o:Obj):Change S w (w'.alloc o):=
 ⟨h.os,h.tape,h.output,Nat.le_trans h.size (by simp),fun i hi hn=>(Below.heap_alloc w' o i (Nat.lt_of_lt_of_le hi h.size)).trans (h.block i hi hn)⟩
theorem setCell (h:Change S w w') {p:Addr} (hp:S p.block∨w.heap.size≤p.block) (u:Value):Change S w (w'.setCell p u):=
 ⟨h.os,h.tape,h.output,by simpa [World.setCell]using h.size,fun i hi hn=>(Below.heap_setCell w' p u i (by
  rintro rfl
  rcases hp with hp|hp
  ·exact hn hp
  ·omega)).trans (h.block i hi hn)⟩
theorem grown (h:Change S w w') {r:Option Nat} (g:w'.grownBy w'' r) (hr: ∀k,r=some k→S k∨w.heap.size≤k):Change S w w'':=
 ⟨g.os.trans h.os,g.tape.trans h.tape,g.output.trans h.output,Nat.le_trans h.size g.size,fun i hi hn=>
  (g.block i (Nat.lt_of_lt_of_le hi h.size) (fun e=>by rcases hr i e.symm with h|h;exact hn h;omega)).trans (h.block i hi hn)⟩
theorem below {B:Nat} (h:Change S w w') (hB:B≤w.heap.size) (hS: ∀k,S k→B≤k):Below B w w':=
 ⟨h.os,h.tape,h.output,h.size,fun k hk=>h.block k (by omega) (fun hs=>by have:=hS k hs;omega)⟩
theorem lt (h:Change S w w') {k:Nat} (hk:k<w.heap.size):k<w'.heap.size:=Nat.lt_of_lt_of_le hk h.size
theorem one (b:Nat) (w:World):Change (fun k=>k=b) w w:=refl _ w
theorem set {b:Nat} (h:Change (fun k=>k=b) w w') (i:Nat) (u:Value):Change (fun k=>k=b) w (w'.setCell ⟨b,i,none⟩ u):=h.setCell (.inl rfl) u
end Change
def Blk (w:World) (b:Nat) (t:TypeId) (cs:Array Value):Prop:=w.heap[b]?=some (.cells cs t (0,0))
namespace Blk
variable {w w':World} {b:Nat} {t:TypeId} {cs:Array Value}
theorem cell (h:Blk w b t cs) (i:Nat):w.cell? ⟨b,i,none⟩=cs[i]?:=by
 unfold Blk at h;simp [World.cell?,h]
theorem free (h:Blk w b t cs) (i:Nat):w.frozen? ⟨b,i,none⟩=false:=by
 unfold Blk at h;simp [World.frozen?,h]
theorem lt (h:Blk w b t cs):b<w.heap.size:=lt_of_block h
theorem set (h:Blk w b t cs) (i:Nat) (v:Value):Blk (w.setCell ⟨b,i,none⟩ v) b t (cs.setIfInBounds i v):=by
 unfold Blk at h⊢;simp only [World.setCell,Array.getElem?_modify,h];simp
theorem drew (h:Blk w b t cs):Blk w.drew b t cs:=h
theorem alloc (h:Blk w b t cs) (o:Obj):Blk (w.alloc o) b t cs:=by
 unfold Blk at h⊢;rw [Below.heap_alloc _ _ _ (lt_of_block h)];exact h
theorem new (w:World) (t:TypeId) (cs:Array Value):Blk (w.alloc (.cells cs t)) w.heap.size t cs:=by
 unfold Blk;exact(MapKept.heap_alloc w _).1
end Blk
structure Upd (w:World) (b:Nat) (t:TypeId) (W:World) (cs:Array Value):Prop where
 blk:Blk W b t cs
 chg:Change (fun k=>k=b) w W
namespace Upd
variable {w W:World} {b:Nat} {t:TypeId} {cs:Array Value}
theorem base (h:Blk w b t cs):Upd w b t w cs:=⟨h,Change.one b w⟩
theorem set {i:Nat} {v:Value} (h:Upd w b t W cs):Upd w b t (W.setCell ⟨b,i,none⟩ v) (cs.setIfInBounds i v):=⟨h.blk.set i v,h.chg.set i v⟩
theorem drew (h:Upd w b t W cs):Upd w b t W.drew cs:=⟨h.blk,h.chg.drew⟩
theorem alloc {o:Obj} (h:Upd w b t W cs):Upd w b t (W.alloc o) cs:=⟨h.blk.alloc o,h.chg.alloc o⟩
end Upd
section
variable {P:Program} (w:World)
theorem run_append2 (t ty e:TypeId) (i:TypeInfo) (z:Value) (size bytes:Nat) (ht:P.underlying t=some (.slice e)) (hi:P.info? e=some i) (hz:i.zero=some z)
  (hsize:i.size=size) (hby:i.bytes=bytes) (hzs:z.cells.size=size) (hsz:0<size)
  (v:Value) (n:Nat) (xs:List Value) (hown:w.ownsRow 0 e size v n xs)
  (a:Addr) (m c:Nat) (news:List Value) (hl:news.length=m*size) (hnews: ∀j u,news[j]?=some u→w.cell? (a.add j)=some u) (h1: ∀u∈news,u.oneCell'=true)
  (hpos:0<n+m) (h63:n+m≤maxLen) (hbytes:(n+m)*bytes≤140737488355328):
  ∃g cap w',(Builtin.append_ #[t,t] ty #[v,.slice (some a) m c]).run P w=.ok (.slice (some ⟨g,0,none⟩) (n+m) cap) w'∧w'.ownsRow 0 e size (.slice (some ⟨g,0,none⟩) (n+m) cap) (n+m) (xs++news)∧w.grownBy w' v.ownBlock∧
   (v.ownBlock=some g∨g=w.heap.size):=by
 obtain⟨v',w',hr,h2,h3,h4⟩:=run_append_own (P:=P) w 0 t ty e i z size bytes ht hi hz hsize hby hzs hsz v n xs hown a m c news hl hnews h1 h63 hbytes (Nat.zero_le _)
 have hv: ∃g cap,v'=.slice (some ⟨g,0,none⟩) (n+m) cap:=by
  rcases h2.2 with⟨_,h⟩|⟨g,cap,_,h,_⟩
  ·omega
  ·exact⟨g,cap,h⟩
 obtain⟨g,cap,rfl⟩:=hv
 refine⟨g,cap,w',hr,h2,h3,?_⟩
 subst hsize
 subst hby
 have hsmall:n+m≤9223372036854775807:=by simp only [maxLen]at h63;omega
 rcases hown.2 with⟨rfl,rfl⟩|⟨g0,cap0,cur,rfl,_,hh,hnc,hcm,hcs,htake⟩
 ·have hr2:=run_append_nil (P:=P) w t ty e i z ht hi hz a m c news hl hnews (by omega) (by omega) (by have hb:=hbytes;simp only [Nat.zero_add]at hb;omega)
  rw [hr2]at hr
  injection hr with hr hw
  injection hr with hr
  injection hr with hr
  injection hr with hr
  exact .inr hr.symm
 ·by_cases hroom:n+m≤cap0
  ·have hfit:n*i.size+news.length≤cur.size:=by rw [hl,hcs,←Nat.add_mul];exact Nat.mul_le_mul_right _ hroom
   have hr2:=run_append_room (P:=P) w t ty e i ht hi g0 n cap0 cur hh a m c news hl hnews h1 hroom hfit
   rw [hr2]at hr
   injection hr with hr hw
   injection hr with hr
   injection hr with hr
   injection hr with hr
   exact .inl (by rw [←hr];rfl)
  ·have holds: ∀j u,xs[j]?=some u→w.cell? ((⟨g0,0,none⟩:Addr).add j)=some u:=hown.cells (g:=g0) rfl
   have hr2:=run_append_grow (P:=P) w t ty e i z ht hi hz ⟨g0,0,none⟩ n cap0 xs hown.1 holds a m c news hl hnews (by omega) (by omega) (growslice_fits (by omega) hbytes)
   rw [hr2]at hr
   injection hr with hr hw
   injection hr with hr
   injection hr with hr
   injection hr with hr
   exact .inr hr.symm
theorem run_append2s (t u ty e:TypeId) (i:TypeInfo) (ht:P.underlying t=some (.slice e)) (hu:P.underlying u=some .string) (hi:P.info? e=some i) (hz:i.zero=some (.int .u8 0))
  (hsize:i.size=1) (hby:i.bytes=1) (v:Value) (n:Nat) (xs:List Value) (hown:w.ownsRow 0 e 1 v n xs) (s:ByteArray)
  (hpos:0<n+s.size) (h63:n+s.size≤maxLen) (hbytes:n+s.size≤140737488355328):
  ∃g cap w',(Builtin.append_ #[t,u] ty #[v,.string s]).run P w=.ok (.slice (some ⟨g,0,none⟩) (n+s.size) cap) w'∧w'.ownsRow 0 e 1 (.slice (some ⟨g,0,none⟩) (n+s.size) cap) (n+s.size) (xs++Lib.strCells s)∧w.grownBy w' v.ownBlock∧
   (v.ownBlock=some g∨g=w.heap.size):=by
 obtain⟨v',w',hr,h2,h3,h4⟩:=Lib.run_append_own_string (P:=P) w 0 t u ty e i ht hu hi hz hsize hby v n xs hown s h63 hbytes (Nat.zero_le _)
 have hv: ∃g cap,v'=.slice (some ⟨g,0,none⟩) (n+s.size) cap:=by
  rcases h2.2 with⟨_,h⟩|⟨g,cap,_,h,_⟩
  ·omega
  ·exact⟨g,cap,h⟩
 obtain⟨g,cap,rfl⟩:=hv
 refine⟨g,cap,w',hr,h2,h3,?_⟩
 have hsmall:n+s.size≤9223372036854775807:=by simp only [maxLen]at h63;omega
 have hfit: ∀c,c<n+s.size→Builtin.nextslicecap (n+s.size) c*i.bytes≤281474976710656:=fun c hc=>by
  refine growslice_fits (by omega) ?_
  rw [hby];omega
 have hsrc:Src P i.size u (.string s) s.size (byteCells s) w:=by rw [hsize];exact Src.ofString w hu s
 rcases hown.2 with⟨rfl,rfl⟩|⟨g0,cap0,cur,rfl,_,hh,hnc,hcm,hcs,htake⟩
 ·have hr2:=run_append_grow_src (P:=P) w t u ty e i (.int .u8 0) ht hi hz none 0 0 [] (run_firstCells_none w.drew i.size 0 0 0) (.string s) s.size (byteCells s) hsrc (by omega) (by omega) (hfit 0 (by omega))
  rw [hr2]at hr
  injection hr with hr hw
  injection hr with hr
  injection hr with hr
  injection hr with hr
  exact .inr hr.symm
 ·by_cases hroom:n+s.size≤cap0
  ·have hr2:=Lib.run_append_room_string (P:=P) w t u ty e i ht hu hi hsize g0 n cap0 cur hh s hroom (by omega)
   rw [hr2]at hr
   injection hr with hr hw
   injection hr with hr
   injection hr with hr
   injection hr with hr
   exact .inl (by rw [←hr];rfl)
  ·have holds: ∀j u,xs[j]?=some u→w.cell? ((⟨g0,0,none⟩:Addr).add j)=some u:=hown.cells (g:=g0) rfl
   have hr2:=Lib.run_append_grow_string (P:=P) w t u ty e i (.int .u8 0) ht hu hi hz ⟨g0,0,none⟩ n cap0 xs (by rw [hsize];exact hown.1) holds s (by omega) (by omega) (hfit cap0 (by omega))
   rw [hr2]at hr
   injection hr with hr hw
   injection hr with hr
   injection hr with hr
   injection hr with hr
   exact .inr hr.symm
def AppSrc (P:Program) (t u e:TypeId) (size:Nat) (y:Value) (m:Nat) (news:List Value) (w:World):Prop:=
 (t=u∧ ∃ad c,y=.slice (some ad) m c∧news.length=m*size∧ ∀(j:Nat) (x:Value),news[j]?=some x→w.cell? (ad.add j)=some x)∨
 (P.underlying u=some .string∧size=1∧(∃i,P.info? e=some i∧i.zero=some (.int .u8 0)∧i.bytes=1)∧ ∃bs:ByteArray,y=.string bs∧m=bs.size∧news=Lib.strCells bs)
theorem run_append2x (t u ty e:TypeId) (i:TypeInfo) (z:Value) (size bytes:Nat) (ht:P.underlying t=some (.slice e)) (hi:P.info? e=some i) (hz:i.zero=some z)
  (hsize:i.size=size) (hby:i.bytes=bytes) (hzs:z.cells.size=size) (hsz:0<size)
  (v:Value) (n:Nat) (xs:List Value) (hown:w.ownsRow 0 e size v n xs)
  (y:Value) (m:Nat) (news:List Value) (hs:AppSrc P t u e size y m news w) (h1: ∀u∈news,u.oneCell'=true)
  (hpos:0<n+m) (h63:n+m≤maxLen) (hbytes:(n+m)*bytes≤140737488355328):
  ∃g cap w',(Builtin.append_ #[t,u] ty #[v,y]).run P w=.ok (.slice (some ⟨g,0,none⟩) (n+m) cap) w'∧w'.ownsRow 0 e size (.slice (some ⟨g,0,none⟩) (n+m) cap) (n+m) (xs++news)∧w.grownBy w' v.ownBlock∧
   (v.ownBlock=some g∨g=w.heap.size):=by
 rcases hs with⟨rfl,ad,c,rfl,hl,hc⟩|⟨hu,rfl,⟨i',hi',hz',hb'⟩,bs,rfl,rfl,rfl⟩
 ·exact run_append2 w t ty e i z size bytes ht hi hz hsize hby hzs hsz v n xs hown ad m c news hl hc h1 hpos h63 hbytes
 ·rw [hi]at hi'
  injection hi' with hi'
  subst hi'
  exact run_append2s w t u ty e i ht hu hi hz' hsize hb' v n xs hown bs hpos h63 (by rw [←hby,hb']at hbytes;omega)
theorem run_append_roomx (t u ty e:TypeId) (i:TypeInfo) (ht:P.underlying t=some (.slice e)) (hi:P.info? e=some i) (g sLen sCap:Nat) (cur:Array Value) (hg:w.heap[g]?=some (.cells cur e (0,0)))
  (y:Value) (m:Nat) (news:List Value) (hs:AppSrc P t u e i.size y m news w) (h1: ∀u∈news,u.oneCell'=true) (hroom:sLen+m≤sCap) (hfit:sLen*i.size+news.length≤cur.size):
  (Builtin.append_ #[t,u] ty #[.slice (some ⟨g,0,none⟩) sLen sCap,y]).run P w=.ok (.slice (some ⟨g,0,none⟩) (sLen+m) sCap) (w.setRow g (cur.toList.take (sLen*i.size)++news++cur.toList.drop (sLen*i.size+news.length)).toArray):=by
 rcases hs with⟨rfl,ad,c,rfl,hl,hc⟩|⟨hu,h0,_,bs,rfl,rfl,rfl⟩
 ·exact run_append_room (P:=P) w t ty e i ht hi g sLen sCap cur hg ad m c news hl hc h1 hroom hfit
 ·have:=Lib.run_append_room_string (P:=P) w t u ty e i ht hu hi h0 g sLen sCap cur hg bs hroom (by rw [h0,Nat.mul_one,Lib.strCells_length]at hfit;exact hfit)
  rw [this,h0,Nat.mul_one,Lib.strCells_length]
end
end Go.Tg
namespace Go.Tg
open Go.RowKit Go.WideShapes Go.ChangeShapes
section
variable {H:Type} {enc:TypeId×Value→H} {P:Program}
end
theorem below_of_false {w w':World} (h:Change (fun _=>False) w w'):Below w.heap.size w w':=h.below (Nat.le_refl _) (fun _ h=>h.elim)
section
variable {H:Type} {enc:TypeId×Value→H} {P:Program}
theorem trodAll_stays {W W':World} (hl:laidOutB P=true) (hb:Below W.heap.size W W'): ∀ {ts:List TypeId} {vs:List Value} {ds:List (DataW H)} {ps:List MemPlace} {sp:Nat→Bool},
  (∀t∈ts,P.readableRec t=true∧t<P.types.size)→DataW.TrodAll enc P W 0 (fun _=>true) true ts vs ds ps→(∀p∈ps,p.block<W.heap.size)→(∀p∈ps,sp p.block=true)→DataW.TrodAll enc P W' 0 sp true ts vs ds ps
 | [],[],[],_,_,_,h,_,_=>h
 |t::ts,v::vs,d::ds,ps,sp,hr,h,hlt,hs=>by
  obtain⟨p,q,h1,h2,rfl⟩:=h
  obtain⟨hr1,hr2⟩:=hr t (by simp)
  exact⟨p,q,WideElems.Trod_stays hl hr1 hr2 h1 (fun x hx=>hb.same (hlt x (by simp [hx]))) (fun x hx=>hs x (by simp [hx])),
   trodAll_stays hl hb (fun t' ht'=>hr t' (by simp [ht'])) h2 (fun x hx=>hlt x (by simp [hx])) (fun x hx=>hs x (by simp [hx])),rfl⟩
 | [],_::_,_,_,_,_,h,_,_=>absurd h (by simp [DataW.TrodAll])
 | [],[],_::_,_,_,_,h,_,_=>absurd h (by simp [DataW.TrodAll])
 |_::_,[],_,_,_,_,h,_,_=>absurd h (by simp [DataW.TrodAll])
 |_::_,_::_,[],_,_,_,h,_,_=>absurd h (by simp [DataW.TrodAll])
theorem law_post {f:Func} {s:ChangeSpec} {W W':World} {args:Array Value} {ds gs:List (DataW H)} {before:List MemPlace} (hl:laidOutB P=true)
  (hW:DataW.Whole enc P f.params.toList s.vars false W args.toList ds gs before) (hv:s.vars= []) (hr: ∀t∈f.params.toList,P.readableRec t=true∧t<P.types.size)
  {tb:TypeId} (hres:f.resultTypes=#[tb]) (htb:P.underlying tb=some .bool) (hfn:s.fn H ds= { results:= [.lit (.bool true)],args:=ds }) (hb:Below W.heap.size W W'):
  s.post enc P f false true false false W args (.bool true) W':=by
 have hlt: ∀p∈before,p.block<W.heap.size:=fun p hp=>hW.lt p hp
 have hW0:=hW
 obtain⟨p,q,hA,hV,rfl,hz,hn⟩:=hW
 rw [hv]at hV
 cases gs with
 |cons=>exact absurd hV (by simp [DataW.TrodVars])
 |nil=>
  have hq:q= []:=hV
  subst hq
  refine⟨ds,[],p++ [],[],p,[],hW0,?_,?_,?_,World.keptBut_mono (fun x hx=>⟨hx,?_⟩) (hb.frame (· ∈p++ [])),fun h=>by cases h⟩
  ·rw [List.append_nil,hfn,hres];exact trodAll_cons_mk (shut_bool htb _) trodAll_mk0
  ·rw [List.append_nil,hfn];exact trodAll_stays hl hb hr hA (fun x hx=>hlt x (by simp [hx])) (fun x hx=>by simpa using hlt x (by simp [hx]))
  ·rw [List.append_nil,hfn,hv];rfl
  ·exact .inr (.inl (by simpa using hx))
end
end Go.Tg
namespace Go.Lg
theorem u8eq (b:UInt8) (n:Nat) (hn:n<256):((b.toNat:Int)=n)=(b=UInt8.ofNat n):=by
 have:=b.toNat_lt
 apply propext
 constructor
 ·intro h
  apply UInt8.toNat_inj.1
  simp;omega
 ·rintro rfl
  simp;omega
section
variable {b:UInt8}
@[simp] theorem u8qn {n:Nat} (hn:n<256):((b.toNat:Int)=no_index (@OfNat.ofNat Int n instOfNat))=(b=UInt8.ofNat n):=u8eq b n hn
@[simp] theorem u8q0:((b.toNat:Int)=0)=(b=0):=u8eq b 0 (by decide)
@[simp] theorem u8lt:((b.toNat:Int)<256)=True:=by simp;have:=b.toNat_lt;omega
end
end Go.Lg
namespace Tg.Un
structure Pat where
 b:List UInt8
 m:List UInt8
 s:List UInt8
 t:List UInt8
deriving DecidableEq
def begins (k:List UInt8):List UInt8→Nat
 | []=>0
 |c::s=>if k.contains c then begins k s+1 else 0
theorem begins_le (k:List UInt8): ∀s:List UInt8,begins k s≤s.length
 | []=>Nat.le_refl 0
 |c::s=>by
  unfold begins
  have:=begins_le k s
  split<;>simp<;>omega
def fit:List UInt8→List UInt8→List UInt8→Bool
 |c::s,b::bs,m::ms=>(c&&&m==b)&&fit s bs ms
 |_,_,_=>true
def fitN:List UInt8→List UInt8→List UInt8→Nat×Bool
 |c::s,b::bs,m::ms=>if c&&&m=b then((fitN s bs ms).1+1,(fitN s bs ms).2)else(0,false)
 |_,_,_=>(0,true)
theorem fitN_2: ∀s b m:List UInt8,(fitN s b m).2=fit s b m
 | [],_,_=>by simp [fitN,fit]
 |_::_,[],_=>by simp [fitN,fit]
 |_::_,_::_,[]=>by simp [fitN,fit]
 |c::s,b::bs,m::ms=>by
  unfold fitN fit
  by_cases h:c&&&m=b
  ·rw [if_pos h,fitN_2 s bs ms];simp [h]
  ·rw [if_neg h];simp [h]
theorem fitN_1: ∀s b m:List UInt8,m.length=b.length→fit s b m=true→(fitN s b m).1=min s.length b.length
 | [],_,_,_,_=>by simp [fitN]
 |_::_,[],_,_,_=>by simp [fitN]
 |_::_,_::_,[],h,_=>by simp at h
 |c::s,b::bs,m::ms,h,hf=>by
  unfold fitN
  unfold fit at hf
  by_cases hc:c&&&m=b
  ·have hf:fit s bs ms=true:=by simpa [hc]using hf
   rw [if_pos hc,fitN_1 s bs ms (by simpa using h) hf]
   simp only [List.length_cons];omega
  ·simp [hc]at hf
def good (p:Pat):Bool:=decide (1≤p.b.length)&&decide (p.b.length≤64)&&decide (p.m.length=p.b.length)
def rest (p:Pat) (s:List UInt8):List UInt8:=s.drop (begins p.s s)
def hits (p:Pat) (s:List UInt8):Bool:=good p&&(fit (rest p s) p.b p.m&&decide (p.b.length≤(rest p s).length))
def at_ (s:List UInt8):List Pat→Nat→Int
 | [],_=> -1
 |p::l,i=>if hits p s=true then i else at_ s l (i+1)
def typeOf (s:List UInt8):List Pat→List UInt8
 | []=> []
 |p::l=>if hits p s=true then p.t else typeOf s l
def letter (c:UInt8):Bool:=(decide ((97:Int)≤c.toNat)&&decide ((c.toNat:Int)≤122))||(decide ((65:Int)≤c.toNat)&&decide ((c.toNat:Int)≤90))
def up (c:UInt8):UInt8:=if letter c then c&&&223 else c
def msk (c:UInt8):UInt8:=if letter c then 223 else 255
def white:List UInt8:= [9,10,12,13,32]
def tag (s t:List UInt8):Pat:=⟨s.map up,s.map msk,white,t⟩
end Tg.Un
namespace Go.Proofs
open Go.Shelf
def Tryz.lays156_ren:Go.Shelf.Ren:=⟨fun|156=>298|165=>283|166=>232|169=>236|240=>269|241=>308|276=>299|277=>328|n=>n,fun|31=>84|9=>9|3=>3|4=>4|0=>0|20=>20|72=>207|76=>210|70=>205|37=>106|75=>209|127=>235|164=>260|5=>5|80=>64|n=>n,fun|n=>n⟩
theorem Tryz.lays156:Go.Proofs.Lays.n156 Tryz.prog Tryz.lays156_ren:= {
 mixed:=by kernel_rfl
 f156:=Tryz.func298.trans (congrArg some (by kernel_rfl))
 f165:=Tryz.func283.trans (congrArg some (by kernel_rfl))
 f166:=Tryz.func232.trans (congrArg some (by kernel_rfl))
 f169:=Tryz.func236.trans (congrArg some (by kernel_rfl))
 f240:=Tryz.func269.trans (congrArg some (by kernel_rfl))
 f241:=Tryz.func308.trans (congrArg some (by kernel_rfl))
 f276:=Tryz.func299.trans (congrArg some (by kernel_rfl))
 f277:=Tryz.func328.trans (congrArg some (by kernel_rfl))
 t0:=Tryz.underlying0
 a0:=Tryz.isAgg0
 z0:=Tryz.sizeOf0
 v0:=Tryz.zeroValue0
 t3:=Tryz.underlying3
 a3:=Tryz.isAgg3
 z3:=Tryz.sizeOf3
 v3:=Tryz.zeroValue3
 t4:=Tryz.underlying4
 a4:=Tryz.isAgg4
 z4:=Tryz.sizeOf4
 v4:=Tryz.zeroValue4
 t9:=Tryz.underlying9
 a9:=Tryz.isAgg9
 z9:=Tryz.sizeOf9
 v9:=Tryz.zeroValue9
 t20:=Tryz.underlying20
 a20:=Tryz.isAgg20
 z20:=Tryz.sizeOf20
 v20:=Tryz.zeroValue20
 t31:=Tryz.underlying84
 a31:=Tryz.isAgg84
 z31:=Tryz.sizeOf84
 v31:=Tryz.zeroValue84
 t37:=Tryz.underlying106
 a37:=Tryz.isAgg106
 z37:=Tryz.sizeOf106
 v37:=Tryz.zeroValue106
 t70:=Tryz.underlying205
 a70:=Tryz.isAgg205
 z70:=Tryz.sizeOf205
 v70:=Tryz.zeroValue205
 t72:=Tryz.underlying207
 a72:=Tryz.isAgg207
 z72:=Tryz.sizeOf207
 v72:=Tryz.zeroValue207
 t75:=Tryz.underlying209
 a75:=Tryz.isAgg209
 z75:=Tryz.sizeOf209
 v75:=Tryz.zeroValue209
 t76:=Tryz.underlying210
 a76:=Tryz.isAgg210
 z76:=Tryz.sizeOf210
 v76:=Tryz.zeroValue210
 t127:=Tryz.underlying235
 a127:=Tryz.isAgg235
 z127:=Tryz.sizeOf235
 v127:=Tryz.zeroValue235
 t164:=Tryz.underlying260
 a164:=Tryz.isAgg260
 z164:=Tryz.sizeOf260
 v164:=Tryz.zeroValue260 }
theorem Tryz.Builder_Extra_156:Builder.Extra Tryz.prog Tryz.lays156_ren:= {
 sizeBuilder:=by kernel_rfl
 liesBuilder:=by kernel_rfl
 t5:=Tryz.underlying5
 a5:=Tryz.isAgg5
 z5:=Tryz.sizeOf5
 v5:=Tryz.zeroValue5
 infoByte:=by kernel_rfl
 cellsByte:=by kernel_rfl
 sizeByte:=by kernel_rfl
 neB5:=by decide }
open Go.RowKit in
theorem Tryz.strings_Join_none (a:Option Addr) (c:Nat) (sep:ByteArray) (w:World):
  Calls Tryz.prog 298 #[.slice a 0 c,.string sep] w fun e w'=>e=.returned (.string ⟨#[]⟩)∧w'=w:=Any.strings_Join_none Tryz.lays156 Tryz.Builder_Extra_156 a c sep w
open Go.RowKit in
theorem Tryz.strings_Join (bk o c:Nat) (xs:List ByteArray) (sep:ByteArray) (w:World) (hcells: ∀(j:Nat) x,xs[j]?=some x→w.cell? ⟨bk,o+j,none⟩=some (.string x)) (hbk:bk<w.heap.size) (hN:xs.length≤140737488355328) (hcap:xs.length≤c) (hlen:(Lib.join (xs.map (·.data.toList)) sep.data.toList).length≤140737488355328):
  Calls Tryz.prog 298 #[.slice (some ⟨bk,o,none⟩) xs.length c,.string sep] w fun e w'=>e=.returned (.string ⟨(Lib.join (xs.map (·.data.toList)) sep.data.toList).toArray⟩)∧Below w.heap.size w w':=Any.strings_Join Tryz.lays156 Tryz.Builder_Extra_156 bk o c xs sep w hcells hbk hN hcap hlen
def Tryz.lays131_ren:Go.Shelf.Ren:=⟨fun|131=>348|126=>361|n=>n,fun|5=>5|3=>3|9=>9|n=>n,fun|n=>n⟩
theorem Tryz.lays131:Go.Proofs.Lays.n131 Tryz.prog Tryz.lays131_ren:= {
 mixed:=by kernel_rfl
 f126:=Tryz.func361.trans (congrArg some (by kernel_rfl))
 f131:=Tryz.func348.trans (congrArg some (by kernel_rfl))
 t3:=Tryz.underlying3
 a3:=Tryz.isAgg3
 z3:=Tryz.sizeOf3
 v3:=Tryz.zeroValue3
 t5:=Tryz.underlying5
 a5:=Tryz.isAgg5
 z5:=Tryz.sizeOf5
 v5:=Tryz.zeroValue5
 t9:=Tryz.underlying9
 a9:=Tryz.isAgg9
 z9:=Tryz.sizeOf9
 v9:=Tryz.zeroValue9 }
theorem Tryz.bits_LeadingZeros8 (x:Int) (w:World) (h0:0≤x) (h1:x≤255):
  Calls Tryz.prog 348 #[.int .u8 x] w fun e w'=>e=.returned (.int .i64 (8-(Lib.bitLen x.toNat:Int)))∧w'=w:=Any.bits_LeadingZeros8 Tryz.lays131 x w h0 h1
def Tryz.lays137_ren:Go.Shelf.Ren:=⟨fun|137=>172|217=>224|266=>259|n=>n,fun|9=>9|5=>5|3=>3|n=>n,fun|n=>n⟩
theorem Tryz.lays137:Go.Proofs.Lays.n137 Tryz.prog Tryz.lays137_ren:= {
 mixed:=by kernel_rfl
 f137:=Tryz.func172.trans (congrArg some (by kernel_rfl))
 f217:=Tryz.func224.trans (congrArg some (by kernel_rfl))
 f266:=Tryz.func259.trans (congrArg some (by kernel_rfl))
 t3:=Tryz.underlying3
 a3:=Tryz.isAgg3
 z3:=Tryz.sizeOf3
 v3:=Tryz.zeroValue3
 t5:=Tryz.underlying5
 a5:=Tryz.isAgg5
 z5:=Tryz.sizeOf5
 v5:=Tryz.zeroValue5
 t9:=Tryz.underlying9
 a9:=Tryz.isAgg9
 z9:=Tryz.sizeOf9
 v9:=Tryz.zeroValue9 }
open Go.RowKit in
theorem Tryz.strings_IndexByte (s:ByteArray) (c:Int) (w:World):
  Calls Tryz.prog 172 #[.string s,.int .u8 c] w fun e w'=>e=.returned (.int .i64 (Lib.indexByte s.data.toList c.toNat.toUInt8))∧w'=w:=Any.strings_IndexByte Tryz.lays137 s c w
def Tryz.lays219_ren:Go.Shelf.Ren:=⟨fun|219=>327|217=>224|225=>342|224=>343|267=>344|266=>259|314=>355|n=>n,fun|9=>9|3=>3|4=>4|5=>5|46=>250|146=>268|51=>220|n=>n,fun|1=>2|n=>n⟩
theorem Tryz.lays219:Go.Proofs.Lays.n219 Tryz.prog Tryz.lays219_ren:= {
 mixed:=by kernel_rfl
 f217:=Tryz.func224.trans (congrArg some (by kernel_rfl))
 f219:=Tryz.func327.trans (congrArg some (by kernel_rfl))
 f224:=Tryz.func343.trans (congrArg some (by kernel_rfl))
 f225:=Tryz.func342.trans (congrArg some (by kernel_rfl))
 f266:=Tryz.func259.trans (congrArg some (by kernel_rfl))
 f267:=Tryz.func344.trans (congrArg some (by kernel_rfl))
 f314:=Tryz.func355.trans (congrArg some (by kernel_rfl))
 t3:=Tryz.underlying3
 a3:=Tryz.isAgg3
 z3:=Tryz.sizeOf3
 v3:=Tryz.zeroValue3
 t4:=Tryz.underlying4
 a4:=Tryz.isAgg4
 z4:=Tryz.sizeOf4
 v4:=Tryz.zeroValue4
 t5:=Tryz.underlying5
 a5:=Tryz.isAgg5
 z5:=Tryz.sizeOf5
 v5:=Tryz.zeroValue5
 t9:=Tryz.underlying9
 a9:=Tryz.isAgg9
 z9:=Tryz.sizeOf9
 v9:=Tryz.zeroValue9
 t46:=Tryz.underlying250
 a46:=Tryz.isAgg250
 z46:=Tryz.sizeOf250
 v46:=Tryz.zeroValue250
 t51:=Tryz.underlying220
 a51:=Tryz.isAgg220
 z51:=Tryz.sizeOf220
 v51:=Tryz.zeroValue220
 t146:=Tryz.underlying268
 a146:=Tryz.isAgg268
 z146:=Tryz.sizeOf268
 v146:=Tryz.zeroValue268
 g1:=by kernel_rfl }
open Go.RowKit Go.Lib in
theorem Tryz.stringslite_Index_one (s:ByteArray) (c:UInt8) (w:World):
  Calls Tryz.prog 327 #[.string s,.string ⟨#[c]⟩] w fun e w'=>e=.returned (.int .i64 (Lib.indexByte s.data.toList c))∧w'=w:=Any.stringslite_Index_one Tryz.lays219 s c w
open Go.RowKit Go.Lib in
theorem Tryz.stringslite_Index (s sub:ByteArray) (m:Int) (w:World) (hs:s.size<4294967281) (hm:w.cell? ⟨2,0,none⟩=some (.int .i64 m)):
  Calls Tryz.prog 327 #[.string s,.string sub] w fun e w'=>e=.returned (.int .i64 (Lib.index s.data.toList sub.data.toList))∧w'=w:=Any.stringslite_Index Tryz.lays219 s sub m w hs hm
def Tryz.lays99_ren:Go.Shelf.Ren:=⟨fun|99=>156|206=>206|n=>n,fun|9=>9|4=>4|3=>3|n=>n,fun|n=>n⟩
theorem Tryz.lays99:Go.Proofs.Lays.n99 Tryz.prog Tryz.lays99_ren:= {
 mixed:=by kernel_rfl
 f99:=Tryz.func156.trans (congrArg some (by kernel_rfl))
 f206:=Tryz.func206.trans (congrArg some (by kernel_rfl))
 t3:=Tryz.underlying3
 a3:=Tryz.isAgg3
 z3:=Tryz.sizeOf3
 v3:=Tryz.zeroValue3
 t4:=Tryz.underlying4
 a4:=Tryz.isAgg4
 z4:=Tryz.sizeOf4
 v4:=Tryz.zeroValue4
 t9:=Tryz.underlying9
 a9:=Tryz.isAgg9
 z9:=Tryz.sizeOf9
 v9:=Tryz.zeroValue9 }
open Go.RowKit Go.Lib in
theorem Tryz.strings_HasPrefix (s p:ByteArray) (w:World):
  Calls Tryz.prog 156 #[.string s,.string p] w fun e w'=>e=.returned (.bool (Lib.hasPrefix s.data.toList p.data.toList))∧w'=w:=Any.strings_HasPrefix Tryz.lays99 s p w
def Tryz.lays146_ren:Go.Shelf.Ren:=⟨fun|146=>246|221=>280|268=>303|138=>304|143=>305|195=>324|197=>325|218=>326|219=>327|260=>341|217=>224|225=>342|224=>343|267=>344|266=>259|314=>355|n=>n,fun|9=>9|31=>84|3=>3|4=>4|0=>0|105=>280|21=>21|5=>5|46=>250|119=>176|139=>303|138=>302|146=>268|51=>220|n=>n,fun|1=>2|3=>3|4=>4|n=>n⟩
theorem Tryz.lays146:Go.Proofs.Lays.n146 Tryz.prog Tryz.lays146_ren:= {
 mixed:=by kernel_rfl
 f138:=Tryz.func304.trans (congrArg some (by kernel_rfl))
 f143:=Tryz.func305.trans (congrArg some (by kernel_rfl))
 f146:=Tryz.func246.trans (congrArg some (by kernel_rfl))
 f195:=Tryz.func324.trans (congrArg some (by kernel_rfl))
 f197:=Tryz.func325.trans (congrArg some (by kernel_rfl))
 f217:=Tryz.func224.trans (congrArg some (by kernel_rfl))
 f218:=Tryz.func326.trans (congrArg some (by kernel_rfl))
 f219:=Tryz.func327.trans (congrArg some (by kernel_rfl))
 f221:=Tryz.func280.trans (congrArg some (by kernel_rfl))
 f224:=Tryz.func343.trans (congrArg some (by kernel_rfl))
 f225:=Tryz.func342.trans (congrArg some (by kernel_rfl))
 f260:=Tryz.func341.trans (congrArg some (by kernel_rfl))
 f266:=Tryz.func259.trans (congrArg some (by kernel_rfl))
 f267:=Tryz.func344.trans (congrArg some (by kernel_rfl))
 f268:=Tryz.func303.trans (congrArg some (by kernel_rfl))
 f314:=Tryz.func355.trans (congrArg some (by kernel_rfl))
 t0:=Tryz.underlying0
 a0:=Tryz.isAgg0
 z0:=Tryz.sizeOf0
 v0:=Tryz.zeroValue0
 t3:=Tryz.underlying3
 a3:=Tryz.isAgg3
 z3:=Tryz.sizeOf3
 v3:=Tryz.zeroValue3
 t4:=Tryz.underlying4
 a4:=Tryz.isAgg4
 z4:=Tryz.sizeOf4
 v4:=Tryz.zeroValue4
 t5:=Tryz.underlying5
 a5:=Tryz.isAgg5
 z5:=Tryz.sizeOf5
 v5:=Tryz.zeroValue5
 t9:=Tryz.underlying9
 a9:=Tryz.isAgg9
 z9:=Tryz.sizeOf9
 v9:=Tryz.zeroValue9
 t21:=Tryz.underlying21
 a21:=Tryz.isAgg21
 z21:=Tryz.sizeOf21
 v21:=Tryz.zeroValue21
 t31:=Tryz.underlying84
 a31:=Tryz.isAgg84
 z31:=Tryz.sizeOf84
 v31:=Tryz.zeroValue84
 t46:=Tryz.underlying250
 a46:=Tryz.isAgg250
 z46:=Tryz.sizeOf250
 v46:=Tryz.zeroValue250
 t51:=Tryz.underlying220
 a51:=Tryz.isAgg220
 z51:=Tryz.sizeOf220
 v51:=Tryz.zeroValue220
 t105:=Tryz.underlying280
 a105:=Tryz.isAgg280
 z105:=Tryz.sizeOf280
 v105:=Tryz.zeroValue280
 t119:=Tryz.underlying176
 a119:=Tryz.isAgg176
 z119:=Tryz.sizeOf176
 t138:=Tryz.underlying302
 a138:=Tryz.isAgg302
 z138:=Tryz.sizeOf302
 v138:=Tryz.zeroValue302
 t139:=Tryz.underlying303
 a139:=Tryz.isAgg303
 z139:=Tryz.sizeOf303
 v139:=Tryz.zeroValue303
 t146:=Tryz.underlying268
 a146:=Tryz.isAgg268
 z146:=Tryz.sizeOf268
 v146:=Tryz.zeroValue268
 g1:=by kernel_rfl
 g3:=by kernel_rfl
 g4:=by kernel_rfl }
open Go.RowKit Go.Lib in
theorem Tryz.strings_Split (s sep:ByteArray) (m:Int) (w:World) (hs:s.size<4294967281) (hm:w.cell? ⟨2,0,none⟩=some (.int .i64 m)) (h1:1≤sep.size):
  Calls Tryz.prog 246 #[.string s,.string sep] w fun e w'=>
   e=.returned (.slice (some ⟨w.heap.size,0,none⟩) (Lib.countB s sep+1) (Lib.countB s sep+1))∧w'=w.alloc (.cells ((Lib.splitB sep 0 (Lib.countB s sep) s).map Value.string).toArray 9):=Any.strings_Split Tryz.lays146 (by kernel_rfl) s sep m w hs hm h1
def Tryz.lays157_ren:Go.Shelf.Ren:=⟨fun|157=>149|229=>191|199=>192|261=>239|311=>274|312=>275|n=>n,fun|9=>9|31=>84|3=>3|5=>5|4=>4|119=>176|0=>0|40=>178|152=>217|21=>21|154=>219|51=>220|141=>222|196=>239|193=>236|198=>242|49=>240|194=>237|201=>245|226=>263|46=>250|227=>264|n=>n,fun|0=>0|6=>1|n=>n⟩
theorem Tryz.lays157:Go.Proofs.Lays.n157 Tryz.prog Tryz.lays157_ren:= {
 mixed:=by kernel_rfl
 f157:=Tryz.func149.trans (congrArg some (by kernel_rfl))
 f199:=Tryz.func192.trans (congrArg some (by kernel_rfl))
 f229:=Tryz.func191.trans (congrArg some (by kernel_rfl))
 f261:=Tryz.func239.trans (congrArg some (by kernel_rfl))
 f311:=Tryz.func274.trans (congrArg some (by kernel_rfl))
 f312:=Tryz.func275.trans (congrArg some (by kernel_rfl))
 t0:=Tryz.underlying0
 a0:=Tryz.isAgg0
 z0:=Tryz.sizeOf0
 v0:=Tryz.zeroValue0
 t3:=Tryz.underlying3
 a3:=Tryz.isAgg3
 z3:=Tryz.sizeOf3
 v3:=Tryz.zeroValue3
 t4:=Tryz.underlying4
 a4:=Tryz.isAgg4
 z4:=Tryz.sizeOf4
 v4:=Tryz.zeroValue4
 t5:=Tryz.underlying5
 a5:=Tryz.isAgg5
 z5:=Tryz.sizeOf5
 v5:=Tryz.zeroValue5
 t9:=Tryz.underlying9
 a9:=Tryz.isAgg9
 z9:=Tryz.sizeOf9
 v9:=Tryz.zeroValue9
 t21:=Tryz.underlying21
 a21:=Tryz.isAgg21
 z21:=Tryz.sizeOf21
 v21:=Tryz.zeroValue21
 t31:=Tryz.underlying84
 a31:=Tryz.isAgg84
 z31:=Tryz.sizeOf84
 v31:=Tryz.zeroValue84
 t40:=Tryz.underlying178
 a40:=Tryz.isAgg178
 z40:=Tryz.sizeOf178
 v40:=Tryz.zeroValue178
 t46:=Tryz.underlying250
 a46:=Tryz.isAgg250
 z46:=Tryz.sizeOf250
 v46:=Tryz.zeroValue250
 t49:=Tryz.underlying240
 a49:=Tryz.isAgg240
 z49:=Tryz.sizeOf240
 v49:=Tryz.zeroValue240
 t51:=Tryz.underlying220
 a51:=Tryz.isAgg220
 z51:=Tryz.sizeOf220
 v51:=Tryz.zeroValue220
 t119:=Tryz.underlying176
 a119:=Tryz.isAgg176
 z119:=Tryz.sizeOf176
 t141:=Tryz.underlying222
 a141:=Tryz.isAgg222
 z141:=Tryz.sizeOf222
 v141:=Tryz.zeroValue222
 t152:=Tryz.underlying217
 a152:=Tryz.isAgg217
 z152:=Tryz.sizeOf217
 v152:=Tryz.zeroValue217
 t154:=Tryz.underlying219
 a154:=Tryz.isAgg219
 z154:=Tryz.sizeOf219
 v154:=Tryz.zeroValue219
 t193:=Tryz.underlying236
 a193:=Tryz.isAgg236
 z193:=Tryz.sizeOf236
 v193:=Tryz.zeroValue236
 t194:=Tryz.underlying237
 a194:=Tryz.isAgg237
 z194:=Tryz.sizeOf237
 v194:=Tryz.zeroValue237
 t196:=Tryz.underlying239
 a196:=Tryz.isAgg239
 z196:=Tryz.sizeOf239
 v196:=Tryz.zeroValue239
 t198:=Tryz.underlying242
 a198:=Tryz.isAgg242
 z198:=Tryz.sizeOf242
 v198:=Tryz.zeroValue242
 t201:=Tryz.underlying245
 a201:=Tryz.isAgg245
 z201:=Tryz.sizeOf245
 v201:=Tryz.zeroValue245
 t226:=Tryz.underlying263
 a226:=Tryz.isAgg263
 z226:=Tryz.sizeOf263
 v226:=Tryz.zeroValue263
 t227:=Tryz.underlying264
 a227:=Tryz.isAgg264
 z227:=Tryz.sizeOf264
 v227:=Tryz.zeroValue264
 g0:=by kernel_rfl
 g6:=by kernel_rfl }
open Go.RowKit Go.Lib in
theorem Tryz.strings_Fields (s:ByteArray) (w:World) (hs:s.size<4294967281) (hascii: ∀(j:Nat) b,s.data.toList[j]?=some b→b.toNat<128) (htab:Lib.TabIs Tryz.prog w "strings.asciiSpace" .u8 Lib.asciiSpaceTab):
  Calls Tryz.prog 149 #[.string s] w fun e w'=>
   e=.returned (.slice (some ⟨w.heap.size,0,none⟩) (Lib.fields s.data.toList).length (Lib.fields s.data.toList).length)∧w'=w.alloc (.cells ((Lib.fields s.data.toList).map fun l=>Value.string ⟨l.toArray⟩).toArray 9):=Any.strings_Fields Tryz.lays157 (by kernel_rfl) (by kernel_rfl) s w hs hascii htab
def Tryz.lays105_ren:Go.Shelf.Ren:=⟨fun|105=>249|212=>282|99=>156|165=>283|166=>232|170=>284|169=>236|263=>306|264=>307|206=>206|240=>269|241=>308|276=>299|277=>328|n=>n,fun|9=>9|3=>3|4=>4|20=>20|0=>0|46=>250|109=>251|5=>5|72=>207|76=>210|51=>220|146=>268|53=>270|148=>271|70=>205|37=>106|75=>209|127=>235|164=>260|80=>64|n=>n,fun|n=>n⟩
theorem Tryz.lays105:Go.Proofs.Lays.n105 Tryz.prog Tryz.lays105_ren:= {
 mixed:=by kernel_rfl
 f99:=Tryz.func156.trans (congrArg some (by kernel_rfl))
 f105:=Tryz.func249.trans (congrArg some (by kernel_rfl))
 f165:=Tryz.func283.trans (congrArg some (by kernel_rfl))
 f166:=Tryz.func232.trans (congrArg some (by kernel_rfl))
 f169:=Tryz.func236.trans (congrArg some (by kernel_rfl))
 f170:=Tryz.func284.trans (congrArg some (by kernel_rfl))
 f206:=Tryz.func206.trans (congrArg some (by kernel_rfl))
 f212:=Tryz.func282.trans (congrArg some (by kernel_rfl))
 f240:=Tryz.func269.trans (congrArg some (by kernel_rfl))
 f241:=Tryz.func308.trans (congrArg some (by kernel_rfl))
 f263:=Tryz.func306.trans (congrArg some (by kernel_rfl))
 f264:=Tryz.func307.trans (congrArg some (by kernel_rfl))
 f276:=Tryz.func299.trans (congrArg some (by kernel_rfl))
 f277:=Tryz.func328.trans (congrArg some (by kernel_rfl))
 t0:=Tryz.underlying0
 a0:=Tryz.isAgg0
 z0:=Tryz.sizeOf0
 v0:=Tryz.zeroValue0
 t3:=Tryz.underlying3
 a3:=Tryz.isAgg3
 z3:=Tryz.sizeOf3
 v3:=Tryz.zeroValue3
 t4:=Tryz.underlying4
 a4:=Tryz.isAgg4
 z4:=Tryz.sizeOf4
 v4:=Tryz.zeroValue4
 t5:=Tryz.underlying5
 a5:=Tryz.isAgg5
 z5:=Tryz.sizeOf5
 v5:=Tryz.zeroValue5
 t9:=Tryz.underlying9
 a9:=Tryz.isAgg9
 z9:=Tryz.sizeOf9
 v9:=Tryz.zeroValue9
 t20:=Tryz.underlying20
 a20:=Tryz.isAgg20
 z20:=Tryz.sizeOf20
 v20:=Tryz.zeroValue20
 t37:=Tryz.underlying106
 a37:=Tryz.isAgg106
 z37:=Tryz.sizeOf106
 v37:=Tryz.zeroValue106
 t46:=Tryz.underlying250
 a46:=Tryz.isAgg250
 z46:=Tryz.sizeOf250
 v46:=Tryz.zeroValue250
 t51:=Tryz.underlying220
 a51:=Tryz.isAgg220
 z51:=Tryz.sizeOf220
 v51:=Tryz.zeroValue220
 t53:=Tryz.underlying270
 a53:=Tryz.isAgg270
 z53:=Tryz.sizeOf270
 v53:=Tryz.zeroValue270
 t70:=Tryz.underlying205
 a70:=Tryz.isAgg205
 z70:=Tryz.sizeOf205
 v70:=Tryz.zeroValue205
 t72:=Tryz.underlying207
 a72:=Tryz.isAgg207
 z72:=Tryz.sizeOf207
 v72:=Tryz.zeroValue207
 t75:=Tryz.underlying209
 a75:=Tryz.isAgg209
 z75:=Tryz.sizeOf209
 v75:=Tryz.zeroValue209
 t76:=Tryz.underlying210
 a76:=Tryz.isAgg210
 z76:=Tryz.sizeOf210
 v76:=Tryz.zeroValue210
 t109:=Tryz.underlying251
 a109:=Tryz.isAgg251
 z109:=Tryz.sizeOf251
 v109:=Tryz.zeroValue251
 t127:=Tryz.underlying235
 a127:=Tryz.isAgg235
 z127:=Tryz.sizeOf235
 v127:=Tryz.zeroValue235
 t146:=Tryz.underlying268
 a146:=Tryz.isAgg268
 z146:=Tryz.sizeOf268
 v146:=Tryz.zeroValue268
 t148:=Tryz.underlying271
 a148:=Tryz.isAgg271
 z148:=Tryz.sizeOf271
 v148:=Tryz.zeroValue271
 t164:=Tryz.underlying260
 a164:=Tryz.isAgg260
 z164:=Tryz.sizeOf260
 v164:=Tryz.zeroValue260 }
theorem Tryz.Builder_Extra_105:Builder.Extra Tryz.prog Tryz.lays105_ren:= {
 sizeBuilder:=by kernel_rfl
 liesBuilder:=by kernel_rfl
 t5:=Tryz.underlying5
 a5:=Tryz.isAgg5
 z5:=Tryz.sizeOf5
 v5:=Tryz.zeroValue5
 infoByte:=by kernel_rfl
 cellsByte:=by kernel_rfl
 sizeByte:=by kernel_rfl
 neB5:=by decide }
open Go.RowKit Go.Lib in
theorem Tryz.strings_Repeat (s:ByteArray) (c:Nat) (w:World) (hc:c≤9223372036854775807) (hlen:s.size*c≤140737488355328):
  Calls Tryz.prog 249 #[.string s,.int .i64 c] w fun e w'=>e=.returned (.string ⟨(Lib.repeatL s.data.toList c).toArray⟩)∧Below w.heap.size w w':=Any.strings_Repeat Tryz.lays105 Tryz.Builder_Extra_105 s c w hc hlen
end Go.Proofs
set_option maxRecDepth 1000000
namespace Tg.Lo
def low (b:UInt8):UInt8:=if(65:Int)≤b.toNat∧(b.toNat:Int)≤90 then b+32 else b
def lower (s:List UInt8):List UInt8:=s.map low
end Tg.Lo
namespace Go.Proofs.YtcgiaiimbnoknaaGreatDoor
open Go.RowKit Go.Lib Go.Tg
theorem low_w (b:UInt8) (w:World):Calls Tryz.prog 238 #[.int .u8 b.toNat] w fun e w'=>e=.returned (.int .u8 (Tg.Lo.low b).toNat)∧w'=w:=by
 have hlt:=b.toNat_lt
 have e1:(65:Int)≤b.toNat∧(b.toNat:Int)≤90→(b+32).toNat=b.toNat+32:=fun h=>by rw [UInt8.toNat_add];show(b.toNat+32)%256=_;omega
 by_cases h1:(65:Int)≤b.toNat
 ·by_cases h2:(b.toNat:Int)≤90
  ·have e:=e1 ⟨h1,h2⟩
   have hl:(Tg.Lo.low b).toNat=b.toNat+32:=by unfold Tg.Lo.low;rw [if_pos ⟨h1,h2⟩,e]
   rw [hl]
   go_enter Tryz.func238,Tryz.ntmps238
   go_wp2
   go_ret
   exact⟨by rw [show((b.toNat+32:Nat):Int)=(b.toNat:Int)+32 by omega];rfl,rfl⟩
  ·have hl:(Tg.Lo.low b).toNat=b.toNat:=by unfold Tg.Lo.low;rw [if_neg (fun h=>h2 h.2)]
   rw [hl]
   go_enter Tryz.func238,Tryz.ntmps238
   go_wp2
   go_ret
   exact⟨rfl,rfl⟩
 ·have hl:(Tg.Lo.low b).toNat=b.toNat:=by unfold Tg.Lo.low;rw [if_neg (fun h=>h1 h.1)]
  rw [hl]
  go_enter Tryz.func238,Tryz.ntmps238
  go_wp2
  go_ret
  exact⟨rfl,rfl⟩
def LowAt (k:Nat) (s:List UInt8) (i:Nat) (w w':World):Prop:=
 ∃arr f,w'.heap[k]?=some (.cells arr 5 (f,f+1))∧arr.size=f∧s.length≤f∧(∀(j:Nat) b,s[j]?=some b→arr[j]?=some (.int .u8 (if j<i then(Tg.Lo.low b).toNat else b.toNat:Nat)))∧Change (fun _=>False) w w'
set_option maxHeartbeats 4000000 in
theorem lower_w (s:ByteArray) (w:World) (hs:s.size≤maxLen):Calls Tryz.prog 317 #[.string s] w fun e w'=>e=.returned (.string ⟨(Tg.Lo.lower s.data.toList).toArray⟩)∧Change (fun _=>False) w w':=by
 have t3:=Tryz.underlying3
 have t4:=Tryz.underlying4
 have t5:=Tryz.underlying5
 have t9:=Tryz.underlying9
 have t81:=Tryz.underlying106
 have hcv:=Lib.run_convert_string_bytes w 9 106 5 s t9 t81 t5
 go_enter Tryz.func317,Tryz.ntmps317
 go_wp2
 go_loopg [9,4] s.size (fun g p _ wr=> ∃i:Nat,i+g=s.size∧p=.int .i64 i∧LowAt w.heap.size s.data.toList i w wr)
 case atStart=>
  refine⟨0,by omega,rfl,Lib.bytesCells w 5 s,(Lib.bytesCells w 5 s).size,Lib.bytesWorld_at_new w 5 s,rfl,?_,?_,?_⟩
  ·simp [Lib.bytesCells,←Lib.size_eq]
  ·intro j b hb
   have hj:j<s.size:=by have:=(List.getElem?_eq_some_iff.1 hb).1;rw [Lib.size_eq];exact this
   unfold Lib.bytesCells
   rw [Array.getElem?_append_left (by simpa using hj),Array.getElem?_map,←Array.getElem?_toList,hb]
   simp
  ·refine⟨?_,?_,?_,by rw [Lib.bytesWorld_size];omega,fun k hk _=>Lib.bytesWorld_at_old w 5 s k hk⟩<;>(unfold Lib.bytesWorld World.freeze;split<;>rfl)
 case round=>
  obtain⟨i,hig,rfl,hlow⟩:=hrel
  have HL:Aside (LowAt w.heap.size s.data.toList i w wr):=hlow
  cases gk with
  |zero=>
   obtain rfl:i=s.size:=by omega
   obtain⟨arr,f,h1,h2,h3,h4,h5⟩:=hlow
   have hlen:(Tg.Lo.lower s.data.toList).length=s.size:=by rw [Lib.size_eq];simp [Tg.Lo.lower]
   have hcs:=run_convert_bytes_back (P:=Tryz.prog) wr 106 9 5 ⟨w.heap.size,0,none⟩ (grownCap w s.size 0 5) (Tg.Lo.lower s.data.toList) t81 t5 t9 (fun j hj=>by
    have hj2:j<s.data.toList.length:=by rw [Lib.size_eq]at hlen;omega
    have:=h4 j _ (List.getElem?_eq_getElem hj2)
    rw [if_pos (by rw [Lib.size_eq];exact hj2)]at this
    have e:((⟨w.heap.size,0,none⟩:Addr).add j)=⟨w.heap.size,j,none⟩:=by
     unfold Addr.add;split
     ·rename_i hz;subst hz;rfl
     ·simp
    rw [e]
    simp only [World.cell?,h1]
    rw [show(if(none:Option Nat).isSome=true then none else arr[j]?)=arr[j]? from rfl,this]
    simp [Tg.Lo.lower])
   rw [hlen]at hcs
   have HC:Aside (Change (fun _=>False) w wr):=h5
   clear h1 h2 h3 h4 h5 HL
   go_wp2
   go_ret
   exact⟨rfl,HC.out⟩
  |succ g=>
   have hi:i<s.size:=by omega
   obtain⟨x,hx⟩: ∃x:UInt8,s[i]'hi=x:=⟨_,rfl⟩
   have hxl:s.data.toList[i]?=some x:=by rw [←hx];exact Lib.data_getElem? s i hi
   obtain⟨arr,f,h1,h2,h3,h4,h5⟩:=hlow
   have hc:=h4 i x hxl
   rw [if_neg (Nat.lt_irrefl i)]at hc
   have hcell:wr.cell? ⟨w.heap.size,i,none⟩=some (.int .u8 x.toNat):=by simp [World.cell?,h1,hc]
   have hfz:wr.frozen? ⟨w.heap.size,i,none⟩=false:=by
    have:i<f:=by rw [Lib.size_eq]at hi;omega
    simp [World.frozen?,h1];omega
   have HL2:Aside (LowAt w.heap.size s.data.toList (i+1) w (wr.setCell ⟨w.heap.size,i,none⟩ (.int .u8 (Tg.Lo.low x).toNat))):=by
    refine⟨arr.setIfInBounds i (.int .u8 (Tg.Lo.low x).toNat),f,by simp [World.setCell,Array.getElem?_modify,h1],by simp [h2],h3,fun j b hb=>?_,?_⟩
    ·by_cases hji:j=i
     ·subst hji
      rw [hxl]at hb
      injection hb with hb
      subst hb
      rw [Array.getElem?_setIfInBounds_self_of_lt (by rw [Lib.size_eq]at hi;omega),if_pos (Nat.lt_succ_self _)]
     ·rw [Array.getElem?_setIfInBounds_ne (fun e=>hji e.symm),h4 j b hb]
      by_cases hj:j<i
      ·rw [if_pos hj,if_pos (by omega)]
      ·rw [if_neg hj,if_neg (by omega)]
    ·refine⟨h5.os,h5.tape,h5.output,by simp [World.setCell];exact h5.size,fun k hk hn=>?_⟩
     rw [←h5.block k hk hn]
     simp only [World.setCell,Array.getElem?_modify]
     rw [if_neg (by omega)]
   have hw1:wrap64 ((i:Int)+1)=((i+1:Nat):Int):=by
    rw [IntWalk.wrap64_in _ ⟨by omega,by unfold maxLen at hs;omega⟩];omega
   clear h1 h2 h3 h4 h5 hc hxl hx
   go_wp2_with (go_at_call 238;refine(low_w x _).mono ?_;rintro e w' ⟨rfl,hw⟩;rw [hw])
   go_roundg g
   case measure=>omega
   case rel=>exact⟨i+1,by omega,by rw [hw1],HL2.out⟩
end Go.Proofs.YtcgiaiimbnoknaaGreatDoor
namespace Go.Proofs.YtcgiaiimbnoknaaGreatDoor
open Go.RowKit Go.Lib Go.Tg Go.Shelf
theorem change_freeze {w:World} {g n:Nat} :Change (fun k=>k=g) w (w.freeze ⟨g,0,none⟩ n):=by
 unfold World.freeze
 split
 ·exact Change.refl _ w
 ·refine⟨rfl,rfl,rfl,by simp,fun k hk hn=>?_⟩
  simp only [Array.getElem?_modify]
  rw [if_neg (fun e=>hn e.symm)]
theorem change_drew {S:Nat→Prop} {w:World} :Change S w w.drew:=⟨rfl,rfl,rfl,Nat.le_refl _,fun _ _ _=>rfl⟩
set_option maxHeartbeats 2000000 in
theorem bld_string (b g cap:Nat) (l:List UInt8) (cur:Array Value) (w:World) (h0:l≠ []) (hbk:w.cell? ⟨b,1,none⟩=some (.slice (some ⟨g,0,none⟩) l.length cap))
  (hg:w.heap[g]?=some (.cells cur 5 (0,0))) (hcap:l.length≤cap) (hcs:l.length≤cur.size) (hcm:l.length≤maxLen) (hcell: ∀(j:Nat) x,l[j]?=some x→cur[j]?=some (.int .u8 x.toNat)):
  Calls Tryz.prog 236 #[.pointer (some ⟨b,0,none⟩)] w fun e w'=>e=.returned (.string ⟨l.toArray⟩)∧Change (fun k=>k=g) w w':=by
 have hl0:l.length≠0:=by simpa using h0
 have c1:w.drew.cell? ⟨b,1,none⟩=some (.slice (some ⟨g,0,none⟩) l.length cap):=hbk
 have hSD:(Builtin.unsafeSliceData_ #[106] 235 #[.slice (some ⟨g,0,none⟩) l.length cap]).run Tryz.prog w.drew=.ok (.pointer (some ⟨g,0,none⟩)) w.drew:=
  Lib.run_unsafeSliceData_row _ _ _ _ _ _ (by omega)
 have hUS:(Builtin.unsafeString_ #[235,3] 9 #[.pointer (some ⟨g,0,none⟩),.int .i64 l.length]).run Tryz.prog w.drew=.ok (.string ⟨l.toArray⟩) (w.drew.freeze ⟨g,0,none⟩ l.length):=by
  refine Lib.run_unsafeString_row w.drew 235 3 9 5 Tryz.underlying235 (by kernel_rfl) g cur.size (by have hg':w.drew.heap[g]?=some (.cells cur 5 (0,0)):=hg;simp [World.shape?,hg']) l h0 (by omega) (by unfold maxLen at hcm;omega) ?_
  intro j x hx
  have hg':w.drew.heap[g]?=some (.cells cur 5 (0,0)):=hg
  have e:((⟨g,0,none⟩:Addr).add j)=⟨g,j,none⟩:=by
   unfold Addr.add;split
   ·rename_i hz;subst hz;rfl
   ·simp
  rw [e,Lib.cell_of_heap hg'];exact hcell j x hx
 have hmix:Tryz.prog.follows .mixedOrders=true:=by kernel_rfl
 go_enter Tryz.func236,Tryz.ntmps236
 go_wp2
 go_region_o
 all_goals (go_wp2;go_ret;exact⟨rfl,change_drew.trans change_freeze (fun _ h=>.inl h)⟩)
set_option maxHeartbeats 2000000 in
theorem bld_string_nil (b:Nat) (w:World) (hbk:w.cell? ⟨b,1,none⟩=some (.slice none 0 0)):
  Calls Tryz.prog 236 #[.pointer (some ⟨b,0,none⟩)] w fun e w'=>e=.returned (.string ⟨#[]⟩)∧Change (fun _=>False) w w':=by
 have c1:w.drew.cell? ⟨b,1,none⟩=some (.slice none 0 0):=hbk
 have hSD:(Builtin.unsafeSliceData_ #[106] 235 #[.slice none 0 0]).run Tryz.prog w.drew=.ok (.pointer none) w.drew:=Lib.run_unsafeSliceData_nil _ _ _ _ _
 have hUS:(Builtin.unsafeString_ #[235,3] 9 #[.pointer none,.int .i64 0]).run Tryz.prog w.drew=.ok (.string .empty) w.drew:=Lib.run_unsafeString_none _ _ _ _ _
 have hmix:Tryz.prog.follows .mixedOrders=true:=by kernel_rfl
 go_enter Tryz.func236,Tryz.ntmps236
 go_wp2
 go_region_o
 all_goals (go_wp2;go_ret;exact⟨rfl,change_drew⟩)
theorem bld_lies (k:Nat):liesAt Tryz.prog Tryz.prog.depth 207 ((2+k*2)/Tryz.prog.cellsOf 207) 0 207 1=true:=by
 have h1:Tryz.prog.cellsOf 207=2:=by kernel_rfl
 have h2:sameLayout Tryz.prog Tryz.prog.depth 207 207=true:=by kernel_rfl
 obtain⟨d,hd⟩: ∃d,Tryz.prog.depth=d+1:=⟨Tryz.prog.depth-1,by have:Tryz.prog.depth≠0:=of_decide_eq_true (by kernel_rfl);omega⟩
 rw [hd]at h2⊢
 have e:(2+k*2)/Tryz.prog.cellsOf 207=k+1:=by rw [h1];omega
 rw [e]
 unfold liesAt
 rw [hd]
 unfold rowAt
 simp only [h1,h2]
 simp
theorem bld_used (b:Nat) (w:World) (h0:w.cell? ⟨b,0,none⟩=some (.pointer (some ⟨b,0,none⟩))):
  Calls Tryz.prog 269 #[.pointer (some ⟨b,0,none⟩)] w fun e w'=>e=.returned (.tuple #[])∧w'=w:=by
 obtain⟨j,hj,_⟩: ∃j,Tryz.prog.info? 207=some j∧j.size=2:=Option.map_eq_some_iff.1 (show(Tryz.prog.info? 207).map (·.size)=some 2 by kernel_rfl)
 go_enter Tryz.func269,Tryz.ntmps269
 go_wp2
 rw [Lib.run_neq_ptr_same w _ Tryz.underlying205 hj]
 go_wp2
 go_end0
 exact⟨rfl,rfl⟩
theorem bld_fresh (b k:Nat) (w:World) (h0:w.cell? ⟨b,0,none⟩=some (.pointer none)) (hsh:w.shape? b=some (207,2+k*2)) (hfz:w.frozen? ⟨b,0,none⟩=false):
  Calls Tryz.prog 269 #[.pointer (some ⟨b,0,none⟩)] w fun e w'=>e=.returned (.tuple #[])∧w'=w.setCell ⟨b,0,none⟩ (.pointer (some ⟨b,0,none⟩)):=by
 obtain⟨j,hj,hjs⟩: ∃j,Tryz.prog.info? 207=some j∧j.size=2:=Option.map_eq_some_iff.1 (show(Tryz.prog.info? 207).map (·.size)=some 2 by kernel_rfl)
 go_enter Tryz.func269,Tryz.ntmps269
 go_wp2
 rw [Lib.run_to_unsafe w ⟨b,0,none⟩ Tryz.underlying205 Tryz.underlying260 hj (by rw [hjs];decide) hsh (show 0<2+k*2 by omega)]
 simp only [Result.andThen]
 rw [Oper.upon_value]
 go_wp2
 rw [run_callFunc_extern Tryz.func299 (by kernel_rfl) (by kernel_rfl) (by kernel_rfl) (e:=Extern.AbiNoEscape.same) (by kernel_rfl)]
 rw [Lib.run_noEscape]
 simp only [Result.andThen]
 rw [Oper.upon_value]
 go_wp2
 rw [Lib.run_from_unsafe w ⟨b,0,none⟩ Tryz.underlying260 Tryz.underlying205 hj hsh (bld_lies k)]
 simp only [Result.andThen]
 rw [Oper.upon_value]
 go_wp2
 go_end0
 exact⟨rfl,rfl⟩
end Go.Proofs.YtcgiaiimbnoknaaGreatDoor
namespace Tg.Un
def bs (s:String):List UInt8:=s.toUTF8.data.toList
def num4:List UInt8→Nat
 |a::b::c::d::_=>((a.toNat*256+b.toNat)*256+c.toNat)*256+d.toNat
 |_=>0
def ftyp:List UInt8:= [102,116,121,112]
def mp4h (s:List UInt8):Bool:=decide (12≤s.length)&&(decide (num4 s≤s.length)&&(decide (num4 s%4=0)&&((s.drop 4).take 4==ftyp)))
def brands (s:List UInt8):List (List UInt8):=(s.drop 8).take 4::(List.range ((num4 s-16)/4)).map fun i=>(s.drop (16+4*i)).take 4
def mp4 (s:List UInt8):Bool:=mp4h s&&(brands s).any fun b=>b.take 3== [109,112,52]
def width (b:UInt8):Nat:=
 if 128≤b.toNat then 1 else if 64≤b.toNat then 2 else if 32≤b.toNat then 3 else if 16≤b.toNat then 4 else if 8≤b.toNat then 5 else if 4≤b.toNat then 6 else if 2≤b.toNat then 7 else 8
def pre:List UInt8→List UInt8→Bool
 |_,[]=>true
 |c::s,d::p=>c==d&&pre s p
 | [],_::_=>false
def webmS:List UInt8:= [119,101,98,109]
def padded:List UInt8→Bool
 | []=>false
 |c::s=>if c=0 then padded s else pre (c::s) webmS
def mark:List UInt8:= [26,69,223,163]
def webmAt (s:List UInt8):Nat→Nat→Bool
 |0,_=>false
 |n+1,at_=>
  if s.length≤at_∨38≤at_ then false
  else if pre (s.drop at_) [66,130]=true then
   if s.length≤at_+2 then false
   else if s.length≤at_+2+width (s.getD (at_+2) 0)+4 then false
   else if padded (s.drop (at_+2+width (s.getD (at_+2) 0)))=true then true
   else webmAt s n (at_+2+width (s.getD (at_+2) 0)+1)
  else webmAt s n (at_+1)
def webm (s:List UInt8):Bool:=pre s mark&&webmAt s 38 4
def rateO:List Nat:= [0,32,40,48,56,64,80,96,112,128,160,192,224,256,320]
def rateE:List Nat:= [0,8,16,24,32,40,48,56,64,80,96,112,128,144,160]
def freqs:List Nat:= [44100,48000,32000]
structure Frm where
 v:Nat
 r:Nat
 f:Nat
 p:Bool
def head3:List UInt8→Option Frm
 |a::b::c::_::_=>
  if a.toNat=255∧224≤b.toNat∧b.toNat/2%4=1∧c.toNat/16<15∧c.toNat/4%4<3 then
   some ⟨b.toNat/8%4,1000*(if b.toNat/8%2=1 then rateO else rateE).getD (c.toNat/16) 0,freqs.getD (c.toNat/4%4) 0,c.toNat/2%2==1⟩
  else none
 |_=>none
def flen (f:Frm):Nat:=f.r*(if f.v%2=1 then 144 else 72)/f.f+(if f.p then 1 else 0)
def mp3 (s:List UInt8):Bool:=
 match head3 s with
 |some f=>decide (4≤flen f)&&(decide (flen f≤s.length)&&(head3 (s.drop (flen f))).isSome)
 |none=>false
def odd (b:UInt8):Bool:=decide (b.toNat≤8)||(b.toNat==11||((decide (14≤b.toNat)&&decide (b.toNat≤26))||(decide (28≤b.toNat)&&decide (b.toNat≤31))))
def seek:List UInt8→Nat→Int
 | [],_=> -1
 |b::s,i=>if odd b=true then i else seek s (i+1)
def htmlT:List UInt8:= [116,101,120,116,47,104,116,109,108]
def xmlT:List UInt8:= [116,101,120,116,47,120,109,108]
def pdfT:List UInt8:= [97,112,112,108,105,99,97,116,105,111,110,47,112,100,102]
def plainT:List UInt8:= [116,101,120,116,47,112,108,97,105,110]
def streamT:List UInt8:= [97,112,112,108,105,99,97,116,105,111,110,47,111,99,116,101,116,45,115,116,114,101,97,109]
def tagsL:List (List UInt8):= [[33,68,79,67,84,89,80,69,32,72,84,77,76],[72,84,77,76],[72,69,65,68],[83,67,82,73,80,84],[73,70,82,65,77,69],[72,49],[68,73,86],[70,79,78,84],[84,65,66,76,69],[65],[83,84,89,76,69],[84,73,84,76,69],[66],[66,79,68,89],[66,82],[80]]
def ends:List UInt8→Bool
 | []=>false
 |c::_=>decide (c.toNat=32)||decide (c.toNat=62)
def tagged (s t:List UInt8):Bool:=hits (tag (60::t) htmlT) s&&ends (s.drop (begins white s+(t.length+1)))
def html (s:List UInt8):Bool:=hits (tag [60,33,45,45] htmlT) s||tagsL.any (tagged s)
def exactP (sign:List UInt8) (more:Nat) (kind:List UInt8):Pat:=⟨sign++List.replicate more 0,List.replicate sign.length 255++List.replicate more 0,[],kind⟩
def xmlP:Pat:=⟨[60,63,120,109,108],List.replicate 5 255,white,xmlT⟩
def xml (s:List UInt8):Bool:=hits xmlP s
def pdf (s:List UInt8):Bool:=pre s [37,80,68,70,45]
def signsL:List Pat:= [exactP [37,33,80,83,45,65,100,111,98,101,45] 0 [97,112,112,108,105,99,97,116,105,111,110,47,112,111,115,116,115,99,114,105,112,116],exactP [254,255] 2 plainT,exactP [255,254] 2 plainT,exactP [239,187,191] 1 plainT]
def imageL:List Pat:= [⟨[0,0,1,0],[255,255,255,255],[],[105,109,97,103,101,47,120,45,105,99,111,110]⟩,⟨[0,0,2,0],[255,255,255,255],[],[105,109,97,103,101,47,120,45,105,99,111,110]⟩,⟨[66,77],[255,255],[],[105,109,97,103,101,47,98,109,112]⟩,⟨[71,73,70,56,55,97],[255,255,255,255,255,255],[],[105,109,97,103,101,47,103,105,102]⟩,⟨[71,73,70,56,57,97],[255,255,255,255,255,255],[],[105,109,97,103,101,47,103,105,102]⟩,⟨[82,73,70,70,0,0,0,0,87,69,66,80,86,80],[255,255,255,255,0,0,0,0,255,255,255,255,255,255],[],[105,109,97,103,101,47,119,101,98,112]⟩,⟨[137,80,78,71,13,10,26,10],[255,255,255,255,255,255,255,255],[],[105,109,97,103,101,47,112,110,103]⟩,⟨[255,216,255],[255,255,255],[],[105,109,97,103,101,47,106,112,101,103]⟩]
def mediaL:List Pat:= [⟨[70,79,82,77,0,0,0,0,65,73,70,70],[255,255,255,255,0,0,0,0,255,255,255,255],[],[97,117,100,105,111,47,97,105,102,102]⟩,⟨[73,68,51],[255,255,255],[],[97,117,100,105,111,47,109,112,101,103]⟩,⟨[79,103,103,83,0],[255,255,255,255,255],[],[97,112,112,108,105,99,97,116,105,111,110,47,111,103,103]⟩,⟨[77,84,104,100,0,0,0,6],[255,255,255,255,255,255,255,255],[],[97,117,100,105,111,47,109,105,100,105]⟩,⟨[82,73,70,70,0,0,0,0,65,86,73,32],[255,255,255,255,0,0,0,0,255,255,255,255],[],[118,105,100,101,111,47,97,118,105]⟩,⟨[82,73,70,70,0,0,0,0,87,65,86,69],[255,255,255,255,0,0,0,0,255,255,255,255],[],[97,117,100,105,111,47,119,97,118,101]⟩]
def archL:List Pat:= [⟨[31,139,8],[255,255,255],[],[97,112,112,108,105,99,97,116,105,111,110,47,120,45,103,122,105,112]⟩,⟨[80,75,3,4],[255,255,255,255],[],[97,112,112,108,105,99,97,116,105,111,110,47,122,105,112]⟩,⟨[82,97,114,32,26,7,0],[255,255,255,255,255,255,255],[],[97,112,112,108,105,99,97,116,105,111,110,47,120,45,114,97,114,45,99,111,109,112,114,101,115,115,101,100]⟩]
def orS (l:List (List UInt8)):List UInt8:=
 match l with
 | []=> []
 |s::l=>if s= []then orS l else s
def vmp4:List UInt8:= [118,105,100,101,111,47,109,112,52]
def vwebm:List UInt8:= [118,105,100,101,111,47,119,101,98,109]
def ampeg:List UInt8:= [97,117,100,105,111,47,109,112,101,103]
def film (s:List UInt8):List UInt8:=orS [typeOf s mediaL,if mp4 s=true then vmp4 else [],if webm s=true then vwebm else [],if mp3 s=true then ampeg else []]
def binary (s:List UInt8):Bool:=decide (0≤seek s 0)
def rest_ (s:List UInt8):List UInt8:=orS [typeOf s signsL,typeOf s imageL,film s,typeOf s archL,if binary s=false then plainT else [],streamT]
def kind (s:List UInt8) (scripts:Bool):List UInt8:=
 if scripts=true∧orS [if html s=true then htmlT else [],if xml s=true then xmlT else [],if pdf s=true then pdfT else []]≠ []then orS [if html s=true then htmlT else [],if xml s=true then xmlT else [],if pdf s=true then pdfT else []]
 else rest_ s
def type (s:List UInt8) (scripts:Bool):List UInt8:=kind (s.take 1445) scripts
end Tg.Un
set_option maxRecDepth 100000
namespace Tg.Un
def low (c:UInt8):UInt8:=if(65:Int)≤c.toNat∧(c.toNat:Int)≤90 then c+32 else c
def lower (s:List UInt8):List UInt8:=s.map low
end Tg.Un
namespace Tg.Ur
def hx (b:UInt8):Option Nat:=
 if(48:Int)≤b.toNat∧(b.toNat:Int)≤57 then some (b.toNat-48)
 else if(97:Int)≤b.toNat∧(b.toNat:Int)≤102 then some (b.toNat-87)
 else if(65:Int)≤b.toNat∧(b.toNat:Int)≤70 then some (b.toNat-55)else none
def isD (b:UInt8):Bool:=decide ((48:Int)≤b.toNat)&&decide ((b.toNat:Int)≤57)
def hexd:List UInt8:= [48,49,50,51,52,53,54,55,56,57,65,66,67,68,69,70]
def hd16 (n:Nat):UInt8:=hexd.getD n 0
def pct (b:UInt8):List UInt8:= [37,hd16 (b.toNat/16),hd16 (b.toNat%16)]
def okB (b:UInt8):Bool:=decide ((32:Int)<b.toNat)&&decide ((b.toNat:Int)≤126)&&!([34,60,62,96]:List UInt8).contains b
def esc:List UInt8→Option (List UInt8)
 |37::x::y::_=>match hx x,hx y with
  |some a,some b=>some [37,hd16 a,hd16 b]
  |_,_=>none
 |_=>none
def qt (s:List UInt8):List UInt8:=
 match s with
 | []=> []
 |b::r=>match esc (b::r)with
  |some e=>e++qt (r.drop 2)
  |none=>(if okB b then [b]else pct b)++qt r
termination_by s.length
decreasing_by
 ·simp;omega
 ·simp
open Tg.Lo
def pts (s:List UInt8):Nat→Nat
 |n=>match s with
  | []=>n
  |46::r=>pts r (n+1)
  |b::r=>if lower ((b::r).take 3)= [37,50,101]then pts (r.drop 2) (n+1)else 0
termination_by s.length
decreasing_by
 ·simp
 ·simp;omega
def pieces:List UInt8→List (List UInt8)
 | []=> [[]]
 |b::r=>if b=47 then []::pieces r else match pieces r with
  | []=> [[b]]
  |p::l=>(b::p)::l
def stepD (last:Bool) (out:List (List UInt8)) (p:List UInt8):List (List UInt8):=
 if pts p 0≠1∧pts p 0≠2 then out++ [p]
 else(if pts p 0=2 then out.dropLast else out)++(if last then [[]]else [])
def foldD:List (List UInt8)→List (List UInt8)→List (List UInt8)
 |out,[]=>out
 |out,[p]=>stepD true out p
 |out,p::l=>foldD (stepD false out p) l
def joinS:List (List UInt8)→List UInt8
 | []=> []
 |p::l=>47::(p++joinS l)
def dots (path:List UInt8):List UInt8:=
 match path with
 |47::r=>if joinS (foldD [] (pieces r))= []then [47]else joinS (foldD [] (pieces r))
 |_=> []
def isName (b:UInt8):Bool:=(decide ((97:Int)≤b.toNat)&&decide ((b.toNat:Int)≤122))||(decide ((48:Int)≤b.toNat)&&decide ((b.toNat:Int)≤57))||b==46||b==45
def twoDots:List UInt8→Bool
 |46::46::_=>true
 |_::r=>twoDots r
 | []=>false
def named (s:List UInt8):Bool:=decide (s≠ [])&&decide (s.length≤253)&&s.all isName&&decide (s[0]?≠some 46)&&!twoDots s
def own (s:List UInt8):Int:=if s= [104,116,116,112]∨s= [119,115]then 80 else if s= [104,116,116,112,115]∨s= [119,115,115]then 443 else 0
structure Url where
 scheme:List UInt8
 host:List UInt8
 port:Int
 path:List UInt8
 query:List UInt8
deriving DecidableEq
def none:Url:=⟨[],[],0,[],[]⟩
def free (of s:List UInt8):Bool:=s.all fun b=>!of.contains b
def good (u:Url):Bool:=
 decide (own u.scheme≠0)&&(decide (u.port=0)||(decide (1≤u.port)&&decide (u.port≤65535)&&decide (u.port≠own u.scheme)))
  &&(decide (u.path[0]?=some 47)&&decide (dots u.path=u.path)&&decide (qt u.path=u.path)&&free [63,35] u.path)
  &&(decide (u.query= [])||(decide (u.query[0]?=some 63)&&decide (qt u.query=u.query)&&free [35] u.query))&&named u.host
def upto (stops s:List UInt8):Nat:=(s.takeWhile fun b=>!stops.contains b).length
def trimL (s:List UInt8):List UInt8:=s.dropWhile fun b=>decide ((b.toNat:Int)≤32)
def trim (s:List UInt8):List UInt8:=((trimL s).reverse.dropWhile fun b=>decide ((b.toNat:Int)≤32)).reverse
def cutPort (r2:List UInt8):List UInt8×List UInt8:=match r2 with
 |58::r3=>(r3.take (upto [47,63] r3),r3.drop (upto [47,63] r3))
 |_=>([],r2)
def parts (s0:List UInt8):Option (Url×List UInt8):=
 let s:=s0.take (upto [35] s0)
 let k:=upto [58] s
 if(s.drop k).take 3= [58,47,47]then
  let r:=s.drop (k+3)
  let h:=upto [58,47,63] r
  let r2:=r.drop h
  let pl:=cutPort r2
  let q:=upto [63] pl.2
  let path:=if pl.2.take q= []then [47]else pl.2.take q
  some (⟨lower (s.take k),lower (r.take h),0,dots (qt path),qt (pl.2.drop q)⟩,pl.1)
 else Option.none
def dval (s:List UInt8):Nat:=s.foldl (fun n b=>10*n+(b.toNat-48)) 0
def number (s scheme:List UInt8):Int×Int:=
 if s= []then(0,0)
 else if s.all isD=false then(0,2)
 else if 9007199254740991<dval s then(0,9)
 else if dval s=0∨65535<dval s then(0,9)
 else if(dval s:Int)=own scheme then(0,0)
 else(dval s,0)
end Tg.Ur
namespace Go.Proofs.YtcgiaiimbnoknaaGreatDoor.PK
theorem k2:(laidOutB Tryz.checked.prog)=true:=by kernel_rfl
theorem k3:(mapsRowed Tryz.checked.prog)=true:=by kernel_rfl
theorem k6:((Rows.streamNoneRow.stops== []))=true:=by kernel_rfl
theorem k7:((Tryz.checked.prog.stops== []))=true:=by kernel_rfl
theorem k8:((Rows.streamNoneRow.knobs== []))=true:=by kernel_rfl
theorem k9:((Tryz.checked.prog.stopKnobs== []))=true:=by kernel_rfl
theorem k23:((Rows.streamNoneRow.plainKeys==Tryz.checked.prog.plainKeys))=true:=by kernel_rfl
theorem k24:(Rows.streamNoneRow.shortTexts.isNone)=true:=by kernel_rfl
theorem k25:(Tryz.checked.prog.stopsHeard)=true:=by kernel_rfl
theorem k26:(Tryz.checked.prog.mayEnter)=true:=by kernel_rfl
theorem k27:((Rows.streamNoneRow.lifted==Tryz.checked.prog.liftsFinal))=true:=by kernel_rfl
theorem k28:((Tryz.checked.prog.make==some Rows.streamNoneRow.make))=true:=by kernel_rfl
theorem k30:((Rows.streamNoneRow.pinned==Rows.streamNoneRow.pinnedBy))=true:=by kernel_rfl
theorem main0:Tryz.checked.prog.mainIs=some (true,"08e793a930b25a6ca27050591420247caab90dc8711dcda3b0c1fbee671790a4".toList):=by kernel_rfl
theorem looks0:true=Tryz.checked.prog.looks []:=by kernel_rfl
end Go.Proofs.YtcgiaiimbnoknaaGreatDoor.PK
