/-
  Texts joined, part 1: Kit, End, Shelf, StLow, LgByte, StIdx, StBld0, UrPlain, Goes, ProgK.
-/
import Derived.WalkKit
import Derived.WalkSpells
import Derived.WalkLawsBesides
import Derived.Lib.Hide
import Derived.Lib.Strings
import Derived.Lib.AppendStr
import Derived.Deep.Upon
import Derived.Below
import Derived.ChangeSame
import Derived.Carry
import Derived.ShutString
import Derived.OpenShut
import Derived.Shelf.Strings.Builder1
import Derived.Shelf.Strings.Builder2
import Derived.Shelf.Strings.OnBuilder
import Derived.Shelf.Small.Utf8
import Derived.Shelf.Small.Bits
import Derived.Shelf.Small.Strs
import Derived.Shelf.Small.Wraps
import Derived.Shelf.Strings.BuilderF
import Derived.Shelf.Strings.BuilderK
import Derived.Shelf.Utf8.RuneCount
import Derived.Shelf.Strings.Builder2Cap
import Derived.Shelf.Strconv.Itoa0
import Derived.Shelf.Strconv.Itoa1
import Derived.Shelf.LaysM
import Derived.Shelf.Strconv.Itoa2
import Derived.Shelf.Strconv.Itoa3
import Derived.Shelf.Strings.Search1
import Derived.Shelf.Strings.Search2
import Derived.Shelf.Strings.Search3
import Derived.Shelf.Strings.Cut
import Derived.Shelf.Strings.Count
import Derived.Shelf.Strings.Shaped
import Derived.Shelf.Sort.Plain
import Derived.Shelf.Strings.Prefix
import Derived.Shelf.Strings.Split
import Derived.Shelf.Strings.Fields
import Derived.Shelf.Strings.SplitShaped
import Derived.Shelf.Unicode.Latin
import Derived.Shelf.Unicode.Decode
import Derived.Shelf.Strings.Runes
import Derived.Shelf.Strings.RuneCount
import Derived.Shelf.Strings.IndexAny
import Derived.Shelf.Strings.AsciiSet
import Derived.Shelf.Strings.IndexAnyAll
import Derived.Shelf.Strings.Explode
import Derived.Shelf.Bits.Mul64
import Derived.Shelf.Strings.Repeat
import Derived.Shelf.Unicode.DecodeSlow
import Derived.Shelf.Unicode.DecodeAny
import Derived.Shelf.Unicode.Is16White
import Derived.Shelf.Unicode.IsSpaceAny
import Derived.Shelf.Unicode.Is16WhiteD
import Derived.Shelf.Unicode.IsSpaceAnyD
import Derived.Shelf.Strings.FieldsAny
import Derived.Shelf.Strings.FieldsFuncAny
import Derived.Shelf.Unicode.Is16Any
import Derived.Shelf.Unicode.Is32Any
import Derived.Shelf.Unicode.ExclAny
import Derived.Shelf.Strings.BuilderCap
import Derived.Shelf.Slices.Turned
import Derived.Shelf.Slices.Equal
import Derived.Ground.Names2Prog
import Derived.Shelf.Slices.Clone
import Derived.Shelf.Slices.SearchI
import Derived.Shelf.Slices.In.SortNone
import Derived.Shelf.Slices.Empties2
import Derived.Ground.SlgnProg
import Derived.Shelf.SlicesE.Clone
import Derived.Test.YteeiipildjgdbaaGreatDoorProg
import Derived.Laws.Externs
import Derived.Laws.BytesString
import Derived.Lib.ConvBytes
import Derived.Deep.LoopGhost
import Derived.Lib.OthersKept
import Derived.Lib.DecodeN
import Derived.Laws.Runes
import Derived.Laws.RangeAny
import Derived.Lib.IndexAny
import Derived.Lib.QuoteLoop
import Derived.Lib.RuneCount
import Derived.Test.YteeiipildjgdbaaGreatDoorRows
import Derived.ProofKit
import Derived.SevenTiedAt
import Derived.Stop.Joined
import Derived.LaidMore
import Derived.Lay
set_option linter.unusedSimpArgs false
set_option linter.unusedVariables false
namespace Go.Tg
open Go.RowKit
theorem ba_toList (s:ByteArray):s.toList=s.data.toList:=by
 have:=@ByteArray.toList_eq s
 exact this
structure Change (S:Nat→Prop) (w w':World):Prop where
 os:w'.os=w.os
 tape:w'.tape=w.tape
 output:w'.output=w.output
 size:w.heap.size≤w'.heap.size
 block: ∀k,k<w.heap.size→ ¬S k→w'.heap[k]?=w.heap[k]?
namespace Change
variable {S T U:Nat→Prop} {w w' w'':World}
theorem refl (S:Nat→Prop) (w:World):Change S w w:=⟨rfl,rfl,rfl,Nat.le_refl _,fun _ _ _=>rfl⟩
theorem trans (h:Change S w w') (k:Change T w' w'') (hT: ∀i,T i→S i∨w.heap.size≤i):Change S w w'':=
 ⟨k.os.trans h.os,k.tape.trans h.tape,k.output.trans h.output,Nat.le_trans h.size k.size,fun i hi hn=>
  (k.block i (Nat.lt_of_lt_of_le hi h.size) (fun ht=>by rcases hT i ht with h|h;exact hn h;omega)).trans (h.block i hi hn)⟩
theorem mono (h:Change S w w') (hT: ∀i,i<w.heap.size→S i→T i):Change T w w':=
 ⟨h.os,h.tape,h.output,h.size,fun i hi hn=>h.block i hi (fun hs=>hn (hT i hi hs))⟩
theorem drew (h:Change S w w'):Change S w w'.drew:=⟨h.os,h.tape,h.output,h.size,h.block⟩
theorem drewN (h:Change S w w') (n:Nat):Change S w (w'.drewN n):=⟨h.os,h.tape,h.output,h.size,h.block⟩
theorem alloc (h:Change S w w') (o:Obj):Change S w (w'.alloc o):=
 ⟨h.os,h.tape,h.output,Nat.le_trans h.size (by simp),fun i hi hn=>(Below.heap_alloc w' o i (Nat.lt_of_lt_of_le hi h.size)).trans (h.block i hi hn)⟩
theorem setCell (h:Change S w w') {p:Addr} (hp:S p.block∨w.heap.size≤p.block) (u:Value):Change S w (w'.setCell p u):=
 ⟨h.os,h.tape,h.output,by simpa [World.setCell]using h.size,fun i hi hn=>(Below.heap_setCell w' p u i (by
  rintro rfl
  rcases hp with hp|hp
  ·exact hn hp
  ·omega)).trans (h.block i hi hn)⟩
theorem below {B:Nat} (h:Change S w w') (hB:B≤w.heap.size) (hS: ∀k,S k→B≤k):Below B w w':=
 ⟨h.os,h.tape,h.output,h.size,fun k hk=>h.block k (by omega) (fun hs=>by have:=hS k hs;omega)⟩
theorem lt (h:Change S w w') {k:Nat} (hk:k<w.heap.size):k<w'.heap.size:=Nat.lt_of_lt_of_le hk h.size
theorem one (b:Nat) (w:World):Change (fun k=>k=b) w w:=refl _ w
theorem set {b:Nat} (h:Change (fun k=>k=b) w w') (i:Nat) (u:Value):Change (fun k=>k=b) w (w'.setCell ⟨b,i,none⟩ u):=h.setCell (.inl rfl) u
end Change
def Blk (w:World) (b:Nat) (t:TypeId) (cs:Array Value):Prop:=w.heap[b]?=some (.cells cs t (0,0))
namespace Blk
variable {w w':World} {b:Nat} {t:TypeId} {cs:Array Value}
theorem cell (h:Blk w b t cs) (i:Nat):w.cell? ⟨b,i,none⟩=cs[i]?:=by
 unfold Blk at h;simp [World.cell?,h]
theorem free (h:Blk w b t cs) (i:Nat):w.frozen? ⟨b,i,none⟩=false:=by
 unfold Blk at h;simp [World.frozen?,h]
theorem lt (h:Blk w b t cs):b<w.heap.size:=lt_of_block h
theorem set (h:Blk w b t cs) (i:Nat) (v:Value):Blk (w.setCell ⟨b,i,none⟩ v) b t (cs.setIfInBounds i v):=by
 unfold Blk at h⊢;simp only [World.setCell,Array.getElem?_modify,h];simp
theorem drew (h:Blk w b t cs):Blk w.drew b t cs:=h
theorem drewN (h:Blk w b t cs) (n:Nat):Blk (w.drewN n) b t cs:=h
theorem alloc (h:Blk w b t cs) (o:Obj):Blk (w.alloc o) b t cs:=by
 unfold Blk at h⊢;rw [Below.heap_alloc _ _ _ (lt_of_block h)];exact h
theorem new (w:World) (t:TypeId) (cs:Array Value):Blk (w.alloc (.cells cs t)) w.heap.size t cs:=by
 unfold Blk;exact(MapKept.heap_alloc w _).1
end Blk
structure Upd (w:World) (b:Nat) (t:TypeId) (W:World) (cs:Array Value):Prop where
 blk:Blk W b t cs
 chg:Change (fun k=>k=b) w W
namespace Upd
variable {w W:World} {b:Nat} {t:TypeId} {cs:Array Value}
theorem base (h:Blk w b t cs):Upd w b t w cs:=⟨h,Change.one b w⟩
theorem set {i:Nat} {v:Value} (h:Upd w b t W cs):Upd w b t (W.setCell ⟨b,i,none⟩ v) (cs.setIfInBounds i v):=⟨h.blk.set i v,h.chg.set i v⟩
theorem drew (h:Upd w b t W cs):Upd w b t W.drew cs:=⟨h.blk,h.chg.drew⟩
theorem drewN {n:Nat} (h:Upd w b t W cs):Upd w b t (W.drewN n) cs:=⟨h.blk,h.chg.drewN n⟩
theorem alloc {o:Obj} (h:Upd w b t W cs):Upd w b t (W.alloc o) cs:=⟨h.blk.alloc o,h.chg.alloc o⟩
end Upd
section
variable {P:Program} (w:World)
theorem run_append2 (t ty e:TypeId) (i:TypeInfo) (z:Value) (size bytes:Nat) (ht:P.underlying t=some (.slice e)) (hi:P.info? e=some i) (hz:i.zero=some z)
  (hsize:i.size=size) (hby:i.bytes=bytes) (hzs:z.cells.size=size) (hsz:0<size)
  (v:Value) (n:Nat) (xs:List Value) (hown:w.ownsRow 0 e size v n xs)
  (a:Addr) (m c:Nat) (news:List Value) (hl:news.length=m*size) (hnews: ∀j u,news[j]?=some u→w.cell? (a.add j)=some u) (h1: ∀u∈news,u.oneCell'=true)
  (hpos:0<n+m) (h63:n+m≤maxLen) (hbytes:(n+m)*bytes≤140737488355328):
  ∃g cap w',(Builtin.append_ #[t,t] ty #[v,.slice (some a) m c]).run P w=.ok (.slice (some ⟨g,0,none⟩) (n+m) cap) w'∧w'.ownsRow 0 e size (.slice (some ⟨g,0,none⟩) (n+m) cap) (n+m) (xs++news)∧w.grownBy w' v.ownBlock∧
   (v.ownBlock=some g∨g=w.heap.size):=by
 obtain⟨v',w',hr,h2,h3,h4⟩:=run_append_own (P:=P) w 0 t ty e i z size bytes ht hi hz hsize hby hzs hsz v n xs hown a m c news hl hnews h1 h63 hbytes (Nat.zero_le _)
 have hv: ∃g cap,v'=.slice (some ⟨g,0,none⟩) (n+m) cap:=by
  rcases h2.2 with⟨_,h⟩|⟨g,cap,_,h,_⟩
  ·omega
  ·exact⟨g,cap,h⟩
 obtain⟨g,cap,rfl⟩:=hv
 refine⟨g,cap,w',hr,h2,h3,?_⟩
 subst hsize
 subst hby
 have hsmall:n+m≤9223372036854775807:=by simp only [maxLen]at h63;omega
 rcases hown.2 with⟨rfl,rfl⟩|⟨g0,cap0,cur,rfl,_,hh,hnc,hcm,hcs,htake⟩
 ·have hr2:=run_append_nil (P:=P) w t ty e i z ht hi hz a m c news hl hnews (by omega) (by omega) (by have hb:=hbytes;simp only [Nat.zero_add]at hb;omega)
  rw [hr2]at hr
  injection hr with hr hw
  injection hr with hr
  injection hr with hr
  injection hr with hr
  exact .inr hr.symm
 ·by_cases hroom:n+m≤cap0
  ·have hfit:n*i.size+news.length≤cur.size:=by rw [hl,hcs,←Nat.add_mul];exact Nat.mul_le_mul_right _ hroom
   have hr2:=run_append_room (P:=P) w t ty e i ht hi g0 n cap0 cur hh a m c news hl hnews h1 hroom hfit
   rw [hr2]at hr
   injection hr with hr hw
   injection hr with hr
   injection hr with hr
   injection hr with hr
   exact .inl (by rw [←hr];rfl)
  ·have holds: ∀j u,xs[j]?=some u→w.cell? ((⟨g0,0,none⟩:Addr).add j)=some u:=hown.cells (g:=g0) rfl
   have hr2:=run_append_grow (P:=P) w t ty e i z ht hi hz ⟨g0,0,none⟩ n cap0 xs hown.1 holds a m c news hl hnews (by omega) (by omega) (growslice_fits (by omega) hbytes)
   rw [hr2]at hr
   injection hr with hr hw
   injection hr with hr
   injection hr with hr
   injection hr with hr
   exact .inr hr.symm
theorem run_append2s (t u ty e:TypeId) (i:TypeInfo) (ht:P.underlying t=some (.slice e)) (hu:P.underlying u=some .string) (hi:P.info? e=some i) (hz:i.zero=some (.int .u8 0))
  (hsize:i.size=1) (hby:i.bytes=1) (v:Value) (n:Nat) (xs:List Value) (hown:w.ownsRow 0 e 1 v n xs) (s:ByteArray)
  (hpos:0<n+s.size) (h63:n+s.size≤maxLen) (hbytes:n+s.size≤140737488355328):
  ∃g cap w',(Builtin.append_ #[t,u] ty #[v,.string s]).run P w=.ok (.slice (some ⟨g,0,none⟩) (n+s.size) cap) w'∧w'.ownsRow 0 e 1 (.slice (some ⟨g,0,none⟩) (n+s.size) cap) (n+s.size) (xs++Lib.strCells s)∧w.grownBy w' v.ownBlock∧
   (v.ownBlock=some g∨g=w.heap.size):=by
 obtain⟨v',w',hr,h2,h3,h4⟩:=Lib.run_append_own_string (P:=P) w 0 t u ty e i ht hu hi hz hsize hby v n xs hown s h63 hbytes (Nat.zero_le _)
 have hv: ∃g cap,v'=.slice (some ⟨g,0,none⟩) (n+s.size) cap:=by
  rcases h2.2 with⟨_,h⟩|⟨g,cap,_,h,_⟩
  ·omega
  ·exact⟨g,cap,h⟩
 obtain⟨g,cap,rfl⟩:=hv
 refine⟨g,cap,w',hr,h2,h3,?_⟩
 have hsmall:n+s.size≤9223372036854775807:=by simp only [maxLen]at h63;omega
 have hfit: ∀c,c<n+s.size→Builtin.nextslicecap (n+s.size) c*i.bytes≤281474976710656:=fun c hc=>by
  refine growslice_fits (by omega) ?_
  rw [hby];omega
 have hsrc:Src P i.size u (.string s) s.size (byteCells s) w:=by rw [hsize];exact Src.ofString w hu s
 rcases hown.2 with⟨rfl,rfl⟩|⟨g0,cap0,cur,rfl,_,hh,hnc,hcm,hcs,htake⟩
 ·have hr2:=run_append_grow_src (P:=P) w t u ty e i (.int .u8 0) ht hi hz none 0 0 [] (run_firstCells_none w.drew i.size 0 0 0) (.string s) s.size (byteCells s) hsrc (by omega) (by omega) (hfit 0 (by omega))
  rw [hr2]at hr
  injection hr with hr hw
  injection hr with hr
  injection hr with hr
  injection hr with hr
  exact .inr hr.symm
 ·by_cases hroom:n+s.size≤cap0
  ·have hr2:=Lib.run_append_room_string (P:=P) w t u ty e i ht hu hi hsize g0 n cap0 cur hh s hroom (by omega)
   rw [hr2]at hr
   injection hr with hr hw
   injection hr with hr
   injection hr with hr
   injection hr with hr
   exact .inl (by rw [←hr];rfl)
  ·have holds: ∀j u,xs[j]?=some u→w.cell? ((⟨g0,0,none⟩:Addr).add j)=some u:=hown.cells (g:=g0) rfl
   have hr2:=Lib.run_append_grow_string (P:=P) w t u ty e i (.int .u8 0) ht hu hi hz ⟨g0,0,none⟩ n cap0 xs (by rw [hsize];exact hown.1) holds s (by omega) (by omega) (hfit cap0 (by omega))
   rw [hr2]at hr
   injection hr with hr hw
   injection hr with hr
   injection hr with hr
   injection hr with hr
   exact .inr hr.symm
def AppSrc (P:Program) (t u e:TypeId) (size:Nat) (y:Value) (m:Nat) (news:List Value) (w:World):Prop:=
 (t=u∧ ∃ad c,y=.slice (some ad) m c∧news.length=m*size∧ ∀(j:Nat) (x:Value),news[j]?=some x→w.cell? (ad.add j)=some x)∨
 (P.underlying u=some .string∧size=1∧(∃i,P.info? e=some i∧i.zero=some (.int .u8 0)∧i.bytes=1)∧ ∃bs:ByteArray,y=.string bs∧m=bs.size∧news=Lib.strCells bs)
theorem run_append2x (t u ty e:TypeId) (i:TypeInfo) (z:Value) (size bytes:Nat) (ht:P.underlying t=some (.slice e)) (hi:P.info? e=some i) (hz:i.zero=some z)
  (hsize:i.size=size) (hby:i.bytes=bytes) (hzs:z.cells.size=size) (hsz:0<size)
  (v:Value) (n:Nat) (xs:List Value) (hown:w.ownsRow 0 e size v n xs)
  (y:Value) (m:Nat) (news:List Value) (hs:AppSrc P t u e size y m news w) (h1: ∀u∈news,u.oneCell'=true)
  (hpos:0<n+m) (h63:n+m≤maxLen) (hbytes:(n+m)*bytes≤140737488355328):
  ∃g cap w',(Builtin.append_ #[t,u] ty #[v,y]).run P w=.ok (.slice (some ⟨g,0,none⟩) (n+m) cap) w'∧w'.ownsRow 0 e size (.slice (some ⟨g,0,none⟩) (n+m) cap) (n+m) (xs++news)∧w.grownBy w' v.ownBlock∧
   (v.ownBlock=some g∨g=w.heap.size):=by
 rcases hs with⟨rfl,ad,c,rfl,hl,hc⟩|⟨hu,rfl,⟨i',hi',hz',hb'⟩,bs,rfl,rfl,rfl⟩
 ·exact run_append2 w t ty e i z size bytes ht hi hz hsize hby hzs hsz v n xs hown ad m c news hl hc h1 hpos h63 hbytes
 ·rw [hi]at hi'
  injection hi' with hi'
  subst hi'
  exact run_append2s w t u ty e i ht hu hi hz' hsize hb' v n xs hown bs hpos h63 (by rw [←hby,hb']at hbytes;omega)
theorem run_append_roomx (t u ty e:TypeId) (i:TypeInfo) (ht:P.underlying t=some (.slice e)) (hi:P.info? e=some i) (g sLen sCap:Nat) (cur:Array Value) (hg:w.heap[g]?=some (.cells cur e (0,0)))
  (y:Value) (m:Nat) (news:List Value) (hs:AppSrc P t u e i.size y m news w) (h1: ∀u∈news,u.oneCell'=true) (hroom:sLen+m≤sCap) (hfit:sLen*i.size+news.length≤cur.size):
  (Builtin.append_ #[t,u] ty #[.slice (some ⟨g,0,none⟩) sLen sCap,y]).run P w=.ok (.slice (some ⟨g,0,none⟩) (sLen+m) sCap) (w.setRow g (cur.toList.take (sLen*i.size)++news++cur.toList.drop (sLen*i.size+news.length)).toArray):=by
 rcases hs with⟨rfl,ad,c,rfl,hl,hc⟩|⟨hu,h0,_,bs,rfl,rfl,rfl⟩
 ·exact run_append_room (P:=P) w t ty e i ht hi g sLen sCap cur hg ad m c news hl hc h1 hroom hfit
 ·have:=Lib.run_append_room_string (P:=P) w t u ty e i ht hu hi h0 g sLen sCap cur hg bs hroom (by rw [h0,Nat.mul_one,Lib.strCells_length]at hfit;exact hfit)
  rw [this,h0,Nat.mul_one,Lib.strCells_length]
end
end Go.Tg
namespace Go.Tg
open Go.RowKit Go.WideShapes Go.ChangeShapes
section
variable {H:Type} {enc:TypeId×Value→H} {P:Program}
end
theorem below_of_false {w w':World} (h:Change (fun _=>False) w w'):Below w.heap.size w w':=h.below (Nat.le_refl _) (fun _ h=>h.elim)
section
variable {H:Type} {enc:TypeId×Value→H} {P:Program}
theorem trodAll_stays {W W':World} (hl:laidOutB P=true) (hb:Below W.heap.size W W'): ∀ {ts:List TypeId} {vs:List Value} {ds:List (DataW H)} {ps:List MemPlace} {sp:Nat→Bool},
  (∀t∈ts,P.readableRec t=true∧t<P.types.size)→DataW.TrodAll enc P W 0 (fun _=>true) true ts vs ds ps→(∀p∈ps,p.block<W.heap.size)→(∀p∈ps,sp p.block=true)→DataW.TrodAll enc P W' 0 sp true ts vs ds ps
 | [],[],[],_,_,_,h,_,_=>h
 |t::ts,v::vs,d::ds,ps,sp,hr,h,hlt,hs=>by
  obtain⟨p,q,h1,h2,rfl⟩:=h
  obtain⟨hr1,hr2⟩:=hr t (by simp)
  exact⟨p,q,WideElems.Trod_stays hl hr1 hr2 h1 (fun x hx=>hb.same (hlt x (by simp [hx]))) (fun x hx=>hs x (by simp [hx])),
   trodAll_stays hl hb (fun t' ht'=>hr t' (by simp [ht'])) h2 (fun x hx=>hlt x (by simp [hx])) (fun x hx=>hs x (by simp [hx])),rfl⟩
 | [],_::_,_,_,_,_,h,_,_=>absurd h (by simp [DataW.TrodAll])
 | [],[],_::_,_,_,_,h,_,_=>absurd h (by simp [DataW.TrodAll])
 |_::_,[],_,_,_,_,h,_,_=>absurd h (by simp [DataW.TrodAll])
 |_::_,_::_,[],_,_,_,h,_,_=>absurd h (by simp [DataW.TrodAll])
theorem law_post {f:Func} {s:ChangeSpec} {W W':World} {args:Array Value} {ds gs:List (DataW H)} {before:List MemPlace} (hl:laidOutB P=true)
  (hW:DataW.Whole enc P f.params.toList s.vars false W args.toList ds gs before) (hv:s.vars= []) (hr: ∀t∈f.params.toList,P.readableRec t=true∧t<P.types.size)
  {tb:TypeId} (hres:f.resultTypes=#[tb]) (htb:P.underlying tb=some .bool) (hfn:s.fn H ds= { results:= [.lit (.bool true)],args:=ds }) (hb:Below W.heap.size W W'):
  s.post enc P f false true false false W args (.bool true) W':=by
 have hlt: ∀p∈before,p.block<W.heap.size:=fun p hp=>hW.lt p hp
 have hW0:=hW
 obtain⟨p,q,hA,hV,rfl,hz,hn⟩:=hW
 rw [hv]at hV
 cases gs with
 |cons=>exact absurd hV (by simp [DataW.TrodVars])
 |nil=>
  have hq:q= []:=hV
  subst hq
  refine⟨ds,[],p++ [],[],p,[],hW0,?_,?_,?_,World.keptBut_mono (fun x hx=>⟨hx,?_⟩) (hb.frame (· ∈p++ [])),fun h=>by cases h⟩
  ·rw [List.append_nil,hfn,hres];exact trodAll_cons_mk (shut_bool htb _) trodAll_mk0
  ·rw [List.append_nil,hfn];exact trodAll_stays hl hb hr hA (fun x hx=>hlt x (by simp [hx])) (fun x hx=>by simpa using hlt x (by simp [hx]))
  ·rw [List.append_nil,hfn,hv];rfl
  ·exact .inr (.inl (by simpa using hx))
end
end Go.Tg
namespace Go.Proofs
open Go.Shelf
def Tryz.lays156_ren:Go.Shelf.Ren:=⟨fun|156=>106|165=>137|166=>53|169=>56|240=>74|241=>164|276=>99|277=>194|n=>n,fun|31=>25|9=>9|3=>3|4=>4|0=>0|20=>20|72=>96|76=>99|70=>93|37=>94|75=>98|127=>130|164=>147|5=>5|80=>103|n=>n,fun|n=>n⟩
theorem Tryz.lays156:Go.Proofs.Lays.n156 Tryz.prog Tryz.lays156_ren:= {
 mixed:=by kernel_rfl
 f156:=Tryz.func106.trans (congrArg some (by kernel_rfl))
 f165:=Tryz.func137.trans (congrArg some (by kernel_rfl))
 f166:=Tryz.func53.trans (congrArg some (by kernel_rfl))
 f169:=Tryz.func56.trans (congrArg some (by kernel_rfl))
 f240:=Tryz.func74.trans (congrArg some (by kernel_rfl))
 f241:=Tryz.func164.trans (congrArg some (by kernel_rfl))
 f276:=Tryz.func99.trans (congrArg some (by kernel_rfl))
 f277:=Tryz.func194.trans (congrArg some (by kernel_rfl))
 t0:=Tryz.underlying0
 a0:=Tryz.isAgg0
 z0:=Tryz.sizeOf0
 v0:=Tryz.zeroValue0
 t3:=Tryz.underlying3
 a3:=Tryz.isAgg3
 z3:=Tryz.sizeOf3
 v3:=Tryz.zeroValue3
 t4:=Tryz.underlying4
 a4:=Tryz.isAgg4
 z4:=Tryz.sizeOf4
 v4:=Tryz.zeroValue4
 t9:=Tryz.underlying9
 a9:=Tryz.isAgg9
 z9:=Tryz.sizeOf9
 v9:=Tryz.zeroValue9
 t20:=Tryz.underlying20
 a20:=Tryz.isAgg20
 z20:=Tryz.sizeOf20
 v20:=Tryz.zeroValue20
 t31:=Tryz.underlying25
 a31:=Tryz.isAgg25
 z31:=Tryz.sizeOf25
 v31:=Tryz.zeroValue25
 t37:=Tryz.underlying94
 a37:=Tryz.isAgg94
 z37:=Tryz.sizeOf94
 v37:=Tryz.zeroValue94
 t70:=Tryz.underlying93
 a70:=Tryz.isAgg93
 z70:=Tryz.sizeOf93
 v70:=Tryz.zeroValue93
 t72:=Tryz.underlying96
 a72:=Tryz.isAgg96
 z72:=Tryz.sizeOf96
 v72:=Tryz.zeroValue96
 t75:=Tryz.underlying98
 a75:=Tryz.isAgg98
 z75:=Tryz.sizeOf98
 v75:=Tryz.zeroValue98
 t76:=Tryz.underlying99
 a76:=Tryz.isAgg99
 z76:=Tryz.sizeOf99
 v76:=Tryz.zeroValue99
 t127:=Tryz.underlying130
 a127:=Tryz.isAgg130
 z127:=Tryz.sizeOf130
 v127:=Tryz.zeroValue130
 t164:=Tryz.underlying147
 a164:=Tryz.isAgg147
 z164:=Tryz.sizeOf147
 v164:=Tryz.zeroValue147 }
theorem Tryz.Builder_Extra_156:Builder.Extra Tryz.prog Tryz.lays156_ren:= {
 sizeBuilder:=by kernel_rfl
 liesBuilder:=by kernel_rfl
 t5:=Tryz.underlying5
 a5:=Tryz.isAgg5
 z5:=Tryz.sizeOf5
 v5:=Tryz.zeroValue5
 infoByte:=by kernel_rfl
 cellsByte:=by kernel_rfl
 sizeByte:=by kernel_rfl
 neB5:=by decide }
open Go.RowKit in
theorem Tryz.strings_Join_none (a:Option Addr) (c:Nat) (sep:ByteArray) (w:World):
  Calls Tryz.prog 106 #[.slice a 0 c,.string sep] w fun e w'=>e=.returned (.string ⟨#[]⟩)∧w'=w:=Any.strings_Join_none Tryz.lays156 Tryz.Builder_Extra_156 a c sep w
open Go.RowKit in
theorem Tryz.strings_Join (bk o c:Nat) (xs:List ByteArray) (sep:ByteArray) (w:World) (hcells: ∀(j:Nat) x,xs[j]?=some x→w.cell? ⟨bk,o+j,none⟩=some (.string x)) (hbk:bk<w.heap.size) (hN:xs.length≤140737488355328) (hcap:xs.length≤c) (hlen:(Lib.join (xs.map (·.data.toList)) sep.data.toList).length≤140737488355328):
  Calls Tryz.prog 106 #[.slice (some ⟨bk,o,none⟩) xs.length c,.string sep] w fun e w'=>e=.returned (.string ⟨(Lib.join (xs.map (·.data.toList)) sep.data.toList).toArray⟩)∧Below w.heap.size w w':=Any.strings_Join Tryz.lays156 Tryz.Builder_Extra_156 bk o c xs sep w hcells hbk hN hcap hlen
def Tryz.lays119_ren:Go.Shelf.Ren:=⟨fun|119=>282|n=>n,fun|21=>21|4=>4|n=>n,fun|n=>n⟩
theorem Tryz.lays119:Go.Proofs.Lays.n119 Tryz.prog Tryz.lays119_ren:= {
 mixed:=by kernel_rfl
 f119:=Tryz.func282.trans (congrArg some (by kernel_rfl))
 t4:=Tryz.underlying4
 a4:=Tryz.isAgg4
 z4:=Tryz.sizeOf4
 v4:=Tryz.zeroValue4
 t21:=Tryz.underlying21
 a21:=Tryz.isAgg21
 z21:=Tryz.sizeOf21
 v21:=Tryz.zeroValue21 }
theorem Tryz.utf8_ValidRune (r:Int) (w:World):
  Calls Tryz.prog 282 #[.int .i32 r] w fun e w'=>e=.returned (.bool (Lib.validRune r))∧w'=w:=Any.utf8_ValidRune Tryz.lays119 r w
def Tryz.lays131_ren:Go.Shelf.Ren:=⟨fun|131=>509|126=>521|n=>n,fun|5=>5|3=>3|9=>9|n=>n,fun|n=>n⟩
theorem Tryz.lays131:Go.Proofs.Lays.n131 Tryz.prog Tryz.lays131_ren:= {
 mixed:=by kernel_rfl
 f126:=Tryz.func521.trans (congrArg some (by kernel_rfl))
 f131:=Tryz.func509.trans (congrArg some (by kernel_rfl))
 t3:=Tryz.underlying3
 a3:=Tryz.isAgg3
 z3:=Tryz.sizeOf3
 v3:=Tryz.zeroValue3
 t5:=Tryz.underlying5
 a5:=Tryz.isAgg5
 z5:=Tryz.sizeOf5
 v5:=Tryz.zeroValue5
 t9:=Tryz.underlying9
 a9:=Tryz.isAgg9
 z9:=Tryz.sizeOf9
 v9:=Tryz.zeroValue9 }
theorem Tryz.bits_LeadingZeros8 (x:Int) (w:World) (h0:0≤x) (h1:x≤255):
  Calls Tryz.prog 509 #[.int .u8 x] w fun e w'=>e=.returned (.int .i64 (8-(Lib.bitLen x.toNat:Int)))∧w'=w:=Any.bits_LeadingZeros8 Tryz.lays131 x w h0 h1
def Tryz.lays137_ren:Go.Shelf.Ren:=⟨fun|137=>222|217=>110|266=>138|n=>n,fun|9=>9|5=>5|3=>3|n=>n,fun|n=>n⟩
theorem Tryz.lays137:Go.Proofs.Lays.n137 Tryz.prog Tryz.lays137_ren:= {
 mixed:=by kernel_rfl
 f137:=Tryz.func222.trans (congrArg some (by kernel_rfl))
 f217:=Tryz.func110.trans (congrArg some (by kernel_rfl))
 f266:=Tryz.func138.trans (congrArg some (by kernel_rfl))
 t3:=Tryz.underlying3
 a3:=Tryz.isAgg3
 z3:=Tryz.sizeOf3
 v3:=Tryz.zeroValue3
 t5:=Tryz.underlying5
 a5:=Tryz.isAgg5
 z5:=Tryz.sizeOf5
 v5:=Tryz.zeroValue5
 t9:=Tryz.underlying9
 a9:=Tryz.isAgg9
 z9:=Tryz.sizeOf9
 v9:=Tryz.zeroValue9 }
open Go.RowKit in
theorem Tryz.strings_IndexByte (s:ByteArray) (c:Int) (w:World):
  Calls Tryz.prog 222 #[.string s,.int .u8 c] w fun e w'=>e=.returned (.int .i64 (Lib.indexByte s.data.toList c.toNat.toUInt8))∧w'=w:=Any.strings_IndexByte Tryz.lays137 s c w
def Tryz.laysM171_ren:Go.Shelf.Ren:=⟨fun|171=>37|243=>48|246=>62|283=>85|284=>86|285=>87|286=>88|129=>115|317=>114|318=>116|319=>117|320=>118|337=>140|338=>141|n=>n,fun|3=>3|9=>9|2=>2|4=>4|171=>135|0=>0|53=>60|37=>94|5=>5|173=>138|212=>157|51=>158|20=>20|213=>159|46=>144|232=>226|233=>227|n=>n,fun|17=>1|18=>6|19=>7|n=>n⟩
theorem Tryz.laysM171:Go.Proofs.LaysM.n171 Tryz.prog Tryz.laysM171_ren:= {
 mixed:=by kernel_rfl
 f129:=Tryz.func115.trans (congrArg some (by kernel_rfl))
 f171:=Tryz.func37.trans (congrArg some (by kernel_rfl))
 f243:=Tryz.func48.trans (congrArg some (by kernel_rfl))
 f246:=Tryz.func62.trans (congrArg some (by kernel_rfl))
 f283:=Tryz.func85.trans (congrArg some (by kernel_rfl))
 f284:=Tryz.func86.trans (congrArg some (by kernel_rfl))
 f285:=Tryz.func87.trans (congrArg some (by kernel_rfl))
 f286:=Tryz.func88.trans (congrArg some (by kernel_rfl))
 f317:=Tryz.func114.trans (congrArg some (by kernel_rfl))
 f318:=Tryz.func116.trans (congrArg some (by kernel_rfl))
 f319:=Tryz.func117.trans (congrArg some (by kernel_rfl))
 f320:=Tryz.func118.trans (congrArg some (by kernel_rfl))
 f337:=Tryz.func140.trans (congrArg some (by kernel_rfl))
 f338:=Tryz.func141.trans (congrArg some (by kernel_rfl))
 t0:=Tryz.underlying0
 a0:=Tryz.isAgg0
 z0:=Tryz.sizeOf0
 v0:=Tryz.zeroValue0
 t2:=Tryz.underlying2
 a2:=Tryz.isAgg2
 z2:=Tryz.sizeOf2
 v2:=Tryz.zeroValue2
 t3:=Tryz.underlying3
 a3:=Tryz.isAgg3
 z3:=Tryz.sizeOf3
 v3:=Tryz.zeroValue3
 t4:=Tryz.underlying4
 a4:=Tryz.isAgg4
 z4:=Tryz.sizeOf4
 v4:=Tryz.zeroValue4
 t5:=Tryz.underlying5
 a5:=Tryz.isAgg5
 z5:=Tryz.sizeOf5
 v5:=Tryz.zeroValue5
 t9:=Tryz.underlying9
 a9:=Tryz.isAgg9
 z9:=Tryz.sizeOf9
 v9:=Tryz.zeroValue9
 t20:=Tryz.underlying20
 a20:=Tryz.isAgg20
 z20:=Tryz.sizeOf20
 v20:=Tryz.zeroValue20
 t37:=Tryz.underlying94
 a37:=Tryz.isAgg94
 z37:=Tryz.sizeOf94
 v37:=Tryz.zeroValue94
 t46:=Tryz.underlying144
 a46:=Tryz.isAgg144
 z46:=Tryz.sizeOf144
 v46:=Tryz.zeroValue144
 t51:=Tryz.underlying158
 a51:=Tryz.isAgg158
 z51:=Tryz.sizeOf158
 v51:=Tryz.zeroValue158
 t53:=Tryz.underlying60
 a53:=Tryz.isAgg60
 z53:=Tryz.sizeOf60
 v53:=Tryz.zeroValue60
 t171:=Tryz.underlying135
 a171:=Tryz.isAgg135
 z171:=Tryz.sizeOf135
 v171:=Tryz.zeroValue135
 t173:=Tryz.underlying138
 a173:=Tryz.isAgg138
 z173:=Tryz.sizeOf138
 v173:=Tryz.zeroValue138
 t212:=Tryz.underlying157
 a212:=Tryz.isAgg157
 z212:=Tryz.sizeOf157
 v212:=Tryz.zeroValue157
 t213:=Tryz.underlying159
 a213:=Tryz.isAgg159
 z213:=Tryz.sizeOf159
 t232:=Tryz.underlying226
 a232:=Tryz.isAgg226
 z232:=Tryz.sizeOf226
 v232:=Tryz.zeroValue226
 t233:=Tryz.underlying227
 a233:=Tryz.isAgg227
 z233:=Tryz.sizeOf227
 v233:=Tryz.zeroValue227
 g17:=by kernel_rfl
 g18:=by kernel_rfl
 g19:=by kernel_rfl
 i0:=by kernel_rfl
 i2:=by kernel_rfl
 i3:=by kernel_rfl
 i4:=by kernel_rfl
 i5:=by kernel_rfl
 i9:=by kernel_rfl
 i20:=by kernel_rfl
 i37:=by kernel_rfl
 i46:=by kernel_rfl
 i51:=by kernel_rfl
 i53:=by kernel_rfl
 i171:=by kernel_rfl
 i173:=by kernel_rfl
 i212:=by kernel_rfl
 i232:=by kernel_rfl
 i233:=by kernel_rfl
 m17:=by kernel_rfl
 m18:=by kernel_rfl
 m19:=by kernel_rfl }
open Go.RowKit Go.Sort Go.Lib in
theorem Tryz.strconv_Itoa (n:Int) (h0: -9223372036854775808≤n) (h1:n≤9223372036854775807) (w:World) (htab:Lib.TabIs Tryz.prog w "internal/strconv.uint64pow10" .u64 Lib.pow10Tab):
  Calls Tryz.prog 37 #[.int .i64 n] w fun e w'=>e=.returned (.string ⟨(Lib.itoa n).toArray⟩)∧ ∃k os,w'=grow (w.drewN k) os:=Any.strconv_Itoa Tryz.laysM171 n h0 h1 w htab
def Tryz.lays219_ren:Go.Shelf.Ren:=⟨fun|219=>84|217=>110|225=>111|224=>112|267=>113|266=>138|314=>139|n=>n,fun|9=>9|3=>3|4=>4|5=>5|46=>144|146=>192|51=>158|n=>n,fun|1=>0|n=>n⟩
theorem Tryz.lays219:Go.Proofs.Lays.n219 Tryz.prog Tryz.lays219_ren:= {
 mixed:=by kernel_rfl
 f217:=Tryz.func110.trans (congrArg some (by kernel_rfl))
 f219:=Tryz.func84.trans (congrArg some (by kernel_rfl))
 f224:=Tryz.func112.trans (congrArg some (by kernel_rfl))
 f225:=Tryz.func111.trans (congrArg some (by kernel_rfl))
 f266:=Tryz.func138.trans (congrArg some (by kernel_rfl))
 f267:=Tryz.func113.trans (congrArg some (by kernel_rfl))
 f314:=Tryz.func139.trans (congrArg some (by kernel_rfl))
 t3:=Tryz.underlying3
 a3:=Tryz.isAgg3
 z3:=Tryz.sizeOf3
 v3:=Tryz.zeroValue3
 t4:=Tryz.underlying4
 a4:=Tryz.isAgg4
 z4:=Tryz.sizeOf4
 v4:=Tryz.zeroValue4
 t5:=Tryz.underlying5
 a5:=Tryz.isAgg5
 z5:=Tryz.sizeOf5
 v5:=Tryz.zeroValue5
 t9:=Tryz.underlying9
 a9:=Tryz.isAgg9
 z9:=Tryz.sizeOf9
 v9:=Tryz.zeroValue9
 t46:=Tryz.underlying144
 a46:=Tryz.isAgg144
 z46:=Tryz.sizeOf144
 v46:=Tryz.zeroValue144
 t51:=Tryz.underlying158
 a51:=Tryz.isAgg158
 z51:=Tryz.sizeOf158
 v51:=Tryz.zeroValue158
 t146:=Tryz.underlying192
 a146:=Tryz.isAgg192
 z146:=Tryz.sizeOf192
 v146:=Tryz.zeroValue192
 g1:=by kernel_rfl }
open Go.RowKit Go.Lib in
theorem Tryz.stringslite_Index_one (s:ByteArray) (c:UInt8) (w:World):
  Calls Tryz.prog 84 #[.string s,.string ⟨#[c]⟩] w fun e w'=>e=.returned (.int .i64 (Lib.indexByte s.data.toList c))∧w'=w:=Any.stringslite_Index_one Tryz.lays219 s c w
open Go.RowKit Go.Lib in
theorem Tryz.stringslite_Index (s sub:ByteArray) (m:Int) (w:World) (hs:s.size<4294967281) (hm:w.cell? ⟨0,0,none⟩=some (.int .i64 m)):
  Calls Tryz.prog 84 #[.string s,.string sub] w fun e w'=>e=.returned (.int .i64 (Lib.index s.data.toList sub.data.toList))∧w'=w:=Any.stringslite_Index Tryz.lays219 s sub m w hs hm
def Tryz.lays144_ren:Go.Shelf.Ren:=⟨fun|144=>232|143=>60|219=>84|217=>110|225=>111|224=>112|267=>113|266=>138|314=>139|n=>n,fun|9=>9|4=>4|3=>3|5=>5|46=>144|146=>192|51=>158|n=>n,fun|1=>0|n=>n⟩
theorem Tryz.lays144:Go.Proofs.Lays.n144 Tryz.prog Tryz.lays144_ren:= {
 mixed:=by kernel_rfl
 f143:=Tryz.func60.trans (congrArg some (by kernel_rfl))
 f144:=Tryz.func232.trans (congrArg some (by kernel_rfl))
 f217:=Tryz.func110.trans (congrArg some (by kernel_rfl))
 f219:=Tryz.func84.trans (congrArg some (by kernel_rfl))
 f224:=Tryz.func112.trans (congrArg some (by kernel_rfl))
 f225:=Tryz.func111.trans (congrArg some (by kernel_rfl))
 f266:=Tryz.func138.trans (congrArg some (by kernel_rfl))
 f267:=Tryz.func113.trans (congrArg some (by kernel_rfl))
 f314:=Tryz.func139.trans (congrArg some (by kernel_rfl))
 t3:=Tryz.underlying3
 a3:=Tryz.isAgg3
 z3:=Tryz.sizeOf3
 v3:=Tryz.zeroValue3
 t4:=Tryz.underlying4
 a4:=Tryz.isAgg4
 z4:=Tryz.sizeOf4
 v4:=Tryz.zeroValue4
 t5:=Tryz.underlying5
 a5:=Tryz.isAgg5
 z5:=Tryz.sizeOf5
 v5:=Tryz.zeroValue5
 t9:=Tryz.underlying9
 a9:=Tryz.isAgg9
 z9:=Tryz.sizeOf9
 v9:=Tryz.zeroValue9
 t46:=Tryz.underlying144
 a46:=Tryz.isAgg144
 z46:=Tryz.sizeOf144
 v46:=Tryz.zeroValue144
 t51:=Tryz.underlying158
 a51:=Tryz.isAgg158
 z51:=Tryz.sizeOf158
 v51:=Tryz.zeroValue158
 t146:=Tryz.underlying192
 a146:=Tryz.isAgg192
 z146:=Tryz.sizeOf192
 v146:=Tryz.zeroValue192
 g1:=by kernel_rfl }
open Go.RowKit Go.Lib in
theorem Tryz.strings_Contains_one (s:ByteArray) (c:UInt8) (w:World):
  Calls Tryz.prog 232 #[.string s,.string ⟨#[c]⟩] w fun e w'=>e=.returned (.bool (decide (0≤Lib.indexByte s.data.toList c)))∧w'=w:=Any.strings_Contains_one Tryz.lays144 s c w
open Go.RowKit Go.Lib in
theorem Tryz.strings_Contains (s sub:ByteArray) (m:Int) (w:World) (hs:s.size<4294967281) (hm:w.cell? ⟨0,0,none⟩=some (.int .i64 m)):
  Calls Tryz.prog 232 #[.string s,.string sub] w fun e w'=>e=.returned (.bool (Lib.contains s.data.toList sub.data.toList))∧w'=w:=Any.strings_Contains Tryz.lays144 s sub m w hs hm
def Tryz.lays99_ren:Go.Shelf.Ren:=⟨fun|99=>26|206=>38|n=>n,fun|9=>9|4=>4|3=>3|n=>n,fun|n=>n⟩
theorem Tryz.lays99:Go.Proofs.Lays.n99 Tryz.prog Tryz.lays99_ren:= {
 mixed:=by kernel_rfl
 f99:=Tryz.func26.trans (congrArg some (by kernel_rfl))
 f206:=Tryz.func38.trans (congrArg some (by kernel_rfl))
 t3:=Tryz.underlying3
 a3:=Tryz.isAgg3
 z3:=Tryz.sizeOf3
 v3:=Tryz.zeroValue3
 t4:=Tryz.underlying4
 a4:=Tryz.isAgg4
 z4:=Tryz.sizeOf4
 v4:=Tryz.zeroValue4
 t9:=Tryz.underlying9
 a9:=Tryz.isAgg9
 z9:=Tryz.sizeOf9
 v9:=Tryz.zeroValue9 }
open Go.RowKit Go.Lib in
theorem Tryz.strings_HasPrefix (s p:ByteArray) (w:World):
  Calls Tryz.prog 26 #[.string s,.string p] w fun e w'=>e=.returned (.bool (Lib.hasPrefix s.data.toList p.data.toList))∧w'=w:=Any.strings_HasPrefix Tryz.lays99 s p w
def Tryz.lays101_ren:Go.Shelf.Ren:=⟨fun|101=>68|208=>94|206=>38|n=>n,fun|9=>9|4=>4|3=>3|n=>n,fun|n=>n⟩
theorem Tryz.lays101:Go.Proofs.Lays.n101 Tryz.prog Tryz.lays101_ren:= {
 mixed:=by kernel_rfl
 f101:=Tryz.func68.trans (congrArg some (by kernel_rfl))
 f206:=Tryz.func38.trans (congrArg some (by kernel_rfl))
 f208:=Tryz.func94.trans (congrArg some (by kernel_rfl))
 t3:=Tryz.underlying3
 a3:=Tryz.isAgg3
 z3:=Tryz.sizeOf3
 v3:=Tryz.zeroValue3
 t4:=Tryz.underlying4
 a4:=Tryz.isAgg4
 z4:=Tryz.sizeOf4
 v4:=Tryz.zeroValue4
 t9:=Tryz.underlying9
 a9:=Tryz.isAgg9
 z9:=Tryz.sizeOf9
 v9:=Tryz.zeroValue9 }
open Go.RowKit Go.Lib in
theorem Tryz.strings_TrimPrefix (s p:ByteArray) (w:World):
  Calls Tryz.prog 68 #[.string s,.string p] w fun e w'=>e=.returned (.string ⟨(Lib.trimPrefix s.data.toList p.data.toList).toArray⟩)∧w'=w:=Any.strings_TrimPrefix Tryz.lays101 s p w
def Tryz.lays102_ren:Go.Shelf.Ren:=⟨fun|102=>36|209=>47|207=>61|n=>n,fun|9=>9|4=>4|3=>3|n=>n,fun|n=>n⟩
theorem Tryz.lays102:Go.Proofs.Lays.n102 Tryz.prog Tryz.lays102_ren:= {
 mixed:=by kernel_rfl
 f102:=Tryz.func36.trans (congrArg some (by kernel_rfl))
 f207:=Tryz.func61.trans (congrArg some (by kernel_rfl))
 f209:=Tryz.func47.trans (congrArg some (by kernel_rfl))
 t3:=Tryz.underlying3
 a3:=Tryz.isAgg3
 z3:=Tryz.sizeOf3
 v3:=Tryz.zeroValue3
 t4:=Tryz.underlying4
 a4:=Tryz.isAgg4
 z4:=Tryz.sizeOf4
 v4:=Tryz.zeroValue4
 t9:=Tryz.underlying9
 a9:=Tryz.isAgg9
 z9:=Tryz.sizeOf9
 v9:=Tryz.zeroValue9 }
open Go.RowKit Go.Lib in
theorem Tryz.strings_TrimSuffix (s p:ByteArray) (w:World) (hs:s.size≤9223372036854775807):
  Calls Tryz.prog 36 #[.string s,.string p] w fun e w'=>e=.returned (.string ⟨(Lib.trimSuffix s.data.toList p.data.toList).toArray⟩)∧w'=w:=Any.strings_TrimSuffix Tryz.lays102 s p w hs
def Tryz.lays146_ren:Go.Shelf.Ren:=⟨fun|146=>35|221=>46|268=>58|138=>59|143=>60|195=>81|197=>82|218=>83|219=>84|260=>109|217=>110|225=>111|224=>112|267=>113|266=>138|314=>139|n=>n,fun|9=>9|31=>25|3=>3|4=>4|0=>0|105=>132|21=>21|5=>5|46=>144|119=>185|139=>191|138=>190|146=>192|51=>158|n=>n,fun|1=>0|3=>3|4=>4|n=>n⟩
theorem Tryz.lays146:Go.Proofs.Lays.n146 Tryz.prog Tryz.lays146_ren:= {
 mixed:=by kernel_rfl
 f138:=Tryz.func59.trans (congrArg some (by kernel_rfl))
 f143:=Tryz.func60.trans (congrArg some (by kernel_rfl))
 f146:=Tryz.func35.trans (congrArg some (by kernel_rfl))
 f195:=Tryz.func81.trans (congrArg some (by kernel_rfl))
 f197:=Tryz.func82.trans (congrArg some (by kernel_rfl))
 f217:=Tryz.func110.trans (congrArg some (by kernel_rfl))
 f218:=Tryz.func83.trans (congrArg some (by kernel_rfl))
 f219:=Tryz.func84.trans (congrArg some (by kernel_rfl))
 f221:=Tryz.func46.trans (congrArg some (by kernel_rfl))
 f224:=Tryz.func112.trans (congrArg some (by kernel_rfl))
 f225:=Tryz.func111.trans (congrArg some (by kernel_rfl))
 f260:=Tryz.func109.trans (congrArg some (by kernel_rfl))
 f266:=Tryz.func138.trans (congrArg some (by kernel_rfl))
 f267:=Tryz.func113.trans (congrArg some (by kernel_rfl))
 f268:=Tryz.func58.trans (congrArg some (by kernel_rfl))
 f314:=Tryz.func139.trans (congrArg some (by kernel_rfl))
 t0:=Tryz.underlying0
 a0:=Tryz.isAgg0
 z0:=Tryz.sizeOf0
 v0:=Tryz.zeroValue0
 t3:=Tryz.underlying3
 a3:=Tryz.isAgg3
 z3:=Tryz.sizeOf3
 v3:=Tryz.zeroValue3
 t4:=Tryz.underlying4
 a4:=Tryz.isAgg4
 z4:=Tryz.sizeOf4
 v4:=Tryz.zeroValue4
 t5:=Tryz.underlying5
 a5:=Tryz.isAgg5
 z5:=Tryz.sizeOf5
 v5:=Tryz.zeroValue5
 t9:=Tryz.underlying9
 a9:=Tryz.isAgg9
 z9:=Tryz.sizeOf9
 v9:=Tryz.zeroValue9
 t21:=Tryz.underlying21
 a21:=Tryz.isAgg21
 z21:=Tryz.sizeOf21
 v21:=Tryz.zeroValue21
 t31:=Tryz.underlying25
 a31:=Tryz.isAgg25
 z31:=Tryz.sizeOf25
 v31:=Tryz.zeroValue25
 t46:=Tryz.underlying144
 a46:=Tryz.isAgg144
 z46:=Tryz.sizeOf144
 v46:=Tryz.zeroValue144
 t51:=Tryz.underlying158
 a51:=Tryz.isAgg158
 z51:=Tryz.sizeOf158
 v51:=Tryz.zeroValue158
 t105:=Tryz.underlying132
 a105:=Tryz.isAgg132
 z105:=Tryz.sizeOf132
 v105:=Tryz.zeroValue132
 t119:=Tryz.underlying185
 a119:=Tryz.isAgg185
 z119:=Tryz.sizeOf185
 t138:=Tryz.underlying190
 a138:=Tryz.isAgg190
 z138:=Tryz.sizeOf190
 v138:=Tryz.zeroValue190
 t139:=Tryz.underlying191
 a139:=Tryz.isAgg191
 z139:=Tryz.sizeOf191
 v139:=Tryz.zeroValue191
 t146:=Tryz.underlying192
 a146:=Tryz.isAgg192
 z146:=Tryz.sizeOf192
 v146:=Tryz.zeroValue192
 g1:=by kernel_rfl
 g3:=by kernel_rfl
 g4:=by kernel_rfl }
open Go.RowKit Go.Lib in
theorem Tryz.strings_Split (s sep:ByteArray) (m:Int) (w:World) (hs:s.size<4294967281) (hm:w.cell? ⟨0,0,none⟩=some (.int .i64 m)) (h1:1≤sep.size):
  Calls Tryz.prog 35 #[.string s,.string sep] w fun e w'=>
   e=.returned (.slice (some ⟨w.heap.size,0,none⟩) (Lib.countB s sep+1) (Lib.countB s sep+1))∧w'=w.alloc (.cells ((Lib.splitB sep 0 (Lib.countB s sep) s).map Value.string).toArray 9):=Any.strings_Split Tryz.lays146 (by kernel_rfl) s sep m w hs hm h1
def Tryz.lays157_ren:Go.Shelf.Ren:=⟨fun|157=>105|229=>135|199=>136|261=>163|311=>192|312=>193|n=>n,fun|9=>9|31=>25|3=>3|5=>5|4=>4|119=>185|0=>0|40=>187|152=>221|21=>21|154=>223|51=>158|141=>225|196=>251|193=>248|198=>254|49=>252|194=>249|201=>257|226=>283|46=>144|227=>284|n=>n,fun|0=>2|6=>5|n=>n⟩
theorem Tryz.lays157:Go.Proofs.Lays.n157 Tryz.prog Tryz.lays157_ren:= {
 mixed:=by kernel_rfl
 f157:=Tryz.func105.trans (congrArg some (by kernel_rfl))
 f199:=Tryz.func136.trans (congrArg some (by kernel_rfl))
 f229:=Tryz.func135.trans (congrArg some (by kernel_rfl))
 f261:=Tryz.func163.trans (congrArg some (by kernel_rfl))
 f311:=Tryz.func192.trans (congrArg some (by kernel_rfl))
 f312:=Tryz.func193.trans (congrArg some (by kernel_rfl))
 t0:=Tryz.underlying0
 a0:=Tryz.isAgg0
 z0:=Tryz.sizeOf0
 v0:=Tryz.zeroValue0
 t3:=Tryz.underlying3
 a3:=Tryz.isAgg3
 z3:=Tryz.sizeOf3
 v3:=Tryz.zeroValue3
 t4:=Tryz.underlying4
 a4:=Tryz.isAgg4
 z4:=Tryz.sizeOf4
 v4:=Tryz.zeroValue4
 t5:=Tryz.underlying5
 a5:=Tryz.isAgg5
 z5:=Tryz.sizeOf5
 v5:=Tryz.zeroValue5
 t9:=Tryz.underlying9
 a9:=Tryz.isAgg9
 z9:=Tryz.sizeOf9
 v9:=Tryz.zeroValue9
 t21:=Tryz.underlying21
 a21:=Tryz.isAgg21
 z21:=Tryz.sizeOf21
 v21:=Tryz.zeroValue21
 t31:=Tryz.underlying25
 a31:=Tryz.isAgg25
 z31:=Tryz.sizeOf25
 v31:=Tryz.zeroValue25
 t40:=Tryz.underlying187
 a40:=Tryz.isAgg187
 z40:=Tryz.sizeOf187
 v40:=Tryz.zeroValue187
 t46:=Tryz.underlying144
 a46:=Tryz.isAgg144
 z46:=Tryz.sizeOf144
 v46:=Tryz.zeroValue144
 t49:=Tryz.underlying252
 a49:=Tryz.isAgg252
 z49:=Tryz.sizeOf252
 v49:=Tryz.zeroValue252
 t51:=Tryz.underlying158
 a51:=Tryz.isAgg158
 z51:=Tryz.sizeOf158
 v51:=Tryz.zeroValue158
 t119:=Tryz.underlying185
 a119:=Tryz.isAgg185
 z119:=Tryz.sizeOf185
 t141:=Tryz.underlying225
 a141:=Tryz.isAgg225
 z141:=Tryz.sizeOf225
 v141:=Tryz.zeroValue225
 t152:=Tryz.underlying221
 a152:=Tryz.isAgg221
 z152:=Tryz.sizeOf221
 v152:=Tryz.zeroValue221
 t154:=Tryz.underlying223
 a154:=Tryz.isAgg223
 z154:=Tryz.sizeOf223
 v154:=Tryz.zeroValue223
 t193:=Tryz.underlying248
 a193:=Tryz.isAgg248
 z193:=Tryz.sizeOf248
 v193:=Tryz.zeroValue248
 t194:=Tryz.underlying249
 a194:=Tryz.isAgg249
 z194:=Tryz.sizeOf249
 v194:=Tryz.zeroValue249
 t196:=Tryz.underlying251
 a196:=Tryz.isAgg251
 z196:=Tryz.sizeOf251
 v196:=Tryz.zeroValue251
 t198:=Tryz.underlying254
 a198:=Tryz.isAgg254
 z198:=Tryz.sizeOf254
 v198:=Tryz.zeroValue254
 t201:=Tryz.underlying257
 a201:=Tryz.isAgg257
 z201:=Tryz.sizeOf257
 v201:=Tryz.zeroValue257
 t226:=Tryz.underlying283
 a226:=Tryz.isAgg283
 z226:=Tryz.sizeOf283
 v226:=Tryz.zeroValue283
 t227:=Tryz.underlying284
 a227:=Tryz.isAgg284
 z227:=Tryz.sizeOf284
 v227:=Tryz.zeroValue284
 g0:=by kernel_rfl
 g6:=by kernel_rfl }
open Go.RowKit Go.Lib in
theorem Tryz.strings_Fields (s:ByteArray) (w:World) (hs:s.size<4294967281) (hascii: ∀(j:Nat) b,s.data.toList[j]?=some b→b.toNat<128) (htab:Lib.TabIs Tryz.prog w "strings.asciiSpace" .u8 Lib.asciiSpaceTab):
  Calls Tryz.prog 105 #[.string s] w fun e w'=>
   e=.returned (.slice (some ⟨w.heap.size,0,none⟩) (Lib.fields s.data.toList).length (Lib.fields s.data.toList).length)∧w'=w.alloc (.cells ((Lib.fields s.data.toList).map fun l=>Value.string ⟨l.toArray⟩).toArray 9):=Any.strings_Fields Tryz.lays157 (by kernel_rfl) (by kernel_rfl) s w hs hascii htab
def Tryz.lays152_ren:Go.Shelf.Ren:=⟨fun|152=>257|137=>222|119=>282|224=>112|225=>111|217=>110|266=>138|n=>n,fun|9=>9|21=>21|3=>3|4=>4|5=>5|0=>0|46=>144|n=>n,fun|n=>n⟩
theorem Tryz.lays152:Go.Proofs.Lays.n152 Tryz.prog Tryz.lays152_ren:= {
 mixed:=by kernel_rfl
 f119:=Tryz.func282.trans (congrArg some (by kernel_rfl))
 f137:=Tryz.func222.trans (congrArg some (by kernel_rfl))
 f152:=Tryz.func257.trans (congrArg some (by kernel_rfl))
 f217:=Tryz.func110.trans (congrArg some (by kernel_rfl))
 f224:=Tryz.func112.trans (congrArg some (by kernel_rfl))
 f225:=Tryz.func111.trans (congrArg some (by kernel_rfl))
 f266:=Tryz.func138.trans (congrArg some (by kernel_rfl))
 t0:=Tryz.underlying0
 a0:=Tryz.isAgg0
 z0:=Tryz.sizeOf0
 v0:=Tryz.zeroValue0
 t3:=Tryz.underlying3
 a3:=Tryz.isAgg3
 z3:=Tryz.sizeOf3
 v3:=Tryz.zeroValue3
 t4:=Tryz.underlying4
 a4:=Tryz.isAgg4
 z4:=Tryz.sizeOf4
 v4:=Tryz.zeroValue4
 t5:=Tryz.underlying5
 a5:=Tryz.isAgg5
 z5:=Tryz.sizeOf5
 v5:=Tryz.zeroValue5
 t9:=Tryz.underlying9
 a9:=Tryz.isAgg9
 z9:=Tryz.sizeOf9
 v9:=Tryz.zeroValue9
 t21:=Tryz.underlying21
 a21:=Tryz.isAgg21
 z21:=Tryz.sizeOf21
 v21:=Tryz.zeroValue21
 t46:=Tryz.underlying144
 a46:=Tryz.isAgg144
 z46:=Tryz.sizeOf144
 v46:=Tryz.zeroValue144 }
open Go.RowKit Go.Lib in
theorem Tryz.strings_IndexRune_ascii (s:ByteArray) (r:Int) (w:World) (h0:0≤r) (h1:r<128):
  Calls Tryz.prog 257 #[.string s,.int .i32 r] w fun e w'=>e=.returned (.int .i64 (Lib.indexByte s.data.toList r.toNat.toUInt8))∧w'=w:=Any.strings_IndexRune_ascii Tryz.lays152 s r w h0 h1
def Tryz.lays153_ren:Go.Shelf.Ren:=⟨fun|153=>225|152=>257|226=>258|227=>259|228=>260|137=>222|119=>282|224=>112|225=>111|217=>110|266=>138|n=>n,fun|9=>9|3=>3|4=>4|5=>5|21=>21|117=>311|116=>310|0=>0|46=>144|124=>322|n=>n,fun|n=>n⟩
theorem Tryz.lays153:Go.Proofs.Lays.n153 Tryz.prog Tryz.lays153_ren:= {
 mixed:=by kernel_rfl
 f119:=Tryz.func282.trans (congrArg some (by kernel_rfl))
 f137:=Tryz.func222.trans (congrArg some (by kernel_rfl))
 f152:=Tryz.func257.trans (congrArg some (by kernel_rfl))
 f153:=Tryz.func225.trans (congrArg some (by kernel_rfl))
 f217:=Tryz.func110.trans (congrArg some (by kernel_rfl))
 f224:=Tryz.func112.trans (congrArg some (by kernel_rfl))
 f225:=Tryz.func111.trans (congrArg some (by kernel_rfl))
 f226:=Tryz.func258.trans (congrArg some (by kernel_rfl))
 f227:=Tryz.func259.trans (congrArg some (by kernel_rfl))
 f228:=Tryz.func260.trans (congrArg some (by kernel_rfl))
 f266:=Tryz.func138.trans (congrArg some (by kernel_rfl))
 t0:=Tryz.underlying0
 a0:=Tryz.isAgg0
 z0:=Tryz.sizeOf0
 v0:=Tryz.zeroValue0
 t3:=Tryz.underlying3
 a3:=Tryz.isAgg3
 z3:=Tryz.sizeOf3
 v3:=Tryz.zeroValue3
 t4:=Tryz.underlying4
 a4:=Tryz.isAgg4
 z4:=Tryz.sizeOf4
 v4:=Tryz.zeroValue4
 t5:=Tryz.underlying5
 a5:=Tryz.isAgg5
 z5:=Tryz.sizeOf5
 v5:=Tryz.zeroValue5
 t9:=Tryz.underlying9
 a9:=Tryz.isAgg9
 z9:=Tryz.sizeOf9
 v9:=Tryz.zeroValue9
 t21:=Tryz.underlying21
 a21:=Tryz.isAgg21
 z21:=Tryz.sizeOf21
 v21:=Tryz.zeroValue21
 t46:=Tryz.underlying144
 a46:=Tryz.isAgg144
 z46:=Tryz.sizeOf144
 v46:=Tryz.zeroValue144
 t116:=Tryz.underlying310
 a116:=Tryz.isAgg310
 z116:=Tryz.sizeOf310
 t117:=Tryz.underlying311
 a117:=Tryz.isAgg311
 z117:=Tryz.sizeOf311
 v117:=Tryz.zeroValue311
 t124:=Tryz.underlying322
 a124:=Tryz.isAgg322
 z124:=Tryz.sizeOf322
 v124:=Tryz.zeroValue322 }
open Go.RowKit Go.Lib in
theorem Tryz.strings_IndexAny_none (s chars:ByteArray) (w:World) (h0:chars.size=0):
  Calls Tryz.prog 225 #[.string s,.string chars] w fun e w'=>e=.returned (.int .i64 (Lib.indexAny s.data.toList chars.data.toList))∧w'=w:=Any.strings_IndexAny_none Tryz.lays153 s chars w h0
open Go.RowKit Go.Lib in
theorem Tryz.strings_IndexAny_one (s chars:ByteArray) (w:World) (h1:chars.size=1) (hascii: ∀(j:Nat) b,chars.data.toList[j]?=some b→b.toNat<128):
  Calls Tryz.prog 225 #[.string s,.string chars] w fun e w'=>e=.returned (.int .i64 (Lib.indexAny s.data.toList chars.data.toList))∧w'=w:=Any.strings_IndexAny_one Tryz.lays153 s chars w h1 hascii
open Go.RowKit Go.Lib in
theorem Tryz.strings_IndexAny_long (hv116: ∀w,(zeroValue 310).run Tryz.prog w=.ok (.agg (Array.replicate 256 (.bool false))) w) (s chars:ByteArray) (w:World) (h2:2≤chars.size) (h8:8<s.size) (hs:s.size<4294967281) (hcs:chars.size<4294967281) (hascii: ∀(j:Nat) b,chars.data.toList[j]?=some b→b.toNat<128):
  Calls Tryz.prog 225 #[.string s,.string chars] w fun e w'=>e=.returned (.int .i64 (Lib.indexAny s.data.toList chars.data.toList))∧w'=((w.alloc (.cells (Lib.setCells chars.data.toList) 310)).alloc (.cells (Lib.setCells chars.data.toList) 310)):=Any.strings_IndexAny_long Tryz.lays153 hv116 (by kernel_rfl) s chars w h2 h8 hs hcs hascii
def Tryz.lays105_ren:Go.Shelf.Ren:=⟨fun|105=>449|212=>469|99=>26|165=>137|166=>53|170=>470|169=>56|263=>480|264=>481|206=>38|240=>74|241=>164|276=>99|277=>194|n=>n,fun|9=>9|3=>3|4=>4|20=>20|0=>0|46=>144|109=>410|5=>5|72=>96|76=>99|51=>158|146=>192|53=>60|148=>418|70=>93|37=>94|75=>98|127=>130|164=>147|80=>103|n=>n,fun|n=>n⟩
theorem Tryz.lays105:Go.Proofs.Lays.n105 Tryz.prog Tryz.lays105_ren:= {
 mixed:=by kernel_rfl
 f99:=Tryz.func26.trans (congrArg some (by kernel_rfl))
 f105:=Tryz.func449.trans (congrArg some (by kernel_rfl))
 f165:=Tryz.func137.trans (congrArg some (by kernel_rfl))
 f166:=Tryz.func53.trans (congrArg some (by kernel_rfl))
 f169:=Tryz.func56.trans (congrArg some (by kernel_rfl))
 f170:=Tryz.func470.trans (congrArg some (by kernel_rfl))
 f206:=Tryz.func38.trans (congrArg some (by kernel_rfl))
 f212:=Tryz.func469.trans (congrArg some (by kernel_rfl))
 f240:=Tryz.func74.trans (congrArg some (by kernel_rfl))
 f241:=Tryz.func164.trans (congrArg some (by kernel_rfl))
 f263:=Tryz.func480.trans (congrArg some (by kernel_rfl))
 f264:=Tryz.func481.trans (congrArg some (by kernel_rfl))
 f276:=Tryz.func99.trans (congrArg some (by kernel_rfl))
 f277:=Tryz.func194.trans (congrArg some (by kernel_rfl))
 t0:=Tryz.underlying0
 a0:=Tryz.isAgg0
 z0:=Tryz.sizeOf0
 v0:=Tryz.zeroValue0
 t3:=Tryz.underlying3
 a3:=Tryz.isAgg3
 z3:=Tryz.sizeOf3
 v3:=Tryz.zeroValue3
 t4:=Tryz.underlying4
 a4:=Tryz.isAgg4
 z4:=Tryz.sizeOf4
 v4:=Tryz.zeroValue4
 t5:=Tryz.underlying5
 a5:=Tryz.isAgg5
 z5:=Tryz.sizeOf5
 v5:=Tryz.zeroValue5
 t9:=Tryz.underlying9
 a9:=Tryz.isAgg9
 z9:=Tryz.sizeOf9
 v9:=Tryz.zeroValue9
 t20:=Tryz.underlying20
 a20:=Tryz.isAgg20
 z20:=Tryz.sizeOf20
 v20:=Tryz.zeroValue20
 t37:=Tryz.underlying94
 a37:=Tryz.isAgg94
 z37:=Tryz.sizeOf94
 v37:=Tryz.zeroValue94
 t46:=Tryz.underlying144
 a46:=Tryz.isAgg144
 z46:=Tryz.sizeOf144
 v46:=Tryz.zeroValue144
 t51:=Tryz.underlying158
 a51:=Tryz.isAgg158
 z51:=Tryz.sizeOf158
 v51:=Tryz.zeroValue158
 t53:=Tryz.underlying60
 a53:=Tryz.isAgg60
 z53:=Tryz.sizeOf60
 v53:=Tryz.zeroValue60
 t70:=Tryz.underlying93
 a70:=Tryz.isAgg93
 z70:=Tryz.sizeOf93
 v70:=Tryz.zeroValue93
 t72:=Tryz.underlying96
 a72:=Tryz.isAgg96
 z72:=Tryz.sizeOf96
 v72:=Tryz.zeroValue96
 t75:=Tryz.underlying98
 a75:=Tryz.isAgg98
 z75:=Tryz.sizeOf98
 v75:=Tryz.zeroValue98
 t76:=Tryz.underlying99
 a76:=Tryz.isAgg99
 z76:=Tryz.sizeOf99
 v76:=Tryz.zeroValue99
 t109:=Tryz.underlying410
 a109:=Tryz.isAgg410
 z109:=Tryz.sizeOf410
 v109:=Tryz.zeroValue410
 t127:=Tryz.underlying130
 a127:=Tryz.isAgg130
 z127:=Tryz.sizeOf130
 v127:=Tryz.zeroValue130
 t146:=Tryz.underlying192
 a146:=Tryz.isAgg192
 z146:=Tryz.sizeOf192
 v146:=Tryz.zeroValue192
 t148:=Tryz.underlying418
 a148:=Tryz.isAgg418
 z148:=Tryz.sizeOf418
 v148:=Tryz.zeroValue418
 t164:=Tryz.underlying147
 a164:=Tryz.isAgg147
 z164:=Tryz.sizeOf147
 v164:=Tryz.zeroValue147 }
theorem Tryz.Builder_Extra_105:Builder.Extra Tryz.prog Tryz.lays105_ren:= {
 sizeBuilder:=by kernel_rfl
 liesBuilder:=by kernel_rfl
 t5:=Tryz.underlying5
 a5:=Tryz.isAgg5
 z5:=Tryz.sizeOf5
 v5:=Tryz.zeroValue5
 infoByte:=by kernel_rfl
 cellsByte:=by kernel_rfl
 sizeByte:=by kernel_rfl
 neB5:=by decide }
open Go.RowKit Go.Lib in
theorem Tryz.strings_Repeat (s:ByteArray) (c:Nat) (w:World) (hc:c≤9223372036854775807) (hlen:s.size*c≤140737488355328):
  Calls Tryz.prog 449 #[.string s,.int .i64 c] w fun e w'=>e=.returned (.string ⟨(Lib.repeatL s.data.toList c).toArray⟩)∧Below w.heap.size w w':=Any.strings_Repeat Tryz.lays105 Tryz.Builder_Extra_105 s c w hc hlen
end Go.Proofs
set_option maxRecDepth 1000000
namespace Tg.Lo
def low (b:UInt8):UInt8:=if(65:Int)≤b.toNat∧(b.toNat:Int)≤90 then b+32 else b
def lower (s:List UInt8):List UInt8:=s.map low
end Tg.Lo
namespace Go.Proofs.YteeiipildjgdbaaGreatDoor
open Go.RowKit Go.Lib Go.Tg
theorem low_w (b:UInt8) (w:World):Calls Tryz.prog 298 #[.int .u8 b.toNat] w fun e w'=>e=.returned (.int .u8 (Tg.Lo.low b).toNat)∧w'=w:=by
 have hlt:=b.toNat_lt
 have e1:(65:Int)≤b.toNat∧(b.toNat:Int)≤90→(b+32).toNat=b.toNat+32:=fun h=>by rw [UInt8.toNat_add];show(b.toNat+32)%256=_;omega
 by_cases h1:(65:Int)≤b.toNat
 ·by_cases h2:(b.toNat:Int)≤90
  ·have e:=e1 ⟨h1,h2⟩
   have hl:(Tg.Lo.low b).toNat=b.toNat+32:=by unfold Tg.Lo.low;rw [if_pos ⟨h1,h2⟩,e]
   rw [hl]
   go_enter Tryz.func298,Tryz.ntmps298
   go_wp2
   go_ret
   exact⟨by rw [show((b.toNat+32:Nat):Int)=(b.toNat:Int)+32 by omega];rfl,rfl⟩
  ·have hl:(Tg.Lo.low b).toNat=b.toNat:=by unfold Tg.Lo.low;rw [if_neg (fun h=>h2 h.2)]
   rw [hl]
   go_enter Tryz.func298,Tryz.ntmps298
   go_wp2
   go_ret
   exact⟨rfl,rfl⟩
 ·have hl:(Tg.Lo.low b).toNat=b.toNat:=by unfold Tg.Lo.low;rw [if_neg (fun h=>h1 h.1)]
  rw [hl]
  go_enter Tryz.func298,Tryz.ntmps298
  go_wp2
  go_ret
  exact⟨rfl,rfl⟩
def LowAt (k:Nat) (s:List UInt8) (i:Nat) (w w':World):Prop:=
 ∃arr f,w'.heap[k]?=some (.cells arr 5 (f,f+1))∧arr.size=f∧s.length≤f∧(∀(j:Nat) b,s[j]?=some b→arr[j]?=some (.int .u8 (if j<i then(Tg.Lo.low b).toNat else b.toNat:Nat)))∧Change (fun _=>False) w w'
set_option maxHeartbeats 4000000 in
theorem lower_w (s:ByteArray) (w:World) (hs:s.size≤maxLen):Calls Tryz.prog 283 #[.string s] w fun e w'=>e=.returned (.string ⟨(Tg.Lo.lower s.data.toList).toArray⟩)∧Change (fun _=>False) w w':=by
 have t3:=Tryz.underlying3
 have t4:=Tryz.underlying4
 have t5:=Tryz.underlying5
 have t9:=Tryz.underlying9
 have t81:=Tryz.underlying94
 have hcv:=Lib.run_convert_string_bytes w 9 94 5 s t9 t81 t5
 go_enter Tryz.func283,Tryz.ntmps283
 go_wp2
 go_loopg [9,4] s.size (fun g p _ wr=> ∃i:Nat,i+g=s.size∧p=.int .i64 i∧LowAt w.heap.size s.data.toList i w wr)
 case atStart=>
  refine⟨0,by omega,rfl,Lib.bytesCells w 5 s,(Lib.bytesCells w 5 s).size,Lib.bytesWorld_at_new w 5 s,rfl,?_,?_,?_⟩
  ·simp [Lib.bytesCells,←Lib.size_eq]
  ·intro j b hb
   have hj:j<s.size:=by have:=(List.getElem?_eq_some_iff.1 hb).1;rw [Lib.size_eq];exact this
   unfold Lib.bytesCells
   rw [Array.getElem?_append_left (by simpa using hj),Array.getElem?_map,←Array.getElem?_toList,hb]
   simp
  ·refine⟨?_,?_,?_,by rw [Lib.bytesWorld_size];omega,fun k hk _=>Lib.bytesWorld_at_old w 5 s k hk⟩<;>(unfold Lib.bytesWorld World.freeze;split<;>rfl)
 case round=>
  obtain⟨i,hig,rfl,hlow⟩:=hrel
  have HL:Aside (LowAt w.heap.size s.data.toList i w wr):=hlow
  cases gk with
  |zero=>
   obtain rfl:i=s.size:=by omega
   obtain⟨arr,f,h1,h2,h3,h4,h5⟩:=hlow
   have hlen:(Tg.Lo.lower s.data.toList).length=s.size:=by rw [Lib.size_eq];simp [Tg.Lo.lower]
   have hcs:=run_convert_bytes_back (P:=Tryz.prog) wr 94 9 5 ⟨w.heap.size,0,none⟩ (grownCap w s.size 0 5) (Tg.Lo.lower s.data.toList) t81 t5 t9 (fun j hj=>by
    have hj2:j<s.data.toList.length:=by rw [Lib.size_eq]at hlen;omega
    have:=h4 j _ (List.getElem?_eq_getElem hj2)
    rw [if_pos (by rw [Lib.size_eq];exact hj2)]at this
    have e:((⟨w.heap.size,0,none⟩:Addr).add j)=⟨w.heap.size,j,none⟩:=by
     unfold Addr.add;split
     ·rename_i hz;subst hz;rfl
     ·simp
    rw [e]
    simp only [World.cell?,h1]
    rw [show(if(none:Option Nat).isSome=true then none else arr[j]?)=arr[j]? from rfl,this]
    simp [Tg.Lo.lower])
   rw [hlen]at hcs
   have HC:Aside (Change (fun _=>False) w wr):=h5
   clear h1 h2 h3 h4 h5 HL
   go_wp2
   go_ret
   exact⟨rfl,HC.out⟩
  |succ g=>
   have hi:i<s.size:=by omega
   obtain⟨x,hx⟩: ∃x:UInt8,s[i]'hi=x:=⟨_,rfl⟩
   have hxl:s.data.toList[i]?=some x:=by rw [←hx];exact Lib.data_getElem? s i hi
   obtain⟨arr,f,h1,h2,h3,h4,h5⟩:=hlow
   have hc:=h4 i x hxl
   rw [if_neg (Nat.lt_irrefl i)]at hc
   have hcell:wr.cell? ⟨w.heap.size,i,none⟩=some (.int .u8 x.toNat):=by simp [World.cell?,h1,hc]
   have hfz:wr.frozen? ⟨w.heap.size,i,none⟩=false:=by
    have:i<f:=by rw [Lib.size_eq]at hi;omega
    simp [World.frozen?,h1];omega
   have HL2:Aside (LowAt w.heap.size s.data.toList (i+1) w (wr.setCell ⟨w.heap.size,i,none⟩ (.int .u8 (Tg.Lo.low x).toNat))):=by
    refine⟨arr.setIfInBounds i (.int .u8 (Tg.Lo.low x).toNat),f,by simp [World.setCell,Array.getElem?_modify,h1],by simp [h2],h3,fun j b hb=>?_,?_⟩
    ·by_cases hji:j=i
     ·subst hji
      rw [hxl]at hb
      injection hb with hb
      subst hb
      rw [Array.getElem?_setIfInBounds_self_of_lt (by rw [Lib.size_eq]at hi;omega),if_pos (Nat.lt_succ_self _)]
     ·rw [Array.getElem?_setIfInBounds_ne (fun e=>hji e.symm),h4 j b hb]
      by_cases hj:j<i
      ·rw [if_pos hj,if_pos (by omega)]
      ·rw [if_neg hj,if_neg (by omega)]
    ·refine⟨h5.os,h5.tape,h5.output,by simp [World.setCell];exact h5.size,fun k hk hn=>?_⟩
     rw [←h5.block k hk hn]
     simp only [World.setCell,Array.getElem?_modify]
     rw [if_neg (by omega)]
   have hw1:wrap64 ((i:Int)+1)=((i+1:Nat):Int):=by
    rw [IntWalk.wrap64_in _ ⟨by omega,by unfold maxLen at hs;omega⟩];omega
   clear h1 h2 h3 h4 h5 hc hxl hx
   go_wp2_with (go_at_call 298;refine(low_w x _).mono ?_;rintro e w' ⟨rfl,hw⟩;rw [hw])
   go_roundg g
   case measure=>omega
   case rel=>exact⟨i+1,by omega,by rw [hw1],HL2.out⟩
end Go.Proofs.YteeiipildjgdbaaGreatDoor
namespace Go.Lg
theorem u8eq (b:UInt8) (n:Nat) (hn:n<256):((b.toNat:Int)=n)=(b=UInt8.ofNat n):=by
 have:=b.toNat_lt
 apply propext
 constructor
 ·intro h
  apply UInt8.toNat_inj.1
  simp;omega
 ·rintro rfl
  simp;omega
section
variable {b:UInt8}
@[simp] theorem u8qn {n:Nat} (hn:n<256):((b.toNat:Int)=no_index (@OfNat.ofNat Int n instOfNat))=(b=UInt8.ofNat n):=u8eq b n hn
@[simp] theorem u8q0:((b.toNat:Int)=0)=(b=0):=u8eq b 0 (by decide)
@[simp] theorem u8lt:((b.toNat:Int)<256)=True:=by simp;have:=b.toNat_lt;omega
end
end Go.Lg
namespace Go.Proofs.YteeiipildjgdbaaGreatDoor
open Go.RowKit Go.Lib Go.Tg
set_option maxHeartbeats 4000000 in
theorem idxRune_bad (s:ByteArray) (w:World) (hascii: ∀(j:Nat) b,s.data.toList[j]?=some b→b.toNat<128):
  Calls Tryz.prog 257 #[.string s,.int .i32 65533] w fun e w'=>e=.returned (.int .i64 (-1))∧ ∃pos,w'=w.iter s pos:=by
 have HA:Aside (∀(j:Nat) b,s.data.toList[j]?=some b→b.toNat<128):=hascii
 clear hascii
 go_enter Tryz.func257,Tryz.ntmps257
 go_wp2
 go_loopg [5,6] s.size (fun g _ _ wr=> ∃i:Nat,i+g=s.size∧wr=w.iter s i)
 case atStart=>exact⟨0,by omega,rfl⟩
 case round=>
  obtain⟨i,hig,rfl⟩:=hrel
  cases gk with
  |zero=>
   obtain rfl:i=s.size:=by omega
   have hnx:=fun ty=>run_next_end (P:=Tryz.prog) w s s.size ty
   go_wp2
   go_ret
   exact⟨rfl,_,rfl⟩
  |succ g=>
   have hi:i<s.size:=by omega
   obtain⟨x,hx⟩: ∃x:UInt8,s[i]'hi=x:=⟨_,rfl⟩
   have hxl:s.data.toList[i]?=some x:=by rw [←hx];exact Lib.data_getElem? s i hi
   have hx128:x.toNat<128:=HA.out i x hxl
   have hnx:=fun ty=>run_next_ascii (P:=Tryz.prog) w s i ty hi (by rw [hx];exact hx128)
   rw [hx]at hnx
   have hne:((x.toNat:Int)==65533)=false:=beq_eq_false_iff_ne.2 (by omega)
   go_wp2
   go_roundg g
   case measure=>omega
   case rel=>exact⟨i+1,by omega,rfl⟩
theorem change_iterAt {w wr:World} {k p:Nat} {s:ByteArray} (h:Change (fun _=>False) w wr) (hk:w.heap.size≤k):Change (fun _=>False) w (wr.iterAt k s p):=
 ⟨h.os,h.tape,h.output,by simp only [World.iterAt,Array.size_setIfInBounds];exact h.size,fun j hj hs=>by
  have e:(wr.iterAt k s p).heap[j]?=wr.heap[j]?:=by simp only [World.iterAt];rw [Array.getElem?_setIfInBounds_ne (by omega)]
  rw [e];exact h.block j hj hs⟩
theorem high_decode (s:ByteArray) (i:Nat) (h:i<s.size) (h128:128≤(s[i]'h).toNat):
  128≤(Utf8.decode s i).1∧(Utf8.decode s i).1≤1114111∧Lib.validRune ((Utf8.decode s i).1:Int)=true∧1≤(Utf8.decode s i).2∧i+(Utf8.decode s i).2≤s.size∧ ∀j b,i≤j→j<i+(Utf8.decode s i).2→s.data.toList[j]?=some b→128≤b.toNat:=by
 have hg: ∀j b,s.data.toList[j]?=some b→(s.get! j).toNat=b.toNat:=fun j b hb=>by
  have hj:j<s.size:=by have:=(List.getElem?_eq_some_iff.1 hb).1;rw [Lib.size_eq];exact this
  have:=Lib.data_getElem? s j hj
  rw [hb]at this
  injection this with this
  rw [this]
  simp [ByteArray.get!,getElem!_pos,hj]
  rfl
 have h0:(s.get! i).toNat=(s[i]'h).toNat:=hg i _ (Lib.data_getElem? s i h)
 have hv:=decodeN_valid (s.size-i) (s.get! i).toNat (s.get! (i+1)).toNat (s.get! (i+2)).toNat (s.get! (i+3)).toNat (UInt8.toNat_lt _)
 have hle:=decodeN_width_le (s.size-i) (s.get! i).toNat (s.get! (i+1)).toNat (s.get! (i+2)).toNat (s.get! (i+3)).toNat (by omega)
 have hpos:=Lib.decode_width_pos s i h
 rw [←decode_at]at hv hle
 have key:128≤(Utf8.decode s i).1∧(1<(Utf8.decode s i).2→128≤(s.get! (i+1)).toNat)∧(2<(Utf8.decode s i).2→128≤(s.get! (i+2)).toNat)∧(3<(Utf8.decode s i).2→128≤(s.get! (i+3)).toNat)∧(Utf8.decode s i).2≤4:=by
  rw [decode_at]
  rw [←h0]at h128
  clear hv hle hpos hg h0
  generalize (s.get! i).toNat=b0 at*
  generalize (s.get! (i+1)).toNat=b1 at*
  generalize (s.get! (i+2)).toNat=b2 at*
  generalize (s.get! (i+3)).toNat=b3 at*
  unfold decodeN
  repeat' split
  all_goals (simp only;omega)
 obtain⟨k1,k2,k3,k4,k5⟩:=key
 refine⟨k1,by omega,?_,hpos,by omega,fun j b hj hj2 hb=>?_⟩
 ·simp only [Lib.validRune,decide_eq_true_eq];omega
 ·have:=hg j b hb
  have hj3:j=i∨j=i+1∨j=i+2∨j=i+3:=by omega
  rcases hj3 with rfl|rfl|rfl|rfl
  ·rw [←this,h0];exact h128
  ·rw [←this];exact k2 (by omega)
  ·rw [←this];exact k3 (by omega)
  ·rw [←this];exact k4 (by omega)
set_option maxHeartbeats 8000000 in
theorem idxAny_short (hR: ∀(s:ByteArray) (r:Int) (w:World),128≤r→Lib.validRune r=true→s.size<4294967281→(∀(j:Nat) b,s.data.toList[j]?=some b→b.toNat<128)→Calls Tryz.prog 257 #[.string s,.int .i32 r] w fun e w'=>e=.returned (.int .i64 (-1))∧Change (fun _=>False) w w') (s chars:ByteArray) (w:World) (h2:2≤chars.size) (h8:s.size≤8) (hcs:chars.size<4294967281) (hascii: ∀(j:Nat) b,chars.data.toList[j]?=some b→b.toNat<128):
  Calls Tryz.prog 225 #[.string s,.string chars] w fun e w'=>e=.returned (.int .i64 (Lib.indexAny s.data.toList chars.data.toList))∧Change (fun _=>False) w w':=by
 have HA:Aside (∀(j:Nat) b,chars.data.toList[j]?=some b→b.toNat<128):=hascii
 clear hascii
 have hemp:chars.toList.isEmpty=false:=by
  rw [Lib.toList_data]
  cases h:chars.data.toList with
  |nil=>have:=Lib.size_eq chars;rw [h,List.length_nil]at this;omega
  |cons _ _=>rfl
 have hn1:((chars.size:Int)==1)=false:=beq_eq_false_iff_ne.2 (by omega)
 have h8z:decide ((8:Int)<(s.size:Int))=false:=decide_eq_false (by omega)
 have t3:=Tryz.underlying3
 have t4:=Tryz.underlying4
 have t5:=Tryz.underlying5
 have t9:=Tryz.underlying9
 have t21:=Tryz.underlying21
 go_enter Tryz.func225,Tryz.ntmps225
 go_wp2
 go_loopg [9,10] s.size (fun g _ _ wr=> ∃i:Nat,i+g=s.size∧wr.heap[w.heap.size]?=some (.stringIter s i)∧Change (fun _=>False) w wr∧Lib.NoAny s.data.toList chars.data.toList i)
 case atStart=>exact⟨0,by omega,World.iter_heap _ _ _,(Change.refl _ w).alloc _,Lib.NoAny.zero _ _⟩
 case round=>
  obtain⟨i,hig,hk,hch,hno⟩:=hrel
  have HN:Aside (Lib.NoAny s.data.toList chars.data.toList i):=hno
  have HC:Aside (Change (fun _=>False) w wr):=hch
  clear hno hch
  cases gk with
  |zero=>
   have hi: ¬i<s.size:=by omega
   have hnx:=fun ty=>run_next_end_at (P:=Tryz.prog) wr w.heap.size s i ty hk hi
   have HK:Aside (wr.heap[w.heap.size]?=some (.stringIter s i)):=hk
   clear hk
   go_wp2
   go_ret
   exact⟨by rw [Lib.indexAny_none (by rw [←Lib.size_eq,show s.size=i by omega];exact HN.out)];rfl,HC.out⟩
  |succ g=>
   have hi:i<s.size:=by omega
   obtain⟨x,hx⟩: ∃x:UInt8,s[i]'hi=x:=⟨_,rfl⟩
   have hxl:s.data.toList[i]?=some x:=by rw [←hx];exact Lib.data_getElem? s i hi
   by_cases hx128:x.toNat<128
   ·have hnx:=fun ty=>run_next_ascii_at (P:=Tryz.prog) wr w.heap.size s i ty hk hi (by rw [hx];exact hx128)
    rw [hx]at hnx
    have HK2:Aside ((wr.iterAt w.heap.size s (i+1)).heap[w.heap.size]?=some (.stringIter s (i+1))∧Change (fun _=>False) w (wr.iterAt w.heap.size s (i+1))):=⟨iterAt_heap _ _ _ _ _ hk,change_iterAt HC.out (Nat.le_refl _)⟩
    have Hx:Aside (s.data.toList[i]?=some x):=hxl
    clear hxl hx hk
    have hcon:=Lib.contains_iff_indexByte chars.data.toList x
    have hback:((x.toNat:Int)).toNat.toUInt8=x:=by simp
    generalize wr.iterAt w.heap.size s (i+1)=wy at*
    cases hin:chars.data.toList.contains x
    ·rw [hin]at hcon
     have hlt: ¬((0:Int)≤Lib.indexByte chars.data.toList x):=of_decide_eq_false hcon.symm
     clear hcon
     go_wp2_with (go_at_call 257;refine(Tryz.strings_IndexRune_ascii _ _ _ (by omega) (by omega)).mono ?_;rintro e w' ⟨rfl,hw⟩;rw [hw,hback])
     go_roundg g
     case measure=>omega
     case rel=>exact⟨i+1,by omega,HK2.out.1,HK2.out.2,HN.out.succ Hx.out hin⟩
    ·rw [hin]at hcon
     have hge:(0:Int)≤Lib.indexByte chars.data.toList x:=of_decide_eq_true hcon.symm
     clear hcon
     go_wp2_with (go_at_call 257;refine(Tryz.strings_IndexRune_ascii _ _ _ (by omega) (by omega)).mono ?_;rintro e w' ⟨rfl,hw⟩;rw [hw,hback])
     go_ret
     exact⟨by rw [Lib.indexAny_hit HN.out Hx.out hin];rfl,HK2.out.2⟩
   ·obtain⟨d1,d2,d3,d4,d5,d6⟩:=high_decode s i hi (by rw [hx];omega)
    have hnx:=fun ty=>run_next_any_at (P:=Tryz.prog) wr w.heap.size s i ty hk hi
    generalize Utf8.decode s i=dk at*
    obtain⟨r,kk⟩:=dk
    dsimp only at d1 d2 d3 d4 d5 d6 hnx
    have HK2:Aside ((wr.iterAt w.heap.size s (i+kk)).heap[w.heap.size]?=some (.stringIter s (i+kk))∧Change (fun _=>False) w (wr.iterAt w.heap.size s (i+kk))):=⟨iterAt_heap _ _ _ _ _ hk,change_iterAt HC.out (Nat.le_refl _)⟩
    have HN2:Aside (Lib.NoAny s.data.toList chars.data.toList (i+kk)):=fun j b hj hb=>by
     rcases Nat.lt_or_ge j i with h|h
     ·exact HN.out j b h hb
     ·have h3:=d6 j b h hj hb
      cases hcb:chars.data.toList.contains b with
      |false=>rfl
      |true=>
       have hm:b∈chars.data.toList:=by simpa using hcb
       obtain⟨q,hq⟩:=List.mem_iff_getElem?.1 hm
       have:=HA.out q b hq
       omega
    have HR:Aside (∀w',Calls Tryz.prog 257 #[.string chars,.int .i32 (r:Int)] w' fun e w''=>e=.returned (.int .i64 (-1))∧Change (fun _=>False) w' w''):=fun w'=>hR chars r w' (by omega) d3 hcs HA.out
    clear hk hxl hx d3 d6
    generalize wr.iterAt w.heap.size s (i+kk)=wy at*
    go_wp2_with (go_at_call 257;refine(HR.out _).mono ?_;rintro e w' ⟨rfl,hw⟩;have HW:Aside (Change (fun _=>False) wy w'):=hw;clear hw)
    go_roundg (g+1-kk)
    case measure=>omega
    case rel=>
     obtain⟨a1,a2⟩:=HK2.out
     exact⟨i+kk,by omega,by rw [HW.out.block _ (Array.getElem?_eq_some_iff.1 a1).1 (fun h=>h)];exact a1,a2.trans HW.out (fun _ h=>.inl h),HN2.out⟩
end Go.Proofs.YteeiipildjgdbaaGreatDoor
namespace Go.Proofs.YteeiipildjgdbaaGreatDoor
open Go.RowKit Go.Lib Go.Tg Go.Shelf
theorem change_freeze {w:World} {g n:Nat} :Change (fun k=>k=g) w (w.freeze ⟨g,0,none⟩ n):=by
 unfold World.freeze
 split
 ·exact Change.refl _ w
 ·refine⟨rfl,rfl,rfl,by simp,fun k hk hn=>?_⟩
  simp only [Array.getElem?_modify]
  rw [if_neg (fun e=>hn e.symm)]
theorem change_drew {S:Nat→Prop} {w:World} :Change S w w.drew:=⟨rfl,rfl,rfl,Nat.le_refl _,fun _ _ _=>rfl⟩
set_option maxHeartbeats 2000000 in
theorem bld_string (b g cap:Nat) (l:List UInt8) (cur:Array Value) (w:World) (h0:l≠ []) (hbk:w.cell? ⟨b,1,none⟩=some (.slice (some ⟨g,0,none⟩) l.length cap))
  (hg:w.heap[g]?=some (.cells cur 5 (0,0))) (hcap:l.length≤cap) (hcs:l.length≤cur.size) (hcm:l.length≤maxLen) (hcell: ∀(j:Nat) x,l[j]?=some x→cur[j]?=some (.int .u8 x.toNat)):
  Calls Tryz.prog 56 #[.pointer (some ⟨b,0,none⟩)] w fun e w'=>e=.returned (.string ⟨l.toArray⟩)∧Change (fun k=>k=g) w w':=by
 have hl0:l.length≠0:=by simpa using h0
 have c1:w.drew.cell? ⟨b,1,none⟩=some (.slice (some ⟨g,0,none⟩) l.length cap):=hbk
 have hSD:(Builtin.unsafeSliceData_ #[94] 130 #[.slice (some ⟨g,0,none⟩) l.length cap]).run Tryz.prog w.drew=.ok (.pointer (some ⟨g,0,none⟩)) w.drew:=
  Lib.run_unsafeSliceData_row _ _ _ _ _ _ (by omega)
 have hUS:(Builtin.unsafeString_ #[130,3] 9 #[.pointer (some ⟨g,0,none⟩),.int .i64 l.length]).run Tryz.prog w.drew=.ok (.string ⟨l.toArray⟩) (w.drew.freeze ⟨g,0,none⟩ l.length):=by
  refine Lib.run_unsafeString_row w.drew 130 3 9 5 Tryz.underlying130 (by kernel_rfl) g cur.size (by have hg':w.drew.heap[g]?=some (.cells cur 5 (0,0)):=hg;simp [World.shape?,hg']) l h0 (by omega) (by unfold maxLen at hcm;omega) ?_
  intro j x hx
  have hg':w.drew.heap[g]?=some (.cells cur 5 (0,0)):=hg
  have e:((⟨g,0,none⟩:Addr).add j)=⟨g,j,none⟩:=by
   unfold Addr.add;split
   ·rename_i hz;subst hz;rfl
   ·simp
  rw [e,Lib.cell_of_heap hg'];exact hcell j x hx
 have hmix:Tryz.prog.follows .mixedOrders=true:=by kernel_rfl
 go_enter Tryz.func56,Tryz.ntmps56
 go_wp2
 go_region_o
 all_goals (go_wp2;go_ret;exact⟨rfl,change_drew.trans change_freeze (fun _ h=>.inl h)⟩)
set_option maxHeartbeats 2000000 in
theorem bld_string_nil (b:Nat) (w:World) (hbk:w.cell? ⟨b,1,none⟩=some (.slice none 0 0)):
  Calls Tryz.prog 56 #[.pointer (some ⟨b,0,none⟩)] w fun e w'=>e=.returned (.string ⟨#[]⟩)∧Change (fun _=>False) w w':=by
 have c1:w.drew.cell? ⟨b,1,none⟩=some (.slice none 0 0):=hbk
 have hSD:(Builtin.unsafeSliceData_ #[94] 130 #[.slice none 0 0]).run Tryz.prog w.drew=.ok (.pointer none) w.drew:=Lib.run_unsafeSliceData_nil _ _ _ _ _
 have hUS:(Builtin.unsafeString_ #[130,3] 9 #[.pointer none,.int .i64 0]).run Tryz.prog w.drew=.ok (.string .empty) w.drew:=Lib.run_unsafeString_none _ _ _ _ _
 have hmix:Tryz.prog.follows .mixedOrders=true:=by kernel_rfl
 go_enter Tryz.func56,Tryz.ntmps56
 go_wp2
 go_region_o
 all_goals (go_wp2;go_ret;exact⟨rfl,change_drew⟩)
theorem bld_lies (k:Nat):liesAt Tryz.prog Tryz.prog.depth 96 ((2+k*2)/Tryz.prog.cellsOf 96) 0 96 1=true:=by
 have h1:Tryz.prog.cellsOf 96=2:=by kernel_rfl
 have h2:sameLayout Tryz.prog Tryz.prog.depth 96 96=true:=by kernel_rfl
 obtain⟨d,hd⟩: ∃d,Tryz.prog.depth=d+1:=⟨Tryz.prog.depth-1,by have:Tryz.prog.depth≠0:=of_decide_eq_true (by kernel_rfl);omega⟩
 rw [hd]at h2⊢
 have e:(2+k*2)/Tryz.prog.cellsOf 96=k+1:=by rw [h1];omega
 rw [e]
 unfold liesAt
 rw [hd]
 unfold rowAt
 simp only [h1,h2]
 simp
theorem bld_used (b:Nat) (w:World) (h0:w.cell? ⟨b,0,none⟩=some (.pointer (some ⟨b,0,none⟩))):
  Calls Tryz.prog 74 #[.pointer (some ⟨b,0,none⟩)] w fun e w'=>e=.returned (.tuple #[])∧w'=w:=by
 obtain⟨j,hj,_⟩: ∃j,Tryz.prog.info? 96=some j∧j.size=2:=Option.map_eq_some_iff.1 (show(Tryz.prog.info? 96).map (·.size)=some 2 by kernel_rfl)
 go_enter Tryz.func74,Tryz.ntmps74
 go_wp2
 rw [Lib.run_neq_ptr_same w _ Tryz.underlying93 hj]
 go_wp2
 go_end0
 exact⟨rfl,rfl⟩
theorem bld_fresh (b k:Nat) (w:World) (h0:w.cell? ⟨b,0,none⟩=some (.pointer none)) (hsh:w.shape? b=some (96,2+k*2)) (hfz:w.frozen? ⟨b,0,none⟩=false):
  Calls Tryz.prog 74 #[.pointer (some ⟨b,0,none⟩)] w fun e w'=>e=.returned (.tuple #[])∧w'=w.setCell ⟨b,0,none⟩ (.pointer (some ⟨b,0,none⟩)):=by
 obtain⟨j,hj,hjs⟩: ∃j,Tryz.prog.info? 96=some j∧j.size=2:=Option.map_eq_some_iff.1 (show(Tryz.prog.info? 96).map (·.size)=some 2 by kernel_rfl)
 go_enter Tryz.func74,Tryz.ntmps74
 go_wp2
 rw [Lib.run_to_unsafe w ⟨b,0,none⟩ Tryz.underlying93 Tryz.underlying147 hj (by rw [hjs];decide) hsh (show 0<2+k*2 by omega)]
 simp only [Result.andThen]
 rw [Oper.upon_value]
 go_wp2
 rw [run_callFunc_extern Tryz.func99 (by kernel_rfl) (by kernel_rfl) (by kernel_rfl) (e:=Extern.AbiNoEscape.same) (by kernel_rfl)]
 rw [Lib.run_noEscape]
 simp only [Result.andThen]
 rw [Oper.upon_value]
 go_wp2
 rw [Lib.run_from_unsafe w ⟨b,0,none⟩ Tryz.underlying147 Tryz.underlying93 hj hsh (bld_lies k)]
 simp only [Result.andThen]
 rw [Oper.upon_value]
 go_wp2
 go_end0
 exact⟨rfl,rfl⟩
end Go.Proofs.YteeiipildjgdbaaGreatDoor
namespace Tg.Ur
def hx (b:UInt8):Option Nat:=
 if(48:Int)≤b.toNat∧(b.toNat:Int)≤57 then some (b.toNat-48)
 else if(97:Int)≤b.toNat∧(b.toNat:Int)≤102 then some (b.toNat-87)
 else if(65:Int)≤b.toNat∧(b.toNat:Int)≤70 then some (b.toNat-55)else none
def isD (b:UInt8):Bool:=decide ((48:Int)≤b.toNat)&&decide ((b.toNat:Int)≤57)
def hexd:List UInt8:= [48,49,50,51,52,53,54,55,56,57,65,66,67,68,69,70]
def hd16 (n:Nat):UInt8:=hexd.getD n 0
def pct (b:UInt8):List UInt8:= [37,hd16 (b.toNat/16),hd16 (b.toNat%16)]
def okB (b:UInt8):Bool:=decide ((32:Int)<b.toNat)&&decide ((b.toNat:Int)≤126)&&!([34,60,62,96]:List UInt8).contains b
def esc:List UInt8→Option (List UInt8)
 |37::x::y::_=>match hx x,hx y with
  |some a,some b=>some [37,hd16 a,hd16 b]
  |_,_=>none
 |_=>none
def qt (s:List UInt8):List UInt8:=
 match s with
 | []=> []
 |b::r=>match esc (b::r)with
  |some e=>e++qt (r.drop 2)
  |none=>(if okB b then [b]else pct b)++qt r
termination_by s.length
decreasing_by
 ·simp;omega
 ·simp
open Tg.Lo
def pts (s:List UInt8):Nat→Nat
 |n=>match s with
  | []=>n
  |46::r=>pts r (n+1)
  |b::r=>if lower ((b::r).take 3)= [37,50,101]then pts (r.drop 2) (n+1)else 0
termination_by s.length
decreasing_by
 ·simp
 ·simp;omega
def pieces:List UInt8→List (List UInt8)
 | []=> [[]]
 |b::r=>if b=47 then []::pieces r else match pieces r with
  | []=> [[b]]
  |p::l=>(b::p)::l
def stepD (last:Bool) (out:List (List UInt8)) (p:List UInt8):List (List UInt8):=
 if pts p 0≠1∧pts p 0≠2 then out++ [p]
 else(if pts p 0=2 then out.dropLast else out)++(if last then [[]]else [])
def foldD:List (List UInt8)→List (List UInt8)→List (List UInt8)
 |out,[]=>out
 |out,[p]=>stepD true out p
 |out,p::l=>foldD (stepD false out p) l
def joinS:List (List UInt8)→List UInt8
 | []=> []
 |p::l=>47::(p++joinS l)
def dots (path:List UInt8):List UInt8:=
 match path with
 |47::r=>if joinS (foldD [] (pieces r))= []then [47]else joinS (foldD [] (pieces r))
 |_=> []
def isName (b:UInt8):Bool:=(decide ((97:Int)≤b.toNat)&&decide ((b.toNat:Int)≤122))||(decide ((48:Int)≤b.toNat)&&decide ((b.toNat:Int)≤57))||b==46||b==45
def twoDots:List UInt8→Bool
 |46::46::_=>true
 |_::r=>twoDots r
 | []=>false
def named (s:List UInt8):Bool:=decide (s≠ [])&&decide (s.length≤253)&&s.all isName&&decide (s[0]?≠some 46)&&!twoDots s
def own (s:List UInt8):Int:=if s= [104,116,116,112]∨s= [119,115]then 80 else if s= [104,116,116,112,115]∨s= [119,115,115]then 443 else 0
structure Url where
 scheme:List UInt8
 host:List UInt8
 port:Int
 path:List UInt8
 query:List UInt8
deriving DecidableEq
def none:Url:=⟨[],[],0,[],[]⟩
def free (of s:List UInt8):Bool:=s.all fun b=>!of.contains b
def good (u:Url):Bool:=
 decide (own u.scheme≠0)&&(decide (u.port=0)||(decide (1≤u.port)&&decide (u.port≤65535)&&decide (u.port≠own u.scheme)))
  &&(decide (u.path[0]?=some 47)&&decide (dots u.path=u.path)&&decide (qt u.path=u.path)&&free [63,35] u.path)
  &&(decide (u.query= [])||(decide (u.query[0]?=some 63)&&decide (qt u.query=u.query)&&free [35] u.query))&&named u.host
def upto (stops s:List UInt8):Nat:=(s.takeWhile fun b=>!stops.contains b).length
def trimL (s:List UInt8):List UInt8:=s.dropWhile fun b=>decide ((b.toNat:Int)≤32)
def trim (s:List UInt8):List UInt8:=((trimL s).reverse.dropWhile fun b=>decide ((b.toNat:Int)≤32)).reverse
def cutPort (r2:List UInt8):List UInt8×List UInt8:=match r2 with
 |58::r3=>(r3.take (upto [47,63] r3),r3.drop (upto [47,63] r3))
 |_=>([],r2)
def parts (s0:List UInt8):Option (Url×List UInt8):=
 let s:=s0.take (upto [35] s0)
 let k:=upto [58] s
 if(s.drop k).take 3= [58,47,47]then
  let r:=s.drop (k+3)
  let h:=upto [58,47,63] r
  let r2:=r.drop h
  let pl:=cutPort r2
  let q:=upto [63] pl.2
  let path:=if pl.2.take q= []then [47]else pl.2.take q
  some (⟨lower (s.take k),lower (r.take h),0,dots (qt path),qt (pl.2.drop q)⟩,pl.1)
 else Option.none
def dval (s:List UInt8):Nat:=s.foldl (fun n b=>10*n+(b.toNat-48)) 0
def number (s scheme:List UInt8):Int×Int:=
 if s= []then(0,0)
 else if s.all isD=false then(0,2)
 else if 9007199254740991<dval s then(0,9)
 else if dval s=0∨65535<dval s then(0,9)
 else if(dval s:Int)=own scheme then(0,0)
 else(dval s,0)
end Tg.Ur
set_option maxRecDepth 100000
namespace Go.Proofs.YteeiipildjgdbaaGreatDoor.Gs
open Go
theorem goes_of {P:Program} {c:OpenClaim} (h:P.funcs.any Func.goes=false):false=c.goesBy P:=by
 have hf: ∀(g:Nat),(P.funcs[g]?).any Func.goes=false:=fun g=>by
  cases hx:P.funcs[g]? with
  |none=>rfl
  |some fn=>
   cases hg:fn.goes with
   |false=>exact hg
   |true=>
    have:P.funcs.any Func.goes=true:=Array.any_eq_true'.2 ⟨fn,Array.mem_of_getElem? hx,hg⟩
    rw [h]at this
    cases this
 have key: ∀f,P.goes f=false:=fun f=>by
  unfold Program.goes
  rw [h,Bool.and_false,Bool.or_false]
  simp only [hf]
  simp
 unfold OpenClaim.goesBy Program.goesAt Program.goesFrom
 have e1:(P.funcNamed c.func).any P.goes=false:=by
  cases P.funcNamed c.func with
  |none=>rfl
  |some f=>exact key f
 rw [e1,Bool.false_or]
 cases c.start<;>simp [key]
end Go.Proofs.YteeiipildjgdbaaGreatDoor.Gs
namespace Go.Proofs.YteeiipildjgdbaaGreatDoor.PK
theorem k2:(laidOutB Tryz.checked.prog)=true:=by kernel_rfl
theorem k3:(mapsRowed Tryz.checked.prog)=true:=by kernel_rfl
theorem k6:((Rows.playDiffsRow.stops== []))=true:=by kernel_rfl
theorem k7:((Tryz.checked.prog.stops== []))=true:=by kernel_rfl
theorem k8:((Rows.playDiffsRow.knobs== []))=true:=by kernel_rfl
theorem k9:((Tryz.checked.prog.stopKnobs== []))=true:=by kernel_rfl
theorem k23:((Rows.playDiffsRow.plainKeys==Tryz.checked.prog.plainKeys))=true:=by kernel_rfl
theorem k24:(Rows.playDiffsRow.shortTexts.isNone)=true:=by kernel_rfl
theorem k25:(Tryz.checked.prog.stopsHeard)=true:=by kernel_rfl
theorem k26:(Tryz.checked.prog.mayEnter)=true:=by kernel_rfl
theorem k27:((Rows.playDiffsRow.lifted==Tryz.checked.prog.liftsFinal))=true:=by kernel_rfl
theorem k28:((Tryz.checked.prog.make==some Rows.playDiffsRow.make))=true:=by kernel_rfl
theorem k30:((Rows.playDiffsRow.pinned==Rows.playDiffsRow.pinnedBy))=true:=by kernel_rfl
theorem main0:Tryz.checked.prog.mainIs=some (true,"56337ec1420cfcb32927494ba929671f3192154efd011a8f49d1b0439fc219d7".toList):=by kernel_rfl
theorem looks0:true=Tryz.checked.prog.looks []:=by kernel_rfl
end Go.Proofs.YteeiipildjgdbaaGreatDoor.PK
