/-
  The law StreamNone of layer tidegatelaw38 holds of the given program: for every input the call returns true, and the input reads as it did. Condition: the listed package variables lie as the program's text lays them (the card ties them).
-/
import Derived.Test.YtcgiaiimbnoknaaGreatDoorRows
import Derived.Test.YtcgiaiimbnoknaaGreatDoorTie
import Derived.Test.YtcgiaiimbnoknaaGreatDoorCards
import Derived.Test.YtcgiaiimbnoknaaGreatDoorM1
import Derived.Test.YtcgiaiimbnoknaaGreatDoorM6
import Derived.WalkKit
import Derived.ProofKit
import Derived.OpenShut
import Derived.ShutString
import Derived.DataShut
import Derived.Stop.Joined
import Derived.SevenTiedAt
import Derived.LaidMore
import Derived.Lay
set_option linter.unusedSimpArgs false
set_option linter.unusedVariables false
namespace Go.Proofs.YtcgiaiimbnoknaaGreatDoor.streamNone
open Go.ChangeShapes Go.WideShapes Go.ChangeAt Go.RowKit Go.Tg Go.Lg Sn
open Go.ChangeMaps (open_string shut_string)
set_option maxRecDepth 100000
theorem ownKnob0:ownKnob Tryz.prog.godebug=none:=by kernel_rfl
theorem lifted (os:Os) (started:os.Started) (H:Type) (enc:TypeId×Value→H):
  ReturnsInHanded {} Tryz.checked os 3 .any (fun w args=>(Rows.streamNoneSpec.pre enc Tryz.prog Tryz.f3 [] false w args∧laidMetH Tryz.prog [("unicode/utf8.acceptRanges",Rows.laid_unicode_utf8_acceptRanges),("unicode.White_Space",Rows.laid_unicode_White_Space),("strings.asciiSpace",Rows.laid_strings_asciiSpace),("unicode/utf8.first",Rows.laid_unicode_utf8_first)] w)∧sizedMet enc Tryz.prog Tryz.f3 (OpenSpec.ofChange Rows.streamNoneSpec) false w args)
   (Rows.streamNoneSpec.post enc Tryz.prog Tryz.f3 false true false false):=by
 refine returns_and_shaped (C:=Tryz.checked) (X:=fun w _=>laidMetH Tryz.prog [("unicode/utf8.acceptRanges",Rows.laid_unicode_utf8_acceptRanges),("unicode.White_Space",Rows.laid_unicode_White_Space),("strings.asciiSpace",Rows.laid_strings_asciiSpace),("unicode/utf8.first",Rows.laid_unicode_utf8_first)] w) (fun _ _ _ hh h=>h.of_heap hh) ownKnob0 started (by kernel_rfl) Tryz.func3
  (ChangeSpec.witness_shaped (enc:=enc) (C:=Tryz.checked) (os:=os) (X:=fun w _=>laidMetH Tryz.prog [("unicode/utf8.acceptRanges",Rows.laid_unicode_utf8_acceptRanges),("unicode.White_Space",Rows.laid_unicode_White_Space),("strings.asciiSpace",Rows.laid_strings_asciiSpace),("unicode/utf8.first",Rows.laid_unicode_utf8_first)] w) false (World.laidAll Tryz.prog os [("unicode/utf8.acceptRanges",Rows.laid_unicode_utf8_acceptRanges),("unicode.White_Space",Rows.laid_unicode_White_Space),("strings.asciiSpace",Rows.laid_strings_asciiSpace),("unicode/utf8.first",Rows.laid_unicode_utf8_first)]) #[.agg #[.int .i64 0,.slice none 0 0],.string ByteArray.empty] 8 (World.laidAll_os _ _ _) (World.shaped_of_ZipB (by kernel_rfl) (by kernel_rfl)) (by kernel_rfl) (by kernel_rfl) (by kernel_rfl) (by rw [MakeChecks.laidMetH_plain _ _ _ (by kernel_rfl)];exact laidMet_laidAll _ (by kernel_rfl) (by kernel_rfl))) ?_
 intro W base args ds gs before hval0 hW hL hsh
 have hval: ∀(j:Nat) t v,Tryz.f3.params[j]?=some t→args[j]?=some v→Value.okWide Tryz.prog W .any base t v:=hval0
 have hW':=hW
 obtain⟨p,q,hA0,hV,rfl,hfz,hnd⟩:=hW
 have hA:DataW.TrodAll enc Tryz.prog W 0 (fun _=>true) true Tryz.f3.params.toList args.toList ds p:=hA0
 rw [Tryz.params3]at hA hval
 obtain⟨v0,vs0,d0,ds0,p0,q0,hargs,rfl,rfl,h0,r0⟩:=trodAll_cons hA
 obtain⟨v1,vs1,d1,ds1,p1,q1,rfl,rfl,rfl,h1,r1⟩:=trodAll_cons r0
 obtain⟨rfl,rfl,rfl⟩:=trodAll_nil r1
 obtain rfl:args=#[v0,v1]:=by cases args;simp_all
 obtain⟨st0,pe0,l0,hv0,hr0,rl0,ik0⟩:=Sn.open_reply (g:=3) (Nat.lt_of_lt_of_le (Nat.succ_pos _) (sizeO hsh)) (hval 0 24 v0 rfl rfl) h0
 obtain⟨a1,rfl,rfl,rfl,w1⟩:=open_string Tryz.underlying9 (hval 1 9 v1 rfl rfl) h1
 obtain⟨Hx,heq⟩: ∃H':LH,LC Tryz.prog Sn.EJ 3 [Sn.repv st0 pe0,str a1.data.toList] (LH.lift W 3)=some (.bool true,H'):=Sn.none38 hr0 (Nat.le_trans rl0 (by decide)) (Sn.tabS4 hL)
 have hcall:=law_lift (args:=#[v0,.string a1]) Sn.tOk (sizeO hsh) (by show LC Tryz.prog Sn.EJ 3 [liftV W.heap.size (v0),liftV W.heap.size (.string a1)] (LH.lift W 3)=_;simp only [hv0];exact heq)
 refine hcall.mono fun e W' ⟨he,hg⟩=>?_
 subst he
 exact⟨_,rfl,law_post (by kernel_rfl) hW' rfl (fun t ht=>by
  have:Tryz.f3.params.toList.all (fun t=>Tryz.prog.readableRec t&&decide (t<Tryz.prog.types.size))=true:=by kernel_rfl
  have h2:=List.all_eq_true.1 this t ht
  rw [Bool.and_eq_true]at h2
  exact⟨h2.1,of_decide_eq_true h2.2⟩) rfl Tryz.underlying4 rfl (below_of_false hg)⟩
theorem k1:(Rows.streamNoneRow.wf (OpenSpec.ofChange Rows.streamNoneSpec))=true:=by kernel_rfl
theorem k2:(laidOutB Tryz.checked.prog)=true:=PK.k2
theorem k3:(mapsRowed Tryz.checked.prog)=true:=PK.k3
theorem k4:(Tryz.f3.params.all (Tryz.checked.prog.readableRec ·))=true:=by kernel_rfl
theorem k5:(namedTie Tryz.checked.prog Rows.streamNoneRow.named Rows.streamNoneSpec.vars)=true:=by kernel_rfl
theorem k6:((Rows.streamNoneRow.stops== []))=true:=PK.k6
theorem k7:((Tryz.checked.prog.stops== []))=true:=PK.k7
theorem k8:((Rows.streamNoneRow.knobs== []))=true:=PK.k8
theorem k9:((Tryz.checked.prog.stopKnobs== []))=true:=PK.k9
theorem k10:((Rows.streamNoneRow.inPlace==Tryz.checked.prog.inPlace (3:FuncId)))=true:=by kernel_rfl
theorem k11:((Rows.streamNoneRow.unfollowed==Tryz.checked.prog.unfollowed (3:FuncId)))=true:=by kernel_rfl
theorem k12:((Rows.streamNoneRow.recurses==Tryz.checked.prog.recurses (3:FuncId)))=true:=by kernel_rfl
theorem k13:((Rows.streamNoneRow.named==Tryz.checked.prog.varsNamed (3:FuncId)))=true:=by kernel_rfl
theorem k14:((Rows.streamNoneRow.maps==(Tryz.f3.params.toList++Rows.streamNoneSpec.plain.varTypes Tryz.checked.prog).any (Tryz.checked.prog.mapsRec ·)))=true:=by kernel_rfl
theorem k15:((Rows.streamNoneRow.ifaces==(Tryz.f3.params.toList++Rows.streamNoneSpec.plain.varTypes Tryz.checked.prog).any (Tryz.checked.prog.ifacesRec ·)))=true:=by kernel_rfl
theorem k16:((Rows.streamNoneRow.mapsOut==Tryz.checked.prog.mapsAmong Tryz.f3.resultTypes.toList))=true:=by kernel_rfl
theorem k17:((Rows.streamNoneRow.loops==(Tryz.f3.params.toList++Rows.streamNoneSpec.plain.varTypes Tryz.checked.prog).any (Tryz.checked.prog.loopsFrom ·)))=true:=by kernel_rfl
theorem k18:((Rows.streamNoneRow.wideKeys==(Tryz.f3.params.toList++Rows.streamNoneSpec.plain.varTypes Tryz.checked.prog++Tryz.f3.resultTypes.toList).any (Tryz.checked.prog.wideKeysFrom ·)))=true:=by kernel_rfl
theorem k19:(Rows.streamNoneSpec.vars.all (Tryz.checked.prog.varReadable ·))=true:=by kernel_rfl
theorem k20:(Tryz.f3.resultTypes.all (fun t=>Tryz.checked.prog.readableRec t&&decide (t<Tryz.checked.prog.types.size)))=true:=by kernel_rfl
theorem k21:((Rows.streamNoneRow.ifacesOut==Tryz.f3.resultTypes.toList.any (Tryz.checked.prog.ifacesRec ·)))=true:=by kernel_rfl
theorem k22:((Rows.streamNoneRow.loopsOut==Tryz.f3.resultTypes.toList.any (Tryz.checked.prog.loopsFrom ·)))=true:=by kernel_rfl
theorem k23:((Rows.streamNoneRow.plainKeys==Tryz.checked.prog.plainKeys))=true:=PK.k23
theorem k24:(Rows.streamNoneRow.shortTexts.isNone)=true:=PK.k24
theorem k25:(Tryz.checked.prog.stopsHeard)=true:=PK.k25
theorem k26:(Tryz.checked.prog.mayEnter)=true:=PK.k26
theorem k27:((Rows.streamNoneRow.lifted==Tryz.checked.prog.liftsFinal))=true:=PK.k27
theorem k28:((Tryz.checked.prog.make==some Rows.streamNoneRow.make))=true:=PK.k28
theorem k29:((Rows.streamNoneRow.kinds==(if Rows.streamNoneRow.domain.isEmpty then []else Tryz.f3.params.toList.map fun t=>match Tryz.checked.prog.underlying t with|some (.int k)=>some k|_=>none)))=true:=by kernel_rfl
theorem k30:((Rows.streamNoneRow.pinned==Rows.streamNoneRow.pinnedBy))=true:=PK.k30
theorem k31:((Rows.streamNoneRow.veiled==(Tryz.f3.params.toList++Rows.streamNoneSpec.plain.varTypes Tryz.checked.prog++Tryz.f3.resultTypes.toList).any (Tryz.checked.prog.veiledRec ·)))=true:=by kernel_rfl
theorem k32:(Rows.streamNoneRow.veiledFits Tryz.checked.prog Tryz.f3.params.toList (Tryz.f3.params.toList++Rows.streamNoneSpec.plain.varTypes Tryz.checked.prog++Tryz.f3.resultTypes.toList))=true:=by kernel_rfl
theorem and2 {a b:Bool} (h1:a=true) (h2:b=true):(a&&b)=true:=by rw [h1,h2];rfl
theorem closedAll:joinedFacts Tryz.checked.prog 3 Tryz.f3 Rows.streamNoneSpec Rows.streamNoneRow=true:=(and2 (and2 (and2 (and2 (and2 (and2 (and2 (and2 (and2 (and2 (and2 (and2 (and2 (and2 (and2 (and2 (and2 (and2 (and2 (and2 (and2 (and2 (and2 (and2 (and2 (and2 (and2 (and2 (and2 (and2 (and2 k1 k2) k3) k4) k5) k6) k7) k8) k9) k10) k11) k12) k13) k14) k15) k16) k17) k18) k19) k20) k21) k22) k23) k24) k25) k26) k27) k28) k29) k30) k31) k32)
theorem named0:Tryz.checked.prog.funcNamed Rows.streamNoneRow.func=some 3:=by kernel_rfl
theorem inst0:Tryz.f3.isInstance Tryz.checked.prog Rows.streamNoneRow.origin Rows.streamNoneRow.targs:=of_decide_eq_true (by kernel_rfl)
theorem wrap0:Tryz.f3.isWrapper Tryz.checked.prog Rows.streamNoneRow.wrapper Rows.streamNoneRow.mainSum:=by unfold Func.isWrapper;first|(rw [if_pos (by decide+kernel)];kernel_rfl)|(rw [if_neg (by decide+kernel)];exact⟨rfl,rfl⟩)
theorem over:Rows.StreamNoneSaid:=
 OpenClaim.holds_of_wide 3 Tryz.f3 rfl rfl rfl rfl rfl rfl rfl ⟨rfl,rfl,rfl,rfl,rfl⟩ rfl rfl rfl rfl rfl named0 Tryz.func3 closedAll inst0 wrap0 (fun os started H enc _=>lifted os started H enc)
theorem text0:Rows.streamNoneRow.wfByText (OpenSpec.ofChange Rows.streamNoneSpec)=true:=by kernel_rfl
theorem goes0:false=OpenClaim.goesBy Rows.streamNoneRow Tryz.checked.prog:=Sn.goes_of (by kernel_rfl)
theorem wants0:([24,9].all fun u=>!Tryz.prog.wantsStandIn u)=true:=by kernel_rfl
theorem proved:Rows.StreamNoneCardSaid:=
 Claim7.holds_tied_plain_at .later [] [.data,.listed,.data,.pinned] true (true,"08e793a930b25a6ca27050591420247caab90dc8711dcda3b0c1fbee671790a4") true
  over (fun _ h=>by cases h) text0 (fun _ h=>by cases h) streamNone_row_tie rfl ⟨rfl,rfl⟩ PK.main0 rfl
  (fun f fn hf hfn=>by
   obtain rfl:f=3:=Option.some.inj (named0.symm.trans hf)|>.symm
   obtain rfl:fn=Tryz.f3:=(Option.some.inj (Tryz.func3.symm.trans hfn)).symm
   exact⟨PK.looks0,fun j t ht=>by
    rw [Tryz.params3]at ht
    have hm:t∈ [24,9]:=by simpa using Array.mem_of_getElem? ht
    exact(show Tryz.prog.wantsStandIn t=false by simpa using List.all_eq_true.1 wants0 t hm)⟩)
  goes0
end Go.Proofs.YtcgiaiimbnoknaaGreatDoor.streamNone
