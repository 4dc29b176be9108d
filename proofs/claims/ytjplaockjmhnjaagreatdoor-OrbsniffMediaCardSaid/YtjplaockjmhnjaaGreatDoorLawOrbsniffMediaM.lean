/-
  The law OrbsniffMedia of layer tidegatelaw31 holds of the given program: for every input the call returns true, and the input reads as it did. Condition: the listed package variables lie as the program's text lays them (the card ties them).
-/
import Derived.Test.YtjplaockjmhnjaaGreatDoorRows
import Derived.Test.YtjplaockjmhnjaaGreatDoorTie
import Derived.Test.YtjplaockjmhnjaaGreatDoorCards
import Derived.Test.YtjplaockjmhnjaaGreatDoorM1
import Derived.Test.YtjplaockjmhnjaaGreatDoorM6
import Derived.WalkKit
import Derived.ProofKit
import Derived.OpenShut
import Derived.ShutString
import Derived.DataShut
import Derived.Stop.Joined
import Derived.SevenTiedAt
import Derived.LaidMore
import Derived.Lay
set_option linter.unusedSimpArgs false
set_option linter.unusedVariables false
namespace Go.Proofs.YtjplaockjmhnjaaGreatDoor.orbsniffMedia
open Go.ChangeShapes Go.WideShapes Go.ChangeAt Go.RowKit Go.Tg Go.Lg Sn
open Go.ChangeMaps (open_string shut_string)
set_option maxRecDepth 100000
theorem ownKnob0:ownKnob Tryz.prog.godebug=none:=by kernel_rfl
theorem lifted (os:Os) (started:os.Started) (H:Type) (enc:TypeId×Value→H):
  ReturnsInHanded {} Tryz.checked os 4 .any (fun w args=>(Rows.orbsniffMediaSpec.pre enc Tryz.prog Tryz.f4 [] false w args∧laidMetH Tryz.prog [("unicode.White_Space",Rows.laid_unicode_White_Space),("strings.asciiSpace",Rows.laid_strings_asciiSpace)] w)∧sizedMet enc Tryz.prog Tryz.f4 (OpenSpec.ofChange Rows.orbsniffMediaSpec) false w args)
   (Rows.orbsniffMediaSpec.post enc Tryz.prog Tryz.f4 false true false false):=by
 refine returns_and_shaped (C:=Tryz.checked) (X:=fun w _=>laidMetH Tryz.prog [("unicode.White_Space",Rows.laid_unicode_White_Space),("strings.asciiSpace",Rows.laid_strings_asciiSpace)] w) (fun _ _ _ hh h=>h.of_heap hh) ownKnob0 started (by kernel_rfl) Tryz.func4
  (ChangeSpec.witness_shaped (enc:=enc) (C:=Tryz.checked) (os:=os) (X:=fun w _=>laidMetH Tryz.prog [("unicode.White_Space",Rows.laid_unicode_White_Space),("strings.asciiSpace",Rows.laid_strings_asciiSpace)] w) false (World.laidAll Tryz.prog os [("unicode.White_Space",Rows.laid_unicode_White_Space),("strings.asciiSpace",Rows.laid_strings_asciiSpace)]) #[.agg #[.string ByteArray.empty,.bool false,.bool false,.int .i64 0],.agg #[.int .i64 0,.slice none 0 0],.string ByteArray.empty] 8 (World.laidAll_os _ _ _) (World.shaped_of_ZipB (by kernel_rfl) (by kernel_rfl)) (by kernel_rfl) (by kernel_rfl) (by kernel_rfl) (by rw [MakeChecks.laidMetH_plain _ _ _ (by kernel_rfl)];exact laidMet_laidAll _ (by kernel_rfl) (by kernel_rfl))) ?_
 intro W base args ds gs before hval0 hW hL hsh
 have hval: ∀(j:Nat) t v,Tryz.f4.params[j]?=some t→args[j]?=some v→Value.okWide Tryz.prog W .any base t v:=hval0
 have hW':=hW
 obtain⟨p,q,hA0,hV,rfl,hfz,hnd⟩:=hW
 have hA:DataW.TrodAll enc Tryz.prog W 0 (fun _=>true) true Tryz.f4.params.toList args.toList ds p:=hA0
 rw [Tryz.params4]at hA hval
 obtain⟨v0,vs0,d0,ds0,p0,q0,hargs,rfl,rfl,h0,r0⟩:=trodAll_cons hA
 obtain⟨v1,vs1,d1,ds1,p1,q1,rfl,rfl,rfl,h1,r1⟩:=trodAll_cons r0
 obtain⟨v2,vs2,d2,ds2,p2,q2,rfl,rfl,rfl,h2,r2⟩:=trodAll_cons r1
 obtain⟨rfl,rfl,rfl⟩:=trodAll_nil r2
 obtain rfl:args=#[v0,v1,v2]:=by cases args;simp_all
 obtain⟨qu0,qa0,qb0,qm0,hv0,ik0⟩:=Sn.open_ask (hval 0 23 v0 rfl rfl) h0
 obtain⟨st1,pe1,l1,hv1,hr1,rl1,ik1⟩:=Sn.open_reply (g:=3) (Nat.lt_of_lt_of_le (Nat.succ_pos _) (sizeO hsh)) (hval 1 26 v1 rfl rfl) h1
 obtain⟨a2,rfl,rfl,rfl,w2⟩:=open_string Tryz.underlying9 (hval 2 9 v2 rfl rfl) h2
 obtain⟨Hx,heq⟩: ∃H':LH,LC Tryz.prog Sn.EJ 4 [Sn.askv qu0 qa0 qb0 qm0,Sn.repv st1 pe1,str a2.data.toList] (LH.lift W 3)=some (.bool true,H'):=Sn.media31 hr1 (Nat.le_trans rl1 (by decide)) (Sn.tabO2 hL)
 have hcall:=law_lift (args:=#[v0,v1,.string a2]) Sn.tOk (sizeO hsh) (by show LC Tryz.prog Sn.EJ 4 [liftV W.heap.size (v0),liftV W.heap.size (v1),liftV W.heap.size (.string a2)] (LH.lift W 3)=_;simp only [hv0,hv1];exact heq)
 refine hcall.mono fun e W' ⟨he,hg⟩=>?_
 subst he
 exact⟨_,rfl,law_post (by kernel_rfl) hW' rfl (fun t ht=>by
  have:Tryz.f4.params.toList.all (fun t=>Tryz.prog.readableRec t&&decide (t<Tryz.prog.types.size))=true:=by kernel_rfl
  have h2:=List.all_eq_true.1 this t ht
  rw [Bool.and_eq_true]at h2
  exact⟨h2.1,of_decide_eq_true h2.2⟩) rfl Tryz.underlying4 rfl (below_of_false hg)⟩
theorem k1:(Rows.orbsniffMediaRow.wf (OpenSpec.ofChange Rows.orbsniffMediaSpec))=true:=by kernel_rfl
theorem k2:(laidOutB Tryz.checked.prog)=true:=PK.k2
theorem k3:(mapsRowed Tryz.checked.prog)=true:=PK.k3
theorem k4:(Tryz.f4.params.all (Tryz.checked.prog.readableRec ·))=true:=by kernel_rfl
theorem k5:(namedTie Tryz.checked.prog Rows.orbsniffMediaRow.named Rows.orbsniffMediaSpec.vars)=true:=by kernel_rfl
theorem k6:((Rows.orbsniffMediaRow.stops== []))=true:=PK.k6
theorem k7:((Tryz.checked.prog.stops== []))=true:=PK.k7
theorem k8:((Rows.orbsniffMediaRow.knobs== []))=true:=PK.k8
theorem k9:((Tryz.checked.prog.stopKnobs== []))=true:=PK.k9
theorem k10:((Rows.orbsniffMediaRow.inPlace==Tryz.checked.prog.inPlace (4:FuncId)))=true:=by kernel_rfl
theorem k11:((Rows.orbsniffMediaRow.unfollowed==Tryz.checked.prog.unfollowed (4:FuncId)))=true:=by kernel_rfl
theorem k12:((Rows.orbsniffMediaRow.recurses==Tryz.checked.prog.recurses (4:FuncId)))=true:=by kernel_rfl
theorem k13:((Rows.orbsniffMediaRow.named==Tryz.checked.prog.varsNamed (4:FuncId)))=true:=by kernel_rfl
theorem k14:((Rows.orbsniffMediaRow.maps==(Tryz.f4.params.toList++Rows.orbsniffMediaSpec.plain.varTypes Tryz.checked.prog).any (Tryz.checked.prog.mapsRec ·)))=true:=by kernel_rfl
theorem k15:((Rows.orbsniffMediaRow.ifaces==(Tryz.f4.params.toList++Rows.orbsniffMediaSpec.plain.varTypes Tryz.checked.prog).any (Tryz.checked.prog.ifacesRec ·)))=true:=by kernel_rfl
theorem k16:((Rows.orbsniffMediaRow.mapsOut==Tryz.checked.prog.mapsAmong Tryz.f4.resultTypes.toList))=true:=by kernel_rfl
theorem k17:((Rows.orbsniffMediaRow.loops==(Tryz.f4.params.toList++Rows.orbsniffMediaSpec.plain.varTypes Tryz.checked.prog).any (Tryz.checked.prog.loopsFrom ·)))=true:=by kernel_rfl
theorem k18:((Rows.orbsniffMediaRow.wideKeys==(Tryz.f4.params.toList++Rows.orbsniffMediaSpec.plain.varTypes Tryz.checked.prog++Tryz.f4.resultTypes.toList).any (Tryz.checked.prog.wideKeysFrom ·)))=true:=by kernel_rfl
theorem k19:(Rows.orbsniffMediaSpec.vars.all (Tryz.checked.prog.varReadable ·))=true:=by kernel_rfl
theorem k20:(Tryz.f4.resultTypes.all (fun t=>Tryz.checked.prog.readableRec t&&decide (t<Tryz.checked.prog.types.size)))=true:=by kernel_rfl
theorem k21:((Rows.orbsniffMediaRow.ifacesOut==Tryz.f4.resultTypes.toList.any (Tryz.checked.prog.ifacesRec ·)))=true:=by kernel_rfl
theorem k22:((Rows.orbsniffMediaRow.loopsOut==Tryz.f4.resultTypes.toList.any (Tryz.checked.prog.loopsFrom ·)))=true:=by kernel_rfl
theorem k23:((Rows.orbsniffMediaRow.plainKeys==Tryz.checked.prog.plainKeys))=true:=PK.k23
theorem k24:(Rows.orbsniffMediaRow.shortTexts.isNone)=true:=PK.k24
theorem k25:(Tryz.checked.prog.stopsHeard)=true:=PK.k25
theorem k26:(Tryz.checked.prog.mayEnter)=true:=PK.k26
theorem k27:((Rows.orbsniffMediaRow.lifted==Tryz.checked.prog.liftsFinal))=true:=PK.k27
theorem k28:((Tryz.checked.prog.make==some Rows.orbsniffMediaRow.make))=true:=PK.k28
theorem k29:((Rows.orbsniffMediaRow.kinds==(if Rows.orbsniffMediaRow.domain.isEmpty then []else Tryz.f4.params.toList.map fun t=>match Tryz.checked.prog.underlying t with|some (.int k)=>some k|_=>none)))=true:=by kernel_rfl
theorem k30:((Rows.orbsniffMediaRow.pinned==Rows.orbsniffMediaRow.pinnedBy))=true:=PK.k30
theorem k31:((Rows.orbsniffMediaRow.veiled==(Tryz.f4.params.toList++Rows.orbsniffMediaSpec.plain.varTypes Tryz.checked.prog++Tryz.f4.resultTypes.toList).any (Tryz.checked.prog.veiledRec ·)))=true:=by kernel_rfl
theorem k32:(Rows.orbsniffMediaRow.veiledFits Tryz.checked.prog Tryz.f4.params.toList (Tryz.f4.params.toList++Rows.orbsniffMediaSpec.plain.varTypes Tryz.checked.prog++Tryz.f4.resultTypes.toList))=true:=by kernel_rfl
theorem and2 {a b:Bool} (h1:a=true) (h2:b=true):(a&&b)=true:=by rw [h1,h2];rfl
theorem closedAll:joinedFacts Tryz.checked.prog 4 Tryz.f4 Rows.orbsniffMediaSpec Rows.orbsniffMediaRow=true:=(and2 (and2 (and2 (and2 (and2 (and2 (and2 (and2 (and2 (and2 (and2 (and2 (and2 (and2 (and2 (and2 (and2 (and2 (and2 (and2 (and2 (and2 (and2 (and2 (and2 (and2 (and2 (and2 (and2 (and2 (and2 k1 k2) k3) k4) k5) k6) k7) k8) k9) k10) k11) k12) k13) k14) k15) k16) k17) k18) k19) k20) k21) k22) k23) k24) k25) k26) k27) k28) k29) k30) k31) k32)
theorem named0:Tryz.checked.prog.funcNamed Rows.orbsniffMediaRow.func=some 4:=by kernel_rfl
theorem inst0:Tryz.f4.isInstance Tryz.checked.prog Rows.orbsniffMediaRow.origin Rows.orbsniffMediaRow.targs:=of_decide_eq_true (by kernel_rfl)
theorem wrap0:Tryz.f4.isWrapper Tryz.checked.prog Rows.orbsniffMediaRow.wrapper Rows.orbsniffMediaRow.mainSum:=by unfold Func.isWrapper;first|(rw [if_pos (by decide+kernel)];kernel_rfl)|(rw [if_neg (by decide+kernel)];exact⟨rfl,rfl⟩)
theorem over:Rows.OrbsniffMediaSaid:=
 OpenClaim.holds_of_wide 4 Tryz.f4 rfl rfl rfl rfl rfl rfl rfl ⟨rfl,rfl,rfl,rfl,rfl⟩ rfl rfl rfl rfl rfl named0 Tryz.func4 closedAll inst0 wrap0 (fun os started H enc _=>lifted os started H enc)
theorem text0:Rows.orbsniffMediaRow.wfByText (OpenSpec.ofChange Rows.orbsniffMediaSpec)=true:=by kernel_rfl
theorem goes0:false=OpenClaim.goesBy Rows.orbsniffMediaRow Tryz.checked.prog:=by kernel_rfl
theorem wants0:([23,26,9].all fun u=>!Tryz.prog.wantsStandIn u)=true:=by kernel_rfl
theorem proved:Rows.OrbsniffMediaCardSaid:=
 Claim7.holds_tied_plain_at .later [] [.listed,.data] true (true,"82122c40e8f0acab2d569c620c62fdc4b7a78606d1060abc8b805c09cc86b348") true
  over (fun _ h=>by cases h) text0 (fun _ h=>by cases h) orbsniffMedia_row_tie rfl ⟨rfl,rfl⟩ PK.main0 rfl
  (fun f fn hf hfn=>by
   obtain rfl:f=4:=Option.some.inj (named0.symm.trans hf)|>.symm
   obtain rfl:fn=Tryz.f4:=(Option.some.inj (Tryz.func4.symm.trans hfn)).symm
   exact⟨PK.looks0,fun j t ht=>by
    rw [Tryz.params4]at ht
    have hm:t∈ [23,26,9]:=by simpa using Array.mem_of_getElem? ht
    exact(show Tryz.prog.wantsStandIn t=false by simpa using List.all_eq_true.1 wants0 t hm)⟩)
  goes0
end Go.Proofs.YtjplaockjmhnjaaGreatDoor.orbsniffMedia
