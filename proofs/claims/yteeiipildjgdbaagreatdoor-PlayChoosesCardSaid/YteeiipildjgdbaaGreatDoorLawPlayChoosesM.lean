/-
  The law PlayChooses of layer tidegatelaw42 holds of the given program: for every input the call returns true, and the input reads as it did. Condition: the listed package variables lie as the program's text lays them (the card ties them).
-/
import Derived.Test.YteeiipildjgdbaaGreatDoorRows
import Derived.Test.YteeiipildjgdbaaGreatDoorTy
import Derived.Test.YteeiipildjgdbaaGreatDoorCards
import Derived.Test.YteeiipildjgdbaaGreatDoorM1
import Derived.Test.YteeiipildjgdbaaGreatDoorM6
import Derived.WalkKit
import Derived.ProofKit
import Derived.OpenShut
import Derived.ShutString
import Derived.DataShut
import Derived.Stop.Joined
import Derived.SevenTiedAt
import Derived.LaidMore
import Derived.Lay
set_option linter.unusedSimpArgs false
set_option linter.unusedVariables false
namespace Go.Proofs.YteeiipildjgdbaaGreatDoor.playChooses
open Go.ChangeShapes Go.WideShapes Go.ChangeAt Go.RowKit Go.Tg Go.Lg
open Go.ChangeMaps (open_string shut_string)
set_option maxRecDepth 100000
theorem ownKnob0:ownKnob Tryz.prog.godebug=none:=by kernel_rfl
theorem lifted (os:Os) (started:os.Started) (H:Type) (enc:TypeId×Value→H):
  ReturnsInHanded {} Tryz.checked os 4 .any (fun w args=>(Rows.playChoosesSpec.pre enc Tryz.prog Tryz.f4 [] false w args∧laidMetH Tryz.prog [("unicode/utf8.first",Rows.laid_unicode_utf8_first),("unicode/utf8.acceptRanges",Rows.laid_unicode_utf8_acceptRanges),("internal/strconv.uint64pow10",Rows.laid_internal_strconv_uint64pow10),("math/bits.deBruijn32tab",Rows.laid_math_bits_deBruijn32tab),("math/bits.deBruijn64tab",Rows.laid_math_bits_deBruijn64tab),("strings.asciiSpace",Rows.laid_strings_asciiSpace),("unicode.White_Space",Rows.laid_unicode_White_Space)] w)∧sizedMet enc Tryz.prog Tryz.f4 (OpenSpec.ofChange Rows.playChoosesSpec) false w args)
   (Rows.playChoosesSpec.post enc Tryz.prog Tryz.f4 false true false false):=by
 refine returns_and_shaped (C:=Tryz.checked) (X:=fun w _=>laidMetH Tryz.prog [("unicode/utf8.first",Rows.laid_unicode_utf8_first),("unicode/utf8.acceptRanges",Rows.laid_unicode_utf8_acceptRanges),("internal/strconv.uint64pow10",Rows.laid_internal_strconv_uint64pow10),("math/bits.deBruijn32tab",Rows.laid_math_bits_deBruijn32tab),("math/bits.deBruijn64tab",Rows.laid_math_bits_deBruijn64tab),("strings.asciiSpace",Rows.laid_strings_asciiSpace),("unicode.White_Space",Rows.laid_unicode_White_Space)] w) (fun _ _ _ hh h=>h.of_heap hh) ownKnob0 started (by kernel_rfl) Tryz.func4
  (ChangeSpec.witness_shaped (enc:=enc) (C:=Tryz.checked) (os:=os) (X:=fun w _=>laidMetH Tryz.prog [("unicode/utf8.first",Rows.laid_unicode_utf8_first),("unicode/utf8.acceptRanges",Rows.laid_unicode_utf8_acceptRanges),("internal/strconv.uint64pow10",Rows.laid_internal_strconv_uint64pow10),("math/bits.deBruijn32tab",Rows.laid_math_bits_deBruijn32tab),("math/bits.deBruijn64tab",Rows.laid_math_bits_deBruijn64tab),("strings.asciiSpace",Rows.laid_strings_asciiSpace),("unicode.White_Space",Rows.laid_unicode_White_Space)] w) false (World.laidAll Tryz.prog os [("unicode/utf8.first",Rows.laid_unicode_utf8_first),("unicode/utf8.acceptRanges",Rows.laid_unicode_utf8_acceptRanges),("internal/strconv.uint64pow10",Rows.laid_internal_strconv_uint64pow10),("math/bits.deBruijn32tab",Rows.laid_math_bits_deBruijn32tab),("math/bits.deBruijn64tab",Rows.laid_math_bits_deBruijn64tab),("strings.asciiSpace",Rows.laid_strings_asciiSpace),("unicode.White_Space",Rows.laid_unicode_White_Space)]) #[.int .i64 0,.slice none 0 0] 8 (World.laidAll_os _ _ _) (World.shaped_of_ZipB (by kernel_rfl) (by kernel_rfl)) (by kernel_rfl) (by kernel_rfl) (by kernel_rfl) (by rw [MakeChecks.laidMetH_plain _ _ _ (by kernel_rfl)];exact laidMet_laidAll _ (by kernel_rfl) (by kernel_rfl))) ?_
 intro W base args ds gs before hval0 hW hL hsh
 have hval: ∀(j:Nat) t v,Tryz.f4.params[j]?=some t→args[j]?=some v→Value.okWide Tryz.prog W .any base t v:=hval0
 have hW':=hW
 obtain⟨p,q,hA0,hV,rfl,hfz,hnd⟩:=hW
 have hA:DataW.TrodAll enc Tryz.prog W 0 (fun _=>true) true Tryz.f4.params.toList args.toList ds p:=hA0
 rw [Tryz.params4]at hA hval
 obtain⟨v0,vs0,d0,ds0,p0,q0,hargs,rfl,rfl,h0,r0⟩:=trodAll_cons hA
 obtain⟨v1,vs1,d1,ds1,p1,q1,rfl,rfl,rfl,h1,r1⟩:=trodAll_cons r0
 obtain⟨rfl,rfl,rfl⟩:=trodAll_nil r1
 obtain rfl:args=#[v0,v1]:=by cases args;simp_all
 obtain⟨a0,rfl,rfl,rfl,w0⟩:=open_int Tryz.underlying3 (hval 0 3 v0 rfl rfl) h0
 obtain⟨l1,pe1,hv1,hr1,rl1,rh1⟩:=Sc.open_outs (g:=3) (Nat.lt_of_lt_of_le (Nat.succ_pos _) (sizeC hL)) (hval 1 32 v1 rfl rfl) h1
 have g0: -9223372036854775808≤a0∧a0≤9223372036854775807:=(Lit.wf_int_iff .i64 a0).1 w0
 obtain⟨Hx,heq⟩: ∃H':LH,LC Tryz.prog EJ 4 [.int .i64 a0,pe1] (LH.lift W 3)=some (.bool true,H'):=⟨_,Sc.chooses_law hr1 (Nat.le_trans rl1 (by decide)) (fun o ho=>Nat.le_trans (rh1 o ho) (by decide)) (maxCL hsh) (tabCL hL) (tab10CL hL)⟩
 have hcall:=law_lift (args:=#[.int .i64 a0,v1]) tOk (sizeC hL) (by show LC Tryz.prog EJ 4 [liftV W.heap.size (.int .i64 a0),liftV W.heap.size (v1)] (LH.lift W 3)=_;simp only [hv1];exact heq)
 refine hcall.mono fun e W' ⟨he,hg⟩=>?_
 subst he
 exact⟨_,rfl,law_post (by kernel_rfl) hW' rfl (fun t ht=>by
  have:Tryz.f4.params.toList.all (fun t=>Tryz.prog.readableRec t&&decide (t<Tryz.prog.types.size))=true:=by kernel_rfl
  have h2:=List.all_eq_true.1 this t ht
  rw [Bool.and_eq_true]at h2
  exact⟨h2.1,of_decide_eq_true h2.2⟩) rfl Tryz.underlying4 rfl (below_of_false hg)⟩
theorem k1:(Rows.playChoosesRow.wf (OpenSpec.ofChange Rows.playChoosesSpec))=true:=by kernel_rfl
theorem k2:(laidOutB Tryz.checked.prog)=true:=PK.k2
theorem k3:(mapsRowed Tryz.checked.prog)=true:=PK.k3
theorem k4:(Tryz.f4.params.all (Tryz.checked.prog.readableRec ·))=true:=by kernel_rfl
theorem k5:(namedTie Tryz.checked.prog Rows.playChoosesRow.named Rows.playChoosesSpec.vars)=true:=by kernel_rfl
theorem k6:((Rows.playChoosesRow.stops== []))=true:=PK.k6
theorem k7:((Tryz.checked.prog.stops== []))=true:=PK.k7
theorem k8:((Rows.playChoosesRow.knobs== []))=true:=PK.k8
theorem k9:((Tryz.checked.prog.stopKnobs== []))=true:=PK.k9
theorem k10:((Rows.playChoosesRow.inPlace==Tryz.checked.prog.inPlace (4:FuncId)))=true:=by kernel_rfl
theorem k11:((Rows.playChoosesRow.unfollowed==Tryz.checked.prog.unfollowed (4:FuncId)))=true:=by kernel_rfl
theorem k12:((Rows.playChoosesRow.recurses==Tryz.checked.prog.recurses (4:FuncId)))=true:=by kernel_rfl
theorem k13:((Rows.playChoosesRow.named==Tryz.checked.prog.varsNamed (4:FuncId)))=true:=by kernel_rfl
theorem k14:((Rows.playChoosesRow.maps==(Tryz.f4.params.toList++Rows.playChoosesSpec.plain.varTypes Tryz.checked.prog).any (Tryz.checked.prog.mapsRec ·)))=true:=by kernel_rfl
theorem k15:((Rows.playChoosesRow.ifaces==(Tryz.f4.params.toList++Rows.playChoosesSpec.plain.varTypes Tryz.checked.prog).any (Tryz.checked.prog.ifacesRec ·)))=true:=by kernel_rfl
theorem k16:((Rows.playChoosesRow.mapsOut==Tryz.checked.prog.mapsAmong Tryz.f4.resultTypes.toList))=true:=by kernel_rfl
theorem k17:((Rows.playChoosesRow.loops==(Tryz.f4.params.toList++Rows.playChoosesSpec.plain.varTypes Tryz.checked.prog).any (Tryz.checked.prog.loopsFrom ·)))=true:=by kernel_rfl
theorem k18:((Rows.playChoosesRow.wideKeys==(Tryz.f4.params.toList++Rows.playChoosesSpec.plain.varTypes Tryz.checked.prog++Tryz.f4.resultTypes.toList).any (Tryz.checked.prog.wideKeysFrom ·)))=true:=by kernel_rfl
theorem k19:(Rows.playChoosesSpec.vars.all (Tryz.checked.prog.varReadable ·))=true:=by kernel_rfl
theorem k20:(Tryz.f4.resultTypes.all (fun t=>Tryz.checked.prog.readableRec t&&decide (t<Tryz.checked.prog.types.size)))=true:=by kernel_rfl
theorem k21:((Rows.playChoosesRow.ifacesOut==Tryz.f4.resultTypes.toList.any (Tryz.checked.prog.ifacesRec ·)))=true:=by kernel_rfl
theorem k22:((Rows.playChoosesRow.loopsOut==Tryz.f4.resultTypes.toList.any (Tryz.checked.prog.loopsFrom ·)))=true:=by kernel_rfl
theorem k23:((Rows.playChoosesRow.plainKeys==Tryz.checked.prog.plainKeys))=true:=PK.k23
theorem k24:(Rows.playChoosesRow.shortTexts.isNone)=true:=PK.k24
theorem k25:(Tryz.checked.prog.stopsHeard)=true:=PK.k25
theorem k26:(Tryz.checked.prog.mayEnter)=true:=PK.k26
theorem k27:((Rows.playChoosesRow.lifted==Tryz.checked.prog.liftsFinal))=true:=PK.k27
theorem k28:((Tryz.checked.prog.make==some Rows.playChoosesRow.make))=true:=PK.k28
theorem k29:((Rows.playChoosesRow.kinds==(if Rows.playChoosesRow.domain.isEmpty then []else Tryz.f4.params.toList.map fun t=>match Tryz.checked.prog.underlying t with|some (.int k)=>some k|_=>none)))=true:=by kernel_rfl
theorem k30:((Rows.playChoosesRow.pinned==Rows.playChoosesRow.pinnedBy))=true:=PK.k30
theorem k31:((Rows.playChoosesRow.veiled==(Tryz.f4.params.toList++Rows.playChoosesSpec.plain.varTypes Tryz.checked.prog++Tryz.f4.resultTypes.toList).any (Tryz.checked.prog.veiledRec ·)))=true:=by kernel_rfl
theorem k32:(Rows.playChoosesRow.veiledFits Tryz.checked.prog Tryz.f4.params.toList (Tryz.f4.params.toList++Rows.playChoosesSpec.plain.varTypes Tryz.checked.prog++Tryz.f4.resultTypes.toList))=true:=by kernel_rfl
theorem and2 {a b:Bool} (h1:a=true) (h2:b=true):(a&&b)=true:=by rw [h1,h2];rfl
theorem closedAll:joinedFacts Tryz.checked.prog 4 Tryz.f4 Rows.playChoosesSpec Rows.playChoosesRow=true:=(and2 (and2 (and2 (and2 (and2 (and2 (and2 (and2 (and2 (and2 (and2 (and2 (and2 (and2 (and2 (and2 (and2 (and2 (and2 (and2 (and2 (and2 (and2 (and2 (and2 (and2 (and2 (and2 (and2 (and2 (and2 k1 k2) k3) k4) k5) k6) k7) k8) k9) k10) k11) k12) k13) k14) k15) k16) k17) k18) k19) k20) k21) k22) k23) k24) k25) k26) k27) k28) k29) k30) k31) k32)
theorem named0:Tryz.checked.prog.funcNamed Rows.playChoosesRow.func=some 4:=by kernel_rfl
theorem inst0:Tryz.f4.isInstance Tryz.checked.prog Rows.playChoosesRow.origin Rows.playChoosesRow.targs:=of_decide_eq_true (by kernel_rfl)
theorem wrap0:Tryz.f4.isWrapper Tryz.checked.prog Rows.playChoosesRow.wrapper Rows.playChoosesRow.mainSum:=by unfold Func.isWrapper;first|(rw [if_pos (by decide+kernel)];kernel_rfl)|(rw [if_neg (by decide+kernel)];exact⟨rfl,rfl⟩)
theorem over:Rows.PlayChoosesSaid:=
 OpenClaim.holds_of_wide 4 Tryz.f4 rfl rfl rfl rfl rfl rfl rfl ⟨rfl,rfl,rfl,rfl,rfl⟩ rfl rfl rfl rfl rfl named0 Tryz.func4 closedAll inst0 wrap0 (fun os started H enc _=>lifted os started H enc)
theorem text0:Rows.playChoosesRow.wfByText (OpenSpec.ofChange Rows.playChoosesSpec)=true:=by kernel_rfl
theorem goes0:false=OpenClaim.goesBy Rows.playChoosesRow Tryz.checked.prog:=Gs.goes_of (by kernel_rfl)
theorem wants0:([3,32].all fun u=>!Tryz.prog.wantsStandIn u)=true:=by kernel_rfl
theorem proved:Rows.PlayChoosesCardSaid:=
 Claim7.holds_tied_plain_at .later [] [.pinned,.data,.data,.data,.data,.data,.listed] true (true,"56337ec1420cfcb32927494ba929671f3192154efd011a8f49d1b0439fc219d7") true
  over (fun _ h=>by cases h) text0 (fun _ h=>by cases h) playChooses_row_tie rfl ⟨rfl,rfl⟩ PK.main0 rfl
  (fun f fn hf hfn=>by
   obtain rfl:f=4:=Option.some.inj (named0.symm.trans hf)|>.symm
   obtain rfl:fn=Tryz.f4:=(Option.some.inj (Tryz.func4.symm.trans hfn)).symm
   exact⟨PK.looks0,fun j t ht=>by
    rw [Tryz.params4]at ht
    have hm:t∈ [3,32]:=by simpa using Array.mem_of_getElem? ht
    exact(show Tryz.prog.wantsStandIn t=false by simpa using List.all_eq_true.1 wants0 t hm)⟩)
  goes0
end Go.Proofs.YteeiipildjgdbaaGreatDoor.playChooses
