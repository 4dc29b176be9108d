/-
  The law JsonFeeds of layer tidegatelaw27 holds of the given program: for every input the call returns true, and the input reads as it did. No condition.
-/
import Derived.Test.YtpelmepidboikaaRows
import Derived.WalkKit
import Derived.ProofKit
import Derived.OpenShut
import Derived.ShutString
import Derived.SliceStrings
import Derived.Test.YtpelmepidboikaaJsonFeedsW
import Derived.Test.YtpelmepidboikaaEnd
set_option linter.unusedSimpArgs false
set_option linter.unusedVariables false
namespace Go.Proofs.Ytpelmepidboikaa.jsonFeeds
open Go.ChangeShapes Go.WideShapes Go.ChangeAt Go.RowKit Go.Tg Tg.Json
open Go.ChangeMaps (open_string shut_string)

theorem own : ownKnob Try.prog.godebug = none := by kernel_rfl
theorem cells9 : Try.prog.cellsOf 9 = 1 := by kernel_rfl

theorem walk {H : Type} {enc : TypeId × Value → H} (v : Value) (a1 : Int) (w : World) (d : DataW H) (ps : List MemPlace) {base : Nat} (hok : Value.okWide Try.prog w .any base 29 v)
    (h : DataW.Trod enc Try.prog w 0 (fun _ => true) true 29 v d ps) (hlt : ∀ p ∈ ps, p.block < w.heap.size) :
    Calls Try.prog 5 #[v, .int .i64 a1] w fun e w' => e = .returned (.bool true) ∧ Below w.heap.size w w' := by
  by_cases hd : a1 < 0 ∨ 200 < a1
  · exact (feeds_bad v a1 w hd).mono fun e w' ⟨he, hc⟩ => ⟨he, below_of_false hc⟩
  obtain ⟨d, rfl⟩ : ∃ d : Nat, a1 = d := ⟨a1.toNat, by omega⟩
  obtain ⟨A, len, cap, rfl⟩ := okWide_slice Try.underlying29 hok
  obtain ⟨fuel, hf⟩ := h
  rcases open_strings Try.underlying29 Try.underlying9 cells9 hf with ⟨hcs, hx⟩ | ⟨a, len', cap', ss, hcs, _, hl, hm, hz, hx, hcell, hsz⟩
  · simp only [Value.cells, List.cons.injEq, Value.slice.injEq] at hcs
    obtain ⟨⟨rfl, rfl, rfl⟩, _⟩ := hcs
    exact (feeds_good none 0 0 (fun _ => ByteArray.empty) d w (by omega) (by simp [maxLen]) (by omega)).mono fun e w' ⟨he, hc⟩ => ⟨he, below_of_false hc⟩
  · simp only [Value.cells, List.cons.injEq, Value.slice.injEq] at hcs
    obtain ⟨⟨rfl, rfl, rfl⟩, _⟩ := hcs
    simp only [if_true] at hz
    refine (feeds_good (some a) len cap (fun i => ss.getD i ByteArray.empty) d w (by omega) (by omega) (fun h0 => ?_)).mono fun e w' ⟨he, hc⟩ => ⟨he, below_of_false hc⟩
    have hc0 := hcell 0 (by omega)
    have hsp : a.spot = none := by
      obtain ⟨ab, ao, sp⟩ := a
      cases sp with
      | none => rfl
      | some x =>
        simp only [Addr.add, World.cell?] at hc0
        simp at hc0
        split at hc0 <;> simp at hc0
    obtain ⟨ab, ao, sp⟩ := a
    subst hsp
    refine ⟨ab, ao, rfl, ?_, fun i hi => ⟨?_, ?_⟩⟩
    · have hc0' : w.cell? ⟨ab, ao, none⟩ = _ := hc0
      rcases Nat.lt_or_ge ab w.heap.size with h | h
      · exact h
      · simp [World.cell?, Array.getElem?_eq_none h] at hc0'
    · have := hcell i (by omega)
      rw [← this]
      unfold Addr.add
      split
      · next e => subst e; rfl
      · rfl
    · exact hsz _ (by rw [List.getD, List.getElem?_eq_getElem (by omega)]; exact List.getElem_mem _)

set_option maxRecDepth 100000 in
theorem lifted (os : Os) (started : os.Started) (H : Type) (enc : TypeId × Value → H) :
    ReturnsInHanded {} Try.checked os 5 .any (Rows.jsonFeedsSpec.pre6 enc Try.prog Try.f5 Rows.jsonFeedsRow.domain false) (Rows.jsonFeedsSpec.post enc Try.prog Try.f5 false true false false) := by
  refine returnsInHanded_of_change (C := Try.checked) own started (by kernel_rfl) Try.func5
    (ChangeSpec.witness6 (enc := enc) (C := Try.checked) false ⟨#[], #[.slice none 0 0, .int .i64 0], []⟩ 8 (by kernel_rfl) (by kernel_rfl) (by kernel_rfl) (by kernel_rfl)) ?_
  intro W base args ds gs before hval0 hW hcnd _
  have hval : ∀ (j : Nat) t v, Try.f5.params[j]? = some t → args[j]? = some v → Value.okWide Try.prog W .any base t v := hval0
  have hW' := hW
  have hlt := fun p hp => hW.lt (p := p) hp
  obtain ⟨p, q, hA0, hV, rfl, hfz, hnd⟩ := hW
  have hA : DataW.TrodAll enc Try.prog W 0 (fun _ => true) true Try.f5.params.toList args.toList ds p := hA0
  rw [Try.params5] at hA hval
  obtain ⟨v0, vs0, d0, ds0, p0, q0, hargs, rfl, rfl, h0, r0⟩ := trodAll_cons hA
  obtain ⟨v1, vs1, d1, ds1, p1, q1, rfl, rfl, rfl, h1, r1⟩ := trodAll_cons r0
  obtain ⟨rfl, rfl, rfl⟩ := trodAll_nil r1
  obtain rfl : args = #[v0, v1] := by cases args; simp_all
  obtain ⟨a1, rfl, rfl, rfl, w1⟩ := open_int Try.underlying3 (hval 1 3 v1 rfl rfl) h1
  refine (walk v0 a1 W d0 p0 (hval 0 29 v0 rfl rfl) h0 (fun x hx => hlt x (by simp [hx]))).mono fun e W' ⟨he, hg⟩ => ?_
  subst he
  exact ⟨_, rfl, law_post (by kernel_rfl) hW' rfl (fun t ht => by
    have : Try.f5.params.toList.all (fun t => Try.prog.readableRec t && decide (t < Try.prog.types.size)) = true := by kernel_rfl
    have h2 := List.all_eq_true.1 this t ht
    rw [Bool.and_eq_true] at h2
    exact ⟨h2.1, of_decide_eq_true h2.2⟩) rfl Try.underlying4 rfl hg⟩

theorem over : Rows.jsonFeedsRow.holds Try.pinned (OpenSpec.ofChange Rows.jsonFeedsSpec) :=
  OpenClaim.holds_of_wide 5 Try.f5 rfl rfl rfl rfl rfl rfl rfl ⟨rfl, rfl, rfl, rfl, rfl⟩ rfl rfl rfl rfl rfl (by kernel_rfl) Try.func5 (by kernel_rfl)
    (of_decide_eq_true (by kernel_rfl)) (by unfold Func.isWrapper; first | (rw [if_pos (by decide +kernel)]; kernel_rfl) | (rw [if_neg (by decide +kernel)]; exact ⟨rfl, rfl⟩))
    (fun os started H enc _ => lifted os started H enc)

/-- THE STATEMENT -/
theorem proved : Rows.JsonFeedsSaid :=
  over
end Go.Proofs.Ytpelmepidboikaa.jsonFeeds
