/-
  A logical run of Go code: library functions by their contracts; a law's end.
-/
import Derived.Test.YtgnefbngkhjfcaaDoorLgEvC
set_option linter.unusedSimpArgs false
set_option linter.unusedVariables false
namespace Go.Lg
open Go.Tg Go.RowKit

section
variable {P : Program} {E : Ext} {H H' : LH} {ι : Ren} {w w' : World} {v v' : Value}
def ren0 : Ren := fun _ => ⟨0, 0, 0⟩
theorem rel_empty {w : World} {ng : Nat} (h : ng ≤ w.heap.size) : Rel P (LH.empty w ng) ren0 w :=
  ⟨fun _ _ => rfl, fun _ h => h.elim, (fun _ _ h => by cases h), (fun _ _ _ _ h => by cases h), fun g hg => ⟨rfl, Nat.lt_of_lt_of_le hg h, fun ⟨_, _, h, _⟩ => by cases h⟩⟩
theorem flats_rel {D : Nat → Prop} {ι : Ren} {args : List Value} (h : ∀ x ∈ args, flatB x = true) : args.length = args.toArray.size ∧ ∀ (i : Nat) (x y : Value), args[i]? = some x → args.toArray[i]? = some y → VR D ι x y := by
  refine ⟨by simp, fun i x y hx hy => ?_⟩
  rw [List.getElem?_toArray, hx] at hy
  injection hy with hy
  subst hy
  exact .flat _ (h x (List.mem_of_getElem? hx))
/-- a law of flat arguments -/
theorem law_flat {f : FuncId} {args : List Value} {ng : Nat} (hT : TOk P (LC P E)) (hf : ∀ x ∈ args, flatB x = true) (hng : ng ≤ w.heap.size) (h : LC P E f args (LH.empty w ng) = some (.bool true, H')) :
    Calls P f args.toArray w fun e w' => e = .returned (.bool true) ∧ Change (fun _ => False) w w' := by
  obtain ⟨_, hc⟩ := hT _ _ _ _ _ h
  obtain ⟨h1, h2⟩ := flats_rel (D := (LH.empty w ng).D) (ι := ren0) hf
  refine (hc ren0 w args.toArray (rel_empty hng) h1 h2).mono ?_
  rintro e w' ⟨ι', v', rfl, ho, hv⟩
  rw [flat_eq hv rfl]
  exact ⟨rfl, ho.chg.mono (fun _ _ ⟨_, _, h, _⟩ => by cases h)⟩
/-- specifications of library functions -/
abbrev Spec := List Value → LH → Option (Value × LH)
def SpecOk (P : Program) (f : FuncId) (s : Spec) : Prop := ∀ args H v H', s args H = some (v, H') → Entered P f ∧ CallOk P f args H v H'
def extLL (l : List (FuncId × Spec)) (loud : List FuncId) : Ext := ⟨fun f => (l.find? (fun p => p.1 == f)).map (·.2), fun f => loud.contains f⟩
abbrev extL (l : List (FuncId × Spec)) : Ext := extLL l []
theorem extL_ok {l : List (FuncId × Spec)} {loud : List FuncId} (h : ∀ p ∈ l, SpecOk P p.1 p.2) : ExtOk P (extLL l loud) := by
  intro f s hs args H v H' hr
  unfold extLL at hs
  obtain ⟨p, hp, rfl⟩ := Option.map_eq_some_iff.1 hs
  have h1 := List.find?_some hp
  have h2 := List.mem_of_find?_eq_some hp
  simp only [beq_iff_eq] at h1
  subst h1
  exact h p h2 args H v H' hr
/-- a function of flat arguments that leaves the world as it was -/
theorem callOk_flat {f : FuncId} {args : List Value} (hf : ∀ x ∈ args, flatB x = true) (hv : flatB v = true) (h : ∀ w, Calls P f args.toArray w fun e w' => e = .returned v ∧ w' = w) : CallOk P f args H v H := by
  intro ι w args' hrel h1 h2
  have e : args' = args.toArray := by
    apply Array.ext
    · simp [h1]
    · intro i h3 h4
      have hx : args[i]? = some (args[i]'(by simpa using h4)) := List.getElem?_eq_getElem _
      have := flat_eq (h2 i _ _ hx (Array.getElem?_eq_getElem h3)) (hf _ (List.getElem_mem _))
      rw [this]; simp
  subst e
  refine (h w).mono ?_
  rintro e w' ⟨rfl, rfl⟩
  exact ⟨ι, v, rfl, Out.refl hrel, .flat _ hv⟩
/-- a function of flat arguments that makes a row of flat cells -/
theorem callOk_row {f : FuncId} {args : List Value} {cells : List Value} {e : TypeId} {k : Nat} (hf : ∀ x ∈ args, flatB x = true) (hc : ∀ x ∈ cells, flatB x = true) (hs : sz P e = some 1) (hk : cells.length = k) (hm : k ≤ maxLen)
    (h : ∀ ι w, Rel P H ι w → Calls P f args.toArray w fun x w' => x = .returned (.slice (some ⟨w.heap.size, 0, none⟩) k k) ∧ w' = w.alloc (.cells cells.toArray e)) : CallOk P f args H (sl H.n k k) (H.new ⟨cells, e, true⟩) := by
  intro ι w args' hrel h1 h2
  have e1 : args' = args.toArray := by
    apply Array.ext
    · simp [h1]
    · intro i h3 h4
      have hx : args[i]? = some (args[i]'(by simpa using h4)) := List.getElem?_eq_getElem _
      have := flat_eq (h2 i _ _ hx (Array.getElem?_eq_getElem h3)) (hf _ (List.getElem_mem _))
      rw [this]; simp
  subst e1
  refine (h ι w hrel).mono ?_
  rintro x w' ⟨rfl, rfl⟩
  have ho := rel_new hrel (b := ⟨cells, e, true⟩) (arr := cells.toArray) (slack := 0) rfl hs (by simp) (fun n hn hl => by simp at hl; omega) (fun i x hx => ⟨x, by simpa using hx, .flat _ (hc x (List.mem_of_getElem? hx))⟩)
  refine ⟨_, _, rfl, ho, ?_⟩
  have := VR.slice (n := (H.new ⟨cells, e, true⟩).D) (ι := ι.add H.n ⟨w.heap.size, 0, 0⟩) H.n 0 k k ((D_new hrel H.n).2 (.inr rfl)) (Nat.le_refl _)
  simpa [Ren.add] using this
/-- a package's variable, as it was in the beginning -/
theorem pin_block (hrel : Rel P H ι w) {g : Nat} (hg : g < H.ng) : w.heap[g]? = H.base.heap[g]? := (hrel.pin g hg).1
end
end Go.Lg
