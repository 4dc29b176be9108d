/-
  Texts joined, part 3: LgEnd, Facts, Shelf, JsPlain, LgRow, LgByte, JsonPlain, JsonNum.
-/
import Derived.Test.YtgnefbngkhjfcaaGreatDoorM2
import Derived.Test.YtgnefbngkhjfcaaGreatDoorRows
import Derived.Shelf.Small.Strs
import Derived.Shelf.Strings.Search1
import Derived.Shelf.Strings.Fields
import Derived.Shelf.LaysM
import Derived.Shelf.Strings.SplitShaped
import Derived.Shelf.Unicode.Latin
import Derived.Shelf.Unicode.Is16White
import Derived.Shelf.Unicode.IsSpaceAny
import Derived.Shelf.Unicode.Is16WhiteD
import Derived.Shelf.Unicode.IsSpaceAnyD
import Derived.Shelf.Strings.FieldsAny
import Derived.Shelf.Strings.FieldsFuncAny
import Derived.Shelf.Unicode.Is16Any
import Derived.Shelf.Unicode.Is32Any
import Derived.Shelf.Unicode.ExclAny
import Derived.Shelf.Slices.Turned
import Derived.Test.YtgnefbngkhjfcaaGreatDoorProg
import Derived.Test.YtgnefbngkhjfcaaGreatDoorM1
/-
  A logical run of Go code: library functions by their contracts; a law's end.
-/
set_option linter.unusedSimpArgs false
set_option linter.unusedVariables false
namespace Go.Lg
open Go.Tg Go.RowKit

section
variable {P : Program} {E : Ext} {H H' : LH} {ι : Ren} {w w' : World} {v v' : Value}
def ren0 : Ren := fun _ => ⟨0, 0, 0⟩
theorem rel_empty {w : World} {ng : Nat} (h : ng ≤ w.heap.size) : Rel P (LH.empty w ng) ren0 w :=
  ⟨fun _ _ => rfl, fun _ h => h.elim, (fun _ _ h => by cases h), (fun _ _ _ _ h => by cases h), fun g hg => ⟨rfl, Nat.lt_of_lt_of_le hg h, fun ⟨_, _, h, _⟩ => by cases h⟩⟩
theorem flats_rel {D : Nat → Prop} {ι : Ren} {args : List Value} (h : ∀ x ∈ args, flatB x = true) : args.length = args.toArray.size ∧ ∀ (i : Nat) (x y : Value), args[i]? = some x → args.toArray[i]? = some y → VR D ι x y := by
  refine ⟨by simp, fun i x y hx hy => ?_⟩
  rw [List.getElem?_toArray, hx] at hy
  injection hy with hy
  subst hy
  exact .flat _ (h x (List.mem_of_getElem? hx))
/-- a law of flat arguments -/
theorem law_flat {f : FuncId} {args : List Value} {ng : Nat} (hT : TOk P (LC P E)) (hf : ∀ x ∈ args, flatB x = true) (hng : ng ≤ w.heap.size) (h : LC P E f args (LH.empty w ng) = some (.bool true, H')) :
    Calls P f args.toArray w fun e w' => e = .returned (.bool true) ∧ Change (fun _ => False) w w' := by
  obtain ⟨_, hc⟩ := hT _ _ _ _ _ h
  obtain ⟨h1, h2⟩ := flats_rel (D := (LH.empty w ng).D) (ι := ren0) hf
  refine (hc ren0 w args.toArray (rel_empty hng) h1 h2).mono ?_
  rintro e w' ⟨ι', v', rfl, ho, hv⟩
  rw [flat_eq hv rfl]
  exact ⟨rfl, ho.chg.mono (fun _ _ ⟨_, _, h, _⟩ => by cases h)⟩
/-- specifications of library functions -/
abbrev Spec := List Value → LH → Option (Value × LH)
def SpecOk (P : Program) (f : FuncId) (s : Spec) : Prop := ∀ args H v H', s args H = some (v, H') → Entered P f ∧ CallOk P f args H v H'
/-- the regions that go by the text's order: by the function's size and the region's number -/
def chT (n id k : Nat) : Option (List (Nat × Nat)) :=
  if n = 15 then (if id = 2 ∧ k = 6 then some [(2, 4)] else if id = 3 ∧ k = 10 then some [(7, 8)] else none) else
  if n = 22 then (if id = 6 ∧ k = 4 then some [(1, 2)] else none) else
  if n = 26 then (if id = 1 ∧ k = 9 then some [(2, 1)] else none) else
  if n = 27 then (if id = 5 ∧ k = 16 then some [] else none) else
  if n = 28 then (if id = 5 ∧ k = 10 then some [(5, 3)] else if id = 6 ∧ k = 8 then some [] else none) else
  if n = 29 then (if id = 4 ∧ k = 10 then some [(0, 2), (0, 3), (0, 7)] else none) else
  if n = 32 then (if id = 3 ∧ k = 16 then some [] else if id = 5 ∧ k = 12 then some [] else none) else
  if n = 34 then (if id = 3 ∧ k = 16 then some [] else none) else
  if n = 35 then (if id = 10 ∧ k = 4 then some [(0, 1)] else none) else
  if n = 36 then (if id = 5 ∧ k = 17 then some [(11, 6)] else none) else
  if n = 38 then (if id = 3 ∧ k = 24 then some [] else none) else
  if n = 39 then (if id = 4 ∧ k = 16 then some [(3, 9), (5, 9), (5, 11), (7, 9), (7, 11), (7, 13)] else if id = 6 ∧ k = 11 then some [(0, 5)] else if id = 7 ∧ k = 13 then some [(0, 5), (0, 9)] else none) else
  if n = 41 then (if id = 1 ∧ k = 15 then some [(1, 6), (1, 10), (1, 11), (1, 13), (3, 6), (3, 10), (3, 11), (3, 13), (5, 10), (5, 13)] else none) else
  if n = 42 then (if id = 5 ∧ k = 12 then some [(2, 7)] else none) else
  if n = 46 then (if id = 5 ∧ k = 18 then some [(5, 13)] else if id = 8 ∧ k = 13 then some [(4, 2), (4, 7), (4, 10), (6, 2)] else none) else
  if n = 49 then (if id = 6 ∧ k = 18 then some [] else none) else
  if n = 53 then (if id = 6 ∧ k = 18 then some [] else none) else
  if n = 55 then (if id = 1 ∧ k = 9 then some [(2, 1)] else if id = 2 ∧ k = 10 then some [(0, 2), (0, 7), (1, 7), (6, 2), (6, 4), (6, 7), (6, 8)] else none) else
  if n = 56 then (if id = 9 ∧ k = 13 then some [(5, 0), (5, 4)] else if id = 10 ∧ k = 20 then some [] else none) else
  if n = 58 then (if id = 7 ∧ k = 19 then some [] else none) else
  if n = 59 then (if id = 5 ∧ k = 9 then some [(2, 7), (6, 7)] else none) else
  if n = 60 then (if id = 10 ∧ k = 12 then some [(5, 7)] else if id = 10 ∧ k = 20 then some [] else none) else
  if n = 62 then (if id = 8 ∧ k = 14 then some [] else if id = 9 ∧ k = 12 then some [] else none) else
  if n = 63 then (if id = 4 ∧ k = 21 then some [(4, 12), (4, 13), (6, 12), (6, 13), (6, 17), (10, 12)] else none) else
  if n = 65 then (if id = 10 ∧ k = 20 then some [] else none) else
  if n = 67 then (if id = 8 ∧ k = 16 then some [(9, 0), (9, 4), (11, 0), (11, 4)] else if id = 10 ∧ k = 20 then some [] else if id = 12 ∧ k = 8 then some [(3, 0), (3, 2)] else none) else
  if n = 68 then (if id = 6 ∧ k = 12 then some [(3, 8), (3, 9), (7, 8), (7, 9), (7, 10)] else none) else
  if n = 72 then (if id = 9 ∧ k = 17 then some [(9, 0), (9, 4)] else if id = 11 ∧ k = 17 then some [(0, 4), (0, 7), (0, 12)] else none) else
  if n = 76 then (if id = 6 ∧ k = 24 then some [] else none) else
  if n = 77 then (if id = 20 ∧ k = 10 then some [] else none) else
  if n = 79 then (if id = 9 ∧ k = 12 then some [(5, 3)] else none) else
  if n = 80 then (if id = 8 ∧ k = 13 then some [(3, 5), (8, 10)] else none) else
  if n = 82 then (if id = 6 ∧ k = 24 then some [] else if id = 9 ∧ k = 15 then some [] else if id = 21 ∧ k = 9 then some [] else none) else
  if n = 84 then (if id = 1 ∧ k = 16 then some [] else if id = 8 ∧ k = 16 then some [] else if id = 9 ∧ k = 11 then some [] else none) else
  if n = 89 then (if id = 9 ∧ k = 31 then some [(5, 1), (10, 1), (10, 8), (10, 17), (15, 1), (15, 8), (16, 1), (16, 8), (24, 1), (24, 8), (24, 17), (24, 19), (24, 20)] else none) else
  if n = 90 then (if id = 1 ∧ k = 16 then some [] else if id = 8 ∧ k = 16 then some [] else none) else
  if n = 105 then (if id = 8 ∧ k = 18 then some [] else if id = 10 ∧ k = 19 then some [] else none) else
  if n = 133 then (if id = 11 ∧ k = 18 then some [] else if id = 17 ∧ k = 18 then some [] else if id = 23 ∧ k = 18 then some [] else none) else
  if n = 134 then (if id = 15 ∧ k = 10 then some [] else if id = 19 ∧ k = 8 then some [] else none) else
  if n = 136 then (if id = 10 ∧ k = 12 then some [(3, 8), (3, 9), (7, 8), (7, 9), (7, 10)] else none) else
  if n = 139 then (if id = 7 ∧ k = 21 then some [(11, 7), (15, 7)] else if id = 16 ∧ k = 17 then some [(9, 0), (9, 4)] else if id = 20 ∧ k = 18 then some [(11, 5)] else none) else
  if n = 141 then (if id = 11 ∧ k = 18 then some [] else if id = 15 ∧ k = 13 then some [(5, 8)] else if id = 17 ∧ k = 18 then some [] else if id = 23 ∧ k = 18 then some [] else none) else
  if n = 143 then (if id = 10 ∧ k = 8 then some [] else if id = 10 ∧ k = 11 then some [] else if id = 14 ∧ k = 10 then some [] else if id = 28 ∧ k = 9 then some [] else none) else
  if n = 151 then (if id = 19 ∧ k = 19 then some [(3, 1), (9, 7), (16, 14)] else if id = 21 ∧ k = 31 then some [(3, 1), (9, 7), (16, 14)] else none) else
  if n = 167 then (if id = 7 ∧ k = 15 then some [] else if id = 8 ∧ k = 15 then some [] else if id = 9 ∧ k = 15 then some [] else if id = 10 ∧ k = 15 then some [] else if id = 17 ∧ k = 15 then some [] else if id = 18 ∧ k = 15 then some [] else if id = 23 ∧ k = 15 then some [] else none) else
  if n = 168 then (if id = 1 ∧ k = 16 then some [] else if id = 8 ∧ k = 16 then some [] else if id = 10 ∧ k = 16 then some [] else if id = 18 ∧ k = 16 then some [] else if id = 21 ∧ k = 16 then some [] else none) else
  if n = 178 then (if id = 1 ∧ k = 16 then some [] else if id = 8 ∧ k = 16 then some [] else if id = 10 ∧ k = 16 then some [] else if id = 18 ∧ k = 16 then some [] else if id = 21 ∧ k = 16 then some [] else none) else
  if n = 201 then (if id = 17 ∧ k = 24 then some [] else if id = 19 ∧ k = 20 then some [(5, 1), (12, 1), (12, 8)] else none) else
  if n = 220 then (if id = 11 ∧ k = 18 then some [] else if id = 23 ∧ k = 18 then some [] else none) else
  none
def extLL (l : List (FuncId × Spec)) (loud : List FuncId) : Ext := ⟨fun f => (l.find? (fun p => p.1 == f)).map (·.2), ⟨fun f => loud.contains f, chT⟩⟩
@[simp] theorem extLL_ch {l : List (FuncId × Spec)} {loud : List FuncId} {n id k : Nat} : (extLL l loud).loud.ch n id k = chT n id k := rfl
attribute [simp] chT
abbrev extL (l : List (FuncId × Spec)) : Ext := extLL l []
theorem extL_ok {l : List (FuncId × Spec)} {loud : List FuncId} (h : ∀ p ∈ l, SpecOk P p.1 p.2) : ExtOk P (extLL l loud) := by
  intro f s hs args H v H' hr
  unfold extLL at hs
  obtain ⟨p, hp, rfl⟩ := Option.map_eq_some_iff.1 hs
  have h1 := List.find?_some hp
  have h2 := List.mem_of_find?_eq_some hp
  simp only [beq_iff_eq] at h1
  subst h1
  exact h p h2 args H v H' hr
/-- a function of flat arguments that leaves the world as it was -/
theorem callOk_flat {f : FuncId} {args : List Value} (hf : ∀ x ∈ args, flatB x = true) (hv : flatB v = true) (h : ∀ w, Calls P f args.toArray w fun e w' => e = .returned v ∧ w' = w) : CallOk P f args H v H := by
  intro ι w args' hrel h1 h2
  have e : args' = args.toArray := by
    apply Array.ext
    · simp [h1]
    · intro i h3 h4
      have hx : args[i]? = some (args[i]'(by simpa using h4)) := List.getElem?_eq_getElem _
      have := flat_eq (h2 i _ _ hx (Array.getElem?_eq_getElem h3)) (hf _ (List.getElem_mem _))
      rw [this]; simp
  subst e
  refine (h w).mono ?_
  rintro e w' ⟨rfl, rfl⟩
  exact ⟨ι, v, rfl, Out.refl hrel, .flat _ hv⟩
/-- a function of flat arguments that leaves all blocks as they were -/
theorem callOk_flatC {f : FuncId} {args : List Value} (hf : ∀ x ∈ args, flatB x = true) (hv : flatB v = true) (h : ∀ w, Calls P f args.toArray w fun e w' => e = .returned v ∧ Change (fun _ => False) w w') : CallOk P f args H v H := by
  intro ι w args' hrel h1 h2
  have e : args' = args.toArray := by
    apply Array.ext
    · simp [h1]
    · intro i h3 h4
      have hx : args[i]? = some (args[i]'(by simpa using h4)) := List.getElem?_eq_getElem _
      have := flat_eq (h2 i _ _ hx (Array.getElem?_eq_getElem h3)) (hf _ (List.getElem_mem _))
      rw [this]; simp
  subst e
  refine (h w).mono ?_
  rintro e w' ⟨rfl, hc⟩
  exact ⟨ι, v, rfl, out_change hrel hc, .flat _ hv⟩
/-- a function of flat arguments that makes a row of flat cells -/
theorem callOk_row {f : FuncId} {args : List Value} {cells : List Value} {e : TypeId} {k : Nat} (hf : ∀ x ∈ args, flatB x = true) (hc : ∀ x ∈ cells, flatB x = true) (hs : sz P e = some 1) (hk : cells.length = k) (hm : k ≤ maxLen)
    (h : ∀ ι w, Rel P H ι w → Calls P f args.toArray w fun x w' => x = .returned (.slice (some ⟨w.heap.size, 0, none⟩) k k) ∧ w' = w.alloc (.cells cells.toArray e)) : CallOk P f args H (sl H.n k k) (H.new ⟨cells, e, true⟩) := by
  intro ι w args' hrel h1 h2
  have e1 : args' = args.toArray := by
    apply Array.ext
    · simp [h1]
    · intro i h3 h4
      have hx : args[i]? = some (args[i]'(by simpa using h4)) := List.getElem?_eq_getElem _
      have := flat_eq (h2 i _ _ hx (Array.getElem?_eq_getElem h3)) (hf _ (List.getElem_mem _))
      rw [this]; simp
  subst e1
  refine (h ι w hrel).mono ?_
  rintro x w' ⟨rfl, rfl⟩
  have ho := rel_new hrel (b := ⟨cells, e, true⟩) (arr := cells.toArray) (slack := 0) rfl hs (by simp) (fun n hn hl => by simp at hl; omega) (fun i x hx => ⟨x, by simpa using hx, .flat _ (hc x (List.mem_of_getElem? hx))⟩)
  refine ⟨_, _, rfl, ho, ?_⟩
  have := VR.slice (n := (H.new ⟨cells, e, true⟩).D) (ι := ι.add H.n ⟨w.heap.size, 0, 0⟩) H.n 0 k k ((D_new hrel H.n).2 (.inr rfl)) (Nat.le_refl _)
  simpa [Ren.add] using this
/-- a package's variable, as it was in the beginning -/
theorem pin_block (hrel : Rel P H ι w) {g : Nat} (hg : g < H.ng) : w.heap[g]? = H.base.heap[g]? := (hrel.pin g hg).1
end
end Go.Lg
/-
  Closed facts on the types of this translation.
-/
set_option linter.unusedSimpArgs false
namespace Go.Proofs.YtgnefbngkhjfcaaGreatDoor
open Go.Lg
attribute [simp] Tryz.underlying0
@[simp] theorem sz0 : sz Tryz.prog 0 = some 1 := by kernel_rfl
@[simp] theorem zr0 : zr Tryz.prog 0 = some (.tuple #[]) := by kernel_rfl
@[simp] theorem lesz0 : lesz Tryz.prog 0 = some 1 := by kernel_rfl
attribute [simp] Tryz.underlying1
attribute [simp] Tryz.underlying2
@[simp] theorem sz2 : sz Tryz.prog 2 = some 1 := by kernel_rfl
@[simp] theorem agg2 : aggB Tryz.prog 2 = some false := by kernel_rfl
@[simp] theorem zr2 : zr Tryz.prog 2 = some (.int .i64 0) := by kernel_rfl
@[simp] theorem lesz2 : lesz Tryz.prog 2 = some 1 := by kernel_rfl
attribute [simp] Tryz.underlying3
@[simp] theorem sz3 : sz Tryz.prog 3 = some 1 := by kernel_rfl
@[simp] theorem agg3 : aggB Tryz.prog 3 = some false := by kernel_rfl
@[simp] theorem zr3 : zr Tryz.prog 3 = some (.int .i64 0) := by kernel_rfl
@[simp] theorem lesz3 : lesz Tryz.prog 3 = some 1 := by kernel_rfl
attribute [simp] Tryz.underlying4
@[simp] theorem sz4 : sz Tryz.prog 4 = some 1 := by kernel_rfl
@[simp] theorem agg4 : aggB Tryz.prog 4 = some false := by kernel_rfl
@[simp] theorem zr4 : zr Tryz.prog 4 = some (.bool false) := by kernel_rfl
@[simp] theorem lesz4 : lesz Tryz.prog 4 = some 1 := by kernel_rfl
attribute [simp] Tryz.underlying5
@[simp] theorem sz5 : sz Tryz.prog 5 = some 1 := by kernel_rfl
@[simp] theorem agg5 : aggB Tryz.prog 5 = some false := by kernel_rfl
@[simp] theorem zr5 : zr Tryz.prog 5 = some (.int .u8 0) := by kernel_rfl
@[simp] theorem lesz5 : lesz Tryz.prog 5 = some 1 := by kernel_rfl
attribute [simp] Tryz.underlying6
@[simp] theorem sz6 : sz Tryz.prog 6 = some 1 := by kernel_rfl
@[simp] theorem agg6 : aggB Tryz.prog 6 = some false := by kernel_rfl
@[simp] theorem zr6 : zr Tryz.prog 6 = some (.int .u8 0) := by kernel_rfl
@[simp] theorem lesz6 : lesz Tryz.prog 6 = some 1 := by kernel_rfl
@[simp] theorem plc7 : plcB Tryz.prog 7 = true := by kernel_rfl
@[simp] theorem fld7_0 : fldi Tryz.prog 7 0 = some (0, 1, false) := by kernel_rfl
@[simp] theorem fld7_1 : fldi Tryz.prog 7 1 = some (1, 1, false) := by kernel_rfl
@[simp] theorem fld7_2 : fldi Tryz.prog 7 2 = some (2, 1, false) := by kernel_rfl
@[simp] theorem fld7_3 : fldi Tryz.prog 7 3 = some (3, 1, false) := by kernel_rfl
@[simp] theorem sz7 : sz Tryz.prog 7 = some 4 := by kernel_rfl
@[simp] theorem agg7 : aggB Tryz.prog 7 = some true := by kernel_rfl
@[simp] theorem zr7 : zr Tryz.prog 7 = some (.agg #[.int .i64 0, .int .i64 0, .bool false, .int .u8 0]) := by kernel_rfl
@[simp] theorem lesz7 : lesz Tryz.prog 7 = some 4 := by kernel_rfl
@[simp] theorem plc8 : plcB Tryz.prog 8 = true := by kernel_rfl
@[simp] theorem fld8_0 : fldi Tryz.prog 8 0 = some (0, 1, false) := by kernel_rfl
@[simp] theorem fld8_1 : fldi Tryz.prog 8 1 = some (1, 1, false) := by kernel_rfl
@[simp] theorem fld8_2 : fldi Tryz.prog 8 2 = some (2, 1, false) := by kernel_rfl
@[simp] theorem fld8_3 : fldi Tryz.prog 8 3 = some (3, 1, false) := by kernel_rfl
@[simp] theorem sz8 : sz Tryz.prog 8 = some 4 := by kernel_rfl
@[simp] theorem agg8 : aggB Tryz.prog 8 = some true := by kernel_rfl
@[simp] theorem zr8 : zr Tryz.prog 8 = some (.agg #[.int .i64 0, .int .i64 0, .bool false, .int .u8 0]) := by kernel_rfl
@[simp] theorem lesz8 : lesz Tryz.prog 8 = some 4 := by kernel_rfl
attribute [simp] Tryz.underlying9
@[simp] theorem sz9 : sz Tryz.prog 9 = some 1 := by kernel_rfl
@[simp] theorem agg9 : aggB Tryz.prog 9 = some false := by kernel_rfl
@[simp] theorem zr9 : zr Tryz.prog 9 = some (.string ⟨#[]⟩) := by kernel_rfl
@[simp] theorem lesz9 : lesz Tryz.prog 9 = some 1 := by kernel_rfl
attribute [simp] Tryz.underlying10
@[simp] theorem sz10 : sz Tryz.prog 10 = some 1 := by kernel_rfl
@[simp] theorem agg10 : aggB Tryz.prog 10 = some false := by kernel_rfl
@[simp] theorem zr10 : zr Tryz.prog 10 = some (.string ⟨#[]⟩) := by kernel_rfl
@[simp] theorem lesz10 : lesz Tryz.prog 10 = some 1 := by kernel_rfl
attribute [simp] Tryz.underlying11
@[simp] theorem sz11 : sz Tryz.prog 11 = some 1 := by kernel_rfl
@[simp] theorem agg11 : aggB Tryz.prog 11 = some false := by kernel_rfl
@[simp] theorem zr11 : zr Tryz.prog 11 = some (.string ⟨#[]⟩) := by kernel_rfl
@[simp] theorem lesz11 : lesz Tryz.prog 11 = some 1 := by kernel_rfl
attribute [simp] Tryz.underlying12
@[simp] theorem sz12 : sz Tryz.prog 12 = some 1 := by kernel_rfl
@[simp] theorem agg12 : aggB Tryz.prog 12 = some false := by kernel_rfl
@[simp] theorem zr12 : zr Tryz.prog 12 = some (.int .u64 0) := by kernel_rfl
@[simp] theorem lesz12 : lesz Tryz.prog 12 = some 1 := by kernel_rfl
@[simp] theorem plc13 : plcB Tryz.prog 13 = true := by kernel_rfl
@[simp] theorem fld13_0 : fldi Tryz.prog 13 0 = some (0, 1, false) := by kernel_rfl
@[simp] theorem fld13_1 : fldi Tryz.prog 13 1 = some (1, 1, false) := by kernel_rfl
@[simp] theorem sz13 : sz Tryz.prog 13 = some 2 := by kernel_rfl
@[simp] theorem agg13 : aggB Tryz.prog 13 = some true := by kernel_rfl
@[simp] theorem zr13 : zr Tryz.prog 13 = some (.agg #[.string ⟨#[]⟩, .int .u64 0]) := by kernel_rfl
@[simp] theorem lesz13 : lesz Tryz.prog 13 = some 2 := by kernel_rfl
@[simp] theorem plc14 : plcB Tryz.prog 14 = true := by kernel_rfl
@[simp] theorem fld14_0 : fldi Tryz.prog 14 0 = some (0, 1, false) := by kernel_rfl
@[simp] theorem fld14_1 : fldi Tryz.prog 14 1 = some (1, 1, false) := by kernel_rfl
@[simp] theorem sz14 : sz Tryz.prog 14 = some 2 := by kernel_rfl
@[simp] theorem agg14 : aggB Tryz.prog 14 = some true := by kernel_rfl
@[simp] theorem zr14 : zr Tryz.prog 14 = some (.agg #[.string ⟨#[]⟩, .int .u64 0]) := by kernel_rfl
@[simp] theorem lesz14 : lesz Tryz.prog 14 = some 2 := by kernel_rfl
attribute [simp] Tryz.underlying15
@[simp] theorem sz15 : sz Tryz.prog 15 = some 1 := by kernel_rfl
@[simp] theorem agg15 : aggB Tryz.prog 15 = some false := by kernel_rfl
@[simp] theorem zr15 : zr Tryz.prog 15 = some (.pointer none) := by kernel_rfl
@[simp] theorem lesz15 : lesz Tryz.prog 15 = some 1 := by kernel_rfl
attribute [simp] Tryz.underlying16
@[simp] theorem sz16 : sz Tryz.prog 16 = some 1 := by kernel_rfl
@[simp] theorem agg16 : aggB Tryz.prog 16 = some false := by kernel_rfl
@[simp] theorem zr16 : zr Tryz.prog 16 = some (.pointer none) := by kernel_rfl
@[simp] theorem lesz16 : lesz Tryz.prog 16 = some 1 := by kernel_rfl
attribute [simp] Tryz.underlying17
@[simp] theorem sz17 : sz Tryz.prog 17 = some 1 := by kernel_rfl
@[simp] theorem agg17 : aggB Tryz.prog 17 = some false := by kernel_rfl
@[simp] theorem zr17 : zr Tryz.prog 17 = some (.pointer none) := by kernel_rfl
@[simp] theorem lesz17 : lesz Tryz.prog 17 = some 1 := by kernel_rfl
@[simp] theorem plc18 : plcB Tryz.prog 18 = true := by kernel_rfl
@[simp] theorem fld18_0 : fldi Tryz.prog 18 0 = some (0, 1, false) := by kernel_rfl
@[simp] theorem sz18 : sz Tryz.prog 18 = some 1 := by kernel_rfl
@[simp] theorem agg18 : aggB Tryz.prog 18 = some true := by kernel_rfl
@[simp] theorem zr18 : zr Tryz.prog 18 = some (.agg #[.pointer none]) := by kernel_rfl
@[simp] theorem lesz18 : lesz Tryz.prog 18 = some 1 := by kernel_rfl
@[simp] theorem plc19 : plcB Tryz.prog 19 = true := by kernel_rfl
@[simp] theorem fld19_0 : fldi Tryz.prog 19 0 = some (0, 1, false) := by kernel_rfl
@[simp] theorem sz19 : sz Tryz.prog 19 = some 1 := by kernel_rfl
@[simp] theorem agg19 : aggB Tryz.prog 19 = some true := by kernel_rfl
@[simp] theorem zr19 : zr Tryz.prog 19 = some (.agg #[.pointer none]) := by kernel_rfl
@[simp] theorem lesz19 : lesz Tryz.prog 19 = some 1 := by kernel_rfl
attribute [simp] Tryz.underlying20
attribute [simp] Tryz.underlying21
@[simp] theorem sz21 : sz Tryz.prog 21 = some 1 := by kernel_rfl
@[simp] theorem agg21 : aggB Tryz.prog 21 = some false := by kernel_rfl
@[simp] theorem zr21 : zr Tryz.prog 21 = some (.int .i32 0) := by kernel_rfl
@[simp] theorem lesz21 : lesz Tryz.prog 21 = some 1 := by kernel_rfl
attribute [simp] Tryz.underlying22
@[simp] theorem plc23 : plcB Tryz.prog 23 = true := by kernel_rfl
@[simp] theorem fld23_0 : fldi Tryz.prog 23 0 = some (0, 1, false) := by kernel_rfl
@[simp] theorem fld23_1 : fldi Tryz.prog 23 1 = some (1, 1, false) := by kernel_rfl
@[simp] theorem fld23_2 : fldi Tryz.prog 23 2 = some (2, 1, false) := by kernel_rfl
@[simp] theorem fld23_3 : fldi Tryz.prog 23 3 = some (3, 1, false) := by kernel_rfl
@[simp] theorem sz23 : sz Tryz.prog 23 = some 4 := by kernel_rfl
@[simp] theorem agg23 : aggB Tryz.prog 23 = some true := by kernel_rfl
@[simp] theorem zr23 : zr Tryz.prog 23 = some (.agg #[.int .i64 0, .string ⟨#[]⟩, .int .i64 0, .bool false]) := by kernel_rfl
@[simp] theorem lesz23 : lesz Tryz.prog 23 = some 4 := by kernel_rfl
@[simp] theorem plc24 : plcB Tryz.prog 24 = true := by kernel_rfl
@[simp] theorem fld24_0 : fldi Tryz.prog 24 0 = some (0, 1, false) := by kernel_rfl
@[simp] theorem fld24_1 : fldi Tryz.prog 24 1 = some (1, 1, false) := by kernel_rfl
@[simp] theorem fld24_2 : fldi Tryz.prog 24 2 = some (2, 1, false) := by kernel_rfl
@[simp] theorem fld24_3 : fldi Tryz.prog 24 3 = some (3, 1, false) := by kernel_rfl
@[simp] theorem sz24 : sz Tryz.prog 24 = some 4 := by kernel_rfl
@[simp] theorem agg24 : aggB Tryz.prog 24 = some true := by kernel_rfl
@[simp] theorem zr24 : zr Tryz.prog 24 = some (.agg #[.int .i64 0, .string ⟨#[]⟩, .int .i64 0, .bool false]) := by kernel_rfl
@[simp] theorem lesz24 : lesz Tryz.prog 24 = some 4 := by kernel_rfl
attribute [simp] Tryz.underlying25
attribute [simp] Tryz.underlying26
attribute [simp] Tryz.underlying27
@[simp] theorem plc28 : plcB Tryz.prog 28 = true := by kernel_rfl
@[simp] theorem fld28_0 : fldi Tryz.prog 28 0 = some (0, 1, false) := by kernel_rfl
@[simp] theorem fld28_1 : fldi Tryz.prog 28 1 = some (1, 1, false) := by kernel_rfl
@[simp] theorem fld28_2 : fldi Tryz.prog 28 2 = some (2, 1, false) := by kernel_rfl
@[simp] theorem sz28 : sz Tryz.prog 28 = some 3 := by kernel_rfl
@[simp] theorem agg28 : aggB Tryz.prog 28 = some true := by kernel_rfl
@[simp] theorem zr28 : zr Tryz.prog 28 = some (.agg #[.bool false, .int .i64 0, .int .i64 0]) := by kernel_rfl
@[simp] theorem lesz28 : lesz Tryz.prog 28 = some 3 := by kernel_rfl
@[simp] theorem plc29 : plcB Tryz.prog 29 = true := by kernel_rfl
@[simp] theorem fld29_0 : fldi Tryz.prog 29 0 = some (0, 1, false) := by kernel_rfl
@[simp] theorem fld29_1 : fldi Tryz.prog 29 1 = some (1, 1, false) := by kernel_rfl
@[simp] theorem fld29_2 : fldi Tryz.prog 29 2 = some (2, 1, false) := by kernel_rfl
@[simp] theorem sz29 : sz Tryz.prog 29 = some 3 := by kernel_rfl
@[simp] theorem agg29 : aggB Tryz.prog 29 = some true := by kernel_rfl
@[simp] theorem zr29 : zr Tryz.prog 29 = some (.agg #[.bool false, .int .i64 0, .int .i64 0]) := by kernel_rfl
@[simp] theorem lesz29 : lesz Tryz.prog 29 = some 3 := by kernel_rfl
attribute [simp] Tryz.underlying30
attribute [simp] Tryz.underlying31
attribute [simp] Tryz.underlying32
attribute [simp] Tryz.underlying33
@[simp] theorem sz33 : sz Tryz.prog 33 = some 1 := by kernel_rfl
@[simp] theorem agg33 : aggB Tryz.prog 33 = some false := by kernel_rfl
@[simp] theorem zr33 : zr Tryz.prog 33 = some (.slice none 0 0) := by kernel_rfl
@[simp] theorem lesz33 : lesz Tryz.prog 33 = some 1 := by kernel_rfl
attribute [simp] Tryz.underlying34
@[simp] theorem sz34 : sz Tryz.prog 34 = some 1 := by kernel_rfl
@[simp] theorem agg34 : aggB Tryz.prog 34 = some false := by kernel_rfl
@[simp] theorem zr34 : zr Tryz.prog 34 = some (.pointer none) := by kernel_rfl
@[simp] theorem lesz34 : lesz Tryz.prog 34 = some 1 := by kernel_rfl
attribute [simp] Tryz.underlying35
@[simp] theorem sz35 : sz Tryz.prog 35 = some 1 := by kernel_rfl
@[simp] theorem agg35 : aggB Tryz.prog 35 = some false := by kernel_rfl
@[simp] theorem zr35 : zr Tryz.prog 35 = some (.int .i64 0) := by kernel_rfl
@[simp] theorem lesz35 : lesz Tryz.prog 35 = some 1 := by kernel_rfl
attribute [simp] Tryz.underlying36
@[simp] theorem sz36 : sz Tryz.prog 36 = some 1 := by kernel_rfl
@[simp] theorem zr36 : zr Tryz.prog 36 = some (.tuple #[.pointer none, .int .i64 0]) := by kernel_rfl
@[simp] theorem lesz36 : lesz Tryz.prog 36 = some 1 := by kernel_rfl
attribute [simp] Tryz.underlying37
attribute [simp] Tryz.underlying38
attribute [simp] Tryz.underlying39
attribute [simp] Tryz.underlying40
attribute [simp] Tryz.underlying41
attribute [simp] Tryz.underlying42
@[simp] theorem sz42 : sz Tryz.prog 42 = some 1 := by kernel_rfl
@[simp] theorem agg42 : aggB Tryz.prog 42 = some false := by kernel_rfl
@[simp] theorem zr42 : zr Tryz.prog 42 = some (.pointer none) := by kernel_rfl
@[simp] theorem lesz42 : lesz Tryz.prog 42 = some 1 := by kernel_rfl
attribute [simp] Tryz.underlying43
@[simp] theorem sz43 : sz Tryz.prog 43 = some 1 := by kernel_rfl
@[simp] theorem agg43 : aggB Tryz.prog 43 = some false := by kernel_rfl
@[simp] theorem zr43 : zr Tryz.prog 43 = some (.pointer none) := by kernel_rfl
@[simp] theorem lesz43 : lesz Tryz.prog 43 = some 1 := by kernel_rfl
@[simp] theorem plc44 : plcB Tryz.prog 44 = true := by kernel_rfl
@[simp] theorem fld44_0 : fldi Tryz.prog 44 0 = some (0, 1, false) := by kernel_rfl
@[simp] theorem fld44_1 : fldi Tryz.prog 44 1 = some (1, 1, false) := by kernel_rfl
@[simp] theorem fld44_2 : fldi Tryz.prog 44 2 = some (2, 1, false) := by kernel_rfl
@[simp] theorem fld44_3 : fldi Tryz.prog 44 3 = some (3, 1, false) := by kernel_rfl
@[simp] theorem fld44_4 : fldi Tryz.prog 44 4 = some (4, 1, false) := by kernel_rfl
@[simp] theorem fld44_5 : fldi Tryz.prog 44 5 = some (5, 1, false) := by kernel_rfl
@[simp] theorem fld44_6 : fldi Tryz.prog 44 6 = some (6, 1, false) := by kernel_rfl
@[simp] theorem sz44 : sz Tryz.prog 44 = some 7 := by kernel_rfl
@[simp] theorem agg44 : aggB Tryz.prog 44 = some true := by kernel_rfl
@[simp] theorem zr44 : zr Tryz.prog 44 = some (.agg #[.pointer none, .pointer none, .int .i64 0, .string ⟨#[]⟩, .int .i64 0, .int .i64 0, .bool false]) := by kernel_rfl
@[simp] theorem lesz44 : lesz Tryz.prog 44 = some 7 := by kernel_rfl
@[simp] theorem plc45 : plcB Tryz.prog 45 = true := by kernel_rfl
@[simp] theorem fld45_0 : fldi Tryz.prog 45 0 = some (0, 1, false) := by kernel_rfl
@[simp] theorem fld45_1 : fldi Tryz.prog 45 1 = some (1, 1, false) := by kernel_rfl
@[simp] theorem fld45_2 : fldi Tryz.prog 45 2 = some (2, 1, false) := by kernel_rfl
@[simp] theorem fld45_3 : fldi Tryz.prog 45 3 = some (3, 1, false) := by kernel_rfl
@[simp] theorem fld45_4 : fldi Tryz.prog 45 4 = some (4, 1, false) := by kernel_rfl
@[simp] theorem fld45_5 : fldi Tryz.prog 45 5 = some (5, 1, false) := by kernel_rfl
@[simp] theorem fld45_6 : fldi Tryz.prog 45 6 = some (6, 1, false) := by kernel_rfl
@[simp] theorem sz45 : sz Tryz.prog 45 = some 7 := by kernel_rfl
@[simp] theorem agg45 : aggB Tryz.prog 45 = some true := by kernel_rfl
@[simp] theorem zr45 : zr Tryz.prog 45 = some (.agg #[.pointer none, .pointer none, .int .i64 0, .string ⟨#[]⟩, .int .i64 0, .int .i64 0, .bool false]) := by kernel_rfl
@[simp] theorem lesz45 : lesz Tryz.prog 45 = some 7 := by kernel_rfl
@[simp] theorem plc46 : plcB Tryz.prog 46 = true := by kernel_rfl
@[simp] theorem fld46_0 : fldi Tryz.prog 46 0 = some (0, 1, false) := by kernel_rfl
@[simp] theorem fld46_1 : fldi Tryz.prog 46 1 = some (1, 1, false) := by kernel_rfl
@[simp] theorem fld46_2 : fldi Tryz.prog 46 2 = some (2, 1, false) := by kernel_rfl
@[simp] theorem fld46_3 : fldi Tryz.prog 46 3 = some (3, 1, false) := by kernel_rfl
@[simp] theorem fld46_4 : fldi Tryz.prog 46 4 = some (4, 1, false) := by kernel_rfl
@[simp] theorem fld46_5 : fldi Tryz.prog 46 5 = some (5, 1, false) := by kernel_rfl
@[simp] theorem fld46_6 : fldi Tryz.prog 46 6 = some (6, 1, false) := by kernel_rfl
@[simp] theorem fld46_7 : fldi Tryz.prog 46 7 = some (7, 1, false) := by kernel_rfl
@[simp] theorem sz46 : sz Tryz.prog 46 = some 8 := by kernel_rfl
@[simp] theorem agg46 : aggB Tryz.prog 46 = some true := by kernel_rfl
@[simp] theorem zr46 : zr Tryz.prog 46 = some (.agg #[.int .i64 0, .bool false, .string ⟨#[]⟩, .int .i64 0, .int .i64 0, .int .i64 0, .bool false, .int .i64 0]) := by kernel_rfl
@[simp] theorem lesz46 : lesz Tryz.prog 46 = some 8 := by kernel_rfl
@[simp] theorem plc47 : plcB Tryz.prog 47 = true := by kernel_rfl
@[simp] theorem fld47_0 : fldi Tryz.prog 47 0 = some (0, 1, false) := by kernel_rfl
@[simp] theorem fld47_1 : fldi Tryz.prog 47 1 = some (1, 1, false) := by kernel_rfl
@[simp] theorem fld47_2 : fldi Tryz.prog 47 2 = some (2, 1, false) := by kernel_rfl
@[simp] theorem fld47_3 : fldi Tryz.prog 47 3 = some (3, 1, false) := by kernel_rfl
@[simp] theorem fld47_4 : fldi Tryz.prog 47 4 = some (4, 1, false) := by kernel_rfl
@[simp] theorem fld47_5 : fldi Tryz.prog 47 5 = some (5, 1, false) := by kernel_rfl
@[simp] theorem fld47_6 : fldi Tryz.prog 47 6 = some (6, 1, false) := by kernel_rfl
@[simp] theorem fld47_7 : fldi Tryz.prog 47 7 = some (7, 1, false) := by kernel_rfl
@[simp] theorem sz47 : sz Tryz.prog 47 = some 8 := by kernel_rfl
@[simp] theorem agg47 : aggB Tryz.prog 47 = some true := by kernel_rfl
@[simp] theorem zr47 : zr Tryz.prog 47 = some (.agg #[.int .i64 0, .bool false, .string ⟨#[]⟩, .int .i64 0, .int .i64 0, .int .i64 0, .bool false, .int .i64 0]) := by kernel_rfl
@[simp] theorem lesz47 : lesz Tryz.prog 47 = some 8 := by kernel_rfl
attribute [simp] Tryz.underlying48
attribute [simp] Tryz.underlying49
@[simp] theorem sz49 : sz Tryz.prog 49 = some 1 := by kernel_rfl
@[simp] theorem zr49 : zr Tryz.prog 49 = some (.tuple #[.int .i64 0, .int .i64 0]) := by kernel_rfl
@[simp] theorem lesz49 : lesz Tryz.prog 49 = some 1 := by kernel_rfl
attribute [simp] Tryz.underlying50
attribute [simp] Tryz.underlying51
attribute [simp] Tryz.underlying52
attribute [simp] Tryz.underlying53
@[simp] theorem sz53 : sz Tryz.prog 53 = some 1 := by kernel_rfl
@[simp] theorem zr53 : zr Tryz.prog 53 = some (.tuple #[.pointer none, .int .i64 0]) := by kernel_rfl
@[simp] theorem lesz53 : lesz Tryz.prog 53 = some 1 := by kernel_rfl
attribute [simp] Tryz.underlying54
attribute [simp] Tryz.underlying55
@[simp] theorem sz55 : sz Tryz.prog 55 = some 1 := by kernel_rfl
@[simp] theorem zr55 : zr Tryz.prog 55 = some (.tuple #[.pointer none, .int .i64 0]) := by kernel_rfl
@[simp] theorem lesz55 : lesz Tryz.prog 55 = some 1 := by kernel_rfl
attribute [simp] Tryz.underlying56
attribute [simp] Tryz.underlying57
attribute [simp] Tryz.underlying58
@[simp] theorem sz58 : sz Tryz.prog 58 = some 1 := by kernel_rfl
@[simp] theorem agg58 : aggB Tryz.prog 58 = some false := by kernel_rfl
@[simp] theorem zr58 : zr Tryz.prog 58 = some (.pointer none) := by kernel_rfl
@[simp] theorem lesz58 : lesz Tryz.prog 58 = some 1 := by kernel_rfl
attribute [simp] Tryz.underlying59
@[simp] theorem plc60 : plcB Tryz.prog 60 = true := by kernel_rfl
@[simp] theorem fld60_0 : fldi Tryz.prog 60 0 = some (0, 1, false) := by kernel_rfl
@[simp] theorem fld60_1 : fldi Tryz.prog 60 1 = some (1, 1, false) := by kernel_rfl
@[simp] theorem sz60 : sz Tryz.prog 60 = some 2 := by kernel_rfl
@[simp] theorem agg60 : aggB Tryz.prog 60 = some true := by kernel_rfl
@[simp] theorem zr60 : zr Tryz.prog 60 = some (.agg #[.int .i64 0, .int .i64 0]) := by kernel_rfl
@[simp] theorem lesz60 : lesz Tryz.prog 60 = some 2 := by kernel_rfl
@[simp] theorem plc61 : plcB Tryz.prog 61 = true := by kernel_rfl
@[simp] theorem fld61_0 : fldi Tryz.prog 61 0 = some (0, 1, false) := by kernel_rfl
@[simp] theorem fld61_1 : fldi Tryz.prog 61 1 = some (1, 1, false) := by kernel_rfl
@[simp] theorem sz61 : sz Tryz.prog 61 = some 2 := by kernel_rfl
@[simp] theorem agg61 : aggB Tryz.prog 61 = some true := by kernel_rfl
@[simp] theorem zr61 : zr Tryz.prog 61 = some (.agg #[.int .i64 0, .int .i64 0]) := by kernel_rfl
@[simp] theorem lesz61 : lesz Tryz.prog 61 = some 2 := by kernel_rfl
attribute [simp] Tryz.underlying62
attribute [simp] Tryz.underlying63
@[simp] theorem sz63 : sz Tryz.prog 63 = some 1 := by kernel_rfl
@[simp] theorem agg63 : aggB Tryz.prog 63 = some false := by kernel_rfl
@[simp] theorem zr63 : zr Tryz.prog 63 = some (.slice none 0 0) := by kernel_rfl
@[simp] theorem lesz63 : lesz Tryz.prog 63 = some 1 := by kernel_rfl
@[simp] theorem plc64 : plcB Tryz.prog 64 = true := by kernel_rfl
@[simp] theorem fld64_0 : fldi Tryz.prog 64 0 = some (0, 1, false) := by kernel_rfl
@[simp] theorem fld64_1 : fldi Tryz.prog 64 1 = some (1, 1, false) := by kernel_rfl
@[simp] theorem fld64_2 : fldi Tryz.prog 64 2 = some (2, 1, false) := by kernel_rfl
@[simp] theorem fld64_3 : fldi Tryz.prog 64 3 = some (3, 1, false) := by kernel_rfl
@[simp] theorem fld64_4 : fldi Tryz.prog 64 4 = some (4, 1, false) := by kernel_rfl
@[simp] theorem fld64_5 : fldi Tryz.prog 64 5 = some (5, 1, false) := by kernel_rfl
@[simp] theorem fld64_6 : fldi Tryz.prog 64 6 = some (6, 1, false) := by kernel_rfl
@[simp] theorem fld64_7 : fldi Tryz.prog 64 7 = some (7, 1, false) := by kernel_rfl
@[simp] theorem fld64_8 : fldi Tryz.prog 64 8 = some (8, 1, false) := by kernel_rfl
@[simp] theorem fld64_9 : fldi Tryz.prog 64 9 = some (9, 1, false) := by kernel_rfl
@[simp] theorem sz64 : sz Tryz.prog 64 = some 10 := by kernel_rfl
@[simp] theorem agg64 : aggB Tryz.prog 64 = some true := by kernel_rfl
@[simp] theorem zr64 : zr Tryz.prog 64 = some (.agg #[.int .i64 0, .slice none 0 0, .int .i64 0, .bool false, .string ⟨#[]⟩, .int .i64 0, .bool false, .int .i64 0, .int .i64 0, .int .i64 0]) := by kernel_rfl
@[simp] theorem lesz64 : lesz Tryz.prog 64 = some 10 := by kernel_rfl
@[simp] theorem plc65 : plcB Tryz.prog 65 = true := by kernel_rfl
@[simp] theorem fld65_0 : fldi Tryz.prog 65 0 = some (0, 1, false) := by kernel_rfl
@[simp] theorem fld65_1 : fldi Tryz.prog 65 1 = some (1, 1, false) := by kernel_rfl
@[simp] theorem fld65_2 : fldi Tryz.prog 65 2 = some (2, 1, false) := by kernel_rfl
@[simp] theorem fld65_3 : fldi Tryz.prog 65 3 = some (3, 1, false) := by kernel_rfl
@[simp] theorem fld65_4 : fldi Tryz.prog 65 4 = some (4, 1, false) := by kernel_rfl
@[simp] theorem fld65_5 : fldi Tryz.prog 65 5 = some (5, 1, false) := by kernel_rfl
@[simp] theorem fld65_6 : fldi Tryz.prog 65 6 = some (6, 1, false) := by kernel_rfl
@[simp] theorem fld65_7 : fldi Tryz.prog 65 7 = some (7, 1, false) := by kernel_rfl
@[simp] theorem fld65_8 : fldi Tryz.prog 65 8 = some (8, 1, false) := by kernel_rfl
@[simp] theorem fld65_9 : fldi Tryz.prog 65 9 = some (9, 1, false) := by kernel_rfl
@[simp] theorem sz65 : sz Tryz.prog 65 = some 10 := by kernel_rfl
@[simp] theorem agg65 : aggB Tryz.prog 65 = some true := by kernel_rfl
@[simp] theorem zr65 : zr Tryz.prog 65 = some (.agg #[.int .i64 0, .slice none 0 0, .int .i64 0, .bool false, .string ⟨#[]⟩, .int .i64 0, .bool false, .int .i64 0, .int .i64 0, .int .i64 0]) := by kernel_rfl
@[simp] theorem lesz65 : lesz Tryz.prog 65 = some 10 := by kernel_rfl
@[simp] theorem plc66 : plcB Tryz.prog 66 = true := by kernel_rfl
@[simp] theorem fld66_0 : fldi Tryz.prog 66 0 = some (0, 1, false) := by kernel_rfl
@[simp] theorem fld66_1 : fldi Tryz.prog 66 1 = some (1, 1, false) := by kernel_rfl
@[simp] theorem fld66_2 : fldi Tryz.prog 66 2 = some (2, 1, false) := by kernel_rfl
@[simp] theorem fld66_3 : fldi Tryz.prog 66 3 = some (3, 1, false) := by kernel_rfl
@[simp] theorem fld66_4 : fldi Tryz.prog 66 4 = some (4, 1, false) := by kernel_rfl
@[simp] theorem fld66_5 : fldi Tryz.prog 66 5 = some (5, 1, false) := by kernel_rfl
@[simp] theorem fld66_6 : fldi Tryz.prog 66 6 = some (6, 1, false) := by kernel_rfl
@[simp] theorem fld66_7 : fldi Tryz.prog 66 7 = some (7, 1, false) := by kernel_rfl
@[simp] theorem fld66_8 : fldi Tryz.prog 66 8 = some (8, 1, false) := by kernel_rfl
@[simp] theorem fld66_9 : fldi Tryz.prog 66 9 = some (9, 1, false) := by kernel_rfl
@[simp] theorem fld66_10 : fldi Tryz.prog 66 10 = some (10, 1, false) := by kernel_rfl
@[simp] theorem fld66_11 : fldi Tryz.prog 66 11 = some (11, 1, false) := by kernel_rfl
@[simp] theorem fld66_12 : fldi Tryz.prog 66 12 = some (12, 1, false) := by kernel_rfl
@[simp] theorem sz66 : sz Tryz.prog 66 = some 13 := by kernel_rfl
@[simp] theorem agg66 : aggB Tryz.prog 66 = some true := by kernel_rfl
@[simp] theorem zr66 : zr Tryz.prog 66 = some (.agg #[.int .i64 0, .slice none 0 0, .int .i64 0, .int .u8 0, .bool false, .string ⟨#[]⟩, .int .i64 0, .bool false, .bool false, .int .i64 0, .int .i64 0, .int .i64 0, .int .i64 0]) := by kernel_rfl
@[simp] theorem lesz66 : lesz Tryz.prog 66 = some 13 := by kernel_rfl
@[simp] theorem plc67 : plcB Tryz.prog 67 = true := by kernel_rfl
@[simp] theorem fld67_0 : fldi Tryz.prog 67 0 = some (0, 1, false) := by kernel_rfl
@[simp] theorem fld67_1 : fldi Tryz.prog 67 1 = some (1, 1, false) := by kernel_rfl
@[simp] theorem fld67_2 : fldi Tryz.prog 67 2 = some (2, 1, false) := by kernel_rfl
@[simp] theorem fld67_3 : fldi Tryz.prog 67 3 = some (3, 1, false) := by kernel_rfl
@[simp] theorem fld67_4 : fldi Tryz.prog 67 4 = some (4, 1, false) := by kernel_rfl
@[simp] theorem fld67_5 : fldi Tryz.prog 67 5 = some (5, 1, false) := by kernel_rfl
@[simp] theorem fld67_6 : fldi Tryz.prog 67 6 = some (6, 1, false) := by kernel_rfl
@[simp] theorem fld67_7 : fldi Tryz.prog 67 7 = some (7, 1, false) := by kernel_rfl
@[simp] theorem fld67_8 : fldi Tryz.prog 67 8 = some (8, 1, false) := by kernel_rfl
@[simp] theorem fld67_9 : fldi Tryz.prog 67 9 = some (9, 1, false) := by kernel_rfl
@[simp] theorem fld67_10 : fldi Tryz.prog 67 10 = some (10, 1, false) := by kernel_rfl
@[simp] theorem fld67_11 : fldi Tryz.prog 67 11 = some (11, 1, false) := by kernel_rfl
@[simp] theorem fld67_12 : fldi Tryz.prog 67 12 = some (12, 1, false) := by kernel_rfl
@[simp] theorem sz67 : sz Tryz.prog 67 = some 13 := by kernel_rfl
@[simp] theorem agg67 : aggB Tryz.prog 67 = some true := by kernel_rfl
@[simp] theorem zr67 : zr Tryz.prog 67 = some (.agg #[.int .i64 0, .slice none 0 0, .int .i64 0, .int .u8 0, .bool false, .string ⟨#[]⟩, .int .i64 0, .bool false, .bool false, .int .i64 0, .int .i64 0, .int .i64 0, .int .i64 0]) := by kernel_rfl
@[simp] theorem lesz67 : lesz Tryz.prog 67 = some 13 := by kernel_rfl
attribute [simp] Tryz.underlying68
attribute [simp] Tryz.underlying69
attribute [simp] Tryz.underlying70
attribute [simp] Tryz.underlying71
attribute [simp] Tryz.underlying72
attribute [simp] Tryz.underlying73
attribute [simp] Tryz.underlying74
attribute [simp] Tryz.underlying75
attribute [simp] Tryz.underlying76
attribute [simp] Tryz.underlying77
attribute [simp] Tryz.underlying78
@[simp] theorem sz78 : sz Tryz.prog 78 = some 1 := by kernel_rfl
@[simp] theorem agg78 : aggB Tryz.prog 78 = some false := by kernel_rfl
@[simp] theorem zr78 : zr Tryz.prog 78 = some (.slice none 0 0) := by kernel_rfl
@[simp] theorem lesz78 : lesz Tryz.prog 78 = some 1 := by kernel_rfl
attribute [simp] Tryz.underlying79
attribute [simp] Tryz.underlying80
attribute [simp] Tryz.underlying81
attribute [simp] Tryz.underlying82
attribute [simp] Tryz.underlying83
@[simp] theorem sz83 : sz Tryz.prog 83 = some 1 := by kernel_rfl
@[simp] theorem zr83 : zr Tryz.prog 83 = some (.tuple #[.int .i64 0, .bool false]) := by kernel_rfl
@[simp] theorem lesz83 : lesz Tryz.prog 83 = some 1 := by kernel_rfl
attribute [simp] Tryz.underlying84
attribute [simp] Tryz.underlying85
attribute [simp] Tryz.underlying86
attribute [simp] Tryz.underlying87
attribute [simp] Tryz.underlying88
attribute [simp] Tryz.underlying89
attribute [simp] Tryz.underlying90
attribute [simp] Tryz.underlying91
@[simp] theorem sz91 : sz Tryz.prog 91 = some 256 := by kernel_rfl
@[simp] theorem agg91 : aggB Tryz.prog 91 = some true := by kernel_rfl
@[simp] theorem zr91 : zr Tryz.prog 91 = some (.agg #[.int .u8 0, .int .u8 0, .int .u8 0, .int .u8 0, .int .u8 0, .int .u8 0, .int .u8 0, .int .u8 0, .int .u8 0, .int .u8 0, .int .u8 0, .int .u8 0, .int .u8 0, .int .u8 0, .int .u8 0, .int .u8 0, .int .u8 0, .int .u8 0, .int .u8 0, .int .u8 0, .int .u8 0, .int .u8 0, .int .u8 0, .int .u8 0, .int .u8 0, .int .u8 0, .int .u8 0, .int .u8 0, .int .u8 0, .int .u8 0, .int .u8 0, .int .u8 0, .int .u8 0, .int .u8 0, .int .u8 0, .int .u8 0, .int .u8 0, .int .u8 0, .int .u8 0, .int .u8 0, .int .u8 0, .int .u8 0, .int .u8 0, .int .u8 0, .int .u8 0, .int .u8 0, .int .u8 0, .int .u8 0, .int .u8 0, .int .u8 0, .int .u8 0, .int .u8 0, .int .u8 0, .int .u8 0, .int .u8 0, .int .u8 0, .int .u8 0, .int .u8 0, .int .u8 0, .int .u8 0, .int .u8 0, .int .u8 0, .int .u8 0, .int .u8 0, .int .u8 0, .int .u8 0, .int .u8 0, .int .u8 0, .int .u8 0, .int .u8 0, .int .u8 0, .int .u8 0, .int .u8 0, .int .u8 0, .int .u8 0, .int .u8 0, .int .u8 0, .int .u8 0, .int .u8 0, .int .u8 0, .int .u8 0, .int .u8 0, .int .u8 0, .int .u8 0, .int .u8 0, .int .u8 0, .int .u8 0, .int .u8 0, .int .u8 0, .int .u8 0, .int .u8 0, .int .u8 0, .int .u8 0, .int .u8 0, .int .u8 0, .int .u8 0, .int .u8 0, .int .u8 0, .int .u8 0, .int .u8 0, .int .u8 0, .int .u8 0, .int .u8 0, .int .u8 0, .int .u8 0, .int .u8 0, .int .u8 0, .int .u8 0, .int .u8 0, .int .u8 0, .int .u8 0, .int .u8 0, .int .u8 0, .int .u8 0, .int .u8 0, .int .u8 0, .int .u8 0, .int .u8 0, .int .u8 0, .int .u8 0, .int .u8 0, .int .u8 0, .int .u8 0, .int .u8 0, .int .u8 0, .int .u8 0, .int .u8 0, .int .u8 0, .int .u8 0, .int .u8 0, .int .u8 0, .int .u8 0, .int .u8 0, .int .u8 0, .int .u8 0, .int .u8 0, .int .u8 0, .int .u8 0, .int .u8 0, .int .u8 0, .int .u8 0, .int .u8 0, .int .u8 0, .int .u8 0, .int .u8 0, .int .u8 0, .int .u8 0, .int .u8 0, .int .u8 0, .int .u8 0, .int .u8 0, .int .u8 0, .int .u8 0, .int .u8 0, .int .u8 0, .int .u8 0, .int .u8 0, .int .u8 0, .int .u8 0, .int .u8 0, .int .u8 0, .int .u8 0, .int .u8 0, .int .u8 0, .int .u8 0, .int .u8 0, .int .u8 0, .int .u8 0, .int .u8 0, .int .u8 0, .int .u8 0, .int .u8 0, .int .u8 0, .int .u8 0, .int .u8 0, .int .u8 0, .int .u8 0, .int .u8 0, .int .u8 0, .int .u8 0, .int .u8 0, .int .u8 0, .int .u8 0, .int .u8 0, .int .u8 0, .int .u8 0, .int .u8 0, .int .u8 0, .int .u8 0, .int .u8 0, .int .u8 0, .int .u8 0, .int .u8 0, .int .u8 0, .int .u8 0, .int .u8 0, .int .u8 0, .int .u8 0, .int .u8 0, .int .u8 0, .int .u8 0, .int .u8 0, .int .u8 0, .int .u8 0, .int .u8 0, .int .u8 0, .int .u8 0, .int .u8 0, .int .u8 0, .int .u8 0, .int .u8 0, .int .u8 0, .int .u8 0, .int .u8 0, .int .u8 0, .int .u8 0, .int .u8 0, .int .u8 0, .int .u8 0, .int .u8 0, .int .u8 0, .int .u8 0, .int .u8 0, .int .u8 0, .int .u8 0, .int .u8 0, .int .u8 0, .int .u8 0, .int .u8 0, .int .u8 0, .int .u8 0, .int .u8 0, .int .u8 0, .int .u8 0, .int .u8 0, .int .u8 0, .int .u8 0, .int .u8 0, .int .u8 0, .int .u8 0, .int .u8 0, .int .u8 0, .int .u8 0, .int .u8 0, .int .u8 0, .int .u8 0, .int .u8 0, .int .u8 0, .int .u8 0, .int .u8 0, .int .u8 0, .int .u8 0, .int .u8 0, .int .u8 0, .int .u8 0, .int .u8 0]) := by kernel_rfl
@[simp] theorem lesz91 : lesz Tryz.prog 91 = some 256 := by kernel_rfl
attribute [simp] Tryz.underlying92
attribute [simp] Tryz.underlying93
attribute [simp] Tryz.underlying94
@[simp] theorem sz94 : sz Tryz.prog 94 = some 1 := by kernel_rfl
@[simp] theorem agg94 : aggB Tryz.prog 94 = some false := by kernel_rfl
@[simp] theorem zr94 : zr Tryz.prog 94 = some (.slice none 0 0) := by kernel_rfl
@[simp] theorem lesz94 : lesz Tryz.prog 94 = some 1 := by kernel_rfl
@[simp] theorem plc95 : plcB Tryz.prog 95 = true := by kernel_rfl
@[simp] theorem fld95_0 : fldi Tryz.prog 95 0 = some (0, 1, false) := by kernel_rfl
@[simp] theorem fld95_1 : fldi Tryz.prog 95 1 = some (1, 1, false) := by kernel_rfl
@[simp] theorem sz95 : sz Tryz.prog 95 = some 2 := by kernel_rfl
@[simp] theorem agg95 : aggB Tryz.prog 95 = some true := by kernel_rfl
@[simp] theorem zr95 : zr Tryz.prog 95 = some (.agg #[.int .i64 0, .int .i64 0]) := by kernel_rfl
@[simp] theorem lesz95 : lesz Tryz.prog 95 = some 2 := by kernel_rfl
@[simp] theorem plc96 : plcB Tryz.prog 96 = true := by kernel_rfl
@[simp] theorem fld96_0 : fldi Tryz.prog 96 0 = some (0, 1, false) := by kernel_rfl
@[simp] theorem fld96_1 : fldi Tryz.prog 96 1 = some (1, 1, false) := by kernel_rfl
@[simp] theorem sz96 : sz Tryz.prog 96 = some 2 := by kernel_rfl
@[simp] theorem agg96 : aggB Tryz.prog 96 = some true := by kernel_rfl
@[simp] theorem zr96 : zr Tryz.prog 96 = some (.agg #[.int .i64 0, .int .i64 0]) := by kernel_rfl
@[simp] theorem lesz96 : lesz Tryz.prog 96 = some 2 := by kernel_rfl
attribute [simp] Tryz.underlying97
@[simp] theorem sz97 : sz Tryz.prog 97 = some 1 := by kernel_rfl
@[simp] theorem agg97 : aggB Tryz.prog 97 = some false := by kernel_rfl
@[simp] theorem zr97 : zr Tryz.prog 97 = some (.int .u32 0) := by kernel_rfl
@[simp] theorem lesz97 : lesz Tryz.prog 97 = some 1 := by kernel_rfl
attribute [simp] Tryz.underlying98
attribute [simp] Tryz.underlying99
@[simp] theorem sz99 : sz Tryz.prog 99 = some 1 := by kernel_rfl
@[simp] theorem agg99 : aggB Tryz.prog 99 = some false := by kernel_rfl
@[simp] theorem zr99 : zr Tryz.prog 99 = some (.pointer none) := by kernel_rfl
@[simp] theorem lesz99 : lesz Tryz.prog 99 = some 1 := by kernel_rfl
attribute [simp] Tryz.underlying100
@[simp] theorem sz100 : sz Tryz.prog 100 = some 1 := by kernel_rfl
@[simp] theorem agg100 : aggB Tryz.prog 100 = some false := by kernel_rfl
@[simp] theorem zr100 : zr Tryz.prog 100 = some (.slice none 0 0) := by kernel_rfl
@[simp] theorem lesz100 : lesz Tryz.prog 100 = some 1 := by kernel_rfl
attribute [simp] Tryz.underlying101
@[simp] theorem sz101 : sz Tryz.prog 101 = some 1 := by kernel_rfl
@[simp] theorem agg101 : aggB Tryz.prog 101 = some false := by kernel_rfl
@[simp] theorem zr101 : zr Tryz.prog 101 = some (.slice none 0 0) := by kernel_rfl
@[simp] theorem lesz101 : lesz Tryz.prog 101 = some 1 := by kernel_rfl
@[simp] theorem plc102 : plcB Tryz.prog 102 = true := by kernel_rfl
@[simp] theorem fld102_0 : fldi Tryz.prog 102 0 = some (0, 1, false) := by kernel_rfl
@[simp] theorem fld102_1 : fldi Tryz.prog 102 1 = some (1, 1, false) := by kernel_rfl
@[simp] theorem fld102_2 : fldi Tryz.prog 102 2 = some (2, 1, false) := by kernel_rfl
@[simp] theorem sz102 : sz Tryz.prog 102 = some 3 := by kernel_rfl
@[simp] theorem agg102 : aggB Tryz.prog 102 = some true := by kernel_rfl
@[simp] theorem zr102 : zr Tryz.prog 102 = some (.agg #[.slice none 0 0, .slice none 0 0, .int .i64 0]) := by kernel_rfl
@[simp] theorem lesz102 : lesz Tryz.prog 102 = some 3 := by kernel_rfl
@[simp] theorem plc103 : plcB Tryz.prog 103 = true := by kernel_rfl
@[simp] theorem fld103_0 : fldi Tryz.prog 103 0 = some (0, 1, false) := by kernel_rfl
@[simp] theorem fld103_1 : fldi Tryz.prog 103 1 = some (1, 1, false) := by kernel_rfl
@[simp] theorem fld103_2 : fldi Tryz.prog 103 2 = some (2, 1, false) := by kernel_rfl
@[simp] theorem sz103 : sz Tryz.prog 103 = some 3 := by kernel_rfl
@[simp] theorem agg103 : aggB Tryz.prog 103 = some true := by kernel_rfl
@[simp] theorem zr103 : zr Tryz.prog 103 = some (.agg #[.slice none 0 0, .slice none 0 0, .int .i64 0]) := by kernel_rfl
@[simp] theorem lesz103 : lesz Tryz.prog 103 = some 3 := by kernel_rfl
attribute [simp] Tryz.underlying104
@[simp] theorem sz104 : sz Tryz.prog 104 = some 1 := by kernel_rfl
@[simp] theorem agg104 : aggB Tryz.prog 104 = some false := by kernel_rfl
@[simp] theorem zr104 : zr Tryz.prog 104 = some (.int .u16 0) := by kernel_rfl
@[simp] theorem lesz104 : lesz Tryz.prog 104 = some 1 := by kernel_rfl
@[simp] theorem plc105 : plcB Tryz.prog 105 = true := by kernel_rfl
@[simp] theorem fld105_0 : fldi Tryz.prog 105 0 = some (0, 1, false) := by kernel_rfl
@[simp] theorem fld105_1 : fldi Tryz.prog 105 1 = some (1, 1, false) := by kernel_rfl
@[simp] theorem fld105_2 : fldi Tryz.prog 105 2 = some (2, 1, false) := by kernel_rfl
@[simp] theorem sz105 : sz Tryz.prog 105 = some 3 := by kernel_rfl
@[simp] theorem agg105 : aggB Tryz.prog 105 = some true := by kernel_rfl
@[simp] theorem zr105 : zr Tryz.prog 105 = some (.agg #[.int .u16 0, .int .u16 0, .int .u16 0]) := by kernel_rfl
@[simp] theorem lesz105 : lesz Tryz.prog 105 = some 3 := by kernel_rfl
@[simp] theorem plc106 : plcB Tryz.prog 106 = true := by kernel_rfl
@[simp] theorem fld106_0 : fldi Tryz.prog 106 0 = some (0, 1, false) := by kernel_rfl
@[simp] theorem fld106_1 : fldi Tryz.prog 106 1 = some (1, 1, false) := by kernel_rfl
@[simp] theorem fld106_2 : fldi Tryz.prog 106 2 = some (2, 1, false) := by kernel_rfl
@[simp] theorem sz106 : sz Tryz.prog 106 = some 3 := by kernel_rfl
@[simp] theorem agg106 : aggB Tryz.prog 106 = some true := by kernel_rfl
@[simp] theorem zr106 : zr Tryz.prog 106 = some (.agg #[.int .u16 0, .int .u16 0, .int .u16 0]) := by kernel_rfl
@[simp] theorem lesz106 : lesz Tryz.prog 106 = some 3 := by kernel_rfl
attribute [simp] Tryz.underlying107
@[simp] theorem plc108 : plcB Tryz.prog 108 = true := by kernel_rfl
@[simp] theorem fld108_0 : fldi Tryz.prog 108 0 = some (0, 1, false) := by kernel_rfl
@[simp] theorem fld108_1 : fldi Tryz.prog 108 1 = some (1, 1, false) := by kernel_rfl
@[simp] theorem fld108_2 : fldi Tryz.prog 108 2 = some (2, 1, false) := by kernel_rfl
@[simp] theorem sz108 : sz Tryz.prog 108 = some 3 := by kernel_rfl
@[simp] theorem agg108 : aggB Tryz.prog 108 = some true := by kernel_rfl
@[simp] theorem zr108 : zr Tryz.prog 108 = some (.agg #[.int .u32 0, .int .u32 0, .int .u32 0]) := by kernel_rfl
@[simp] theorem lesz108 : lesz Tryz.prog 108 = some 3 := by kernel_rfl
@[simp] theorem plc109 : plcB Tryz.prog 109 = true := by kernel_rfl
@[simp] theorem fld109_0 : fldi Tryz.prog 109 0 = some (0, 1, false) := by kernel_rfl
@[simp] theorem fld109_1 : fldi Tryz.prog 109 1 = some (1, 1, false) := by kernel_rfl
@[simp] theorem fld109_2 : fldi Tryz.prog 109 2 = some (2, 1, false) := by kernel_rfl
@[simp] theorem sz109 : sz Tryz.prog 109 = some 3 := by kernel_rfl
@[simp] theorem agg109 : aggB Tryz.prog 109 = some true := by kernel_rfl
@[simp] theorem zr109 : zr Tryz.prog 109 = some (.agg #[.int .u32 0, .int .u32 0, .int .u32 0]) := by kernel_rfl
@[simp] theorem lesz109 : lesz Tryz.prog 109 = some 3 := by kernel_rfl
attribute [simp] Tryz.underlying110
attribute [simp] Tryz.underlying111
@[simp] theorem sz111 : sz Tryz.prog 111 = some 1 := by kernel_rfl
@[simp] theorem agg111 : aggB Tryz.prog 111 = some false := by kernel_rfl
@[simp] theorem zr111 : zr Tryz.prog 111 = some (.pointer none) := by kernel_rfl
@[simp] theorem lesz111 : lesz Tryz.prog 111 = some 1 := by kernel_rfl
attribute [simp] Tryz.underlying112
@[simp] theorem sz112 : sz Tryz.prog 112 = some 1 := by kernel_rfl
@[simp] theorem agg112 : aggB Tryz.prog 112 = some false := by kernel_rfl
@[simp] theorem zr112 : zr Tryz.prog 112 = some (.int .u64 0) := by kernel_rfl
@[simp] theorem lesz112 : lesz Tryz.prog 112 = some 1 := by kernel_rfl
attribute [simp] Tryz.underlying113
@[simp] theorem sz113 : sz Tryz.prog 113 = some 1 := by kernel_rfl
@[simp] theorem agg113 : aggB Tryz.prog 113 = some false := by kernel_rfl
@[simp] theorem zr113 : zr Tryz.prog 113 = some (.pointer none) := by kernel_rfl
@[simp] theorem lesz113 : lesz Tryz.prog 113 = some 1 := by kernel_rfl
@[simp] theorem plc114 : plcB Tryz.prog 114 = true := by kernel_rfl
@[simp] theorem fld114_0 : fldi Tryz.prog 114 0 = some (0, 1, false) := by kernel_rfl
@[simp] theorem fld114_1 : fldi Tryz.prog 114 1 = some (1, 1, false) := by kernel_rfl
@[simp] theorem fld114_2 : fldi Tryz.prog 114 2 = some (2, 1, false) := by kernel_rfl
@[simp] theorem fld114_3 : fldi Tryz.prog 114 3 = some (3, 1, false) := by kernel_rfl
@[simp] theorem sz114 : sz Tryz.prog 114 = some 4 := by kernel_rfl
@[simp] theorem agg114 : aggB Tryz.prog 114 = some true := by kernel_rfl
@[simp] theorem zr114 : zr Tryz.prog 114 = some (.agg #[.pointer none, .pointer none, .pointer none, .string ⟨#[]⟩]) := by kernel_rfl
@[simp] theorem lesz114 : lesz Tryz.prog 114 = some 4 := by kernel_rfl
@[simp] theorem plc115 : plcB Tryz.prog 115 = true := by kernel_rfl
@[simp] theorem fld115_0 : fldi Tryz.prog 115 0 = some (0, 1, false) := by kernel_rfl
@[simp] theorem fld115_1 : fldi Tryz.prog 115 1 = some (1, 1, false) := by kernel_rfl
@[simp] theorem fld115_2 : fldi Tryz.prog 115 2 = some (2, 1, false) := by kernel_rfl
@[simp] theorem fld115_3 : fldi Tryz.prog 115 3 = some (3, 1, false) := by kernel_rfl
@[simp] theorem sz115 : sz Tryz.prog 115 = some 4 := by kernel_rfl
@[simp] theorem agg115 : aggB Tryz.prog 115 = some true := by kernel_rfl
@[simp] theorem zr115 : zr Tryz.prog 115 = some (.agg #[.pointer none, .pointer none, .pointer none, .string ⟨#[]⟩]) := by kernel_rfl
@[simp] theorem lesz115 : lesz Tryz.prog 115 = some 4 := by kernel_rfl
attribute [simp] Tryz.underlying116
@[simp] theorem sz116 : sz Tryz.prog 116 = some 0 := by kernel_rfl
@[simp] theorem agg116 : aggB Tryz.prog 116 = some true := by kernel_rfl
@[simp] theorem zr116 : zr Tryz.prog 116 = some (.agg #[]) := by kernel_rfl
@[simp] theorem plc117 : plcB Tryz.prog 117 = true := by kernel_rfl
@[simp] theorem fld117_0 : fldi Tryz.prog 117 0 = some (0, 0, true) := by kernel_rfl
@[simp] theorem sz117 : sz Tryz.prog 117 = some 0 := by kernel_rfl
@[simp] theorem agg117 : aggB Tryz.prog 117 = some true := by kernel_rfl
@[simp] theorem zr117 : zr Tryz.prog 117 = some (.agg #[]) := by kernel_rfl
@[simp] theorem plc118 : plcB Tryz.prog 118 = true := by kernel_rfl
@[simp] theorem fld118_0 : fldi Tryz.prog 118 0 = some (0, 0, true) := by kernel_rfl
@[simp] theorem sz118 : sz Tryz.prog 118 = some 0 := by kernel_rfl
@[simp] theorem agg118 : aggB Tryz.prog 118 = some true := by kernel_rfl
@[simp] theorem zr118 : zr Tryz.prog 118 = some (.agg #[]) := by kernel_rfl
attribute [simp] Tryz.underlying119
@[simp] theorem sz119 : sz Tryz.prog 119 = some 1 := by kernel_rfl
@[simp] theorem agg119 : aggB Tryz.prog 119 = some false := by kernel_rfl
@[simp] theorem zr119 : zr Tryz.prog 119 = some (.int .u8 0) := by kernel_rfl
@[simp] theorem lesz119 : lesz Tryz.prog 119 = some 1 := by kernel_rfl
attribute [simp] Tryz.underlying120
@[simp] theorem sz120 : sz Tryz.prog 120 = some 1 := by kernel_rfl
@[simp] theorem agg120 : aggB Tryz.prog 120 = some false := by kernel_rfl
@[simp] theorem zr120 : zr Tryz.prog 120 = some (.int .u8 0) := by kernel_rfl
@[simp] theorem lesz120 : lesz Tryz.prog 120 = some 1 := by kernel_rfl
attribute [simp] Tryz.underlying121
attribute [simp] Tryz.underlying122
@[simp] theorem sz122 : sz Tryz.prog 122 = some 1 := by kernel_rfl
@[simp] theorem agg122 : aggB Tryz.prog 122 = some false := by kernel_rfl
@[simp] theorem zr122 : zr Tryz.prog 122 = some (.pointer none) := by kernel_rfl
@[simp] theorem lesz122 : lesz Tryz.prog 122 = some 1 := by kernel_rfl
attribute [simp] Tryz.underlying123
@[simp] theorem sz123 : sz Tryz.prog 123 = some 1 := by kernel_rfl
@[simp] theorem agg123 : aggB Tryz.prog 123 = some false := by kernel_rfl
@[simp] theorem zr123 : zr Tryz.prog 123 = some (.int .i32 0) := by kernel_rfl
@[simp] theorem lesz123 : lesz Tryz.prog 123 = some 1 := by kernel_rfl
attribute [simp] Tryz.underlying124
@[simp] theorem sz124 : sz Tryz.prog 124 = some 1 := by kernel_rfl
@[simp] theorem agg124 : aggB Tryz.prog 124 = some false := by kernel_rfl
@[simp] theorem zr124 : zr Tryz.prog 124 = some (.int .i32 0) := by kernel_rfl
@[simp] theorem lesz124 : lesz Tryz.prog 124 = some 1 := by kernel_rfl
@[simp] theorem plc125 : plcB Tryz.prog 125 = true := by kernel_rfl
@[simp] theorem fld125_0 : fldi Tryz.prog 125 0 = some (0, 1, false) := by kernel_rfl
@[simp] theorem fld125_1 : fldi Tryz.prog 125 1 = some (1, 1, false) := by kernel_rfl
@[simp] theorem fld125_2 : fldi Tryz.prog 125 2 = some (2, 1, false) := by kernel_rfl
@[simp] theorem fld125_3 : fldi Tryz.prog 125 3 = some (3, 1, false) := by kernel_rfl
@[simp] theorem fld125_4 : fldi Tryz.prog 125 4 = some (4, 1, false) := by kernel_rfl
@[simp] theorem fld125_5 : fldi Tryz.prog 125 5 = some (5, 1, false) := by kernel_rfl
@[simp] theorem fld125_6 : fldi Tryz.prog 125 6 = some (6, 1, false) := by kernel_rfl
@[simp] theorem fld125_7 : fldi Tryz.prog 125 7 = some (7, 1, false) := by kernel_rfl
@[simp] theorem fld125_8 : fldi Tryz.prog 125 8 = some (8, 1, false) := by kernel_rfl
@[simp] theorem fld125_9 : fldi Tryz.prog 125 9 = some (9, 1, false) := by kernel_rfl
@[simp] theorem fld125_10 : fldi Tryz.prog 125 10 = some (10, 1, false) := by kernel_rfl
@[simp] theorem sz125 : sz Tryz.prog 125 = some 11 := by kernel_rfl
@[simp] theorem agg125 : aggB Tryz.prog 125 = some true := by kernel_rfl
@[simp] theorem zr125 : zr Tryz.prog 125 = some (.agg #[.int .u64 0, .int .u64 0, .int .u32 0, .int .u8 0, .int .u8 0, .int .u8 0, .int .u8 0, .nilFunc, .pointer none, .int .i32 0, .int .i32 0]) := by kernel_rfl
@[simp] theorem lesz125 : lesz Tryz.prog 125 = some 11 := by kernel_rfl
@[simp] theorem plc126 : plcB Tryz.prog 126 = true := by kernel_rfl
@[simp] theorem fld126_0 : fldi Tryz.prog 126 0 = some (0, 1, false) := by kernel_rfl
@[simp] theorem fld126_1 : fldi Tryz.prog 126 1 = some (1, 1, false) := by kernel_rfl
@[simp] theorem fld126_2 : fldi Tryz.prog 126 2 = some (2, 1, false) := by kernel_rfl
@[simp] theorem fld126_3 : fldi Tryz.prog 126 3 = some (3, 1, false) := by kernel_rfl
@[simp] theorem fld126_4 : fldi Tryz.prog 126 4 = some (4, 1, false) := by kernel_rfl
@[simp] theorem fld126_5 : fldi Tryz.prog 126 5 = some (5, 1, false) := by kernel_rfl
@[simp] theorem fld126_6 : fldi Tryz.prog 126 6 = some (6, 1, false) := by kernel_rfl
@[simp] theorem fld126_7 : fldi Tryz.prog 126 7 = some (7, 1, false) := by kernel_rfl
@[simp] theorem fld126_8 : fldi Tryz.prog 126 8 = some (8, 1, false) := by kernel_rfl
@[simp] theorem fld126_9 : fldi Tryz.prog 126 9 = some (9, 1, false) := by kernel_rfl
@[simp] theorem fld126_10 : fldi Tryz.prog 126 10 = some (10, 1, false) := by kernel_rfl
@[simp] theorem sz126 : sz Tryz.prog 126 = some 11 := by kernel_rfl
@[simp] theorem agg126 : aggB Tryz.prog 126 = some true := by kernel_rfl
@[simp] theorem zr126 : zr Tryz.prog 126 = some (.agg #[.int .u64 0, .int .u64 0, .int .u32 0, .int .u8 0, .int .u8 0, .int .u8 0, .int .u8 0, .nilFunc, .pointer none, .int .i32 0, .int .i32 0]) := by kernel_rfl
@[simp] theorem lesz126 : lesz Tryz.prog 126 = some 11 := by kernel_rfl
attribute [simp] Tryz.underlying127
set_option linter.all false
attribute [simp] Tryz.results0 Tryz.ntmps0
attribute [simp] Tryz.results1 Tryz.ntmps1
attribute [simp] Tryz.results2 Tryz.ntmps2
attribute [simp] Tryz.results3 Tryz.ntmps3
attribute [simp] Tryz.results4 Tryz.ntmps4
attribute [simp] Tryz.results5 Tryz.ntmps5
attribute [simp] Tryz.results6 Tryz.ntmps6
attribute [simp] Tryz.results7 Tryz.ntmps7
attribute [simp] Tryz.results8 Tryz.ntmps8
attribute [simp] Tryz.results9 Tryz.ntmps9
attribute [simp] Tryz.results10 Tryz.ntmps10
attribute [simp] Tryz.results11 Tryz.ntmps11
attribute [simp] Tryz.results12 Tryz.ntmps12
attribute [simp] Tryz.results13 Tryz.ntmps13
attribute [simp] Tryz.results14 Tryz.ntmps14
attribute [simp] Tryz.results15 Tryz.ntmps15
attribute [simp] Tryz.results16 Tryz.ntmps16
attribute [simp] Tryz.results17 Tryz.ntmps17
attribute [simp] Tryz.results18 Tryz.ntmps18
attribute [simp] Tryz.results19 Tryz.ntmps19
attribute [simp] Tryz.results20 Tryz.ntmps20
attribute [simp] Tryz.results21 Tryz.ntmps21
attribute [simp] Tryz.results22 Tryz.ntmps22
attribute [simp] Tryz.results23 Tryz.ntmps23
attribute [simp] Tryz.results24 Tryz.ntmps24
attribute [simp] Tryz.results25 Tryz.ntmps25
attribute [simp] Tryz.results26 Tryz.ntmps26
attribute [simp] Tryz.results27 Tryz.ntmps27
attribute [simp] Tryz.results28 Tryz.ntmps28
attribute [simp] Tryz.results29 Tryz.ntmps29
attribute [simp] Tryz.results30 Tryz.ntmps30
attribute [simp] Tryz.results31 Tryz.ntmps31
attribute [simp] Tryz.results32 Tryz.ntmps32
attribute [simp] Tryz.results33 Tryz.ntmps33
attribute [simp] Tryz.results34 Tryz.ntmps34
attribute [simp] Tryz.results35 Tryz.ntmps35
attribute [simp] Tryz.results36 Tryz.ntmps36
attribute [simp] Tryz.results37 Tryz.ntmps37
attribute [simp] Tryz.results38 Tryz.ntmps38
attribute [simp] Tryz.results39 Tryz.ntmps39
attribute [simp] Tryz.results40 Tryz.ntmps40
attribute [simp] Tryz.results41 Tryz.ntmps41
attribute [simp] Tryz.results42 Tryz.ntmps42
attribute [simp] Tryz.results43 Tryz.ntmps43
attribute [simp] Tryz.results44 Tryz.ntmps44
attribute [simp] Tryz.results45 Tryz.ntmps45
attribute [simp] Tryz.results46 Tryz.ntmps46
attribute [simp] Tryz.results47 Tryz.ntmps47
attribute [simp] Tryz.results48 Tryz.ntmps48
attribute [simp] Tryz.results49 Tryz.ntmps49
attribute [simp] Tryz.results50 Tryz.ntmps50
attribute [simp] Tryz.results51 Tryz.ntmps51
attribute [simp] Tryz.results52 Tryz.ntmps52
attribute [simp] Tryz.results53 Tryz.ntmps53
attribute [simp] Tryz.results54 Tryz.ntmps54
attribute [simp] Tryz.results55 Tryz.ntmps55
attribute [simp] Tryz.results56 Tryz.ntmps56
attribute [simp] Tryz.results57 Tryz.ntmps57
attribute [simp] Tryz.results58 Tryz.ntmps58
attribute [simp] Tryz.results59 Tryz.ntmps59
attribute [simp] Tryz.results60 Tryz.ntmps60
attribute [simp] Tryz.results61 Tryz.ntmps61
attribute [simp] Tryz.results62 Tryz.ntmps62
attribute [simp] Tryz.results63 Tryz.ntmps63
attribute [simp] Tryz.results64 Tryz.ntmps64
attribute [simp] Tryz.results65 Tryz.ntmps65
attribute [simp] Tryz.results66 Tryz.ntmps66
attribute [simp] Tryz.results67 Tryz.ntmps67
attribute [simp] Tryz.results68 Tryz.ntmps68
attribute [simp] Tryz.results69 Tryz.ntmps69
attribute [simp] Tryz.results70 Tryz.ntmps70
attribute [simp] Tryz.results71 Tryz.ntmps71
attribute [simp] Tryz.results72 Tryz.ntmps72
attribute [simp] Tryz.results73 Tryz.ntmps73
attribute [simp] Tryz.results74 Tryz.ntmps74
attribute [simp] Tryz.results75 Tryz.ntmps75
attribute [simp] Tryz.results76 Tryz.ntmps76
attribute [simp] Tryz.results77 Tryz.ntmps77
attribute [simp] Tryz.results78 Tryz.ntmps78
attribute [simp] Tryz.results79 Tryz.ntmps79
attribute [simp] Tryz.results80 Tryz.ntmps80
attribute [simp] Tryz.results81 Tryz.ntmps81
attribute [simp] Tryz.results82 Tryz.ntmps82
attribute [simp] Tryz.results83 Tryz.ntmps83
attribute [simp] Tryz.results84 Tryz.ntmps84
attribute [simp] Tryz.results85 Tryz.ntmps85
attribute [simp] Tryz.results86 Tryz.ntmps86
attribute [simp] Tryz.results87 Tryz.ntmps87
attribute [simp] Tryz.results88 Tryz.ntmps88
attribute [simp] Tryz.results89 Tryz.ntmps89
attribute [simp] Tryz.results90 Tryz.ntmps90
attribute [simp] Tryz.results91 Tryz.ntmps91
attribute [simp] Tryz.results92 Tryz.ntmps92
attribute [simp] Tryz.results93 Tryz.ntmps93
attribute [simp] Tryz.results94 Tryz.ntmps94
attribute [simp] Tryz.results95 Tryz.ntmps95
attribute [simp] Tryz.results96 Tryz.ntmps96
attribute [simp] Tryz.results97 Tryz.ntmps97
attribute [simp] Tryz.results98 Tryz.ntmps98
attribute [simp] Tryz.results99 Tryz.ntmps99
attribute [simp] Tryz.results100 Tryz.ntmps100
attribute [simp] Tryz.results101 Tryz.ntmps101
attribute [simp] Tryz.results102 Tryz.ntmps102
attribute [simp] Tryz.results103 Tryz.ntmps103
attribute [simp] Tryz.results104 Tryz.ntmps104
attribute [simp] Tryz.results105 Tryz.ntmps105
attribute [simp] Tryz.results106 Tryz.ntmps106
attribute [simp] Tryz.results107 Tryz.ntmps107
attribute [simp] Tryz.results108 Tryz.ntmps108
attribute [simp] Tryz.results109 Tryz.ntmps109
attribute [simp] Tryz.results110 Tryz.ntmps110
attribute [simp] Tryz.results111 Tryz.ntmps111
attribute [simp] Tryz.results112 Tryz.ntmps112
attribute [simp] Tryz.results113 Tryz.ntmps113
attribute [simp] Tryz.results114 Tryz.ntmps114
attribute [simp] Tryz.results115 Tryz.ntmps115
attribute [simp] Tryz.results116 Tryz.ntmps116
attribute [simp] Tryz.results117 Tryz.ntmps117
attribute [simp] Tryz.results118 Tryz.ntmps118
attribute [simp] Tryz.results119 Tryz.ntmps119
attribute [simp] Tryz.results120 Tryz.ntmps120
attribute [simp] Tryz.results121 Tryz.ntmps121
attribute [simp] Tryz.results122 Tryz.ntmps122
attribute [simp] Tryz.results123 Tryz.ntmps123
attribute [simp] Tryz.results124 Tryz.ntmps124
attribute [simp] Tryz.results125 Tryz.ntmps125
attribute [simp] Tryz.results126 Tryz.ntmps126
attribute [simp] Tryz.results127 Tryz.ntmps127
attribute [simp] Tryz.results128 Tryz.ntmps128
attribute [simp] Tryz.results129 Tryz.ntmps129
attribute [simp] Tryz.results130 Tryz.ntmps130
attribute [simp] Tryz.results131 Tryz.ntmps131
attribute [simp] Tryz.results132 Tryz.ntmps132
attribute [simp] Tryz.results133 Tryz.ntmps133
attribute [simp] Tryz.results134 Tryz.ntmps134
attribute [simp] Tryz.results135 Tryz.ntmps135
attribute [simp] Tryz.results136 Tryz.ntmps136
attribute [simp] Tryz.results137 Tryz.ntmps137
attribute [simp] Tryz.results138 Tryz.ntmps138
attribute [simp] Tryz.results139 Tryz.ntmps139
attribute [simp] Tryz.results140 Tryz.ntmps140
attribute [simp] Tryz.results141 Tryz.ntmps141
attribute [simp] Tryz.results142 Tryz.ntmps142
attribute [simp] Tryz.results143 Tryz.ntmps143
attribute [simp] Tryz.results144 Tryz.ntmps144
attribute [simp] Tryz.results145 Tryz.ntmps145
attribute [simp] Tryz.results146 Tryz.ntmps146
attribute [simp] Tryz.results147 Tryz.ntmps147
attribute [simp] Tryz.results148 Tryz.ntmps148
attribute [simp] Tryz.results149 Tryz.ntmps149
attribute [simp] Tryz.results150 Tryz.ntmps150
attribute [simp] Tryz.results151 Tryz.ntmps151
attribute [simp] Tryz.results152 Tryz.ntmps152
attribute [simp] Tryz.results153 Tryz.ntmps153
theorem mixed : Tryz.prog.follows .mixedOrders = true := by kernel_rfl
end Go.Proofs.YtgnefbngkhjfcaaGreatDoor
/-
  DERIVED: THE SHELF's CONTRACTS AT THIS DUMP, IN PLAIN WORDS (tools/lay-plain.mjs out of 'TryzShelf.lean', which tools/lay-shelf.mjs wrote): THE SAME DECLARATIONS UNDER THE SAME NAMES: 'import', 'namespace', 'open', 'def', 'theorem' AND NOTHING ELSE: no command of the shelf's: FOR A HAND-IN. Each laying: the table of numbers ('.._ren') and one theorem, a field a fact of the dump's own or the kernel's comparison; each contract: ONE APPLICATION.
-/
namespace Go.Proofs
open Go.Shelf
def Tryz.lays137_ren : Go.Shelf.Ren := ⟨fun | 137 => 98 | 217 => 112 | 266 => 117 | n => n, fun | 9 => 9 | 5 => 5 | 3 => 3 | n => n, fun | n => n⟩
theorem Tryz.lays137 : Go.Proofs.Lays.n137 Tryz.prog Tryz.lays137_ren := {
  mixed := by kernel_rfl
  f137 := Tryz.func98.trans (congrArg some (by kernel_rfl))
  f217 := Tryz.func112.trans (congrArg some (by kernel_rfl))
  f266 := Tryz.func117.trans (congrArg some (by kernel_rfl))
  t3 := Tryz.underlying3
  a3 := Tryz.isAgg3
  z3 := Tryz.sizeOf3
  v3 := Tryz.zeroValue3
  t5 := Tryz.underlying5
  a5 := Tryz.isAgg5
  z5 := Tryz.sizeOf5
  v5 := Tryz.zeroValue5
  t9 := Tryz.underlying9
  a9 := Tryz.isAgg9
  z9 := Tryz.sizeOf9
  v9 := Tryz.zeroValue9 }
open Go.RowKit in
/-- strings.IndexByte: "IndexByte returns the index of the first instance of c in s, or -1 if c is not present in s.": IT RETURNS 'Lib.indexByte s c'; the world is as it was. (LAID: no walk: one application.) -/
theorem Tryz.strings_IndexByte (s : ByteArray) (c : Int) (w : World) :
    Calls Tryz.prog 98 #[.string s, .int .u8 c] w fun e w' => e = .returned (.int .i64 (Lib.indexByte s.data.toList c.toNat.toUInt8)) ∧ w' = w := Any.strings_IndexByte Tryz.lays137 s c w
def Tryz.lays217_ren : Go.Shelf.Ren := ⟨fun | 217 => 112 | 266 => 117 | n => n, fun | 9 => 9 | 5 => 5 | 3 => 3 | n => n, fun | n => n⟩
theorem Tryz.lays217 : Go.Proofs.Lays.n217 Tryz.prog Tryz.lays217_ren := {
  mixed := by kernel_rfl
  f217 := Tryz.func112.trans (congrArg some (by kernel_rfl))
  f266 := Tryz.func117.trans (congrArg some (by kernel_rfl))
  t3 := Tryz.underlying3
  a3 := Tryz.isAgg3
  z3 := Tryz.sizeOf3
  v3 := Tryz.zeroValue3
  t5 := Tryz.underlying5
  a5 := Tryz.isAgg5
  z5 := Tryz.sizeOf5
  v5 := Tryz.zeroValue5
  t9 := Tryz.underlying9
  a9 := Tryz.isAgg9
  z9 := Tryz.sizeOf9
  v9 := Tryz.zeroValue9 }
open Go.RowKit Go.Lib in
/-- internal/stringslite.IndexByte (what strings.IndexByte calls): IT RETURNS 'Lib.indexByte s c'; the world is as it was. (LAID: no walk: one application.) -/
theorem Tryz.stringslite_IndexByte (s : ByteArray) (c : Int) (w : World) :
    Calls Tryz.prog 112 #[.string s, .int .u8 c] w fun e w' => e = .returned (.int .i64 (Lib.indexByte s.data.toList c.toNat.toUInt8)) ∧ w' = w := Any.stringslite_IndexByte Tryz.lays217 s c w
def Tryz.lays157_ren : Go.Shelf.Ren := ⟨fun | 157 => 121 | 229 => 124 | 199 => 125 | 261 => 126 | 311 => 127 | 312 => 128 | n => n, fun | 9 => 9 | 31 => 33 | 3 => 3 | 5 => 5 | 4 => 4 | 119 => 91 | 0 => 0 | 40 => 93 | 152 => 94 | 21 => 21 | 154 => 96 | 51 => 97 | 141 => 99 | 196 => 103 | 193 => 100 | 198 => 106 | 49 => 104 | 194 => 101 | 201 => 109 | 226 => 111 | 46 => 112 | 227 => 113 | n => n, fun | 0 => 1 | 6 => 2 | n => n⟩
theorem Tryz.lays157 : Go.Proofs.Lays.n157 Tryz.prog Tryz.lays157_ren := {
  mixed := by kernel_rfl
  f157 := Tryz.func121.trans (congrArg some (by kernel_rfl))
  f199 := Tryz.func125.trans (congrArg some (by kernel_rfl))
  f229 := Tryz.func124.trans (congrArg some (by kernel_rfl))
  f261 := Tryz.func126.trans (congrArg some (by kernel_rfl))
  f311 := Tryz.func127.trans (congrArg some (by kernel_rfl))
  f312 := Tryz.func128.trans (congrArg some (by kernel_rfl))
  t0 := Tryz.underlying0
  a0 := Tryz.isAgg0
  z0 := Tryz.sizeOf0
  v0 := Tryz.zeroValue0
  t3 := Tryz.underlying3
  a3 := Tryz.isAgg3
  z3 := Tryz.sizeOf3
  v3 := Tryz.zeroValue3
  t4 := Tryz.underlying4
  a4 := Tryz.isAgg4
  z4 := Tryz.sizeOf4
  v4 := Tryz.zeroValue4
  t5 := Tryz.underlying5
  a5 := Tryz.isAgg5
  z5 := Tryz.sizeOf5
  v5 := Tryz.zeroValue5
  t9 := Tryz.underlying9
  a9 := Tryz.isAgg9
  z9 := Tryz.sizeOf9
  v9 := Tryz.zeroValue9
  t21 := Tryz.underlying21
  a21 := Tryz.isAgg21
  z21 := Tryz.sizeOf21
  v21 := Tryz.zeroValue21
  t31 := Tryz.underlying33
  a31 := Tryz.isAgg33
  z31 := Tryz.sizeOf33
  v31 := Tryz.zeroValue33
  t40 := Tryz.underlying93
  a40 := Tryz.isAgg93
  z40 := Tryz.sizeOf93
  v40 := Tryz.zeroValue93
  t46 := Tryz.underlying112
  a46 := Tryz.isAgg112
  z46 := Tryz.sizeOf112
  v46 := Tryz.zeroValue112
  t49 := Tryz.underlying104
  a49 := Tryz.isAgg104
  z49 := Tryz.sizeOf104
  v49 := Tryz.zeroValue104
  t51 := Tryz.underlying97
  a51 := Tryz.isAgg97
  z51 := Tryz.sizeOf97
  v51 := Tryz.zeroValue97
  t119 := Tryz.underlying91
  a119 := Tryz.isAgg91
  z119 := Tryz.sizeOf91
  t141 := Tryz.underlying99
  a141 := Tryz.isAgg99
  z141 := Tryz.sizeOf99
  v141 := Tryz.zeroValue99
  t152 := Tryz.underlying94
  a152 := Tryz.isAgg94
  z152 := Tryz.sizeOf94
  v152 := Tryz.zeroValue94
  t154 := Tryz.underlying96
  a154 := Tryz.isAgg96
  z154 := Tryz.sizeOf96
  v154 := Tryz.zeroValue96
  t193 := Tryz.underlying100
  a193 := Tryz.isAgg100
  z193 := Tryz.sizeOf100
  v193 := Tryz.zeroValue100
  t194 := Tryz.underlying101
  a194 := Tryz.isAgg101
  z194 := Tryz.sizeOf101
  v194 := Tryz.zeroValue101
  t196 := Tryz.underlying103
  a196 := Tryz.isAgg103
  z196 := Tryz.sizeOf103
  v196 := Tryz.zeroValue103
  t198 := Tryz.underlying106
  a198 := Tryz.isAgg106
  z198 := Tryz.sizeOf106
  v198 := Tryz.zeroValue106
  t201 := Tryz.underlying109
  a201 := Tryz.isAgg109
  z201 := Tryz.sizeOf109
  v201 := Tryz.zeroValue109
  t226 := Tryz.underlying111
  a226 := Tryz.isAgg111
  z226 := Tryz.sizeOf111
  v226 := Tryz.zeroValue111
  t227 := Tryz.underlying113
  a227 := Tryz.isAgg113
  z227 := Tryz.sizeOf113
  v227 := Tryz.zeroValue113
  g0 := by kernel_rfl
  g6 := by kernel_rfl }
open Go.RowKit Go.Lib in
/-- strings.Fields, the table by 'Lib.TabIs' (as strings.TrimSpace's contract). 'hg': the table's number, by its name: at a dump 'by kernel_rfl'. (LAID: no walk: one application.) -/
theorem Tryz.strings_Fields (s : ByteArray) (w : World) (hs : s.size < 4294967281) (hascii : ∀ (j : Nat) b, s.data.toList[j]? = some b → b.toNat < 128) (htab : Lib.TabIs Tryz.prog w "strings.asciiSpace" .u8 Lib.asciiSpaceTab) :
    Calls Tryz.prog 121 #[.string s] w fun e w' =>
      e = .returned (.slice (some ⟨w.heap.size, 0, none⟩) (Lib.fields s.data.toList).length (Lib.fields s.data.toList).length) ∧ w' = w.alloc (.cells ((Lib.fields s.data.toList).map fun l => Value.string ⟨l.toArray⟩).toArray 9) := Any.strings_Fields Tryz.lays157 (by kernel_rfl) (by kernel_rfl) s w hs hascii htab
def Tryz.laysM157_ren : Go.Shelf.Ren := ⟨fun | 157 => 121 | 229 => 124 | 199 => 125 | 261 => 126 | 311 => 127 | 312 => 128 | n => n, fun | 9 => 9 | 31 => 33 | 3 => 3 | 5 => 5 | 4 => 4 | 119 => 91 | 0 => 0 | 40 => 93 | 152 => 94 | 21 => 21 | 154 => 96 | 51 => 97 | 141 => 99 | 196 => 103 | 193 => 100 | 198 => 106 | 49 => 104 | 194 => 101 | 201 => 109 | 226 => 111 | 46 => 112 | 227 => 113 | n => n, fun | 0 => 1 | 6 => 2 | n => n⟩
theorem Tryz.laysM157 : Go.Proofs.LaysM.n157 Tryz.prog Tryz.laysM157_ren := {
  mixed := by kernel_rfl
  f157 := Tryz.func121.trans (congrArg some (by kernel_rfl))
  f199 := Tryz.func125.trans (congrArg some (by kernel_rfl))
  f229 := Tryz.func124.trans (congrArg some (by kernel_rfl))
  f261 := Tryz.func126.trans (congrArg some (by kernel_rfl))
  f311 := Tryz.func127.trans (congrArg some (by kernel_rfl))
  f312 := Tryz.func128.trans (congrArg some (by kernel_rfl))
  t0 := Tryz.underlying0
  a0 := Tryz.isAgg0
  z0 := Tryz.sizeOf0
  v0 := Tryz.zeroValue0
  t3 := Tryz.underlying3
  a3 := Tryz.isAgg3
  z3 := Tryz.sizeOf3
  v3 := Tryz.zeroValue3
  t4 := Tryz.underlying4
  a4 := Tryz.isAgg4
  z4 := Tryz.sizeOf4
  v4 := Tryz.zeroValue4
  t5 := Tryz.underlying5
  a5 := Tryz.isAgg5
  z5 := Tryz.sizeOf5
  v5 := Tryz.zeroValue5
  t9 := Tryz.underlying9
  a9 := Tryz.isAgg9
  z9 := Tryz.sizeOf9
  v9 := Tryz.zeroValue9
  t21 := Tryz.underlying21
  a21 := Tryz.isAgg21
  z21 := Tryz.sizeOf21
  v21 := Tryz.zeroValue21
  t31 := Tryz.underlying33
  a31 := Tryz.isAgg33
  z31 := Tryz.sizeOf33
  v31 := Tryz.zeroValue33
  t40 := Tryz.underlying93
  a40 := Tryz.isAgg93
  z40 := Tryz.sizeOf93
  v40 := Tryz.zeroValue93
  t46 := Tryz.underlying112
  a46 := Tryz.isAgg112
  z46 := Tryz.sizeOf112
  v46 := Tryz.zeroValue112
  t49 := Tryz.underlying104
  a49 := Tryz.isAgg104
  z49 := Tryz.sizeOf104
  v49 := Tryz.zeroValue104
  t51 := Tryz.underlying97
  a51 := Tryz.isAgg97
  z51 := Tryz.sizeOf97
  v51 := Tryz.zeroValue97
  t119 := Tryz.underlying91
  a119 := Tryz.isAgg91
  z119 := Tryz.sizeOf91
  t141 := Tryz.underlying99
  a141 := Tryz.isAgg99
  z141 := Tryz.sizeOf99
  v141 := Tryz.zeroValue99
  t152 := Tryz.underlying94
  a152 := Tryz.isAgg94
  z152 := Tryz.sizeOf94
  v152 := Tryz.zeroValue94
  t154 := Tryz.underlying96
  a154 := Tryz.isAgg96
  z154 := Tryz.sizeOf96
  v154 := Tryz.zeroValue96
  t193 := Tryz.underlying100
  a193 := Tryz.isAgg100
  z193 := Tryz.sizeOf100
  v193 := Tryz.zeroValue100
  t194 := Tryz.underlying101
  a194 := Tryz.isAgg101
  z194 := Tryz.sizeOf101
  v194 := Tryz.zeroValue101
  t196 := Tryz.underlying103
  a196 := Tryz.isAgg103
  z196 := Tryz.sizeOf103
  v196 := Tryz.zeroValue103
  t198 := Tryz.underlying106
  a198 := Tryz.isAgg106
  z198 := Tryz.sizeOf106
  v198 := Tryz.zeroValue106
  t201 := Tryz.underlying109
  a201 := Tryz.isAgg109
  z201 := Tryz.sizeOf109
  v201 := Tryz.zeroValue109
  t226 := Tryz.underlying111
  a226 := Tryz.isAgg111
  z226 := Tryz.sizeOf111
  v226 := Tryz.zeroValue111
  t227 := Tryz.underlying113
  a227 := Tryz.isAgg113
  z227 := Tryz.sizeOf113
  v227 := Tryz.zeroValue113
  g0 := by kernel_rfl
  g6 := by kernel_rfl
  i0 := by kernel_rfl
  i3 := by kernel_rfl
  i4 := by kernel_rfl
  i5 := by kernel_rfl
  i9 := by kernel_rfl
  i21 := by kernel_rfl
  i31 := by kernel_rfl
  i40 := by kernel_rfl
  i46 := by kernel_rfl
  i49 := by kernel_rfl
  i51 := by kernel_rfl
  i141 := by kernel_rfl
  i152 := by kernel_rfl
  i154 := by kernel_rfl
  i193 := by kernel_rfl
  i194 := by kernel_rfl
  i196 := by kernel_rfl
  i198 := by kernel_rfl
  i201 := by kernel_rfl
  i226 := by kernel_rfl
  i227 := by kernel_rfl
  m0 := by kernel_rfl
  m6 := by kernel_rfl }
open Go.RowKit Go.Lib in
/-- strings.Fields on ASCII bytes. (The table: 'Lib.TabIs', as strings.TrimSpace's contract asks it.) (LAID: no walk: one application.) -/
theorem Tryz.strings_Fields_laid (s : ByteArray) (w : World) (hs : s.size < 4294967281) (hascii : ∀ (j : Nat) b, s.data.toList[j]? = some b → b.toNat < 128) (htab : Lib.TabIs Tryz.prog w "strings.asciiSpace" .u8 Lib.asciiSpaceTab) :
    Calls Tryz.prog 121 #[.string s] w fun e w' =>
      e = .returned (.slice (some ⟨w.heap.size, 0, none⟩) (Lib.fields s.data.toList).length (Lib.fields s.data.toList).length) ∧ w' = w.alloc (.cells ((Lib.fields s.data.toList).map fun l => Value.string ⟨l.toArray⟩).toArray 9) := Any.strings_Fields_laid Tryz.laysM157 s w hs hascii htab
def Tryz.lays199_ren : Go.Shelf.Ren := ⟨fun | 199 => 125 | 261 => 126 | 311 => 127 | 312 => 128 | n => n, fun | 21 => 21 | 4 => 4 | 51 => 97 | 141 => 99 | 0 => 0 | 196 => 103 | 193 => 100 | 3 => 3 | 198 => 106 | 49 => 104 | 194 => 101 | 201 => 109 | 226 => 111 | 46 => 112 | 227 => 113 | n => n, fun | 6 => 2 | n => n⟩
theorem Tryz.lays199 : Go.Proofs.Lays.n199 Tryz.prog Tryz.lays199_ren := {
  mixed := by kernel_rfl
  f199 := Tryz.func125.trans (congrArg some (by kernel_rfl))
  f261 := Tryz.func126.trans (congrArg some (by kernel_rfl))
  f311 := Tryz.func127.trans (congrArg some (by kernel_rfl))
  f312 := Tryz.func128.trans (congrArg some (by kernel_rfl))
  t0 := Tryz.underlying0
  a0 := Tryz.isAgg0
  z0 := Tryz.sizeOf0
  v0 := Tryz.zeroValue0
  t3 := Tryz.underlying3
  a3 := Tryz.isAgg3
  z3 := Tryz.sizeOf3
  v3 := Tryz.zeroValue3
  t4 := Tryz.underlying4
  a4 := Tryz.isAgg4
  z4 := Tryz.sizeOf4
  v4 := Tryz.zeroValue4
  t21 := Tryz.underlying21
  a21 := Tryz.isAgg21
  z21 := Tryz.sizeOf21
  v21 := Tryz.zeroValue21
  t46 := Tryz.underlying112
  a46 := Tryz.isAgg112
  z46 := Tryz.sizeOf112
  v46 := Tryz.zeroValue112
  t49 := Tryz.underlying104
  a49 := Tryz.isAgg104
  z49 := Tryz.sizeOf104
  v49 := Tryz.zeroValue104
  t51 := Tryz.underlying97
  a51 := Tryz.isAgg97
  z51 := Tryz.sizeOf97
  v51 := Tryz.zeroValue97
  t141 := Tryz.underlying99
  a141 := Tryz.isAgg99
  z141 := Tryz.sizeOf99
  v141 := Tryz.zeroValue99
  t193 := Tryz.underlying100
  a193 := Tryz.isAgg100
  z193 := Tryz.sizeOf100
  v193 := Tryz.zeroValue100
  t194 := Tryz.underlying101
  a194 := Tryz.isAgg101
  z194 := Tryz.sizeOf101
  v194 := Tryz.zeroValue101
  t196 := Tryz.underlying103
  a196 := Tryz.isAgg103
  z196 := Tryz.sizeOf103
  v196 := Tryz.zeroValue103
  t198 := Tryz.underlying106
  a198 := Tryz.isAgg106
  z198 := Tryz.sizeOf106
  v198 := Tryz.zeroValue106
  t201 := Tryz.underlying109
  a201 := Tryz.isAgg109
  z201 := Tryz.sizeOf109
  v201 := Tryz.zeroValue109
  t226 := Tryz.underlying111
  a226 := Tryz.isAgg111
  z226 := Tryz.sizeOf111
  v226 := Tryz.zeroValue111
  t227 := Tryz.underlying113
  a227 := Tryz.isAgg113
  z227 := Tryz.sizeOf113
  v227 := Tryz.zeroValue113
  g6 := by kernel_rfl }
open Go.RowKit Go.Lib in
theorem Tryz.unicode_IsSpace (r : Int) (w : World) (h0 : 0 ≤ r) (h : r ≤ 255) :
    Calls Tryz.prog 125 #[.int .i32 r] w fun e w' => e = .returned (.bool (Lib.isSpaceL r)) ∧ w' = w := Any.unicode_IsSpace Tryz.lays199 r w h0 h
def Tryz.lays311_ren : Go.Shelf.Ren := ⟨fun | 311 => 127 | n => n, fun | 193 => 100 | 49 => 104 | 4 => 4 | 3 => 3 | 0 => 0 | 226 => 111 | 198 => 106 | 46 => 112 | n => n, fun | n => n⟩
theorem Tryz.lays311 : Go.Proofs.Lays.n311 Tryz.prog Tryz.lays311_ren := {
  mixed := by kernel_rfl
  f311 := Tryz.func127.trans (congrArg some (by kernel_rfl))
  t0 := Tryz.underlying0
  a0 := Tryz.isAgg0
  z0 := Tryz.sizeOf0
  v0 := Tryz.zeroValue0
  t3 := Tryz.underlying3
  a3 := Tryz.isAgg3
  z3 := Tryz.sizeOf3
  v3 := Tryz.zeroValue3
  t4 := Tryz.underlying4
  a4 := Tryz.isAgg4
  z4 := Tryz.sizeOf4
  v4 := Tryz.zeroValue4
  t46 := Tryz.underlying112
  a46 := Tryz.isAgg112
  z46 := Tryz.sizeOf112
  v46 := Tryz.zeroValue112
  t49 := Tryz.underlying104
  a49 := Tryz.isAgg104
  z49 := Tryz.sizeOf104
  v49 := Tryz.zeroValue104
  t193 := Tryz.underlying100
  a193 := Tryz.isAgg100
  z193 := Tryz.sizeOf100
  v193 := Tryz.zeroValue100
  t198 := Tryz.underlying106
  a198 := Tryz.isAgg106
  z198 := Tryz.sizeOf106
  v198 := Tryz.zeroValue106
  t226 := Tryz.underlying111
  a226 := Tryz.isAgg111
  z226 := Tryz.sizeOf111
  v226 := Tryz.zeroValue111 }
open Go.RowKit Go.Lib in
theorem Tryz.unicode_is16_white (R oR : Nat) (z : Nat) (w : World) (hz : z < 65536) (hz0 : 255 < z) (c6 : w.cell? ⟨R, oR + 6, none⟩ = some (.int .u16 160)) (c7 : w.cell? ⟨R, oR + 7, none⟩ = some (.int .u16 5760)) (c8 : w.cell? ⟨R, oR + 8, none⟩ = some (.int .u16 5600)) (c9 : w.cell? ⟨R, oR + 9, none⟩ = some (.int .u16 8192)) (c10 : w.cell? ⟨R, oR + 10, none⟩ = some (.int .u16 8202)) (c11 : w.cell? ⟨R, oR + 11, none⟩ = some (.int .u16 1)) (c12 : w.cell? ⟨R, oR + 12, none⟩ = some (.int .u16 8232)) (c13 : w.cell? ⟨R, oR + 13, none⟩ = some (.int .u16 8233)) (c14 : w.cell? ⟨R, oR + 14, none⟩ = some (.int .u16 1)) (c15 : w.cell? ⟨R, oR + 15, none⟩ = some (.int .u16 8239)) (c16 : w.cell? ⟨R, oR + 16, none⟩ = some (.int .u16 8287)) (c17 : w.cell? ⟨R, oR + 17, none⟩ = some (.int .u16 48)) (c18 : w.cell? ⟨R, oR + 18, none⟩ = some (.int .u16 12288)) (c19 : w.cell? ⟨R, oR + 19, none⟩ = some (.int .u16 12288)) (c20 : w.cell? ⟨R, oR + 20, none⟩ = some (.int .u16 1)) :
    Calls Tryz.prog 127 #[.slice (some ⟨R, oR + 6, none⟩) 5 5, .int .u16 z] w fun e w' => e = .returned (.bool (Lib.isSpaceR z)) ∧ Below w.heap.size w w' := Any.unicode_is16_white Tryz.lays311 R oR z w hz hz0 c6 c7 c8 c9 c10 c11 c12 c13 c14 c15 c16 c17 c18 c19 c20
def Tryz.lays261_ren : Go.Shelf.Ren := ⟨fun | 261 => 126 | 311 => 127 | 312 => 128 | n => n, fun | 141 => 99 | 21 => 21 | 4 => 4 | 0 => 0 | 196 => 103 | 193 => 100 | 3 => 3 | 51 => 97 | 198 => 106 | 49 => 104 | 194 => 101 | 201 => 109 | 226 => 111 | 46 => 112 | 227 => 113 | n => n, fun | n => n⟩
theorem Tryz.lays261 : Go.Proofs.Lays.n261 Tryz.prog Tryz.lays261_ren := {
  mixed := by kernel_rfl
  f261 := Tryz.func126.trans (congrArg some (by kernel_rfl))
  f311 := Tryz.func127.trans (congrArg some (by kernel_rfl))
  f312 := Tryz.func128.trans (congrArg some (by kernel_rfl))
  t0 := Tryz.underlying0
  a0 := Tryz.isAgg0
  z0 := Tryz.sizeOf0
  v0 := Tryz.zeroValue0
  t3 := Tryz.underlying3
  a3 := Tryz.isAgg3
  z3 := Tryz.sizeOf3
  v3 := Tryz.zeroValue3
  t4 := Tryz.underlying4
  a4 := Tryz.isAgg4
  z4 := Tryz.sizeOf4
  v4 := Tryz.zeroValue4
  t21 := Tryz.underlying21
  a21 := Tryz.isAgg21
  z21 := Tryz.sizeOf21
  v21 := Tryz.zeroValue21
  t46 := Tryz.underlying112
  a46 := Tryz.isAgg112
  z46 := Tryz.sizeOf112
  v46 := Tryz.zeroValue112
  t49 := Tryz.underlying104
  a49 := Tryz.isAgg104
  z49 := Tryz.sizeOf104
  v49 := Tryz.zeroValue104
  t51 := Tryz.underlying97
  a51 := Tryz.isAgg97
  z51 := Tryz.sizeOf97
  v51 := Tryz.zeroValue97
  t141 := Tryz.underlying99
  a141 := Tryz.isAgg99
  z141 := Tryz.sizeOf99
  v141 := Tryz.zeroValue99
  t193 := Tryz.underlying100
  a193 := Tryz.isAgg100
  z193 := Tryz.sizeOf100
  v193 := Tryz.zeroValue100
  t194 := Tryz.underlying101
  a194 := Tryz.isAgg101
  z194 := Tryz.sizeOf101
  v194 := Tryz.zeroValue101
  t196 := Tryz.underlying103
  a196 := Tryz.isAgg103
  z196 := Tryz.sizeOf103
  v196 := Tryz.zeroValue103
  t198 := Tryz.underlying106
  a198 := Tryz.isAgg106
  z198 := Tryz.sizeOf106
  v198 := Tryz.zeroValue106
  t201 := Tryz.underlying109
  a201 := Tryz.isAgg109
  z201 := Tryz.sizeOf109
  v201 := Tryz.zeroValue109
  t226 := Tryz.underlying111
  a226 := Tryz.isAgg111
  z226 := Tryz.sizeOf111
  v226 := Tryz.zeroValue111
  t227 := Tryz.underlying113
  a227 := Tryz.isAgg113
  z227 := Tryz.sizeOf113
  v227 := Tryz.zeroValue113 }
open Go.RowKit Go.Lib in
/-- unicode.isExcludingLatin(White_Space, r), r beyond U+00FF or negative. (LAID: no walk: one application.) -/
theorem Tryz.unicode_isExcludingLatin_white (T oT R oR : Nat) (r : Int) (w : World) (hlo : -2147483648 ≤ r) (hhi : r ≤ 2147483647) (hr : r < 0 ∨ 255 < r) (h2 : w.cell? ⟨T, oT, none⟩ = some (.slice (some ⟨R, oR, none⟩) 7 7)) (h3 : w.cell? ⟨T, oT + 1, none⟩ = some (.slice none 0 0)) (h4 : w.cell? ⟨T, oT + 2, none⟩ = some (.int .i64 2)) (h5 : ∀ i, i < 21 → w.cell? ⟨R, oR + i, none⟩ = some (.int .u16 (whiteT.getD i 0))) :
    Calls Tryz.prog 126 #[.pointer (some ⟨T, oT, none⟩), .int .i32 r] w fun e w' => e = .returned (.bool (Lib.isSpaceZ r)) ∧ Below w.heap.size w w' := Any.unicode_isExcludingLatin_white Tryz.lays261 T oT R oR r w hlo hhi hr h2 h3 h4 h5
open Go.RowKit Go.Lib in
/-- **unicode.IsSpace AT EVERY int32.** (LAID: no walk: one application.) -/
theorem Tryz.unicode_IsSpace_any (r : Int) (w : World) (hlo : -2147483648 ≤ r) (hhi : r ≤ 2147483647) (hW : Lib.WhiteTab 2 w) :
    Calls Tryz.prog 125 #[.int .i32 r] w fun e w' => e = .returned (.bool (Lib.isSpaceZ r)) ∧ Below w.heap.size w w' := Any.unicode_IsSpace_any Tryz.lays199 r w hlo hhi hW
open Go.RowKit Go.Lib in
theorem Tryz.unicode_is16_white_d (R oR : Nat) (z : Nat) (w : World) (hz : z < 65536) (hz0 : 255 < z) (c6 : w.cell? ⟨R, oR + 6, none⟩ = some (.int .u16 160)) (c7 : w.cell? ⟨R, oR + 7, none⟩ = some (.int .u16 5760)) (c8 : w.cell? ⟨R, oR + 8, none⟩ = some (.int .u16 5600)) (c9 : w.cell? ⟨R, oR + 9, none⟩ = some (.int .u16 8192)) (c10 : w.cell? ⟨R, oR + 10, none⟩ = some (.int .u16 8202)) (c11 : w.cell? ⟨R, oR + 11, none⟩ = some (.int .u16 1)) (c12 : w.cell? ⟨R, oR + 12, none⟩ = some (.int .u16 8232)) (c13 : w.cell? ⟨R, oR + 13, none⟩ = some (.int .u16 8233)) (c14 : w.cell? ⟨R, oR + 14, none⟩ = some (.int .u16 1)) (c15 : w.cell? ⟨R, oR + 15, none⟩ = some (.int .u16 8239)) (c16 : w.cell? ⟨R, oR + 16, none⟩ = some (.int .u16 8287)) (c17 : w.cell? ⟨R, oR + 17, none⟩ = some (.int .u16 48)) (c18 : w.cell? ⟨R, oR + 18, none⟩ = some (.int .u16 12288)) (c19 : w.cell? ⟨R, oR + 19, none⟩ = some (.int .u16 12288)) (c20 : w.cell? ⟨R, oR + 20, none⟩ = some (.int .u16 1)) :
    Calls Tryz.prog 127 #[.slice (some ⟨R, oR + 6, none⟩) 5 5, .int .u16 z] w fun e w' => e = .returned (.bool (Lib.isSpaceR z)) ∧ ∃ q, w' = w.drewN q := Any.unicode_is16_white_d Tryz.lays311 R oR z w hz hz0 c6 c7 c8 c9 c10 c11 c12 c13 c14 c15 c16 c17 c18 c19 c20
open Go.RowKit Go.Lib in
/-- unicode.isExcludingLatin(White_Space, r), r beyond U+00FF or negative. (LAID: no walk: one application.) -/
theorem Tryz.unicode_isExcludingLatin_white_d (T oT R oR : Nat) (r : Int) (w : World) (hlo : -2147483648 ≤ r) (hhi : r ≤ 2147483647) (hr : r < 0 ∨ 255 < r) (h2 : w.cell? ⟨T, oT, none⟩ = some (.slice (some ⟨R, oR, none⟩) 7 7)) (h3 : w.cell? ⟨T, oT + 1, none⟩ = some (.slice none 0 0)) (h4 : w.cell? ⟨T, oT + 2, none⟩ = some (.int .i64 2)) (h5 : ∀ i, i < 21 → w.cell? ⟨R, oR + i, none⟩ = some (.int .u16 (whiteT.getD i 0))) :
    Calls Tryz.prog 126 #[.pointer (some ⟨T, oT, none⟩), .int .i32 r] w fun e w' => e = .returned (.bool (Lib.isSpaceZ r)) ∧ ∃ q, w' = w.drewN q := Any.unicode_isExcludingLatin_white_d Tryz.lays261 T oT R oR r w hlo hhi hr h2 h3 h4 h5
open Go.RowKit Go.Lib in
/-- **unicode.IsSpace AT EVERY int32.** (LAID: no walk: one application.) -/
theorem Tryz.unicode_IsSpace_any_d (r : Int) (w : World) (hlo : -2147483648 ≤ r) (hhi : r ≤ 2147483647) (hW : Lib.WhiteTab 2 w) :
    Calls Tryz.prog 125 #[.int .i32 r] w fun e w' => e = .returned (.bool (Lib.isSpaceZ r)) ∧ ∃ q, w' = w.drewN q := Any.unicode_IsSpace_any_d Tryz.lays199 r w hlo hhi hW
open Go.RowKit Go.Lib in
theorem Tryz.strings_Fields_beyond (s : ByteArray) (w : World) (hs : s.size < 4294967281) (hhigh : ∃ (j : Nat) (b : UInt8), s.data.toList[j]? = some b ∧ 128 ≤ b.toNat) (hT : ∀ c : Nat, c < 256 → w.cell? ⟨1, c, none⟩ = some (.int .u8 (if Lib.isSp (UInt8.ofNat c) then 1 else 0))) (hW : Lib.WhiteTab 2 w) :
    Calls Tryz.prog 121 #[.string s] w fun e w' => ∃ A, e = .returned (.slice (some ⟨A, 0, none⟩) (Lib.goFieldsP Lib.isSpaceR s).length (Lib.goFieldsP Lib.isSpaceR s).length) ∧ w.heap.size ≤ A ∧
      w'.ownsRow w.heap.size 9 1 (.slice (some ⟨A, 0, none⟩) (Lib.goFieldsP Lib.isSpaceR s).length (Lib.goFieldsP Lib.isSpaceR s).length) (Lib.goFieldsP Lib.isSpaceR s).length ((Lib.goFieldsP Lib.isSpaceR s).map Value.string) ∧ Below w.heap.size w w' := Any.strings_Fields_beyond Tryz.lays157 (by kernel_rfl) (by kernel_rfl) s w hs hhigh hT hW
open Go.RowKit Go.Lib in
/-- **strings.Fields AT EVERY STRING, VALID UTF-8 OR NOT.** (LAID: no walk: one application.) -/
theorem Tryz.strings_Fields_any (s : ByteArray) (w : World) (hs : s.size < 4294967281) (htab : Lib.TabIs Tryz.prog w "strings.asciiSpace" .u8 Lib.asciiSpaceTab) (hW : Lib.WhiteTab 2 w) :
    Calls Tryz.prog 121 #[.string s] w fun e w' => ∃ A, e = .returned (.slice (some ⟨A, 0, none⟩) (Lib.fieldsD s.data.toList).length (Lib.fieldsD s.data.toList).length) ∧ w.heap.size ≤ A ∧
      w'.ownsRow w.heap.size 9 1 (.slice (some ⟨A, 0, none⟩) (Lib.fieldsD s.data.toList).length (Lib.fieldsD s.data.toList).length) (Lib.fieldsD s.data.toList).length ((Lib.fieldsD s.data.toList).map fun x => Value.string ⟨x.toArray⟩) ∧ Below w.heap.size w w' := Any.strings_Fields_any Tryz.lays157 (by kernel_rfl) (by kernel_rfl) (by kernel_rfl) s w hs htab hW
def Tryz.lays229_ren : Go.Shelf.Ren := ⟨fun | 229 => 124 | n => n, fun | 9 => 9 | 40 => 93 | 31 => 33 | 152 => 94 | 3 => 3 | 0 => 0 | 4 => 4 | 21 => 21 | 154 => 96 | n => n, fun | n => n⟩
theorem Tryz.lays229 : Go.Proofs.Lays.n229 Tryz.prog Tryz.lays229_ren := {
  mixed := by kernel_rfl
  f229 := Tryz.func124.trans (congrArg some (by kernel_rfl))
  t0 := Tryz.underlying0
  a0 := Tryz.isAgg0
  z0 := Tryz.sizeOf0
  v0 := Tryz.zeroValue0
  t3 := Tryz.underlying3
  a3 := Tryz.isAgg3
  z3 := Tryz.sizeOf3
  v3 := Tryz.zeroValue3
  t4 := Tryz.underlying4
  a4 := Tryz.isAgg4
  z4 := Tryz.sizeOf4
  v4 := Tryz.zeroValue4
  t9 := Tryz.underlying9
  a9 := Tryz.isAgg9
  z9 := Tryz.sizeOf9
  v9 := Tryz.zeroValue9
  t21 := Tryz.underlying21
  a21 := Tryz.isAgg21
  z21 := Tryz.sizeOf21
  v21 := Tryz.zeroValue21
  t31 := Tryz.underlying33
  a31 := Tryz.isAgg33
  z31 := Tryz.sizeOf33
  v31 := Tryz.zeroValue33
  t40 := Tryz.underlying93
  a40 := Tryz.isAgg93
  z40 := Tryz.sizeOf93
  v40 := Tryz.zeroValue93
  t152 := Tryz.underlying94
  a152 := Tryz.isAgg94
  z152 := Tryz.sizeOf94
  v152 := Tryz.zeroValue94
  t154 := Tryz.underlying96
  a154 := Tryz.isAgg96
  z154 := Tryz.sizeOf96
  v154 := Tryz.zeroValue96 }
open Go.RowKit Go.Lib in
theorem Tryz.strings_FieldsFunc_runes (g : Nat) (lb : Array Value) (eg : ∀ args w, (callFunc g args).run Tryz.prog w = .ok (.enter g args) w) (p : Nat → Bool) (s : ByteArray) (w : World) (hs : s.size ≤ 4294967296) (hp : PredAtRunes Tryz.prog g lb p w) :
    Calls Tryz.prog 124 #[.string s, .func (.func g) #[] lb] w fun e w' => ∃ A, e = .returned (.slice (some ⟨A, 0, none⟩) (Lib.goFieldsP p s).length (Lib.goFieldsP p s).length) ∧ w.heap.size ≤ A ∧
      w'.ownsRow w.heap.size 9 1 (.slice (some ⟨A, 0, none⟩) (Lib.goFieldsP p s).length (Lib.goFieldsP p s).length) (Lib.goFieldsP p s).length ((Lib.goFieldsP p s).map Value.string) ∧ Below w.heap.size w w' := Any.strings_FieldsFunc_runes Tryz.lays229 g lb eg p s w hs hp (by kernel_rfl) (by kernel_rfl)
open Go.RowKit Go.Lib in
/-- .. over a hand of the authors' house's premise as it stands. (LAID: no walk: one application.) -/
theorem Tryz.strings_FieldsFunc (g : Nat) (lb : Array Value) (eg : ∀ args w, (callFunc g args).run Tryz.prog w = .ok (.enter g args) w) (p : Nat → Bool) (s : ByteArray) (w : World) (hs : s.size ≤ 4294967296) (hp : PredAt Tryz.prog g lb encR p w) :
    Calls Tryz.prog 124 #[.string s, .func (.func g) #[] lb] w fun e w' => ∃ A, e = .returned (.slice (some ⟨A, 0, none⟩) (Lib.goFieldsP p s).length (Lib.goFieldsP p s).length) ∧ w.heap.size ≤ A ∧
      w'.ownsRow w.heap.size 9 1 (.slice (some ⟨A, 0, none⟩) (Lib.goFieldsP p s).length (Lib.goFieldsP p s).length) (Lib.goFieldsP p s).length ((Lib.goFieldsP p s).map Value.string) ∧ Below w.heap.size w w' := Any.strings_FieldsFunc Tryz.lays229 g lb eg p s w hs hp (by kernel_rfl) (by kernel_rfl)
open Go.RowKit Go.Lib in
theorem Tryz.unicode_is16_any (T : Array Rg) (R oR cap : Nat) (z : Nat) (w : World) (hz : z < 65536) (hT : RgTab .u16 R oR T w) (hok : RgOk 65536 T) (hn : T.size ≤ 1000000000) :
    Calls Tryz.prog 127 #[.slice (some ⟨R, oR, none⟩) T.size cap, .int .u16 z] w fun e w' => e = .returned (.bool (is16Go T z)) ∧ ∃ q, w' = w.drewN q := Any.unicode_is16_any Tryz.lays311 T R oR cap z w hz hT hok hn
def Tryz.lays312_ren : Go.Shelf.Ren := ⟨fun | 312 => 128 | n => n, fun | 194 => 101 | 51 => 97 | 4 => 4 | 3 => 3 | 0 => 0 | 227 => 113 | 201 => 109 | 46 => 112 | n => n, fun | n => n⟩
theorem Tryz.lays312 : Go.Proofs.Lays.n312 Tryz.prog Tryz.lays312_ren := {
  mixed := by kernel_rfl
  f312 := Tryz.func128.trans (congrArg some (by kernel_rfl))
  t0 := Tryz.underlying0
  a0 := Tryz.isAgg0
  z0 := Tryz.sizeOf0
  v0 := Tryz.zeroValue0
  t3 := Tryz.underlying3
  a3 := Tryz.isAgg3
  z3 := Tryz.sizeOf3
  v3 := Tryz.zeroValue3
  t4 := Tryz.underlying4
  a4 := Tryz.isAgg4
  z4 := Tryz.sizeOf4
  v4 := Tryz.zeroValue4
  t46 := Tryz.underlying112
  a46 := Tryz.isAgg112
  z46 := Tryz.sizeOf112
  v46 := Tryz.zeroValue112
  t51 := Tryz.underlying97
  a51 := Tryz.isAgg97
  z51 := Tryz.sizeOf97
  v51 := Tryz.zeroValue97
  t194 := Tryz.underlying101
  a194 := Tryz.isAgg101
  z194 := Tryz.sizeOf101
  v194 := Tryz.zeroValue101
  t201 := Tryz.underlying109
  a201 := Tryz.isAgg109
  z201 := Tryz.sizeOf109
  v201 := Tryz.zeroValue109
  t227 := Tryz.underlying113
  a227 := Tryz.isAgg113
  z227 := Tryz.sizeOf113
  v227 := Tryz.zeroValue113 }
open Go.RowKit Go.Lib in
theorem Tryz.unicode_is32_any (T : Array Rg) (R oR cap : Nat) (z : Nat) (w : World) (hz : z < 4294967296) (hT : RgTab .u32 R oR T w) (hok : RgOk 4294967296 T) (hn : T.size ≤ 1000000000) :
    Calls Tryz.prog 128 #[.slice (some ⟨R, oR, none⟩) T.size cap, .int .u32 z] w fun e w' => e = .returned (.bool (is32Go T z)) ∧ Below w.heap.size w w' := Any.unicode_is32_any Tryz.lays312 T R oR cap z w hz hT hok hn
open Go.RowKit Go.Lib in
theorem Tryz.unicode_isExcludingLatin_any (Tb oT : Nat) (T : RTab) (r : Int) (w : World) (hlo : -2147483648 ≤ r) (hhi : r ≤ 2147483647) (hA : RTabAt Tb oT T w) (hok : RTabOk T) :
    Calls Tryz.prog 126 #[.pointer (some ⟨Tb, oT, none⟩), .int .i32 r] w fun e w' => e = .returned (.bool (exclGo T r)) ∧ Below w.heap.size w w' := Any.unicode_isExcludingLatin_any Tryz.lays261 Tb oT T r w hlo hhi hA hok
def Tryz.lays108_ren : Go.Shelf.Ren := ⟨fun | 108 => 110 | n => n, fun | 28 => 78 | 3 => 3 | 0 => 0 | 4 => 4 | n => n, fun | n => n⟩
theorem Tryz.lays108 : Go.Proofs.Lays.n108 Tryz.prog Tryz.lays108_ren := {
  mixed := by kernel_rfl
  f108 := Tryz.func110.trans (congrArg some (by kernel_rfl))
  t0 := Tryz.underlying0
  a0 := Tryz.isAgg0
  z0 := Tryz.sizeOf0
  v0 := Tryz.zeroValue0
  t3 := Tryz.underlying3
  a3 := Tryz.isAgg3
  z3 := Tryz.sizeOf3
  v3 := Tryz.zeroValue3
  t4 := Tryz.underlying4
  a4 := Tryz.isAgg4
  z4 := Tryz.sizeOf4
  v4 := Tryz.zeroValue4
  t28 := Tryz.underlying78
  a28 := Tryz.isAgg78
  z28 := Tryz.sizeOf78
  v28 := Tryz.zeroValue78 }
open Go.Lib in
/-- slices.Index at []int: "Index returns the index of the first occurrence of v in s, or -1 if not present.": IT RETURNS 'Lib.idxOf (the elements) v'; the world is as it was. 'zs': what the cells behind the slice's address hold (its spare capacity too, if you have it); 'zs.take n': its elements. (LAID: no walk: one application.) -/
theorem Tryz.slices_Index_int (b off n c : Nat) (zs : List Int) (x : Int) (w : World) (hz : n ≤ zs.length) (hbig : n ≤ 9223372036854775807) (hc : ∀ j, j < zs.length → w.cell? ⟨b, off + j, none⟩ = some (.int .i64 (zs.getD j 0))) :
    Calls Tryz.prog 110 #[.slice (some ⟨b, off, none⟩) n c, .int .i64 x] w fun e w' => e = .returned (.int .i64 (Lib.idxOf (zs.take n) x)) ∧ w' = w := Any.slices_Index_int Tryz.lays108 b off n c zs x w hz hbig hc
open Go.Lib in
/-- The same at a slice of length 0, a nil one too: no cell is known, none is asked for. (LAID: no walk: one application.) -/
theorem Tryz.slices_Index_int_empty (a : Option Addr) (c : Nat) (x : Int) (w : World) :
    Calls Tryz.prog 110 #[.slice a 0 c, .int .i64 x] w fun e w' => e = .returned (.int .i64 (Lib.idxOf [] x)) ∧ w' = w := Any.slices_Index_int_empty Tryz.lays108 a c x w
def Tryz.lays107_ren : Go.Shelf.Ren := ⟨fun | 107 => 85 | 108 => 110 | n => n, fun | 28 => 78 | 3 => 3 | 4 => 4 | 0 => 0 | n => n, fun | n => n⟩
theorem Tryz.lays107 : Go.Proofs.Lays.n107 Tryz.prog Tryz.lays107_ren := {
  mixed := by kernel_rfl
  f107 := Tryz.func85.trans (congrArg some (by kernel_rfl))
  f108 := Tryz.func110.trans (congrArg some (by kernel_rfl))
  t0 := Tryz.underlying0
  a0 := Tryz.isAgg0
  z0 := Tryz.sizeOf0
  v0 := Tryz.zeroValue0
  t3 := Tryz.underlying3
  a3 := Tryz.isAgg3
  z3 := Tryz.sizeOf3
  v3 := Tryz.zeroValue3
  t4 := Tryz.underlying4
  a4 := Tryz.isAgg4
  z4 := Tryz.sizeOf4
  v4 := Tryz.zeroValue4
  t28 := Tryz.underlying78
  a28 := Tryz.isAgg78
  z28 := Tryz.sizeOf78
  v28 := Tryz.zeroValue78 }
open Go.Lib in
/-- slices.Contains at []int: "Contains reports whether v is present in s.": IT RETURNS 'elements.contains v'; the world is as it was. ITS CALLEE slices.Index IS MET BY ITS OWN CONTRACT OFF THE SHELF (lay that first): no loop is walked here. (LAID: no walk: one application.) -/
theorem Tryz.slices_Contains_int (b off n c : Nat) (zs : List Int) (x : Int) (w : World) (hz : n ≤ zs.length) (hbig : n ≤ 9223372036854775807) (hc : ∀ j, j < zs.length → w.cell? ⟨b, off + j, none⟩ = some (.int .i64 (zs.getD j 0))) :
    Calls Tryz.prog 85 #[.slice (some ⟨b, off, none⟩) n c, .int .i64 x] w fun e w' => e = .returned (.bool ((zs.take n).contains x)) ∧ w' = w := Any.slices_Contains_int Tryz.lays107 b off n c zs x w hz hbig hc
open Go.Lib in
/-- The same at a slice of length 0, a nil one too. (LAID: no walk: one application.) -/
theorem Tryz.slices_Contains_int_empty (a : Option Addr) (c : Nat) (x : Int) (w : World) :
    Calls Tryz.prog 85 #[.slice a 0 c, .int .i64 x] w fun e w' => e = .returned (.bool false) ∧ w' = w := Any.slices_Contains_int_empty Tryz.lays107 a c x w
def Tryz.lays109_ren : Go.Shelf.Ren := ⟨fun | 109 => 120 | n => n, fun | 31 => 33 | 9 => 9 | 3 => 3 | 0 => 0 | 4 => 4 | n => n, fun | n => n⟩
theorem Tryz.lays109 : Go.Proofs.Lays.n109 Tryz.prog Tryz.lays109_ren := {
  mixed := by kernel_rfl
  f109 := Tryz.func120.trans (congrArg some (by kernel_rfl))
  t0 := Tryz.underlying0
  a0 := Tryz.isAgg0
  z0 := Tryz.sizeOf0
  v0 := Tryz.zeroValue0
  t3 := Tryz.underlying3
  a3 := Tryz.isAgg3
  z3 := Tryz.sizeOf3
  v3 := Tryz.zeroValue3
  t4 := Tryz.underlying4
  a4 := Tryz.isAgg4
  z4 := Tryz.sizeOf4
  v4 := Tryz.zeroValue4
  t9 := Tryz.underlying9
  a9 := Tryz.isAgg9
  z9 := Tryz.sizeOf9
  v9 := Tryz.zeroValue9
  t31 := Tryz.underlying33
  a31 := Tryz.isAgg33
  z31 := Tryz.sizeOf33
  v31 := Tryz.zeroValue33 }
open Go.Lib in
/-- slices.Index at []string: "Index returns the index of the first occurrence of v in s, or -1 if not present.": IT RETURNS 'Lib.idxOfS (the elements) v'; the world is as it was. 'zs': what the cells behind the slice's address hold (its spare capacity too, if you have it); 'zs.take n': its elements. (LAID: no walk: one application.) -/
theorem Tryz.slices_Index_string (b off n c : Nat) (zs : List ByteArray) (x : ByteArray) (w : World) (hz : n ≤ zs.length) (hbig : n ≤ 9223372036854775807) (hc : ∀ j, j < zs.length → w.cell? ⟨b, off + j, none⟩ = some (.string (zs.getD j ByteArray.empty))) :
    Calls Tryz.prog 120 #[.slice (some ⟨b, off, none⟩) n c, .string x] w fun e w' => e = .returned (.int .i64 (Lib.idxOfS (zs.take n) x)) ∧ w' = w := Any.slices_Index_string Tryz.lays109 b off n c zs x w hz hbig hc
open Go.Lib in
/-- The same at a slice of length 0, a nil one too: no cell is known, none is asked for. (LAID: no walk: one application.) -/
theorem Tryz.slices_Index_string_empty (a : Option Addr) (c : Nat) (x : ByteArray) (w : World) :
    Calls Tryz.prog 120 #[.slice a 0 c, .string x] w fun e w' => e = .returned (.int .i64 (Lib.idxOfS [] x)) ∧ w' = w := Any.slices_Index_string_empty Tryz.lays109 a c x w
def Tryz.lays110_ren : Go.Shelf.Ren := ⟨fun | 110 => 115 | 109 => 120 | n => n, fun | 31 => 33 | 9 => 9 | 4 => 4 | 3 => 3 | 0 => 0 | n => n, fun | n => n⟩
theorem Tryz.lays110 : Go.Proofs.Lays.n110 Tryz.prog Tryz.lays110_ren := {
  mixed := by kernel_rfl
  f109 := Tryz.func120.trans (congrArg some (by kernel_rfl))
  f110 := Tryz.func115.trans (congrArg some (by kernel_rfl))
  t0 := Tryz.underlying0
  a0 := Tryz.isAgg0
  z0 := Tryz.sizeOf0
  v0 := Tryz.zeroValue0
  t3 := Tryz.underlying3
  a3 := Tryz.isAgg3
  z3 := Tryz.sizeOf3
  v3 := Tryz.zeroValue3
  t4 := Tryz.underlying4
  a4 := Tryz.isAgg4
  z4 := Tryz.sizeOf4
  v4 := Tryz.zeroValue4
  t9 := Tryz.underlying9
  a9 := Tryz.isAgg9
  z9 := Tryz.sizeOf9
  v9 := Tryz.zeroValue9
  t31 := Tryz.underlying33
  a31 := Tryz.isAgg33
  z31 := Tryz.sizeOf33
  v31 := Tryz.zeroValue33 }
open Go.Lib in
/-- slices.Contains at []string: "Contains reports whether v is present in s.": IT RETURNS 'Lib.containsS (the elements) v', which is true just where v is among them ('Lib.containsS_iff'); the world is as it was. ITS CALLEE slices.Index IS MET BY ITS OWN CONTRACT OFF THE SHELF (lay that first): no loop is walked here. (LAID: no walk: one application.) -/
theorem Tryz.slices_Contains_string (b off n c : Nat) (zs : List ByteArray) (x : ByteArray) (w : World) (hz : n ≤ zs.length) (hbig : n ≤ 9223372036854775807) (hc : ∀ j, j < zs.length → w.cell? ⟨b, off + j, none⟩ = some (.string (zs.getD j ByteArray.empty))) :
    Calls Tryz.prog 115 #[.slice (some ⟨b, off, none⟩) n c, .string x] w fun e w' => e = .returned (.bool (Lib.containsS (zs.take n) x)) ∧ w' = w := Any.slices_Contains_string Tryz.lays110 b off n c zs x w hz hbig hc
open Go.Lib in
/-- The same at a slice of length 0, a nil one too. (LAID: no walk: one application.) -/
theorem Tryz.slices_Contains_string_empty (a : Option Addr) (c : Nat) (x : ByteArray) (w : World) :
    Calls Tryz.prog 115 #[.slice a 0 c, .string x] w fun e w' => e = .returned (.bool false) ∧ w' = w := Any.slices_Contains_string_empty Tryz.lays110 a c x w
end Go.Proofs
/-
  The machine of layer 28 (jscript) in plain Lean.
-/
set_option linter.unusedSimpArgs false
set_option linter.unusedVariables false
namespace Tg.Js

abbrev w64 (n : Int) : Int := Go.IntKind.i64.wrap n
theorem w64_in {n : Int} (h1 : -9223372036854775808 ≤ n) (h2 : n ≤ 9223372036854775807) : w64 n = n := Go.IntWalk.i64_in _ ⟨h1, h2⟩
structure M where
  depth : Int
  stack : List UInt8
  at_ : Int
  by_ : UInt8
  taken : Bool
  said : List UInt8
  last : Int
  broken : Bool
  bad : Bool
  place : Int
  pieces : Int
  ends : Int
  seen : Int
deriving DecidableEq

def letter (b : UInt8) : Bool := decide (97 ≤ (b.toNat : Int)) && decide ((b.toNat : Int) ≤ 122) || decide (65 ≤ (b.toNat : Int)) && decide ((b.toNat : Int) ≤ 90)
def digit (b : UInt8) : Bool := decide (48 ≤ (b.toNat : Int)) && decide ((b.toNat : Int) ≤ 57)
def feedB (b : UInt8) : Bool := decide (b = 10) || decide (b = 13)
def white (b : UInt8) : Bool := decide (b = 32) || decide (9 ≤ (b.toNat : Int)) && decide ((b.toNat : Int) ≤ 13)
def inner (b : UInt8) : Bool := letter b || digit b || decide (b = 95) || decide (b = 36) || decide (128 ≤ (b.toNat : Int))
def w (s : String) : List UInt8 := s.toUTF8.data.toList
def keywords : List (List UInt8) := ["await", "break", "case", "catch", "class", "const", "continue", "default", "delete", "do", "else", "export", "extends", "finally", "for", "from", "function", "get", "if", "import", "in", "instanceof", "let", "new", "of", "return", "set", "static", "switch", "throw", "try", "typeof", "var", "void", "while", "with", "yield", "async", "as"].map w
def isKeyword (s : List UInt8) : Bool := keywords.contains s
def signs : List UInt8 := w "{}()[];,<>=!+-*/%&|^~?:."

namespace M
variable (m : M) (b : UInt8)
def fail : M := { m with bad := true, place := m.seen }
def piece : M := { m with pieces := w64 (m.pieces + 1) }
def joined : Bool := m.last == 1 && !m.broken
def ended (last : Int) : M := { m with at_ := 0, last := last, broken := false }
def push : M := if (m.stack.length : Int) = m.depth then m.fail else { m with stack := m.stack ++ [b] }.ended 0
def pair : UInt8 := if b = 41 then 40 else if b = 93 then 91 else 123
/-- the last sign that is open -/
def top : Option UInt8 := m.stack.getLast?
def pop : M :=
  match m.stack.getLast? with
  | none => m.fail
  | some t =>
    if b = 125 ∧ t = 96 then { m with stack := m.stack.dropLast, at_ := 4, by_ := 96 }
    else if t = pair b then
      let m' : M := { m with stack := m.stack.dropLast }
      if b ≠ 125 then m'.ended 1
      else
        let m2 := m'.ended 2
        if m.stack.length = 1 then { m2 with ends := w64 (m2.ends + 1) } else m2
    else m.fail
def sign : M :=
  let p := m.piece
  if b = 40 ∨ b = 91 ∨ b = 123 then p.push b
  else if b = 41 ∨ b = 93 ∨ b = 125 then p.pop b
  else if b = 59 then
    let q := p.ended 0
    if q.stack = [] then { q with ends := w64 (q.ends + 1) } else q
  else p.ended 0
def begin : M :=
  if feedB b then { m with broken := true }
  else if white b then m
  else if inner b then
    if m.joined then m.fail
    else { m.piece with at_ := if digit b then 2 else 1, said := [b] }
  else if b = 34 ∨ b = 39 then
    if m.joined then m.fail else { m.piece with at_ := 3, by_ := b }
  else if b = 96 then { m.piece with at_ := 4, by_ := b }
  else if b = 47 then { m with at_ := 9 }
  else if b = 60 ∧ m.pieces = 0 then { m with at_ := 13 }
  else if signs.contains b then m.sign b
  else m.fail
def inWord : M :=
  if inner b ∨ m.at_ = 2 ∧ b = 46 then (if (m.said.length : Int) ≤ 10 then { m with said := m.said ++ [b] } else m)
  else if m.at_ = 1 ∧ isKeyword m.said then (m.ended 3).begin b
  else (m.ended 1).begin b
def inText : M :=
  if m.taken then { m with taken := false }
  else if m.at_ ≠ 4 ∧ feedB b then m.fail
  else if b = 92 then { m with taken := true }
  else if m.at_ = 7 then (if b = 93 then { m with at_ := 6 } else m)
  else if m.at_ = 6 ∧ b = 91 then { m with at_ := 7 }
  else if m.at_ = 4 ∧ b = 36 then { m with at_ := 5 }
  else if b = m.by_ ∧ m.at_ = 6 then { m with at_ := 8 }
  else if b = m.by_ then m.ended 1
  else m
def inDollar : M :=
  let p : M := { m with at_ := 4 }
  if b = 123 then p.push 96 else p.inText b
def inSlash : M :=
  if b = 47 then { m with at_ := 10 }
  else if b = 42 then { m with at_ := 11 }
  else if m.last = 1 ∨ m.last = 2 then (m.sign 47).begin b
  else { m.piece with at_ := 6, by_ := 47 }.inText b
def inRemark : M :=
  let p : M := { m with broken := m.broken || feedB b }
  if m.at_ = 10 ∧ feedB b then { p with at_ := 0 }
  else if m.at_ = 12 ∧ b = 47 then { p with at_ := 0 }
  else if m.at_ ≠ 10 ∧ b = 42 then { p with at_ := 12 }
  else if m.at_ = 12 then { p with at_ := 11 }
  else p
def inLess : M :=
  if m.at_ = 13 ∧ b = 33 then { m with at_ := 14 }
  else if m.at_ = 14 ∧ b = 45 then { m with at_ := 15 }
  else if m.at_ = 15 ∧ b = 45 then { m with at_ := 10 }
  else m.fail
def byte : M :=
  if m.at_ = 0 then m.begin b
  else if m.at_ = 1 ∨ m.at_ = 2 ∨ m.at_ = 8 then m.inWord b
  else if m.at_ = 5 then m.inDollar b
  else if m.at_ = 9 then m.inSlash b
  else if m.at_ = 10 ∨ m.at_ = 11 ∨ m.at_ = 12 then m.inRemark b
  else if m.at_ = 13 ∨ m.at_ = 14 ∨ m.at_ = 15 then m.inLess b
  else m.inText b
def tell : Int :=
  if m.bad then 0
  else if m.stack = [] ∧ (m.at_ = 0 ∨ m.at_ = 1 ∨ m.at_ = 2 ∨ m.at_ = 8 ∨ m.at_ = 10) then 2
  else 1
/-- one byte of a piece -/
def step : M := let p := if m.bad then m else m.byte b
  { p with seen := w64 (p.seen + 1) }
def feed (m : M) (s : List UInt8) : M := s.foldl step m
end M
def new (depth : Int) : M := { depth := depth, stack := [], at_ := 0, by_ := 0, taken := false, said := [], last := 0, broken := false, bad := false, place := -1, pieces := 0, ends := 0, seen := 0 }
theorem lives1 : ((new 5).feed (w "var x = 1;")).tell = 2 ∧ ((new 5).feed (w "var x = 1;")).ends = 1 := by decide +kernel
theorem lives2 : ((new 5).feed (w "Hello world")).tell = 0 ∧ ((new 5).feed (w "Hello world")).place = 6 := by decide +kernel

/-! ### what stays -/
namespace M
theorem feed_append (m : M) (s t : List UInt8) : m.feed (s ++ t) = (m.feed s).feed t := by simp [feed]
/-- what a byte may do -/
structure Nx (c : Nat) (m m' : M) : Prop where
  seen : m'.seen = m.seen
  isBad : m'.bad = true → m'.place = m.seen ∨ m.bad = true ∧ m'.place = m.place
  good : m'.bad = false → m'.place = m.place ∧ m.bad = false
  ends : 0 ≤ m.ends → m.ends ≤ 4611686018427387904 → m.ends ≤ m'.ends ∧ m'.ends ≤ m.ends + c
theorem Nx.trans {c d e : Nat} {m m1 m2 : M} (h : Nx c m m1) (k : Nx d m1 m2) (hc : c ≤ 1) (he : c + d ≤ e) (hm : m1.ends ≤ 4611686018427387904 ∨ c = 0) : Nx e m m2 := by
  refine ⟨k.seen.trans h.seen, fun hb => ?_, fun hb => ?_, fun h0 h1 => ?_⟩
  · rcases k.isBad hb with k1 | ⟨k1, k2⟩
    · exact .inl (k1.trans h.seen)
    · rcases h.isBad k1 with h1 | ⟨h1, h2⟩
      · exact .inl (k2.trans h1)
      · exact .inr ⟨h1, k2.trans h2⟩
  · obtain ⟨k1, k2⟩ := k.good hb
    obtain ⟨h1, h2⟩ := h.good k2
    exact ⟨k1.trans h1, h2⟩
  · obtain ⟨a1, a2⟩ := h.ends h0 h1
    obtain ⟨b1, b2⟩ := k.ends (by omega) (by omega)
    omega
theorem Nx.same {c : Nat} {m m' : M} (h1 : m'.seen = m.seen) (h2 : m'.bad = m.bad) (h3 : m'.place = m.place) (h4 : m'.ends = m.ends) : Nx c m m' :=
  ⟨h1, fun h => .inr ⟨h2 ▸ h, h3⟩, fun h => ⟨h3, h2 ▸ h⟩, fun _ _ => by omega⟩
theorem Nx.fail {c : Nat} (m : M) : Nx c m m.fail := ⟨rfl, fun _ => .inl rfl, (fun h => by simp [M.fail] at h), fun _ _ => by simp only [M.fail]; omega⟩
theorem Nx.inc {m m' : M} (h1 : m'.seen = m.seen) (h2 : m'.bad = m.bad) (h3 : m'.place = m.place) (h4 : m'.ends = w64 (m.ends + 1)) : Nx 1 m m' :=
  ⟨h1, fun h => .inr ⟨h2 ▸ h, h3⟩, fun h => ⟨h3, h2 ▸ h⟩, fun h0 h5 => by rw [h4, w64_in (by omega) (by omega)]; omega⟩
theorem push_nx (m : M) (b : UInt8) : Nx 0 m (m.push b) := by
  unfold push
  split
  · exact Nx.fail m
  · exact Nx.same rfl rfl rfl rfl
theorem pop_nx (m : M) (b : UInt8) : Nx 1 m (m.pop b) := by
  unfold pop
  split
  · exact Nx.fail m
  · split
    · exact Nx.same rfl rfl rfl rfl
    · split
      · dsimp only
        split
        · exact Nx.same rfl rfl rfl rfl
        · split
          · exact Nx.inc rfl rfl rfl rfl
          · exact Nx.same rfl rfl rfl rfl
      · exact Nx.fail m
theorem sign_nx (m : M) (b : UInt8) : Nx 1 m (m.sign b) := by
  have hp : Nx 0 m m.piece := Nx.same rfl rfl rfl rfl
  unfold sign
  dsimp only
  split
  · exact hp.trans (push_nx _ b) (by omega) (by omega) (.inr rfl)
  · split
    · exact hp.trans (pop_nx _ b) (by omega) (by omega) (.inr rfl)
    · split
      · split
        · exact Nx.inc rfl rfl rfl rfl
        · exact Nx.same rfl rfl rfl rfl
      · exact Nx.same rfl rfl rfl rfl
theorem sign47 (m : M) : Nx 0 m (m.sign 47) := by
  unfold sign
  simp only [show ¬((47 : UInt8) = 40 ∨ (47 : UInt8) = 91 ∨ (47 : UInt8) = 123) by decide, show ¬((47 : UInt8) = 41 ∨ (47 : UInt8) = 93 ∨ (47 : UInt8) = 125) by decide, show ¬((47 : UInt8) = 59) by decide, if_false]
  exact Nx.same rfl rfl rfl rfl
theorem begin_nx (m : M) (b : UInt8) : Nx 1 m (m.begin b) := by
  unfold begin
  repeat' split
  all_goals first | exact Nx.fail m | exact sign_nx m b | exact Nx.same rfl rfl rfl rfl
theorem inText_nx (m : M) (b : UInt8) : Nx 1 m (m.inText b) := by
  unfold inText
  repeat' split
  all_goals first | exact Nx.fail m | exact Nx.same rfl rfl rfl rfl
theorem byte_nx (m : M) (b : UInt8) : Nx 1 m (m.byte b) := by
  unfold byte
  split
  · exact begin_nx m b
  split
  · unfold inWord
    split
    · split <;> exact Nx.same rfl rfl rfl rfl
    · split
      · exact (Nx.same (c := 0) (m := m) (m' := m.ended 3) rfl rfl rfl rfl).trans (begin_nx _ b) (by omega) (by omega) (.inr rfl)
      · exact (Nx.same (c := 0) (m := m) (m' := m.ended 1) rfl rfl rfl rfl).trans (begin_nx _ b) (by omega) (by omega) (.inr rfl)
  split
  · unfold inDollar
    dsimp only
    split
    · exact (Nx.same (c := 0) (m := m) (m' := { m with at_ := 4 }) rfl rfl rfl rfl).trans (push_nx _ 96) (by omega) (by omega) (.inr rfl)
    · exact (Nx.same (c := 0) (m := m) (m' := { m with at_ := 4 }) rfl rfl rfl rfl).trans (inText_nx _ b) (by omega) (by omega) (.inr rfl)
  split
  · unfold inSlash
    split
    · exact Nx.same rfl rfl rfl rfl
    split
    · exact Nx.same rfl rfl rfl rfl
    split
    · exact (sign47 m).trans (begin_nx _ b) (by omega) (by omega) (.inr rfl)
    · exact (Nx.same (c := 0) (m := m) (m' := { m.piece with at_ := 6, by_ := 47 }) rfl rfl rfl rfl).trans (inText_nx _ b) (by omega) (by omega) (.inr rfl)
  split
  · unfold inRemark
    dsimp only
    repeat' split
    all_goals exact Nx.same rfl rfl rfl rfl
  split
  · unfold inLess
    repeat' split
    all_goals first | exact Nx.fail m | exact Nx.same rfl rfl rfl rfl
  · exact inText_nx m b
/-- behind n bytes -/
structure Inv (n : Nat) (m : M) : Prop where
  seen : m.seen = n
  isBad : m.bad = true → 0 ≤ m.place ∧ m.place < n
  good : m.bad = false → m.place = -1
  e0 : 0 ≤ m.ends
  e1 : m.ends ≤ n
theorem step_bad (m : M) (b : UInt8) (h : m.bad = true) : m.step b = { m with seen := w64 (m.seen + 1) } := by
  unfold step; simp [h]
theorem step_good (m : M) (b : UInt8) (h : m.bad = false) : m.step b = { m.byte b with seen := w64 ((m.byte b).seen + 1) } := by
  unfold step; simp [h]
theorem step_inv {n : Nat} {m : M} (h : Inv n m) (hn : n < 1152921504606846976) (b : UInt8) : Inv (n + 1) (m.step b) ∧ m.ends ≤ (m.step b).ends ∧ (m.bad = true → (m.step b).bad = true ∧ (m.step b).place = m.place ∧ (m.step b).ends = m.ends) ∧ (m.bad = false → (m.step b).bad = true → (n : Int) ≤ (m.step b).place) := by
  have hs := h.seen
  have e0 := h.e0
  have e1 := h.e1
  cases hb : m.bad with
  | true =>
    rw [step_bad m b hb]
    obtain ⟨p1, p2⟩ := h.isBad hb
    refine ⟨⟨?_, fun _ => ⟨p1, ?_⟩, fun h2 => ?_, e0, ?_⟩, Int.le_refl _, fun _ => ⟨hb, rfl, rfl⟩, fun h2 => by cases h2⟩
    · show w64 (m.seen + 1) = _
      rw [hs, w64_in (by omega) (by omega)]; omega
    · show m.place < _; omega
    · have : m.bad = false := h2
      rw [hb] at this; cases this
    · show m.ends ≤ _; omega
  | false =>
    rw [step_good m b hb]
    have hx := byte_nx m b
    obtain ⟨g1, g2⟩ := hx.ends e0 (by omega)
    refine ⟨⟨?_, fun h2 => ?_, fun h2 => ?_, ?_, ?_⟩, g1, (fun h2 => by cases h2), fun _ h2 => ?_⟩
    · show w64 ((m.byte b).seen + 1) = _
      rw [hx.seen, hs, w64_in (by omega) (by omega)]; omega
    · show 0 ≤ (m.byte b).place ∧ (m.byte b).place < _
      rcases hx.isBad h2 with h3 | ⟨h3, _⟩
      · rw [h3, hs]; omega
      · rw [hb] at h3; cases h3
    · show (m.byte b).place = -1
      rw [(hx.good h2).1]; exact h.good hb
    · show 0 ≤ (m.byte b).ends; omega
    · show (m.byte b).ends ≤ _; omega
    · show _ ≤ (m.byte b).place
      rcases hx.isBad h2 with h3 | ⟨h3, _⟩
      · rw [h3, hs]; omega
      · rw [hb] at h3; cases h3
theorem feed_inv : ∀ (t : List UInt8) (n : Nat) (m : M), Inv n m → n + t.length ≤ 1152921504606846976 → Inv (n + t.length) (m.feed t) ∧ m.ends ≤ (m.feed t).ends ∧ (m.bad = true → (m.feed t).bad = true ∧ (m.feed t).place = m.place ∧ (m.feed t).ends = m.ends) ∧ (m.bad = false → (m.feed t).bad = true → (n : Int) ≤ (m.feed t).place)
  | [], n, m, h, _ => ⟨h, Int.le_refl _, fun h => ⟨h, rfl, rfl⟩, fun h1 h2 => by
      have : m.bad = true := h2
      rw [h1] at this; cases this⟩
  | b :: t, n, m, h, hn => by
    have hl : (b :: t).length = t.length + 1 := rfl
    obtain ⟨h1, h2, h3, h4⟩ := step_inv h (by omega) b
    obtain ⟨g1, g2, g3, g4⟩ := feed_inv t (n + 1) (m.step b) h1 (by omega)
    have e : m.feed (b :: t) = (m.step b).feed t := rfl
    rw [e]
    refine ⟨by rw [hl, show n + (t.length + 1) = n + 1 + t.length by omega]; exact g1, Int.le_trans h2 g2, fun hb => ?_, fun hb hb2 => ?_⟩
    · obtain ⟨a1, a2, a3⟩ := h3 hb
      obtain ⟨b1, b2, b3⟩ := g3 a1
      exact ⟨b1, b2.trans a2, b3.trans a3⟩
    · cases hs : (m.step b).bad with
      | true =>
        have := h4 hb hs
        rw [(g3 hs).2.1]; exact this
      | false =>
        have := g4 hs hb2
        omega
theorem new_inv (d : Int) : Inv 0 (new d) := ⟨rfl, (fun h => by cases h), fun _ => rfl, Int.le_refl 0, Int.le_refl 0⟩
theorem tell_bad {m : M} : m.tell = 0 ↔ m.bad = true := by
  unfold tell
  cases m.bad <;> simp
  split <;> decide
/-- the law -/
theorem stays (d : Int) (s t : List UInt8) (hs : s.length ≤ 1000) (ht : t.length ≤ 1000) :
    let m := (new d).feed s
    let m' := (new d).feed (s ++ t)
    (m.tell = 0 → m'.tell = 0 ∧ m'.place = m.place ∧ m'.ends = m.ends ∧ 0 ≤ m.place ∧ m.place < s.length) ∧
    (m.tell ≠ 0 → m.place = -1 ∧ (m'.place = -1 ∨ (s.length : Int) ≤ m'.place) ∧ m.ends ≤ m'.ends) := by
  dsimp only
  obtain ⟨i1, _, _, _⟩ := feed_inv s 0 (new d) (new_inv d) (by omega)
  rw [Nat.zero_add] at i1
  obtain ⟨j1, j2, j3, j4⟩ := feed_inv t s.length ((new d).feed s) i1 (by omega)
  rw [feed_append]
  constructor
  · intro h
    have hb := tell_bad.1 h
    obtain ⟨a1, a2, a3⟩ := j3 hb
    exact ⟨tell_bad.2 a1, a2, a3, i1.isBad hb⟩
  · intro h
    have hb : ((new d).feed s).bad = false := by
      cases hq : ((new d).feed s).bad with
      | true => exact absurd (tell_bad.2 hq) h
      | false => rfl
    refine ⟨i1.good hb, ?_, j2⟩
    cases hq : (((new d).feed s).feed t).bad with
    | true => exact .inr (j4 hb hq)
    | false => exact .inl (j1.good hq)
end M
end Tg.Js
/-
  A logical run of Go code: rows of cells that grow and shrink.
-/
set_option linter.unusedSimpArgs false
set_option linter.unusedVariables false
namespace Go.Lg
open Go.Tg Go.RowKit

section
variable {P : Program} {H H' : LH} {v x : Value} {xs : List Value} {e t : TypeId} {N : Nat} {b : LB}
/-- v is a row of the cells xs, in a block behind N -/
def Row (N : Nat) (H : LH) (e : TypeId) (v : Value) (xs : List Value) : Prop :=
  (v = .slice none 0 0 ∧ xs = []) ∨ ∃ k c rest, v = sl k xs.length c ∧ N ≤ k ∧ H.get k = some ⟨xs ++ rest, e, true⟩ ∧ c = xs.length + rest.length
/-- blocks that are no row's -/
def offRow (v : Value) (k : Nat) : Prop := ∀ n c, v ≠ sl k n c
theorem Row.nil : Row N H e (.slice none 0 0) [] := .inl ⟨rfl, rfl⟩
theorem Row.len (h : Row N H e v xs) (hu : P.underlying t = some (.slice e)) : lbuiltin P .len [t] [v] H' = some (.int .i64 xs.length, H') := by
  rcases h with ⟨rfl, rfl⟩ | ⟨k, c, rest, rfl, _⟩
  · exact lbuiltin_len_slice hu
  · exact lbuiltin_len_slice hu
theorem Row.cell (h : Row N H e v xs) : cellB v = true := by
  rcases h with ⟨rfl, rfl⟩ | ⟨k, c, rest, rfl, _⟩ <;> simp
theorem Row.keep (h : Row N H e v xs) (hk : ∀ k, N ≤ k → ¬ offRow v k → H'.get k = H.get k) : Row N H' e v xs := by
  rcases h with ⟨rfl, rfl⟩ | ⟨k, c, rest, rfl, h1, h2, h3⟩
  · exact .inl ⟨rfl, rfl⟩
  · exact .inr ⟨k, c, rest, rfl, h1, by rw [hk k h1 (fun h => h _ _ rfl)]; exact h2, h3⟩
theorem Row.off_of_elem (h : Row N H e v xs) {l : Nat} (hl : H.get l = some b) (hne : b.elem ≠ e) : offRow v l := by
  rcases h with ⟨rfl, rfl⟩ | ⟨k, c, rest, rfl, h1, h2, h3⟩
  · intro n c h; cases h
  · intro n c h
    injection h with h
    injection h with h
    injection h with h
    subst h
    rw [h2] at hl
    injection hl with hl
    subst hl
    exact hne rfl
theorem off_nil {k : Nat} : offRow (.slice none 0 0) k := fun n c h => by cases h
/-- one element more -/
theorem Row.push (h : Row N H e v xs) (hu : P.underlying t = some (.slice e)) (hs : lesz P e = some 1) (hx : cellB x = true) (hm : xs.length + 1 ≤ maxElems) (hN : N ≤ H.n) (hdom : ∀ l, H.n ≤ l → H.get l = none) :
    ∃ v' H', lapp P t v (some (1, [x])) H = some (v', H') ∧ Row N H' e v' (xs ++ [x]) ∧ H.n ≤ H'.n ∧ (∀ k, k < H.n → offRow v k → H'.get k = H.get k) ∧ (∀ k, k < H.n → offRow v k → offRow v' k) ∧ (∀ l, H'.n ≤ l → H'.get l = none) ∧ H'.base = H.base ∧ H'.ng = H.ng := by
  have hc : [x].all cellB = true := by simp [hx]
  rcases h with ⟨rfl, rfl⟩ | ⟨k, c, rest, rfl, h1, h2, h3⟩
  · refine ⟨_, _, lapp_nil hu hs hc (by omega) (by simp [maxElems]), .inr ⟨H.n, 1, [], rfl, hN, by simp, rfl⟩, by simp, fun k hk _ => get_new_ne (by omega), fun k hk _ n c h => ?_, fun l hl => ?_, rfl, rfl⟩
    · injection h with h
      injection h with h
      injection h with h
      omega
    · have : H.n + 1 ≤ l := hl
      rw [get_new_ne (by omega)]; exact hdom l (by omega)
  · have hklt : k < H.n := by
      rcases Nat.lt_or_ge k H.n with h | h
      · exact h
      · rw [hdom k h] at h2; cases h2
    cases rest with
    | nil =>
      simp only [List.length_nil, Nat.add_zero] at h3
      subst h3
      have ha := lapp_grow (P := P) (H := H) (t := t) (m := 1) (new := [x]) (n := xs.length) (s := 1) hu hs hc (by omega) hm h2 rfl rfl (by simp)
      simp only [List.append_nil] at ha h2
      refine ⟨_, _, ha, .inr ⟨H.n, xs.length + 1, [], by simp, hN, ?_, by simp⟩, by simp, fun j hj ho => ?_, fun j hj ho n c h => ?_, fun l hl => ?_, rfl, rfl⟩
      · rw [show H.n = (H.kill k).n from rfl, get_new]; simp
      · have hjk : j ≠ k := fun e => ho _ _ (by rw [e])
        rw [get_new_ne (by simp; omega), get_kill_ne hjk]
      · injection h with h
        injection h with h
        injection h with h
        omega
      · have : H.n + 1 ≤ l := hl
        rw [get_new_ne (by simp; omega), get_kill_ne (by omega)]; exact hdom l (by omega)
    | cons z rest =>
      have ha := lapp_in (P := P) (H := H) (t := t) (m := 1) (new := [x]) (n := xs.length) (cp := c) (s := 1) hu hs hc (by omega) h2 rfl rfl (by simp [h3]) (by simp [h3])
      refine ⟨_, _, ha, .inr ⟨k, c, rest, by simp, h1, ?_, by simp [h3]; omega⟩, by simp, fun j hj ho => ?_, fun j hj ho n c' h => ?_, fun l hl => ?_, rfl, rfl⟩
      · rw [get_set]
        congr 2
        simp [splice]
      · have hjk : j ≠ k := fun e => ho _ _ (by rw [e])
        rw [get_set_ne hjk]
      · injection h with h
        injection h with h
        injection h with h
        subst h
        exact ho _ _ rfl
      · have : H.n ≤ l := hl
        rw [get_set_ne (by omega)]; exact hdom l this
/-- fewer elements -/
theorem Row.take (h : Row N H e v xs) (hu : P.underlying t = some (.slice e)) (hs : sz P e = some 1) {j : Int} {kd : IntKind} (h0 : 0 ≤ j) (h1 : j < xs.length) : ∃ v', lpart P t v none (some (.int kd j)) = some v' ∧ Row N H e v' (xs.take j.toNat) ∧ ∀ k, offRow v k → offRow v' k := by
  rcases h with ⟨rfl, rfl⟩ | ⟨k, c, rest, rfl, g1, g2, g3⟩
  · simp at h1; omega
  · refine ⟨_, lpart_row_ns hu hs h0 (by omega), .inr ⟨k, c, xs.drop j.toNat ++ rest, ?_, g1, ?_, ?_⟩, fun i hi n c' h => ?_⟩
    · rw [List.length_take, Nat.min_eq_left (by omega)]
    · rw [← List.append_assoc, List.take_append_drop]; exact g2
    · simp; omega
    · injection h with h
      injection h with h
      injection h with h
      subst h
      exact hi _ _ rfl
/-- an element is read -/
theorem Row.at (h : Row N H e v xs) (hu : P.underlying t = some (.slice e)) (hs : sz P e = some 1) (ha : aggB P e = some false) {j : Int} {kd : IntKind} (h0 : 0 ≤ j) (h1 : j < xs.length) {d : Value} : ∃ p, lixa P t v (.int kd j) H' = some (p, H') ∧ lld P e p H = some (xs.getD j.toNat d) := by
  rcases h with ⟨rfl, rfl⟩ | ⟨k, c, rest, rfl, g1, g2, g3⟩
  · simp at h1; omega
  · refine ⟨_, lixa_row hu hs h0 (by omega), ?_⟩
    rw [lld_ptr g2, ha]
    simp only [lldb_cell, Nat.zero_add, Nat.mul_one]
    have hlt : j.toNat < xs.length := by omega
    rw [List.getElem?_append, if_pos hlt, List.getD_eq_getElem?_getD, List.getElem?_eq_getElem hlt]; rfl
end
end Go.Lg
/-
  Bytes as the numbers that they are.
-/
set_option linter.unusedSimpArgs false
set_option linter.unusedVariables false
namespace Go.Lg
theorem u8eq (b : UInt8) (n : Nat) (hn : n < 256) : ((b.toNat : Int) = n) = (b = UInt8.ofNat n) := by
  have := b.toNat_lt
  apply propext
  constructor
  · intro h
    apply UInt8.toNat_inj.1
    simp; omega
  · rintro rfl
    simp; omega
section
variable {b : UInt8}
@[simp] theorem u8q0 : ((b.toNat : Int) = 0) = (b = 0) := u8eq b 0 (by decide)
@[simp] theorem u8q1 : ((b.toNat : Int) = 1) = (b = 1) := u8eq b 1 (by decide)
@[simp] theorem u8q2 : ((b.toNat : Int) = 2) = (b = 2) := u8eq b 2 (by decide)
@[simp] theorem u8q3 : ((b.toNat : Int) = 3) = (b = 3) := u8eq b 3 (by decide)
@[simp] theorem u8q4 : ((b.toNat : Int) = 4) = (b = 4) := u8eq b 4 (by decide)
@[simp] theorem u8q5 : ((b.toNat : Int) = 5) = (b = 5) := u8eq b 5 (by decide)
@[simp] theorem u8q6 : ((b.toNat : Int) = 6) = (b = 6) := u8eq b 6 (by decide)
@[simp] theorem u8q7 : ((b.toNat : Int) = 7) = (b = 7) := u8eq b 7 (by decide)
@[simp] theorem u8q8 : ((b.toNat : Int) = 8) = (b = 8) := u8eq b 8 (by decide)
@[simp] theorem u8q9 : ((b.toNat : Int) = 9) = (b = 9) := u8eq b 9 (by decide)
@[simp] theorem u8q10 : ((b.toNat : Int) = 10) = (b = 10) := u8eq b 10 (by decide)
@[simp] theorem u8q11 : ((b.toNat : Int) = 11) = (b = 11) := u8eq b 11 (by decide)
@[simp] theorem u8q12 : ((b.toNat : Int) = 12) = (b = 12) := u8eq b 12 (by decide)
@[simp] theorem u8q13 : ((b.toNat : Int) = 13) = (b = 13) := u8eq b 13 (by decide)
@[simp] theorem u8q14 : ((b.toNat : Int) = 14) = (b = 14) := u8eq b 14 (by decide)
@[simp] theorem u8q15 : ((b.toNat : Int) = 15) = (b = 15) := u8eq b 15 (by decide)
@[simp] theorem u8q16 : ((b.toNat : Int) = 16) = (b = 16) := u8eq b 16 (by decide)
@[simp] theorem u8q17 : ((b.toNat : Int) = 17) = (b = 17) := u8eq b 17 (by decide)
@[simp] theorem u8q18 : ((b.toNat : Int) = 18) = (b = 18) := u8eq b 18 (by decide)
@[simp] theorem u8q19 : ((b.toNat : Int) = 19) = (b = 19) := u8eq b 19 (by decide)
@[simp] theorem u8q20 : ((b.toNat : Int) = 20) = (b = 20) := u8eq b 20 (by decide)
@[simp] theorem u8q21 : ((b.toNat : Int) = 21) = (b = 21) := u8eq b 21 (by decide)
@[simp] theorem u8q22 : ((b.toNat : Int) = 22) = (b = 22) := u8eq b 22 (by decide)
@[simp] theorem u8q23 : ((b.toNat : Int) = 23) = (b = 23) := u8eq b 23 (by decide)
@[simp] theorem u8q24 : ((b.toNat : Int) = 24) = (b = 24) := u8eq b 24 (by decide)
@[simp] theorem u8q25 : ((b.toNat : Int) = 25) = (b = 25) := u8eq b 25 (by decide)
@[simp] theorem u8q26 : ((b.toNat : Int) = 26) = (b = 26) := u8eq b 26 (by decide)
@[simp] theorem u8q27 : ((b.toNat : Int) = 27) = (b = 27) := u8eq b 27 (by decide)
@[simp] theorem u8q28 : ((b.toNat : Int) = 28) = (b = 28) := u8eq b 28 (by decide)
@[simp] theorem u8q29 : ((b.toNat : Int) = 29) = (b = 29) := u8eq b 29 (by decide)
@[simp] theorem u8q30 : ((b.toNat : Int) = 30) = (b = 30) := u8eq b 30 (by decide)
@[simp] theorem u8q31 : ((b.toNat : Int) = 31) = (b = 31) := u8eq b 31 (by decide)
@[simp] theorem u8q32 : ((b.toNat : Int) = 32) = (b = 32) := u8eq b 32 (by decide)
@[simp] theorem u8q33 : ((b.toNat : Int) = 33) = (b = 33) := u8eq b 33 (by decide)
@[simp] theorem u8q34 : ((b.toNat : Int) = 34) = (b = 34) := u8eq b 34 (by decide)
@[simp] theorem u8q35 : ((b.toNat : Int) = 35) = (b = 35) := u8eq b 35 (by decide)
@[simp] theorem u8q36 : ((b.toNat : Int) = 36) = (b = 36) := u8eq b 36 (by decide)
@[simp] theorem u8q37 : ((b.toNat : Int) = 37) = (b = 37) := u8eq b 37 (by decide)
@[simp] theorem u8q38 : ((b.toNat : Int) = 38) = (b = 38) := u8eq b 38 (by decide)
@[simp] theorem u8q39 : ((b.toNat : Int) = 39) = (b = 39) := u8eq b 39 (by decide)
@[simp] theorem u8q40 : ((b.toNat : Int) = 40) = (b = 40) := u8eq b 40 (by decide)
@[simp] theorem u8q41 : ((b.toNat : Int) = 41) = (b = 41) := u8eq b 41 (by decide)
@[simp] theorem u8q42 : ((b.toNat : Int) = 42) = (b = 42) := u8eq b 42 (by decide)
@[simp] theorem u8q43 : ((b.toNat : Int) = 43) = (b = 43) := u8eq b 43 (by decide)
@[simp] theorem u8q44 : ((b.toNat : Int) = 44) = (b = 44) := u8eq b 44 (by decide)
@[simp] theorem u8q45 : ((b.toNat : Int) = 45) = (b = 45) := u8eq b 45 (by decide)
@[simp] theorem u8q46 : ((b.toNat : Int) = 46) = (b = 46) := u8eq b 46 (by decide)
@[simp] theorem u8q47 : ((b.toNat : Int) = 47) = (b = 47) := u8eq b 47 (by decide)
@[simp] theorem u8q48 : ((b.toNat : Int) = 48) = (b = 48) := u8eq b 48 (by decide)
@[simp] theorem u8q49 : ((b.toNat : Int) = 49) = (b = 49) := u8eq b 49 (by decide)
@[simp] theorem u8q50 : ((b.toNat : Int) = 50) = (b = 50) := u8eq b 50 (by decide)
@[simp] theorem u8q51 : ((b.toNat : Int) = 51) = (b = 51) := u8eq b 51 (by decide)
@[simp] theorem u8q52 : ((b.toNat : Int) = 52) = (b = 52) := u8eq b 52 (by decide)
@[simp] theorem u8q53 : ((b.toNat : Int) = 53) = (b = 53) := u8eq b 53 (by decide)
@[simp] theorem u8q54 : ((b.toNat : Int) = 54) = (b = 54) := u8eq b 54 (by decide)
@[simp] theorem u8q55 : ((b.toNat : Int) = 55) = (b = 55) := u8eq b 55 (by decide)
@[simp] theorem u8q56 : ((b.toNat : Int) = 56) = (b = 56) := u8eq b 56 (by decide)
@[simp] theorem u8q57 : ((b.toNat : Int) = 57) = (b = 57) := u8eq b 57 (by decide)
@[simp] theorem u8q58 : ((b.toNat : Int) = 58) = (b = 58) := u8eq b 58 (by decide)
@[simp] theorem u8q59 : ((b.toNat : Int) = 59) = (b = 59) := u8eq b 59 (by decide)
@[simp] theorem u8q60 : ((b.toNat : Int) = 60) = (b = 60) := u8eq b 60 (by decide)
@[simp] theorem u8q61 : ((b.toNat : Int) = 61) = (b = 61) := u8eq b 61 (by decide)
@[simp] theorem u8q62 : ((b.toNat : Int) = 62) = (b = 62) := u8eq b 62 (by decide)
@[simp] theorem u8q63 : ((b.toNat : Int) = 63) = (b = 63) := u8eq b 63 (by decide)
@[simp] theorem u8q64 : ((b.toNat : Int) = 64) = (b = 64) := u8eq b 64 (by decide)
@[simp] theorem u8q65 : ((b.toNat : Int) = 65) = (b = 65) := u8eq b 65 (by decide)
@[simp] theorem u8q66 : ((b.toNat : Int) = 66) = (b = 66) := u8eq b 66 (by decide)
@[simp] theorem u8q67 : ((b.toNat : Int) = 67) = (b = 67) := u8eq b 67 (by decide)
@[simp] theorem u8q68 : ((b.toNat : Int) = 68) = (b = 68) := u8eq b 68 (by decide)
@[simp] theorem u8q69 : ((b.toNat : Int) = 69) = (b = 69) := u8eq b 69 (by decide)
@[simp] theorem u8q70 : ((b.toNat : Int) = 70) = (b = 70) := u8eq b 70 (by decide)
@[simp] theorem u8q71 : ((b.toNat : Int) = 71) = (b = 71) := u8eq b 71 (by decide)
@[simp] theorem u8q72 : ((b.toNat : Int) = 72) = (b = 72) := u8eq b 72 (by decide)
@[simp] theorem u8q73 : ((b.toNat : Int) = 73) = (b = 73) := u8eq b 73 (by decide)
@[simp] theorem u8q74 : ((b.toNat : Int) = 74) = (b = 74) := u8eq b 74 (by decide)
@[simp] theorem u8q75 : ((b.toNat : Int) = 75) = (b = 75) := u8eq b 75 (by decide)
@[simp] theorem u8q76 : ((b.toNat : Int) = 76) = (b = 76) := u8eq b 76 (by decide)
@[simp] theorem u8q77 : ((b.toNat : Int) = 77) = (b = 77) := u8eq b 77 (by decide)
@[simp] theorem u8q78 : ((b.toNat : Int) = 78) = (b = 78) := u8eq b 78 (by decide)
@[simp] theorem u8q79 : ((b.toNat : Int) = 79) = (b = 79) := u8eq b 79 (by decide)
@[simp] theorem u8q80 : ((b.toNat : Int) = 80) = (b = 80) := u8eq b 80 (by decide)
@[simp] theorem u8q81 : ((b.toNat : Int) = 81) = (b = 81) := u8eq b 81 (by decide)
@[simp] theorem u8q82 : ((b.toNat : Int) = 82) = (b = 82) := u8eq b 82 (by decide)
@[simp] theorem u8q83 : ((b.toNat : Int) = 83) = (b = 83) := u8eq b 83 (by decide)
@[simp] theorem u8q84 : ((b.toNat : Int) = 84) = (b = 84) := u8eq b 84 (by decide)
@[simp] theorem u8q85 : ((b.toNat : Int) = 85) = (b = 85) := u8eq b 85 (by decide)
@[simp] theorem u8q86 : ((b.toNat : Int) = 86) = (b = 86) := u8eq b 86 (by decide)
@[simp] theorem u8q87 : ((b.toNat : Int) = 87) = (b = 87) := u8eq b 87 (by decide)
@[simp] theorem u8q88 : ((b.toNat : Int) = 88) = (b = 88) := u8eq b 88 (by decide)
@[simp] theorem u8q89 : ((b.toNat : Int) = 89) = (b = 89) := u8eq b 89 (by decide)
@[simp] theorem u8q90 : ((b.toNat : Int) = 90) = (b = 90) := u8eq b 90 (by decide)
@[simp] theorem u8q91 : ((b.toNat : Int) = 91) = (b = 91) := u8eq b 91 (by decide)
@[simp] theorem u8q92 : ((b.toNat : Int) = 92) = (b = 92) := u8eq b 92 (by decide)
@[simp] theorem u8q93 : ((b.toNat : Int) = 93) = (b = 93) := u8eq b 93 (by decide)
@[simp] theorem u8q94 : ((b.toNat : Int) = 94) = (b = 94) := u8eq b 94 (by decide)
@[simp] theorem u8q95 : ((b.toNat : Int) = 95) = (b = 95) := u8eq b 95 (by decide)
@[simp] theorem u8q96 : ((b.toNat : Int) = 96) = (b = 96) := u8eq b 96 (by decide)
@[simp] theorem u8q97 : ((b.toNat : Int) = 97) = (b = 97) := u8eq b 97 (by decide)
@[simp] theorem u8q98 : ((b.toNat : Int) = 98) = (b = 98) := u8eq b 98 (by decide)
@[simp] theorem u8q99 : ((b.toNat : Int) = 99) = (b = 99) := u8eq b 99 (by decide)
@[simp] theorem u8q100 : ((b.toNat : Int) = 100) = (b = 100) := u8eq b 100 (by decide)
@[simp] theorem u8q101 : ((b.toNat : Int) = 101) = (b = 101) := u8eq b 101 (by decide)
@[simp] theorem u8q102 : ((b.toNat : Int) = 102) = (b = 102) := u8eq b 102 (by decide)
@[simp] theorem u8q103 : ((b.toNat : Int) = 103) = (b = 103) := u8eq b 103 (by decide)
@[simp] theorem u8q104 : ((b.toNat : Int) = 104) = (b = 104) := u8eq b 104 (by decide)
@[simp] theorem u8q105 : ((b.toNat : Int) = 105) = (b = 105) := u8eq b 105 (by decide)
@[simp] theorem u8q106 : ((b.toNat : Int) = 106) = (b = 106) := u8eq b 106 (by decide)
@[simp] theorem u8q107 : ((b.toNat : Int) = 107) = (b = 107) := u8eq b 107 (by decide)
@[simp] theorem u8q108 : ((b.toNat : Int) = 108) = (b = 108) := u8eq b 108 (by decide)
@[simp] theorem u8q109 : ((b.toNat : Int) = 109) = (b = 109) := u8eq b 109 (by decide)
@[simp] theorem u8q110 : ((b.toNat : Int) = 110) = (b = 110) := u8eq b 110 (by decide)
@[simp] theorem u8q111 : ((b.toNat : Int) = 111) = (b = 111) := u8eq b 111 (by decide)
@[simp] theorem u8q112 : ((b.toNat : Int) = 112) = (b = 112) := u8eq b 112 (by decide)
@[simp] theorem u8q113 : ((b.toNat : Int) = 113) = (b = 113) := u8eq b 113 (by decide)
@[simp] theorem u8q114 : ((b.toNat : Int) = 114) = (b = 114) := u8eq b 114 (by decide)
@[simp] theorem u8q115 : ((b.toNat : Int) = 115) = (b = 115) := u8eq b 115 (by decide)
@[simp] theorem u8q116 : ((b.toNat : Int) = 116) = (b = 116) := u8eq b 116 (by decide)
@[simp] theorem u8q117 : ((b.toNat : Int) = 117) = (b = 117) := u8eq b 117 (by decide)
@[simp] theorem u8q118 : ((b.toNat : Int) = 118) = (b = 118) := u8eq b 118 (by decide)
@[simp] theorem u8q119 : ((b.toNat : Int) = 119) = (b = 119) := u8eq b 119 (by decide)
@[simp] theorem u8q120 : ((b.toNat : Int) = 120) = (b = 120) := u8eq b 120 (by decide)
@[simp] theorem u8q121 : ((b.toNat : Int) = 121) = (b = 121) := u8eq b 121 (by decide)
@[simp] theorem u8q122 : ((b.toNat : Int) = 122) = (b = 122) := u8eq b 122 (by decide)
@[simp] theorem u8q123 : ((b.toNat : Int) = 123) = (b = 123) := u8eq b 123 (by decide)
@[simp] theorem u8q124 : ((b.toNat : Int) = 124) = (b = 124) := u8eq b 124 (by decide)
@[simp] theorem u8q125 : ((b.toNat : Int) = 125) = (b = 125) := u8eq b 125 (by decide)
@[simp] theorem u8q126 : ((b.toNat : Int) = 126) = (b = 126) := u8eq b 126 (by decide)
@[simp] theorem u8q127 : ((b.toNat : Int) = 127) = (b = 127) := u8eq b 127 (by decide)
@[simp] theorem u8q128 : ((b.toNat : Int) = 128) = (b = 128) := u8eq b 128 (by decide)
@[simp] theorem u8q129 : ((b.toNat : Int) = 129) = (b = 129) := u8eq b 129 (by decide)
@[simp] theorem u8q130 : ((b.toNat : Int) = 130) = (b = 130) := u8eq b 130 (by decide)
@[simp] theorem u8q131 : ((b.toNat : Int) = 131) = (b = 131) := u8eq b 131 (by decide)
@[simp] theorem u8q132 : ((b.toNat : Int) = 132) = (b = 132) := u8eq b 132 (by decide)
@[simp] theorem u8q133 : ((b.toNat : Int) = 133) = (b = 133) := u8eq b 133 (by decide)
@[simp] theorem u8q134 : ((b.toNat : Int) = 134) = (b = 134) := u8eq b 134 (by decide)
@[simp] theorem u8q135 : ((b.toNat : Int) = 135) = (b = 135) := u8eq b 135 (by decide)
@[simp] theorem u8q136 : ((b.toNat : Int) = 136) = (b = 136) := u8eq b 136 (by decide)
@[simp] theorem u8q137 : ((b.toNat : Int) = 137) = (b = 137) := u8eq b 137 (by decide)
@[simp] theorem u8q138 : ((b.toNat : Int) = 138) = (b = 138) := u8eq b 138 (by decide)
@[simp] theorem u8q139 : ((b.toNat : Int) = 139) = (b = 139) := u8eq b 139 (by decide)
@[simp] theorem u8q140 : ((b.toNat : Int) = 140) = (b = 140) := u8eq b 140 (by decide)
@[simp] theorem u8q141 : ((b.toNat : Int) = 141) = (b = 141) := u8eq b 141 (by decide)
@[simp] theorem u8q142 : ((b.toNat : Int) = 142) = (b = 142) := u8eq b 142 (by decide)
@[simp] theorem u8q143 : ((b.toNat : Int) = 143) = (b = 143) := u8eq b 143 (by decide)
@[simp] theorem u8q144 : ((b.toNat : Int) = 144) = (b = 144) := u8eq b 144 (by decide)
@[simp] theorem u8q145 : ((b.toNat : Int) = 145) = (b = 145) := u8eq b 145 (by decide)
@[simp] theorem u8q146 : ((b.toNat : Int) = 146) = (b = 146) := u8eq b 146 (by decide)
@[simp] theorem u8q147 : ((b.toNat : Int) = 147) = (b = 147) := u8eq b 147 (by decide)
@[simp] theorem u8q148 : ((b.toNat : Int) = 148) = (b = 148) := u8eq b 148 (by decide)
@[simp] theorem u8q149 : ((b.toNat : Int) = 149) = (b = 149) := u8eq b 149 (by decide)
@[simp] theorem u8q150 : ((b.toNat : Int) = 150) = (b = 150) := u8eq b 150 (by decide)
@[simp] theorem u8q151 : ((b.toNat : Int) = 151) = (b = 151) := u8eq b 151 (by decide)
@[simp] theorem u8q152 : ((b.toNat : Int) = 152) = (b = 152) := u8eq b 152 (by decide)
@[simp] theorem u8q153 : ((b.toNat : Int) = 153) = (b = 153) := u8eq b 153 (by decide)
@[simp] theorem u8q154 : ((b.toNat : Int) = 154) = (b = 154) := u8eq b 154 (by decide)
@[simp] theorem u8q155 : ((b.toNat : Int) = 155) = (b = 155) := u8eq b 155 (by decide)
@[simp] theorem u8q156 : ((b.toNat : Int) = 156) = (b = 156) := u8eq b 156 (by decide)
@[simp] theorem u8q157 : ((b.toNat : Int) = 157) = (b = 157) := u8eq b 157 (by decide)
@[simp] theorem u8q158 : ((b.toNat : Int) = 158) = (b = 158) := u8eq b 158 (by decide)
@[simp] theorem u8q159 : ((b.toNat : Int) = 159) = (b = 159) := u8eq b 159 (by decide)
@[simp] theorem u8q160 : ((b.toNat : Int) = 160) = (b = 160) := u8eq b 160 (by decide)
@[simp] theorem u8q161 : ((b.toNat : Int) = 161) = (b = 161) := u8eq b 161 (by decide)
@[simp] theorem u8q162 : ((b.toNat : Int) = 162) = (b = 162) := u8eq b 162 (by decide)
@[simp] theorem u8q163 : ((b.toNat : Int) = 163) = (b = 163) := u8eq b 163 (by decide)
@[simp] theorem u8q164 : ((b.toNat : Int) = 164) = (b = 164) := u8eq b 164 (by decide)
@[simp] theorem u8q165 : ((b.toNat : Int) = 165) = (b = 165) := u8eq b 165 (by decide)
@[simp] theorem u8q166 : ((b.toNat : Int) = 166) = (b = 166) := u8eq b 166 (by decide)
@[simp] theorem u8q167 : ((b.toNat : Int) = 167) = (b = 167) := u8eq b 167 (by decide)
@[simp] theorem u8q168 : ((b.toNat : Int) = 168) = (b = 168) := u8eq b 168 (by decide)
@[simp] theorem u8q169 : ((b.toNat : Int) = 169) = (b = 169) := u8eq b 169 (by decide)
@[simp] theorem u8q170 : ((b.toNat : Int) = 170) = (b = 170) := u8eq b 170 (by decide)
@[simp] theorem u8q171 : ((b.toNat : Int) = 171) = (b = 171) := u8eq b 171 (by decide)
@[simp] theorem u8q172 : ((b.toNat : Int) = 172) = (b = 172) := u8eq b 172 (by decide)
@[simp] theorem u8q173 : ((b.toNat : Int) = 173) = (b = 173) := u8eq b 173 (by decide)
@[simp] theorem u8q174 : ((b.toNat : Int) = 174) = (b = 174) := u8eq b 174 (by decide)
@[simp] theorem u8q175 : ((b.toNat : Int) = 175) = (b = 175) := u8eq b 175 (by decide)
@[simp] theorem u8q176 : ((b.toNat : Int) = 176) = (b = 176) := u8eq b 176 (by decide)
@[simp] theorem u8q177 : ((b.toNat : Int) = 177) = (b = 177) := u8eq b 177 (by decide)
@[simp] theorem u8q178 : ((b.toNat : Int) = 178) = (b = 178) := u8eq b 178 (by decide)
@[simp] theorem u8q179 : ((b.toNat : Int) = 179) = (b = 179) := u8eq b 179 (by decide)
@[simp] theorem u8q180 : ((b.toNat : Int) = 180) = (b = 180) := u8eq b 180 (by decide)
@[simp] theorem u8q181 : ((b.toNat : Int) = 181) = (b = 181) := u8eq b 181 (by decide)
@[simp] theorem u8q182 : ((b.toNat : Int) = 182) = (b = 182) := u8eq b 182 (by decide)
@[simp] theorem u8q183 : ((b.toNat : Int) = 183) = (b = 183) := u8eq b 183 (by decide)
@[simp] theorem u8q184 : ((b.toNat : Int) = 184) = (b = 184) := u8eq b 184 (by decide)
@[simp] theorem u8q185 : ((b.toNat : Int) = 185) = (b = 185) := u8eq b 185 (by decide)
@[simp] theorem u8q186 : ((b.toNat : Int) = 186) = (b = 186) := u8eq b 186 (by decide)
@[simp] theorem u8q187 : ((b.toNat : Int) = 187) = (b = 187) := u8eq b 187 (by decide)
@[simp] theorem u8q188 : ((b.toNat : Int) = 188) = (b = 188) := u8eq b 188 (by decide)
@[simp] theorem u8q189 : ((b.toNat : Int) = 189) = (b = 189) := u8eq b 189 (by decide)
@[simp] theorem u8q190 : ((b.toNat : Int) = 190) = (b = 190) := u8eq b 190 (by decide)
@[simp] theorem u8q191 : ((b.toNat : Int) = 191) = (b = 191) := u8eq b 191 (by decide)
@[simp] theorem u8q192 : ((b.toNat : Int) = 192) = (b = 192) := u8eq b 192 (by decide)
@[simp] theorem u8q193 : ((b.toNat : Int) = 193) = (b = 193) := u8eq b 193 (by decide)
@[simp] theorem u8q194 : ((b.toNat : Int) = 194) = (b = 194) := u8eq b 194 (by decide)
@[simp] theorem u8q195 : ((b.toNat : Int) = 195) = (b = 195) := u8eq b 195 (by decide)
@[simp] theorem u8q196 : ((b.toNat : Int) = 196) = (b = 196) := u8eq b 196 (by decide)
@[simp] theorem u8q197 : ((b.toNat : Int) = 197) = (b = 197) := u8eq b 197 (by decide)
@[simp] theorem u8q198 : ((b.toNat : Int) = 198) = (b = 198) := u8eq b 198 (by decide)
@[simp] theorem u8q199 : ((b.toNat : Int) = 199) = (b = 199) := u8eq b 199 (by decide)
@[simp] theorem u8q200 : ((b.toNat : Int) = 200) = (b = 200) := u8eq b 200 (by decide)
@[simp] theorem u8q201 : ((b.toNat : Int) = 201) = (b = 201) := u8eq b 201 (by decide)
@[simp] theorem u8q202 : ((b.toNat : Int) = 202) = (b = 202) := u8eq b 202 (by decide)
@[simp] theorem u8q203 : ((b.toNat : Int) = 203) = (b = 203) := u8eq b 203 (by decide)
@[simp] theorem u8q204 : ((b.toNat : Int) = 204) = (b = 204) := u8eq b 204 (by decide)
@[simp] theorem u8q205 : ((b.toNat : Int) = 205) = (b = 205) := u8eq b 205 (by decide)
@[simp] theorem u8q206 : ((b.toNat : Int) = 206) = (b = 206) := u8eq b 206 (by decide)
@[simp] theorem u8q207 : ((b.toNat : Int) = 207) = (b = 207) := u8eq b 207 (by decide)
@[simp] theorem u8q208 : ((b.toNat : Int) = 208) = (b = 208) := u8eq b 208 (by decide)
@[simp] theorem u8q209 : ((b.toNat : Int) = 209) = (b = 209) := u8eq b 209 (by decide)
@[simp] theorem u8q210 : ((b.toNat : Int) = 210) = (b = 210) := u8eq b 210 (by decide)
@[simp] theorem u8q211 : ((b.toNat : Int) = 211) = (b = 211) := u8eq b 211 (by decide)
@[simp] theorem u8q212 : ((b.toNat : Int) = 212) = (b = 212) := u8eq b 212 (by decide)
@[simp] theorem u8q213 : ((b.toNat : Int) = 213) = (b = 213) := u8eq b 213 (by decide)
@[simp] theorem u8q214 : ((b.toNat : Int) = 214) = (b = 214) := u8eq b 214 (by decide)
@[simp] theorem u8q215 : ((b.toNat : Int) = 215) = (b = 215) := u8eq b 215 (by decide)
@[simp] theorem u8q216 : ((b.toNat : Int) = 216) = (b = 216) := u8eq b 216 (by decide)
@[simp] theorem u8q217 : ((b.toNat : Int) = 217) = (b = 217) := u8eq b 217 (by decide)
@[simp] theorem u8q218 : ((b.toNat : Int) = 218) = (b = 218) := u8eq b 218 (by decide)
@[simp] theorem u8q219 : ((b.toNat : Int) = 219) = (b = 219) := u8eq b 219 (by decide)
@[simp] theorem u8q220 : ((b.toNat : Int) = 220) = (b = 220) := u8eq b 220 (by decide)
@[simp] theorem u8q221 : ((b.toNat : Int) = 221) = (b = 221) := u8eq b 221 (by decide)
@[simp] theorem u8q222 : ((b.toNat : Int) = 222) = (b = 222) := u8eq b 222 (by decide)
@[simp] theorem u8q223 : ((b.toNat : Int) = 223) = (b = 223) := u8eq b 223 (by decide)
@[simp] theorem u8q224 : ((b.toNat : Int) = 224) = (b = 224) := u8eq b 224 (by decide)
@[simp] theorem u8q225 : ((b.toNat : Int) = 225) = (b = 225) := u8eq b 225 (by decide)
@[simp] theorem u8q226 : ((b.toNat : Int) = 226) = (b = 226) := u8eq b 226 (by decide)
@[simp] theorem u8q227 : ((b.toNat : Int) = 227) = (b = 227) := u8eq b 227 (by decide)
@[simp] theorem u8q228 : ((b.toNat : Int) = 228) = (b = 228) := u8eq b 228 (by decide)
@[simp] theorem u8q229 : ((b.toNat : Int) = 229) = (b = 229) := u8eq b 229 (by decide)
@[simp] theorem u8q230 : ((b.toNat : Int) = 230) = (b = 230) := u8eq b 230 (by decide)
@[simp] theorem u8q231 : ((b.toNat : Int) = 231) = (b = 231) := u8eq b 231 (by decide)
@[simp] theorem u8q232 : ((b.toNat : Int) = 232) = (b = 232) := u8eq b 232 (by decide)
@[simp] theorem u8q233 : ((b.toNat : Int) = 233) = (b = 233) := u8eq b 233 (by decide)
@[simp] theorem u8q234 : ((b.toNat : Int) = 234) = (b = 234) := u8eq b 234 (by decide)
@[simp] theorem u8q235 : ((b.toNat : Int) = 235) = (b = 235) := u8eq b 235 (by decide)
@[simp] theorem u8q236 : ((b.toNat : Int) = 236) = (b = 236) := u8eq b 236 (by decide)
@[simp] theorem u8q237 : ((b.toNat : Int) = 237) = (b = 237) := u8eq b 237 (by decide)
@[simp] theorem u8q238 : ((b.toNat : Int) = 238) = (b = 238) := u8eq b 238 (by decide)
@[simp] theorem u8q239 : ((b.toNat : Int) = 239) = (b = 239) := u8eq b 239 (by decide)
@[simp] theorem u8q240 : ((b.toNat : Int) = 240) = (b = 240) := u8eq b 240 (by decide)
@[simp] theorem u8q241 : ((b.toNat : Int) = 241) = (b = 241) := u8eq b 241 (by decide)
@[simp] theorem u8q242 : ((b.toNat : Int) = 242) = (b = 242) := u8eq b 242 (by decide)
@[simp] theorem u8q243 : ((b.toNat : Int) = 243) = (b = 243) := u8eq b 243 (by decide)
@[simp] theorem u8q244 : ((b.toNat : Int) = 244) = (b = 244) := u8eq b 244 (by decide)
@[simp] theorem u8q245 : ((b.toNat : Int) = 245) = (b = 245) := u8eq b 245 (by decide)
@[simp] theorem u8q246 : ((b.toNat : Int) = 246) = (b = 246) := u8eq b 246 (by decide)
@[simp] theorem u8q247 : ((b.toNat : Int) = 247) = (b = 247) := u8eq b 247 (by decide)
@[simp] theorem u8q248 : ((b.toNat : Int) = 248) = (b = 248) := u8eq b 248 (by decide)
@[simp] theorem u8q249 : ((b.toNat : Int) = 249) = (b = 249) := u8eq b 249 (by decide)
@[simp] theorem u8q250 : ((b.toNat : Int) = 250) = (b = 250) := u8eq b 250 (by decide)
@[simp] theorem u8q251 : ((b.toNat : Int) = 251) = (b = 251) := u8eq b 251 (by decide)
@[simp] theorem u8q252 : ((b.toNat : Int) = 252) = (b = 252) := u8eq b 252 (by decide)
@[simp] theorem u8q253 : ((b.toNat : Int) = 253) = (b = 253) := u8eq b 253 (by decide)
@[simp] theorem u8q254 : ((b.toNat : Int) = 254) = (b = 254) := u8eq b 254 (by decide)
@[simp] theorem u8q255 : ((b.toNat : Int) = 255) = (b = 255) := u8eq b 255 (by decide)
@[simp] theorem u8lt : ((b.toNat : Int) < 256) = True := by simp; have := b.toNat_lt; omega
end
end Go.Lg
/-
  The plain law of layer 27: the machine that reads JSON byte by byte comes to what the reference, value within value, comes to. No program in sight.
-/
set_option linter.unusedSimpArgs false
set_option linter.unusedVariables false
namespace Tg.Json

/-- bytes that part -/
def white (b : UInt8) : Bool := b == 32 || b == 9 || b == 10 || b == 13
def digit (b : UInt8) : Bool := 48 ≤ b && b ≤ 57
def hex (b : UInt8) : Bool := digit b || (97 ≤ b && b ≤ 102) || (65 ≤ b && b ≤ 70)
def esc (b : UInt8) : Bool := b == 34 || b == 92 || b == 47 || b == 98 || b == 102 || b == 110 || b == 114 || b == 116

/-- the machine of the program -/
structure M where
  depth : Nat
  stack : List UInt8
  pos : Nat
  key : Bool
  rest : List UInt8
  hex : Nat
  begun : Bool
  state : Nat
  place : Int
  seen : Nat

def M.start (d : Nat) : M := ⟨d, [], 0, false, [], 0, false, 1, -1, 0⟩

def M.top (m : M) : UInt8 := m.stack.getLast?.getD 0
def M.fail (m : M) (s : Nat) : M := { m with state := s, place := m.seen }
def M.push (m : M) (b : UInt8) (p : Nat) : M := if m.stack.length = m.depth then m.fail 3 else { m with stack := m.stack ++ [b], pos := p }
def M.pop (m : M) : M := { m with stack := m.stack.dropLast, pos := 5 }
def M.first (m : M) (b : UInt8) : M :=
  if b = 91 then m.push b 1
  else if b = 123 then m.push b 3
  else if b = 34 then { m with pos := 6, key := false }
  else if b = 45 then { m with pos := 10 }
  else if b = 48 then { m with pos := 11 }
  else if digit b then { m with pos := 12 }
  else if b = 116 then { m with pos := 9, rest := [114, 117, 101] }
  else if b = 102 then { m with pos := 9, rest := [97, 108, 115, 101] }
  else if b = 110 then { m with pos := 9, rest := [117, 108, 108] }
  else m.fail 0
def M.after (m : M) (b : UInt8) : M :=
  let m := { m with pos := 5 }
  if white b then m
  else if b = 44 ∧ m.top = 91 then { m with pos := 0 }
  else if b = 44 ∧ m.top = 123 then { m with pos := 2 }
  else if (b = 93 ∧ m.top = 91) ∨ (b = 125 ∧ m.top = 123) then m.pop
  else m.fail 0
def M.inText (m : M) (b : UInt8) : M :=
  if b = 34 then (if m.key then { m with pos := 4 } else { m with pos := 5 })
  else if b = 92 then { m with pos := 7 }
  else if b < 32 then m.fail 0
  else m
def M.inSlash (m : M) (b : UInt8) : M :=
  if b = 117 then { m with pos := 8, hex := 4 }
  else if esc b then { m with pos := 6 }
  else m.fail 0
def M.inUnicode (m : M) (b : UInt8) : M :=
  if Json.hex b then (if m.hex - 1 = 0 then { m with pos := 6, hex := m.hex - 1 } else { m with hex := m.hex - 1 })
  else m.fail 0
def M.inWord (m : M) (b : UInt8) : M :=
  if m.rest.head? = some b then (if m.rest.tail = [] then { m with rest := m.rest.tail, pos := 5 } else { m with rest := m.rest.tail })
  else m.fail 0
def ended (p : Nat) : Bool := p == 11 || p == 12 || p == 14 || p == 17
def isE (b : UInt8) : Bool := b == 101 || b == 69
def M.inNumber (m : M) (b : UInt8) : M :=
  if m.pos = 10 ∧ b = 48 then { m with pos := 11 }
  else if (m.pos = 10 ∨ m.pos = 12) ∧ digit b then { m with pos := 12 }
  else if (m.pos = 13 ∨ m.pos = 14) ∧ digit b then { m with pos := 14 }
  else if (m.pos = 15 ∨ m.pos = 16 ∨ m.pos = 17) ∧ digit b then { m with pos := 17 }
  else if m.pos = 15 ∧ (b = 43 ∨ b = 45) then { m with pos := 16 }
  else if (m.pos = 11 ∨ m.pos = 12) ∧ b = 46 then { m with pos := 13 }
  else if (m.pos = 11 ∨ m.pos = 12 ∨ m.pos = 14) ∧ isE b then { m with pos := 15 }
  else if ended m.pos then m.after b
  else m.fail 0
def M.names (m : M) (b : UInt8) : M :=
  if white b then m
  else if b = 34 then { m with pos := 6, key := true }
  else if b = 125 ∧ m.pos = 3 then m.pop
  else m.fail 0
def M.byte (m : M) (b : UInt8) : M :=
  if m.pos = 0 ∨ m.pos = 1 then
    (if white b then m else if b = 93 ∧ m.pos = 1 then m.pop else m.first b)
  else if m.pos = 2 ∨ m.pos = 3 then m.names b
  else if m.pos = 4 then (if white b then m else if b = 58 then { m with pos := 0 } else m.fail 0)
  else if m.pos = 5 then m.after b
  else if m.pos = 6 then m.inText b
  else if m.pos = 7 then m.inSlash b
  else if m.pos = 8 then m.inUnicode b
  else if m.pos = 9 then m.inWord b
  else m.inNumber b
def M.tell (m : M) : Nat := if m.state = 1 ∧ m.stack = [] ∧ (m.pos = 5 ∨ ended m.pos) then 2 else m.state
def M.feed1 (m : M) (b : UInt8) : M :=
  let m := { m with begun := m.begun || !white b }
  let m := if m.state = 1 then m.byte b else m
  { m with seen := m.seen + 1 }
def M.feed (m : M) (l : List UInt8) : M := l.foldl M.feed1 m

/-! The reference: what is read off the rest of the bytes: how many, and how it is: 0 bad, 1 open, 3 deep, 4 well. -/

def skip : List UInt8 → Nat
  | [] => 0
  | b :: r => if white b then skip r + 1 else 0
def word : List UInt8 → List UInt8 → Nat × Nat
  | _, [] => (0, 4)
  | [], _ :: _ => (0, 1)
  | b :: r, c :: w => if b = c then ((word r w).1 + 1, (word r w).2) else (0, 0)
def add (n : Nat) (x : Nat × Nat) : Nat × Nat := (x.1 + n, x.2)
/-- a text: 0 within it, 1 behind a backslash, 2 to 5: so many digits and one come -/
def quote : Nat → List UInt8 → Nat × Nat
  | _, [] => (0, 1)
  | k, b :: r =>
    if k = 0 then
      (if b < 32 then (0, 0) else if b = 34 then (1, 4) else if b = 92 then add 1 (quote 1 r) else add 1 (quote 0 r))
    else if k = 1 then
      (if b = 117 then add 1 (quote 5 r) else if esc b then add 1 (quote 0 r) else (0, 0))
    else (if hex b then add 1 (quote (if k = 2 then 0 else k - 1) r) else (0, 0))
/-- a number, from where it stands -/
def number : Nat → List UInt8 → Nat × Nat
  | p, [] => if ended p then (0, 4) else (0, 1)
  | p, b :: r =>
    if p = 10 ∧ b = 48 then add 1 (number 11 r)
    else if (p = 10 ∨ p = 12) ∧ digit b then add 1 (number 12 r)
    else if (p = 13 ∨ p = 14) ∧ digit b then add 1 (number 14 r)
    else if (p = 15 ∨ p = 16 ∨ p = 17) ∧ digit b then add 1 (number 17 r)
    else if p = 15 ∧ (b = 43 ∨ b = 45) then add 1 (number 16 r)
    else if (p = 11 ∨ p = 12) ∧ b = 46 then add 1 (number 13 r)
    else if (p = 11 ∨ p = 12 ∨ p = 14) ∧ isE b then add 1 (number 15 r)
    else if ended p then (0, 4)
    else (0, 0)
/-- a name and its colon, or nothing -/
def named : Bool → List UInt8 → Nat × Nat
  | false, _ => (0, 4)
  | true, [] => (0, 1)
  | true, b :: r =>
    if b ≠ 34 then (0, 0)
    else if (quote 0 r).2 ≠ 4 then add 1 (quote 0 r)
    else
      let n := (quote 0 r).1
      let k := skip (r.drop n)
      match (r.drop n).drop k with
      | [] => (1 + n + k, 1)
      | c :: _ => if c ≠ 58 then (1 + n + k, 0) else (1 + n + k + 1, 4)
def close (o : Bool) : UInt8 := if o then 125 else 93
/-- what comes behind an element -/
def behindElem (o : Bool) (next : List UInt8 → Nat × Nat) (l : List UInt8) : Nat × Nat :=
  match l.drop (skip l) with
  | [] => (skip l, 1)
  | c :: q => if c = close o then (skip l + 1, 4) else if c ≠ 44 then (skip l, 0) else add (skip l + 1) (next q)
/-- an array or an object, what opens it gone by -/
def list (val : List UInt8 → Nat × Nat) (o : Bool) : Nat → Bool → List UInt8 → Nat × Nat
  | 0, _, _ => (0, 1)
  | f + 1, one, l =>
    match l.drop (skip l) with
    | [] => (skip l, 1)
    | b :: r =>
      if one ∧ b = close o then (skip l + 1, 4)
      else add (skip l)
        (if (named o (b :: r)).2 ≠ 4 then named o (b :: r)
         else add (named o (b :: r)).1
          (let l1 := (b :: r).drop (named o (b :: r)).1
           if (val l1).2 ≠ 4 then val l1
           else add (val l1).1 (behindElem o (list val o f false) (l1.drop (val l1).1))))
def value : Nat → List UInt8 → Nat × Nat
  | 0, l =>
    match l.drop (skip l) with
    | [] => (skip l, 1)
    | b :: r =>
      if b = 91 ∨ b = 123 then (skip l, 3)
      else add (skip l) (flat b r)
  | d + 1, l =>
    match l.drop (skip l) with
    | [] => (skip l, 1)
    | b :: r =>
      if b = 91 ∨ b = 123 then add (skip l + 1) (list (value d) (b == 123) (r.length + 1) true r)
      else add (skip l) (flat b r)
where flat (b : UInt8) (r : List UInt8) : Nat × Nat :=
  if b = 34 then add 1 (quote 0 r)
  else if b = 45 then add 1 (number 10 r)
  else if digit b then number 10 (b :: r)
  else if b = 116 then word (b :: r) [116, 114, 117, 101]
  else if b = 102 then word (b :: r) [102, 97, 108, 115, 101]
  else if b = 110 then word (b :: r) [110, 117, 108, 108]
  else (0, 0)
/-- the state of all, and the place of the first byte that can't be -/
def whole (l : List UInt8) (d : Nat) : Nat × Int :=
  let x := value d l
  if x.2 = 1 then (1, -1)
  else if x.2 ≠ 4 then (x.2, x.1)
  else
    let k := skip (l.drop x.1)
    if x.1 + k < l.length then (0, (x.1 + k : Nat)) else (2, -1)

/-! The law. -/
theorem feed_nil (m : M) : m.feed [] = m := rfl
theorem feed_cons (m : M) (b : UInt8) (r : List UInt8) : m.feed (b :: r) = (m.feed1 b).feed r := rfl
theorem feed_append (m : M) (l k : List UInt8) : m.feed (l ++ k) = (m.feed l).feed k := by simp [M.feed, List.foldl_append]

theorem feed_stuck (l : List UInt8) : ∀ m : M, m.state ≠ 1 → (m.feed l).state = m.state ∧ (m.feed l).place = m.place := by
  induction l with
  | nil => intro m _; exact ⟨rfl, rfl⟩
  | cons b r ih =>
    intro m h
    have := ih (m.feed1 b) (by simp [M.feed1, h])
    rw [feed_cons]
    simp only [M.feed1, h] at this ⊢
    exact this

theorem seen_first (m : M) (b : UInt8) : (m.first b).seen = m.seen := by
  unfold M.first M.push M.fail; simp only [apply_ite M.seen, ite_self]
theorem seen_after (m : M) (b : UInt8) : (m.after b).seen = m.seen := by
  unfold M.after M.pop M.fail; simp only [apply_ite M.seen, ite_self]
theorem seen_inNumber (m : M) (b : UInt8) : (m.inNumber b).seen = m.seen := by
  unfold M.inNumber M.fail; simp only [apply_ite M.seen, ite_self, seen_after]
theorem seen_byte (m : M) (b : UInt8) : (m.byte b).seen = m.seen := by
  unfold M.byte M.names M.inText M.inSlash M.inUnicode M.inWord M.pop M.fail
  simp only [apply_ite M.seen, ite_self, seen_after, seen_first, seen_inNumber]
theorem seen_feed1 (m : M) (b : UInt8) : (m.feed1 b).seen = m.seen + 1 := by
  unfold M.feed1; simp only; split
  · rw [seen_byte]
  · rfl

/-- what has begun -/
def M.beg (m : M) (b : UInt8) : M := { m with begun := m.begun || !white b }
theorem feed1_open {m : M} {b : UInt8} (h : m.state = 1) : m.feed1 b = { (m.beg b).byte b with seen := m.seen + 1 } := by
  unfold M.feed1; simp only; rw [if_pos h]
  show _ = ({ (m.beg b).byte b with seen := (m.beg b).seen + 1 } : M)
  rw [← seen_byte (m.beg b) b]; rfl

/-- what reading comes to, and where the machine then stands -/
def Goes (m : M) (l : List UInt8) (x : Nat × Nat) (ok : M → List UInt8 → Prop) : Prop :=
  (x.2 = 4 ∧ x.1 ≤ l.length ∧ ∃ m' : M, m.feed l = m'.feed (l.drop x.1) ∧ m'.depth = m.depth ∧ m'.state = 1 ∧ m'.place = m.place ∧ m'.seen = m.seen + x.1 ∧ ok m' (l.drop x.1)) ∨
  (x.2 = 1 ∧ (m.feed l).tell = 1 ∧ (m.feed l).place = m.place) ∨
  ((x.2 = 0 ∨ x.2 = 3) ∧ (m.feed l).state = x.2 ∧ (m.feed l).place = ((m.seen + x.1 : Nat) : Int) ∧ x.1 < l.length)

theorem Goes.seq {m : M} {l : List UInt8} {n : Nat} {y : Nat × Nat} {ok ok' : M → List UInt8 → Prop} (h : Goes m l (n, 4) ok)
    (k : ∀ m' : M, m'.depth = m.depth → m'.state = 1 → m'.place = m.place → ok m' (l.drop n) → Goes m' (l.drop n) y ok') : Goes m l (add n y) ok' := by
  rcases h with ⟨_, hn, m', hf, hd, hs, hp, he, ho⟩ | ⟨h, _⟩ | ⟨h, _⟩
  · simp only at hn hf he ho
    rcases k m' hd hs hp ho with ⟨h4, hn', m'', hf', hd', hs', hp', he', ho'⟩ | ⟨h1, ht, hp'⟩ | ⟨h0, hs', hp', hl⟩
    · refine .inl ⟨h4, ?_, m'', ?_, hd'.trans hd, hs', hp'.trans hp, ?_, ?_⟩
      · simp only [add]; simp at hn'; omega
      · simp only [add]; rw [hf, hf', List.drop_drop, Nat.add_comm]
      · simp only [add]; omega
      · simp only [add]; rw [List.drop_drop, Nat.add_comm] at ho'; exact ho'
    · exact .inr (.inl ⟨h1, by rw [hf]; exact ht, by rw [hf, hp', hp]⟩)
    · refine .inr (.inr ⟨h0, by rw [hf]; exact hs', ?_, ?_⟩)
      · rw [hf, hp', he]; simp only [add]; congr 1; omega
      · simp only [add]; simp at hl; omega
  · simp at h
  · simp at h
theorem Goes.one {m : M} {b : UInt8} {r : List UInt8} {y : Nat × Nat} {ok : M → List UInt8 → Prop}
    (hd : (m.feed1 b).depth = m.depth) (hp : (m.feed1 b).place = m.place) (hs : (m.feed1 b).state = 1)
    (k : Goes (m.feed1 b) r y ok) : Goes m (b :: r) (add 1 y) ok := by
  have : Goes m (b :: r) (1, 4) (fun m' _ => m' = m.feed1 b) :=
    .inl ⟨rfl, by simp, m.feed1 b, by simp [feed_cons], hd, hs, hp, seen_feed1 m b, rfl⟩
  refine this.seq (fun m' _ _ _ h => ?_)
  subst h; exact k
theorem Goes.bad {m : M} {b : UInt8} {r : List UInt8} {s : Nat} {ok : M → List UInt8 → Prop} (hs : s = 0 ∨ s = 3)
    (h : (m.feed1 b).state = s) (hp : (m.feed1 b).place = m.seen) : Goes m (b :: r) (0, s) ok := by
  refine .inr (.inr ⟨hs, ?_, ?_, by simp⟩) <;> rw [feed_cons]
  · rw [(feed_stuck r _ (by rw [h]; omega)).1, h]
  · rw [(feed_stuck r _ (by rw [h]; omega)).2, hp]; simp
theorem Goes.here {m : M} {l : List UInt8} {ok : M → List UInt8 → Prop} (h1 : m.state = 1) (h : ok m l) : Goes m l (0, 4) ok :=
  .inl ⟨rfl, by simp, m, by simp, rfl, h1, rfl, by simp, by simpa using h⟩
theorem Goes.mono {m : M} {l : List UInt8} {x : Nat × Nat} {ok ok' : M → List UInt8 → Prop} (h : Goes m l x ok) (k : ∀ m' l', ok m' l' → ok' m' l') : Goes m l x ok' := by
  rcases h with ⟨h4, hn, m', hf, hd, hs, hp, he, ho⟩ | h | h
  · exact .inl ⟨h4, hn, m', hf, hd, hs, hp, he, k _ _ ho⟩
  · exact .inr (.inl h)
  · exact .inr (.inr h)

/-- where texts stand -/
def tpos (k : Nat) : Nat := if k = 0 then 6 else if k = 1 then 7 else 8
theorem quote_goes (l : List UInt8) : ∀ (k : Nat) (m : M), m.state = 1 → m.pos = tpos k → (2 ≤ k → m.hex = k - 1) → k ≤ 5 →
    Goes m l (quote k l) (fun m' _ => m'.stack = m.stack ∧ m'.pos = if m.key then 4 else 5) := by
  induction l with
  | nil =>
    intro k m h1 hp _ _
    refine .inr (.inl ⟨by simp [quote], ?_, rfl⟩)
    show m.tell = 1
    unfold M.tell
    rw [if_neg, h1]
    rw [hp]; unfold tpos; rintro ⟨_, _, h⟩; revert h; split <;> (try split) <;> decide
  | cons b r ih =>
    intro k m h1 hp hh hk
    unfold quote
    by_cases k0 : k = 0
    · subst k0
      simp only [tpos, if_true] at hp
      rw [if_pos rfl]
      by_cases c1 : b < 32
      · rw [if_pos c1]
        have c2 : b ≠ 34 := by rintro rfl; revert c1; decide
        have c3 : b ≠ 92 := by rintro rfl; revert c1; decide
        exact Goes.bad (.inl rfl) (by simp [M.feed1, h1, M.byte, hp, M.inText, c1, c2, c3, M.fail]) (by simp [M.feed1, h1, M.byte, hp, M.inText, c1, c2, c3, M.fail])
      · rw [if_neg c1]
        by_cases c2 : b = 34
        · rw [if_pos c2]
          have : (1, 4) = add 1 (0, 4) := rfl
          rw [this]
          refine Goes.one ?_ ?_ ?_ (Goes.here ?_ ⟨?_, ?_⟩) <;> cases hkey : m.key <;> simp [M.feed1, h1, M.byte, hp, M.inText, c2, hkey]
        · rw [if_neg c2]
          by_cases c3 : b = 92
          · rw [if_pos c3]
            refine Goes.one ?_ ?_ ?_ ((ih 1 _ ?_ ?_ (by omega) (by omega)).mono ?_)
            all_goals simp [M.feed1, h1, M.byte, hp, M.inText, c3, tpos]
          · rw [if_neg c3]
            refine Goes.one ?_ ?_ ?_ ((ih 0 _ ?_ ?_ (by omega) (by omega)).mono ?_)
            all_goals simp [M.feed1, h1, M.byte, hp, M.inText, c3, c2, c1, tpos]
    · rw [if_neg k0]
      by_cases k1 : k = 1
      · subst k1
        simp only [tpos] at hp
        rw [if_pos rfl]
        by_cases c1 : b = 117
        · rw [if_pos c1]
          refine Goes.one ?_ ?_ ?_ ((ih 5 _ ?_ ?_ (fun _ => ?_) (by omega)).mono ?_)
          all_goals simp [M.feed1, h1, M.byte, hp, M.inSlash, c1, tpos]
        · rw [if_neg c1]
          by_cases c2 : esc b
          · rw [if_pos c2]
            refine Goes.one ?_ ?_ ?_ ((ih 0 _ ?_ ?_ (fun _ => ?_) (by omega)).mono ?_)
            all_goals first | omega | simp [M.feed1, h1, M.byte, hp, M.inSlash, c1, c2, tpos]
          · rw [if_neg c2]
            exact Goes.bad (.inl rfl) (by simp [M.feed1, h1, M.byte, hp, M.inSlash, c1, c2, M.fail]) (by simp [M.feed1, h1, M.byte, hp, M.inSlash, c1, c2, M.fail])
      · rw [if_neg k1]
        have hx := hh (by omega)
        have hp8 : m.pos = 8 := by rw [hp]; simp [tpos, k0, k1]
        by_cases c1 : hex b
        · rw [if_pos c1]
          by_cases k2 : k = 2
          · subst k2
            rw [if_pos rfl]
            refine Goes.one ?_ ?_ ?_ ((ih 0 _ ?_ ?_ (fun _ => ?_) (by omega)).mono ?_)
            all_goals first | omega | simp [M.feed1, h1, M.byte, hp8, M.inUnicode, c1, hx, tpos]
          · rw [if_neg k2]
            have e1 : ¬ (k - 1 - 1 = 0) := by omega
            have e2 : ¬ (k - 1 = 0) := by omega
            have e3 : ¬ (k - 1 = 1) := by omega
            refine Goes.one ?_ ?_ ?_ ((ih (k - 1) _ ?_ ?_ (fun _ => ?_) (by omega)).mono ?_)
            all_goals simp [M.feed1, h1, M.byte, hp8, M.inUnicode, c1, hx, tpos, e1, e2, e3]
        · rw [if_neg c1]
          exact Goes.bad (.inl rfl) (by simp [M.feed1, h1, M.byte, hp8, M.inUnicode, c1, M.fail]) (by simp [M.feed1, h1, M.byte, hp8, M.inUnicode, c1, M.fail])

theorem number_goes (l : List UInt8) : ∀ (p : Nat) (m : M), m.state = 1 → m.pos = p → 10 ≤ p → p ≤ 17 →
    Goes m l (number p l) (fun m' l' => m'.stack = m.stack ∧ ended m'.pos = true ∧ ∀ b r, l' = b :: r → (m'.beg b).byte b = (m'.beg b).after b) := by
  induction l with
  | nil =>
    intro p m h1 hp _ _
    unfold number
    by_cases c : ended p = true
    · rw [if_pos c]
      exact Goes.here h1 ⟨rfl, by rw [hp]; exact c, fun b r h => by simp at h⟩
    · rw [if_neg c]
      refine .inr (.inl ⟨rfl, ?_, rfl⟩)
      show m.tell = 1
      unfold M.tell
      rw [if_neg, h1]
      rintro ⟨_, _, h | h⟩
      · omega
      · rw [hp] at h; exact c h
  | cons b r ih =>
    intro p m h1 hp h10 h17
    have hp' : (m.beg b).pos = p := hp
    have hb' : (m.beg b).byte b = (m.beg b).inNumber b := by
      unfold M.byte
      rw [if_neg (by omega), if_neg (by omega), if_neg (by omega), if_neg (by omega), if_neg (by omega), if_neg (by omega), if_neg (by omega), if_neg (by omega)]
    have go : ∀ q : Nat, 10 ≤ q → q ≤ 17 → (m.beg b).inNumber b = { m.beg b with pos := q } → 
        Goes m (b :: r) (add 1 (number q r)) (fun m' l' => m'.stack = m.stack ∧ ended m'.pos = true ∧ ∀ b r, l' = b :: r → (m'.beg b).byte b = (m'.beg b).after b) := by
      intro q hq hq' e
      refine Goes.one ?_ ?_ ?_ ((ih q _ ?_ ?_ hq hq').mono ?_)
      all_goals rw [feed1_open h1, hb', e]
      all_goals first | exact h1 | exact fun _ _ h => h | rfl
    unfold number
    by_cases c1 : p = 10 ∧ b = 48
    · rw [if_pos c1]; exact go 11 (by omega) (by omega) (by unfold M.inNumber; rw [hp', if_pos c1])
    rw [if_neg c1]
    by_cases c2 : (p = 10 ∨ p = 12) ∧ digit b
    · rw [if_pos c2]; exact go 12 (by omega) (by omega) (by unfold M.inNumber; rw [hp', if_neg c1, if_pos c2])
    rw [if_neg c2]
    by_cases c3 : (p = 13 ∨ p = 14) ∧ digit b
    · rw [if_pos c3]; exact go 14 (by omega) (by omega) (by unfold M.inNumber; rw [hp', if_neg c1, if_neg c2, if_pos c3])
    rw [if_neg c3]
    by_cases c4 : (p = 15 ∨ p = 16 ∨ p = 17) ∧ digit b
    · rw [if_pos c4]; exact go 17 (by omega) (by omega) (by unfold M.inNumber; rw [hp', if_neg c1, if_neg c2, if_neg c3, if_pos c4])
    rw [if_neg c4]
    by_cases c5 : p = 15 ∧ (b = 43 ∨ b = 45)
    · rw [if_pos c5]; exact go 16 (by omega) (by omega) (by unfold M.inNumber; rw [hp', if_neg c1, if_neg c2, if_neg c3, if_neg c4, if_pos c5])
    rw [if_neg c5]
    by_cases c6 : (p = 11 ∨ p = 12) ∧ b = 46
    · rw [if_pos c6]; exact go 13 (by omega) (by omega) (by unfold M.inNumber; rw [hp', if_neg c1, if_neg c2, if_neg c3, if_neg c4, if_neg c5, if_pos c6])
    rw [if_neg c6]
    by_cases c7 : (p = 11 ∨ p = 12 ∨ p = 14) ∧ isE b
    · rw [if_pos c7]; exact go 15 (by omega) (by omega) (by unfold M.inNumber; rw [hp', if_neg c1, if_neg c2, if_neg c3, if_neg c4, if_neg c5, if_neg c6, if_pos c7])
    rw [if_neg c7]
    by_cases c8 : ended p = true
    · rw [if_pos c8]
      refine Goes.here h1 ⟨rfl, by rw [hp]; exact c8, fun b' r' e => ?_⟩
      injection e with e1 e2
      subst e1
      rw [hb']; unfold M.inNumber; rw [hp', if_neg c1, if_neg c2, if_neg c3, if_neg c4, if_neg c5, if_neg c6, if_neg c7, if_pos c8]
    · rw [if_neg c8]
      have e : (m.beg b).inNumber b = (m.beg b).fail 0 := by
        unfold M.inNumber; rw [hp', if_neg c1, if_neg c2, if_neg c3, if_neg c4, if_neg c5, if_neg c6, if_neg c7, if_neg c8]
      exact Goes.bad (.inl rfl) (by rw [feed1_open h1, hb', e]; rfl) (by rw [feed1_open h1, hb', e]; rfl)

/-- the rest of a word: not empty -/
theorem word_goes (l : List UInt8) : ∀ (w : List UInt8) (m : M), m.state = 1 → m.pos = 9 → m.rest = w → w ≠ [] →
    Goes m l (word l w) (fun m' _ => m'.stack = m.stack ∧ m'.pos = 5) := by
  induction l with
  | nil =>
    intro w m h1 hp hr hw
    obtain ⟨c, w', rfl⟩ := List.exists_cons_of_ne_nil hw
    refine .inr (.inl ⟨rfl, ?_, rfl⟩)
    show m.tell = 1
    unfold M.tell
    rw [if_neg, h1]
    rw [hp]; rintro ⟨_, _, h⟩; revert h; decide
  | cons b r ih =>
    intro w m h1 hp hr hw
    obtain ⟨c, w', rfl⟩ := List.exists_cons_of_ne_nil hw
    unfold word
    by_cases e : b = c
    · subst e
      rw [if_pos rfl]
      by_cases hw' : w' = []
      · subst hw'
        have : ((word r []).1 + 1, (word r []).2) = add 1 (0, 4) := by cases r <;> rfl
        rw [this]
        refine Goes.one ?_ ?_ ?_ (Goes.here ?_ ⟨?_, ?_⟩)
        all_goals simp [M.feed1, h1, M.byte, hp, M.inWord, hr]
      · refine Goes.one (y := word r w') ?_ ?_ ?_ ((ih w' _ ?_ ?_ ?_ hw').mono ?_)
        all_goals simp [M.feed1, h1, M.byte, hp, M.inWord, hr, hw']
    · rw [if_neg e]
      have e' : ¬ c = b := fun h => e h.symm
      exact Goes.bad (.inl rfl) (by simp [M.feed1, h1, M.byte, hp, M.inWord, hr, e', M.fail]) (by simp [M.feed1, h1, M.byte, hp, M.inWord, hr, e', M.fail])

/-- blanks where nothing turns by them -/
theorem skip_le (l : List UInt8) : skip l ≤ l.length := by
  induction l with
  | nil => simp [skip]
  | cons b r ih => unfold skip; split <;> simp <;> omega
theorem skip_head (l : List UInt8) (b : UInt8) (r : List UInt8) (h : l.drop (skip l) = b :: r) : white b = false := by
  induction l with
  | nil => simp [skip] at h
  | cons c q ih =>
    unfold skip at h
    by_cases e : white c = true
    · rw [if_pos e] at h; exact ih h
    · rw [if_neg e] at h; simp at h; rw [← h.1]; simpa using e
theorem skip_goes (l : List UInt8) : ∀ (m : M), m.state = 1 → (∀ n : M, n.pos = m.pos → ∀ b, white b = true → n.byte b = n) →
    Goes m l (skip l, 4) (fun m' _ => m'.stack = m.stack ∧ m'.pos = m.pos) := by
  induction l with
  | nil => intro m h1 _; exact Goes.here h1 ⟨rfl, rfl⟩
  | cons b r ih =>
    intro m h1 hw
    unfold skip
    by_cases e : white b = true
    · rw [if_pos e]
      have hb := hw (m.beg b) rfl b e
      refine Goes.one (y := (skip r, 4)) ?_ ?_ ?_ ((ih _ ?_ ?_).mono ?_)
      all_goals rw [feed1_open h1, hb]
      all_goals first | exact h1 | exact hw | exact fun _ _ h => h | rfl
    · rw [if_neg e]; exact Goes.here h1 ⟨rfl, rfl⟩

def okB (st : List UInt8) (m : M) (l : List UInt8) : Prop :=
  m.stack = st ∧ (m.pos = 5 ∨ ended m.pos = true) ∧ ∀ b r, l = b :: r → (m.beg b).byte b = (m.beg b).after b
theorem okB_five {m : M} {l : List UInt8} (h : m.pos = 5) : okB m.stack m l := by
  refine ⟨rfl, .inl h, fun b r _ => ?_⟩
  have : (m.beg b).pos = 5 := h
  unfold M.byte
  rw [if_neg (by omega), if_neg (by omega), if_neg (by omega), if_pos this]
theorem okB_number {m m' : M} {l : List UInt8} (h : m'.stack = m.stack ∧ ended m'.pos = true ∧ ∀ b r, l = b :: r → (m'.beg b).byte b = (m'.beg b).after b) : okB m.stack m' l :=
  ⟨h.1, .inr h.2.1, h.2.2⟩
theorem okB_of {st : List UInt8} {m : M} {l : List UInt8} (h1 : m.stack = st) (h : m.pos = 5) : okB st m l := h1 ▸ okB_five h
theorem Goes.chok {m : M} {l : List UInt8} {x : Nat × Nat} {ok ok' : M → List UInt8 → Prop} (h : Goes m l x ok) (h4 : x.2 ≠ 4) : Goes m l x ok' := by
  rcases h with h | h | h
  · exact absurd h.1 h4
  · exact .inr (.inl h)
  · exact .inr (.inr h)
theorem Goes.open {m : M} {l : List UInt8} {n : Nat} {ok : M → List UInt8 → Prop} (h : m.tell = 1) (e : l = []) : Goes m l (n, 1) ok := by
  subst e; exact .inr (.inl ⟨rfl, h, rfl⟩)
/-- the second part is at hand where the first is gone by -/
theorem Goes.then {m : M} {l : List UInt8} {n : Nat} {ok : M → List UInt8 → Prop} {x : Nat × Nat} {ok' : M → List UInt8 → Prop} (h : Goes m l (n, 4) ok) (hx : x.1 = n + (x.1 - n))
    (k : ∀ m' : M, m'.depth = m.depth → m'.state = 1 → m'.place = m.place → ok m' (l.drop n) → Goes m' (l.drop n) (x.1 - n, x.2) ok') : Goes m l x ok' := by
  have := h.seq k
  have e : add n (x.1 - n, x.2) = x := by unfold add; ext <;> simp; omega
  rwa [e] at this

theorem after_white {n : M} (h : n.pos = 5) (b : UInt8) (hb : white b = true) : n.byte b = n := by
  unfold M.byte
  rw [if_neg (by omega), if_neg (by omega), if_neg (by omega), if_pos h]
  unfold M.after; rw [if_pos hb]; cases n; simp at h; simp [h]
theorem behind_goes {st : List UInt8} (l : List UInt8) (m : M) (h1 : m.state = 1) (h : okB st m l) : Goes m l (skip l, 4) (okB st) := by
  cases l with
  | nil => exact Goes.here h1 h
  | cons b r =>
    by_cases e : white b = true
    · have hb : (m.beg b).byte b = { m.beg b with pos := 5 } := by
        rw [h.2.2 b r rfl]; unfold M.after; rw [if_pos e]
      have : skip (b :: r) = skip r + 1 := by rw [skip, if_pos e]
      rw [this]
      refine Goes.one (y := (skip r, 4)) ?_ ?_ ?_ ((skip_goes r _ ?_ ?_).mono ?_)
      all_goals rw [feed1_open h1, hb]
      · rfl
      · rfl
      · exact h1
      · exact h1
      · exact fun n hn b hb => after_white hn b hb
      · rintro m' l' ⟨h2, h3⟩
        exact okB_of (h2.trans h.1) h3
    · have : skip (b :: r) = 0 := by rw [skip, if_neg e]
      rw [this]; exact Goes.here h1 h

def opn (o : Bool) : UInt8 := if o then 123 else 91
def lpos (o one : Bool) : Nat := if o then (if one then 3 else 2) else (if one then 1 else 0)
theorem top_opn {m : M} {st : List UInt8} {o : Bool} (h : m.stack = st ++ [opn o]) : m.top = opn o := by simp [M.top, h]

theorem named_goes {m : M} {b : UInt8} {r : List UInt8} (h1 : m.state = 1) (hp : m.pos = 2 ∨ m.pos = 3) (hw : white b = false) (h3 : m.pos = 3 → b ≠ 125) :
    Goes m (b :: r) (named true (b :: r)) (fun m' _ => m'.stack = m.stack ∧ m'.pos = 0) := by
  have hb : (m.beg b).byte b = (m.beg b).names b := by
    have : (m.beg b).pos = m.pos := rfl
    unfold M.byte; rw [if_neg (by omega), if_pos (by omega)]
  by_cases c : b = 34
  · have hb2 : (m.beg b).byte b = { m.beg b with pos := 6, key := true } := by rw [hb]; unfold M.names; rw [if_neg (by simp [hw]), if_pos c]
    have hq : Goes m (b :: r) (add 1 (quote 0 r)) (fun m' _ => m'.stack = m.stack ∧ m'.pos = 4) := by
      refine Goes.one ?_ ?_ ?_ ((quote_goes r 0 _ ?_ ?_ ?_ ?_).mono ?_)
      all_goals try rw [feed1_open h1, hb2]
      all_goals first | rfl | exact h1 | exact fun _ _ h => h | (intro h; omega) | omega
    simp only [named]
    rw [if_neg (by simp [c])]
    by_cases q : (quote 0 r).2 = 4
    · rw [if_neg (by simp [q])]
      have eq : add 1 (quote 0 r) = (1 + (quote 0 r).1, 4) := by unfold add; rw [q, Nat.add_comm]
      rw [eq] at hq
      generalize hn : (quote 0 r).1 = n at *
      have hdrop : (b :: r).drop (1 + n) = r.drop n := by rw [Nat.add_comm]; rfl
      have hk : Goes m (b :: r) (1 + n + skip (r.drop n), 4) (fun m' _ => m'.stack = m.stack ∧ m'.pos = 4) := by
        have := hq.seq (y := (skip (r.drop n), 4)) (ok' := fun m' _ => m'.stack = m.stack ∧ m'.pos = 4) (fun m' _ hs _ ho => by
          rw [hdrop]
          refine (skip_goes (r.drop n) m' hs (fun k hk b hb => ?_)).mono (fun _ _ h => ⟨h.1.trans ho.1, h.2.trans ho.2⟩)
          unfold M.byte
          rw [if_neg (by omega), if_neg (by omega), if_pos (by omega), if_pos hb])
        simpa [add, Nat.add_comm] using this
      have hd2 : (b :: r).drop (1 + n + skip (r.drop n)) = (r.drop n).drop (skip (r.drop n)) := by rw [← List.drop_drop, hdrop]
      split
      · rename_i e
        refine hk.then (by simp) (fun m' _ hs _ ho => Goes.open ?_ (by rw [hd2]; exact e))
        unfold M.tell; rw [if_neg, hs]
        rw [ho.2]; rintro ⟨_, _, h⟩; revert h; decide
      · rename_i c' q' e
        have hwc := skip_head _ _ _ e
        have hpos : ∀ m' : M, m'.pos = 4 → (m'.beg c').byte c' = if c' = 58 then { m'.beg c' with pos := 0 } else (m'.beg c').fail 0 := by
          intro m' h
          have : (m'.beg c').pos = 4 := h
          unfold M.byte
          rw [if_neg (by omega), if_neg (by omega), if_pos this, if_neg (by simp [hwc])]
        by_cases c58 : c' = 58
        · rw [if_neg (by simp [c58])]
          refine hk.then (by simp) (fun m' _ hs _ ho => ?_)
          rw [hd2, e]
          have hbb := hpos m' ho.2
          rw [if_pos c58] at hbb
          have : ((1 + n + skip (r.drop n) + 1, 4).1 - (1 + n + skip (r.drop n)), (1 + n + skip (r.drop n) + 1, 4).2) = add 1 (0, 4) := by simp [add]
          rw [this]
          refine Goes.one ?_ ?_ ?_ (Goes.here ?_ ⟨?_, ?_⟩)
          all_goals rw [feed1_open hs, hbb]
          · rfl
          · rfl
          · exact hs
          · exact hs
          · exact ho.1
        · rw [if_pos c58]
          refine hk.then (by simp) (fun m' _ hs _ ho => ?_)
          rw [hd2, e]
          have hbb := hpos m' ho.2
          rw [if_neg c58] at hbb
          simp only [Nat.sub_self]
          exact Goes.bad (.inl rfl) (by rw [feed1_open hs, hbb]; rfl) (by rw [feed1_open hs, hbb]; rfl)
    · rw [if_pos q]; exact hq.chok (by simpa [add] using q)
  · simp only [named]
    rw [if_pos c]
    have hb2 : (m.beg b).byte b = (m.beg b).fail 0 := by
      rw [hb]; unfold M.names
      rw [if_neg (by simp [hw]), if_neg c, if_neg (fun h => h3 h.2 h.1)]
    exact Goes.bad (.inl rfl) (by rw [feed1_open h1, hb2]; rfl) (by rw [feed1_open h1, hb2]; rfl)

theorem tell_open {m : M} (h1 : m.state = 1) (h : m.stack ≠ []) : m.tell = 1 := by
  unfold M.tell; rw [if_neg (fun x => h x.2.1), h1]
theorem tell_open' {m : M} (h1 : m.state = 1) (h : m.pos ≤ 10) (h5 : m.pos ≠ 5) : m.tell = 1 := by
  unfold M.tell; rw [if_neg, h1]
  rintro ⟨_, _, x | x⟩
  · exact h5 x
  · unfold ended at x; simp at x; omega
theorem behindElem_goes {st : List UInt8} {o : Bool} {next : List UInt8 → Nat × Nat} {m : M} {l : List UInt8} (h1 : m.state = 1) (h : okB (st ++ [opn o]) m l)
    (hn : ∀ (c : UInt8) (q : List UInt8) (m' : M), l.drop (skip l) = c :: q → m'.state = 1 → m'.stack = st ++ [opn o] → m'.depth = m.depth → m'.pos = lpos o false → Goes m' q (next q) (okB st)) :
    Goes m l (behindElem o next l) (okB st) := by
  have hk := behind_goes l m h1 h
  unfold behindElem
  split
  · rename_i e
    refine hk.then (by simp) (fun m' _ hs _ ho => Goes.open ?_ e)
    exact tell_open hs (by rw [ho.1]; simp)
  · rename_i c q e
    have hw := skip_head _ _ _ e
    have key : ∀ m' : M, okB (st ++ [opn o]) m' (l.drop (skip l)) → (m'.beg c).byte c = if c = close o then { m'.beg c with stack := st, pos := 5 } else if c = 44 then { m'.beg c with pos := lpos o false } else ({ m'.beg c with pos := 5 } : M).fail 0 := by
      intro m' ho
      rw [ho.2.2 c q e]
      have ht : ({ m'.beg c with pos := 5 } : M).top = opn o := by
        have : ({ m'.beg c with pos := 5 } : M).stack = st ++ [opn o] := ho.1
        exact top_opn this
      have hst : (m'.beg c).stack = st ++ [opn o] := ho.1
      unfold M.after
      simp only [ht, hw, M.pop, hst, List.dropLast_concat]
      cases o <;> by_cases c1 : c = 44 <;> by_cases c2 : c = 93 <;> by_cases c3 : c = 125 <;> simp_all [opn, close, lpos]
    by_cases c1 : c = close o
    · rw [if_pos c1]
      refine hk.then (by simp) (fun m' _ hs _ ho => ?_)
      have hb := key m' ho
      rw [if_pos c1] at hb
      rw [e]
      have : ((skip l + 1, 4).1 - skip l, (skip l + 1, 4).2) = add 1 (0, 4) := by simp [add]
      rw [this]
      refine Goes.one ?_ ?_ ?_ (Goes.here ?_ (okB_of ?_ ?_))
      all_goals rw [feed1_open hs, hb]
      all_goals first | rfl | exact hs
    · rw [if_neg c1]
      by_cases c2 : c = 44
      · rw [if_neg (by simp [c2])]
        have : add (skip l + 1) (next q) = add (skip l) (add 1 (next q)) := by simp [add]; omega
        rw [this]
        refine hk.seq (fun m' hd hs _ ho => ?_)
        have hb := key m' ho
        rw [if_neg c1, if_pos c2] at hb
        rw [e]
        refine Goes.one ?_ ?_ ?_ (hn c q _ e ?_ ?_ ?_ ?_)
        all_goals rw [feed1_open hs, hb]
        all_goals first | rfl | exact hs | exact ho.1 | exact hd
      · rw [if_pos c2]
        refine hk.then (by simp) (fun m' _ hs _ ho => ?_)
        have hb := key m' ho
        rw [if_neg c1, if_neg c2] at hb
        rw [e]
        simp only [Nat.sub_self]
        exact Goes.bad (.inl rfl) (by rw [feed1_open hs, hb]; rfl) (by rw [feed1_open hs, hb]; rfl)

/-- where a value may begin -/
def vpos (m : M) (l : List UInt8) : Prop := m.pos = 0 ∨ (m.pos = 1 ∧ ∀ b r, l.drop (skip l) = b :: r → b ≠ 93)
theorem list_goes {st : List UInt8} {o : Bool} {D : Nat} {val : List UInt8 → Nat × Nat}
    (hval : ∀ (m : M) (l : List UInt8), m.state = 1 → m.stack = st ++ [opn o] → m.depth = D → vpos m l → Goes m l (val l) (okB (st ++ [opn o]))) :
    ∀ (f : Nat) (l : List UInt8) (one : Bool) (m : M), l.length < f → m.state = 1 → m.stack = st ++ [opn o] → m.depth = D → m.pos = lpos o one →
      Goes m l (list val o f one l) (okB st) := by
  intro f
  induction f with
  | zero => intro l one m h; omega
  | succ f ih =>
    intro l one m hf h1 hst hd hp
    have hwhite : ∀ n : M, n.pos = m.pos → ∀ b, white b = true → n.byte b = n := by
      intro n hn b hb
      rw [hp] at hn
      unfold M.byte M.names
      rw [hn]
      cases o <;> cases one <;> simp [lpos, hb]
    have hk := skip_goes l m h1 hwhite
    unfold list
    split
    · rename_i e
      refine hk.then (by simp) (fun m' _ hs _ ho => Goes.open ?_ e)
      exact tell_open hs (by rw [ho.1, hst]; simp)
    · rename_i b r e
      have hw := skip_head _ _ _ e
      have hlen : r.length + 1 ≤ l.length := by
        have := congrArg List.length e; simp at this; omega
      by_cases c : one = true ∧ b = close o
      · rw [if_pos c]
        refine hk.then (by simp) (fun m' _ hs _ ho => ?_)
        rw [e]
        have hpp : (m'.beg b).pos = lpos o one := ho.2.trans hp
        have hss : (m'.beg b).stack = st ++ [opn o] := ho.1.trans hst
        have hb : (m'.beg b).byte b = { m'.beg b with stack := st, pos := 5 } := by
          unfold M.byte M.names M.pop
          rw [hpp, hss]
          obtain ⟨rfl, rfl⟩ := c
          cases o <;> simp [lpos, close, white]
        have : ((skip l + 1, 4).1 - skip l, (skip l + 1, 4).2) = add 1 (0, 4) := by simp [add]
        rw [this]
        refine Goes.one ?_ ?_ ?_ (Goes.here ?_ (okB_of ?_ ?_))
        all_goals rw [feed1_open hs, hb]
        all_goals first | rfl | exact hs
      · rw [if_neg c]
        refine hk.seq (fun m' hd' hs _ ho => ?_)
        rw [e]
        have hpp : m'.pos = lpos o one := ho.2.trans hp
        have hss : m'.stack = st ++ [opn o] := ho.1.trans hst
        have hname : Goes m' (b :: r) (named o (b :: r)) (fun m2 _ => m2.stack = st ++ [opn o] ∧ ((o = true ∧ m2.pos = 0) ∨ (o = false ∧ m2.pos = lpos o one))) := by
          cases o with
          | true =>
            refine (named_goes hs ?_ hw ?_).mono (fun _ _ h => ⟨h.1.trans hss, .inl ⟨rfl, h.2⟩⟩)
            · rw [hpp]; cases one <;> simp [lpos]
            · intro h3 h4
              rw [hpp] at h3
              cases one with
              | true => exact c ⟨rfl, h4⟩
              | false => simp [lpos] at h3
          | false => exact Goes.here hs ⟨hss, .inr ⟨rfl, hpp⟩⟩
        by_cases c4 : (named o (b :: r)).2 = 4
        · rw [if_neg (by simp [c4])]
          have eqn : named o (b :: r) = ((named o (b :: r)).1, 4) := by rw [← c4]
          rw [eqn] at hname
          have hn0 : o = false → (named o (b :: r)).1 = 0 := by rintro rfl; rfl
          generalize (named o (b :: r)).1 = n at *
          refine hname.seq (fun m2 hd2 hs2 _ ho2 => ?_)
          have hv : vpos m2 ((b :: r).drop n) := by
            rcases ho2.2 with ⟨_, h⟩ | ⟨h, h'⟩
            · exact .inl h
            · subst h
              cases one with
              | false => exact .inl h'
              | true =>
                refine .inr ⟨h', fun b' r' hbr => ?_⟩
                rw [hn0 rfl] at hbr
                have : skip (b :: r) = 0 := by rw [skip, if_neg (by simp [hw])]
                simp only [List.drop_zero, this] at hbr
                injection hbr with h1 h2
                rintro rfl
                exact c ⟨rfl, h1⟩
          have hg := hval m2 ((b :: r).drop n) hs2 ho2.1 ((hd2.trans hd').trans hd) hv
          have hl1 : ((b :: r).drop n).length ≤ r.length + 1 := by simp
          generalize hl : (b :: r).drop n = l1 at *
          simp only
          by_cases cv : (val l1).2 = 4
          · rw [if_neg (by simp [cv])]
            have eqv : val l1 = ((val l1).1, 4) := by rw [← cv]
            rw [eqv] at hg
            refine hg.seq (fun m3 hd3 hs3 _ ho3 => ?_)
            refine behindElem_goes hs3 ho3 (fun c' q' m4 e4 hs4 hst4 hd4 hp4 => ?_)
            refine ih q' false m4 ?_ hs4 hst4 ?_ hp4
            · have := congrArg List.length e4
              simp at this
              omega
            · rw [hd4, hd3, hd2, hd', hd]
          · rw [if_pos cv]; exact hg.chok cv
        · rw [if_pos c4]; exact hname.chok c4

theorem flat_goes {m : M} {b : UInt8} {r : List UInt8} (h1 : m.state = 1) (hp : m.pos = 0 ∨ (m.pos = 1 ∧ b ≠ 93)) (hw : white b = false) (c1 : b ≠ 91) (c2 : b ≠ 123) :
    Goes m (b :: r) (value.flat b r) (okB m.stack) := by
  have hb : (m.beg b).byte b = (m.beg b).first b := by
    have : (m.beg b).pos = m.pos := rfl
    unfold M.byte
    rw [if_pos (by omega), if_neg (by simp [hw]), if_neg (by rintro ⟨x, y⟩; rcases hp with h | h; omega; exact h.2 x)]
  unfold value.flat
  unfold M.first at hb
  rw [if_neg c1, if_neg c2] at hb
  by_cases d1 : b = 34
  · rw [if_pos d1] at hb ⊢
    refine Goes.one ?_ ?_ ?_ ((quote_goes r 0 _ ?_ ?_ ?_ ?_).mono ?_)
    all_goals try rw [feed1_open h1, hb]
    all_goals first | rfl | exact h1 | (intro h; omega) | omega | exact fun _ _ h => okB_of h.1 h.2
  rw [if_neg d1] at hb ⊢
  by_cases d2 : b = 45
  · rw [if_pos d2] at hb ⊢
    refine Goes.one ?_ ?_ ?_ ((number_goes r 10 _ ?_ ?_ ?_ ?_).mono ?_)
    all_goals try rw [feed1_open h1, hb]
    all_goals first | rfl | exact h1 | omega | exact fun _ _ h => ⟨h.1, .inr h.2.1, h.2.2⟩
  rw [if_neg d2] at hb ⊢
  by_cases d3 : b = 48
  · rw [if_pos d3] at hb
    have hdig : digit b = true := by rw [d3]; decide
    have : number 10 (b :: r) = add 1 (number 11 r) := by rw [number, if_pos ⟨rfl, d3⟩]
    rw [if_pos hdig, this]
    refine Goes.one ?_ ?_ ?_ ((number_goes r 11 _ ?_ ?_ ?_ ?_).mono ?_)
    all_goals try rw [feed1_open h1, hb]
    all_goals first | rfl | exact h1 | omega | exact fun _ _ h => ⟨h.1, .inr h.2.1, h.2.2⟩
  rw [if_neg d3] at hb
  by_cases d4 : digit b = true
  · rw [if_pos d4] at hb ⊢
    have : number 10 (b :: r) = add 1 (number 12 r) := by rw [number, if_neg (fun x => d3 x.2), if_pos ⟨.inl rfl, d4⟩]
    rw [this]
    refine Goes.one ?_ ?_ ?_ ((number_goes r 12 _ ?_ ?_ ?_ ?_).mono ?_)
    all_goals try rw [feed1_open h1, hb]
    all_goals first | rfl | exact h1 | omega | exact fun _ _ h => ⟨h.1, .inr h.2.1, h.2.2⟩
  rw [if_neg d4] at hb ⊢
  have wd : ∀ w : List UInt8, w ≠ [] → (m.beg b).byte b = { m.beg b with pos := 9, rest := w } → Goes m (b :: r) (word (b :: r) (b :: w)) (okB m.stack) := by
    intro w hne h
    have : word (b :: r) (b :: w) = add 1 (word r w) := by rw [word, if_pos rfl]; rfl
    rw [this]
    refine Goes.one ?_ ?_ ?_ ((word_goes r w _ ?_ ?_ ?_ hne).mono ?_)
    all_goals try rw [feed1_open h1, h]
    all_goals first | rfl | exact h1 | exact fun _ _ h => okB_of h.1 h.2
  by_cases d5 : b = 116
  · rw [if_pos d5] at hb ⊢; subst d5; exact wd _ (by simp) hb
  rw [if_neg d5] at hb ⊢
  by_cases d6 : b = 102
  · rw [if_pos d6] at hb ⊢; subst d6; exact wd _ (by simp) hb
  rw [if_neg d6] at hb ⊢
  by_cases d7 : b = 110
  · rw [if_pos d7] at hb ⊢; subst d7; exact wd _ (by simp) hb
  rw [if_neg d7] at hb ⊢
  exact Goes.bad (.inl rfl) (by rw [feed1_open h1, hb]; rfl) (by rw [feed1_open h1, hb]; rfl)

theorem value_skip {m : M} {l : List UInt8} (h1 : m.state = 1) (hp : vpos m l) : Goes m l (skip l, 4) (fun m' _ => m'.stack = m.stack ∧ m'.pos = m.pos) := by
  refine skip_goes l m h1 (fun n hn b hb => ?_)
  unfold M.byte
  rw [if_pos (by rcases hp with h | h <;> omega), if_pos hb]
theorem value_goes (D : Nat) : ∀ (d : Nat) (st : List UInt8), st.length + d = D → ∀ (m : M) (l : List UInt8), m.state = 1 → m.stack = st → m.depth = D → vpos m l →
    Goes m l (value d l) (okB st) := by
  intro d
  induction d with
  | zero =>
    intro st hD m l h1 hst hd hp
    have hk := value_skip h1 hp
    unfold value
    split
    · rename_i e
      refine hk.then (by simp) (fun m' _ hs _ ho => Goes.open ?_ e)
      have : m'.pos = m.pos := ho.2
      exact tell_open' hs (by rcases hp with h | h <;> omega) (by rcases hp with h | h <;> omega)
    · rename_i b r e
      have hw := skip_head _ _ _ e
      have hpos : ∀ m' : M, m'.pos = m.pos → (m'.pos = 0 ∨ (m'.pos = 1 ∧ b ≠ 93)) := by
        intro m' h
        rcases hp with h' | ⟨h', h''⟩
        · exact .inl (h.trans h')
        · exact .inr ⟨h.trans h', h'' b r e⟩
      by_cases c : b = 91 ∨ b = 123
      · rw [if_pos c]
        refine hk.then (by simp) (fun m' hd' hs _ ho => ?_)
        rw [e]
        simp only [Nat.sub_self]
        have hb : (m'.beg b).byte b = (m'.beg b).fail 3 := by
          have hx := hpos (m'.beg b) ho.2
          unfold M.byte
          rw [if_pos (by omega), if_neg (by simp [hw]), if_neg (by rintro ⟨x, y⟩; rcases hx with h | h; omega; exact h.2 x)]
          have hlen : (m'.beg b).stack.length = (m'.beg b).depth := by
            show m'.stack.length = m'.depth
            rw [ho.1, hst, hd', hd]; omega
          unfold M.first M.push
          rcases c with rfl | rfl <;> simp [hlen]
        exact Goes.bad (.inr rfl) (by rw [feed1_open hs, hb]; rfl) (by rw [feed1_open hs, hb]; rfl)
      · rw [if_neg c]
        refine hk.seq (fun m' hd' hs _ ho => ?_)
        rw [e]
        have := flat_goes (r := r) hs (hpos m' ho.2) hw (fun h => c (.inl h)) (fun h => c (.inr h))
        rwa [ho.1, hst] at this
  | succ d ih =>
    intro st hD m l h1 hst hd hp
    have hk := value_skip h1 hp
    unfold value
    split
    · rename_i e
      refine hk.then (by simp) (fun m' _ hs _ ho => Goes.open ?_ e)
      have : m'.pos = m.pos := ho.2
      exact tell_open' hs (by rcases hp with h | h <;> omega) (by rcases hp with h | h <;> omega)
    · rename_i b r e
      have hw := skip_head _ _ _ e
      have hpos : ∀ m' : M, m'.pos = m.pos → (m'.pos = 0 ∨ (m'.pos = 1 ∧ b ≠ 93)) := by
        intro m' h
        rcases hp with h' | ⟨h', h''⟩
        · exact .inl (h.trans h')
        · exact .inr ⟨h.trans h', h'' b r e⟩
      by_cases c : b = 91 ∨ b = 123
      · rw [if_pos c]
        have : add (skip l + 1) (list (value d) (b == 123) (r.length + 1) true r) = add (skip l) (add 1 (list (value d) (b == 123) (r.length + 1) true r)) := by simp [add]; omega
        rw [this]
        refine hk.seq (fun m' hd' hs _ ho => ?_)
        rw [e]
        have hb : (m'.beg b).byte b = { m'.beg b with stack := st ++ [opn (b == 123)], pos := lpos (b == 123) true } := by
          have hx := hpos (m'.beg b) ho.2
          have hstk : (m'.beg b).stack = st := ho.1.trans hst
          unfold M.byte
          rw [if_pos (by omega), if_neg (by simp [hw]), if_neg (by rintro ⟨x, y⟩; rcases hx with h | h; omega; exact h.2 x)]
          have hlen : ¬ (m'.beg b).stack.length = (m'.beg b).depth := by
            show ¬ m'.stack.length = m'.depth
            rw [ho.1, hst, hd', hd]; omega
          unfold M.first M.push
          rw [hstk] at hlen ⊢
          rcases c with rfl | rfl <;> simp [hlen, opn, lpos]
        refine Goes.one ?_ ?_ ?_ (list_goes (st := st) (o := b == 123) (D := D) (ih (st ++ [opn (b == 123)]) (by simp; omega)) (r.length + 1) r true _ (by omega) ?_ ?_ ?_ ?_)
        all_goals rw [feed1_open hs, hb]
        all_goals first | rfl | exact hs | exact hd'.trans hd
      · rw [if_neg c]
        refine hk.seq (fun m' hd' hs _ ho => ?_)
        rw [e]
        have := flat_goes (r := r) hs (hpos m' ho.2) hw (fun h => c (.inl h)) (fun h => c (.inr h))
        rwa [ho.1, hst] at this

/-- THE LAW: the machine tells what the reference tells. -/
theorem whole_eq (l : List UInt8) (d : Nat) : (((M.start d).feed l).tell, ((M.start d).feed l).place) = whole l d := by
  have h := value_goes d d [] (by simp) (M.start d) l rfl rfl rfl (.inl rfl)
  unfold whole
  rcases h with ⟨h4, hn, m', hf, hd, hs, hp, he, ho⟩ | ⟨h1, ht, hp⟩ | ⟨h0, hs, hp, hl⟩
  · simp only [h4]
    rw [if_neg (by decide), if_neg (by decide)]
    rw [hf]
    have hk := behind_goes _ m' hs ho
    generalize hl2 : l.drop (value d l).1 = l2 at *
    have hlen : l2.length = l.length - (value d l).1 := by rw [← hl2]; simp
    rcases hk with ⟨_, hn2, m2, hf2, hd2, hs2, hp2, he2, ho2⟩ | ⟨h, _⟩ | ⟨h, _⟩
    · simp only at hn2 hf2 he2 ho2
      rw [hf2]
      cases e : l2.drop (skip l2) with
      | nil =>
        have : ¬ ((value d l).1 + skip l2 < l.length) := by
          have := congrArg List.length e; simp at this; omega
        rw [if_neg this]
        show (m2.tell, m2.place) = (2, -1)
        have : m2.tell = 2 := by
          unfold M.tell; rw [if_pos ⟨hs2, ho2.1, ho2.2.1⟩]
        rw [this, hp2, hp]; rfl
      | cons c q =>
        have : (value d l).1 + skip l2 < l.length := by
          have := congrArg List.length e; simp at this; omega
        rw [if_pos this]
        have hw := skip_head _ _ _ e
        have hb : (m2.beg c).byte c = ({ m2.beg c with pos := 5 } : M).fail 0 := by
          rw [ho2.2.2 c q e]
          have ht : ({ m2.beg c with pos := 5 } : M).top = 0 := by
            have : ({ m2.beg c with pos := 5 } : M).stack = [] := ho2.1
            unfold M.top; rw [this]; rfl
          unfold M.after
          simp [ht, hw]
        rw [feed_cons]
        have hst : (m2.feed1 c).state = 0 := by rw [feed1_open hs2, hb]; rfl
        have hpl : (m2.feed1 c).place = m2.seen := by rw [feed1_open hs2, hb]; rfl
        have := feed_stuck q (m2.feed1 c) (by omega)
        have ht : ((m2.feed1 c).feed q).tell = 0 := by
          unfold M.tell; rw [if_neg (fun x => by rw [this.1, hst] at x; omega), this.1, hst]
        rw [ht, this.2, hpl, he2, he]
        simp [M.start]
    · simp at h
    · simp at h
  · rw [if_pos h1, ht, hp]; rfl
  · rw [if_neg (by rcases h0 with h | h <;> omega), if_pos (by rcases h0 with h | h <;> omega)]
    have : ((M.start d).feed l).tell = (value d l).2 := by
      unfold M.tell; rw [if_neg (fun x => by rw [hs] at x; rcases h0 with h | h <;> omega), hs]
    rw [this, hp]; simp [M.start]

/-! What holds of each machine that bytes are fed to. -/
structure JWF (m : M) : Prop where
  hex : m.hex ≤ 4
  hex1 : m.pos = 8 → 1 ≤ m.hex
  rest : m.pos = 9 → m.rest ≠ []
  rlen : m.rest.length ≤ 5
  first : m.pos = 1 ∨ m.pos = 3 → m.stack ≠ []
  len : m.stack.length ≤ m.depth
  depth : m.depth ≤ 200
  pos : m.pos ≤ 17
  state : m.state ≤ 3
theorem JWF.at {m : M} (h : JWF m) (p : Nat) (hp : p ≤ 17) (h1 : p ≠ 1) (h3 : p ≠ 3) (h8 : p ≠ 8) (h9 : p ≠ 9) : JWF { m with pos := p } :=
  ⟨h.hex, fun e => absurd e h8, fun e => absurd e h9, h.rlen, fun e => by rcases e with e | e; exact absurd e h1; exact absurd e h3, h.len, h.depth, hp, h.state⟩
theorem JWF.fail {m : M} (h : JWF m) (s : Nat) (hs : s ≤ 3) : JWF (m.fail s) := ⟨h.hex, h.hex1, h.rest, h.rlen, h.first, h.len, h.depth, h.pos, hs⟩
theorem JWF.pop {m : M} (h : JWF m) : JWF m.pop :=
  ⟨h.hex, fun e => by simp [M.pop] at e, fun e => by simp [M.pop] at e, h.rlen, fun e => by simp [M.pop] at e, by have := h.len; simp [M.pop]; omega, h.depth, by simp [M.pop], h.state⟩
theorem JWF.push {m : M} (h : JWF m) (b : UInt8) (p : Nat) (hp : p ≤ 17) (h8 : p ≠ 8) (h9 : p ≠ 9) : JWF (m.push b p) := by
  unfold M.push
  split
  · exact h.fail 3 (by omega)
  · exact ⟨h.hex, fun e => absurd e h8, fun e => absurd e h9, h.rlen, fun _ => by simp, by have := h.len; simp; omega, h.depth, hp, h.state⟩
theorem JWF.key {m : M} (h : JWF m) (k : Bool) : JWF { m with key := k } := ⟨h.hex, h.hex1, h.rest, h.rlen, h.first, h.len, h.depth, h.pos, h.state⟩
theorem JWF.beg {m : M} (h : JWF m) (b : UInt8) : JWF (m.beg b) := ⟨h.hex, h.hex1, h.rest, h.rlen, h.first, h.len, h.depth, h.pos, h.state⟩
theorem JWF.saw {m : M} (h : JWF m) (n : Nat) : JWF { m with seen := n } := ⟨h.hex, h.hex1, h.rest, h.rlen, h.first, h.len, h.depth, h.pos, h.state⟩
theorem JWF.after {m : M} (h : JWF m) (b : UInt8) : JWF (m.after b) := by
  have h5 := h.at 5 (by omega) (by omega) (by omega) (by omega) (by omega)
  unfold M.after
  simp only
  repeat' split
  · exact h5
  · exact h.at 0 (by omega) (by omega) (by omega) (by omega) (by omega)
  · exact h.at 2 (by omega) (by omega) (by omega) (by omega) (by omega)
  · exact h5.pop
  · exact h5.fail 0 (by omega)
theorem jwf_ite {c : Prop} [Decidable c] {a b : M} (h1 : JWF a) (h2 : JWF b) : JWF (if c then a else b) := by split <;> assumption
theorem JWF.byte {m : M} (h : JWF m) (b : UInt8) : JWF (m.byte b) := by
  unfold M.byte
  by_cases c1 : m.pos = 0 ∨ m.pos = 1
  · rw [if_pos c1]
    unfold M.first
    have w : ∀ r : List UInt8, r ≠ [] → r.length ≤ 5 → JWF { m with pos := 9, rest := r } := fun r hr hl =>
      ⟨h.hex, fun e => by simp at e, fun _ => hr, hl, fun e => by simp at e, h.len, h.depth, by simp, h.state⟩
    repeat' (with_reducible refine jwf_ite ?_ ?_)
    · exact h
    · exact h.pop
    · exact h.push _ _ (by omega) (by omega) (by omega)
    · exact h.push _ _ (by omega) (by omega) (by omega)
    · exact (h.at 6 (by omega) (by omega) (by omega) (by omega) (by omega)).key false
    · exact h.at 10 (by omega) (by omega) (by omega) (by omega) (by omega)
    · exact h.at 11 (by omega) (by omega) (by omega) (by omega) (by omega)
    · exact h.at 12 (by omega) (by omega) (by omega) (by omega) (by omega)
    · exact w _ (by simp) (by simp)
    · exact w _ (by simp) (by simp)
    · exact w _ (by simp) (by simp)
    · exact h.fail 0 (by omega)
  rw [if_neg c1]
  by_cases c2 : m.pos = 2 ∨ m.pos = 3
  · rw [if_pos c2]
    unfold M.names
    repeat' split
    · exact h
    · exact (h.at 6 (by omega) (by omega) (by omega) (by omega) (by omega)).key true
    · exact h.pop
    · exact h.fail 0 (by omega)
  rw [if_neg c2]
  by_cases c3 : m.pos = 4
  · rw [if_pos c3]
    repeat' split
    · exact h
    · exact h.at 0 (by omega) (by omega) (by omega) (by omega) (by omega)
    · exact h.fail 0 (by omega)
  rw [if_neg c3]
  by_cases c4 : m.pos = 5
  · rw [if_pos c4]; exact h.after b
  rw [if_neg c4]
  by_cases c5 : m.pos = 6
  · rw [if_pos c5]
    unfold M.inText
    repeat' split
    · exact h.at 4 (by omega) (by omega) (by omega) (by omega) (by omega)
    · exact h.at 5 (by omega) (by omega) (by omega) (by omega) (by omega)
    · exact h.at 7 (by omega) (by omega) (by omega) (by omega) (by omega)
    · exact h.fail 0 (by omega)
    · exact h
  rw [if_neg c5]
  by_cases c6 : m.pos = 7
  · rw [if_pos c6]
    unfold M.inSlash
    repeat' split
    · exact ⟨by simp, fun _ => by simp, fun e => by simp at e, h.rlen, fun e => by simp at e, h.len, h.depth, by simp, h.state⟩
    · exact h.at 6 (by omega) (by omega) (by omega) (by omega) (by omega)
    · exact h.fail 0 (by omega)
  rw [if_neg c6]
  by_cases c7 : m.pos = 8
  · rw [if_pos c7]
    unfold M.inUnicode
    have := h.hex
    repeat' split
    · exact ⟨by simp; omega, fun e => by simp at e, fun e => by simp at e, h.rlen, fun e => by simp at e, h.len, h.depth, by simp, h.state⟩
    · exact ⟨by simp; omega, fun _ => by simp; omega, fun e => by simp [c7] at e, h.rlen, fun e => by simp [c7] at e, h.len, h.depth, h.pos, h.state⟩
    · exact h.fail 0 (by omega)
  rw [if_neg c7]
  by_cases c8 : m.pos = 9
  · rw [if_pos c8]
    unfold M.inWord
    have := h.rlen
    repeat' split
    · exact ⟨h.hex, fun e => by simp at e, fun e => by simp at e, by simp; omega, fun e => by simp at e, h.len, h.depth, by simp, h.state⟩
    · exact ⟨h.hex, fun e => by simp [c8] at e, fun _ => by assumption, by simp; omega, fun e => by simp [c8] at e, h.len, h.depth, h.pos, h.state⟩
    · exact h.fail 0 (by omega)
  rw [if_neg c8]
  unfold M.inNumber
  repeat' split
  · exact h.at 11 (by omega) (by omega) (by omega) (by omega) (by omega)
  · exact h.at 12 (by omega) (by omega) (by omega) (by omega) (by omega)
  · exact h.at 14 (by omega) (by omega) (by omega) (by omega) (by omega)
  · exact h.at 17 (by omega) (by omega) (by omega) (by omega) (by omega)
  · exact h.at 16 (by omega) (by omega) (by omega) (by omega) (by omega)
  · exact h.at 13 (by omega) (by omega) (by omega) (by omega) (by omega)
  · exact h.at 15 (by omega) (by omega) (by omega) (by omega) (by omega)
  · exact h.after b
  · exact h.fail 0 (by omega)
theorem JWF.feed1 {m : M} (h : JWF m) (b : UInt8) : JWF (m.feed1 b) := by
  unfold M.feed1
  simp only
  split
  · exact ((h.beg b).byte b).saw _
  · exact (h.beg b).saw _
theorem JWF.feed {l : List UInt8} : ∀ {m : M}, JWF m → JWF (m.feed l) := by
  induction l with
  | nil => intro m h; exact h
  | cons b r ih => intro m h; exact ih (h.feed1 b)
theorem JWF.start {d : Nat} (h : d ≤ 200) : JWF (M.start d) := ⟨by simp [M.start], fun _ => by simp_all [M.start], fun _ => by simp_all [M.start], by simp [M.start], fun e => by simp [M.start] at e, by simp [M.start], h, by simp [M.start], by simp [M.start]⟩
theorem seen_feed (l : List UInt8) : ∀ m : M, (m.feed l).seen = m.seen + l.length := by
  induction l with
  | nil => intro m; rfl
  | cons b r ih => intro m; rw [feed_cons, ih, seen_feed1]; simp; omega
theorem depth_feed1 (m : M) (b : UInt8) : (m.feed1 b).depth = m.depth := by
  have : ∀ n : M, (n.byte b).depth = n.depth := by
    intro n
    unfold M.byte M.names M.inText M.inSlash M.inUnicode M.inWord M.first M.inNumber M.after M.push M.pop M.fail
    simp only [apply_ite M.depth, ite_self]
  unfold M.feed1
  simp only
  split
  · exact this _
  · rfl
theorem depth_feed (l : List UInt8) : ∀ m : M, (m.feed l).depth = m.depth := by
  induction l with
  | nil => intro m; rfl
  | cons b r ih => intro m; rw [feed_cons, ih, depth_feed1]
/-- the first byte but what parts -/
theorem begun_byte (m : M) (b : UInt8) : (m.byte b).begun = m.begun := by
  unfold M.byte M.names M.inText M.inSlash M.inUnicode M.inWord M.first M.inNumber M.after M.push M.pop M.fail
  simp only [apply_ite M.begun, ite_self]
theorem begun_feed (l : List UInt8) : ∀ m : M, (m.feed l).begun = (m.begun || decide (skip l < l.length)) := by
  induction l with
  | nil => intro m; simp [feed_nil]
  | cons b r ih =>
    intro m
    have h1 : (m.feed1 b).begun = (m.begun || !white b) := by
      unfold M.feed1; simp only; split
      · rw [begun_byte]
      · rfl
    have hs : skip (b :: r) = if white b = true then skip r + 1 else 0 := rfl
    rw [feed_cons, ih, h1, hs]
    by_cases e : white b = true
    · simp [e]
    · simp [e]
/-- where it is bad, once it is -/
theorem place_byte (m : M) (b : UInt8) (h1 : m.state = 1) : (m.byte b).state = 1 ∧ (m.byte b).place = m.place ∨ (m.byte b).state ≠ 1 ∧ (m.byte b).place = m.seen := by
  have hf : ∀ s : Nat, s ≠ 1 → (m.fail s).state ≠ 1 ∧ (m.fail s).place = m.seen := fun s hs => ⟨hs, rfl⟩
  have hp : ∀ (c : UInt8) (p : Nat), (m.push c p).state = 1 ∧ (m.push c p).place = m.place ∨ (m.push c p).state ≠ 1 ∧ (m.push c p).place = m.seen := by
    intro c p; unfold M.push; split
    · exact .inr (hf 3 (by omega))
    · exact .inl ⟨h1, rfl⟩
  have ha : (m.after b).state = 1 ∧ (m.after b).place = m.place ∨ (m.after b).state ≠ 1 ∧ (m.after b).place = m.seen := by
    unfold M.after; simp only; repeat' split
    all_goals first | exact .inl ⟨h1, rfl⟩ | exact .inr (hf 0 (by omega)) | exact .inr ⟨by simp [M.fail], rfl⟩
  have hi : ∀ (c : Prop) [Decidable c] (x y : M), (x.state = 1 ∧ x.place = m.place ∨ x.state ≠ 1 ∧ x.place = m.seen) → (y.state = 1 ∧ y.place = m.place ∨ y.state ≠ 1 ∧ y.place = m.seen) →
      ((if c then x else y).state = 1 ∧ (if c then x else y).place = m.place ∨ (if c then x else y).state ≠ 1 ∧ (if c then x else y).place = m.seen) := by
    intro c _ x y hx hy; split <;> assumption
  unfold M.byte
  by_cases c1 : m.pos = 0 ∨ m.pos = 1
  · rw [if_pos c1]; unfold M.first; repeat' (with_reducible refine hi _ _ _ ?_ ?_)
    all_goals first | exact .inl ⟨h1, rfl⟩ | exact .inr (hf 0 (by omega)) | exact hp _ _
  rw [if_neg c1]
  by_cases c2 : m.pos = 2 ∨ m.pos = 3
  · rw [if_pos c2]; unfold M.names; repeat' split
    all_goals first | exact .inl ⟨h1, rfl⟩ | exact .inr (hf 0 (by omega))
  rw [if_neg c2]
  by_cases c3 : m.pos = 4
  · rw [if_pos c3]; repeat' split
    all_goals first | exact .inl ⟨h1, rfl⟩ | exact .inr (hf 0 (by omega))
  rw [if_neg c3]
  by_cases c4 : m.pos = 5
  · rw [if_pos c4]; exact ha
  rw [if_neg c4]
  by_cases c5 : m.pos = 6
  · rw [if_pos c5]; unfold M.inText; repeat' split
    all_goals first | exact .inl ⟨h1, rfl⟩ | exact .inr (hf 0 (by omega))
  rw [if_neg c5]
  by_cases c6 : m.pos = 7
  · rw [if_pos c6]; unfold M.inSlash; repeat' split
    all_goals first | exact .inl ⟨h1, rfl⟩ | exact .inr (hf 0 (by omega))
  rw [if_neg c6]
  by_cases c7 : m.pos = 8
  · rw [if_pos c7]; unfold M.inUnicode; repeat' split
    all_goals first | exact .inl ⟨h1, rfl⟩ | exact .inr (hf 0 (by omega))
  rw [if_neg c7]
  by_cases c8 : m.pos = 9
  · rw [if_pos c8]; unfold M.inWord; repeat' split
    all_goals first | exact .inl ⟨h1, rfl⟩ | exact .inr (hf 0 (by omega))
  rw [if_neg c8]
  unfold M.inNumber; repeat' split
  all_goals first | exact .inl ⟨h1, rfl⟩ | exact ha | exact .inr (hf 0 (by omega))
theorem place_feed (l : List UInt8) : ∀ m : M, m.state = 1 → (m.feed l).state = 1 ∧ (m.feed l).place = m.place ∨ (m.feed l).state ≠ 1 ∧ (m.seen : Int) ≤ (m.feed l).place ∧ (m.feed l).place < m.seen + l.length := by
  induction l with
  | nil => intro m h; exact .inl ⟨h, rfl⟩
  | cons b r ih =>
    intro m h
    rw [feed_cons]
    have hb := place_byte (m.beg b) b h
    have he : m.feed1 b = { (m.beg b).byte b with seen := m.seen + 1 } := feed1_open h
    rcases hb with ⟨h1, h2⟩ | ⟨h1, h2⟩
    · have hs : (m.feed1 b).state = 1 := by rw [he]; exact h1
      have hp : (m.feed1 b).place = m.place := by rw [he]; exact h2
      have hn := seen_feed1 m b
      rcases ih (m.feed1 b) hs with ⟨k1, k2⟩ | ⟨k1, k2, k3⟩
      · exact .inl ⟨k1, by rw [k2, hp]⟩
      · refine .inr ⟨k1, ?_, ?_⟩
        · rw [hn] at k2; omega
        · rw [hn] at k3; simp; omega
    · have hs : (m.feed1 b).state ≠ 1 := by rw [he]; exact h1
      have hp : (m.feed1 b).place = m.seen := by rw [he]; exact h2
      have := feed_stuck r _ hs
      refine .inr ⟨by rw [this.1]; exact hs, ?_, ?_⟩
      · rw [this.2, hp]; omega
      · rw [this.2, hp]; simp; omega
end Tg.Json
/-
  The plain law of layer 27: a number by runs of digits is the number byte by byte.
-/
set_option linter.unusedSimpArgs false
set_option linter.unusedVariables false
namespace Tg.Json
def digits : List UInt8 → Nat
  | [] => 0
  | b :: r => if digit b then digits r + 1 else 0
def run (l : List UInt8) : Nat × Nat :=
  match l with
  | [] => (0, 1)
  | b :: _ => if digit b then (digits l, 4) else (0, 0)
/-- a number behind its sign, by runs of digits -/
def expPart (l : List UInt8) : Nat × Nat :=
  match l with
  | [] => (0, 4)
  | c :: r =>
    if c.toNat = 101 ∨ c.toNat = 69 then
      (match r with
       | [] => add 1 (run r)
       | d :: q => if d.toNat = 43 ∨ d.toNat = 45 then add 2 (run q) else add 1 (run r))
    else (0, 4)
def pointPart (l : List UInt8) : Nat × Nat :=
  match l with
  | [] => expPart l
  | c :: r => if c.toNat = 46 then (if (run r).2 = 4 then add (1 + (run r).1) (expPart (r.drop (run r).1)) else add 1 (run r)) else expPart l
def intPart (l : List UInt8) : Nat × Nat :=
  match l with
  | [] => run l
  | c :: r => if (run l).2 = 4 then (if c.toNat = 48 then add 1 (pointPart r) else add (run l).1 (pointPart (l.drop (run l).1))) else run l
theorem run_cases (l : List UInt8) : (run l).2 = 4 ∧ l ≠ [] ∨ (run l).2 ≠ 4 := by
  unfold run; split
  · exact .inr (by decide)
  · split
    · exact .inl ⟨rfl, by simp⟩
    · exact .inr (by decide)
theorem digits_le (l : List UInt8) : digits l ≤ l.length := by
  induction l with
  | nil => simp [digits]
  | cons b r ih => unfold digits; split <;> simp <;> omega
theorem run_le (l : List UInt8) : (run l).1 ≤ l.length := by
  unfold run; split
  · simp
  · split
    · exact digits_le _
    · simp

theorem add_add (a b : Nat) (x : Nat × Nat) : add a (add b x) = add (a + b) x := by simp only [add]; congr 1; omega
theorem add_zero (x : Nat × Nat) : add 0 x = x := rfl
theorem isE_iff (b : UInt8) : isE b = true ↔ (b.toNat = 101 ∨ b.toNat = 69) := by
  simp [isE, ← UInt8.toNat_inj]
theorem u8n (b k : UInt8) : b = k ↔ b.toNat = k.toNat := UInt8.toNat_inj.symm
theorem number_cons (p : Nat) (b : UInt8) (r : List UInt8) : number p (b :: r) =
    if p = 10 ∧ b = 48 then add 1 (number 11 r)
    else if (p = 10 ∨ p = 12) ∧ digit b then add 1 (number 12 r)
    else if (p = 13 ∨ p = 14) ∧ digit b then add 1 (number 14 r)
    else if (p = 15 ∨ p = 16 ∨ p = 17) ∧ digit b then add 1 (number 17 r)
    else if p = 15 ∧ (b = 43 ∨ b = 45) then add 1 (number 16 r)
    else if (p = 11 ∨ p = 12) ∧ b = 46 then add 1 (number 13 r)
    else if (p = 11 ∨ p = 12 ∨ p = 14) ∧ isE b then add 1 (number 15 r)
    else if ended p then (0, 4)
    else (0, 0) := rfl
theorem num17 (l : List UInt8) : number 17 l = (digits l, 4) := by
  induction l with
  | nil => rfl
  | cons b r ih =>
    rw [number_cons]; unfold digits
    by_cases h : digit b = true
    · simp [h, ih, add]
    · simp [h, ended]
theorem num16 (l : List UInt8) : number 16 l = run l := by
  cases l with
  | nil => rfl
  | cons b r =>
    rw [number_cons]; unfold run
    by_cases h : digit b = true
    · simp [h, num17, add, digits]
    · simp [h, ended]
theorem num15 (l : List UInt8) : number 15 l = (match l with
    | [] => run []
    | d :: q => if d.toNat = 43 ∨ d.toNat = 45 then add 1 (run q) else run (d :: q)) := by
  cases l with
  | nil => rfl
  | cons b r =>
    have h1 : (b = 43 ∨ b = 45) ↔ (b.toNat = 43 ∨ b.toNat = 45) := by simp only [u8n, UInt8.reduceToNat]
    rw [number_cons]
    by_cases h : digit b = true
    · have h2 : ¬ (b.toNat = 43 ∨ b.toNat = 45) := by
        intro hh
        simp only [digit, UInt8.le_iff_toNat_le, UInt8.reduceToNat, Bool.and_eq_true, decide_eq_true_eq] at h
        omega
      simp [h, h2, num17, run, add, digits]
    · by_cases h2 : (b = 43 ∨ b = 45)
      · have h3 := h1.1 h2
        simp [h, h2, h3, num16]
      · have h3 := fun x => h2 (h1.2 x)
        show _ = if b.toNat = 43 ∨ b.toNat = 45 then _ else _
        rw [if_neg h3]
        simp [h, h2, ended, isE, run]
theorem exp_eq (p : Nat) (hp : p = 11 ∨ p = 14) (b : UInt8) (r : List UInt8) (h46 : p = 11 → b ≠ 46) (hd : p = 14 → digit b = false) : number p (b :: r) = expPart (b :: r) := by
  rw [number_cons]; unfold expPart
  have hE := isE_iff b
  by_cases h : isE b = true
  · have h2 := hE.1 h
    have hx := num15 r
    rcases hp with rfl | rfl
    · have := h46 rfl
      simp only [h, h2, this, if_true]
      simp
      rw [hx]
      cases r with
      | nil => rfl
      | cons d q => simp only; split <;> simp [add_add]
    · have := hd rfl
      simp only [h, h2, this, if_true]
      simp
      rw [hx]
      cases r with
      | nil => rfl
      | cons d q => simp only; split <;> simp [add_add]
  · have h2 := fun x => h (hE.2 x)
    rcases hp with rfl | rfl
    · have := h46 rfl
      simp only; rw [if_neg h2]
      simp [h, this, ended]
    · have := hd rfl
      simp only; rw [if_neg h2]
      simp [h, this, ended]
theorem num14 (l : List UInt8) : number 14 l = add (digits l) (expPart (l.drop (digits l))) := by
  induction l with
  | nil => rfl
  | cons b r ih =>
    by_cases h : digit b = true
    · have e : digits (b :: r) = digits r + 1 := by rw [digits, if_pos h]
      have : number 14 (b :: r) = add 1 (number 14 r) := by rw [number_cons]; simp [h]
      rw [this, ih, e, add_add, Nat.add_comm]; rfl
    · have e : digits (b :: r) = 0 := by rw [digits, if_neg h]
      rw [e, exp_eq 14 (.inr rfl) b r (by simp) (fun _ => by simpa using h)]; rfl
theorem num13 (r : List UInt8) : number 13 r = if (run r).2 = 4 then add (run r).1 (expPart (r.drop (run r).1)) else run r := by
  cases r with
  | nil => rfl
  | cons b r =>
    by_cases h : digit b = true
    · have e : run (b :: r) = (digits (b :: r), 4) := by rw [run, if_pos h]
      have e2 : digits (b :: r) = digits r + 1 := by rw [digits, if_pos h]
      have : number 13 (b :: r) = add 1 (number 14 r) := by rw [number_cons]; simp [h]
      rw [this, e, if_pos rfl, num14, add_add, e2, Nat.add_comm]; rfl
    · have e : run (b :: r) = (0, 0) := by rw [run, if_neg h]
      rw [e, if_neg (by decide)]
      rw [number_cons]; simp [h, ended]
theorem num11 (l : List UInt8) : number 11 l = pointPart l := by
  cases l with
  | nil => rfl
  | cons b r =>
    by_cases h : b = 46
    · have h' : b.toNat = 46 := by rw [h]; rfl
      have : number 11 (b :: r) = add 1 (number 13 r) := by rw [number_cons]; simp [h]
      unfold pointPart
      simp only
      rw [this, if_pos h', num13]
      split
      · rw [add_add]
      · rfl
    · have h' : ¬ b.toNat = 46 := fun x => h (by rw [u8n]; exact x)
      rw [exp_eq 11 (.inl rfl) b r (fun _ => h) (by simp)]
      show _ = pointPart (b :: r)
      unfold pointPart; simp only; rw [if_neg h']
theorem num12 (l : List UInt8) : number 12 l = add (digits l) (pointPart (l.drop (digits l))) := by
  induction l with
  | nil => rfl
  | cons b r ih =>
    by_cases h : digit b = true
    · have e : digits (b :: r) = digits r + 1 := by rw [digits, if_pos h]
      have : number 12 (b :: r) = add 1 (number 12 r) := by rw [number_cons]; simp [h]
      rw [this, ih, e, add_add, Nat.add_comm]; rfl
    · have e : digits (b :: r) = 0 := by rw [digits, if_neg h]
      rw [e]
      show _ = pointPart (b :: r)
      rw [← num11, number_cons, number_cons]; simp [h, ended]
theorem num10 (l : List UInt8) : number 10 l = intPart l := by
  cases l with
  | nil => rfl
  | cons b r =>
    unfold intPart
    simp only
    by_cases h : digit b = true
    · have e : run (b :: r) = (digits (b :: r), 4) := by rw [run, if_pos h]
      have e2 : digits (b :: r) = digits r + 1 := by rw [digits, if_pos h]
      rw [e, if_pos rfl]
      by_cases h48 : b = 48
      · have h' : b.toNat = 48 := by rw [h48]; rfl
        have : number 10 (b :: r) = add 1 (number 11 r) := by rw [number_cons]; simp [h48]
        rw [this, if_pos h', num11]
      · have h' : ¬ b.toNat = 48 := fun x => h48 (by rw [u8n]; exact x)
        have : number 10 (b :: r) = add 1 (number 12 r) := by rw [number_cons]; simp [h48, h]
        rw [this, if_neg h', num12, e2, add_add, Nat.add_comm]; rfl
    · have e : run (b :: r) = (0, 0) := by rw [run, if_neg h]
      rw [e, if_neg (by decide)]
      have : b ≠ 48 := by rintro rfl; exact h (by decide)
      rw [number_cons]; simp [h, this, ended]
end Tg.Json
