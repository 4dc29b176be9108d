/-
  Texts joined, part 3: LgEnd, Facts, Shelf, JsPlain, LgRow, LgByte.
-/
import Derived.Test.YtgnefbngkhjfcaaDoorM2
import Derived.Test.YtgnefbngkhjfcaaDoorRows
import Derived.Shelf.Small.Strs
import Derived.Shelf.Utf8.RuneCount
import Derived.Shelf.Strings.Search1
import Derived.Shelf.Strings.Search2
import Derived.Shelf.Strings.Search3
import Derived.Shelf.Strings.Count
import Derived.Shelf.LaysM
import Derived.Shelf.Strings.Shaped
import Derived.Shelf.Strings.Split
import Derived.Shelf.Strings.Fields
import Derived.Shelf.Strings.SplitShaped
import Derived.Shelf.Unicode.Latin
import Derived.Shelf.Unicode.Decode
import Derived.Shelf.Strings.RuneCount
import Derived.Shelf.Strings.Explode
import Derived.Shelf.Unicode.DecodeSlow
import Derived.Shelf.Unicode.DecodeAny
import Derived.Shelf.Unicode.Is16White
import Derived.Shelf.Unicode.IsSpaceAny
import Derived.Shelf.Unicode.Is16WhiteD
import Derived.Shelf.Unicode.IsSpaceAnyD
import Derived.Shelf.Strings.FieldsAny
import Derived.Shelf.Strings.FieldsFuncAny
import Derived.Shelf.Unicode.Is16Any
import Derived.Shelf.Unicode.Is32Any
import Derived.Shelf.Unicode.ExclAny
import Derived.Shelf.Slices.Turned
import Derived.Test.YtgnefbngkhjfcaaDoorProg
import Derived.Test.YtgnefbngkhjfcaaDoorM1
/-
  A logical run of Go code: library functions by their contracts; a law's end.
-/
set_option linter.unusedSimpArgs false
set_option linter.unusedVariables false
namespace Go.Lg
open Go.Tg Go.RowKit

section
variable {P : Program} {E : Ext} {H H' : LH} {ι : Ren} {w w' : World} {v v' : Value}
def ren0 : Ren := fun _ => ⟨0, 0, 0⟩
theorem rel_empty {w : World} {ng : Nat} (h : ng ≤ w.heap.size) : Rel P (LH.empty w ng) ren0 w :=
  ⟨fun _ _ => rfl, fun _ h => h.elim, (fun _ _ h => by cases h), (fun _ _ _ _ h => by cases h), fun g hg => ⟨rfl, Nat.lt_of_lt_of_le hg h, fun ⟨_, _, h, _⟩ => by cases h⟩⟩
theorem flats_rel {D : Nat → Prop} {ι : Ren} {args : List Value} (h : ∀ x ∈ args, flatB x = true) : args.length = args.toArray.size ∧ ∀ (i : Nat) (x y : Value), args[i]? = some x → args.toArray[i]? = some y → VR D ι x y := by
  refine ⟨by simp, fun i x y hx hy => ?_⟩
  rw [List.getElem?_toArray, hx] at hy
  injection hy with hy
  subst hy
  exact .flat _ (h x (List.mem_of_getElem? hx))
/-- a law of flat arguments -/
theorem law_flat {f : FuncId} {args : List Value} {ng : Nat} (hT : TOk P (LC P E)) (hf : ∀ x ∈ args, flatB x = true) (hng : ng ≤ w.heap.size) (h : LC P E f args (LH.empty w ng) = some (.bool true, H')) :
    Calls P f args.toArray w fun e w' => e = .returned (.bool true) ∧ Change (fun _ => False) w w' := by
  obtain ⟨_, hc⟩ := hT _ _ _ _ _ h
  obtain ⟨h1, h2⟩ := flats_rel (D := (LH.empty w ng).D) (ι := ren0) hf
  refine (hc ren0 w args.toArray (rel_empty hng) h1 h2).mono ?_
  rintro e w' ⟨ι', v', rfl, ho, hv⟩
  rw [flat_eq hv rfl]
  exact ⟨rfl, ho.chg.mono (fun _ _ ⟨_, _, h, _⟩ => by cases h)⟩
/-- specifications of library functions -/
abbrev Spec := List Value → LH → Option (Value × LH)
def SpecOk (P : Program) (f : FuncId) (s : Spec) : Prop := ∀ args H v H', s args H = some (v, H') → Entered P f ∧ CallOk P f args H v H'
/-- the regions that go by the text's order: by the function's size and the region's number -/
def chT (n id k : Nat) : Option (List (Nat × Nat)) :=
  if n = 15 then (if id = 2 ∧ k = 6 then some [(2, 4)] else if id = 3 ∧ k = 10 then some [(7, 8)] else none) else
  if n = 22 then (if id = 6 ∧ k = 4 then some [(1, 2)] else none) else
  if n = 26 then (if id = 1 ∧ k = 9 then some [(2, 1)] else none) else
  if n = 27 then (if id = 5 ∧ k = 16 then some [] else none) else
  if n = 28 then (if id = 5 ∧ k = 10 then some [(5, 3)] else if id = 6 ∧ k = 8 then some [] else none) else
  if n = 29 then (if id = 4 ∧ k = 10 then some [(0, 2), (0, 3), (0, 7)] else none) else
  if n = 32 then (if id = 3 ∧ k = 16 then some [] else if id = 5 ∧ k = 12 then some [] else none) else
  if n = 34 then (if id = 3 ∧ k = 16 then some [] else none) else
  if n = 35 then (if id = 10 ∧ k = 4 then some [(0, 1)] else none) else
  if n = 36 then (if id = 5 ∧ k = 17 then some [(11, 6)] else none) else
  if n = 38 then (if id = 3 ∧ k = 24 then some [] else none) else
  if n = 39 then (if id = 4 ∧ k = 16 then some [(3, 9), (5, 9), (5, 11), (7, 9), (7, 11), (7, 13)] else if id = 6 ∧ k = 11 then some [(0, 5)] else if id = 7 ∧ k = 13 then some [(0, 5), (0, 9)] else none) else
  if n = 41 then (if id = 1 ∧ k = 15 then some [(1, 6), (1, 10), (1, 11), (1, 13), (3, 6), (3, 10), (3, 11), (3, 13), (5, 10), (5, 13)] else none) else
  if n = 42 then (if id = 5 ∧ k = 12 then some [(2, 7)] else none) else
  if n = 46 then (if id = 5 ∧ k = 18 then some [(5, 13)] else if id = 8 ∧ k = 13 then some [(4, 2), (4, 7), (4, 10), (6, 2)] else none) else
  if n = 49 then (if id = 6 ∧ k = 18 then some [] else none) else
  if n = 53 then (if id = 6 ∧ k = 18 then some [] else none) else
  if n = 55 then (if id = 1 ∧ k = 9 then some [(2, 1)] else if id = 2 ∧ k = 10 then some [(0, 2), (0, 7), (1, 7), (6, 2), (6, 4), (6, 7), (6, 8)] else none) else
  if n = 56 then (if id = 9 ∧ k = 13 then some [(5, 0), (5, 4)] else if id = 10 ∧ k = 20 then some [] else none) else
  if n = 58 then (if id = 7 ∧ k = 19 then some [] else none) else
  if n = 59 then (if id = 5 ∧ k = 9 then some [(2, 7), (6, 7)] else none) else
  if n = 60 then (if id = 10 ∧ k = 12 then some [(5, 7)] else if id = 10 ∧ k = 20 then some [] else none) else
  if n = 62 then (if id = 8 ∧ k = 14 then some [] else if id = 9 ∧ k = 12 then some [] else none) else
  if n = 63 then (if id = 4 ∧ k = 21 then some [(4, 12), (4, 13), (6, 12), (6, 13), (6, 17), (10, 12)] else none) else
  if n = 65 then (if id = 10 ∧ k = 20 then some [] else none) else
  if n = 67 then (if id = 8 ∧ k = 16 then some [(9, 0), (9, 4), (11, 0), (11, 4)] else if id = 10 ∧ k = 20 then some [] else if id = 12 ∧ k = 8 then some [(3, 0), (3, 2)] else none) else
  if n = 68 then (if id = 6 ∧ k = 12 then some [(3, 8), (3, 9), (7, 8), (7, 9), (7, 10)] else none) else
  if n = 72 then (if id = 9 ∧ k = 17 then some [(9, 0), (9, 4)] else if id = 11 ∧ k = 17 then some [(0, 4), (0, 7), (0, 12)] else none) else
  if n = 76 then (if id = 6 ∧ k = 24 then some [] else none) else
  if n = 77 then (if id = 20 ∧ k = 10 then some [] else none) else
  if n = 79 then (if id = 9 ∧ k = 12 then some [(5, 3)] else none) else
  if n = 80 then (if id = 8 ∧ k = 13 then some [(3, 5), (8, 10)] else none) else
  if n = 82 then (if id = 6 ∧ k = 24 then some [] else if id = 9 ∧ k = 15 then some [] else if id = 21 ∧ k = 9 then some [] else none) else
  if n = 84 then (if id = 1 ∧ k = 16 then some [] else if id = 8 ∧ k = 16 then some [] else if id = 9 ∧ k = 11 then some [] else none) else
  if n = 89 then (if id = 9 ∧ k = 31 then some [(5, 1), (10, 1), (10, 8), (10, 17), (15, 1), (15, 8), (16, 1), (16, 8), (24, 1), (24, 8), (24, 17), (24, 19), (24, 20)] else none) else
  if n = 90 then (if id = 1 ∧ k = 16 then some [] else if id = 8 ∧ k = 16 then some [] else none) else
  if n = 105 then (if id = 8 ∧ k = 18 then some [] else if id = 10 ∧ k = 19 then some [] else none) else
  if n = 133 then (if id = 11 ∧ k = 18 then some [] else if id = 17 ∧ k = 18 then some [] else if id = 23 ∧ k = 18 then some [] else none) else
  if n = 134 then (if id = 15 ∧ k = 10 then some [] else if id = 19 ∧ k = 8 then some [] else none) else
  if n = 136 then (if id = 10 ∧ k = 12 then some [(3, 8), (3, 9), (7, 8), (7, 9), (7, 10)] else none) else
  if n = 139 then (if id = 7 ∧ k = 21 then some [(11, 7), (15, 7)] else if id = 16 ∧ k = 17 then some [(9, 0), (9, 4)] else if id = 20 ∧ k = 18 then some [(11, 5)] else none) else
  if n = 141 then (if id = 11 ∧ k = 18 then some [] else if id = 15 ∧ k = 13 then some [(5, 8)] else if id = 17 ∧ k = 18 then some [] else if id = 23 ∧ k = 18 then some [] else none) else
  if n = 143 then (if id = 10 ∧ k = 8 then some [] else if id = 10 ∧ k = 11 then some [] else if id = 14 ∧ k = 10 then some [] else if id = 28 ∧ k = 9 then some [] else none) else
  if n = 151 then (if id = 19 ∧ k = 19 then some [(3, 1), (9, 7), (16, 14)] else if id = 21 ∧ k = 31 then some [(3, 1), (9, 7), (16, 14)] else none) else
  if n = 167 then (if id = 7 ∧ k = 15 then some [] else if id = 8 ∧ k = 15 then some [] else if id = 9 ∧ k = 15 then some [] else if id = 10 ∧ k = 15 then some [] else if id = 17 ∧ k = 15 then some [] else if id = 18 ∧ k = 15 then some [] else if id = 23 ∧ k = 15 then some [] else none) else
  if n = 168 then (if id = 1 ∧ k = 16 then some [] else if id = 8 ∧ k = 16 then some [] else if id = 10 ∧ k = 16 then some [] else if id = 18 ∧ k = 16 then some [] else if id = 21 ∧ k = 16 then some [] else none) else
  if n = 178 then (if id = 1 ∧ k = 16 then some [] else if id = 8 ∧ k = 16 then some [] else if id = 10 ∧ k = 16 then some [] else if id = 18 ∧ k = 16 then some [] else if id = 21 ∧ k = 16 then some [] else none) else
  if n = 201 then (if id = 17 ∧ k = 24 then some [] else if id = 19 ∧ k = 20 then some [(5, 1), (12, 1), (12, 8)] else none) else
  if n = 220 then (if id = 11 ∧ k = 18 then some [] else if id = 23 ∧ k = 18 then some [] else none) else
  none
def extLL (l : List (FuncId × Spec)) (loud : List FuncId) : Ext := ⟨fun f => (l.find? (fun p => p.1 == f)).map (·.2), ⟨fun f => loud.contains f, chT⟩⟩
@[simp] theorem extLL_ch {l : List (FuncId × Spec)} {loud : List FuncId} {n id k : Nat} : (extLL l loud).loud.ch n id k = chT n id k := rfl
attribute [simp] chT
abbrev extL (l : List (FuncId × Spec)) : Ext := extLL l []
theorem extL_ok {l : List (FuncId × Spec)} {loud : List FuncId} (h : ∀ p ∈ l, SpecOk P p.1 p.2) : ExtOk P (extLL l loud) := by
  intro f s hs args H v H' hr
  unfold extLL at hs
  obtain ⟨p, hp, rfl⟩ := Option.map_eq_some_iff.1 hs
  have h1 := List.find?_some hp
  have h2 := List.mem_of_find?_eq_some hp
  simp only [beq_iff_eq] at h1
  subst h1
  exact h p h2 args H v H' hr
/-- a function of flat arguments that leaves the world as it was -/
theorem callOk_flat {f : FuncId} {args : List Value} (hf : ∀ x ∈ args, flatB x = true) (hv : flatB v = true) (h : ∀ w, Calls P f args.toArray w fun e w' => e = .returned v ∧ w' = w) : CallOk P f args H v H := by
  intro ι w args' hrel h1 h2
  have e : args' = args.toArray := by
    apply Array.ext
    · simp [h1]
    · intro i h3 h4
      have hx : args[i]? = some (args[i]'(by simpa using h4)) := List.getElem?_eq_getElem _
      have := flat_eq (h2 i _ _ hx (Array.getElem?_eq_getElem h3)) (hf _ (List.getElem_mem _))
      rw [this]; simp
  subst e
  refine (h w).mono ?_
  rintro e w' ⟨rfl, rfl⟩
  exact ⟨ι, v, rfl, Out.refl hrel, .flat _ hv⟩
/-- a function of flat arguments that leaves all blocks as they were -/
theorem callOk_flatC {f : FuncId} {args : List Value} (hf : ∀ x ∈ args, flatB x = true) (hv : flatB v = true) (h : ∀ w, Calls P f args.toArray w fun e w' => e = .returned v ∧ Change (fun _ => False) w w') : CallOk P f args H v H := by
  intro ι w args' hrel h1 h2
  have e : args' = args.toArray := by
    apply Array.ext
    · simp [h1]
    · intro i h3 h4
      have hx : args[i]? = some (args[i]'(by simpa using h4)) := List.getElem?_eq_getElem _
      have := flat_eq (h2 i _ _ hx (Array.getElem?_eq_getElem h3)) (hf _ (List.getElem_mem _))
      rw [this]; simp
  subst e
  refine (h w).mono ?_
  rintro e w' ⟨rfl, hc⟩
  exact ⟨ι, v, rfl, out_change hrel hc, .flat _ hv⟩
/-- a function of flat arguments that makes a row of flat cells -/
theorem callOk_row {f : FuncId} {args : List Value} {cells : List Value} {e : TypeId} {k : Nat} (hf : ∀ x ∈ args, flatB x = true) (hc : ∀ x ∈ cells, flatB x = true) (hs : sz P e = some 1) (hk : cells.length = k) (hm : k ≤ maxLen)
    (h : ∀ ι w, Rel P H ι w → Calls P f args.toArray w fun x w' => x = .returned (.slice (some ⟨w.heap.size, 0, none⟩) k k) ∧ w' = w.alloc (.cells cells.toArray e)) : CallOk P f args H (sl H.n k k) (H.new ⟨cells, e, true⟩) := by
  intro ι w args' hrel h1 h2
  have e1 : args' = args.toArray := by
    apply Array.ext
    · simp [h1]
    · intro i h3 h4
      have hx : args[i]? = some (args[i]'(by simpa using h4)) := List.getElem?_eq_getElem _
      have := flat_eq (h2 i _ _ hx (Array.getElem?_eq_getElem h3)) (hf _ (List.getElem_mem _))
      rw [this]; simp
  subst e1
  refine (h ι w hrel).mono ?_
  rintro x w' ⟨rfl, rfl⟩
  have ho := rel_new hrel (b := ⟨cells, e, true⟩) (arr := cells.toArray) (slack := 0) rfl hs (by simp) (fun n hn hl => by simp at hl; omega) (fun i x hx => ⟨x, by simpa using hx, .flat _ (hc x (List.mem_of_getElem? hx))⟩)
  refine ⟨_, _, rfl, ho, ?_⟩
  have := VR.slice (n := (H.new ⟨cells, e, true⟩).D) (ι := ι.add H.n ⟨w.heap.size, 0, 0⟩) H.n 0 k k ((D_new hrel H.n).2 (.inr rfl)) (Nat.le_refl _)
  simpa [Ren.add] using this
/-- a package's variable, as it was in the beginning -/
theorem pin_block (hrel : Rel P H ι w) {g : Nat} (hg : g < H.ng) : w.heap[g]? = H.base.heap[g]? := (hrel.pin g hg).1
end
end Go.Lg
/-
  Closed facts on the types of this translation.
-/
set_option linter.unusedSimpArgs false
namespace Go.Proofs.YtgnefbngkhjfcaaDoor
open Go.Lg
attribute [simp] Tryd.underlying0
@[simp] theorem sz0 : sz Tryd.prog 0 = some 1 := by kernel_rfl
@[simp] theorem zr0 : zr Tryd.prog 0 = some (.tuple #[]) := by kernel_rfl
@[simp] theorem lesz0 : lesz Tryd.prog 0 = some 1 := by kernel_rfl
attribute [simp] Tryd.underlying1
attribute [simp] Tryd.underlying2
@[simp] theorem sz2 : sz Tryd.prog 2 = some 1 := by kernel_rfl
@[simp] theorem agg2 : aggB Tryd.prog 2 = some false := by kernel_rfl
@[simp] theorem zr2 : zr Tryd.prog 2 = some (.int .i64 0) := by kernel_rfl
@[simp] theorem lesz2 : lesz Tryd.prog 2 = some 1 := by kernel_rfl
attribute [simp] Tryd.underlying3
@[simp] theorem sz3 : sz Tryd.prog 3 = some 1 := by kernel_rfl
@[simp] theorem agg3 : aggB Tryd.prog 3 = some false := by kernel_rfl
@[simp] theorem zr3 : zr Tryd.prog 3 = some (.int .i64 0) := by kernel_rfl
@[simp] theorem lesz3 : lesz Tryd.prog 3 = some 1 := by kernel_rfl
attribute [simp] Tryd.underlying4
@[simp] theorem sz4 : sz Tryd.prog 4 = some 1 := by kernel_rfl
@[simp] theorem agg4 : aggB Tryd.prog 4 = some false := by kernel_rfl
@[simp] theorem zr4 : zr Tryd.prog 4 = some (.bool false) := by kernel_rfl
@[simp] theorem lesz4 : lesz Tryd.prog 4 = some 1 := by kernel_rfl
attribute [simp] Tryd.underlying5
@[simp] theorem sz5 : sz Tryd.prog 5 = some 1 := by kernel_rfl
@[simp] theorem agg5 : aggB Tryd.prog 5 = some false := by kernel_rfl
@[simp] theorem zr5 : zr Tryd.prog 5 = some (.int .u8 0) := by kernel_rfl
@[simp] theorem lesz5 : lesz Tryd.prog 5 = some 1 := by kernel_rfl
attribute [simp] Tryd.underlying6
@[simp] theorem sz6 : sz Tryd.prog 6 = some 1 := by kernel_rfl
@[simp] theorem agg6 : aggB Tryd.prog 6 = some false := by kernel_rfl
@[simp] theorem zr6 : zr Tryd.prog 6 = some (.int .u8 0) := by kernel_rfl
@[simp] theorem lesz6 : lesz Tryd.prog 6 = some 1 := by kernel_rfl
@[simp] theorem plc7 : plcB Tryd.prog 7 = true := by kernel_rfl
@[simp] theorem fld7_0 : fldi Tryd.prog 7 0 = some (0, 1, false) := by kernel_rfl
@[simp] theorem fld7_1 : fldi Tryd.prog 7 1 = some (1, 1, false) := by kernel_rfl
@[simp] theorem fld7_2 : fldi Tryd.prog 7 2 = some (2, 1, false) := by kernel_rfl
@[simp] theorem fld7_3 : fldi Tryd.prog 7 3 = some (3, 1, false) := by kernel_rfl
@[simp] theorem sz7 : sz Tryd.prog 7 = some 4 := by kernel_rfl
@[simp] theorem agg7 : aggB Tryd.prog 7 = some true := by kernel_rfl
@[simp] theorem zr7 : zr Tryd.prog 7 = some (.agg #[.int .i64 0, .int .i64 0, .bool false, .int .u8 0]) := by kernel_rfl
@[simp] theorem lesz7 : lesz Tryd.prog 7 = some 4 := by kernel_rfl
@[simp] theorem plc8 : plcB Tryd.prog 8 = true := by kernel_rfl
@[simp] theorem fld8_0 : fldi Tryd.prog 8 0 = some (0, 1, false) := by kernel_rfl
@[simp] theorem fld8_1 : fldi Tryd.prog 8 1 = some (1, 1, false) := by kernel_rfl
@[simp] theorem fld8_2 : fldi Tryd.prog 8 2 = some (2, 1, false) := by kernel_rfl
@[simp] theorem fld8_3 : fldi Tryd.prog 8 3 = some (3, 1, false) := by kernel_rfl
@[simp] theorem sz8 : sz Tryd.prog 8 = some 4 := by kernel_rfl
@[simp] theorem agg8 : aggB Tryd.prog 8 = some true := by kernel_rfl
@[simp] theorem zr8 : zr Tryd.prog 8 = some (.agg #[.int .i64 0, .int .i64 0, .bool false, .int .u8 0]) := by kernel_rfl
@[simp] theorem lesz8 : lesz Tryd.prog 8 = some 4 := by kernel_rfl
attribute [simp] Tryd.underlying9
@[simp] theorem sz9 : sz Tryd.prog 9 = some 1 := by kernel_rfl
@[simp] theorem agg9 : aggB Tryd.prog 9 = some false := by kernel_rfl
@[simp] theorem zr9 : zr Tryd.prog 9 = some (.string ⟨#[]⟩) := by kernel_rfl
@[simp] theorem lesz9 : lesz Tryd.prog 9 = some 1 := by kernel_rfl
attribute [simp] Tryd.underlying10
@[simp] theorem sz10 : sz Tryd.prog 10 = some 1 := by kernel_rfl
@[simp] theorem agg10 : aggB Tryd.prog 10 = some false := by kernel_rfl
@[simp] theorem zr10 : zr Tryd.prog 10 = some (.string ⟨#[]⟩) := by kernel_rfl
@[simp] theorem lesz10 : lesz Tryd.prog 10 = some 1 := by kernel_rfl
attribute [simp] Tryd.underlying11
@[simp] theorem sz11 : sz Tryd.prog 11 = some 1 := by kernel_rfl
@[simp] theorem agg11 : aggB Tryd.prog 11 = some false := by kernel_rfl
@[simp] theorem zr11 : zr Tryd.prog 11 = some (.string ⟨#[]⟩) := by kernel_rfl
@[simp] theorem lesz11 : lesz Tryd.prog 11 = some 1 := by kernel_rfl
attribute [simp] Tryd.underlying12
@[simp] theorem sz12 : sz Tryd.prog 12 = some 1 := by kernel_rfl
@[simp] theorem agg12 : aggB Tryd.prog 12 = some false := by kernel_rfl
@[simp] theorem zr12 : zr Tryd.prog 12 = some (.int .u64 0) := by kernel_rfl
@[simp] theorem lesz12 : lesz Tryd.prog 12 = some 1 := by kernel_rfl
@[simp] theorem plc13 : plcB Tryd.prog 13 = true := by kernel_rfl
@[simp] theorem fld13_0 : fldi Tryd.prog 13 0 = some (0, 1, false) := by kernel_rfl
@[simp] theorem fld13_1 : fldi Tryd.prog 13 1 = some (1, 1, false) := by kernel_rfl
@[simp] theorem sz13 : sz Tryd.prog 13 = some 2 := by kernel_rfl
@[simp] theorem agg13 : aggB Tryd.prog 13 = some true := by kernel_rfl
@[simp] theorem zr13 : zr Tryd.prog 13 = some (.agg #[.string ⟨#[]⟩, .int .u64 0]) := by kernel_rfl
@[simp] theorem lesz13 : lesz Tryd.prog 13 = some 2 := by kernel_rfl
@[simp] theorem plc14 : plcB Tryd.prog 14 = true := by kernel_rfl
@[simp] theorem fld14_0 : fldi Tryd.prog 14 0 = some (0, 1, false) := by kernel_rfl
@[simp] theorem fld14_1 : fldi Tryd.prog 14 1 = some (1, 1, false) := by kernel_rfl
@[simp] theorem sz14 : sz Tryd.prog 14 = some 2 := by kernel_rfl
@[simp] theorem agg14 : aggB Tryd.prog 14 = some true := by kernel_rfl
@[simp] theorem zr14 : zr Tryd.prog 14 = some (.agg #[.string ⟨#[]⟩, .int .u64 0]) := by kernel_rfl
@[simp] theorem lesz14 : lesz Tryd.prog 14 = some 2 := by kernel_rfl
attribute [simp] Tryd.underlying15
@[simp] theorem sz15 : sz Tryd.prog 15 = some 1 := by kernel_rfl
@[simp] theorem agg15 : aggB Tryd.prog 15 = some false := by kernel_rfl
@[simp] theorem zr15 : zr Tryd.prog 15 = some (.pointer none) := by kernel_rfl
@[simp] theorem lesz15 : lesz Tryd.prog 15 = some 1 := by kernel_rfl
attribute [simp] Tryd.underlying16
@[simp] theorem sz16 : sz Tryd.prog 16 = some 1 := by kernel_rfl
@[simp] theorem agg16 : aggB Tryd.prog 16 = some false := by kernel_rfl
@[simp] theorem zr16 : zr Tryd.prog 16 = some (.pointer none) := by kernel_rfl
@[simp] theorem lesz16 : lesz Tryd.prog 16 = some 1 := by kernel_rfl
attribute [simp] Tryd.underlying17
@[simp] theorem sz17 : sz Tryd.prog 17 = some 1 := by kernel_rfl
@[simp] theorem agg17 : aggB Tryd.prog 17 = some false := by kernel_rfl
@[simp] theorem zr17 : zr Tryd.prog 17 = some (.pointer none) := by kernel_rfl
@[simp] theorem lesz17 : lesz Tryd.prog 17 = some 1 := by kernel_rfl
@[simp] theorem plc18 : plcB Tryd.prog 18 = true := by kernel_rfl
@[simp] theorem fld18_0 : fldi Tryd.prog 18 0 = some (0, 1, false) := by kernel_rfl
@[simp] theorem sz18 : sz Tryd.prog 18 = some 1 := by kernel_rfl
@[simp] theorem agg18 : aggB Tryd.prog 18 = some true := by kernel_rfl
@[simp] theorem zr18 : zr Tryd.prog 18 = some (.agg #[.pointer none]) := by kernel_rfl
@[simp] theorem lesz18 : lesz Tryd.prog 18 = some 1 := by kernel_rfl
@[simp] theorem plc19 : plcB Tryd.prog 19 = true := by kernel_rfl
@[simp] theorem fld19_0 : fldi Tryd.prog 19 0 = some (0, 1, false) := by kernel_rfl
@[simp] theorem sz19 : sz Tryd.prog 19 = some 1 := by kernel_rfl
@[simp] theorem agg19 : aggB Tryd.prog 19 = some true := by kernel_rfl
@[simp] theorem zr19 : zr Tryd.prog 19 = some (.agg #[.pointer none]) := by kernel_rfl
@[simp] theorem lesz19 : lesz Tryd.prog 19 = some 1 := by kernel_rfl
attribute [simp] Tryd.underlying20
attribute [simp] Tryd.underlying21
@[simp] theorem sz21 : sz Tryd.prog 21 = some 1 := by kernel_rfl
@[simp] theorem agg21 : aggB Tryd.prog 21 = some false := by kernel_rfl
@[simp] theorem zr21 : zr Tryd.prog 21 = some (.int .i32 0) := by kernel_rfl
@[simp] theorem lesz21 : lesz Tryd.prog 21 = some 1 := by kernel_rfl
attribute [simp] Tryd.underlying22
attribute [simp] Tryd.underlying23
@[simp] theorem sz23 : sz Tryd.prog 23 = some 1 := by kernel_rfl
@[simp] theorem zr23 : zr Tryd.prog 23 = some (.tuple #[.int .i64 0, .int .i64 0, .int .i64 0]) := by kernel_rfl
@[simp] theorem lesz23 : lesz Tryd.prog 23 = some 1 := by kernel_rfl
attribute [simp] Tryd.underlying24
attribute [simp] Tryd.underlying25
attribute [simp] Tryd.underlying26
attribute [simp] Tryd.underlying27
attribute [simp] Tryd.underlying28
@[simp] theorem sz28 : sz Tryd.prog 28 = some 1 := by kernel_rfl
@[simp] theorem agg28 : aggB Tryd.prog 28 = some false := by kernel_rfl
@[simp] theorem zr28 : zr Tryd.prog 28 = some (.pointer none) := by kernel_rfl
@[simp] theorem lesz28 : lesz Tryd.prog 28 = some 1 := by kernel_rfl
attribute [simp] Tryd.underlying29
attribute [simp] Tryd.underlying30
attribute [simp] Tryd.underlying31
@[simp] theorem sz31 : sz Tryd.prog 31 = some 1 := by kernel_rfl
@[simp] theorem zr31 : zr Tryd.prog 31 = some (.tuple #[.int .i64 0, .int .i64 0]) := by kernel_rfl
@[simp] theorem lesz31 : lesz Tryd.prog 31 = some 1 := by kernel_rfl
attribute [simp] Tryd.underlying32
attribute [simp] Tryd.underlying33
@[simp] theorem sz33 : sz Tryd.prog 33 = some 1 := by kernel_rfl
@[simp] theorem agg33 : aggB Tryd.prog 33 = some false := by kernel_rfl
@[simp] theorem zr33 : zr Tryd.prog 33 = some (.pointer none) := by kernel_rfl
@[simp] theorem lesz33 : lesz Tryd.prog 33 = some 1 := by kernel_rfl
attribute [simp] Tryd.underlying34
@[simp] theorem sz34 : sz Tryd.prog 34 = some 1 := by kernel_rfl
@[simp] theorem agg34 : aggB Tryd.prog 34 = some false := by kernel_rfl
@[simp] theorem zr34 : zr Tryd.prog 34 = some (.int .i64 0) := by kernel_rfl
@[simp] theorem lesz34 : lesz Tryd.prog 34 = some 1 := by kernel_rfl
attribute [simp] Tryd.underlying35
@[simp] theorem sz35 : sz Tryd.prog 35 = some 1 := by kernel_rfl
@[simp] theorem zr35 : zr Tryd.prog 35 = some (.tuple #[.pointer none, .int .i64 0]) := by kernel_rfl
@[simp] theorem lesz35 : lesz Tryd.prog 35 = some 1 := by kernel_rfl
attribute [simp] Tryd.underlying36
attribute [simp] Tryd.underlying37
attribute [simp] Tryd.underlying38
@[simp] theorem sz38 : sz Tryd.prog 38 = some 1 := by kernel_rfl
@[simp] theorem agg38 : aggB Tryd.prog 38 = some false := by kernel_rfl
@[simp] theorem zr38 : zr Tryd.prog 38 = some (.slice none 0 0) := by kernel_rfl
@[simp] theorem lesz38 : lesz Tryd.prog 38 = some 1 := by kernel_rfl
@[simp] theorem plc39 : plcB Tryd.prog 39 = true := by kernel_rfl
@[simp] theorem fld39_0 : fldi Tryd.prog 39 0 = some (0, 1, false) := by kernel_rfl
@[simp] theorem fld39_1 : fldi Tryd.prog 39 1 = some (1, 1, false) := by kernel_rfl
@[simp] theorem fld39_2 : fldi Tryd.prog 39 2 = some (2, 1, false) := by kernel_rfl
@[simp] theorem sz39 : sz Tryd.prog 39 = some 3 := by kernel_rfl
@[simp] theorem agg39 : aggB Tryd.prog 39 = some true := by kernel_rfl
@[simp] theorem zr39 : zr Tryd.prog 39 = some (.agg #[.bool false, .int .i64 0, .int .i64 0]) := by kernel_rfl
@[simp] theorem lesz39 : lesz Tryd.prog 39 = some 3 := by kernel_rfl
@[simp] theorem plc40 : plcB Tryd.prog 40 = true := by kernel_rfl
@[simp] theorem fld40_0 : fldi Tryd.prog 40 0 = some (0, 1, false) := by kernel_rfl
@[simp] theorem fld40_1 : fldi Tryd.prog 40 1 = some (1, 1, false) := by kernel_rfl
@[simp] theorem fld40_2 : fldi Tryd.prog 40 2 = some (2, 1, false) := by kernel_rfl
@[simp] theorem sz40 : sz Tryd.prog 40 = some 3 := by kernel_rfl
@[simp] theorem agg40 : aggB Tryd.prog 40 = some true := by kernel_rfl
@[simp] theorem zr40 : zr Tryd.prog 40 = some (.agg #[.bool false, .int .i64 0, .int .i64 0]) := by kernel_rfl
@[simp] theorem lesz40 : lesz Tryd.prog 40 = some 3 := by kernel_rfl
@[simp] theorem plc41 : plcB Tryd.prog 41 = true := by kernel_rfl
@[simp] theorem fld41_0 : fldi Tryd.prog 41 0 = some (0, 1, false) := by kernel_rfl
@[simp] theorem fld41_1 : fldi Tryd.prog 41 1 = some (1, 1, false) := by kernel_rfl
@[simp] theorem fld41_2 : fldi Tryd.prog 41 2 = some (2, 1, false) := by kernel_rfl
@[simp] theorem fld41_3 : fldi Tryd.prog 41 3 = some (3, 1, false) := by kernel_rfl
@[simp] theorem sz41 : sz Tryd.prog 41 = some 4 := by kernel_rfl
@[simp] theorem agg41 : aggB Tryd.prog 41 = some true := by kernel_rfl
@[simp] theorem zr41 : zr Tryd.prog 41 = some (.agg #[.int .i64 0, .string ⟨#[]⟩, .int .i64 0, .bool false]) := by kernel_rfl
@[simp] theorem lesz41 : lesz Tryd.prog 41 = some 4 := by kernel_rfl
@[simp] theorem plc42 : plcB Tryd.prog 42 = true := by kernel_rfl
@[simp] theorem fld42_0 : fldi Tryd.prog 42 0 = some (0, 1, false) := by kernel_rfl
@[simp] theorem fld42_1 : fldi Tryd.prog 42 1 = some (1, 1, false) := by kernel_rfl
@[simp] theorem fld42_2 : fldi Tryd.prog 42 2 = some (2, 1, false) := by kernel_rfl
@[simp] theorem fld42_3 : fldi Tryd.prog 42 3 = some (3, 1, false) := by kernel_rfl
@[simp] theorem sz42 : sz Tryd.prog 42 = some 4 := by kernel_rfl
@[simp] theorem agg42 : aggB Tryd.prog 42 = some true := by kernel_rfl
@[simp] theorem zr42 : zr Tryd.prog 42 = some (.agg #[.int .i64 0, .string ⟨#[]⟩, .int .i64 0, .bool false]) := by kernel_rfl
@[simp] theorem lesz42 : lesz Tryd.prog 42 = some 4 := by kernel_rfl
attribute [simp] Tryd.underlying43
attribute [simp] Tryd.underlying44
attribute [simp] Tryd.underlying45
attribute [simp] Tryd.underlying46
attribute [simp] Tryd.underlying47
attribute [simp] Tryd.underlying48
@[simp] theorem sz48 : sz Tryd.prog 48 = some 1 := by kernel_rfl
@[simp] theorem agg48 : aggB Tryd.prog 48 = some false := by kernel_rfl
@[simp] theorem zr48 : zr Tryd.prog 48 = some (.slice none 0 0) := by kernel_rfl
@[simp] theorem lesz48 : lesz Tryd.prog 48 = some 1 := by kernel_rfl
attribute [simp] Tryd.underlying49
attribute [simp] Tryd.underlying50
@[simp] theorem sz50 : sz Tryd.prog 50 = some 1 := by kernel_rfl
@[simp] theorem zr50 : zr Tryd.prog 50 = some (.tuple #[.pointer none, .int .i64 0]) := by kernel_rfl
@[simp] theorem lesz50 : lesz Tryd.prog 50 = some 1 := by kernel_rfl
attribute [simp] Tryd.underlying51
@[simp] theorem plc52 : plcB Tryd.prog 52 = true := by kernel_rfl
@[simp] theorem fld52_0 : fldi Tryd.prog 52 0 = some (0, 1, false) := by kernel_rfl
@[simp] theorem fld52_1 : fldi Tryd.prog 52 1 = some (1, 1, false) := by kernel_rfl
@[simp] theorem fld52_2 : fldi Tryd.prog 52 2 = some (2, 1, false) := by kernel_rfl
@[simp] theorem fld52_3 : fldi Tryd.prog 52 3 = some (3, 1, false) := by kernel_rfl
@[simp] theorem fld52_4 : fldi Tryd.prog 52 4 = some (4, 1, false) := by kernel_rfl
@[simp] theorem fld52_5 : fldi Tryd.prog 52 5 = some (5, 1, false) := by kernel_rfl
@[simp] theorem fld52_6 : fldi Tryd.prog 52 6 = some (6, 1, false) := by kernel_rfl
@[simp] theorem fld52_7 : fldi Tryd.prog 52 7 = some (7, 1, false) := by kernel_rfl
@[simp] theorem fld52_8 : fldi Tryd.prog 52 8 = some (8, 1, false) := by kernel_rfl
@[simp] theorem fld52_9 : fldi Tryd.prog 52 9 = some (9, 1, false) := by kernel_rfl
@[simp] theorem fld52_10 : fldi Tryd.prog 52 10 = some (10, 1, false) := by kernel_rfl
@[simp] theorem fld52_11 : fldi Tryd.prog 52 11 = some (11, 1, false) := by kernel_rfl
@[simp] theorem fld52_12 : fldi Tryd.prog 52 12 = some (12, 1, false) := by kernel_rfl
@[simp] theorem sz52 : sz Tryd.prog 52 = some 13 := by kernel_rfl
@[simp] theorem agg52 : aggB Tryd.prog 52 = some true := by kernel_rfl
@[simp] theorem zr52 : zr Tryd.prog 52 = some (.agg #[.int .i64 0, .slice none 0 0, .int .i64 0, .int .u8 0, .bool false, .string ⟨#[]⟩, .int .i64 0, .bool false, .bool false, .int .i64 0, .int .i64 0, .int .i64 0, .int .i64 0]) := by kernel_rfl
@[simp] theorem lesz52 : lesz Tryd.prog 52 = some 13 := by kernel_rfl
@[simp] theorem plc53 : plcB Tryd.prog 53 = true := by kernel_rfl
@[simp] theorem fld53_0 : fldi Tryd.prog 53 0 = some (0, 1, false) := by kernel_rfl
@[simp] theorem fld53_1 : fldi Tryd.prog 53 1 = some (1, 1, false) := by kernel_rfl
@[simp] theorem fld53_2 : fldi Tryd.prog 53 2 = some (2, 1, false) := by kernel_rfl
@[simp] theorem fld53_3 : fldi Tryd.prog 53 3 = some (3, 1, false) := by kernel_rfl
@[simp] theorem fld53_4 : fldi Tryd.prog 53 4 = some (4, 1, false) := by kernel_rfl
@[simp] theorem fld53_5 : fldi Tryd.prog 53 5 = some (5, 1, false) := by kernel_rfl
@[simp] theorem fld53_6 : fldi Tryd.prog 53 6 = some (6, 1, false) := by kernel_rfl
@[simp] theorem fld53_7 : fldi Tryd.prog 53 7 = some (7, 1, false) := by kernel_rfl
@[simp] theorem fld53_8 : fldi Tryd.prog 53 8 = some (8, 1, false) := by kernel_rfl
@[simp] theorem fld53_9 : fldi Tryd.prog 53 9 = some (9, 1, false) := by kernel_rfl
@[simp] theorem fld53_10 : fldi Tryd.prog 53 10 = some (10, 1, false) := by kernel_rfl
@[simp] theorem fld53_11 : fldi Tryd.prog 53 11 = some (11, 1, false) := by kernel_rfl
@[simp] theorem fld53_12 : fldi Tryd.prog 53 12 = some (12, 1, false) := by kernel_rfl
@[simp] theorem sz53 : sz Tryd.prog 53 = some 13 := by kernel_rfl
@[simp] theorem agg53 : aggB Tryd.prog 53 = some true := by kernel_rfl
@[simp] theorem zr53 : zr Tryd.prog 53 = some (.agg #[.int .i64 0, .slice none 0 0, .int .i64 0, .int .u8 0, .bool false, .string ⟨#[]⟩, .int .i64 0, .bool false, .bool false, .int .i64 0, .int .i64 0, .int .i64 0, .int .i64 0]) := by kernel_rfl
@[simp] theorem lesz53 : lesz Tryd.prog 53 = some 13 := by kernel_rfl
attribute [simp] Tryd.underlying54
@[simp] theorem plc55 : plcB Tryd.prog 55 = true := by kernel_rfl
@[simp] theorem fld55_0 : fldi Tryd.prog 55 0 = some (0, 1, false) := by kernel_rfl
@[simp] theorem fld55_1 : fldi Tryd.prog 55 1 = some (1, 1, false) := by kernel_rfl
@[simp] theorem sz55 : sz Tryd.prog 55 = some 2 := by kernel_rfl
@[simp] theorem agg55 : aggB Tryd.prog 55 = some true := by kernel_rfl
@[simp] theorem zr55 : zr Tryd.prog 55 = some (.agg #[.int .i64 0, .int .i64 0]) := by kernel_rfl
@[simp] theorem lesz55 : lesz Tryd.prog 55 = some 2 := by kernel_rfl
@[simp] theorem plc56 : plcB Tryd.prog 56 = true := by kernel_rfl
@[simp] theorem fld56_0 : fldi Tryd.prog 56 0 = some (0, 1, false) := by kernel_rfl
@[simp] theorem fld56_1 : fldi Tryd.prog 56 1 = some (1, 1, false) := by kernel_rfl
@[simp] theorem sz56 : sz Tryd.prog 56 = some 2 := by kernel_rfl
@[simp] theorem agg56 : aggB Tryd.prog 56 = some true := by kernel_rfl
@[simp] theorem zr56 : zr Tryd.prog 56 = some (.agg #[.int .i64 0, .int .i64 0]) := by kernel_rfl
@[simp] theorem lesz56 : lesz Tryd.prog 56 = some 2 := by kernel_rfl
attribute [simp] Tryd.underlying57
attribute [simp] Tryd.underlying58
attribute [simp] Tryd.underlying59
attribute [simp] Tryd.underlying60
attribute [simp] Tryd.underlying61
attribute [simp] Tryd.underlying62
@[simp] theorem sz62 : sz Tryd.prog 62 = some 1 := by kernel_rfl
@[simp] theorem agg62 : aggB Tryd.prog 62 = some false := by kernel_rfl
@[simp] theorem zr62 : zr Tryd.prog 62 = some (.pointer none) := by kernel_rfl
@[simp] theorem lesz62 : lesz Tryd.prog 62 = some 1 := by kernel_rfl
@[simp] theorem plc63 : plcB Tryd.prog 63 = true := by kernel_rfl
@[simp] theorem fld63_0 : fldi Tryd.prog 63 0 = some (0, 1, false) := by kernel_rfl
@[simp] theorem fld63_1 : fldi Tryd.prog 63 1 = some (1, 1, false) := by kernel_rfl
@[simp] theorem fld63_2 : fldi Tryd.prog 63 2 = some (2, 1, false) := by kernel_rfl
@[simp] theorem fld63_3 : fldi Tryd.prog 63 3 = some (3, 1, false) := by kernel_rfl
@[simp] theorem fld63_4 : fldi Tryd.prog 63 4 = some (4, 1, false) := by kernel_rfl
@[simp] theorem fld63_5 : fldi Tryd.prog 63 5 = some (5, 1, false) := by kernel_rfl
@[simp] theorem fld63_6 : fldi Tryd.prog 63 6 = some (6, 1, false) := by kernel_rfl
@[simp] theorem sz63 : sz Tryd.prog 63 = some 7 := by kernel_rfl
@[simp] theorem agg63 : aggB Tryd.prog 63 = some true := by kernel_rfl
@[simp] theorem zr63 : zr Tryd.prog 63 = some (.agg #[.pointer none, .pointer none, .int .i64 0, .string ⟨#[]⟩, .int .i64 0, .int .i64 0, .bool false]) := by kernel_rfl
@[simp] theorem lesz63 : lesz Tryd.prog 63 = some 7 := by kernel_rfl
@[simp] theorem plc64 : plcB Tryd.prog 64 = true := by kernel_rfl
@[simp] theorem fld64_0 : fldi Tryd.prog 64 0 = some (0, 1, false) := by kernel_rfl
@[simp] theorem fld64_1 : fldi Tryd.prog 64 1 = some (1, 1, false) := by kernel_rfl
@[simp] theorem fld64_2 : fldi Tryd.prog 64 2 = some (2, 1, false) := by kernel_rfl
@[simp] theorem fld64_3 : fldi Tryd.prog 64 3 = some (3, 1, false) := by kernel_rfl
@[simp] theorem fld64_4 : fldi Tryd.prog 64 4 = some (4, 1, false) := by kernel_rfl
@[simp] theorem fld64_5 : fldi Tryd.prog 64 5 = some (5, 1, false) := by kernel_rfl
@[simp] theorem fld64_6 : fldi Tryd.prog 64 6 = some (6, 1, false) := by kernel_rfl
@[simp] theorem sz64 : sz Tryd.prog 64 = some 7 := by kernel_rfl
@[simp] theorem agg64 : aggB Tryd.prog 64 = some true := by kernel_rfl
@[simp] theorem zr64 : zr Tryd.prog 64 = some (.agg #[.pointer none, .pointer none, .int .i64 0, .string ⟨#[]⟩, .int .i64 0, .int .i64 0, .bool false]) := by kernel_rfl
@[simp] theorem lesz64 : lesz Tryd.prog 64 = some 7 := by kernel_rfl
attribute [simp] Tryd.underlying65
attribute [simp] Tryd.underlying66
attribute [simp] Tryd.underlying67
@[simp] theorem sz67 : sz Tryd.prog 67 = some 1 := by kernel_rfl
@[simp] theorem agg67 : aggB Tryd.prog 67 = some false := by kernel_rfl
@[simp] theorem zr67 : zr Tryd.prog 67 = some (.slice none 0 0) := by kernel_rfl
@[simp] theorem lesz67 : lesz Tryd.prog 67 = some 1 := by kernel_rfl
attribute [simp] Tryd.underlying68
attribute [simp] Tryd.underlying69
attribute [simp] Tryd.underlying70
attribute [simp] Tryd.underlying71
attribute [simp] Tryd.underlying72
attribute [simp] Tryd.underlying73
@[simp] theorem sz73 : sz Tryd.prog 73 = some 1 := by kernel_rfl
@[simp] theorem zr73 : zr Tryd.prog 73 = some (.tuple #[.pointer none, .int .i64 0]) := by kernel_rfl
@[simp] theorem lesz73 : lesz Tryd.prog 73 = some 1 := by kernel_rfl
attribute [simp] Tryd.underlying74
attribute [simp] Tryd.underlying75
attribute [simp] Tryd.underlying76
attribute [simp] Tryd.underlying77
attribute [simp] Tryd.underlying78
attribute [simp] Tryd.underlying79
attribute [simp] Tryd.underlying80
attribute [simp] Tryd.underlying81
attribute [simp] Tryd.underlying82
@[simp] theorem plc83 : plcB Tryd.prog 83 = true := by kernel_rfl
@[simp] theorem fld83_0 : fldi Tryd.prog 83 0 = some (0, 1, false) := by kernel_rfl
@[simp] theorem fld83_1 : fldi Tryd.prog 83 1 = some (1, 1, false) := by kernel_rfl
@[simp] theorem fld83_2 : fldi Tryd.prog 83 2 = some (2, 1, false) := by kernel_rfl
@[simp] theorem fld83_3 : fldi Tryd.prog 83 3 = some (3, 1, false) := by kernel_rfl
@[simp] theorem fld83_4 : fldi Tryd.prog 83 4 = some (4, 1, false) := by kernel_rfl
@[simp] theorem fld83_5 : fldi Tryd.prog 83 5 = some (5, 1, false) := by kernel_rfl
@[simp] theorem fld83_6 : fldi Tryd.prog 83 6 = some (6, 1, false) := by kernel_rfl
@[simp] theorem fld83_7 : fldi Tryd.prog 83 7 = some (7, 1, false) := by kernel_rfl
@[simp] theorem fld83_8 : fldi Tryd.prog 83 8 = some (8, 1, false) := by kernel_rfl
@[simp] theorem fld83_9 : fldi Tryd.prog 83 9 = some (9, 1, false) := by kernel_rfl
@[simp] theorem sz83 : sz Tryd.prog 83 = some 10 := by kernel_rfl
@[simp] theorem agg83 : aggB Tryd.prog 83 = some true := by kernel_rfl
@[simp] theorem zr83 : zr Tryd.prog 83 = some (.agg #[.int .i64 0, .slice none 0 0, .int .i64 0, .bool false, .string ⟨#[]⟩, .int .i64 0, .bool false, .int .i64 0, .int .i64 0, .int .i64 0]) := by kernel_rfl
@[simp] theorem lesz83 : lesz Tryd.prog 83 = some 10 := by kernel_rfl
@[simp] theorem plc84 : plcB Tryd.prog 84 = true := by kernel_rfl
@[simp] theorem fld84_0 : fldi Tryd.prog 84 0 = some (0, 1, false) := by kernel_rfl
@[simp] theorem fld84_1 : fldi Tryd.prog 84 1 = some (1, 1, false) := by kernel_rfl
@[simp] theorem fld84_2 : fldi Tryd.prog 84 2 = some (2, 1, false) := by kernel_rfl
@[simp] theorem fld84_3 : fldi Tryd.prog 84 3 = some (3, 1, false) := by kernel_rfl
@[simp] theorem fld84_4 : fldi Tryd.prog 84 4 = some (4, 1, false) := by kernel_rfl
@[simp] theorem fld84_5 : fldi Tryd.prog 84 5 = some (5, 1, false) := by kernel_rfl
@[simp] theorem fld84_6 : fldi Tryd.prog 84 6 = some (6, 1, false) := by kernel_rfl
@[simp] theorem fld84_7 : fldi Tryd.prog 84 7 = some (7, 1, false) := by kernel_rfl
@[simp] theorem fld84_8 : fldi Tryd.prog 84 8 = some (8, 1, false) := by kernel_rfl
@[simp] theorem fld84_9 : fldi Tryd.prog 84 9 = some (9, 1, false) := by kernel_rfl
@[simp] theorem sz84 : sz Tryd.prog 84 = some 10 := by kernel_rfl
@[simp] theorem agg84 : aggB Tryd.prog 84 = some true := by kernel_rfl
@[simp] theorem zr84 : zr Tryd.prog 84 = some (.agg #[.int .i64 0, .slice none 0 0, .int .i64 0, .bool false, .string ⟨#[]⟩, .int .i64 0, .bool false, .int .i64 0, .int .i64 0, .int .i64 0]) := by kernel_rfl
@[simp] theorem lesz84 : lesz Tryd.prog 84 = some 10 := by kernel_rfl
attribute [simp] Tryd.underlying85
attribute [simp] Tryd.underlying86
attribute [simp] Tryd.underlying87
@[simp] theorem sz87 : sz Tryd.prog 87 = some 256 := by kernel_rfl
@[simp] theorem agg87 : aggB Tryd.prog 87 = some true := by kernel_rfl
@[simp] theorem zr87 : zr Tryd.prog 87 = some (.agg #[.int .u8 0, .int .u8 0, .int .u8 0, .int .u8 0, .int .u8 0, .int .u8 0, .int .u8 0, .int .u8 0, .int .u8 0, .int .u8 0, .int .u8 0, .int .u8 0, .int .u8 0, .int .u8 0, .int .u8 0, .int .u8 0, .int .u8 0, .int .u8 0, .int .u8 0, .int .u8 0, .int .u8 0, .int .u8 0, .int .u8 0, .int .u8 0, .int .u8 0, .int .u8 0, .int .u8 0, .int .u8 0, .int .u8 0, .int .u8 0, .int .u8 0, .int .u8 0, .int .u8 0, .int .u8 0, .int .u8 0, .int .u8 0, .int .u8 0, .int .u8 0, .int .u8 0, .int .u8 0, .int .u8 0, .int .u8 0, .int .u8 0, .int .u8 0, .int .u8 0, .int .u8 0, .int .u8 0, .int .u8 0, .int .u8 0, .int .u8 0, .int .u8 0, .int .u8 0, .int .u8 0, .int .u8 0, .int .u8 0, .int .u8 0, .int .u8 0, .int .u8 0, .int .u8 0, .int .u8 0, .int .u8 0, .int .u8 0, .int .u8 0, .int .u8 0, .int .u8 0, .int .u8 0, .int .u8 0, .int .u8 0, .int .u8 0, .int .u8 0, .int .u8 0, .int .u8 0, .int .u8 0, .int .u8 0, .int .u8 0, .int .u8 0, .int .u8 0, .int .u8 0, .int .u8 0, .int .u8 0, .int .u8 0, .int .u8 0, .int .u8 0, .int .u8 0, .int .u8 0, .int .u8 0, .int .u8 0, .int .u8 0, .int .u8 0, .int .u8 0, .int .u8 0, .int .u8 0, .int .u8 0, .int .u8 0, .int .u8 0, .int .u8 0, .int .u8 0, .int .u8 0, .int .u8 0, .int .u8 0, .int .u8 0, .int .u8 0, .int .u8 0, .int .u8 0, .int .u8 0, .int .u8 0, .int .u8 0, .int .u8 0, .int .u8 0, .int .u8 0, .int .u8 0, .int .u8 0, .int .u8 0, .int .u8 0, .int .u8 0, .int .u8 0, .int .u8 0, .int .u8 0, .int .u8 0, .int .u8 0, .int .u8 0, .int .u8 0, .int .u8 0, .int .u8 0, .int .u8 0, .int .u8 0, .int .u8 0, .int .u8 0, .int .u8 0, .int .u8 0, .int .u8 0, .int .u8 0, .int .u8 0, .int .u8 0, .int .u8 0, .int .u8 0, .int .u8 0, .int .u8 0, .int .u8 0, .int .u8 0, .int .u8 0, .int .u8 0, .int .u8 0, .int .u8 0, .int .u8 0, .int .u8 0, .int .u8 0, .int .u8 0, .int .u8 0, .int .u8 0, .int .u8 0, .int .u8 0, .int .u8 0, .int .u8 0, .int .u8 0, .int .u8 0, .int .u8 0, .int .u8 0, .int .u8 0, .int .u8 0, .int .u8 0, .int .u8 0, .int .u8 0, .int .u8 0, .int .u8 0, .int .u8 0, .int .u8 0, .int .u8 0, .int .u8 0, .int .u8 0, .int .u8 0, .int .u8 0, .int .u8 0, .int .u8 0, .int .u8 0, .int .u8 0, .int .u8 0, .int .u8 0, .int .u8 0, .int .u8 0, .int .u8 0, .int .u8 0, .int .u8 0, .int .u8 0, .int .u8 0, .int .u8 0, .int .u8 0, .int .u8 0, .int .u8 0, .int .u8 0, .int .u8 0, .int .u8 0, .int .u8 0, .int .u8 0, .int .u8 0, .int .u8 0, .int .u8 0, .int .u8 0, .int .u8 0, .int .u8 0, .int .u8 0, .int .u8 0, .int .u8 0, .int .u8 0, .int .u8 0, .int .u8 0, .int .u8 0, .int .u8 0, .int .u8 0, .int .u8 0, .int .u8 0, .int .u8 0, .int .u8 0, .int .u8 0, .int .u8 0, .int .u8 0, .int .u8 0, .int .u8 0, .int .u8 0, .int .u8 0, .int .u8 0, .int .u8 0, .int .u8 0, .int .u8 0, .int .u8 0, .int .u8 0, .int .u8 0, .int .u8 0, .int .u8 0, .int .u8 0, .int .u8 0, .int .u8 0, .int .u8 0, .int .u8 0, .int .u8 0, .int .u8 0, .int .u8 0, .int .u8 0, .int .u8 0, .int .u8 0, .int .u8 0, .int .u8 0, .int .u8 0, .int .u8 0, .int .u8 0, .int .u8 0, .int .u8 0, .int .u8 0, .int .u8 0, .int .u8 0, .int .u8 0, .int .u8 0, .int .u8 0, .int .u8 0, .int .u8 0, .int .u8 0]) := by kernel_rfl
@[simp] theorem lesz87 : lesz Tryd.prog 87 = some 256 := by kernel_rfl
attribute [simp] Tryd.underlying88
attribute [simp] Tryd.underlying89
attribute [simp] Tryd.underlying90
attribute [simp] Tryd.underlying91
@[simp] theorem sz91 : sz Tryd.prog 91 = some 1 := by kernel_rfl
@[simp] theorem zr91 : zr Tryd.prog 91 = some (.tuple #[.int .i32 0, .int .i64 0]) := by kernel_rfl
@[simp] theorem lesz91 : lesz Tryd.prog 91 = some 1 := by kernel_rfl
attribute [simp] Tryd.underlying92
attribute [simp] Tryd.underlying93
@[simp] theorem sz93 : sz Tryd.prog 93 = some 1 := by kernel_rfl
@[simp] theorem agg93 : aggB Tryd.prog 93 = some false := by kernel_rfl
@[simp] theorem zr93 : zr Tryd.prog 93 = some (.slice none 0 0) := by kernel_rfl
@[simp] theorem lesz93 : lesz Tryd.prog 93 = some 1 := by kernel_rfl
@[simp] theorem plc94 : plcB Tryd.prog 94 = true := by kernel_rfl
@[simp] theorem fld94_0 : fldi Tryd.prog 94 0 = some (0, 1, false) := by kernel_rfl
@[simp] theorem fld94_1 : fldi Tryd.prog 94 1 = some (1, 1, false) := by kernel_rfl
@[simp] theorem sz94 : sz Tryd.prog 94 = some 2 := by kernel_rfl
@[simp] theorem agg94 : aggB Tryd.prog 94 = some true := by kernel_rfl
@[simp] theorem zr94 : zr Tryd.prog 94 = some (.agg #[.int .i64 0, .int .i64 0]) := by kernel_rfl
@[simp] theorem lesz94 : lesz Tryd.prog 94 = some 2 := by kernel_rfl
@[simp] theorem plc95 : plcB Tryd.prog 95 = true := by kernel_rfl
@[simp] theorem fld95_0 : fldi Tryd.prog 95 0 = some (0, 1, false) := by kernel_rfl
@[simp] theorem fld95_1 : fldi Tryd.prog 95 1 = some (1, 1, false) := by kernel_rfl
@[simp] theorem sz95 : sz Tryd.prog 95 = some 2 := by kernel_rfl
@[simp] theorem agg95 : aggB Tryd.prog 95 = some true := by kernel_rfl
@[simp] theorem zr95 : zr Tryd.prog 95 = some (.agg #[.int .i64 0, .int .i64 0]) := by kernel_rfl
@[simp] theorem lesz95 : lesz Tryd.prog 95 = some 2 := by kernel_rfl
attribute [simp] Tryd.underlying96
@[simp] theorem sz96 : sz Tryd.prog 96 = some 1 := by kernel_rfl
@[simp] theorem agg96 : aggB Tryd.prog 96 = some false := by kernel_rfl
@[simp] theorem zr96 : zr Tryd.prog 96 = some (.int .u32 0) := by kernel_rfl
@[simp] theorem lesz96 : lesz Tryd.prog 96 = some 1 := by kernel_rfl
attribute [simp] Tryd.underlying97
attribute [simp] Tryd.underlying98
@[simp] theorem sz98 : sz Tryd.prog 98 = some 1 := by kernel_rfl
@[simp] theorem agg98 : aggB Tryd.prog 98 = some false := by kernel_rfl
@[simp] theorem zr98 : zr Tryd.prog 98 = some (.pointer none) := by kernel_rfl
@[simp] theorem lesz98 : lesz Tryd.prog 98 = some 1 := by kernel_rfl
attribute [simp] Tryd.underlying99
attribute [simp] Tryd.underlying100
attribute [simp] Tryd.underlying101
attribute [simp] Tryd.underlying102
@[simp] theorem sz102 : sz Tryd.prog 102 = some 1 := by kernel_rfl
@[simp] theorem zr102 : zr Tryd.prog 102 = some (.tuple #[.int .i64 0, .bool false]) := by kernel_rfl
@[simp] theorem lesz102 : lesz Tryd.prog 102 = some 1 := by kernel_rfl
attribute [simp] Tryd.underlying103
attribute [simp] Tryd.underlying104
@[simp] theorem sz104 : sz Tryd.prog 104 = some 1 := by kernel_rfl
@[simp] theorem agg104 : aggB Tryd.prog 104 = some false := by kernel_rfl
@[simp] theorem zr104 : zr Tryd.prog 104 = some (.int .u64 0) := by kernel_rfl
@[simp] theorem lesz104 : lesz Tryd.prog 104 = some 1 := by kernel_rfl
attribute [simp] Tryd.underlying105
@[simp] theorem sz105 : sz Tryd.prog 105 = some 1 := by kernel_rfl
@[simp] theorem agg105 : aggB Tryd.prog 105 = some false := by kernel_rfl
@[simp] theorem zr105 : zr Tryd.prog 105 = some (.slice none 0 0) := by kernel_rfl
@[simp] theorem lesz105 : lesz Tryd.prog 105 = some 1 := by kernel_rfl
attribute [simp] Tryd.underlying106
@[simp] theorem sz106 : sz Tryd.prog 106 = some 1 := by kernel_rfl
@[simp] theorem agg106 : aggB Tryd.prog 106 = some false := by kernel_rfl
@[simp] theorem zr106 : zr Tryd.prog 106 = some (.slice none 0 0) := by kernel_rfl
@[simp] theorem lesz106 : lesz Tryd.prog 106 = some 1 := by kernel_rfl
@[simp] theorem plc107 : plcB Tryd.prog 107 = true := by kernel_rfl
@[simp] theorem fld107_0 : fldi Tryd.prog 107 0 = some (0, 1, false) := by kernel_rfl
@[simp] theorem fld107_1 : fldi Tryd.prog 107 1 = some (1, 1, false) := by kernel_rfl
@[simp] theorem fld107_2 : fldi Tryd.prog 107 2 = some (2, 1, false) := by kernel_rfl
@[simp] theorem sz107 : sz Tryd.prog 107 = some 3 := by kernel_rfl
@[simp] theorem agg107 : aggB Tryd.prog 107 = some true := by kernel_rfl
@[simp] theorem zr107 : zr Tryd.prog 107 = some (.agg #[.slice none 0 0, .slice none 0 0, .int .i64 0]) := by kernel_rfl
@[simp] theorem lesz107 : lesz Tryd.prog 107 = some 3 := by kernel_rfl
@[simp] theorem plc108 : plcB Tryd.prog 108 = true := by kernel_rfl
@[simp] theorem fld108_0 : fldi Tryd.prog 108 0 = some (0, 1, false) := by kernel_rfl
@[simp] theorem fld108_1 : fldi Tryd.prog 108 1 = some (1, 1, false) := by kernel_rfl
@[simp] theorem fld108_2 : fldi Tryd.prog 108 2 = some (2, 1, false) := by kernel_rfl
@[simp] theorem sz108 : sz Tryd.prog 108 = some 3 := by kernel_rfl
@[simp] theorem agg108 : aggB Tryd.prog 108 = some true := by kernel_rfl
@[simp] theorem zr108 : zr Tryd.prog 108 = some (.agg #[.slice none 0 0, .slice none 0 0, .int .i64 0]) := by kernel_rfl
@[simp] theorem lesz108 : lesz Tryd.prog 108 = some 3 := by kernel_rfl
attribute [simp] Tryd.underlying109
@[simp] theorem sz109 : sz Tryd.prog 109 = some 1 := by kernel_rfl
@[simp] theorem agg109 : aggB Tryd.prog 109 = some false := by kernel_rfl
@[simp] theorem zr109 : zr Tryd.prog 109 = some (.int .u16 0) := by kernel_rfl
@[simp] theorem lesz109 : lesz Tryd.prog 109 = some 1 := by kernel_rfl
@[simp] theorem plc110 : plcB Tryd.prog 110 = true := by kernel_rfl
@[simp] theorem fld110_0 : fldi Tryd.prog 110 0 = some (0, 1, false) := by kernel_rfl
@[simp] theorem fld110_1 : fldi Tryd.prog 110 1 = some (1, 1, false) := by kernel_rfl
@[simp] theorem fld110_2 : fldi Tryd.prog 110 2 = some (2, 1, false) := by kernel_rfl
@[simp] theorem sz110 : sz Tryd.prog 110 = some 3 := by kernel_rfl
@[simp] theorem agg110 : aggB Tryd.prog 110 = some true := by kernel_rfl
@[simp] theorem zr110 : zr Tryd.prog 110 = some (.agg #[.int .u16 0, .int .u16 0, .int .u16 0]) := by kernel_rfl
@[simp] theorem lesz110 : lesz Tryd.prog 110 = some 3 := by kernel_rfl
@[simp] theorem plc111 : plcB Tryd.prog 111 = true := by kernel_rfl
@[simp] theorem fld111_0 : fldi Tryd.prog 111 0 = some (0, 1, false) := by kernel_rfl
@[simp] theorem fld111_1 : fldi Tryd.prog 111 1 = some (1, 1, false) := by kernel_rfl
@[simp] theorem fld111_2 : fldi Tryd.prog 111 2 = some (2, 1, false) := by kernel_rfl
@[simp] theorem sz111 : sz Tryd.prog 111 = some 3 := by kernel_rfl
@[simp] theorem agg111 : aggB Tryd.prog 111 = some true := by kernel_rfl
@[simp] theorem zr111 : zr Tryd.prog 111 = some (.agg #[.int .u16 0, .int .u16 0, .int .u16 0]) := by kernel_rfl
@[simp] theorem lesz111 : lesz Tryd.prog 111 = some 3 := by kernel_rfl
attribute [simp] Tryd.underlying112
@[simp] theorem plc113 : plcB Tryd.prog 113 = true := by kernel_rfl
@[simp] theorem fld113_0 : fldi Tryd.prog 113 0 = some (0, 1, false) := by kernel_rfl
@[simp] theorem fld113_1 : fldi Tryd.prog 113 1 = some (1, 1, false) := by kernel_rfl
@[simp] theorem fld113_2 : fldi Tryd.prog 113 2 = some (2, 1, false) := by kernel_rfl
@[simp] theorem sz113 : sz Tryd.prog 113 = some 3 := by kernel_rfl
@[simp] theorem agg113 : aggB Tryd.prog 113 = some true := by kernel_rfl
@[simp] theorem zr113 : zr Tryd.prog 113 = some (.agg #[.int .u32 0, .int .u32 0, .int .u32 0]) := by kernel_rfl
@[simp] theorem lesz113 : lesz Tryd.prog 113 = some 3 := by kernel_rfl
@[simp] theorem plc114 : plcB Tryd.prog 114 = true := by kernel_rfl
@[simp] theorem fld114_0 : fldi Tryd.prog 114 0 = some (0, 1, false) := by kernel_rfl
@[simp] theorem fld114_1 : fldi Tryd.prog 114 1 = some (1, 1, false) := by kernel_rfl
@[simp] theorem fld114_2 : fldi Tryd.prog 114 2 = some (2, 1, false) := by kernel_rfl
@[simp] theorem sz114 : sz Tryd.prog 114 = some 3 := by kernel_rfl
@[simp] theorem agg114 : aggB Tryd.prog 114 = some true := by kernel_rfl
@[simp] theorem zr114 : zr Tryd.prog 114 = some (.agg #[.int .u32 0, .int .u32 0, .int .u32 0]) := by kernel_rfl
@[simp] theorem lesz114 : lesz Tryd.prog 114 = some 3 := by kernel_rfl
attribute [simp] Tryd.underlying115
@[simp] theorem plc116 : plcB Tryd.prog 116 = true := by kernel_rfl
@[simp] theorem fld116_0 : fldi Tryd.prog 116 0 = some (0, 1, false) := by kernel_rfl
@[simp] theorem fld116_1 : fldi Tryd.prog 116 1 = some (1, 1, false) := by kernel_rfl
@[simp] theorem sz116 : sz Tryd.prog 116 = some 2 := by kernel_rfl
@[simp] theorem agg116 : aggB Tryd.prog 116 = some true := by kernel_rfl
@[simp] theorem zr116 : zr Tryd.prog 116 = some (.agg #[.int .u8 0, .int .u8 0]) := by kernel_rfl
@[simp] theorem lesz116 : lesz Tryd.prog 116 = some 2 := by kernel_rfl
@[simp] theorem plc117 : plcB Tryd.prog 117 = true := by kernel_rfl
@[simp] theorem fld117_0 : fldi Tryd.prog 117 0 = some (0, 1, false) := by kernel_rfl
@[simp] theorem fld117_1 : fldi Tryd.prog 117 1 = some (1, 1, false) := by kernel_rfl
@[simp] theorem sz117 : sz Tryd.prog 117 = some 2 := by kernel_rfl
@[simp] theorem agg117 : aggB Tryd.prog 117 = some true := by kernel_rfl
@[simp] theorem zr117 : zr Tryd.prog 117 = some (.agg #[.int .u8 0, .int .u8 0]) := by kernel_rfl
@[simp] theorem lesz117 : lesz Tryd.prog 117 = some 2 := by kernel_rfl
attribute [simp] Tryd.underlying118
@[simp] theorem sz118 : sz Tryd.prog 118 = some 32 := by kernel_rfl
@[simp] theorem agg118 : aggB Tryd.prog 118 = some true := by kernel_rfl
@[simp] theorem zr118 : zr Tryd.prog 118 = some (.agg #[.int .u8 0, .int .u8 0, .int .u8 0, .int .u8 0, .int .u8 0, .int .u8 0, .int .u8 0, .int .u8 0, .int .u8 0, .int .u8 0, .int .u8 0, .int .u8 0, .int .u8 0, .int .u8 0, .int .u8 0, .int .u8 0, .int .u8 0, .int .u8 0, .int .u8 0, .int .u8 0, .int .u8 0, .int .u8 0, .int .u8 0, .int .u8 0, .int .u8 0, .int .u8 0, .int .u8 0, .int .u8 0, .int .u8 0, .int .u8 0, .int .u8 0, .int .u8 0]) := by kernel_rfl
@[simp] theorem lesz118 : lesz Tryd.prog 118 = some 32 := by kernel_rfl
attribute [simp] Tryd.underlying119
@[simp] theorem sz119 : sz Tryd.prog 119 = some 1 := by kernel_rfl
@[simp] theorem zr119 : zr Tryd.prog 119 = some (.tuple #[.int .u32 0, .int .u32 0]) := by kernel_rfl
@[simp] theorem lesz119 : lesz Tryd.prog 119 = some 1 := by kernel_rfl
attribute [simp] Tryd.underlying120
attribute [simp] Tryd.underlying121
@[simp] theorem sz121 : sz Tryd.prog 121 = some 1 := by kernel_rfl
@[simp] theorem agg121 : aggB Tryd.prog 121 = some false := by kernel_rfl
@[simp] theorem zr121 : zr Tryd.prog 121 = some (.pointer none) := by kernel_rfl
@[simp] theorem lesz121 : lesz Tryd.prog 121 = some 1 := by kernel_rfl
attribute [simp] Tryd.underlying122
@[simp] theorem sz122 : sz Tryd.prog 122 = some 1 := by kernel_rfl
@[simp] theorem agg122 : aggB Tryd.prog 122 = some false := by kernel_rfl
@[simp] theorem zr122 : zr Tryd.prog 122 = some (.pointer none) := by kernel_rfl
@[simp] theorem lesz122 : lesz Tryd.prog 122 = some 1 := by kernel_rfl
@[simp] theorem plc123 : plcB Tryd.prog 123 = true := by kernel_rfl
@[simp] theorem fld123_0 : fldi Tryd.prog 123 0 = some (0, 1, false) := by kernel_rfl
@[simp] theorem fld123_1 : fldi Tryd.prog 123 1 = some (1, 1, false) := by kernel_rfl
@[simp] theorem fld123_2 : fldi Tryd.prog 123 2 = some (2, 1, false) := by kernel_rfl
@[simp] theorem fld123_3 : fldi Tryd.prog 123 3 = some (3, 1, false) := by kernel_rfl
@[simp] theorem sz123 : sz Tryd.prog 123 = some 4 := by kernel_rfl
@[simp] theorem agg123 : aggB Tryd.prog 123 = some true := by kernel_rfl
@[simp] theorem zr123 : zr Tryd.prog 123 = some (.agg #[.pointer none, .pointer none, .pointer none, .string ⟨#[]⟩]) := by kernel_rfl
@[simp] theorem lesz123 : lesz Tryd.prog 123 = some 4 := by kernel_rfl
@[simp] theorem plc124 : plcB Tryd.prog 124 = true := by kernel_rfl
@[simp] theorem fld124_0 : fldi Tryd.prog 124 0 = some (0, 1, false) := by kernel_rfl
@[simp] theorem fld124_1 : fldi Tryd.prog 124 1 = some (1, 1, false) := by kernel_rfl
@[simp] theorem fld124_2 : fldi Tryd.prog 124 2 = some (2, 1, false) := by kernel_rfl
@[simp] theorem fld124_3 : fldi Tryd.prog 124 3 = some (3, 1, false) := by kernel_rfl
@[simp] theorem sz124 : sz Tryd.prog 124 = some 4 := by kernel_rfl
@[simp] theorem agg124 : aggB Tryd.prog 124 = some true := by kernel_rfl
@[simp] theorem zr124 : zr Tryd.prog 124 = some (.agg #[.pointer none, .pointer none, .pointer none, .string ⟨#[]⟩]) := by kernel_rfl
@[simp] theorem lesz124 : lesz Tryd.prog 124 = some 4 := by kernel_rfl
attribute [simp] Tryd.underlying125
@[simp] theorem sz125 : sz Tryd.prog 125 = some 0 := by kernel_rfl
@[simp] theorem agg125 : aggB Tryd.prog 125 = some true := by kernel_rfl
@[simp] theorem zr125 : zr Tryd.prog 125 = some (.agg #[]) := by kernel_rfl
@[simp] theorem plc126 : plcB Tryd.prog 126 = true := by kernel_rfl
@[simp] theorem fld126_0 : fldi Tryd.prog 126 0 = some (0, 0, true) := by kernel_rfl
@[simp] theorem sz126 : sz Tryd.prog 126 = some 0 := by kernel_rfl
@[simp] theorem agg126 : aggB Tryd.prog 126 = some true := by kernel_rfl
@[simp] theorem zr126 : zr Tryd.prog 126 = some (.agg #[]) := by kernel_rfl
@[simp] theorem plc127 : plcB Tryd.prog 127 = true := by kernel_rfl
@[simp] theorem fld127_0 : fldi Tryd.prog 127 0 = some (0, 0, true) := by kernel_rfl
@[simp] theorem sz127 : sz Tryd.prog 127 = some 0 := by kernel_rfl
@[simp] theorem agg127 : aggB Tryd.prog 127 = some true := by kernel_rfl
@[simp] theorem zr127 : zr Tryd.prog 127 = some (.agg #[]) := by kernel_rfl
attribute [simp] Tryd.underlying128
@[simp] theorem sz128 : sz Tryd.prog 128 = some 1 := by kernel_rfl
@[simp] theorem agg128 : aggB Tryd.prog 128 = some false := by kernel_rfl
@[simp] theorem zr128 : zr Tryd.prog 128 = some (.int .u8 0) := by kernel_rfl
@[simp] theorem lesz128 : lesz Tryd.prog 128 = some 1 := by kernel_rfl
attribute [simp] Tryd.underlying129
@[simp] theorem sz129 : sz Tryd.prog 129 = some 1 := by kernel_rfl
@[simp] theorem agg129 : aggB Tryd.prog 129 = some false := by kernel_rfl
@[simp] theorem zr129 : zr Tryd.prog 129 = some (.int .u8 0) := by kernel_rfl
@[simp] theorem lesz129 : lesz Tryd.prog 129 = some 1 := by kernel_rfl
attribute [simp] Tryd.underlying130
attribute [simp] Tryd.underlying131
@[simp] theorem sz131 : sz Tryd.prog 131 = some 1 := by kernel_rfl
@[simp] theorem agg131 : aggB Tryd.prog 131 = some false := by kernel_rfl
@[simp] theorem zr131 : zr Tryd.prog 131 = some (.pointer none) := by kernel_rfl
@[simp] theorem lesz131 : lesz Tryd.prog 131 = some 1 := by kernel_rfl
attribute [simp] Tryd.underlying132
@[simp] theorem sz132 : sz Tryd.prog 132 = some 1 := by kernel_rfl
@[simp] theorem agg132 : aggB Tryd.prog 132 = some false := by kernel_rfl
@[simp] theorem zr132 : zr Tryd.prog 132 = some (.int .i32 0) := by kernel_rfl
@[simp] theorem lesz132 : lesz Tryd.prog 132 = some 1 := by kernel_rfl
attribute [simp] Tryd.underlying133
@[simp] theorem sz133 : sz Tryd.prog 133 = some 1 := by kernel_rfl
@[simp] theorem agg133 : aggB Tryd.prog 133 = some false := by kernel_rfl
@[simp] theorem zr133 : zr Tryd.prog 133 = some (.int .i32 0) := by kernel_rfl
@[simp] theorem lesz133 : lesz Tryd.prog 133 = some 1 := by kernel_rfl
@[simp] theorem plc134 : plcB Tryd.prog 134 = true := by kernel_rfl
@[simp] theorem fld134_0 : fldi Tryd.prog 134 0 = some (0, 1, false) := by kernel_rfl
@[simp] theorem fld134_1 : fldi Tryd.prog 134 1 = some (1, 1, false) := by kernel_rfl
@[simp] theorem fld134_2 : fldi Tryd.prog 134 2 = some (2, 1, false) := by kernel_rfl
@[simp] theorem fld134_3 : fldi Tryd.prog 134 3 = some (3, 1, false) := by kernel_rfl
@[simp] theorem fld134_4 : fldi Tryd.prog 134 4 = some (4, 1, false) := by kernel_rfl
@[simp] theorem fld134_5 : fldi Tryd.prog 134 5 = some (5, 1, false) := by kernel_rfl
@[simp] theorem fld134_6 : fldi Tryd.prog 134 6 = some (6, 1, false) := by kernel_rfl
@[simp] theorem fld134_7 : fldi Tryd.prog 134 7 = some (7, 1, false) := by kernel_rfl
@[simp] theorem fld134_8 : fldi Tryd.prog 134 8 = some (8, 1, false) := by kernel_rfl
@[simp] theorem fld134_9 : fldi Tryd.prog 134 9 = some (9, 1, false) := by kernel_rfl
@[simp] theorem fld134_10 : fldi Tryd.prog 134 10 = some (10, 1, false) := by kernel_rfl
@[simp] theorem sz134 : sz Tryd.prog 134 = some 11 := by kernel_rfl
@[simp] theorem agg134 : aggB Tryd.prog 134 = some true := by kernel_rfl
@[simp] theorem zr134 : zr Tryd.prog 134 = some (.agg #[.int .u64 0, .int .u64 0, .int .u32 0, .int .u8 0, .int .u8 0, .int .u8 0, .int .u8 0, .nilFunc, .pointer none, .int .i32 0, .int .i32 0]) := by kernel_rfl
@[simp] theorem lesz134 : lesz Tryd.prog 134 = some 11 := by kernel_rfl
@[simp] theorem plc135 : plcB Tryd.prog 135 = true := by kernel_rfl
@[simp] theorem fld135_0 : fldi Tryd.prog 135 0 = some (0, 1, false) := by kernel_rfl
@[simp] theorem fld135_1 : fldi Tryd.prog 135 1 = some (1, 1, false) := by kernel_rfl
@[simp] theorem fld135_2 : fldi Tryd.prog 135 2 = some (2, 1, false) := by kernel_rfl
@[simp] theorem fld135_3 : fldi Tryd.prog 135 3 = some (3, 1, false) := by kernel_rfl
@[simp] theorem fld135_4 : fldi Tryd.prog 135 4 = some (4, 1, false) := by kernel_rfl
@[simp] theorem fld135_5 : fldi Tryd.prog 135 5 = some (5, 1, false) := by kernel_rfl
@[simp] theorem fld135_6 : fldi Tryd.prog 135 6 = some (6, 1, false) := by kernel_rfl
@[simp] theorem fld135_7 : fldi Tryd.prog 135 7 = some (7, 1, false) := by kernel_rfl
@[simp] theorem fld135_8 : fldi Tryd.prog 135 8 = some (8, 1, false) := by kernel_rfl
@[simp] theorem fld135_9 : fldi Tryd.prog 135 9 = some (9, 1, false) := by kernel_rfl
@[simp] theorem fld135_10 : fldi Tryd.prog 135 10 = some (10, 1, false) := by kernel_rfl
@[simp] theorem sz135 : sz Tryd.prog 135 = some 11 := by kernel_rfl
@[simp] theorem agg135 : aggB Tryd.prog 135 = some true := by kernel_rfl
@[simp] theorem zr135 : zr Tryd.prog 135 = some (.agg #[.int .u64 0, .int .u64 0, .int .u32 0, .int .u8 0, .int .u8 0, .int .u8 0, .int .u8 0, .nilFunc, .pointer none, .int .i32 0, .int .i32 0]) := by kernel_rfl
@[simp] theorem lesz135 : lesz Tryd.prog 135 = some 11 := by kernel_rfl
attribute [simp] Tryd.underlying136
set_option linter.all false
attribute [simp] Tryd.results0 Tryd.ntmps0
attribute [simp] Tryd.results1 Tryd.ntmps1
attribute [simp] Tryd.results2 Tryd.ntmps2
attribute [simp] Tryd.results3 Tryd.ntmps3
attribute [simp] Tryd.results4 Tryd.ntmps4
attribute [simp] Tryd.results5 Tryd.ntmps5
attribute [simp] Tryd.results6 Tryd.ntmps6
attribute [simp] Tryd.results7 Tryd.ntmps7
attribute [simp] Tryd.results8 Tryd.ntmps8
attribute [simp] Tryd.results9 Tryd.ntmps9
attribute [simp] Tryd.results10 Tryd.ntmps10
attribute [simp] Tryd.results11 Tryd.ntmps11
attribute [simp] Tryd.results12 Tryd.ntmps12
attribute [simp] Tryd.results13 Tryd.ntmps13
attribute [simp] Tryd.results14 Tryd.ntmps14
attribute [simp] Tryd.results15 Tryd.ntmps15
attribute [simp] Tryd.results16 Tryd.ntmps16
attribute [simp] Tryd.results17 Tryd.ntmps17
attribute [simp] Tryd.results18 Tryd.ntmps18
attribute [simp] Tryd.results19 Tryd.ntmps19
attribute [simp] Tryd.results20 Tryd.ntmps20
attribute [simp] Tryd.results21 Tryd.ntmps21
attribute [simp] Tryd.results22 Tryd.ntmps22
attribute [simp] Tryd.results23 Tryd.ntmps23
attribute [simp] Tryd.results24 Tryd.ntmps24
attribute [simp] Tryd.results25 Tryd.ntmps25
attribute [simp] Tryd.results26 Tryd.ntmps26
attribute [simp] Tryd.results27 Tryd.ntmps27
attribute [simp] Tryd.results28 Tryd.ntmps28
attribute [simp] Tryd.results29 Tryd.ntmps29
attribute [simp] Tryd.results30 Tryd.ntmps30
attribute [simp] Tryd.results31 Tryd.ntmps31
attribute [simp] Tryd.results32 Tryd.ntmps32
attribute [simp] Tryd.results33 Tryd.ntmps33
attribute [simp] Tryd.results34 Tryd.ntmps34
attribute [simp] Tryd.results35 Tryd.ntmps35
attribute [simp] Tryd.results36 Tryd.ntmps36
attribute [simp] Tryd.results37 Tryd.ntmps37
attribute [simp] Tryd.results38 Tryd.ntmps38
attribute [simp] Tryd.results39 Tryd.ntmps39
attribute [simp] Tryd.results40 Tryd.ntmps40
attribute [simp] Tryd.results41 Tryd.ntmps41
attribute [simp] Tryd.results42 Tryd.ntmps42
attribute [simp] Tryd.results43 Tryd.ntmps43
attribute [simp] Tryd.results44 Tryd.ntmps44
attribute [simp] Tryd.results45 Tryd.ntmps45
attribute [simp] Tryd.results46 Tryd.ntmps46
attribute [simp] Tryd.results47 Tryd.ntmps47
attribute [simp] Tryd.results48 Tryd.ntmps48
attribute [simp] Tryd.results49 Tryd.ntmps49
attribute [simp] Tryd.results50 Tryd.ntmps50
attribute [simp] Tryd.results51 Tryd.ntmps51
attribute [simp] Tryd.results52 Tryd.ntmps52
attribute [simp] Tryd.results53 Tryd.ntmps53
attribute [simp] Tryd.results54 Tryd.ntmps54
attribute [simp] Tryd.results55 Tryd.ntmps55
attribute [simp] Tryd.results56 Tryd.ntmps56
attribute [simp] Tryd.results57 Tryd.ntmps57
attribute [simp] Tryd.results58 Tryd.ntmps58
attribute [simp] Tryd.results59 Tryd.ntmps59
attribute [simp] Tryd.results60 Tryd.ntmps60
attribute [simp] Tryd.results61 Tryd.ntmps61
attribute [simp] Tryd.results62 Tryd.ntmps62
attribute [simp] Tryd.results63 Tryd.ntmps63
attribute [simp] Tryd.results64 Tryd.ntmps64
attribute [simp] Tryd.results65 Tryd.ntmps65
attribute [simp] Tryd.results66 Tryd.ntmps66
attribute [simp] Tryd.results67 Tryd.ntmps67
attribute [simp] Tryd.results68 Tryd.ntmps68
attribute [simp] Tryd.results69 Tryd.ntmps69
attribute [simp] Tryd.results70 Tryd.ntmps70
attribute [simp] Tryd.results71 Tryd.ntmps71
attribute [simp] Tryd.results72 Tryd.ntmps72
attribute [simp] Tryd.results73 Tryd.ntmps73
attribute [simp] Tryd.results74 Tryd.ntmps74
attribute [simp] Tryd.results75 Tryd.ntmps75
attribute [simp] Tryd.results76 Tryd.ntmps76
attribute [simp] Tryd.results77 Tryd.ntmps77
attribute [simp] Tryd.results78 Tryd.ntmps78
attribute [simp] Tryd.results79 Tryd.ntmps79
attribute [simp] Tryd.results80 Tryd.ntmps80
attribute [simp] Tryd.results81 Tryd.ntmps81
attribute [simp] Tryd.results82 Tryd.ntmps82
attribute [simp] Tryd.results83 Tryd.ntmps83
attribute [simp] Tryd.results84 Tryd.ntmps84
attribute [simp] Tryd.results85 Tryd.ntmps85
attribute [simp] Tryd.results86 Tryd.ntmps86
attribute [simp] Tryd.results87 Tryd.ntmps87
attribute [simp] Tryd.results88 Tryd.ntmps88
attribute [simp] Tryd.results89 Tryd.ntmps89
attribute [simp] Tryd.results90 Tryd.ntmps90
attribute [simp] Tryd.results91 Tryd.ntmps91
attribute [simp] Tryd.results92 Tryd.ntmps92
attribute [simp] Tryd.results93 Tryd.ntmps93
attribute [simp] Tryd.results94 Tryd.ntmps94
attribute [simp] Tryd.results95 Tryd.ntmps95
attribute [simp] Tryd.results96 Tryd.ntmps96
attribute [simp] Tryd.results97 Tryd.ntmps97
attribute [simp] Tryd.results98 Tryd.ntmps98
attribute [simp] Tryd.results99 Tryd.ntmps99
attribute [simp] Tryd.results100 Tryd.ntmps100
attribute [simp] Tryd.results101 Tryd.ntmps101
attribute [simp] Tryd.results102 Tryd.ntmps102
attribute [simp] Tryd.results103 Tryd.ntmps103
attribute [simp] Tryd.results104 Tryd.ntmps104
attribute [simp] Tryd.results105 Tryd.ntmps105
attribute [simp] Tryd.results106 Tryd.ntmps106
attribute [simp] Tryd.results107 Tryd.ntmps107
attribute [simp] Tryd.results108 Tryd.ntmps108
attribute [simp] Tryd.results109 Tryd.ntmps109
attribute [simp] Tryd.results110 Tryd.ntmps110
attribute [simp] Tryd.results111 Tryd.ntmps111
attribute [simp] Tryd.results112 Tryd.ntmps112
attribute [simp] Tryd.results113 Tryd.ntmps113
attribute [simp] Tryd.results114 Tryd.ntmps114
attribute [simp] Tryd.results115 Tryd.ntmps115
attribute [simp] Tryd.results116 Tryd.ntmps116
attribute [simp] Tryd.results117 Tryd.ntmps117
attribute [simp] Tryd.results118 Tryd.ntmps118
attribute [simp] Tryd.results119 Tryd.ntmps119
attribute [simp] Tryd.results120 Tryd.ntmps120
attribute [simp] Tryd.results121 Tryd.ntmps121
attribute [simp] Tryd.results122 Tryd.ntmps122
attribute [simp] Tryd.results123 Tryd.ntmps123
attribute [simp] Tryd.results124 Tryd.ntmps124
attribute [simp] Tryd.results125 Tryd.ntmps125
attribute [simp] Tryd.results126 Tryd.ntmps126
attribute [simp] Tryd.results127 Tryd.ntmps127
attribute [simp] Tryd.results128 Tryd.ntmps128
attribute [simp] Tryd.results129 Tryd.ntmps129
attribute [simp] Tryd.results130 Tryd.ntmps130
attribute [simp] Tryd.results131 Tryd.ntmps131
attribute [simp] Tryd.results132 Tryd.ntmps132
attribute [simp] Tryd.results133 Tryd.ntmps133
attribute [simp] Tryd.results134 Tryd.ntmps134
attribute [simp] Tryd.results135 Tryd.ntmps135
attribute [simp] Tryd.results136 Tryd.ntmps136
attribute [simp] Tryd.results137 Tryd.ntmps137
attribute [simp] Tryd.results138 Tryd.ntmps138
attribute [simp] Tryd.results139 Tryd.ntmps139
attribute [simp] Tryd.results140 Tryd.ntmps140
attribute [simp] Tryd.results141 Tryd.ntmps141
attribute [simp] Tryd.results142 Tryd.ntmps142
attribute [simp] Tryd.results143 Tryd.ntmps143
attribute [simp] Tryd.results144 Tryd.ntmps144
attribute [simp] Tryd.results145 Tryd.ntmps145
attribute [simp] Tryd.results146 Tryd.ntmps146
attribute [simp] Tryd.results147 Tryd.ntmps147
attribute [simp] Tryd.results148 Tryd.ntmps148
attribute [simp] Tryd.results149 Tryd.ntmps149
attribute [simp] Tryd.results150 Tryd.ntmps150
attribute [simp] Tryd.results151 Tryd.ntmps151
attribute [simp] Tryd.results152 Tryd.ntmps152
attribute [simp] Tryd.results153 Tryd.ntmps153
attribute [simp] Tryd.results154 Tryd.ntmps154
attribute [simp] Tryd.results155 Tryd.ntmps155
attribute [simp] Tryd.results156 Tryd.ntmps156
attribute [simp] Tryd.results157 Tryd.ntmps157
theorem mixed : Tryd.prog.follows .mixedOrders = true := by kernel_rfl
end Go.Proofs.YtgnefbngkhjfcaaDoor
/-
  DERIVED: THE SHELF's CONTRACTS AT THIS DUMP, IN PLAIN WORDS (tools/lay-plain.mjs out of 'TrydShelf.lean', which tools/lay-shelf.mjs wrote): THE SAME DECLARATIONS UNDER THE SAME NAMES: 'import', 'namespace', 'open', 'def', 'theorem' AND NOTHING ELSE: no command of the shelf's: FOR A HAND-IN. Each laying: the table of numbers ('.._ren') and one theorem, a field a fact of the dump's own or the kernel's comparison; each contract: ONE APPLICATION.
-/
namespace Go.Proofs
open Go.Shelf
def Tryd.lays137_ren : Go.Shelf.Ren := ⟨fun | 137 => 82 | 217 => 98 | 266 => 117 | n => n, fun | 9 => 9 | 5 => 5 | 3 => 3 | n => n, fun | n => n⟩
theorem Tryd.lays137 : Go.Proofs.Lays.n137 Tryd.prog Tryd.lays137_ren := {
  mixed := by kernel_rfl
  f137 := Tryd.func82.trans (congrArg some (by kernel_rfl))
  f217 := Tryd.func98.trans (congrArg some (by kernel_rfl))
  f266 := Tryd.func117.trans (congrArg some (by kernel_rfl))
  t3 := Tryd.underlying3
  a3 := Tryd.isAgg3
  z3 := Tryd.sizeOf3
  v3 := Tryd.zeroValue3
  t5 := Tryd.underlying5
  a5 := Tryd.isAgg5
  z5 := Tryd.sizeOf5
  v5 := Tryd.zeroValue5
  t9 := Tryd.underlying9
  a9 := Tryd.isAgg9
  z9 := Tryd.sizeOf9
  v9 := Tryd.zeroValue9 }
open Go.RowKit in
/-- strings.IndexByte: "IndexByte returns the index of the first instance of c in s, or -1 if c is not present in s.": IT RETURNS 'Lib.indexByte s c'; the world is as it was. (LAID: no walk: one application.) -/
theorem Tryd.strings_IndexByte (s : ByteArray) (c : Int) (w : World) :
    Calls Tryd.prog 82 #[.string s, .int .u8 c] w fun e w' => e = .returned (.int .i64 (Lib.indexByte s.data.toList c.toNat.toUInt8)) ∧ w' = w := Any.strings_IndexByte Tryd.lays137 s c w
def Tryd.lays195_ren : Go.Shelf.Ren := ⟨fun | 195 => 111 | n => n, fun | 9 => 9 | 3 => 3 | 0 => 0 | 4 => 4 | n => n, fun | n => n⟩
theorem Tryd.lays195 : Go.Proofs.Lays.n195 Tryd.prog Tryd.lays195_ren := {
  mixed := by kernel_rfl
  f195 := Tryd.func111.trans (congrArg some (by kernel_rfl))
  t0 := Tryd.underlying0
  a0 := Tryd.isAgg0
  z0 := Tryd.sizeOf0
  v0 := Tryd.zeroValue0
  t3 := Tryd.underlying3
  a3 := Tryd.isAgg3
  z3 := Tryd.sizeOf3
  v3 := Tryd.zeroValue3
  t4 := Tryd.underlying4
  a4 := Tryd.isAgg4
  z4 := Tryd.sizeOf4
  v4 := Tryd.zeroValue4
  t9 := Tryd.underlying9
  a9 := Tryd.isAgg9
  z9 := Tryd.sizeOf9
  v9 := Tryd.zeroValue9 }
open Go.RowKit in
/-- unicode/utf8.RuneCountInString: "RuneCountInString is like RuneCount but its input is a string." ("RuneCount returns the number of runes in p. Erroneous and short encodings are treated as single runes of width 1 byte."): EVERY STRING, valid UTF-8 or not: 'Lib.runeCount s' (plain Lean over the model's own 'Utf8.decode'; 'Lib.runeCount_le': at most len(s); 'Lib.runeCount_ascii': on ASCII: len(s)). THE ONE CONDITION: len(s) below 2^63 - 1 (the counter does not wrap): the form's reach pays it. THE WORLD BEHIND THE CALL: ONE BLOCK MORE: the model's iterator over s, at its end: all else as it was. (LAID: no walk: one application.) -/
theorem Tryd.utf8_RuneCountInString (s : ByteArray) (w : World) (hs : s.size < 9223372036854775807) :
    Calls Tryd.prog 111 #[.string s] w fun e w' => e = .returned (.int .i64 (Lib.runeCount s)) ∧ ∃ pos, w' = w.iter s pos := Any.utf8_RuneCountInString Tryd.lays195 s w hs
def Tryd.lays217_ren : Go.Shelf.Ren := ⟨fun | 217 => 98 | 266 => 117 | n => n, fun | 9 => 9 | 5 => 5 | 3 => 3 | n => n, fun | n => n⟩
theorem Tryd.lays217 : Go.Proofs.Lays.n217 Tryd.prog Tryd.lays217_ren := {
  mixed := by kernel_rfl
  f217 := Tryd.func98.trans (congrArg some (by kernel_rfl))
  f266 := Tryd.func117.trans (congrArg some (by kernel_rfl))
  t3 := Tryd.underlying3
  a3 := Tryd.isAgg3
  z3 := Tryd.sizeOf3
  v3 := Tryd.zeroValue3
  t5 := Tryd.underlying5
  a5 := Tryd.isAgg5
  z5 := Tryd.sizeOf5
  v5 := Tryd.zeroValue5
  t9 := Tryd.underlying9
  a9 := Tryd.isAgg9
  z9 := Tryd.sizeOf9
  v9 := Tryd.zeroValue9 }
open Go.RowKit Go.Lib in
/-- internal/stringslite.IndexByte (what strings.IndexByte calls): IT RETURNS 'Lib.indexByte s c'; the world is as it was. (LAID: no walk: one application.) -/
theorem Tryd.stringslite_IndexByte (s : ByteArray) (c : Int) (w : World) :
    Calls Tryd.prog 98 #[.string s, .int .u8 c] w fun e w' => e = .returned (.int .i64 (Lib.indexByte s.data.toList c.toNat.toUInt8)) ∧ w' = w := Any.stringslite_IndexByte Tryd.lays217 s c w
def Tryd.lays224_ren : Go.Shelf.Ren := ⟨fun | 224 => 124 | n => n, fun | 3 => 3 | n => n, fun | n => n⟩
theorem Tryd.lays224 : Go.Proofs.Lays.n224 Tryd.prog Tryd.lays224_ren := {
  mixed := by kernel_rfl
  f224 := Tryd.func124.trans (congrArg some (by kernel_rfl))
  t3 := Tryd.underlying3
  a3 := Tryd.isAgg3
  z3 := Tryd.sizeOf3
  v3 := Tryd.zeroValue3 }
open Go.RowKit Go.Lib in
/-- internal/bytealg.Cutover: "Cutover reports the number of failures of IndexByte we should tolerate before switching over to Index. n is the number of bytes processed so far.": on amd64: (n + 16) / 8. (LAID: no walk: one application.) -/
theorem Tryd.bytealg_Cutover (n : Int) (h0 : 0 ≤ n) (h1 : n < 4611686018427387904) (w : World) :
    Calls Tryd.prog 124 #[.int .i64 n] w fun e w' => e = .returned (.int .i64 ((n + 16) / 8)) ∧ w' = w := Any.bytealg_Cutover Tryd.lays224 n h0 h1 w
def Tryd.lays314_ren : Go.Shelf.Ren := ⟨fun | 314 => 130 | n => n, fun | 9 => 9 | 51 => 96 | 3 => 3 | 4 => 4 | 5 => 5 | 46 => 104 | n => n, fun | n => n⟩
theorem Tryd.lays314 : Go.Proofs.Lays.n314 Tryd.prog Tryd.lays314_ren := {
  mixed := by kernel_rfl
  f314 := Tryd.func130.trans (congrArg some (by kernel_rfl))
  t3 := Tryd.underlying3
  a3 := Tryd.isAgg3
  z3 := Tryd.sizeOf3
  v3 := Tryd.zeroValue3
  t4 := Tryd.underlying4
  a4 := Tryd.isAgg4
  z4 := Tryd.sizeOf4
  v4 := Tryd.zeroValue4
  t5 := Tryd.underlying5
  a5 := Tryd.isAgg5
  z5 := Tryd.sizeOf5
  v5 := Tryd.zeroValue5
  t9 := Tryd.underlying9
  a9 := Tryd.isAgg9
  z9 := Tryd.sizeOf9
  v9 := Tryd.zeroValue9
  t46 := Tryd.underlying104
  a46 := Tryd.isAgg104
  z46 := Tryd.sizeOf104
  v46 := Tryd.zeroValue104
  t51 := Tryd.underlying96
  a51 := Tryd.isAgg96
  z51 := Tryd.sizeOf96
  v51 := Tryd.zeroValue96 }
open Go.RowKit Go.Lib in
/-- hashStr: "returns the hash and the appropriate multiplicative factor for use in Rabin-Karp algorithm": THE HASH OF ALL OF sep, AND 16777619 ^ len(sep), both in uint32. (LAID: no walk: one application.) -/
theorem Tryd.bytealg_hashStr (sep : ByteArray) (hs : sep.size < 4294967281) (w : World) :
    Calls Tryd.prog 130 #[.string sep] w fun e w' => e = .returned (.tuple #[.int .u32 (RK.H sep.data.toList % 4294967296), .int .u32 (16777619 ^ sep.size % 4294967296)]) ∧ w' = w := Any.bytealg_hashStr Tryd.lays314 sep hs w
def Tryd.lays267_ren : Go.Shelf.Ren := ⟨fun | 267 => 125 | 314 => 130 | n => n, fun | 9 => 9 | 3 => 3 | 146 => 119 | 51 => 96 | 4 => 4 | 5 => 5 | 46 => 104 | n => n, fun | n => n⟩
theorem Tryd.lays267 : Go.Proofs.Lays.n267 Tryd.prog Tryd.lays267_ren := {
  mixed := by kernel_rfl
  f267 := Tryd.func125.trans (congrArg some (by kernel_rfl))
  f314 := Tryd.func130.trans (congrArg some (by kernel_rfl))
  t3 := Tryd.underlying3
  a3 := Tryd.isAgg3
  z3 := Tryd.sizeOf3
  v3 := Tryd.zeroValue3
  t4 := Tryd.underlying4
  a4 := Tryd.isAgg4
  z4 := Tryd.sizeOf4
  v4 := Tryd.zeroValue4
  t5 := Tryd.underlying5
  a5 := Tryd.isAgg5
  z5 := Tryd.sizeOf5
  v5 := Tryd.zeroValue5
  t9 := Tryd.underlying9
  a9 := Tryd.isAgg9
  z9 := Tryd.sizeOf9
  v9 := Tryd.zeroValue9
  t46 := Tryd.underlying104
  a46 := Tryd.isAgg104
  z46 := Tryd.sizeOf104
  v46 := Tryd.zeroValue104
  t51 := Tryd.underlying96
  a51 := Tryd.isAgg96
  z51 := Tryd.sizeOf96
  v51 := Tryd.zeroValue96
  t146 := Tryd.underlying119
  a146 := Tryd.isAgg119
  z146 := Tryd.sizeOf119
  v146 := Tryd.zeroValue119 }
open Go.RowKit Go.Lib in
theorem Tryd.bytealg_IndexRabinKarp (s sep : ByteArray) (h1 : 1 ≤ sep.size) (h2 : sep.size ≤ s.size) (hs : s.size < 4294967281) (w : World) :
    Calls Tryd.prog 125 #[.string s, .string sep] w fun e w' => e = .returned (.int .i64 (Lib.index s.data.toList sep.data.toList)) ∧ w' = w := Any.bytealg_IndexRabinKarp Tryd.lays267 s sep h1 h2 hs w
def Tryd.lays219_ren : Go.Shelf.Ren := ⟨fun | 219 => 114 | 217 => 98 | 225 => 123 | 224 => 124 | 267 => 125 | 266 => 117 | 314 => 130 | n => n, fun | 9 => 9 | 3 => 3 | 4 => 4 | 5 => 5 | 46 => 104 | 146 => 119 | 51 => 96 | n => n, fun | 1 => 2 | n => n⟩
theorem Tryd.lays219 : Go.Proofs.Lays.n219 Tryd.prog Tryd.lays219_ren := {
  mixed := by kernel_rfl
  f217 := Tryd.func98.trans (congrArg some (by kernel_rfl))
  f219 := Tryd.func114.trans (congrArg some (by kernel_rfl))
  f224 := Tryd.func124.trans (congrArg some (by kernel_rfl))
  f225 := Tryd.func123.trans (congrArg some (by kernel_rfl))
  f266 := Tryd.func117.trans (congrArg some (by kernel_rfl))
  f267 := Tryd.func125.trans (congrArg some (by kernel_rfl))
  f314 := Tryd.func130.trans (congrArg some (by kernel_rfl))
  t3 := Tryd.underlying3
  a3 := Tryd.isAgg3
  z3 := Tryd.sizeOf3
  v3 := Tryd.zeroValue3
  t4 := Tryd.underlying4
  a4 := Tryd.isAgg4
  z4 := Tryd.sizeOf4
  v4 := Tryd.zeroValue4
  t5 := Tryd.underlying5
  a5 := Tryd.isAgg5
  z5 := Tryd.sizeOf5
  v5 := Tryd.zeroValue5
  t9 := Tryd.underlying9
  a9 := Tryd.isAgg9
  z9 := Tryd.sizeOf9
  v9 := Tryd.zeroValue9
  t46 := Tryd.underlying104
  a46 := Tryd.isAgg104
  z46 := Tryd.sizeOf104
  v46 := Tryd.zeroValue104
  t51 := Tryd.underlying96
  a51 := Tryd.isAgg96
  z51 := Tryd.sizeOf96
  v51 := Tryd.zeroValue96
  t146 := Tryd.underlying119
  a146 := Tryd.isAgg119
  z146 := Tryd.sizeOf119
  v146 := Tryd.zeroValue119
  g1 := by kernel_rfl }
open Go.RowKit Go.Lib in
/-- internal/stringslite.Index (what strings.Index calls) AT A substr OF ONE BYTE c: IT RETURNS 'Lib.indexByte s c'; the world is as it was. (LAID: no walk: one application.) -/
theorem Tryd.stringslite_Index_one (s : ByteArray) (c : UInt8) (w : World) :
    Calls Tryd.prog 114 #[.string s, .string ⟨#[c]⟩] w fun e w' => e = .returned (.int .i64 (Lib.indexByte s.data.toList c)) ∧ w' = w := Any.stringslite_Index_one Tryd.lays219 s c w
open Go.RowKit Go.Lib in
/-- internal/stringslite.Index (what strings.Index calls) AT A substr OF WHATEVER LENGTH: IT RETURNS 'Lib.index s substr'; the world is as it was. 'm': what internal/bytealg.MaxLen holds: whatever. (LAID: no walk: one application.) -/
theorem Tryd.stringslite_Index (s sub : ByteArray) (m : Int) (w : World) (hs : s.size < 4294967281) (hm : w.cell? ⟨2, 0, none⟩ = some (.int .i64 m)) :
    Calls Tryd.prog 114 #[.string s, .string sub] w fun e w' => e = .returned (.int .i64 (Lib.index s.data.toList sub.data.toList)) ∧ w' = w := Any.stringslite_Index Tryd.lays219 s sub m w hs hm
def Tryd.lays143_ren : Go.Shelf.Ren := ⟨fun | 143 => 93 | 219 => 114 | 217 => 98 | 225 => 123 | 224 => 124 | 267 => 125 | 266 => 117 | 314 => 130 | n => n, fun | 9 => 9 | 3 => 3 | 4 => 4 | 5 => 5 | 46 => 104 | 146 => 119 | 51 => 96 | n => n, fun | 1 => 2 | n => n⟩
theorem Tryd.lays143 : Go.Proofs.Lays.n143 Tryd.prog Tryd.lays143_ren := {
  mixed := by kernel_rfl
  f143 := Tryd.func93.trans (congrArg some (by kernel_rfl))
  f217 := Tryd.func98.trans (congrArg some (by kernel_rfl))
  f219 := Tryd.func114.trans (congrArg some (by kernel_rfl))
  f224 := Tryd.func124.trans (congrArg some (by kernel_rfl))
  f225 := Tryd.func123.trans (congrArg some (by kernel_rfl))
  f266 := Tryd.func117.trans (congrArg some (by kernel_rfl))
  f267 := Tryd.func125.trans (congrArg some (by kernel_rfl))
  f314 := Tryd.func130.trans (congrArg some (by kernel_rfl))
  t3 := Tryd.underlying3
  a3 := Tryd.isAgg3
  z3 := Tryd.sizeOf3
  v3 := Tryd.zeroValue3
  t4 := Tryd.underlying4
  a4 := Tryd.isAgg4
  z4 := Tryd.sizeOf4
  v4 := Tryd.zeroValue4
  t5 := Tryd.underlying5
  a5 := Tryd.isAgg5
  z5 := Tryd.sizeOf5
  v5 := Tryd.zeroValue5
  t9 := Tryd.underlying9
  a9 := Tryd.isAgg9
  z9 := Tryd.sizeOf9
  v9 := Tryd.zeroValue9
  t46 := Tryd.underlying104
  a46 := Tryd.isAgg104
  z46 := Tryd.sizeOf104
  v46 := Tryd.zeroValue104
  t51 := Tryd.underlying96
  a51 := Tryd.isAgg96
  z51 := Tryd.sizeOf96
  v51 := Tryd.zeroValue96
  t146 := Tryd.underlying119
  a146 := Tryd.isAgg119
  z146 := Tryd.sizeOf119
  v146 := Tryd.zeroValue119
  g1 := by kernel_rfl }
open Go.RowKit Go.Lib in
/-- strings.Index: "Index returns the index of the first instance of substr in s, or -1 if substr is not present in s.": AT A substr OF ONE BYTE c: IT RETURNS 'Lib.indexByte s c'; the world is as it was. (LAID: no walk: one application.) -/
theorem Tryd.strings_Index_one (s : ByteArray) (c : UInt8) (w : World) :
    Calls Tryd.prog 93 #[.string s, .string ⟨#[c]⟩] w fun e w' => e = .returned (.int .i64 (Lib.indexByte s.data.toList c)) ∧ w' = w := Any.strings_Index_one Tryd.lays143 s c w
open Go.RowKit Go.Lib in
/-- strings.Index: "Index returns the index of the first instance of substr in s, or -1 if substr is not present in s.": IT RETURNS 'Lib.index s substr'; the world is as it was. (LAID: no walk: one application.) -/
theorem Tryd.strings_Index (s sub : ByteArray) (m : Int) (w : World) (hs : s.size < 4294967281) (hm : w.cell? ⟨2, 0, none⟩ = some (.int .i64 m)) :
    Calls Tryd.prog 93 #[.string s, .string sub] w fun e w' => e = .returned (.int .i64 (Lib.index s.data.toList sub.data.toList)) ∧ w' = w := Any.strings_Index Tryd.lays143 s sub m w hs hm
def Tryd.lays138_ren : Go.Shelf.Ren := ⟨fun | 138 => 92 | 195 => 111 | 218 => 113 | 143 => 93 | 219 => 114 | 217 => 98 | 225 => 123 | 224 => 124 | 267 => 125 | 266 => 117 | 314 => 130 | n => n, fun | 9 => 9 | 3 => 3 | 4 => 4 | 5 => 5 | 0 => 0 | 46 => 104 | 146 => 119 | 51 => 96 | n => n, fun | 1 => 2 | n => n⟩
theorem Tryd.lays138 : Go.Proofs.Lays.n138 Tryd.prog Tryd.lays138_ren := {
  mixed := by kernel_rfl
  f138 := Tryd.func92.trans (congrArg some (by kernel_rfl))
  f143 := Tryd.func93.trans (congrArg some (by kernel_rfl))
  f195 := Tryd.func111.trans (congrArg some (by kernel_rfl))
  f217 := Tryd.func98.trans (congrArg some (by kernel_rfl))
  f218 := Tryd.func113.trans (congrArg some (by kernel_rfl))
  f219 := Tryd.func114.trans (congrArg some (by kernel_rfl))
  f224 := Tryd.func124.trans (congrArg some (by kernel_rfl))
  f225 := Tryd.func123.trans (congrArg some (by kernel_rfl))
  f266 := Tryd.func117.trans (congrArg some (by kernel_rfl))
  f267 := Tryd.func125.trans (congrArg some (by kernel_rfl))
  f314 := Tryd.func130.trans (congrArg some (by kernel_rfl))
  t0 := Tryd.underlying0
  a0 := Tryd.isAgg0
  z0 := Tryd.sizeOf0
  v0 := Tryd.zeroValue0
  t3 := Tryd.underlying3
  a3 := Tryd.isAgg3
  z3 := Tryd.sizeOf3
  v3 := Tryd.zeroValue3
  t4 := Tryd.underlying4
  a4 := Tryd.isAgg4
  z4 := Tryd.sizeOf4
  v4 := Tryd.zeroValue4
  t5 := Tryd.underlying5
  a5 := Tryd.isAgg5
  z5 := Tryd.sizeOf5
  v5 := Tryd.zeroValue5
  t9 := Tryd.underlying9
  a9 := Tryd.isAgg9
  z9 := Tryd.sizeOf9
  v9 := Tryd.zeroValue9
  t46 := Tryd.underlying104
  a46 := Tryd.isAgg104
  z46 := Tryd.sizeOf104
  v46 := Tryd.zeroValue104
  t51 := Tryd.underlying96
  a51 := Tryd.isAgg96
  z51 := Tryd.sizeOf96
  v51 := Tryd.zeroValue96
  t146 := Tryd.underlying119
  a146 := Tryd.isAgg119
  z146 := Tryd.sizeOf119
  v146 := Tryd.zeroValue119
  g1 := by kernel_rfl }
open Go.RowKit Go.Lib in
/-- strings.Count AT A substr OF ONE BYTE ('hp'): "Count counts the number of non-overlapping instances of substr in s.": IT RETURNS 'Lib.countByte s (that byte)'; the world is as it was. ✋ NO CONTRACT HERE YET at an empty substr (utf8.RuneCountInString) or at a longer one (a loop over strings.Index). (LAID: no walk: one application.) -/
theorem Tryd.strings_Count_one (s : ByteArray) (c : UInt8) (w : World) :
    Calls Tryd.prog 92 #[.string s, .string ⟨#[c]⟩] w fun e w' => e = .returned (.int .i64 (Lib.countByte s.data.toList c)) ∧ w' = w := Any.strings_Count_one Tryd.lays138 s c w
open Go.RowKit Go.Lib in
/-- strings.Count AT A substr OF TWO BYTES OR MORE: "Count counts the number of non-overlapping instances of substr in s.": IT RETURNS 'Lib.count s substr'; the world is as it was. (LAID: no walk: one application.) -/
theorem Tryd.strings_Count (s sub : ByteArray) (m : Int) (w : World) (hs : s.size < 4294967281) (hm : w.cell? ⟨2, 0, none⟩ = some (.int .i64 m)) (h2 : 2 ≤ sub.size) :
    Calls Tryd.prog 92 #[.string s, .string sub] w fun e w' => e = .returned (.int .i64 (Lib.countB s sub)) ∧ w' = w := Any.strings_Count Tryd.lays138 s sub m w hs hm h2
def Tryd.laysM219_ren : Go.Shelf.Ren := ⟨fun | 219 => 114 | 217 => 98 | 225 => 123 | 224 => 124 | 267 => 125 | 266 => 117 | 314 => 130 | n => n, fun | 9 => 9 | 3 => 3 | 4 => 4 | 5 => 5 | 46 => 104 | 146 => 119 | 51 => 96 | n => n, fun | 1 => 2 | n => n⟩
theorem Tryd.laysM219 : Go.Proofs.LaysM.n219 Tryd.prog Tryd.laysM219_ren := {
  mixed := by kernel_rfl
  f217 := Tryd.func98.trans (congrArg some (by kernel_rfl))
  f219 := Tryd.func114.trans (congrArg some (by kernel_rfl))
  f224 := Tryd.func124.trans (congrArg some (by kernel_rfl))
  f225 := Tryd.func123.trans (congrArg some (by kernel_rfl))
  f266 := Tryd.func117.trans (congrArg some (by kernel_rfl))
  f267 := Tryd.func125.trans (congrArg some (by kernel_rfl))
  f314 := Tryd.func130.trans (congrArg some (by kernel_rfl))
  t3 := Tryd.underlying3
  a3 := Tryd.isAgg3
  z3 := Tryd.sizeOf3
  v3 := Tryd.zeroValue3
  t4 := Tryd.underlying4
  a4 := Tryd.isAgg4
  z4 := Tryd.sizeOf4
  v4 := Tryd.zeroValue4
  t5 := Tryd.underlying5
  a5 := Tryd.isAgg5
  z5 := Tryd.sizeOf5
  v5 := Tryd.zeroValue5
  t9 := Tryd.underlying9
  a9 := Tryd.isAgg9
  z9 := Tryd.sizeOf9
  v9 := Tryd.zeroValue9
  t46 := Tryd.underlying104
  a46 := Tryd.isAgg104
  z46 := Tryd.sizeOf104
  v46 := Tryd.zeroValue104
  t51 := Tryd.underlying96
  a51 := Tryd.isAgg96
  z51 := Tryd.sizeOf96
  v51 := Tryd.zeroValue96
  t146 := Tryd.underlying119
  a146 := Tryd.isAgg119
  z146 := Tryd.sizeOf119
  v146 := Tryd.zeroValue119
  g1 := by kernel_rfl
  i3 := by kernel_rfl
  i4 := by kernel_rfl
  i5 := by kernel_rfl
  i9 := by kernel_rfl
  i46 := by kernel_rfl
  i51 := by kernel_rfl
  i146 := by kernel_rfl
  m1 := by kernel_rfl
  s1_3 := fun w h => Go.Proofs.cell_of_shapedOpen_int (zero := #[.int .i64 0]) (t := 3) h (of_decide_eq_true (by kernel_rfl)) (by kernel_rfl) rfl (by kernel_rfl) (by kernel_rfl) Tryd.underlying3 }
open Go.RowKit Go.Lib in
theorem Tryd.stringslite_Index_shaped (s sub : ByteArray) (w : World) (h : w.ShapedOpen Tryd.prog) (hs : s.size < 4294967281) :
    Calls Tryd.prog 114 #[.string s, .string sub] w fun e w' => e = .returned (.int .i64 (Lib.index s.data.toList sub.data.toList)) ∧ w' = w := Any.stringslite_Index_shaped Tryd.laysM219 s sub w h hs
def Tryd.laysM143_ren : Go.Shelf.Ren := ⟨fun | 143 => 93 | 219 => 114 | 217 => 98 | 225 => 123 | 224 => 124 | 267 => 125 | 266 => 117 | 314 => 130 | n => n, fun | 9 => 9 | 3 => 3 | 4 => 4 | 5 => 5 | 46 => 104 | 146 => 119 | 51 => 96 | n => n, fun | 1 => 2 | n => n⟩
theorem Tryd.laysM143 : Go.Proofs.LaysM.n143 Tryd.prog Tryd.laysM143_ren := {
  mixed := by kernel_rfl
  f143 := Tryd.func93.trans (congrArg some (by kernel_rfl))
  f217 := Tryd.func98.trans (congrArg some (by kernel_rfl))
  f219 := Tryd.func114.trans (congrArg some (by kernel_rfl))
  f224 := Tryd.func124.trans (congrArg some (by kernel_rfl))
  f225 := Tryd.func123.trans (congrArg some (by kernel_rfl))
  f266 := Tryd.func117.trans (congrArg some (by kernel_rfl))
  f267 := Tryd.func125.trans (congrArg some (by kernel_rfl))
  f314 := Tryd.func130.trans (congrArg some (by kernel_rfl))
  t3 := Tryd.underlying3
  a3 := Tryd.isAgg3
  z3 := Tryd.sizeOf3
  v3 := Tryd.zeroValue3
  t4 := Tryd.underlying4
  a4 := Tryd.isAgg4
  z4 := Tryd.sizeOf4
  v4 := Tryd.zeroValue4
  t5 := Tryd.underlying5
  a5 := Tryd.isAgg5
  z5 := Tryd.sizeOf5
  v5 := Tryd.zeroValue5
  t9 := Tryd.underlying9
  a9 := Tryd.isAgg9
  z9 := Tryd.sizeOf9
  v9 := Tryd.zeroValue9
  t46 := Tryd.underlying104
  a46 := Tryd.isAgg104
  z46 := Tryd.sizeOf104
  v46 := Tryd.zeroValue104
  t51 := Tryd.underlying96
  a51 := Tryd.isAgg96
  z51 := Tryd.sizeOf96
  v51 := Tryd.zeroValue96
  t146 := Tryd.underlying119
  a146 := Tryd.isAgg119
  z146 := Tryd.sizeOf119
  v146 := Tryd.zeroValue119
  g1 := by kernel_rfl
  i3 := by kernel_rfl
  i4 := by kernel_rfl
  i5 := by kernel_rfl
  i9 := by kernel_rfl
  i46 := by kernel_rfl
  i51 := by kernel_rfl
  i146 := by kernel_rfl
  m1 := by kernel_rfl
  s1_3 := fun w h => Go.Proofs.cell_of_shapedOpen_int (zero := #[.int .i64 0]) (t := 3) h (of_decide_eq_true (by kernel_rfl)) (by kernel_rfl) rfl (by kernel_rfl) (by kernel_rfl) Tryd.underlying3 }
open Go.RowKit Go.Lib in
theorem Tryd.strings_Index_shaped (s sub : ByteArray) (w : World) (h : w.ShapedOpen Tryd.prog) (hs : s.size < 4294967281) :
    Calls Tryd.prog 93 #[.string s, .string sub] w fun e w' => e = .returned (.int .i64 (Lib.index s.data.toList sub.data.toList)) ∧ w' = w := Any.strings_Index_shaped Tryd.laysM143 s sub w h hs
def Tryd.laysM138_ren : Go.Shelf.Ren := ⟨fun | 138 => 92 | 195 => 111 | 218 => 113 | 143 => 93 | 219 => 114 | 217 => 98 | 225 => 123 | 224 => 124 | 267 => 125 | 266 => 117 | 314 => 130 | n => n, fun | 9 => 9 | 3 => 3 | 4 => 4 | 5 => 5 | 0 => 0 | 46 => 104 | 146 => 119 | 51 => 96 | n => n, fun | 1 => 2 | n => n⟩
theorem Tryd.laysM138 : Go.Proofs.LaysM.n138 Tryd.prog Tryd.laysM138_ren := {
  mixed := by kernel_rfl
  f138 := Tryd.func92.trans (congrArg some (by kernel_rfl))
  f143 := Tryd.func93.trans (congrArg some (by kernel_rfl))
  f195 := Tryd.func111.trans (congrArg some (by kernel_rfl))
  f217 := Tryd.func98.trans (congrArg some (by kernel_rfl))
  f218 := Tryd.func113.trans (congrArg some (by kernel_rfl))
  f219 := Tryd.func114.trans (congrArg some (by kernel_rfl))
  f224 := Tryd.func124.trans (congrArg some (by kernel_rfl))
  f225 := Tryd.func123.trans (congrArg some (by kernel_rfl))
  f266 := Tryd.func117.trans (congrArg some (by kernel_rfl))
  f267 := Tryd.func125.trans (congrArg some (by kernel_rfl))
  f314 := Tryd.func130.trans (congrArg some (by kernel_rfl))
  t0 := Tryd.underlying0
  a0 := Tryd.isAgg0
  z0 := Tryd.sizeOf0
  v0 := Tryd.zeroValue0
  t3 := Tryd.underlying3
  a3 := Tryd.isAgg3
  z3 := Tryd.sizeOf3
  v3 := Tryd.zeroValue3
  t4 := Tryd.underlying4
  a4 := Tryd.isAgg4
  z4 := Tryd.sizeOf4
  v4 := Tryd.zeroValue4
  t5 := Tryd.underlying5
  a5 := Tryd.isAgg5
  z5 := Tryd.sizeOf5
  v5 := Tryd.zeroValue5
  t9 := Tryd.underlying9
  a9 := Tryd.isAgg9
  z9 := Tryd.sizeOf9
  v9 := Tryd.zeroValue9
  t46 := Tryd.underlying104
  a46 := Tryd.isAgg104
  z46 := Tryd.sizeOf104
  v46 := Tryd.zeroValue104
  t51 := Tryd.underlying96
  a51 := Tryd.isAgg96
  z51 := Tryd.sizeOf96
  v51 := Tryd.zeroValue96
  t146 := Tryd.underlying119
  a146 := Tryd.isAgg119
  z146 := Tryd.sizeOf119
  v146 := Tryd.zeroValue119
  g1 := by kernel_rfl
  i0 := by kernel_rfl
  i3 := by kernel_rfl
  i4 := by kernel_rfl
  i5 := by kernel_rfl
  i9 := by kernel_rfl
  i46 := by kernel_rfl
  i51 := by kernel_rfl
  i146 := by kernel_rfl
  m1 := by kernel_rfl
  s1_3 := fun w h => Go.Proofs.cell_of_shapedOpen_int (zero := #[.int .i64 0]) (t := 3) h (of_decide_eq_true (by kernel_rfl)) (by kernel_rfl) rfl (by kernel_rfl) (by kernel_rfl) Tryd.underlying3 }
open Go.RowKit Go.Lib in
theorem Tryd.strings_Count_shaped (s sub : ByteArray) (w : World) (h : w.ShapedOpen Tryd.prog) (hs : s.size < 4294967281) (h2 : 2 ≤ sub.size) :
    Calls Tryd.prog 92 #[.string s, .string sub] w fun e w' => e = .returned (.int .i64 (Lib.countB s sub)) ∧ w' = w := Any.strings_Count_shaped Tryd.laysM138 s sub w h hs h2
open Go.RowKit Go.Lib in
/-- strings.Count at whatever sep that is not empty: the two roads under one statement. (LAID: no walk: one application.) -/
theorem Tryd.strings_Count_any (s sep : ByteArray) (m : Int) (w : World) (hs : s.size < 4294967281) (hm : w.cell? ⟨2, 0, none⟩ = some (.int .i64 m)) (h1 : 1 ≤ sep.size) :
    Calls Tryd.prog 92 #[.string s, .string sep] w fun e w' => e = .returned (.int .i64 (Lib.countB s sep)) ∧ w' = w := Any.strings_Count_any Tryd.lays138 s sep m w hs hm h1
def Tryd.lays221_ren : Go.Shelf.Ren := ⟨fun | 221 => 71 | 268 => 91 | 138 => 92 | 143 => 93 | 195 => 111 | 197 => 112 | 218 => 113 | 219 => 114 | 260 => 122 | 217 => 98 | 225 => 123 | 224 => 124 | 267 => 125 | 266 => 117 | 314 => 130 | n => n, fun | 9 => 9 | 3 => 3 | 31 => 48 | 4 => 4 | 0 => 0 | 105 => 91 | 21 => 21 | 5 => 5 | 46 => 104 | 119 => 87 | 139 => 118 | 138 => 117 | 146 => 119 | 51 => 96 | n => n, fun | 1 => 2 | 3 => 3 | 4 => 4 | n => n⟩
theorem Tryd.lays221 : Go.Proofs.Lays.n221 Tryd.prog Tryd.lays221_ren := {
  mixed := by kernel_rfl
  f138 := Tryd.func92.trans (congrArg some (by kernel_rfl))
  f143 := Tryd.func93.trans (congrArg some (by kernel_rfl))
  f195 := Tryd.func111.trans (congrArg some (by kernel_rfl))
  f197 := Tryd.func112.trans (congrArg some (by kernel_rfl))
  f217 := Tryd.func98.trans (congrArg some (by kernel_rfl))
  f218 := Tryd.func113.trans (congrArg some (by kernel_rfl))
  f219 := Tryd.func114.trans (congrArg some (by kernel_rfl))
  f221 := Tryd.func71.trans (congrArg some (by kernel_rfl))
  f224 := Tryd.func124.trans (congrArg some (by kernel_rfl))
  f225 := Tryd.func123.trans (congrArg some (by kernel_rfl))
  f260 := Tryd.func122.trans (congrArg some (by kernel_rfl))
  f266 := Tryd.func117.trans (congrArg some (by kernel_rfl))
  f267 := Tryd.func125.trans (congrArg some (by kernel_rfl))
  f268 := Tryd.func91.trans (congrArg some (by kernel_rfl))
  f314 := Tryd.func130.trans (congrArg some (by kernel_rfl))
  t0 := Tryd.underlying0
  a0 := Tryd.isAgg0
  z0 := Tryd.sizeOf0
  v0 := Tryd.zeroValue0
  t3 := Tryd.underlying3
  a3 := Tryd.isAgg3
  z3 := Tryd.sizeOf3
  v3 := Tryd.zeroValue3
  t4 := Tryd.underlying4
  a4 := Tryd.isAgg4
  z4 := Tryd.sizeOf4
  v4 := Tryd.zeroValue4
  t5 := Tryd.underlying5
  a5 := Tryd.isAgg5
  z5 := Tryd.sizeOf5
  v5 := Tryd.zeroValue5
  t9 := Tryd.underlying9
  a9 := Tryd.isAgg9
  z9 := Tryd.sizeOf9
  v9 := Tryd.zeroValue9
  t21 := Tryd.underlying21
  a21 := Tryd.isAgg21
  z21 := Tryd.sizeOf21
  v21 := Tryd.zeroValue21
  t31 := Tryd.underlying48
  a31 := Tryd.isAgg48
  z31 := Tryd.sizeOf48
  v31 := Tryd.zeroValue48
  t46 := Tryd.underlying104
  a46 := Tryd.isAgg104
  z46 := Tryd.sizeOf104
  v46 := Tryd.zeroValue104
  t51 := Tryd.underlying96
  a51 := Tryd.isAgg96
  z51 := Tryd.sizeOf96
  v51 := Tryd.zeroValue96
  t105 := Tryd.underlying91
  a105 := Tryd.isAgg91
  z105 := Tryd.sizeOf91
  v105 := Tryd.zeroValue91
  t119 := Tryd.underlying87
  a119 := Tryd.isAgg87
  z119 := Tryd.sizeOf87
  t138 := Tryd.underlying117
  a138 := Tryd.isAgg117
  z138 := Tryd.sizeOf117
  v138 := Tryd.zeroValue117
  t139 := Tryd.underlying118
  a139 := Tryd.isAgg118
  z139 := Tryd.sizeOf118
  v139 := Tryd.zeroValue118
  t146 := Tryd.underlying119
  a146 := Tryd.isAgg119
  z146 := Tryd.sizeOf119
  v146 := Tryd.zeroValue119
  g1 := by kernel_rfl
  g3 := by kernel_rfl
  g4 := by kernel_rfl }
open Go.RowKit Go.Lib in
theorem Tryd.strings_genSplit (s sep : ByteArray) (sv : Nat) (n : Int) (N : Nat) (m : Int) (w : World) (hs : s.size < 4294967281) (hm : w.cell? ⟨2, 0, none⟩ = some (.int .i64 m)) (h1 : 1 ≤ sep.size) (hsv : sv ≤ sep.size) (hn0 : n ≠ 0) (hn63 : n ≤ 9223372036854775807) (hN : (N : Int) = min (if n < 0 then (Lib.countB s sep : Int) + 1 else n) ((s.size : Int) + 1)) :
    Calls Tryd.prog 71 #[.string s, .string sep, .int .i64 sv, .int .i64 n] w fun e w' =>
      e = .returned (.slice (some ⟨w.heap.size, 0, none⟩) (Lib.splitB sep sv (N - 1) s).length N) ∧ w' = w.alloc (.cells (Lib.cellsOf (Lib.splitB sep sv (N - 1) s) N) 9) := Any.strings_genSplit Tryd.lays221 (by kernel_rfl) s sep sv n N m w hs hm h1 hsv hn0 hn63 hN
def Tryd.lays146_ren : Go.Shelf.Ren := ⟨fun | 146 => 48 | 221 => 71 | 268 => 91 | 138 => 92 | 143 => 93 | 195 => 111 | 197 => 112 | 218 => 113 | 219 => 114 | 260 => 122 | 217 => 98 | 225 => 123 | 224 => 124 | 267 => 125 | 266 => 117 | 314 => 130 | n => n, fun | 9 => 9 | 31 => 48 | 3 => 3 | 4 => 4 | 0 => 0 | 105 => 91 | 21 => 21 | 5 => 5 | 46 => 104 | 119 => 87 | 139 => 118 | 138 => 117 | 146 => 119 | 51 => 96 | n => n, fun | 1 => 2 | 3 => 3 | 4 => 4 | n => n⟩
theorem Tryd.lays146 : Go.Proofs.Lays.n146 Tryd.prog Tryd.lays146_ren := {
  mixed := by kernel_rfl
  f138 := Tryd.func92.trans (congrArg some (by kernel_rfl))
  f143 := Tryd.func93.trans (congrArg some (by kernel_rfl))
  f146 := Tryd.func48.trans (congrArg some (by kernel_rfl))
  f195 := Tryd.func111.trans (congrArg some (by kernel_rfl))
  f197 := Tryd.func112.trans (congrArg some (by kernel_rfl))
  f217 := Tryd.func98.trans (congrArg some (by kernel_rfl))
  f218 := Tryd.func113.trans (congrArg some (by kernel_rfl))
  f219 := Tryd.func114.trans (congrArg some (by kernel_rfl))
  f221 := Tryd.func71.trans (congrArg some (by kernel_rfl))
  f224 := Tryd.func124.trans (congrArg some (by kernel_rfl))
  f225 := Tryd.func123.trans (congrArg some (by kernel_rfl))
  f260 := Tryd.func122.trans (congrArg some (by kernel_rfl))
  f266 := Tryd.func117.trans (congrArg some (by kernel_rfl))
  f267 := Tryd.func125.trans (congrArg some (by kernel_rfl))
  f268 := Tryd.func91.trans (congrArg some (by kernel_rfl))
  f314 := Tryd.func130.trans (congrArg some (by kernel_rfl))
  t0 := Tryd.underlying0
  a0 := Tryd.isAgg0
  z0 := Tryd.sizeOf0
  v0 := Tryd.zeroValue0
  t3 := Tryd.underlying3
  a3 := Tryd.isAgg3
  z3 := Tryd.sizeOf3
  v3 := Tryd.zeroValue3
  t4 := Tryd.underlying4
  a4 := Tryd.isAgg4
  z4 := Tryd.sizeOf4
  v4 := Tryd.zeroValue4
  t5 := Tryd.underlying5
  a5 := Tryd.isAgg5
  z5 := Tryd.sizeOf5
  v5 := Tryd.zeroValue5
  t9 := Tryd.underlying9
  a9 := Tryd.isAgg9
  z9 := Tryd.sizeOf9
  v9 := Tryd.zeroValue9
  t21 := Tryd.underlying21
  a21 := Tryd.isAgg21
  z21 := Tryd.sizeOf21
  v21 := Tryd.zeroValue21
  t31 := Tryd.underlying48
  a31 := Tryd.isAgg48
  z31 := Tryd.sizeOf48
  v31 := Tryd.zeroValue48
  t46 := Tryd.underlying104
  a46 := Tryd.isAgg104
  z46 := Tryd.sizeOf104
  v46 := Tryd.zeroValue104
  t51 := Tryd.underlying96
  a51 := Tryd.isAgg96
  z51 := Tryd.sizeOf96
  v51 := Tryd.zeroValue96
  t105 := Tryd.underlying91
  a105 := Tryd.isAgg91
  z105 := Tryd.sizeOf91
  v105 := Tryd.zeroValue91
  t119 := Tryd.underlying87
  a119 := Tryd.isAgg87
  z119 := Tryd.sizeOf87
  t138 := Tryd.underlying117
  a138 := Tryd.isAgg117
  z138 := Tryd.sizeOf117
  v138 := Tryd.zeroValue117
  t139 := Tryd.underlying118
  a139 := Tryd.isAgg118
  z139 := Tryd.sizeOf118
  v139 := Tryd.zeroValue118
  t146 := Tryd.underlying119
  a146 := Tryd.isAgg119
  z146 := Tryd.sizeOf119
  v146 := Tryd.zeroValue119
  g1 := by kernel_rfl
  g3 := by kernel_rfl
  g4 := by kernel_rfl }
open Go.RowKit Go.Lib in
/-- strings.Split. (LAID: no walk: one application.) -/
theorem Tryd.strings_Split (s sep : ByteArray) (m : Int) (w : World) (hs : s.size < 4294967281) (hm : w.cell? ⟨2, 0, none⟩ = some (.int .i64 m)) (h1 : 1 ≤ sep.size) :
    Calls Tryd.prog 48 #[.string s, .string sep] w fun e w' =>
      e = .returned (.slice (some ⟨w.heap.size, 0, none⟩) (Lib.countB s sep + 1) (Lib.countB s sep + 1)) ∧ w' = w.alloc (.cells ((Lib.splitB sep 0 (Lib.countB s sep) s).map Value.string).toArray 9) := Any.strings_Split Tryd.lays146 (by kernel_rfl) s sep m w hs hm h1
def Tryd.lays157_ren : Go.Shelf.Ren := ⟨fun | 157 => 74 | 229 => 94 | 199 => 95 | 261 => 115 | 311 => 126 | 312 => 127 | n => n, fun | 9 => 9 | 31 => 48 | 3 => 3 | 5 => 5 | 4 => 4 | 119 => 87 | 0 => 0 | 40 => 89 | 152 => 93 | 21 => 21 | 154 => 95 | 51 => 96 | 141 => 98 | 196 => 108 | 193 => 105 | 198 => 111 | 49 => 109 | 194 => 106 | 201 => 114 | 226 => 121 | 46 => 104 | 227 => 122 | n => n, fun | 0 => 0 | 6 => 1 | n => n⟩
theorem Tryd.lays157 : Go.Proofs.Lays.n157 Tryd.prog Tryd.lays157_ren := {
  mixed := by kernel_rfl
  f157 := Tryd.func74.trans (congrArg some (by kernel_rfl))
  f199 := Tryd.func95.trans (congrArg some (by kernel_rfl))
  f229 := Tryd.func94.trans (congrArg some (by kernel_rfl))
  f261 := Tryd.func115.trans (congrArg some (by kernel_rfl))
  f311 := Tryd.func126.trans (congrArg some (by kernel_rfl))
  f312 := Tryd.func127.trans (congrArg some (by kernel_rfl))
  t0 := Tryd.underlying0
  a0 := Tryd.isAgg0
  z0 := Tryd.sizeOf0
  v0 := Tryd.zeroValue0
  t3 := Tryd.underlying3
  a3 := Tryd.isAgg3
  z3 := Tryd.sizeOf3
  v3 := Tryd.zeroValue3
  t4 := Tryd.underlying4
  a4 := Tryd.isAgg4
  z4 := Tryd.sizeOf4
  v4 := Tryd.zeroValue4
  t5 := Tryd.underlying5
  a5 := Tryd.isAgg5
  z5 := Tryd.sizeOf5
  v5 := Tryd.zeroValue5
  t9 := Tryd.underlying9
  a9 := Tryd.isAgg9
  z9 := Tryd.sizeOf9
  v9 := Tryd.zeroValue9
  t21 := Tryd.underlying21
  a21 := Tryd.isAgg21
  z21 := Tryd.sizeOf21
  v21 := Tryd.zeroValue21
  t31 := Tryd.underlying48
  a31 := Tryd.isAgg48
  z31 := Tryd.sizeOf48
  v31 := Tryd.zeroValue48
  t40 := Tryd.underlying89
  a40 := Tryd.isAgg89
  z40 := Tryd.sizeOf89
  v40 := Tryd.zeroValue89
  t46 := Tryd.underlying104
  a46 := Tryd.isAgg104
  z46 := Tryd.sizeOf104
  v46 := Tryd.zeroValue104
  t49 := Tryd.underlying109
  a49 := Tryd.isAgg109
  z49 := Tryd.sizeOf109
  v49 := Tryd.zeroValue109
  t51 := Tryd.underlying96
  a51 := Tryd.isAgg96
  z51 := Tryd.sizeOf96
  v51 := Tryd.zeroValue96
  t119 := Tryd.underlying87
  a119 := Tryd.isAgg87
  z119 := Tryd.sizeOf87
  t141 := Tryd.underlying98
  a141 := Tryd.isAgg98
  z141 := Tryd.sizeOf98
  v141 := Tryd.zeroValue98
  t152 := Tryd.underlying93
  a152 := Tryd.isAgg93
  z152 := Tryd.sizeOf93
  v152 := Tryd.zeroValue93
  t154 := Tryd.underlying95
  a154 := Tryd.isAgg95
  z154 := Tryd.sizeOf95
  v154 := Tryd.zeroValue95
  t193 := Tryd.underlying105
  a193 := Tryd.isAgg105
  z193 := Tryd.sizeOf105
  v193 := Tryd.zeroValue105
  t194 := Tryd.underlying106
  a194 := Tryd.isAgg106
  z194 := Tryd.sizeOf106
  v194 := Tryd.zeroValue106
  t196 := Tryd.underlying108
  a196 := Tryd.isAgg108
  z196 := Tryd.sizeOf108
  v196 := Tryd.zeroValue108
  t198 := Tryd.underlying111
  a198 := Tryd.isAgg111
  z198 := Tryd.sizeOf111
  v198 := Tryd.zeroValue111
  t201 := Tryd.underlying114
  a201 := Tryd.isAgg114
  z201 := Tryd.sizeOf114
  v201 := Tryd.zeroValue114
  t226 := Tryd.underlying121
  a226 := Tryd.isAgg121
  z226 := Tryd.sizeOf121
  v226 := Tryd.zeroValue121
  t227 := Tryd.underlying122
  a227 := Tryd.isAgg122
  z227 := Tryd.sizeOf122
  v227 := Tryd.zeroValue122
  g0 := by kernel_rfl
  g6 := by kernel_rfl }
open Go.RowKit Go.Lib in
/-- strings.Fields, the table by 'Lib.TabIs' (as strings.TrimSpace's contract). 'hg': the table's number, by its name: at a dump 'by kernel_rfl'. (LAID: no walk: one application.) -/
theorem Tryd.strings_Fields (s : ByteArray) (w : World) (hs : s.size < 4294967281) (hascii : ∀ (j : Nat) b, s.data.toList[j]? = some b → b.toNat < 128) (htab : Lib.TabIs Tryd.prog w "strings.asciiSpace" .u8 Lib.asciiSpaceTab) :
    Calls Tryd.prog 74 #[.string s] w fun e w' =>
      e = .returned (.slice (some ⟨w.heap.size, 0, none⟩) (Lib.fields s.data.toList).length (Lib.fields s.data.toList).length) ∧ w' = w.alloc (.cells ((Lib.fields s.data.toList).map fun l => Value.string ⟨l.toArray⟩).toArray 9) := Any.strings_Fields Tryd.lays157 (by kernel_rfl) (by kernel_rfl) s w hs hascii htab
def Tryd.laysM146_ren : Go.Shelf.Ren := ⟨fun | 146 => 48 | 221 => 71 | 268 => 91 | 138 => 92 | 143 => 93 | 195 => 111 | 197 => 112 | 218 => 113 | 219 => 114 | 260 => 122 | 217 => 98 | 225 => 123 | 224 => 124 | 267 => 125 | 266 => 117 | 314 => 130 | n => n, fun | 9 => 9 | 31 => 48 | 3 => 3 | 4 => 4 | 0 => 0 | 105 => 91 | 21 => 21 | 5 => 5 | 46 => 104 | 119 => 87 | 139 => 118 | 138 => 117 | 146 => 119 | 51 => 96 | n => n, fun | 1 => 2 | 3 => 3 | 4 => 4 | n => n⟩
theorem Tryd.laysM146 : Go.Proofs.LaysM.n146 Tryd.prog Tryd.laysM146_ren := {
  mixed := by kernel_rfl
  f138 := Tryd.func92.trans (congrArg some (by kernel_rfl))
  f143 := Tryd.func93.trans (congrArg some (by kernel_rfl))
  f146 := Tryd.func48.trans (congrArg some (by kernel_rfl))
  f195 := Tryd.func111.trans (congrArg some (by kernel_rfl))
  f197 := Tryd.func112.trans (congrArg some (by kernel_rfl))
  f217 := Tryd.func98.trans (congrArg some (by kernel_rfl))
  f218 := Tryd.func113.trans (congrArg some (by kernel_rfl))
  f219 := Tryd.func114.trans (congrArg some (by kernel_rfl))
  f221 := Tryd.func71.trans (congrArg some (by kernel_rfl))
  f224 := Tryd.func124.trans (congrArg some (by kernel_rfl))
  f225 := Tryd.func123.trans (congrArg some (by kernel_rfl))
  f260 := Tryd.func122.trans (congrArg some (by kernel_rfl))
  f266 := Tryd.func117.trans (congrArg some (by kernel_rfl))
  f267 := Tryd.func125.trans (congrArg some (by kernel_rfl))
  f268 := Tryd.func91.trans (congrArg some (by kernel_rfl))
  f314 := Tryd.func130.trans (congrArg some (by kernel_rfl))
  t0 := Tryd.underlying0
  a0 := Tryd.isAgg0
  z0 := Tryd.sizeOf0
  v0 := Tryd.zeroValue0
  t3 := Tryd.underlying3
  a3 := Tryd.isAgg3
  z3 := Tryd.sizeOf3
  v3 := Tryd.zeroValue3
  t4 := Tryd.underlying4
  a4 := Tryd.isAgg4
  z4 := Tryd.sizeOf4
  v4 := Tryd.zeroValue4
  t5 := Tryd.underlying5
  a5 := Tryd.isAgg5
  z5 := Tryd.sizeOf5
  v5 := Tryd.zeroValue5
  t9 := Tryd.underlying9
  a9 := Tryd.isAgg9
  z9 := Tryd.sizeOf9
  v9 := Tryd.zeroValue9
  t21 := Tryd.underlying21
  a21 := Tryd.isAgg21
  z21 := Tryd.sizeOf21
  v21 := Tryd.zeroValue21
  t31 := Tryd.underlying48
  a31 := Tryd.isAgg48
  z31 := Tryd.sizeOf48
  v31 := Tryd.zeroValue48
  t46 := Tryd.underlying104
  a46 := Tryd.isAgg104
  z46 := Tryd.sizeOf104
  v46 := Tryd.zeroValue104
  t51 := Tryd.underlying96
  a51 := Tryd.isAgg96
  z51 := Tryd.sizeOf96
  v51 := Tryd.zeroValue96
  t105 := Tryd.underlying91
  a105 := Tryd.isAgg91
  z105 := Tryd.sizeOf91
  v105 := Tryd.zeroValue91
  t119 := Tryd.underlying87
  a119 := Tryd.isAgg87
  z119 := Tryd.sizeOf87
  t138 := Tryd.underlying117
  a138 := Tryd.isAgg117
  z138 := Tryd.sizeOf117
  v138 := Tryd.zeroValue117
  t139 := Tryd.underlying118
  a139 := Tryd.isAgg118
  z139 := Tryd.sizeOf118
  v139 := Tryd.zeroValue118
  t146 := Tryd.underlying119
  a146 := Tryd.isAgg119
  z146 := Tryd.sizeOf119
  v146 := Tryd.zeroValue119
  g1 := by kernel_rfl
  g3 := by kernel_rfl
  g4 := by kernel_rfl
  i0 := by kernel_rfl
  i3 := by kernel_rfl
  i4 := by kernel_rfl
  i5 := by kernel_rfl
  i9 := by kernel_rfl
  i21 := by kernel_rfl
  i31 := by kernel_rfl
  i46 := by kernel_rfl
  i51 := by kernel_rfl
  i105 := by kernel_rfl
  i138 := by kernel_rfl
  i139 := by kernel_rfl
  i146 := by kernel_rfl
  m1 := by kernel_rfl
  s1_3 := fun w h => Go.Proofs.cell_of_shapedOpen_int (zero := #[.int .i64 0]) (t := 3) h (of_decide_eq_true (by kernel_rfl)) (by kernel_rfl) rfl (by kernel_rfl) (by kernel_rfl) Tryd.underlying3
  m3 := by kernel_rfl
  m4 := by kernel_rfl }
open Go.RowKit Go.Lib in
/-- strings.Split, sep not empty. (LAID: no walk: one application.) -/
theorem Tryd.strings_Split_shaped (s sep : ByteArray) (w : World) (h : w.ShapedOpen Tryd.prog) (hs : s.size < 4294967281) (h1 : 1 ≤ sep.size) :
    Calls Tryd.prog 48 #[.string s, .string sep] w fun e w' =>
      e = .returned (.slice (some ⟨w.heap.size, 0, none⟩) (Lib.countB s sep + 1) (Lib.countB s sep + 1)) ∧ w' = w.alloc (.cells ((Lib.splitB sep 0 (Lib.countB s sep) s).map Value.string).toArray 9) := Any.strings_Split_shaped Tryd.laysM146 s sep w h hs h1
def Tryd.laysM157_ren : Go.Shelf.Ren := ⟨fun | 157 => 74 | 229 => 94 | 199 => 95 | 261 => 115 | 311 => 126 | 312 => 127 | n => n, fun | 9 => 9 | 31 => 48 | 3 => 3 | 5 => 5 | 4 => 4 | 119 => 87 | 0 => 0 | 40 => 89 | 152 => 93 | 21 => 21 | 154 => 95 | 51 => 96 | 141 => 98 | 196 => 108 | 193 => 105 | 198 => 111 | 49 => 109 | 194 => 106 | 201 => 114 | 226 => 121 | 46 => 104 | 227 => 122 | n => n, fun | 0 => 0 | 6 => 1 | n => n⟩
theorem Tryd.laysM157 : Go.Proofs.LaysM.n157 Tryd.prog Tryd.laysM157_ren := {
  mixed := by kernel_rfl
  f157 := Tryd.func74.trans (congrArg some (by kernel_rfl))
  f199 := Tryd.func95.trans (congrArg some (by kernel_rfl))
  f229 := Tryd.func94.trans (congrArg some (by kernel_rfl))
  f261 := Tryd.func115.trans (congrArg some (by kernel_rfl))
  f311 := Tryd.func126.trans (congrArg some (by kernel_rfl))
  f312 := Tryd.func127.trans (congrArg some (by kernel_rfl))
  t0 := Tryd.underlying0
  a0 := Tryd.isAgg0
  z0 := Tryd.sizeOf0
  v0 := Tryd.zeroValue0
  t3 := Tryd.underlying3
  a3 := Tryd.isAgg3
  z3 := Tryd.sizeOf3
  v3 := Tryd.zeroValue3
  t4 := Tryd.underlying4
  a4 := Tryd.isAgg4
  z4 := Tryd.sizeOf4
  v4 := Tryd.zeroValue4
  t5 := Tryd.underlying5
  a5 := Tryd.isAgg5
  z5 := Tryd.sizeOf5
  v5 := Tryd.zeroValue5
  t9 := Tryd.underlying9
  a9 := Tryd.isAgg9
  z9 := Tryd.sizeOf9
  v9 := Tryd.zeroValue9
  t21 := Tryd.underlying21
  a21 := Tryd.isAgg21
  z21 := Tryd.sizeOf21
  v21 := Tryd.zeroValue21
  t31 := Tryd.underlying48
  a31 := Tryd.isAgg48
  z31 := Tryd.sizeOf48
  v31 := Tryd.zeroValue48
  t40 := Tryd.underlying89
  a40 := Tryd.isAgg89
  z40 := Tryd.sizeOf89
  v40 := Tryd.zeroValue89
  t46 := Tryd.underlying104
  a46 := Tryd.isAgg104
  z46 := Tryd.sizeOf104
  v46 := Tryd.zeroValue104
  t49 := Tryd.underlying109
  a49 := Tryd.isAgg109
  z49 := Tryd.sizeOf109
  v49 := Tryd.zeroValue109
  t51 := Tryd.underlying96
  a51 := Tryd.isAgg96
  z51 := Tryd.sizeOf96
  v51 := Tryd.zeroValue96
  t119 := Tryd.underlying87
  a119 := Tryd.isAgg87
  z119 := Tryd.sizeOf87
  t141 := Tryd.underlying98
  a141 := Tryd.isAgg98
  z141 := Tryd.sizeOf98
  v141 := Tryd.zeroValue98
  t152 := Tryd.underlying93
  a152 := Tryd.isAgg93
  z152 := Tryd.sizeOf93
  v152 := Tryd.zeroValue93
  t154 := Tryd.underlying95
  a154 := Tryd.isAgg95
  z154 := Tryd.sizeOf95
  v154 := Tryd.zeroValue95
  t193 := Tryd.underlying105
  a193 := Tryd.isAgg105
  z193 := Tryd.sizeOf105
  v193 := Tryd.zeroValue105
  t194 := Tryd.underlying106
  a194 := Tryd.isAgg106
  z194 := Tryd.sizeOf106
  v194 := Tryd.zeroValue106
  t196 := Tryd.underlying108
  a196 := Tryd.isAgg108
  z196 := Tryd.sizeOf108
  v196 := Tryd.zeroValue108
  t198 := Tryd.underlying111
  a198 := Tryd.isAgg111
  z198 := Tryd.sizeOf111
  v198 := Tryd.zeroValue111
  t201 := Tryd.underlying114
  a201 := Tryd.isAgg114
  z201 := Tryd.sizeOf114
  v201 := Tryd.zeroValue114
  t226 := Tryd.underlying121
  a226 := Tryd.isAgg121
  z226 := Tryd.sizeOf121
  v226 := Tryd.zeroValue121
  t227 := Tryd.underlying122
  a227 := Tryd.isAgg122
  z227 := Tryd.sizeOf122
  v227 := Tryd.zeroValue122
  g0 := by kernel_rfl
  g6 := by kernel_rfl
  i0 := by kernel_rfl
  i3 := by kernel_rfl
  i4 := by kernel_rfl
  i5 := by kernel_rfl
  i9 := by kernel_rfl
  i21 := by kernel_rfl
  i31 := by kernel_rfl
  i40 := by kernel_rfl
  i46 := by kernel_rfl
  i49 := by kernel_rfl
  i51 := by kernel_rfl
  i141 := by kernel_rfl
  i152 := by kernel_rfl
  i154 := by kernel_rfl
  i193 := by kernel_rfl
  i194 := by kernel_rfl
  i196 := by kernel_rfl
  i198 := by kernel_rfl
  i201 := by kernel_rfl
  i226 := by kernel_rfl
  i227 := by kernel_rfl
  m0 := by kernel_rfl
  m6 := by kernel_rfl }
open Go.RowKit Go.Lib in
/-- strings.Fields on ASCII bytes. (The table: 'Lib.TabIs', as strings.TrimSpace's contract asks it.) (LAID: no walk: one application.) -/
theorem Tryd.strings_Fields_laid (s : ByteArray) (w : World) (hs : s.size < 4294967281) (hascii : ∀ (j : Nat) b, s.data.toList[j]? = some b → b.toNat < 128) (htab : Lib.TabIs Tryd.prog w "strings.asciiSpace" .u8 Lib.asciiSpaceTab) :
    Calls Tryd.prog 74 #[.string s] w fun e w' =>
      e = .returned (.slice (some ⟨w.heap.size, 0, none⟩) (Lib.fields s.data.toList).length (Lib.fields s.data.toList).length) ∧ w' = w.alloc (.cells ((Lib.fields s.data.toList).map fun l => Value.string ⟨l.toArray⟩).toArray 9) := Any.strings_Fields_laid Tryd.laysM157 s w hs hascii htab
def Tryd.lays199_ren : Go.Shelf.Ren := ⟨fun | 199 => 95 | 261 => 115 | 311 => 126 | 312 => 127 | n => n, fun | 21 => 21 | 4 => 4 | 51 => 96 | 141 => 98 | 0 => 0 | 196 => 108 | 193 => 105 | 3 => 3 | 198 => 111 | 49 => 109 | 194 => 106 | 201 => 114 | 226 => 121 | 46 => 104 | 227 => 122 | n => n, fun | 6 => 1 | n => n⟩
theorem Tryd.lays199 : Go.Proofs.Lays.n199 Tryd.prog Tryd.lays199_ren := {
  mixed := by kernel_rfl
  f199 := Tryd.func95.trans (congrArg some (by kernel_rfl))
  f261 := Tryd.func115.trans (congrArg some (by kernel_rfl))
  f311 := Tryd.func126.trans (congrArg some (by kernel_rfl))
  f312 := Tryd.func127.trans (congrArg some (by kernel_rfl))
  t0 := Tryd.underlying0
  a0 := Tryd.isAgg0
  z0 := Tryd.sizeOf0
  v0 := Tryd.zeroValue0
  t3 := Tryd.underlying3
  a3 := Tryd.isAgg3
  z3 := Tryd.sizeOf3
  v3 := Tryd.zeroValue3
  t4 := Tryd.underlying4
  a4 := Tryd.isAgg4
  z4 := Tryd.sizeOf4
  v4 := Tryd.zeroValue4
  t21 := Tryd.underlying21
  a21 := Tryd.isAgg21
  z21 := Tryd.sizeOf21
  v21 := Tryd.zeroValue21
  t46 := Tryd.underlying104
  a46 := Tryd.isAgg104
  z46 := Tryd.sizeOf104
  v46 := Tryd.zeroValue104
  t49 := Tryd.underlying109
  a49 := Tryd.isAgg109
  z49 := Tryd.sizeOf109
  v49 := Tryd.zeroValue109
  t51 := Tryd.underlying96
  a51 := Tryd.isAgg96
  z51 := Tryd.sizeOf96
  v51 := Tryd.zeroValue96
  t141 := Tryd.underlying98
  a141 := Tryd.isAgg98
  z141 := Tryd.sizeOf98
  v141 := Tryd.zeroValue98
  t193 := Tryd.underlying105
  a193 := Tryd.isAgg105
  z193 := Tryd.sizeOf105
  v193 := Tryd.zeroValue105
  t194 := Tryd.underlying106
  a194 := Tryd.isAgg106
  z194 := Tryd.sizeOf106
  v194 := Tryd.zeroValue106
  t196 := Tryd.underlying108
  a196 := Tryd.isAgg108
  z196 := Tryd.sizeOf108
  v196 := Tryd.zeroValue108
  t198 := Tryd.underlying111
  a198 := Tryd.isAgg111
  z198 := Tryd.sizeOf111
  v198 := Tryd.zeroValue111
  t201 := Tryd.underlying114
  a201 := Tryd.isAgg114
  z201 := Tryd.sizeOf114
  v201 := Tryd.zeroValue114
  t226 := Tryd.underlying121
  a226 := Tryd.isAgg121
  z226 := Tryd.sizeOf121
  v226 := Tryd.zeroValue121
  t227 := Tryd.underlying122
  a227 := Tryd.isAgg122
  z227 := Tryd.sizeOf122
  v227 := Tryd.zeroValue122
  g6 := by kernel_rfl }
open Go.RowKit Go.Lib in
theorem Tryd.unicode_IsSpace (r : Int) (w : World) (h0 : 0 ≤ r) (h : r ≤ 255) :
    Calls Tryd.prog 95 #[.int .i32 r] w fun e w' => e = .returned (.bool (Lib.isSpaceL r)) ∧ w' = w := Any.unicode_IsSpace Tryd.lays199 r w h0 h
def Tryd.lays197_ren : Go.Shelf.Ren := ⟨fun | 197 => 112 | 260 => 122 | n => n, fun | 9 => 9 | 21 => 21 | 3 => 3 | 4 => 4 | 5 => 5 | 105 => 91 | 119 => 87 | 0 => 0 | 46 => 104 | 139 => 118 | 138 => 117 | n => n, fun | 3 => 3 | 4 => 4 | n => n⟩
theorem Tryd.lays197 : Go.Proofs.Lays.n197 Tryd.prog Tryd.lays197_ren := {
  mixed := by kernel_rfl
  f197 := Tryd.func112.trans (congrArg some (by kernel_rfl))
  f260 := Tryd.func122.trans (congrArg some (by kernel_rfl))
  t0 := Tryd.underlying0
  a0 := Tryd.isAgg0
  z0 := Tryd.sizeOf0
  v0 := Tryd.zeroValue0
  t3 := Tryd.underlying3
  a3 := Tryd.isAgg3
  z3 := Tryd.sizeOf3
  v3 := Tryd.zeroValue3
  t4 := Tryd.underlying4
  a4 := Tryd.isAgg4
  z4 := Tryd.sizeOf4
  v4 := Tryd.zeroValue4
  t5 := Tryd.underlying5
  a5 := Tryd.isAgg5
  z5 := Tryd.sizeOf5
  v5 := Tryd.zeroValue5
  t9 := Tryd.underlying9
  a9 := Tryd.isAgg9
  z9 := Tryd.sizeOf9
  v9 := Tryd.zeroValue9
  t21 := Tryd.underlying21
  a21 := Tryd.isAgg21
  z21 := Tryd.sizeOf21
  v21 := Tryd.zeroValue21
  t46 := Tryd.underlying104
  a46 := Tryd.isAgg104
  z46 := Tryd.sizeOf104
  v46 := Tryd.zeroValue104
  t105 := Tryd.underlying91
  a105 := Tryd.isAgg91
  z105 := Tryd.sizeOf91
  v105 := Tryd.zeroValue91
  t119 := Tryd.underlying87
  a119 := Tryd.isAgg87
  z119 := Tryd.sizeOf87
  t138 := Tryd.underlying117
  a138 := Tryd.isAgg117
  z138 := Tryd.sizeOf117
  v138 := Tryd.zeroValue117
  t139 := Tryd.underlying118
  a139 := Tryd.isAgg118
  z139 := Tryd.sizeOf118
  v139 := Tryd.zeroValue118
  g3 := by kernel_rfl
  g4 := by kernel_rfl }
open Go.RowKit Go.Lib in
/-- unicode/utf8.DecodeRuneInString: "DecodeRuneInString is like DecodeRune but its input is a string.": ("DecodeRune unpacks the first UTF-8 encoding in p and returns the rune and its width in bytes."): WHERE s BEGINS WITH AN ASCII BYTE x: (x, 1). (LAID: no walk: one application.) -/
theorem Tryd.utf8_DecodeRuneInString_ascii (s : ByteArray) (x : UInt8) (w : World) (h0 : s.data.toList[0]? = some x) (hx : x.toNat < 128) :
    Calls Tryd.prog 112 #[.string s] w fun e w' => e = .returned (.tuple #[.int .i32 x.toNat, .int .i64 1]) ∧ w' = w := Any.utf8_DecodeRuneInString_ascii Tryd.lays197 s x w h0 hx
open Go.RowKit Go.Lib in
theorem Tryd.utf8_RuneCountInString_ascii (s : ByteArray) (w : World) (hs : s.size < 4294967281) (hascii : ∀ (j : Nat) b, s.data.toList[j]? = some b → b.toNat < 128) :
    Calls Tryd.prog 111 #[.string s] w fun e w' => e = .returned (.int .i64 s.size) ∧ w' = w.iter s s.size := Any.utf8_RuneCountInString_ascii Tryd.lays195 s w hs hascii
def Tryd.lays268_ren : Go.Shelf.Ren := ⟨fun | 268 => 91 | 195 => 111 | 197 => 112 | 260 => 122 | n => n, fun | 9 => 9 | 3 => 3 | 31 => 48 | 4 => 4 | 105 => 91 | 21 => 21 | 0 => 0 | 5 => 5 | 119 => 87 | 46 => 104 | 139 => 118 | 138 => 117 | n => n, fun | 3 => 3 | 4 => 4 | n => n⟩
theorem Tryd.lays268 : Go.Proofs.Lays.n268 Tryd.prog Tryd.lays268_ren := {
  mixed := by kernel_rfl
  f195 := Tryd.func111.trans (congrArg some (by kernel_rfl))
  f197 := Tryd.func112.trans (congrArg some (by kernel_rfl))
  f260 := Tryd.func122.trans (congrArg some (by kernel_rfl))
  f268 := Tryd.func91.trans (congrArg some (by kernel_rfl))
  t0 := Tryd.underlying0
  a0 := Tryd.isAgg0
  z0 := Tryd.sizeOf0
  v0 := Tryd.zeroValue0
  t3 := Tryd.underlying3
  a3 := Tryd.isAgg3
  z3 := Tryd.sizeOf3
  v3 := Tryd.zeroValue3
  t4 := Tryd.underlying4
  a4 := Tryd.isAgg4
  z4 := Tryd.sizeOf4
  v4 := Tryd.zeroValue4
  t5 := Tryd.underlying5
  a5 := Tryd.isAgg5
  z5 := Tryd.sizeOf5
  v5 := Tryd.zeroValue5
  t9 := Tryd.underlying9
  a9 := Tryd.isAgg9
  z9 := Tryd.sizeOf9
  v9 := Tryd.zeroValue9
  t21 := Tryd.underlying21
  a21 := Tryd.isAgg21
  z21 := Tryd.sizeOf21
  v21 := Tryd.zeroValue21
  t31 := Tryd.underlying48
  a31 := Tryd.isAgg48
  z31 := Tryd.sizeOf48
  v31 := Tryd.zeroValue48
  t46 := Tryd.underlying104
  a46 := Tryd.isAgg104
  z46 := Tryd.sizeOf104
  v46 := Tryd.zeroValue104
  t105 := Tryd.underlying91
  a105 := Tryd.isAgg91
  z105 := Tryd.sizeOf91
  v105 := Tryd.zeroValue91
  t119 := Tryd.underlying87
  a119 := Tryd.isAgg87
  z119 := Tryd.sizeOf87
  t138 := Tryd.underlying117
  a138 := Tryd.isAgg117
  z138 := Tryd.sizeOf117
  v138 := Tryd.zeroValue117
  t139 := Tryd.underlying118
  a139 := Tryd.isAgg118
  z139 := Tryd.sizeOf118
  v139 := Tryd.zeroValue118
  g3 := by kernel_rfl
  g4 := by kernel_rfl }
open Go.RowKit Go.Lib in
theorem Tryd.strings_explode_all (s : ByteArray) (n : Int) (w : World) (hn : n < 0) (hs : s.size < 4294967281) (hascii : ∀ (j : Nat) b, s.data.toList[j]? = some b → b.toNat < 128) :
    Calls Tryd.prog 91 #[.string s, .int .i64 n] w fun e w' =>
      e = .returned (.slice (some ⟨(w.iter s s.size).heap.size, 0, none⟩) s.size s.size) ∧ w' = (w.iter s s.size).alloc (.cells ((Lib.charsB s).map Value.string).toArray 9) := Any.strings_explode_all Tryd.lays268 (by kernel_rfl) s n w hn hs hascii
open Go.RowKit Go.Lib in
/-- strings.genSplit at sep == "", n < 0: 'return explode(s, n)'. (LAID: no walk: one application.) -/
theorem Tryd.strings_genSplit_chars (s sep : ByteArray) (sv n : Int) (w : World) (h0 : sep.size = 0) (hn : n < 0) (hs : s.size < 4294967281) (hascii : ∀ (j : Nat) b, s.data.toList[j]? = some b → b.toNat < 128) :
    Calls Tryd.prog 71 #[.string s, .string sep, .int .i64 sv, .int .i64 n] w fun e w' =>
      e = .returned (.slice (some ⟨(w.iter s s.size).heap.size, 0, none⟩) s.size s.size) ∧ w' = (w.iter s s.size).alloc (.cells ((Lib.charsB s).map Value.string).toArray 9) := Any.strings_genSplit_chars Tryd.lays221 (by kernel_rfl) s sep sv n w h0 hn hs hascii
open Go.RowKit Go.Lib in
/-- strings.Split(s, ""), s ASCII: a piece a byte. (LAID: no walk: one application.) -/
theorem Tryd.strings_Split_chars (s sep : ByteArray) (w : World) (h0 : sep.size = 0) (hs : s.size < 4294967281) (hascii : ∀ (j : Nat) b, s.data.toList[j]? = some b → b.toNat < 128) :
    Calls Tryd.prog 48 #[.string s, .string sep] w fun e w' =>
      e = .returned (.slice (some ⟨(w.iter s s.size).heap.size, 0, none⟩) s.size s.size) ∧ w' = (w.iter s s.size).alloc (.cells ((Lib.charsB s).map Value.string).toArray 9) := Any.strings_Split_chars Tryd.lays146 (by kernel_rfl) s sep w h0 hs hascii
def Tryd.lays260_ren : Go.Shelf.Ren := ⟨fun | 260 => 122 | n => n, fun | 9 => 9 | 21 => 21 | 3 => 3 | 4 => 4 | 5 => 5 | 119 => 87 | 0 => 0 | 46 => 104 | 139 => 118 | 138 => 117 | n => n, fun | 3 => 3 | 4 => 4 | n => n⟩
theorem Tryd.lays260 : Go.Proofs.Lays.n260 Tryd.prog Tryd.lays260_ren := {
  mixed := by kernel_rfl
  f260 := Tryd.func122.trans (congrArg some (by kernel_rfl))
  t0 := Tryd.underlying0
  a0 := Tryd.isAgg0
  z0 := Tryd.sizeOf0
  v0 := Tryd.zeroValue0
  t3 := Tryd.underlying3
  a3 := Tryd.isAgg3
  z3 := Tryd.sizeOf3
  v3 := Tryd.zeroValue3
  t4 := Tryd.underlying4
  a4 := Tryd.isAgg4
  z4 := Tryd.sizeOf4
  v4 := Tryd.zeroValue4
  t5 := Tryd.underlying5
  a5 := Tryd.isAgg5
  z5 := Tryd.sizeOf5
  v5 := Tryd.zeroValue5
  t9 := Tryd.underlying9
  a9 := Tryd.isAgg9
  z9 := Tryd.sizeOf9
  v9 := Tryd.zeroValue9
  t21 := Tryd.underlying21
  a21 := Tryd.isAgg21
  z21 := Tryd.sizeOf21
  v21 := Tryd.zeroValue21
  t46 := Tryd.underlying104
  a46 := Tryd.isAgg104
  z46 := Tryd.sizeOf104
  v46 := Tryd.zeroValue104
  t119 := Tryd.underlying87
  a119 := Tryd.isAgg87
  z119 := Tryd.sizeOf87
  t138 := Tryd.underlying117
  a138 := Tryd.isAgg117
  z138 := Tryd.sizeOf117
  v138 := Tryd.zeroValue117
  t139 := Tryd.underlying118
  a139 := Tryd.isAgg118
  z139 := Tryd.sizeOf118
  v139 := Tryd.zeroValue118
  g3 := by kernel_rfl
  g4 := by kernel_rfl }
open Go.RowKit Go.Lib in
theorem Tryd.utf8_decodeRuneInStringSlow (s : ByteArray) (w : World) (hT : Lib.Utf8Tabs 3 4 w) :
    Calls Tryd.prog 122 #[.string s] w fun e w' => e = .returned (.tuple #[.int .i32 (Lib.decodeGo s).1, .int .i64 (Lib.decodeGo s).2]) ∧ Below w.heap.size w w' := Any.utf8_decodeRuneInStringSlow Tryd.lays260 s w hT
open Go.RowKit Go.Lib in
/-- **unicode/utf8.DecodeRuneInString AT EVERY STRING.** (LAID: no walk: one application.) -/
theorem Tryd.utf8_DecodeRuneInString (s : ByteArray) (w : World) (hT : Lib.Utf8Tabs 3 4 w) :
    Calls Tryd.prog 112 #[.string s] w fun e w' => e = .returned (.tuple #[.int .i32 (Lib.decodeGo s).1, .int .i64 (Lib.decodeGo s).2]) ∧ Below w.heap.size w w' := Any.utf8_DecodeRuneInString Tryd.lays197 s w hT
def Tryd.lays311_ren : Go.Shelf.Ren := ⟨fun | 311 => 126 | n => n, fun | 193 => 105 | 49 => 109 | 4 => 4 | 3 => 3 | 0 => 0 | 226 => 121 | 198 => 111 | 46 => 104 | n => n, fun | n => n⟩
theorem Tryd.lays311 : Go.Proofs.Lays.n311 Tryd.prog Tryd.lays311_ren := {
  mixed := by kernel_rfl
  f311 := Tryd.func126.trans (congrArg some (by kernel_rfl))
  t0 := Tryd.underlying0
  a0 := Tryd.isAgg0
  z0 := Tryd.sizeOf0
  v0 := Tryd.zeroValue0
  t3 := Tryd.underlying3
  a3 := Tryd.isAgg3
  z3 := Tryd.sizeOf3
  v3 := Tryd.zeroValue3
  t4 := Tryd.underlying4
  a4 := Tryd.isAgg4
  z4 := Tryd.sizeOf4
  v4 := Tryd.zeroValue4
  t46 := Tryd.underlying104
  a46 := Tryd.isAgg104
  z46 := Tryd.sizeOf104
  v46 := Tryd.zeroValue104
  t49 := Tryd.underlying109
  a49 := Tryd.isAgg109
  z49 := Tryd.sizeOf109
  v49 := Tryd.zeroValue109
  t193 := Tryd.underlying105
  a193 := Tryd.isAgg105
  z193 := Tryd.sizeOf105
  v193 := Tryd.zeroValue105
  t198 := Tryd.underlying111
  a198 := Tryd.isAgg111
  z198 := Tryd.sizeOf111
  v198 := Tryd.zeroValue111
  t226 := Tryd.underlying121
  a226 := Tryd.isAgg121
  z226 := Tryd.sizeOf121
  v226 := Tryd.zeroValue121 }
open Go.RowKit Go.Lib in
theorem Tryd.unicode_is16_white (R oR : Nat) (z : Nat) (w : World) (hz : z < 65536) (hz0 : 255 < z) (c6 : w.cell? ⟨R, oR + 6, none⟩ = some (.int .u16 160)) (c7 : w.cell? ⟨R, oR + 7, none⟩ = some (.int .u16 5760)) (c8 : w.cell? ⟨R, oR + 8, none⟩ = some (.int .u16 5600)) (c9 : w.cell? ⟨R, oR + 9, none⟩ = some (.int .u16 8192)) (c10 : w.cell? ⟨R, oR + 10, none⟩ = some (.int .u16 8202)) (c11 : w.cell? ⟨R, oR + 11, none⟩ = some (.int .u16 1)) (c12 : w.cell? ⟨R, oR + 12, none⟩ = some (.int .u16 8232)) (c13 : w.cell? ⟨R, oR + 13, none⟩ = some (.int .u16 8233)) (c14 : w.cell? ⟨R, oR + 14, none⟩ = some (.int .u16 1)) (c15 : w.cell? ⟨R, oR + 15, none⟩ = some (.int .u16 8239)) (c16 : w.cell? ⟨R, oR + 16, none⟩ = some (.int .u16 8287)) (c17 : w.cell? ⟨R, oR + 17, none⟩ = some (.int .u16 48)) (c18 : w.cell? ⟨R, oR + 18, none⟩ = some (.int .u16 12288)) (c19 : w.cell? ⟨R, oR + 19, none⟩ = some (.int .u16 12288)) (c20 : w.cell? ⟨R, oR + 20, none⟩ = some (.int .u16 1)) :
    Calls Tryd.prog 126 #[.slice (some ⟨R, oR + 6, none⟩) 5 5, .int .u16 z] w fun e w' => e = .returned (.bool (Lib.isSpaceR z)) ∧ Below w.heap.size w w' := Any.unicode_is16_white Tryd.lays311 R oR z w hz hz0 c6 c7 c8 c9 c10 c11 c12 c13 c14 c15 c16 c17 c18 c19 c20
def Tryd.lays261_ren : Go.Shelf.Ren := ⟨fun | 261 => 115 | 311 => 126 | 312 => 127 | n => n, fun | 141 => 98 | 21 => 21 | 4 => 4 | 0 => 0 | 196 => 108 | 193 => 105 | 3 => 3 | 51 => 96 | 198 => 111 | 49 => 109 | 194 => 106 | 201 => 114 | 226 => 121 | 46 => 104 | 227 => 122 | n => n, fun | n => n⟩
theorem Tryd.lays261 : Go.Proofs.Lays.n261 Tryd.prog Tryd.lays261_ren := {
  mixed := by kernel_rfl
  f261 := Tryd.func115.trans (congrArg some (by kernel_rfl))
  f311 := Tryd.func126.trans (congrArg some (by kernel_rfl))
  f312 := Tryd.func127.trans (congrArg some (by kernel_rfl))
  t0 := Tryd.underlying0
  a0 := Tryd.isAgg0
  z0 := Tryd.sizeOf0
  v0 := Tryd.zeroValue0
  t3 := Tryd.underlying3
  a3 := Tryd.isAgg3
  z3 := Tryd.sizeOf3
  v3 := Tryd.zeroValue3
  t4 := Tryd.underlying4
  a4 := Tryd.isAgg4
  z4 := Tryd.sizeOf4
  v4 := Tryd.zeroValue4
  t21 := Tryd.underlying21
  a21 := Tryd.isAgg21
  z21 := Tryd.sizeOf21
  v21 := Tryd.zeroValue21
  t46 := Tryd.underlying104
  a46 := Tryd.isAgg104
  z46 := Tryd.sizeOf104
  v46 := Tryd.zeroValue104
  t49 := Tryd.underlying109
  a49 := Tryd.isAgg109
  z49 := Tryd.sizeOf109
  v49 := Tryd.zeroValue109
  t51 := Tryd.underlying96
  a51 := Tryd.isAgg96
  z51 := Tryd.sizeOf96
  v51 := Tryd.zeroValue96
  t141 := Tryd.underlying98
  a141 := Tryd.isAgg98
  z141 := Tryd.sizeOf98
  v141 := Tryd.zeroValue98
  t193 := Tryd.underlying105
  a193 := Tryd.isAgg105
  z193 := Tryd.sizeOf105
  v193 := Tryd.zeroValue105
  t194 := Tryd.underlying106
  a194 := Tryd.isAgg106
  z194 := Tryd.sizeOf106
  v194 := Tryd.zeroValue106
  t196 := Tryd.underlying108
  a196 := Tryd.isAgg108
  z196 := Tryd.sizeOf108
  v196 := Tryd.zeroValue108
  t198 := Tryd.underlying111
  a198 := Tryd.isAgg111
  z198 := Tryd.sizeOf111
  v198 := Tryd.zeroValue111
  t201 := Tryd.underlying114
  a201 := Tryd.isAgg114
  z201 := Tryd.sizeOf114
  v201 := Tryd.zeroValue114
  t226 := Tryd.underlying121
  a226 := Tryd.isAgg121
  z226 := Tryd.sizeOf121
  v226 := Tryd.zeroValue121
  t227 := Tryd.underlying122
  a227 := Tryd.isAgg122
  z227 := Tryd.sizeOf122
  v227 := Tryd.zeroValue122 }
open Go.RowKit Go.Lib in
/-- unicode.isExcludingLatin(White_Space, r), r beyond U+00FF or negative. (LAID: no walk: one application.) -/
theorem Tryd.unicode_isExcludingLatin_white (T oT R oR : Nat) (r : Int) (w : World) (hlo : -2147483648 ≤ r) (hhi : r ≤ 2147483647) (hr : r < 0 ∨ 255 < r) (h2 : w.cell? ⟨T, oT, none⟩ = some (.slice (some ⟨R, oR, none⟩) 7 7)) (h3 : w.cell? ⟨T, oT + 1, none⟩ = some (.slice none 0 0)) (h4 : w.cell? ⟨T, oT + 2, none⟩ = some (.int .i64 2)) (h5 : ∀ i, i < 21 → w.cell? ⟨R, oR + i, none⟩ = some (.int .u16 (whiteT.getD i 0))) :
    Calls Tryd.prog 115 #[.pointer (some ⟨T, oT, none⟩), .int .i32 r] w fun e w' => e = .returned (.bool (Lib.isSpaceZ r)) ∧ Below w.heap.size w w' := Any.unicode_isExcludingLatin_white Tryd.lays261 T oT R oR r w hlo hhi hr h2 h3 h4 h5
open Go.RowKit Go.Lib in
/-- **unicode.IsSpace AT EVERY int32.** (LAID: no walk: one application.) -/
theorem Tryd.unicode_IsSpace_any (r : Int) (w : World) (hlo : -2147483648 ≤ r) (hhi : r ≤ 2147483647) (hW : Lib.WhiteTab 1 w) :
    Calls Tryd.prog 95 #[.int .i32 r] w fun e w' => e = .returned (.bool (Lib.isSpaceZ r)) ∧ Below w.heap.size w w' := Any.unicode_IsSpace_any Tryd.lays199 r w hlo hhi hW
open Go.RowKit Go.Lib in
theorem Tryd.unicode_is16_white_d (R oR : Nat) (z : Nat) (w : World) (hz : z < 65536) (hz0 : 255 < z) (c6 : w.cell? ⟨R, oR + 6, none⟩ = some (.int .u16 160)) (c7 : w.cell? ⟨R, oR + 7, none⟩ = some (.int .u16 5760)) (c8 : w.cell? ⟨R, oR + 8, none⟩ = some (.int .u16 5600)) (c9 : w.cell? ⟨R, oR + 9, none⟩ = some (.int .u16 8192)) (c10 : w.cell? ⟨R, oR + 10, none⟩ = some (.int .u16 8202)) (c11 : w.cell? ⟨R, oR + 11, none⟩ = some (.int .u16 1)) (c12 : w.cell? ⟨R, oR + 12, none⟩ = some (.int .u16 8232)) (c13 : w.cell? ⟨R, oR + 13, none⟩ = some (.int .u16 8233)) (c14 : w.cell? ⟨R, oR + 14, none⟩ = some (.int .u16 1)) (c15 : w.cell? ⟨R, oR + 15, none⟩ = some (.int .u16 8239)) (c16 : w.cell? ⟨R, oR + 16, none⟩ = some (.int .u16 8287)) (c17 : w.cell? ⟨R, oR + 17, none⟩ = some (.int .u16 48)) (c18 : w.cell? ⟨R, oR + 18, none⟩ = some (.int .u16 12288)) (c19 : w.cell? ⟨R, oR + 19, none⟩ = some (.int .u16 12288)) (c20 : w.cell? ⟨R, oR + 20, none⟩ = some (.int .u16 1)) :
    Calls Tryd.prog 126 #[.slice (some ⟨R, oR + 6, none⟩) 5 5, .int .u16 z] w fun e w' => e = .returned (.bool (Lib.isSpaceR z)) ∧ ∃ q, w' = w.drewN q := Any.unicode_is16_white_d Tryd.lays311 R oR z w hz hz0 c6 c7 c8 c9 c10 c11 c12 c13 c14 c15 c16 c17 c18 c19 c20
open Go.RowKit Go.Lib in
/-- unicode.isExcludingLatin(White_Space, r), r beyond U+00FF or negative. (LAID: no walk: one application.) -/
theorem Tryd.unicode_isExcludingLatin_white_d (T oT R oR : Nat) (r : Int) (w : World) (hlo : -2147483648 ≤ r) (hhi : r ≤ 2147483647) (hr : r < 0 ∨ 255 < r) (h2 : w.cell? ⟨T, oT, none⟩ = some (.slice (some ⟨R, oR, none⟩) 7 7)) (h3 : w.cell? ⟨T, oT + 1, none⟩ = some (.slice none 0 0)) (h4 : w.cell? ⟨T, oT + 2, none⟩ = some (.int .i64 2)) (h5 : ∀ i, i < 21 → w.cell? ⟨R, oR + i, none⟩ = some (.int .u16 (whiteT.getD i 0))) :
    Calls Tryd.prog 115 #[.pointer (some ⟨T, oT, none⟩), .int .i32 r] w fun e w' => e = .returned (.bool (Lib.isSpaceZ r)) ∧ ∃ q, w' = w.drewN q := Any.unicode_isExcludingLatin_white_d Tryd.lays261 T oT R oR r w hlo hhi hr h2 h3 h4 h5
open Go.RowKit Go.Lib in
/-- **unicode.IsSpace AT EVERY int32.** (LAID: no walk: one application.) -/
theorem Tryd.unicode_IsSpace_any_d (r : Int) (w : World) (hlo : -2147483648 ≤ r) (hhi : r ≤ 2147483647) (hW : Lib.WhiteTab 1 w) :
    Calls Tryd.prog 95 #[.int .i32 r] w fun e w' => e = .returned (.bool (Lib.isSpaceZ r)) ∧ ∃ q, w' = w.drewN q := Any.unicode_IsSpace_any_d Tryd.lays199 r w hlo hhi hW
open Go.RowKit Go.Lib in
theorem Tryd.strings_Fields_beyond (s : ByteArray) (w : World) (hs : s.size < 4294967281) (hhigh : ∃ (j : Nat) (b : UInt8), s.data.toList[j]? = some b ∧ 128 ≤ b.toNat) (hT : ∀ c : Nat, c < 256 → w.cell? ⟨0, c, none⟩ = some (.int .u8 (if Lib.isSp (UInt8.ofNat c) then 1 else 0))) (hW : Lib.WhiteTab 1 w) :
    Calls Tryd.prog 74 #[.string s] w fun e w' => ∃ A, e = .returned (.slice (some ⟨A, 0, none⟩) (Lib.goFieldsP Lib.isSpaceR s).length (Lib.goFieldsP Lib.isSpaceR s).length) ∧ w.heap.size ≤ A ∧
      w'.ownsRow w.heap.size 9 1 (.slice (some ⟨A, 0, none⟩) (Lib.goFieldsP Lib.isSpaceR s).length (Lib.goFieldsP Lib.isSpaceR s).length) (Lib.goFieldsP Lib.isSpaceR s).length ((Lib.goFieldsP Lib.isSpaceR s).map Value.string) ∧ Below w.heap.size w w' := Any.strings_Fields_beyond Tryd.lays157 (by kernel_rfl) (by kernel_rfl) s w hs hhigh hT hW
open Go.RowKit Go.Lib in
/-- **strings.Fields AT EVERY STRING, VALID UTF-8 OR NOT.** (LAID: no walk: one application.) -/
theorem Tryd.strings_Fields_any (s : ByteArray) (w : World) (hs : s.size < 4294967281) (htab : Lib.TabIs Tryd.prog w "strings.asciiSpace" .u8 Lib.asciiSpaceTab) (hW : Lib.WhiteTab 1 w) :
    Calls Tryd.prog 74 #[.string s] w fun e w' => ∃ A, e = .returned (.slice (some ⟨A, 0, none⟩) (Lib.fieldsD s.data.toList).length (Lib.fieldsD s.data.toList).length) ∧ w.heap.size ≤ A ∧
      w'.ownsRow w.heap.size 9 1 (.slice (some ⟨A, 0, none⟩) (Lib.fieldsD s.data.toList).length (Lib.fieldsD s.data.toList).length) (Lib.fieldsD s.data.toList).length ((Lib.fieldsD s.data.toList).map fun x => Value.string ⟨x.toArray⟩) ∧ Below w.heap.size w w' := Any.strings_Fields_any Tryd.lays157 (by kernel_rfl) (by kernel_rfl) (by kernel_rfl) s w hs htab hW
def Tryd.lays229_ren : Go.Shelf.Ren := ⟨fun | 229 => 94 | n => n, fun | 9 => 9 | 40 => 89 | 31 => 48 | 152 => 93 | 3 => 3 | 0 => 0 | 4 => 4 | 21 => 21 | 154 => 95 | n => n, fun | n => n⟩
theorem Tryd.lays229 : Go.Proofs.Lays.n229 Tryd.prog Tryd.lays229_ren := {
  mixed := by kernel_rfl
  f229 := Tryd.func94.trans (congrArg some (by kernel_rfl))
  t0 := Tryd.underlying0
  a0 := Tryd.isAgg0
  z0 := Tryd.sizeOf0
  v0 := Tryd.zeroValue0
  t3 := Tryd.underlying3
  a3 := Tryd.isAgg3
  z3 := Tryd.sizeOf3
  v3 := Tryd.zeroValue3
  t4 := Tryd.underlying4
  a4 := Tryd.isAgg4
  z4 := Tryd.sizeOf4
  v4 := Tryd.zeroValue4
  t9 := Tryd.underlying9
  a9 := Tryd.isAgg9
  z9 := Tryd.sizeOf9
  v9 := Tryd.zeroValue9
  t21 := Tryd.underlying21
  a21 := Tryd.isAgg21
  z21 := Tryd.sizeOf21
  v21 := Tryd.zeroValue21
  t31 := Tryd.underlying48
  a31 := Tryd.isAgg48
  z31 := Tryd.sizeOf48
  v31 := Tryd.zeroValue48
  t40 := Tryd.underlying89
  a40 := Tryd.isAgg89
  z40 := Tryd.sizeOf89
  v40 := Tryd.zeroValue89
  t152 := Tryd.underlying93
  a152 := Tryd.isAgg93
  z152 := Tryd.sizeOf93
  v152 := Tryd.zeroValue93
  t154 := Tryd.underlying95
  a154 := Tryd.isAgg95
  z154 := Tryd.sizeOf95
  v154 := Tryd.zeroValue95 }
open Go.RowKit Go.Lib in
theorem Tryd.strings_FieldsFunc_runes (g : Nat) (lb : Array Value) (eg : ∀ args w, (callFunc g args).run Tryd.prog w = .ok (.enter g args) w) (p : Nat → Bool) (s : ByteArray) (w : World) (hs : s.size ≤ 4294967296) (hp : PredAtRunes Tryd.prog g lb p w) :
    Calls Tryd.prog 94 #[.string s, .func (.func g) #[] lb] w fun e w' => ∃ A, e = .returned (.slice (some ⟨A, 0, none⟩) (Lib.goFieldsP p s).length (Lib.goFieldsP p s).length) ∧ w.heap.size ≤ A ∧
      w'.ownsRow w.heap.size 9 1 (.slice (some ⟨A, 0, none⟩) (Lib.goFieldsP p s).length (Lib.goFieldsP p s).length) (Lib.goFieldsP p s).length ((Lib.goFieldsP p s).map Value.string) ∧ Below w.heap.size w w' := Any.strings_FieldsFunc_runes Tryd.lays229 g lb eg p s w hs hp (by kernel_rfl) (by kernel_rfl)
open Go.RowKit Go.Lib in
/-- .. over a hand of the authors' house's premise as it stands. (LAID: no walk: one application.) -/
theorem Tryd.strings_FieldsFunc (g : Nat) (lb : Array Value) (eg : ∀ args w, (callFunc g args).run Tryd.prog w = .ok (.enter g args) w) (p : Nat → Bool) (s : ByteArray) (w : World) (hs : s.size ≤ 4294967296) (hp : PredAt Tryd.prog g lb encR p w) :
    Calls Tryd.prog 94 #[.string s, .func (.func g) #[] lb] w fun e w' => ∃ A, e = .returned (.slice (some ⟨A, 0, none⟩) (Lib.goFieldsP p s).length (Lib.goFieldsP p s).length) ∧ w.heap.size ≤ A ∧
      w'.ownsRow w.heap.size 9 1 (.slice (some ⟨A, 0, none⟩) (Lib.goFieldsP p s).length (Lib.goFieldsP p s).length) (Lib.goFieldsP p s).length ((Lib.goFieldsP p s).map Value.string) ∧ Below w.heap.size w w' := Any.strings_FieldsFunc Tryd.lays229 g lb eg p s w hs hp (by kernel_rfl) (by kernel_rfl)
open Go.RowKit Go.Lib in
theorem Tryd.unicode_is16_any (T : Array Rg) (R oR cap : Nat) (z : Nat) (w : World) (hz : z < 65536) (hT : RgTab .u16 R oR T w) (hok : RgOk 65536 T) (hn : T.size ≤ 1000000000) :
    Calls Tryd.prog 126 #[.slice (some ⟨R, oR, none⟩) T.size cap, .int .u16 z] w fun e w' => e = .returned (.bool (is16Go T z)) ∧ ∃ q, w' = w.drewN q := Any.unicode_is16_any Tryd.lays311 T R oR cap z w hz hT hok hn
def Tryd.lays312_ren : Go.Shelf.Ren := ⟨fun | 312 => 127 | n => n, fun | 194 => 106 | 51 => 96 | 4 => 4 | 3 => 3 | 0 => 0 | 227 => 122 | 201 => 114 | 46 => 104 | n => n, fun | n => n⟩
theorem Tryd.lays312 : Go.Proofs.Lays.n312 Tryd.prog Tryd.lays312_ren := {
  mixed := by kernel_rfl
  f312 := Tryd.func127.trans (congrArg some (by kernel_rfl))
  t0 := Tryd.underlying0
  a0 := Tryd.isAgg0
  z0 := Tryd.sizeOf0
  v0 := Tryd.zeroValue0
  t3 := Tryd.underlying3
  a3 := Tryd.isAgg3
  z3 := Tryd.sizeOf3
  v3 := Tryd.zeroValue3
  t4 := Tryd.underlying4
  a4 := Tryd.isAgg4
  z4 := Tryd.sizeOf4
  v4 := Tryd.zeroValue4
  t46 := Tryd.underlying104
  a46 := Tryd.isAgg104
  z46 := Tryd.sizeOf104
  v46 := Tryd.zeroValue104
  t51 := Tryd.underlying96
  a51 := Tryd.isAgg96
  z51 := Tryd.sizeOf96
  v51 := Tryd.zeroValue96
  t194 := Tryd.underlying106
  a194 := Tryd.isAgg106
  z194 := Tryd.sizeOf106
  v194 := Tryd.zeroValue106
  t201 := Tryd.underlying114
  a201 := Tryd.isAgg114
  z201 := Tryd.sizeOf114
  v201 := Tryd.zeroValue114
  t227 := Tryd.underlying122
  a227 := Tryd.isAgg122
  z227 := Tryd.sizeOf122
  v227 := Tryd.zeroValue122 }
open Go.RowKit Go.Lib in
theorem Tryd.unicode_is32_any (T : Array Rg) (R oR cap : Nat) (z : Nat) (w : World) (hz : z < 4294967296) (hT : RgTab .u32 R oR T w) (hok : RgOk 4294967296 T) (hn : T.size ≤ 1000000000) :
    Calls Tryd.prog 127 #[.slice (some ⟨R, oR, none⟩) T.size cap, .int .u32 z] w fun e w' => e = .returned (.bool (is32Go T z)) ∧ Below w.heap.size w w' := Any.unicode_is32_any Tryd.lays312 T R oR cap z w hz hT hok hn
open Go.RowKit Go.Lib in
theorem Tryd.unicode_isExcludingLatin_any (Tb oT : Nat) (T : RTab) (r : Int) (w : World) (hlo : -2147483648 ≤ r) (hhi : r ≤ 2147483647) (hA : RTabAt Tb oT T w) (hok : RTabOk T) :
    Calls Tryd.prog 115 #[.pointer (some ⟨Tb, oT, none⟩), .int .i32 r] w fun e w' => e = .returned (.bool (exclGo T r)) ∧ Below w.heap.size w w' := Any.unicode_isExcludingLatin_any Tryd.lays261 Tb oT T r w hlo hhi hA hok
def Tryd.lays108_ren : Go.Shelf.Ren := ⟨fun | 108 => 72 | n => n, fun | 28 => 67 | 3 => 3 | 0 => 0 | 4 => 4 | n => n, fun | n => n⟩
theorem Tryd.lays108 : Go.Proofs.Lays.n108 Tryd.prog Tryd.lays108_ren := {
  mixed := by kernel_rfl
  f108 := Tryd.func72.trans (congrArg some (by kernel_rfl))
  t0 := Tryd.underlying0
  a0 := Tryd.isAgg0
  z0 := Tryd.sizeOf0
  v0 := Tryd.zeroValue0
  t3 := Tryd.underlying3
  a3 := Tryd.isAgg3
  z3 := Tryd.sizeOf3
  v3 := Tryd.zeroValue3
  t4 := Tryd.underlying4
  a4 := Tryd.isAgg4
  z4 := Tryd.sizeOf4
  v4 := Tryd.zeroValue4
  t28 := Tryd.underlying67
  a28 := Tryd.isAgg67
  z28 := Tryd.sizeOf67
  v28 := Tryd.zeroValue67 }
open Go.Lib in
/-- slices.Index at []int: "Index returns the index of the first occurrence of v in s, or -1 if not present.": IT RETURNS 'Lib.idxOf (the elements) v'; the world is as it was. 'zs': what the cells behind the slice's address hold (its spare capacity too, if you have it); 'zs.take n': its elements. (LAID: no walk: one application.) -/
theorem Tryd.slices_Index_int (b off n c : Nat) (zs : List Int) (x : Int) (w : World) (hz : n ≤ zs.length) (hbig : n ≤ 9223372036854775807) (hc : ∀ j, j < zs.length → w.cell? ⟨b, off + j, none⟩ = some (.int .i64 (zs.getD j 0))) :
    Calls Tryd.prog 72 #[.slice (some ⟨b, off, none⟩) n c, .int .i64 x] w fun e w' => e = .returned (.int .i64 (Lib.idxOf (zs.take n) x)) ∧ w' = w := Any.slices_Index_int Tryd.lays108 b off n c zs x w hz hbig hc
open Go.Lib in
/-- The same at a slice of length 0, a nil one too: no cell is known, none is asked for. (LAID: no walk: one application.) -/
theorem Tryd.slices_Index_int_empty (a : Option Addr) (c : Nat) (x : Int) (w : World) :
    Calls Tryd.prog 72 #[.slice a 0 c, .int .i64 x] w fun e w' => e = .returned (.int .i64 (Lib.idxOf [] x)) ∧ w' = w := Any.slices_Index_int_empty Tryd.lays108 a c x w
def Tryd.lays107_ren : Go.Shelf.Ren := ⟨fun | 107 => 49 | 108 => 72 | n => n, fun | 28 => 67 | 3 => 3 | 4 => 4 | 0 => 0 | n => n, fun | n => n⟩
theorem Tryd.lays107 : Go.Proofs.Lays.n107 Tryd.prog Tryd.lays107_ren := {
  mixed := by kernel_rfl
  f107 := Tryd.func49.trans (congrArg some (by kernel_rfl))
  f108 := Tryd.func72.trans (congrArg some (by kernel_rfl))
  t0 := Tryd.underlying0
  a0 := Tryd.isAgg0
  z0 := Tryd.sizeOf0
  v0 := Tryd.zeroValue0
  t3 := Tryd.underlying3
  a3 := Tryd.isAgg3
  z3 := Tryd.sizeOf3
  v3 := Tryd.zeroValue3
  t4 := Tryd.underlying4
  a4 := Tryd.isAgg4
  z4 := Tryd.sizeOf4
  v4 := Tryd.zeroValue4
  t28 := Tryd.underlying67
  a28 := Tryd.isAgg67
  z28 := Tryd.sizeOf67
  v28 := Tryd.zeroValue67 }
open Go.Lib in
/-- slices.Contains at []int: "Contains reports whether v is present in s.": IT RETURNS 'elements.contains v'; the world is as it was. ITS CALLEE slices.Index IS MET BY ITS OWN CONTRACT OFF THE SHELF (lay that first): no loop is walked here. (LAID: no walk: one application.) -/
theorem Tryd.slices_Contains_int (b off n c : Nat) (zs : List Int) (x : Int) (w : World) (hz : n ≤ zs.length) (hbig : n ≤ 9223372036854775807) (hc : ∀ j, j < zs.length → w.cell? ⟨b, off + j, none⟩ = some (.int .i64 (zs.getD j 0))) :
    Calls Tryd.prog 49 #[.slice (some ⟨b, off, none⟩) n c, .int .i64 x] w fun e w' => e = .returned (.bool ((zs.take n).contains x)) ∧ w' = w := Any.slices_Contains_int Tryd.lays107 b off n c zs x w hz hbig hc
open Go.Lib in
/-- The same at a slice of length 0, a nil one too. (LAID: no walk: one application.) -/
theorem Tryd.slices_Contains_int_empty (a : Option Addr) (c : Nat) (x : Int) (w : World) :
    Calls Tryd.prog 49 #[.slice a 0 c, .int .i64 x] w fun e w' => e = .returned (.bool false) ∧ w' = w := Any.slices_Contains_int_empty Tryd.lays107 a c x w
def Tryd.lays109_ren : Go.Shelf.Ren := ⟨fun | 109 => 73 | n => n, fun | 31 => 48 | 9 => 9 | 3 => 3 | 0 => 0 | 4 => 4 | n => n, fun | n => n⟩
theorem Tryd.lays109 : Go.Proofs.Lays.n109 Tryd.prog Tryd.lays109_ren := {
  mixed := by kernel_rfl
  f109 := Tryd.func73.trans (congrArg some (by kernel_rfl))
  t0 := Tryd.underlying0
  a0 := Tryd.isAgg0
  z0 := Tryd.sizeOf0
  v0 := Tryd.zeroValue0
  t3 := Tryd.underlying3
  a3 := Tryd.isAgg3
  z3 := Tryd.sizeOf3
  v3 := Tryd.zeroValue3
  t4 := Tryd.underlying4
  a4 := Tryd.isAgg4
  z4 := Tryd.sizeOf4
  v4 := Tryd.zeroValue4
  t9 := Tryd.underlying9
  a9 := Tryd.isAgg9
  z9 := Tryd.sizeOf9
  v9 := Tryd.zeroValue9
  t31 := Tryd.underlying48
  a31 := Tryd.isAgg48
  z31 := Tryd.sizeOf48
  v31 := Tryd.zeroValue48 }
open Go.Lib in
/-- slices.Index at []string: "Index returns the index of the first occurrence of v in s, or -1 if not present.": IT RETURNS 'Lib.idxOfS (the elements) v'; the world is as it was. 'zs': what the cells behind the slice's address hold (its spare capacity too, if you have it); 'zs.take n': its elements. (LAID: no walk: one application.) -/
theorem Tryd.slices_Index_string (b off n c : Nat) (zs : List ByteArray) (x : ByteArray) (w : World) (hz : n ≤ zs.length) (hbig : n ≤ 9223372036854775807) (hc : ∀ j, j < zs.length → w.cell? ⟨b, off + j, none⟩ = some (.string (zs.getD j ByteArray.empty))) :
    Calls Tryd.prog 73 #[.slice (some ⟨b, off, none⟩) n c, .string x] w fun e w' => e = .returned (.int .i64 (Lib.idxOfS (zs.take n) x)) ∧ w' = w := Any.slices_Index_string Tryd.lays109 b off n c zs x w hz hbig hc
open Go.Lib in
/-- The same at a slice of length 0, a nil one too: no cell is known, none is asked for. (LAID: no walk: one application.) -/
theorem Tryd.slices_Index_string_empty (a : Option Addr) (c : Nat) (x : ByteArray) (w : World) :
    Calls Tryd.prog 73 #[.slice a 0 c, .string x] w fun e w' => e = .returned (.int .i64 (Lib.idxOfS [] x)) ∧ w' = w := Any.slices_Index_string_empty Tryd.lays109 a c x w
def Tryd.lays110_ren : Go.Shelf.Ren := ⟨fun | 110 => 50 | 109 => 73 | n => n, fun | 31 => 48 | 9 => 9 | 4 => 4 | 3 => 3 | 0 => 0 | n => n, fun | n => n⟩
theorem Tryd.lays110 : Go.Proofs.Lays.n110 Tryd.prog Tryd.lays110_ren := {
  mixed := by kernel_rfl
  f109 := Tryd.func73.trans (congrArg some (by kernel_rfl))
  f110 := Tryd.func50.trans (congrArg some (by kernel_rfl))
  t0 := Tryd.underlying0
  a0 := Tryd.isAgg0
  z0 := Tryd.sizeOf0
  v0 := Tryd.zeroValue0
  t3 := Tryd.underlying3
  a3 := Tryd.isAgg3
  z3 := Tryd.sizeOf3
  v3 := Tryd.zeroValue3
  t4 := Tryd.underlying4
  a4 := Tryd.isAgg4
  z4 := Tryd.sizeOf4
  v4 := Tryd.zeroValue4
  t9 := Tryd.underlying9
  a9 := Tryd.isAgg9
  z9 := Tryd.sizeOf9
  v9 := Tryd.zeroValue9
  t31 := Tryd.underlying48
  a31 := Tryd.isAgg48
  z31 := Tryd.sizeOf48
  v31 := Tryd.zeroValue48 }
open Go.Lib in
/-- slices.Contains at []string: "Contains reports whether v is present in s.": IT RETURNS 'Lib.containsS (the elements) v', which is true just where v is among them ('Lib.containsS_iff'); the world is as it was. ITS CALLEE slices.Index IS MET BY ITS OWN CONTRACT OFF THE SHELF (lay that first): no loop is walked here. (LAID: no walk: one application.) -/
theorem Tryd.slices_Contains_string (b off n c : Nat) (zs : List ByteArray) (x : ByteArray) (w : World) (hz : n ≤ zs.length) (hbig : n ≤ 9223372036854775807) (hc : ∀ j, j < zs.length → w.cell? ⟨b, off + j, none⟩ = some (.string (zs.getD j ByteArray.empty))) :
    Calls Tryd.prog 50 #[.slice (some ⟨b, off, none⟩) n c, .string x] w fun e w' => e = .returned (.bool (Lib.containsS (zs.take n) x)) ∧ w' = w := Any.slices_Contains_string Tryd.lays110 b off n c zs x w hz hbig hc
open Go.Lib in
/-- The same at a slice of length 0, a nil one too. (LAID: no walk: one application.) -/
theorem Tryd.slices_Contains_string_empty (a : Option Addr) (c : Nat) (x : ByteArray) (w : World) :
    Calls Tryd.prog 50 #[.slice a 0 c, .string x] w fun e w' => e = .returned (.bool false) ∧ w' = w := Any.slices_Contains_string_empty Tryd.lays110 a c x w
end Go.Proofs
/-
  The machine of layer 28 (jscript) in plain Lean.
-/
set_option linter.unusedSimpArgs false
set_option linter.unusedVariables false
namespace Tg.Js

abbrev w64 (n : Int) : Int := Go.IntKind.i64.wrap n
theorem w64_in {n : Int} (h1 : -9223372036854775808 ≤ n) (h2 : n ≤ 9223372036854775807) : w64 n = n := Go.IntWalk.i64_in _ ⟨h1, h2⟩
structure M where
  depth : Int
  stack : List UInt8
  at_ : Int
  by_ : UInt8
  taken : Bool
  said : List UInt8
  last : Int
  broken : Bool
  bad : Bool
  place : Int
  pieces : Int
  ends : Int
  seen : Int
deriving DecidableEq

def letter (b : UInt8) : Bool := decide (97 ≤ (b.toNat : Int)) && decide ((b.toNat : Int) ≤ 122) || decide (65 ≤ (b.toNat : Int)) && decide ((b.toNat : Int) ≤ 90)
def digit (b : UInt8) : Bool := decide (48 ≤ (b.toNat : Int)) && decide ((b.toNat : Int) ≤ 57)
def feedB (b : UInt8) : Bool := decide (b = 10) || decide (b = 13)
def white (b : UInt8) : Bool := decide (b = 32) || decide (9 ≤ (b.toNat : Int)) && decide ((b.toNat : Int) ≤ 13)
def inner (b : UInt8) : Bool := letter b || digit b || decide (b = 95) || decide (b = 36) || decide (128 ≤ (b.toNat : Int))
def w (s : String) : List UInt8 := s.toUTF8.data.toList
def keywords : List (List UInt8) := ["await", "break", "case", "catch", "class", "const", "continue", "default", "delete", "do", "else", "export", "extends", "finally", "for", "from", "function", "get", "if", "import", "in", "instanceof", "let", "new", "of", "return", "set", "static", "switch", "throw", "try", "typeof", "var", "void", "while", "with", "yield", "async", "as"].map w
def isKeyword (s : List UInt8) : Bool := keywords.contains s
def signs : List UInt8 := w "{}()[];,<>=!+-*/%&|^~?:."

namespace M
variable (m : M) (b : UInt8)
def fail : M := { m with bad := true, place := m.seen }
def piece : M := { m with pieces := w64 (m.pieces + 1) }
def joined : Bool := m.last == 1 && !m.broken
def ended (last : Int) : M := { m with at_ := 0, last := last, broken := false }
def push : M := if (m.stack.length : Int) = m.depth then m.fail else { m with stack := m.stack ++ [b] }.ended 0
def pair : UInt8 := if b = 41 then 40 else if b = 93 then 91 else 123
/-- the last sign that is open -/
def top : Option UInt8 := m.stack.getLast?
def pop : M :=
  match m.stack.getLast? with
  | none => m.fail
  | some t =>
    if b = 125 ∧ t = 96 then { m with stack := m.stack.dropLast, at_ := 4, by_ := 96 }
    else if t = pair b then
      let m' : M := { m with stack := m.stack.dropLast }
      if b ≠ 125 then m'.ended 1
      else
        let m2 := m'.ended 2
        if m.stack.length = 1 then { m2 with ends := w64 (m2.ends + 1) } else m2
    else m.fail
def sign : M :=
  let p := m.piece
  if b = 40 ∨ b = 91 ∨ b = 123 then p.push b
  else if b = 41 ∨ b = 93 ∨ b = 125 then p.pop b
  else if b = 59 then
    let q := p.ended 0
    if q.stack = [] then { q with ends := w64 (q.ends + 1) } else q
  else p.ended 0
def begin : M :=
  if feedB b then { m with broken := true }
  else if white b then m
  else if inner b then
    if m.joined then m.fail
    else { m.piece with at_ := if digit b then 2 else 1, said := [b] }
  else if b = 34 ∨ b = 39 then
    if m.joined then m.fail else { m.piece with at_ := 3, by_ := b }
  else if b = 96 then { m.piece with at_ := 4, by_ := b }
  else if b = 47 then { m with at_ := 9 }
  else if b = 60 ∧ m.pieces = 0 then { m with at_ := 13 }
  else if signs.contains b then m.sign b
  else m.fail
def inWord : M :=
  if inner b ∨ m.at_ = 2 ∧ b = 46 then (if (m.said.length : Int) ≤ 10 then { m with said := m.said ++ [b] } else m)
  else if m.at_ = 1 ∧ isKeyword m.said then (m.ended 3).begin b
  else (m.ended 1).begin b
def inText : M :=
  if m.taken then { m with taken := false }
  else if m.at_ ≠ 4 ∧ feedB b then m.fail
  else if b = 92 then { m with taken := true }
  else if m.at_ = 7 then (if b = 93 then { m with at_ := 6 } else m)
  else if m.at_ = 6 ∧ b = 91 then { m with at_ := 7 }
  else if m.at_ = 4 ∧ b = 36 then { m with at_ := 5 }
  else if b = m.by_ ∧ m.at_ = 6 then { m with at_ := 8 }
  else if b = m.by_ then m.ended 1
  else m
def inDollar : M :=
  let p : M := { m with at_ := 4 }
  if b = 123 then p.push 96 else p.inText b
def inSlash : M :=
  if b = 47 then { m with at_ := 10 }
  else if b = 42 then { m with at_ := 11 }
  else if m.last = 1 ∨ m.last = 2 then (m.sign 47).begin b
  else { m.piece with at_ := 6, by_ := 47 }.inText b
def inRemark : M :=
  let p : M := { m with broken := m.broken || feedB b }
  if m.at_ = 10 ∧ feedB b then { p with at_ := 0 }
  else if m.at_ = 12 ∧ b = 47 then { p with at_ := 0 }
  else if m.at_ ≠ 10 ∧ b = 42 then { p with at_ := 12 }
  else if m.at_ = 12 then { p with at_ := 11 }
  else p
def inLess : M :=
  if m.at_ = 13 ∧ b = 33 then { m with at_ := 14 }
  else if m.at_ = 14 ∧ b = 45 then { m with at_ := 15 }
  else if m.at_ = 15 ∧ b = 45 then { m with at_ := 10 }
  else m.fail
def byte : M :=
  if m.at_ = 0 then m.begin b
  else if m.at_ = 1 ∨ m.at_ = 2 ∨ m.at_ = 8 then m.inWord b
  else if m.at_ = 5 then m.inDollar b
  else if m.at_ = 9 then m.inSlash b
  else if m.at_ = 10 ∨ m.at_ = 11 ∨ m.at_ = 12 then m.inRemark b
  else if m.at_ = 13 ∨ m.at_ = 14 ∨ m.at_ = 15 then m.inLess b
  else m.inText b
def tell : Int :=
  if m.bad then 0
  else if m.stack = [] ∧ (m.at_ = 0 ∨ m.at_ = 1 ∨ m.at_ = 2 ∨ m.at_ = 8 ∨ m.at_ = 10) then 2
  else 1
/-- one byte of a piece -/
def step : M := let p := if m.bad then m else m.byte b
  { p with seen := w64 (p.seen + 1) }
def feed (m : M) (s : List UInt8) : M := s.foldl step m
end M
def new (depth : Int) : M := { depth := depth, stack := [], at_ := 0, by_ := 0, taken := false, said := [], last := 0, broken := false, bad := false, place := -1, pieces := 0, ends := 0, seen := 0 }
theorem lives1 : ((new 5).feed (w "var x = 1;")).tell = 2 ∧ ((new 5).feed (w "var x = 1;")).ends = 1 := by decide +kernel
theorem lives2 : ((new 5).feed (w "Hello world")).tell = 0 ∧ ((new 5).feed (w "Hello world")).place = 6 := by decide +kernel

/-! ### what stays -/
namespace M
theorem feed_append (m : M) (s t : List UInt8) : m.feed (s ++ t) = (m.feed s).feed t := by simp [feed]
/-- what a byte may do -/
structure Nx (c : Nat) (m m' : M) : Prop where
  seen : m'.seen = m.seen
  isBad : m'.bad = true → m'.place = m.seen ∨ m.bad = true ∧ m'.place = m.place
  good : m'.bad = false → m'.place = m.place ∧ m.bad = false
  ends : 0 ≤ m.ends → m.ends ≤ 4611686018427387904 → m.ends ≤ m'.ends ∧ m'.ends ≤ m.ends + c
theorem Nx.trans {c d e : Nat} {m m1 m2 : M} (h : Nx c m m1) (k : Nx d m1 m2) (hc : c ≤ 1) (he : c + d ≤ e) (hm : m1.ends ≤ 4611686018427387904 ∨ c = 0) : Nx e m m2 := by
  refine ⟨k.seen.trans h.seen, fun hb => ?_, fun hb => ?_, fun h0 h1 => ?_⟩
  · rcases k.isBad hb with k1 | ⟨k1, k2⟩
    · exact .inl (k1.trans h.seen)
    · rcases h.isBad k1 with h1 | ⟨h1, h2⟩
      · exact .inl (k2.trans h1)
      · exact .inr ⟨h1, k2.trans h2⟩
  · obtain ⟨k1, k2⟩ := k.good hb
    obtain ⟨h1, h2⟩ := h.good k2
    exact ⟨k1.trans h1, h2⟩
  · obtain ⟨a1, a2⟩ := h.ends h0 h1
    obtain ⟨b1, b2⟩ := k.ends (by omega) (by omega)
    omega
theorem Nx.same {c : Nat} {m m' : M} (h1 : m'.seen = m.seen) (h2 : m'.bad = m.bad) (h3 : m'.place = m.place) (h4 : m'.ends = m.ends) : Nx c m m' :=
  ⟨h1, fun h => .inr ⟨h2 ▸ h, h3⟩, fun h => ⟨h3, h2 ▸ h⟩, fun _ _ => by omega⟩
theorem Nx.fail {c : Nat} (m : M) : Nx c m m.fail := ⟨rfl, fun _ => .inl rfl, (fun h => by simp [M.fail] at h), fun _ _ => by simp only [M.fail]; omega⟩
theorem Nx.inc {m m' : M} (h1 : m'.seen = m.seen) (h2 : m'.bad = m.bad) (h3 : m'.place = m.place) (h4 : m'.ends = w64 (m.ends + 1)) : Nx 1 m m' :=
  ⟨h1, fun h => .inr ⟨h2 ▸ h, h3⟩, fun h => ⟨h3, h2 ▸ h⟩, fun h0 h5 => by rw [h4, w64_in (by omega) (by omega)]; omega⟩
theorem push_nx (m : M) (b : UInt8) : Nx 0 m (m.push b) := by
  unfold push
  split
  · exact Nx.fail m
  · exact Nx.same rfl rfl rfl rfl
theorem pop_nx (m : M) (b : UInt8) : Nx 1 m (m.pop b) := by
  unfold pop
  split
  · exact Nx.fail m
  · split
    · exact Nx.same rfl rfl rfl rfl
    · split
      · dsimp only
        split
        · exact Nx.same rfl rfl rfl rfl
        · split
          · exact Nx.inc rfl rfl rfl rfl
          · exact Nx.same rfl rfl rfl rfl
      · exact Nx.fail m
theorem sign_nx (m : M) (b : UInt8) : Nx 1 m (m.sign b) := by
  have hp : Nx 0 m m.piece := Nx.same rfl rfl rfl rfl
  unfold sign
  dsimp only
  split
  · exact hp.trans (push_nx _ b) (by omega) (by omega) (.inr rfl)
  · split
    · exact hp.trans (pop_nx _ b) (by omega) (by omega) (.inr rfl)
    · split
      · split
        · exact Nx.inc rfl rfl rfl rfl
        · exact Nx.same rfl rfl rfl rfl
      · exact Nx.same rfl rfl rfl rfl
theorem sign47 (m : M) : Nx 0 m (m.sign 47) := by
  unfold sign
  simp only [show ¬((47 : UInt8) = 40 ∨ (47 : UInt8) = 91 ∨ (47 : UInt8) = 123) by decide, show ¬((47 : UInt8) = 41 ∨ (47 : UInt8) = 93 ∨ (47 : UInt8) = 125) by decide, show ¬((47 : UInt8) = 59) by decide, if_false]
  exact Nx.same rfl rfl rfl rfl
theorem begin_nx (m : M) (b : UInt8) : Nx 1 m (m.begin b) := by
  unfold begin
  repeat' split
  all_goals first | exact Nx.fail m | exact sign_nx m b | exact Nx.same rfl rfl rfl rfl
theorem inText_nx (m : M) (b : UInt8) : Nx 1 m (m.inText b) := by
  unfold inText
  repeat' split
  all_goals first | exact Nx.fail m | exact Nx.same rfl rfl rfl rfl
theorem byte_nx (m : M) (b : UInt8) : Nx 1 m (m.byte b) := by
  unfold byte
  split
  · exact begin_nx m b
  split
  · unfold inWord
    split
    · split <;> exact Nx.same rfl rfl rfl rfl
    · split
      · exact (Nx.same (c := 0) (m := m) (m' := m.ended 3) rfl rfl rfl rfl).trans (begin_nx _ b) (by omega) (by omega) (.inr rfl)
      · exact (Nx.same (c := 0) (m := m) (m' := m.ended 1) rfl rfl rfl rfl).trans (begin_nx _ b) (by omega) (by omega) (.inr rfl)
  split
  · unfold inDollar
    dsimp only
    split
    · exact (Nx.same (c := 0) (m := m) (m' := { m with at_ := 4 }) rfl rfl rfl rfl).trans (push_nx _ 96) (by omega) (by omega) (.inr rfl)
    · exact (Nx.same (c := 0) (m := m) (m' := { m with at_ := 4 }) rfl rfl rfl rfl).trans (inText_nx _ b) (by omega) (by omega) (.inr rfl)
  split
  · unfold inSlash
    split
    · exact Nx.same rfl rfl rfl rfl
    split
    · exact Nx.same rfl rfl rfl rfl
    split
    · exact (sign47 m).trans (begin_nx _ b) (by omega) (by omega) (.inr rfl)
    · exact (Nx.same (c := 0) (m := m) (m' := { m.piece with at_ := 6, by_ := 47 }) rfl rfl rfl rfl).trans (inText_nx _ b) (by omega) (by omega) (.inr rfl)
  split
  · unfold inRemark
    dsimp only
    repeat' split
    all_goals exact Nx.same rfl rfl rfl rfl
  split
  · unfold inLess
    repeat' split
    all_goals first | exact Nx.fail m | exact Nx.same rfl rfl rfl rfl
  · exact inText_nx m b
/-- behind n bytes -/
structure Inv (n : Nat) (m : M) : Prop where
  seen : m.seen = n
  isBad : m.bad = true → 0 ≤ m.place ∧ m.place < n
  good : m.bad = false → m.place = -1
  e0 : 0 ≤ m.ends
  e1 : m.ends ≤ n
theorem step_bad (m : M) (b : UInt8) (h : m.bad = true) : m.step b = { m with seen := w64 (m.seen + 1) } := by
  unfold step; simp [h]
theorem step_good (m : M) (b : UInt8) (h : m.bad = false) : m.step b = { m.byte b with seen := w64 ((m.byte b).seen + 1) } := by
  unfold step; simp [h]
theorem step_inv {n : Nat} {m : M} (h : Inv n m) (hn : n < 1152921504606846976) (b : UInt8) : Inv (n + 1) (m.step b) ∧ m.ends ≤ (m.step b).ends ∧ (m.bad = true → (m.step b).bad = true ∧ (m.step b).place = m.place ∧ (m.step b).ends = m.ends) ∧ (m.bad = false → (m.step b).bad = true → (n : Int) ≤ (m.step b).place) := by
  have hs := h.seen
  have e0 := h.e0
  have e1 := h.e1
  cases hb : m.bad with
  | true =>
    rw [step_bad m b hb]
    obtain ⟨p1, p2⟩ := h.isBad hb
    refine ⟨⟨?_, fun _ => ⟨p1, ?_⟩, fun h2 => ?_, e0, ?_⟩, Int.le_refl _, fun _ => ⟨hb, rfl, rfl⟩, fun h2 => by cases h2⟩
    · show w64 (m.seen + 1) = _
      rw [hs, w64_in (by omega) (by omega)]; omega
    · show m.place < _; omega
    · have : m.bad = false := h2
      rw [hb] at this; cases this
    · show m.ends ≤ _; omega
  | false =>
    rw [step_good m b hb]
    have hx := byte_nx m b
    obtain ⟨g1, g2⟩ := hx.ends e0 (by omega)
    refine ⟨⟨?_, fun h2 => ?_, fun h2 => ?_, ?_, ?_⟩, g1, (fun h2 => by cases h2), fun _ h2 => ?_⟩
    · show w64 ((m.byte b).seen + 1) = _
      rw [hx.seen, hs, w64_in (by omega) (by omega)]; omega
    · show 0 ≤ (m.byte b).place ∧ (m.byte b).place < _
      rcases hx.isBad h2 with h3 | ⟨h3, _⟩
      · rw [h3, hs]; omega
      · rw [hb] at h3; cases h3
    · show (m.byte b).place = -1
      rw [(hx.good h2).1]; exact h.good hb
    · show 0 ≤ (m.byte b).ends; omega
    · show (m.byte b).ends ≤ _; omega
    · show _ ≤ (m.byte b).place
      rcases hx.isBad h2 with h3 | ⟨h3, _⟩
      · rw [h3, hs]; omega
      · rw [hb] at h3; cases h3
theorem feed_inv : ∀ (t : List UInt8) (n : Nat) (m : M), Inv n m → n + t.length ≤ 1152921504606846976 → Inv (n + t.length) (m.feed t) ∧ m.ends ≤ (m.feed t).ends ∧ (m.bad = true → (m.feed t).bad = true ∧ (m.feed t).place = m.place ∧ (m.feed t).ends = m.ends) ∧ (m.bad = false → (m.feed t).bad = true → (n : Int) ≤ (m.feed t).place)
  | [], n, m, h, _ => ⟨h, Int.le_refl _, fun h => ⟨h, rfl, rfl⟩, fun h1 h2 => by
      have : m.bad = true := h2
      rw [h1] at this; cases this⟩
  | b :: t, n, m, h, hn => by
    have hl : (b :: t).length = t.length + 1 := rfl
    obtain ⟨h1, h2, h3, h4⟩ := step_inv h (by omega) b
    obtain ⟨g1, g2, g3, g4⟩ := feed_inv t (n + 1) (m.step b) h1 (by omega)
    have e : m.feed (b :: t) = (m.step b).feed t := rfl
    rw [e]
    refine ⟨by rw [hl, show n + (t.length + 1) = n + 1 + t.length by omega]; exact g1, Int.le_trans h2 g2, fun hb => ?_, fun hb hb2 => ?_⟩
    · obtain ⟨a1, a2, a3⟩ := h3 hb
      obtain ⟨b1, b2, b3⟩ := g3 a1
      exact ⟨b1, b2.trans a2, b3.trans a3⟩
    · cases hs : (m.step b).bad with
      | true =>
        have := h4 hb hs
        rw [(g3 hs).2.1]; exact this
      | false =>
        have := g4 hs hb2
        omega
theorem new_inv (d : Int) : Inv 0 (new d) := ⟨rfl, (fun h => by cases h), fun _ => rfl, Int.le_refl 0, Int.le_refl 0⟩
theorem tell_bad {m : M} : m.tell = 0 ↔ m.bad = true := by
  unfold tell
  cases m.bad <;> simp
  split <;> decide
/-- the law -/
theorem stays (d : Int) (s t : List UInt8) (hs : s.length ≤ 1000) (ht : t.length ≤ 1000) :
    let m := (new d).feed s
    let m' := (new d).feed (s ++ t)
    (m.tell = 0 → m'.tell = 0 ∧ m'.place = m.place ∧ m'.ends = m.ends ∧ 0 ≤ m.place ∧ m.place < s.length) ∧
    (m.tell ≠ 0 → m.place = -1 ∧ (m'.place = -1 ∨ (s.length : Int) ≤ m'.place) ∧ m.ends ≤ m'.ends) := by
  dsimp only
  obtain ⟨i1, _, _, _⟩ := feed_inv s 0 (new d) (new_inv d) (by omega)
  rw [Nat.zero_add] at i1
  obtain ⟨j1, j2, j3, j4⟩ := feed_inv t s.length ((new d).feed s) i1 (by omega)
  rw [feed_append]
  constructor
  · intro h
    have hb := tell_bad.1 h
    obtain ⟨a1, a2, a3⟩ := j3 hb
    exact ⟨tell_bad.2 a1, a2, a3, i1.isBad hb⟩
  · intro h
    have hb : ((new d).feed s).bad = false := by
      cases hq : ((new d).feed s).bad with
      | true => exact absurd (tell_bad.2 hq) h
      | false => rfl
    refine ⟨i1.good hb, ?_, j2⟩
    cases hq : (((new d).feed s).feed t).bad with
    | true => exact .inr (j4 hb hq)
    | false => exact .inl (j1.good hq)
end M
end Tg.Js
/-
  A logical run of Go code: rows of cells that grow and shrink.
-/
set_option linter.unusedSimpArgs false
set_option linter.unusedVariables false
namespace Go.Lg
open Go.Tg Go.RowKit

section
variable {P : Program} {H H' : LH} {v x : Value} {xs : List Value} {e t : TypeId} {N : Nat} {b : LB}
/-- v is a row of the cells xs, in a block behind N -/
def Row (N : Nat) (H : LH) (e : TypeId) (v : Value) (xs : List Value) : Prop :=
  (v = .slice none 0 0 ∧ xs = []) ∨ ∃ k c rest, v = sl k xs.length c ∧ N ≤ k ∧ H.get k = some ⟨xs ++ rest, e, true⟩ ∧ c = xs.length + rest.length
/-- blocks that are no row's -/
def offRow (v : Value) (k : Nat) : Prop := ∀ n c, v ≠ sl k n c
theorem Row.nil : Row N H e (.slice none 0 0) [] := .inl ⟨rfl, rfl⟩
theorem Row.len (h : Row N H e v xs) (hu : P.underlying t = some (.slice e)) : lbuiltin P .len [t] [v] H' = some (.int .i64 xs.length, H') := by
  rcases h with ⟨rfl, rfl⟩ | ⟨k, c, rest, rfl, _⟩
  · exact lbuiltin_len_slice hu
  · exact lbuiltin_len_slice hu
theorem Row.cell (h : Row N H e v xs) : cellB v = true := by
  rcases h with ⟨rfl, rfl⟩ | ⟨k, c, rest, rfl, _⟩ <;> simp
theorem Row.keep (h : Row N H e v xs) (hk : ∀ k, N ≤ k → ¬ offRow v k → H'.get k = H.get k) : Row N H' e v xs := by
  rcases h with ⟨rfl, rfl⟩ | ⟨k, c, rest, rfl, h1, h2, h3⟩
  · exact .inl ⟨rfl, rfl⟩
  · exact .inr ⟨k, c, rest, rfl, h1, by rw [hk k h1 (fun h => h _ _ rfl)]; exact h2, h3⟩
theorem Row.off_of_elem (h : Row N H e v xs) {l : Nat} (hl : H.get l = some b) (hne : b.elem ≠ e) : offRow v l := by
  rcases h with ⟨rfl, rfl⟩ | ⟨k, c, rest, rfl, h1, h2, h3⟩
  · intro n c h; cases h
  · intro n c h
    injection h with h
    injection h with h
    injection h with h
    subst h
    rw [h2] at hl
    injection hl with hl
    subst hl
    exact hne rfl
theorem off_nil {k : Nat} : offRow (.slice none 0 0) k := fun n c h => by cases h
/-- one element more -/
theorem Row.push (h : Row N H e v xs) (hu : P.underlying t = some (.slice e)) (hs : lesz P e = some 1) (hx : cellB x = true) (hm : xs.length + 1 ≤ maxElems) (hN : N ≤ H.n) (hdom : ∀ l, H.n ≤ l → H.get l = none) :
    ∃ v' H', lapp P t v (some (1, [x])) H = some (v', H') ∧ Row N H' e v' (xs ++ [x]) ∧ H.n ≤ H'.n ∧ (∀ k, k < H.n → offRow v k → H'.get k = H.get k) ∧ (∀ k, k < H.n → offRow v k → offRow v' k) ∧ (∀ l, H'.n ≤ l → H'.get l = none) ∧ H'.base = H.base ∧ H'.ng = H.ng := by
  have hc : [x].all cellB = true := by simp [hx]
  rcases h with ⟨rfl, rfl⟩ | ⟨k, c, rest, rfl, h1, h2, h3⟩
  · refine ⟨_, _, lapp_nil hu hs hc (by omega) (by simp [maxElems]), .inr ⟨H.n, 1, [], rfl, hN, by simp, rfl⟩, by simp, fun k hk _ => get_new_ne (by omega), fun k hk _ n c h => ?_, fun l hl => ?_, rfl, rfl⟩
    · injection h with h
      injection h with h
      injection h with h
      omega
    · have : H.n + 1 ≤ l := hl
      rw [get_new_ne (by omega)]; exact hdom l (by omega)
  · have hklt : k < H.n := by
      rcases Nat.lt_or_ge k H.n with h | h
      · exact h
      · rw [hdom k h] at h2; cases h2
    cases rest with
    | nil =>
      simp only [List.length_nil, Nat.add_zero] at h3
      subst h3
      have ha := lapp_grow (P := P) (H := H) (t := t) (m := 1) (new := [x]) (n := xs.length) (s := 1) hu hs hc (by omega) hm h2 rfl rfl (by simp)
      simp only [List.append_nil] at ha h2
      refine ⟨_, _, ha, .inr ⟨H.n, xs.length + 1, [], by simp, hN, ?_, by simp⟩, by simp, fun j hj ho => ?_, fun j hj ho n c h => ?_, fun l hl => ?_, rfl, rfl⟩
      · rw [show H.n = (H.kill k).n from rfl, get_new]; simp
      · have hjk : j ≠ k := fun e => ho _ _ (by rw [e])
        rw [get_new_ne (by simp; omega), get_kill_ne hjk]
      · injection h with h
        injection h with h
        injection h with h
        omega
      · have : H.n + 1 ≤ l := hl
        rw [get_new_ne (by simp; omega), get_kill_ne (by omega)]; exact hdom l (by omega)
    | cons z rest =>
      have ha := lapp_in (P := P) (H := H) (t := t) (m := 1) (new := [x]) (n := xs.length) (cp := c) (s := 1) hu hs hc (by omega) h2 rfl rfl (by simp [h3]) (by simp [h3])
      refine ⟨_, _, ha, .inr ⟨k, c, rest, by simp, h1, ?_, by simp [h3]; omega⟩, by simp, fun j hj ho => ?_, fun j hj ho n c' h => ?_, fun l hl => ?_, rfl, rfl⟩
      · rw [get_set]
        congr 2
        simp [splice]
      · have hjk : j ≠ k := fun e => ho _ _ (by rw [e])
        rw [get_set_ne hjk]
      · injection h with h
        injection h with h
        injection h with h
        subst h
        exact ho _ _ rfl
      · have : H.n ≤ l := hl
        rw [get_set_ne (by omega)]; exact hdom l this
/-- fewer elements -/
theorem Row.take (h : Row N H e v xs) (hu : P.underlying t = some (.slice e)) (hs : sz P e = some 1) {j : Int} {kd : IntKind} (h0 : 0 ≤ j) (h1 : j < xs.length) : ∃ v', lpart P t v none (some (.int kd j)) = some v' ∧ Row N H e v' (xs.take j.toNat) ∧ ∀ k, offRow v k → offRow v' k := by
  rcases h with ⟨rfl, rfl⟩ | ⟨k, c, rest, rfl, g1, g2, g3⟩
  · simp at h1; omega
  · refine ⟨_, lpart_row_ns hu hs h0 (by omega), .inr ⟨k, c, xs.drop j.toNat ++ rest, ?_, g1, ?_, ?_⟩, fun i hi n c' h => ?_⟩
    · rw [List.length_take, Nat.min_eq_left (by omega)]
    · rw [← List.append_assoc, List.take_append_drop]; exact g2
    · simp; omega
    · injection h with h
      injection h with h
      injection h with h
      subst h
      exact hi _ _ rfl
/-- an element is read -/
theorem Row.at (h : Row N H e v xs) (hu : P.underlying t = some (.slice e)) (hs : sz P e = some 1) (ha : aggB P e = some false) {j : Int} {kd : IntKind} (h0 : 0 ≤ j) (h1 : j < xs.length) {d : Value} : ∃ p, lixa P t v (.int kd j) H' = some (p, H') ∧ lld P e p H = some (xs.getD j.toNat d) := by
  rcases h with ⟨rfl, rfl⟩ | ⟨k, c, rest, rfl, g1, g2, g3⟩
  · simp at h1; omega
  · refine ⟨_, lixa_row hu hs h0 (by omega), ?_⟩
    rw [lld_ptr g2, ha]
    simp only [lldb_cell, Nat.zero_add, Nat.mul_one]
    have hlt : j.toNat < xs.length := by omega
    rw [List.getElem?_append, if_pos hlt, List.getD_eq_getElem?_getD, List.getElem?_eq_getElem hlt]; rfl
end
end Go.Lg
/-
  Bytes as the numbers that they are.
-/
set_option linter.unusedSimpArgs false
set_option linter.unusedVariables false
namespace Go.Lg
theorem u8eq (b : UInt8) (n : Nat) (hn : n < 256) : ((b.toNat : Int) = n) = (b = UInt8.ofNat n) := by
  have := b.toNat_lt
  apply propext
  constructor
  · intro h
    apply UInt8.toNat_inj.1
    simp; omega
  · rintro rfl
    simp; omega
section
variable {b : UInt8}
@[simp] theorem u8q0 : ((b.toNat : Int) = 0) = (b = 0) := u8eq b 0 (by decide)
@[simp] theorem u8q1 : ((b.toNat : Int) = 1) = (b = 1) := u8eq b 1 (by decide)
@[simp] theorem u8q2 : ((b.toNat : Int) = 2) = (b = 2) := u8eq b 2 (by decide)
@[simp] theorem u8q3 : ((b.toNat : Int) = 3) = (b = 3) := u8eq b 3 (by decide)
@[simp] theorem u8q4 : ((b.toNat : Int) = 4) = (b = 4) := u8eq b 4 (by decide)
@[simp] theorem u8q5 : ((b.toNat : Int) = 5) = (b = 5) := u8eq b 5 (by decide)
@[simp] theorem u8q6 : ((b.toNat : Int) = 6) = (b = 6) := u8eq b 6 (by decide)
@[simp] theorem u8q7 : ((b.toNat : Int) = 7) = (b = 7) := u8eq b 7 (by decide)
@[simp] theorem u8q8 : ((b.toNat : Int) = 8) = (b = 8) := u8eq b 8 (by decide)
@[simp] theorem u8q9 : ((b.toNat : Int) = 9) = (b = 9) := u8eq b 9 (by decide)
@[simp] theorem u8q10 : ((b.toNat : Int) = 10) = (b = 10) := u8eq b 10 (by decide)
@[simp] theorem u8q11 : ((b.toNat : Int) = 11) = (b = 11) := u8eq b 11 (by decide)
@[simp] theorem u8q12 : ((b.toNat : Int) = 12) = (b = 12) := u8eq b 12 (by decide)
@[simp] theorem u8q13 : ((b.toNat : Int) = 13) = (b = 13) := u8eq b 13 (by decide)
@[simp] theorem u8q14 : ((b.toNat : Int) = 14) = (b = 14) := u8eq b 14 (by decide)
@[simp] theorem u8q15 : ((b.toNat : Int) = 15) = (b = 15) := u8eq b 15 (by decide)
@[simp] theorem u8q16 : ((b.toNat : Int) = 16) = (b = 16) := u8eq b 16 (by decide)
@[simp] theorem u8q17 : ((b.toNat : Int) = 17) = (b = 17) := u8eq b 17 (by decide)
@[simp] theorem u8q18 : ((b.toNat : Int) = 18) = (b = 18) := u8eq b 18 (by decide)
@[simp] theorem u8q19 : ((b.toNat : Int) = 19) = (b = 19) := u8eq b 19 (by decide)
@[simp] theorem u8q20 : ((b.toNat : Int) = 20) = (b = 20) := u8eq b 20 (by decide)
@[simp] theorem u8q21 : ((b.toNat : Int) = 21) = (b = 21) := u8eq b 21 (by decide)
@[simp] theorem u8q22 : ((b.toNat : Int) = 22) = (b = 22) := u8eq b 22 (by decide)
@[simp] theorem u8q23 : ((b.toNat : Int) = 23) = (b = 23) := u8eq b 23 (by decide)
@[simp] theorem u8q24 : ((b.toNat : Int) = 24) = (b = 24) := u8eq b 24 (by decide)
@[simp] theorem u8q25 : ((b.toNat : Int) = 25) = (b = 25) := u8eq b 25 (by decide)
@[simp] theorem u8q26 : ((b.toNat : Int) = 26) = (b = 26) := u8eq b 26 (by decide)
@[simp] theorem u8q27 : ((b.toNat : Int) = 27) = (b = 27) := u8eq b 27 (by decide)
@[simp] theorem u8q28 : ((b.toNat : Int) = 28) = (b = 28) := u8eq b 28 (by decide)
@[simp] theorem u8q29 : ((b.toNat : Int) = 29) = (b = 29) := u8eq b 29 (by decide)
@[simp] theorem u8q30 : ((b.toNat : Int) = 30) = (b = 30) := u8eq b 30 (by decide)
@[simp] theorem u8q31 : ((b.toNat : Int) = 31) = (b = 31) := u8eq b 31 (by decide)
@[simp] theorem u8q32 : ((b.toNat : Int) = 32) = (b = 32) := u8eq b 32 (by decide)
@[simp] theorem u8q33 : ((b.toNat : Int) = 33) = (b = 33) := u8eq b 33 (by decide)
@[simp] theorem u8q34 : ((b.toNat : Int) = 34) = (b = 34) := u8eq b 34 (by decide)
@[simp] theorem u8q35 : ((b.toNat : Int) = 35) = (b = 35) := u8eq b 35 (by decide)
@[simp] theorem u8q36 : ((b.toNat : Int) = 36) = (b = 36) := u8eq b 36 (by decide)
@[simp] theorem u8q37 : ((b.toNat : Int) = 37) = (b = 37) := u8eq b 37 (by decide)
@[simp] theorem u8q38 : ((b.toNat : Int) = 38) = (b = 38) := u8eq b 38 (by decide)
@[simp] theorem u8q39 : ((b.toNat : Int) = 39) = (b = 39) := u8eq b 39 (by decide)
@[simp] theorem u8q40 : ((b.toNat : Int) = 40) = (b = 40) := u8eq b 40 (by decide)
@[simp] theorem u8q41 : ((b.toNat : Int) = 41) = (b = 41) := u8eq b 41 (by decide)
@[simp] theorem u8q42 : ((b.toNat : Int) = 42) = (b = 42) := u8eq b 42 (by decide)
@[simp] theorem u8q43 : ((b.toNat : Int) = 43) = (b = 43) := u8eq b 43 (by decide)
@[simp] theorem u8q44 : ((b.toNat : Int) = 44) = (b = 44) := u8eq b 44 (by decide)
@[simp] theorem u8q45 : ((b.toNat : Int) = 45) = (b = 45) := u8eq b 45 (by decide)
@[simp] theorem u8q46 : ((b.toNat : Int) = 46) = (b = 46) := u8eq b 46 (by decide)
@[simp] theorem u8q47 : ((b.toNat : Int) = 47) = (b = 47) := u8eq b 47 (by decide)
@[simp] theorem u8q48 : ((b.toNat : Int) = 48) = (b = 48) := u8eq b 48 (by decide)
@[simp] theorem u8q49 : ((b.toNat : Int) = 49) = (b = 49) := u8eq b 49 (by decide)
@[simp] theorem u8q50 : ((b.toNat : Int) = 50) = (b = 50) := u8eq b 50 (by decide)
@[simp] theorem u8q51 : ((b.toNat : Int) = 51) = (b = 51) := u8eq b 51 (by decide)
@[simp] theorem u8q52 : ((b.toNat : Int) = 52) = (b = 52) := u8eq b 52 (by decide)
@[simp] theorem u8q53 : ((b.toNat : Int) = 53) = (b = 53) := u8eq b 53 (by decide)
@[simp] theorem u8q54 : ((b.toNat : Int) = 54) = (b = 54) := u8eq b 54 (by decide)
@[simp] theorem u8q55 : ((b.toNat : Int) = 55) = (b = 55) := u8eq b 55 (by decide)
@[simp] theorem u8q56 : ((b.toNat : Int) = 56) = (b = 56) := u8eq b 56 (by decide)
@[simp] theorem u8q57 : ((b.toNat : Int) = 57) = (b = 57) := u8eq b 57 (by decide)
@[simp] theorem u8q58 : ((b.toNat : Int) = 58) = (b = 58) := u8eq b 58 (by decide)
@[simp] theorem u8q59 : ((b.toNat : Int) = 59) = (b = 59) := u8eq b 59 (by decide)
@[simp] theorem u8q60 : ((b.toNat : Int) = 60) = (b = 60) := u8eq b 60 (by decide)
@[simp] theorem u8q61 : ((b.toNat : Int) = 61) = (b = 61) := u8eq b 61 (by decide)
@[simp] theorem u8q62 : ((b.toNat : Int) = 62) = (b = 62) := u8eq b 62 (by decide)
@[simp] theorem u8q63 : ((b.toNat : Int) = 63) = (b = 63) := u8eq b 63 (by decide)
@[simp] theorem u8q64 : ((b.toNat : Int) = 64) = (b = 64) := u8eq b 64 (by decide)
@[simp] theorem u8q65 : ((b.toNat : Int) = 65) = (b = 65) := u8eq b 65 (by decide)
@[simp] theorem u8q66 : ((b.toNat : Int) = 66) = (b = 66) := u8eq b 66 (by decide)
@[simp] theorem u8q67 : ((b.toNat : Int) = 67) = (b = 67) := u8eq b 67 (by decide)
@[simp] theorem u8q68 : ((b.toNat : Int) = 68) = (b = 68) := u8eq b 68 (by decide)
@[simp] theorem u8q69 : ((b.toNat : Int) = 69) = (b = 69) := u8eq b 69 (by decide)
@[simp] theorem u8q70 : ((b.toNat : Int) = 70) = (b = 70) := u8eq b 70 (by decide)
@[simp] theorem u8q71 : ((b.toNat : Int) = 71) = (b = 71) := u8eq b 71 (by decide)
@[simp] theorem u8q72 : ((b.toNat : Int) = 72) = (b = 72) := u8eq b 72 (by decide)
@[simp] theorem u8q73 : ((b.toNat : Int) = 73) = (b = 73) := u8eq b 73 (by decide)
@[simp] theorem u8q74 : ((b.toNat : Int) = 74) = (b = 74) := u8eq b 74 (by decide)
@[simp] theorem u8q75 : ((b.toNat : Int) = 75) = (b = 75) := u8eq b 75 (by decide)
@[simp] theorem u8q76 : ((b.toNat : Int) = 76) = (b = 76) := u8eq b 76 (by decide)
@[simp] theorem u8q77 : ((b.toNat : Int) = 77) = (b = 77) := u8eq b 77 (by decide)
@[simp] theorem u8q78 : ((b.toNat : Int) = 78) = (b = 78) := u8eq b 78 (by decide)
@[simp] theorem u8q79 : ((b.toNat : Int) = 79) = (b = 79) := u8eq b 79 (by decide)
@[simp] theorem u8q80 : ((b.toNat : Int) = 80) = (b = 80) := u8eq b 80 (by decide)
@[simp] theorem u8q81 : ((b.toNat : Int) = 81) = (b = 81) := u8eq b 81 (by decide)
@[simp] theorem u8q82 : ((b.toNat : Int) = 82) = (b = 82) := u8eq b 82 (by decide)
@[simp] theorem u8q83 : ((b.toNat : Int) = 83) = (b = 83) := u8eq b 83 (by decide)
@[simp] theorem u8q84 : ((b.toNat : Int) = 84) = (b = 84) := u8eq b 84 (by decide)
@[simp] theorem u8q85 : ((b.toNat : Int) = 85) = (b = 85) := u8eq b 85 (by decide)
@[simp] theorem u8q86 : ((b.toNat : Int) = 86) = (b = 86) := u8eq b 86 (by decide)
@[simp] theorem u8q87 : ((b.toNat : Int) = 87) = (b = 87) := u8eq b 87 (by decide)
@[simp] theorem u8q88 : ((b.toNat : Int) = 88) = (b = 88) := u8eq b 88 (by decide)
@[simp] theorem u8q89 : ((b.toNat : Int) = 89) = (b = 89) := u8eq b 89 (by decide)
@[simp] theorem u8q90 : ((b.toNat : Int) = 90) = (b = 90) := u8eq b 90 (by decide)
@[simp] theorem u8q91 : ((b.toNat : Int) = 91) = (b = 91) := u8eq b 91 (by decide)
@[simp] theorem u8q92 : ((b.toNat : Int) = 92) = (b = 92) := u8eq b 92 (by decide)
@[simp] theorem u8q93 : ((b.toNat : Int) = 93) = (b = 93) := u8eq b 93 (by decide)
@[simp] theorem u8q94 : ((b.toNat : Int) = 94) = (b = 94) := u8eq b 94 (by decide)
@[simp] theorem u8q95 : ((b.toNat : Int) = 95) = (b = 95) := u8eq b 95 (by decide)
@[simp] theorem u8q96 : ((b.toNat : Int) = 96) = (b = 96) := u8eq b 96 (by decide)
@[simp] theorem u8q97 : ((b.toNat : Int) = 97) = (b = 97) := u8eq b 97 (by decide)
@[simp] theorem u8q98 : ((b.toNat : Int) = 98) = (b = 98) := u8eq b 98 (by decide)
@[simp] theorem u8q99 : ((b.toNat : Int) = 99) = (b = 99) := u8eq b 99 (by decide)
@[simp] theorem u8q100 : ((b.toNat : Int) = 100) = (b = 100) := u8eq b 100 (by decide)
@[simp] theorem u8q101 : ((b.toNat : Int) = 101) = (b = 101) := u8eq b 101 (by decide)
@[simp] theorem u8q102 : ((b.toNat : Int) = 102) = (b = 102) := u8eq b 102 (by decide)
@[simp] theorem u8q103 : ((b.toNat : Int) = 103) = (b = 103) := u8eq b 103 (by decide)
@[simp] theorem u8q104 : ((b.toNat : Int) = 104) = (b = 104) := u8eq b 104 (by decide)
@[simp] theorem u8q105 : ((b.toNat : Int) = 105) = (b = 105) := u8eq b 105 (by decide)
@[simp] theorem u8q106 : ((b.toNat : Int) = 106) = (b = 106) := u8eq b 106 (by decide)
@[simp] theorem u8q107 : ((b.toNat : Int) = 107) = (b = 107) := u8eq b 107 (by decide)
@[simp] theorem u8q108 : ((b.toNat : Int) = 108) = (b = 108) := u8eq b 108 (by decide)
@[simp] theorem u8q109 : ((b.toNat : Int) = 109) = (b = 109) := u8eq b 109 (by decide)
@[simp] theorem u8q110 : ((b.toNat : Int) = 110) = (b = 110) := u8eq b 110 (by decide)
@[simp] theorem u8q111 : ((b.toNat : Int) = 111) = (b = 111) := u8eq b 111 (by decide)
@[simp] theorem u8q112 : ((b.toNat : Int) = 112) = (b = 112) := u8eq b 112 (by decide)
@[simp] theorem u8q113 : ((b.toNat : Int) = 113) = (b = 113) := u8eq b 113 (by decide)
@[simp] theorem u8q114 : ((b.toNat : Int) = 114) = (b = 114) := u8eq b 114 (by decide)
@[simp] theorem u8q115 : ((b.toNat : Int) = 115) = (b = 115) := u8eq b 115 (by decide)
@[simp] theorem u8q116 : ((b.toNat : Int) = 116) = (b = 116) := u8eq b 116 (by decide)
@[simp] theorem u8q117 : ((b.toNat : Int) = 117) = (b = 117) := u8eq b 117 (by decide)
@[simp] theorem u8q118 : ((b.toNat : Int) = 118) = (b = 118) := u8eq b 118 (by decide)
@[simp] theorem u8q119 : ((b.toNat : Int) = 119) = (b = 119) := u8eq b 119 (by decide)
@[simp] theorem u8q120 : ((b.toNat : Int) = 120) = (b = 120) := u8eq b 120 (by decide)
@[simp] theorem u8q121 : ((b.toNat : Int) = 121) = (b = 121) := u8eq b 121 (by decide)
@[simp] theorem u8q122 : ((b.toNat : Int) = 122) = (b = 122) := u8eq b 122 (by decide)
@[simp] theorem u8q123 : ((b.toNat : Int) = 123) = (b = 123) := u8eq b 123 (by decide)
@[simp] theorem u8q124 : ((b.toNat : Int) = 124) = (b = 124) := u8eq b 124 (by decide)
@[simp] theorem u8q125 : ((b.toNat : Int) = 125) = (b = 125) := u8eq b 125 (by decide)
@[simp] theorem u8q126 : ((b.toNat : Int) = 126) = (b = 126) := u8eq b 126 (by decide)
@[simp] theorem u8q127 : ((b.toNat : Int) = 127) = (b = 127) := u8eq b 127 (by decide)
@[simp] theorem u8q128 : ((b.toNat : Int) = 128) = (b = 128) := u8eq b 128 (by decide)
@[simp] theorem u8q129 : ((b.toNat : Int) = 129) = (b = 129) := u8eq b 129 (by decide)
@[simp] theorem u8q130 : ((b.toNat : Int) = 130) = (b = 130) := u8eq b 130 (by decide)
@[simp] theorem u8q131 : ((b.toNat : Int) = 131) = (b = 131) := u8eq b 131 (by decide)
@[simp] theorem u8q132 : ((b.toNat : Int) = 132) = (b = 132) := u8eq b 132 (by decide)
@[simp] theorem u8q133 : ((b.toNat : Int) = 133) = (b = 133) := u8eq b 133 (by decide)
@[simp] theorem u8q134 : ((b.toNat : Int) = 134) = (b = 134) := u8eq b 134 (by decide)
@[simp] theorem u8q135 : ((b.toNat : Int) = 135) = (b = 135) := u8eq b 135 (by decide)
@[simp] theorem u8q136 : ((b.toNat : Int) = 136) = (b = 136) := u8eq b 136 (by decide)
@[simp] theorem u8q137 : ((b.toNat : Int) = 137) = (b = 137) := u8eq b 137 (by decide)
@[simp] theorem u8q138 : ((b.toNat : Int) = 138) = (b = 138) := u8eq b 138 (by decide)
@[simp] theorem u8q139 : ((b.toNat : Int) = 139) = (b = 139) := u8eq b 139 (by decide)
@[simp] theorem u8q140 : ((b.toNat : Int) = 140) = (b = 140) := u8eq b 140 (by decide)
@[simp] theorem u8q141 : ((b.toNat : Int) = 141) = (b = 141) := u8eq b 141 (by decide)
@[simp] theorem u8q142 : ((b.toNat : Int) = 142) = (b = 142) := u8eq b 142 (by decide)
@[simp] theorem u8q143 : ((b.toNat : Int) = 143) = (b = 143) := u8eq b 143 (by decide)
@[simp] theorem u8q144 : ((b.toNat : Int) = 144) = (b = 144) := u8eq b 144 (by decide)
@[simp] theorem u8q145 : ((b.toNat : Int) = 145) = (b = 145) := u8eq b 145 (by decide)
@[simp] theorem u8q146 : ((b.toNat : Int) = 146) = (b = 146) := u8eq b 146 (by decide)
@[simp] theorem u8q147 : ((b.toNat : Int) = 147) = (b = 147) := u8eq b 147 (by decide)
@[simp] theorem u8q148 : ((b.toNat : Int) = 148) = (b = 148) := u8eq b 148 (by decide)
@[simp] theorem u8q149 : ((b.toNat : Int) = 149) = (b = 149) := u8eq b 149 (by decide)
@[simp] theorem u8q150 : ((b.toNat : Int) = 150) = (b = 150) := u8eq b 150 (by decide)
@[simp] theorem u8q151 : ((b.toNat : Int) = 151) = (b = 151) := u8eq b 151 (by decide)
@[simp] theorem u8q152 : ((b.toNat : Int) = 152) = (b = 152) := u8eq b 152 (by decide)
@[simp] theorem u8q153 : ((b.toNat : Int) = 153) = (b = 153) := u8eq b 153 (by decide)
@[simp] theorem u8q154 : ((b.toNat : Int) = 154) = (b = 154) := u8eq b 154 (by decide)
@[simp] theorem u8q155 : ((b.toNat : Int) = 155) = (b = 155) := u8eq b 155 (by decide)
@[simp] theorem u8q156 : ((b.toNat : Int) = 156) = (b = 156) := u8eq b 156 (by decide)
@[simp] theorem u8q157 : ((b.toNat : Int) = 157) = (b = 157) := u8eq b 157 (by decide)
@[simp] theorem u8q158 : ((b.toNat : Int) = 158) = (b = 158) := u8eq b 158 (by decide)
@[simp] theorem u8q159 : ((b.toNat : Int) = 159) = (b = 159) := u8eq b 159 (by decide)
@[simp] theorem u8q160 : ((b.toNat : Int) = 160) = (b = 160) := u8eq b 160 (by decide)
@[simp] theorem u8q161 : ((b.toNat : Int) = 161) = (b = 161) := u8eq b 161 (by decide)
@[simp] theorem u8q162 : ((b.toNat : Int) = 162) = (b = 162) := u8eq b 162 (by decide)
@[simp] theorem u8q163 : ((b.toNat : Int) = 163) = (b = 163) := u8eq b 163 (by decide)
@[simp] theorem u8q164 : ((b.toNat : Int) = 164) = (b = 164) := u8eq b 164 (by decide)
@[simp] theorem u8q165 : ((b.toNat : Int) = 165) = (b = 165) := u8eq b 165 (by decide)
@[simp] theorem u8q166 : ((b.toNat : Int) = 166) = (b = 166) := u8eq b 166 (by decide)
@[simp] theorem u8q167 : ((b.toNat : Int) = 167) = (b = 167) := u8eq b 167 (by decide)
@[simp] theorem u8q168 : ((b.toNat : Int) = 168) = (b = 168) := u8eq b 168 (by decide)
@[simp] theorem u8q169 : ((b.toNat : Int) = 169) = (b = 169) := u8eq b 169 (by decide)
@[simp] theorem u8q170 : ((b.toNat : Int) = 170) = (b = 170) := u8eq b 170 (by decide)
@[simp] theorem u8q171 : ((b.toNat : Int) = 171) = (b = 171) := u8eq b 171 (by decide)
@[simp] theorem u8q172 : ((b.toNat : Int) = 172) = (b = 172) := u8eq b 172 (by decide)
@[simp] theorem u8q173 : ((b.toNat : Int) = 173) = (b = 173) := u8eq b 173 (by decide)
@[simp] theorem u8q174 : ((b.toNat : Int) = 174) = (b = 174) := u8eq b 174 (by decide)
@[simp] theorem u8q175 : ((b.toNat : Int) = 175) = (b = 175) := u8eq b 175 (by decide)
@[simp] theorem u8q176 : ((b.toNat : Int) = 176) = (b = 176) := u8eq b 176 (by decide)
@[simp] theorem u8q177 : ((b.toNat : Int) = 177) = (b = 177) := u8eq b 177 (by decide)
@[simp] theorem u8q178 : ((b.toNat : Int) = 178) = (b = 178) := u8eq b 178 (by decide)
@[simp] theorem u8q179 : ((b.toNat : Int) = 179) = (b = 179) := u8eq b 179 (by decide)
@[simp] theorem u8q180 : ((b.toNat : Int) = 180) = (b = 180) := u8eq b 180 (by decide)
@[simp] theorem u8q181 : ((b.toNat : Int) = 181) = (b = 181) := u8eq b 181 (by decide)
@[simp] theorem u8q182 : ((b.toNat : Int) = 182) = (b = 182) := u8eq b 182 (by decide)
@[simp] theorem u8q183 : ((b.toNat : Int) = 183) = (b = 183) := u8eq b 183 (by decide)
@[simp] theorem u8q184 : ((b.toNat : Int) = 184) = (b = 184) := u8eq b 184 (by decide)
@[simp] theorem u8q185 : ((b.toNat : Int) = 185) = (b = 185) := u8eq b 185 (by decide)
@[simp] theorem u8q186 : ((b.toNat : Int) = 186) = (b = 186) := u8eq b 186 (by decide)
@[simp] theorem u8q187 : ((b.toNat : Int) = 187) = (b = 187) := u8eq b 187 (by decide)
@[simp] theorem u8q188 : ((b.toNat : Int) = 188) = (b = 188) := u8eq b 188 (by decide)
@[simp] theorem u8q189 : ((b.toNat : Int) = 189) = (b = 189) := u8eq b 189 (by decide)
@[simp] theorem u8q190 : ((b.toNat : Int) = 190) = (b = 190) := u8eq b 190 (by decide)
@[simp] theorem u8q191 : ((b.toNat : Int) = 191) = (b = 191) := u8eq b 191 (by decide)
@[simp] theorem u8q192 : ((b.toNat : Int) = 192) = (b = 192) := u8eq b 192 (by decide)
@[simp] theorem u8q193 : ((b.toNat : Int) = 193) = (b = 193) := u8eq b 193 (by decide)
@[simp] theorem u8q194 : ((b.toNat : Int) = 194) = (b = 194) := u8eq b 194 (by decide)
@[simp] theorem u8q195 : ((b.toNat : Int) = 195) = (b = 195) := u8eq b 195 (by decide)
@[simp] theorem u8q196 : ((b.toNat : Int) = 196) = (b = 196) := u8eq b 196 (by decide)
@[simp] theorem u8q197 : ((b.toNat : Int) = 197) = (b = 197) := u8eq b 197 (by decide)
@[simp] theorem u8q198 : ((b.toNat : Int) = 198) = (b = 198) := u8eq b 198 (by decide)
@[simp] theorem u8q199 : ((b.toNat : Int) = 199) = (b = 199) := u8eq b 199 (by decide)
@[simp] theorem u8q200 : ((b.toNat : Int) = 200) = (b = 200) := u8eq b 200 (by decide)
@[simp] theorem u8q201 : ((b.toNat : Int) = 201) = (b = 201) := u8eq b 201 (by decide)
@[simp] theorem u8q202 : ((b.toNat : Int) = 202) = (b = 202) := u8eq b 202 (by decide)
@[simp] theorem u8q203 : ((b.toNat : Int) = 203) = (b = 203) := u8eq b 203 (by decide)
@[simp] theorem u8q204 : ((b.toNat : Int) = 204) = (b = 204) := u8eq b 204 (by decide)
@[simp] theorem u8q205 : ((b.toNat : Int) = 205) = (b = 205) := u8eq b 205 (by decide)
@[simp] theorem u8q206 : ((b.toNat : Int) = 206) = (b = 206) := u8eq b 206 (by decide)
@[simp] theorem u8q207 : ((b.toNat : Int) = 207) = (b = 207) := u8eq b 207 (by decide)
@[simp] theorem u8q208 : ((b.toNat : Int) = 208) = (b = 208) := u8eq b 208 (by decide)
@[simp] theorem u8q209 : ((b.toNat : Int) = 209) = (b = 209) := u8eq b 209 (by decide)
@[simp] theorem u8q210 : ((b.toNat : Int) = 210) = (b = 210) := u8eq b 210 (by decide)
@[simp] theorem u8q211 : ((b.toNat : Int) = 211) = (b = 211) := u8eq b 211 (by decide)
@[simp] theorem u8q212 : ((b.toNat : Int) = 212) = (b = 212) := u8eq b 212 (by decide)
@[simp] theorem u8q213 : ((b.toNat : Int) = 213) = (b = 213) := u8eq b 213 (by decide)
@[simp] theorem u8q214 : ((b.toNat : Int) = 214) = (b = 214) := u8eq b 214 (by decide)
@[simp] theorem u8q215 : ((b.toNat : Int) = 215) = (b = 215) := u8eq b 215 (by decide)
@[simp] theorem u8q216 : ((b.toNat : Int) = 216) = (b = 216) := u8eq b 216 (by decide)
@[simp] theorem u8q217 : ((b.toNat : Int) = 217) = (b = 217) := u8eq b 217 (by decide)
@[simp] theorem u8q218 : ((b.toNat : Int) = 218) = (b = 218) := u8eq b 218 (by decide)
@[simp] theorem u8q219 : ((b.toNat : Int) = 219) = (b = 219) := u8eq b 219 (by decide)
@[simp] theorem u8q220 : ((b.toNat : Int) = 220) = (b = 220) := u8eq b 220 (by decide)
@[simp] theorem u8q221 : ((b.toNat : Int) = 221) = (b = 221) := u8eq b 221 (by decide)
@[simp] theorem u8q222 : ((b.toNat : Int) = 222) = (b = 222) := u8eq b 222 (by decide)
@[simp] theorem u8q223 : ((b.toNat : Int) = 223) = (b = 223) := u8eq b 223 (by decide)
@[simp] theorem u8q224 : ((b.toNat : Int) = 224) = (b = 224) := u8eq b 224 (by decide)
@[simp] theorem u8q225 : ((b.toNat : Int) = 225) = (b = 225) := u8eq b 225 (by decide)
@[simp] theorem u8q226 : ((b.toNat : Int) = 226) = (b = 226) := u8eq b 226 (by decide)
@[simp] theorem u8q227 : ((b.toNat : Int) = 227) = (b = 227) := u8eq b 227 (by decide)
@[simp] theorem u8q228 : ((b.toNat : Int) = 228) = (b = 228) := u8eq b 228 (by decide)
@[simp] theorem u8q229 : ((b.toNat : Int) = 229) = (b = 229) := u8eq b 229 (by decide)
@[simp] theorem u8q230 : ((b.toNat : Int) = 230) = (b = 230) := u8eq b 230 (by decide)
@[simp] theorem u8q231 : ((b.toNat : Int) = 231) = (b = 231) := u8eq b 231 (by decide)
@[simp] theorem u8q232 : ((b.toNat : Int) = 232) = (b = 232) := u8eq b 232 (by decide)
@[simp] theorem u8q233 : ((b.toNat : Int) = 233) = (b = 233) := u8eq b 233 (by decide)
@[simp] theorem u8q234 : ((b.toNat : Int) = 234) = (b = 234) := u8eq b 234 (by decide)
@[simp] theorem u8q235 : ((b.toNat : Int) = 235) = (b = 235) := u8eq b 235 (by decide)
@[simp] theorem u8q236 : ((b.toNat : Int) = 236) = (b = 236) := u8eq b 236 (by decide)
@[simp] theorem u8q237 : ((b.toNat : Int) = 237) = (b = 237) := u8eq b 237 (by decide)
@[simp] theorem u8q238 : ((b.toNat : Int) = 238) = (b = 238) := u8eq b 238 (by decide)
@[simp] theorem u8q239 : ((b.toNat : Int) = 239) = (b = 239) := u8eq b 239 (by decide)
@[simp] theorem u8q240 : ((b.toNat : Int) = 240) = (b = 240) := u8eq b 240 (by decide)
@[simp] theorem u8q241 : ((b.toNat : Int) = 241) = (b = 241) := u8eq b 241 (by decide)
@[simp] theorem u8q242 : ((b.toNat : Int) = 242) = (b = 242) := u8eq b 242 (by decide)
@[simp] theorem u8q243 : ((b.toNat : Int) = 243) = (b = 243) := u8eq b 243 (by decide)
@[simp] theorem u8q244 : ((b.toNat : Int) = 244) = (b = 244) := u8eq b 244 (by decide)
@[simp] theorem u8q245 : ((b.toNat : Int) = 245) = (b = 245) := u8eq b 245 (by decide)
@[simp] theorem u8q246 : ((b.toNat : Int) = 246) = (b = 246) := u8eq b 246 (by decide)
@[simp] theorem u8q247 : ((b.toNat : Int) = 247) = (b = 247) := u8eq b 247 (by decide)
@[simp] theorem u8q248 : ((b.toNat : Int) = 248) = (b = 248) := u8eq b 248 (by decide)
@[simp] theorem u8q249 : ((b.toNat : Int) = 249) = (b = 249) := u8eq b 249 (by decide)
@[simp] theorem u8q250 : ((b.toNat : Int) = 250) = (b = 250) := u8eq b 250 (by decide)
@[simp] theorem u8q251 : ((b.toNat : Int) = 251) = (b = 251) := u8eq b 251 (by decide)
@[simp] theorem u8q252 : ((b.toNat : Int) = 252) = (b = 252) := u8eq b 252 (by decide)
@[simp] theorem u8q253 : ((b.toNat : Int) = 253) = (b = 253) := u8eq b 253 (by decide)
@[simp] theorem u8q254 : ((b.toNat : Int) = 254) = (b = 254) := u8eq b 254 (by decide)
@[simp] theorem u8q255 : ((b.toNat : Int) = 255) = (b = 255) := u8eq b 255 (by decide)
@[simp] theorem u8lt : ((b.toNat : Int) < 256) = True := by simp; have := b.toNat_lt; omega
end
end Go.Lg
