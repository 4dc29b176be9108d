/-
  A logical run of Go code: rules for regions whose order is open.
-/
import Derived.Test.YtgnefbngkhjfcaaDoorLgRow
set_option linter.unusedSimpArgs false
set_option linter.unusedVariables false
namespace Go.Lg
open Go.Tg Go.RowKit
section
variable {P : Program} {fr : Fr} {H H0 : LH} {T : Callee} {L : Loud} {t s : TypeId} {x y i c : Operand}
@[simp ↓] theorem lmixx_move : lmixx P T (.move x) fr H0 H = lopx P T (.move x) fr H := rfl
@[simp ↓] theorem loud_move : loudOp L (.move x) = false := rfl
@[simp ↓] theorem lmixx_assign : lmixx P T (.assign x) fr H0 H = lopx P T (.assign x) fr H := rfl
@[simp ↓] theorem loud_assign : loudOp L (.assign x) = false := rfl
@[simp ↓] theorem lmixx_pick : lmixx P T (.pick c x y) fr H0 H = lopx P T (.pick c x y) fr H := rfl
@[simp ↓] theorem loud_pick : loudOp L (.pick c x y) = false := rfl
@[simp ↓] theorem lmixx_box : lmixx P T (.box t x) fr H0 H = lopx P T (.box t x) fr H := rfl
@[simp ↓] theorem loud_box : loudOp L (.box t x) = false := rfl
@[simp ↓] theorem lmixx_alloc : lmixx P T (.alloc t) fr H0 H = lopx P T (.alloc t) fr H := rfl
@[simp ↓] theorem loud_alloc : loudOp L (.alloc t) = false := rfl
@[simp ↓] theorem lmixx_load : lmixx P T (.load t x) fr H0 H = lopx P T (.load t x) fr H := rfl
@[simp ↓] theorem loud_load : loudOp L (.load t x) = false := rfl
@[simp ↓] theorem lmixx_nilCheck : lmixx P T (.nilCheck x) fr H0 H = lopx P T (.nilCheck x) fr H := rfl
@[simp ↓] theorem loud_nilCheck : loudOp L (.nilCheck x) = false := rfl
@[simp ↓] theorem lmixx_fieldAddr {f : Nat} : lmixx P T (.fieldAddr t x f) fr H0 H = lopx P T (.fieldAddr t x f) fr H := rfl
@[simp ↓] theorem loud_fieldAddr {f : Nat} : loudOp L (.fieldAddr t x f) = false := rfl
@[simp ↓] theorem lmixx_indexAddr : lmixx P T (.indexAddr t x i) fr H0 H = lopx P T (.indexAddr t x i) fr H := rfl
@[simp ↓] theorem loud_indexAddr : loudOp L (.indexAddr t x i) = false := rfl
@[simp ↓] theorem lmixx_slice {lo hi mx : Option Operand} : lmixx P T (.slice t x lo hi mx) fr H0 H = lopx P T (.slice t x lo hi mx) fr H := rfl
@[simp ↓] theorem loud_slice {lo hi mx : Option Operand} : loudOp L (.slice t x lo hi mx) = false := rfl
@[simp ↓] theorem lmixx_field {f : Nat} : lmixx P T (.field t x f) fr H0 H = lopx P T (.field t x f) fr H := rfl
@[simp ↓] theorem loud_field {f : Nat} : loudOp L (.field t x f) = false := rfl
@[simp ↓] theorem lmixx_extract {f : Nat} : lmixx P T (.extract x f) fr H0 H = lopx P T (.extract x f) fr H := rfl
@[simp ↓] theorem loud_extract {f : Nat} : loudOp L (.extract x f) = false := rfl
@[simp ↓] theorem lmixx_build {ps : Array (Nat × Operand)} : lmixx P T (.build t ps) fr H0 H = lopx P T (.build t ps) fr H := rfl
@[simp ↓] theorem loud_build {ps : Array (Nat × Operand)} : loudOp L (.build t ps) = false := rfl
@[simp ↓] theorem lmixx_buildSlice {f : Nat} {ps : Array (Nat × Operand)} : lmixx P T (.buildSlice t f ps) fr H0 H = lopx P T (.buildSlice t f ps) fr H := rfl
@[simp ↓] theorem loud_buildSlice {f : Nat} {ps : Array (Nat × Operand)} : loudOp L (.buildSlice t f ps) = false := rfl
@[simp ↓] theorem lmixx_binOp {op : BinOp} : lmixx P T (.binOp op t x y s) fr H0 H = lopx P T (.binOp op t x y s) fr H := rfl
@[simp ↓] theorem loud_binOp {op : BinOp} : loudOp L (.binOp op t x y s) = false := rfl
@[simp ↓] theorem lmixx_unOp {uop : UnOp} : lmixx P T (.unOp uop t x) fr H0 H = lopx P T (.unOp uop t x) fr H := rfl
@[simp ↓] theorem loud_unOp {uop : UnOp} : loudOp L (.unOp uop t x) = false := rfl
@[simp ↓] theorem lmixx_convert : lmixx P T (.convert s t x) fr H0 H = lopx P T (.convert s t x) fr H := rfl
@[simp ↓] theorem loud_convert : loudOp L (.convert s t x) = false := rfl
@[simp ↓] theorem lmixx_index : lmixx P T (.index t x i) fr H0 H = lopx P T (.index t x i) fr H := rfl
@[simp ↓] theorem loud_index : loudOp L (.index t x i) = false := rfl
@[simp ↓] theorem lmixx_makeFunc {g : Fn} {c1 c2 : Array Operand} : lmixx P T (.makeFunc g c1 c2) fr H0 H = lopx P T (.makeFunc g c1 c2) fr H := rfl
@[simp ↓] theorem loud_makeFunc {g : Fn} {c1 c2 : Array Operand} : loudOp L (.makeFunc g c1 c2) = false := rfl
@[simp ↓] theorem loud_store : loudOp L (.store t x y) = true := rfl
@[simp ↓] theorem loud_append {args : Array Operand} {ts : Array TypeId} : loudOp L (.call ⟨.builtin .append, args, ts⟩) = true := rfl
@[simp ↓] theorem loud_len {args : Array Operand} {ts : Array TypeId} : loudOp L (.call ⟨.builtin .len, args, ts⟩) = false := rfl
@[simp ↓] theorem loud_min {args : Array Operand} {ts : Array TypeId} : loudOp L (.call ⟨.builtin .min, args, ts⟩) = false := rfl
@[simp ↓] theorem loud_max {args : Array Operand} {ts : Array TypeId} : loudOp L (.call ⟨.builtin .max, args, ts⟩) = false := rfl
@[simp ↓] theorem loud_call {g : FuncId} {args : Array Operand} {ts : Array TypeId} : loudOp L (.call ⟨.value (.func g), args, ts⟩) = L g := rfl
@[simp ↓] theorem loud_callt {g : Tmp} {args : Array Operand} {ts : Array TypeId} : loudOp L (.call ⟨.value (.tmp g), args, ts⟩) = false := rfl
def sameH (x : Option (Value × LH)) (H : LH) : Option (Value × LH) := x.map fun r => (r.1, H)
@[simp] theorem sameH_some {v : Value} {H1 : LH} : sameH (some (v, H1)) H = some (v, H) := rfl
@[simp] theorem sameH_none : sameH none H = none := rfl
@[simp ↓] theorem lmixx_len {args : List Operand} {ts : List TypeId} : lmixx P T (.call ⟨.builtin .len, ⟨args⟩, ⟨ts⟩⟩) fr H0 H = sameH (lbuiltin P .len ts (args.map (ev fr)) H) H := rfl
@[simp ↓] theorem lmixx_min {args : List Operand} {ts : List TypeId} : lmixx P T (.call ⟨.builtin .min, ⟨args⟩, ⟨ts⟩⟩) fr H0 H = sameH (lbuiltin P .min ts (args.map (ev fr)) H) H := rfl
@[simp ↓] theorem lmixx_max {args : List Operand} {ts : List TypeId} : lmixx P T (.call ⟨.builtin .max, ⟨args⟩, ⟨ts⟩⟩) fr H0 H = sameH (lbuiltin P .max ts (args.map (ev fr)) H) H := rfl
/-- a call in an open order: of numbers and texts, or ahead of all new blocks -/
def mcall (b : Bool) (x : Option (Value × LH)) (H : LH) : Option (Value × LH) := match b, x with | true, some (v, _) => if flatB v then some (v, H) else none | _, _ => none
@[simp] theorem mcall_some {v : Value} {H1 : LH} (h : flatB v = true) : mcall true (some (v, H1)) H = some (v, H) := by simp [mcall, h]
@[simp] theorem mcall_none {b : Bool} : mcall b none H = none := by cases b <;> rfl
@[congr] theorem mcall_congr {b b' : Bool} {x x' : Option (Value × LH)} (h1 : b = b') (h2 : x = x') : mcall b x H = mcall b' x' H := by rw [h1, h2]
def flatL : List Value → Bool
  | [] => true
  | v :: l => flatB v && flatL l
@[simp] theorem flatL_nil : flatL [] = true := rfl
@[simp] theorem flatL_cons {v : Value} {l : List Value} : flatL (v :: l) = (flatB v && flatL l) := rfl
theorem flatL_eq : ∀ l : List Value, l.all flatB = flatL l
  | [] => rfl
  | v :: l => by simp only [List.all_cons, flatL, flatL_eq l]
def lowH (H0 H : LH) (f : Value) (args : List Value) : Bool := H.n == H0.n || (flatB f && flatL args)
@[simp] theorem lowH_same {f : Value} {args : List Value} : lowH H H f args = true := by simp [lowH]
@[simp] theorem lowH_flat {f : Value} {args : List Value} (h1 : flatB f = true) (h2 : flatL args = true) : lowH H0 H f args = true := by simp [lowH, h1, h2]
@[simp] theorem flat_fn {g : FuncId} : flatB (.func (.func g) #[] #[]) = true := rfl
@[simp ↓] theorem lmixx_call {f : Operand} {args : List Operand} {ts : Array TypeId} : lmixx P T (.call ⟨.value f, ⟨args⟩, ts⟩) fr H0 H = mcall (lowH H0 H (ev fr f) (args.map (ev fr))) (lcallee P T (ev fr f) (args.map (ev fr)) H0.ro) H := by
  show (if (H.n == H0.n || (flatB (ev fr f) && (args.map (ev fr)).all flatB)) = true then (match lcallee P T (ev fr f) (args.map (ev fr)) H0.ro with | some (v, _) => if flatB v then some v else none | none => none).map (fun v => (v, H)) else none) = _
  rw [flatL_eq]
  unfold lowH mcall
  cases (H.n == H0.n || (flatB (ev fr f) && flatL (args.map (ev fr)))) with
  | false => rfl
  | true =>
    rw [if_pos rfl]
    cases lcallee P T (ev fr f) (args.map (ev fr)) H0.ro with
    | none => rfl
    | some x =>
      obtain ⟨v, H1⟩ := x
      simp only
      split <;> rfl
end
end Go.Lg
