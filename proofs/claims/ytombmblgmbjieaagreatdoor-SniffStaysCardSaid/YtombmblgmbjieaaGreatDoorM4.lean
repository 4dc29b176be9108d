/-
  Texts joined, part 4: UnCat, LgSimp, LgEv, UnRep, UnWith.
-/
import Derived.Test.YtombmblgmbjieaaGreatDoorM3
import Derived.Test.YtombmblgmbjieaaGreatDoorChecked
import Derived.WalkKit
import Derived.Defers
import Derived.Recover
import Derived.WalkLawsBesides
import Derived.Test.YtombmblgmbjieaaGreatDoorM1
import Derived.Laws.IdiomCopy
import Derived.Laws.Externs
import Derived.Lib.SlBuf
import Derived.Lib.MakeNoZero
import Derived.Deep.LoopGhost
import Derived.Deep.Draws
import Derived.Below
import Derived.Deep.RegionLaw
import Derived.Lib.AppendStr
import Derived.Lib.ConvBytes
import Derived.Laws.BytesString
import Derived.Deep.OwnRows
import Derived.RangeFuncRecord
/-
  trap.catch and trap.throw, by the walk.
-/
set_option linter.unusedSimpArgs false
set_option linter.unusedVariables false
set_option maxRecDepth 1000000
namespace Go.Proofs.YtombmblgmbjieaaGreatDoor
open Go.RowKit Go.Tg Go.Lg
theorem throw_w (x y : Int) (w : World) : Calls Tryz.prog 311 #[.int .i64 x, .int .i64 y] w fun e w' => e = .panicked [pe 166 (.agg #[.int .i64 x, .int .i64 (if y = 0 then 1 else y)])] ∧ w' = w := by
  by_cases hy : y = 0
  · subst hy
    go_enter Tryz.func311, Tryz.ntmps311
    go_wp2
    exact ⟨rfl, rfl, rfl⟩
  · have hb : (y == 0) = false := by simp [hy]
    rw [if_neg hy]
    go_enter Tryz.func311, Tryz.ntmps311
    go_wp2
    exact ⟨rfl, rfl, rfl⟩
theorem told_w (x y : Int) (w : World) : Calls Tryz.prog 288 #[.iface 166 (.agg #[.int .i64 x, .int .i64 y])] w fun e w' => e = .returned (.agg #[.int .i64 x, .int .i64 y]) ∧ Change (fun _ => False) w w' := by
  have tF := Tryz.underlying166
  have hta : ∀ w xT, (Instr.typeAssert (.iface 166 (.agg #[.int .i64 x, .int .i64 y])) xT 166 true).run Tryz.prog w = .ok (.tuple #[.agg #[.int .i64 x, .int .i64 y], .bool true]) w := fun w xT => by
    simp [Instr.typeAssert, run_underlying tF, go_sem, Result.andThen]
  go_enter Tryz.func288, Tryz.ntmps288
  go_wp2
  refine bodyPost_ret (v := .agg #[.int .i64 x, .int .i64 y]) ?_ rfl ?_
  · simp [results, Tryz.results288, go_sem]
  · exact ⟨rfl, ((Change.refl _ w).alloc _).alloc _⟩
/-- the closure that recovers, where nothing is thrown -/
theorem catch1_idle (p q : Addr) (w : World) :
    CallsD Tryz.prog 287 #[.pointer (some p), .pointer (some q)] .returning w fun e u' w' => e = .returned (.tuple #[]) ∧ u' = .returning ∧ w' = w := by
  refine callsD_of_wpS Tryz.func287 rfl fun c₀ cs hu => ?_
  apply wpS_seq
  apply wpS_region
  simp [wpOpsS, go_sem, recoverD, hu, Tryz.ntmps287, Exit.thenS]
  apply wpS_seq
  apply wpS_region
  simp [wpOpsS, go_sem, Exit.thenS, Act.eval]
  refine wpS_cond (t := false) (by simp [Act.eval, Array.replicate]) ?_
  simp only [Bool.false_eq_true, if_false]
  refine wpS_of_wp (wp_skip ?_)
  cases c₀
  simp_all [bodyPostS, results, Tryz.results287]
/-- ... where something is thrown -/
theorem catch1_thrown (k : Nat) (a b c : Value) (x y : Int) (w : World) (h1 : w.heap[k]? = some (.cells #[a, b] 166 (0, 0))) (h2 : w.heap[k + 1]? = some (.cells #[c] 4 (0, 0))) :
    CallsD Tryz.prog 287 #[.pointer (some ⟨k, 0, none⟩), .pointer (some ⟨k + 1, 0, none⟩)] (.panicking [pe 166 (.agg #[.int .i64 x, .int .i64 y])]) w fun e u' w' => e = .returned (.tuple #[]) ∧ u' = .panicking [{ pe 166 (.agg #[.int .i64 x, .int .i64 y]) with recovered := true }] ∧
      ∃ w2, Change (fun _ => False) w w2 ∧ w' = ((w2.setCell ⟨k, 0, none⟩ (.int .i64 x)).setCell ⟨k, 1, none⟩ (.int .i64 y)).setCell ⟨k + 1, 0, none⟩ (.bool true) := by
  refine callsD_of_wpS Tryz.func287 rfl fun c₀ cs hu => ?_
  unfold pe at hu
  apply wpS_seq
  apply wpS_region
  simp [wpOpsS, go_sem, recoverD, hu, Tryz.ntmps287, Exit.thenS]
  apply wpS_seq
  apply wpS_region
  simp [wpOpsS, go_sem, Exit.thenS, Act.eval]
  refine wpS_cond (t := true) (by simp [Act.eval, Array.replicate]) ?_
  simp only [if_true]
  apply wpS_region
  simp [wpOpsS, go_sem, Act.eval]
  refine (told_w x y w).mono ?_
  rintro e w2 ⟨rfl, hw⟩
  have e1 : w2.heap[k]? = some (.cells #[a, b] 166 (0, 0)) := by rw [hw.block k (Array.getElem?_eq_some_iff.1 h1).1 (by simp)]; exact h1
  have e2 : w2.heap[k + 1]? = some (.cells #[c] 4 (0, 0)) := by rw [hw.block (k + 1) (Array.getElem?_eq_some_iff.1 h2).1 (by simp)]; exact h2
  have c1 : w2.cell? ⟨k, 0, none⟩ = some a := by simp [World.cell?, e1]
  have f1 : w2.frozen? ⟨k, 0, none⟩ = false := by simp [World.frozen?, e1]
  have c2 : (w2.setCell ⟨k, 0, none⟩ (.int .i64 x)).cell? ⟨k, 1, none⟩ = some b := by simp [World.cell?, World.setCell, Array.getElem?_modify, e1]
  have f2 : (w2.setCell ⟨k, 0, none⟩ (.int .i64 x)).frozen? ⟨k, 1, none⟩ = false := by simp [World.frozen?, World.setCell, Array.getElem?_modify, e1]
  have c3 : ((w2.setCell ⟨k, 0, none⟩ (.int .i64 x)).setCell ⟨k, 1, none⟩ (.int .i64 y)).cell? ⟨k + 1, 0, none⟩ = some c := by simp [World.cell?, World.setCell, Array.getElem?_modify, e2]
  have f3 : ((w2.setCell ⟨k, 0, none⟩ (.int .i64 x)).setCell ⟨k, 1, none⟩ (.int .i64 y)).frozen? ⟨k + 1, 0, none⟩ = false := by simp [World.frozen?, World.setCell, Array.getElem?_modify, e2]
  simp only [wpOpsS, c1, f1]
  simp [wpOpsS, go_sem, Act.eval, c1, f1, c2, f2, c3, f3, Result.andThen]
  cases c₀
  simp_all [bodyPostS, results, Tryz.results287, pe]
  exact ⟨w2, hw, rfl⟩
theorem cat_heap {w w2 : World} (h : Change (fun k => k < w.heap.size) ((w.alloc (.cells #[.int .i64 0, .int .i64 0] 166)).alloc (.cells #[.bool false] 4)) w2) :
    w2.heap[w.heap.size]? = some (.cells #[.int .i64 0, .int .i64 0] 166 (0, 0)) ∧ w2.heap[w.heap.size + 1]? = some (.cells #[.bool false] 4 (0, 0)) := by
  have s1 : (w.alloc (.cells #[.int .i64 0, .int .i64 0] 166)).heap.size = w.heap.size + 1 := World.size_alloc _ _
  have s2 := World.size_alloc (w.alloc (.cells #[.int .i64 0, .int .i64 0] 166)) (.cells #[.bool false] 4)
  constructor
  · rw [h.block _ (by omega) (by omega), heap_alloc_old _ _ (by omega)]
    exact World.alloc_heap_new w _
  · rw [h.block _ (by omega) (by omega)]
    have := World.alloc_heap_new (w.alloc (.cells #[.int .i64 0, .int .i64 0] 166)) (.cells #[.bool false] 4)
    rwa [s1] at this
theorem set3 {w2 : World} {k : Nat} {a b c x y z : Value} {t u : TypeId} (e1 : w2.heap[k]? = some (.cells #[a, b] t (0, 0))) (e2 : w2.heap[k + 1]? = some (.cells #[c] u (0, 0))) :
    w2.cell? ⟨k, 0, none⟩ = some a ∧ w2.frozen? ⟨k, 0, none⟩ = false ∧ (w2.setCell ⟨k, 0, none⟩ x).cell? ⟨k, 1, none⟩ = some b ∧ (w2.setCell ⟨k, 0, none⟩ x).frozen? ⟨k, 1, none⟩ = false ∧
    ((w2.setCell ⟨k, 0, none⟩ x).setCell ⟨k, 1, none⟩ y).cell? ⟨k + 1, 0, none⟩ = some c ∧ ((w2.setCell ⟨k, 0, none⟩ x).setCell ⟨k, 1, none⟩ y).frozen? ⟨k + 1, 0, none⟩ = false ∧
    (((w2.setCell ⟨k, 0, none⟩ x).setCell ⟨k, 1, none⟩ y).setCell ⟨k + 1, 0, none⟩ z).cell? ⟨k, 0, none⟩ = some x ∧ (((w2.setCell ⟨k, 0, none⟩ x).setCell ⟨k, 1, none⟩ y).setCell ⟨k + 1, 0, none⟩ z).cell? ⟨k, 1, none⟩ = some y ∧
    (((w2.setCell ⟨k, 0, none⟩ x).setCell ⟨k, 1, none⟩ y).setCell ⟨k + 1, 0, none⟩ z).cell? ⟨k + 1, 0, none⟩ = some z ∧ Change (fun j => j = k ∨ j = k + 1) w2 (((w2.setCell ⟨k, 0, none⟩ x).setCell ⟨k, 1, none⟩ y).setCell ⟨k + 1, 0, none⟩ z) := by
  refine ⟨?_, ?_, ?_, ?_, ?_, ?_, ?_, ?_, ?_, (((Change.refl _ w2).setCell (.inl (.inl rfl)) x).setCell (.inl (.inl rfl)) y).setCell (.inl (.inr rfl)) z⟩
  all_goals simp [World.cell?, World.frozen?, World.setCell, Array.getElem?_modify, e1, e2]
theorem cat_ok : CatOk Tryz.prog 166 263 := by
  refine ⟨⟨_, Tryz.func263, rfl, by decide⟩, fun g first caps w Rr he hcall hR => ?_⟩
  have hmf : ∀ (fn : Fn) (first cap : Array Value) (w : World), (Instr.makeFunc fn first cap).run Tryz.prog w = .ok (.func fn first cap) w := fun _ _ _ _ => rfl
  have hnil : ∀ w : World, (binOp BinOp.eql 1 (.func (.func g) first caps) .nilFunc).run Tryz.prog w = .ok (.bool false) w := fun w => by
    kernel_rfl
  go_enter_defers Tryz.func263, Tryz.ntmps263
  go_wp2_with (rw [enter_run he]; refine (hcall _ (((Change.refl _ w).alloc _).alloc _)).mono ?_; rintro e w2 hr; obtain ⟨hch, hcs⟩ := hR _ _ _ hr; obtain ⟨E1, E2⟩ := cat_heap hch; obtain ⟨c1, f1, c2, f2, c3, f3, -, -, -, -⟩ := set3 (x := .int .i64 0) (y := .int .i64 0) (z := .bool false) E1 E2; obtain ⟨v, rfl⟩ | ⟨x, y, rfl⟩ := hcs)
  · obtain ⟨-, -, -, -, -, -, d1, d2, d3, hc⟩ := set3 (x := .int .i64 0) (y := .int .i64 0) (z := .bool false) E1 E2
    refine leaves_cons (f := 287) (args := #[.pointer (some ⟨w.heap.size, 0, none⟩), .pointer (some ⟨w.heap.size + 1, 0, none⟩)]) (by simp) (by simp [go_sem]) ?_
    refine (catch1_idle _ _ _).mono ?_
    rintro e u' w'' ⟨rfl, rfl, rfl⟩
    simp [Leaves, settle, results, Tryz.results263, go_sem, d1, d2, d3]
    refine ⟨_, ((Change.refl _ w).alloc _).alloc _, _, _, hr, hc.mono (fun j _ hj => ?_), ⟨v, rfl⟩, rfl⟩
    simp only [World.size_alloc]
    omega
  · refine leaves_cons (f := 287) (args := #[.pointer (some ⟨w.heap.size, 0, none⟩), .pointer (some ⟨w.heap.size + 1, 0, none⟩)]) (by simp) (by simp [go_sem]) ?_
    refine (catch1_thrown _ _ _ _ x y w2 E1 E2).mono ?_
    rintro e u' w'' ⟨rfl, rfl, w3, hc3, rfl⟩
    have hlt1 := (Array.getElem?_eq_some_iff.1 E1).1
    have hlt2 := (Array.getElem?_eq_some_iff.1 E2).1
    obtain ⟨-, -, -, -, -, -, d1, d2, d3, hc⟩ := set3 (x := .int .i64 x) (y := .int .i64 y) (z := .bool true) (by rw [hc3.block _ hlt1 (by simp)]; exact E1) (by rw [hc3.block _ hlt2 (by simp)]; exact E2)
    simp [Leaves, settle, results, Tryz.results263, go_sem, d1, d2, d3, pe]
    refine ⟨_, ((Change.refl _ w).alloc _).alloc _, _, _, hr, (hc3.mono (fun _ _ h => h.elim)).trans (hc.mono (fun j _ hj => ?_)) (fun i hi => .inl hi), rfl⟩
    simp only [World.size_alloc]
    omega
end Go.Proofs.YtombmblgmbjieaaGreatDoor
/-
  A logical run of Go code: rules by which a run is reckoned.
-/
set_option linter.unusedSimpArgs false
set_option linter.unusedVariables false
namespace Go.Lg
open Go.Tg Go.RowKit

def Runs (P : Program) (E : Ext) (fn : Func) (k : List Item) (fr : Fr) (H : LH) (Q : Value × LH → Prop) : Prop := ∃ n r, run P E.loud (LC P E) fn n k fr H = some r ∧ Q r
def ROps (P : Program) (E : Ext) (fn : Func) (all : Array Oper) (os : List Oper) (k : List Item) (fr : Fr) (H : LH) (Q : Value × LH → Prop) : Prop := ∃ n r, (match lops P (LC P E) fn.ntmps all os fr H with | some (fr', H') => run P E.loud (LC P E) fn n k fr' H' | none => none) = some r ∧ Q r
def RMix (P : Program) (E : Ext) (fn : Func) (all : Array Oper) (H0 : LH) (os : List Oper) (k : List Item) (fr : Fr) (H : LH) (Q : Value × LH → Prop) : Prop := ∃ n r, (match lmix P E.loud (LC P E) fn.ntmps all H0 os fr H with | some (fr', H') => run P E.loud (LC P E) fn n k fr' H' | none => none) = some r ∧ Q r
/-- in the text's order, with what floats -/
def RCh (P : Program) (E : Ext) (fn : Func) (all : Array Oper) (prs : List (Nat × Nat)) (j : Nat) (old : Nat → Fr × LH) (os : List Oper) (k : List Item) (fr : Fr) (H : LH) (Q : Value × LH → Prop) : Prop := ∃ n r, (match lchain P (LC P E) fn.ntmps all prs j old os fr H with | some (fr', H') => run P E.loud (LC P E) fn n k fr' H' | none => none) = some r ∧ Q r
/-- a region whose order is open -/
def RDr (P : Program) (E : Ext) (fn : Func) (x : Option (List (Nat × Nat))) (l : List Oper) (k : List Item) (fr : Fr) (H : LH) (Q : Value × LH → Prop) : Prop :=
  match x with
  | none => RMix P E fn ⟨l⟩ H l k fr H Q
  | some prs => RCh P E fn ⟨l⟩ prs 0 (fun _ => (fr, H)) l k fr H Q
def oldS (old : Nat → Fr × LH) (k : Nat) (x : Fr × LH) : Nat → Fr × LH := fun j => if j = k then x else old j
/-- a read yields the same where it floats -/
def ckR (P : Program) (k : Nat) (op : Op) (fr : Fr) (old : Nat → Fr × LH) (v : Value) : List (Nat × Nat) → Prop
  | [] => True
  | (i, j) :: ps => (i = k ∧ j < k → lop P T0 ⟨none, op, 0, "", #[], none⟩ fr (old j).2 = some (v, (old j).2)) ∧ ckR P k op fr old v ps
def ckOp (P : Program) (all : Array Oper) (o : Option Oper) (x : Fr × LH) (fr' : Fr) (H' : LH) : Prop :=
  match o with
  | some o => ∀ d, o.dst = some d → lwant all x.1 o = some true → lop P T0 o x.1 H' = some (fr' d, H')
  | none => True
def ckH (P : Program) (k : Nat) (all : Array Oper) (old : Nat → Fr × LH) (fr' : Fr) (H' : LH) : List (Nat × Nat) → Prop
  | [] => True
  | (i, j) :: ps => (j = k ∧ i < k → ckOp P all all[i]? (old i) fr' H') ∧ ckH P k all old fr' H' ps
/-- an operation has yielded -/
def Step (P : Program) (E : Ext) (fn : Func) (x : Option (Value × LH)) (d : Nat) (all : Array Oper) (os : List Oper) (k : List Item) (fr : Fr) (Q : Value × LH → Prop) : Prop :=
  match x with
  | some (v, H) => d < fn.ntmps ∧ ROps P E fn all os k (upd fr d v) H Q
  | none => False
def MStep (P : Program) (E : Ext) (fn : Func) (x : Option (Value × LH)) (d : Nat) (all : Array Oper) (H0 : LH) (os : List Oper) (k : List Item) (fr : Fr) (Q : Value × LH → Prop) : Prop :=
  match x with
  | some (v, H) => d < fn.ntmps ∧ RMix P E fn all H0 os k (upd fr d v) H Q
  | none => False
/-- a choice between two ways -/
def RSel (b : Bool) (A B : Prop) : Prop := match b with | true => A | false => B
/-- the results -/
def RRes (x : Option Value) (H : LH) (Q : Value × LH → Prop) : Prop := match x with | some v => Q (v, H) | none => False
def lopx (P : Program) (T : Callee) (op : Op) (fr : Fr) (H : LH) : Option (Value × LH) := lop P T ⟨none, op, 0, "", #[], none⟩ fr H
/-- strings' bytes, too -/
def lopxB (P : Program) (T : Callee) (op : Op) (fr : Fr) (H : LH) : Option (Value × LH) := match op with
  | .convert s d x => match lbytesM P s d (ev fr x) H with
    | some r => some r
    | none => lopx P T (.convert s d x) fr H
  | op => lopx P T op fr H
def lmixx (P : Program) (T : Callee) (op : Op) (fr : Fr) (H0 H : LH) : Option (Value × LH) := lmixop P T ⟨none, op, 0, "", #[], none⟩ fr H0 H
/-- is a guarded operation carried out? -/
def guardx (all : Array Oper) (fr : Fr) (j : Nat) (want : Bool) : Option Bool :=
  match (all[j]?).bind (·.dst) with
  | none => some false
  | some d => match fr d with
    | .bool b => some (b == want)
    | v => if flatB v then some false else none
def GStep (P : Program) (E : Ext) (fn : Func) (g : Option Bool) (op : Op) (d : Nat) (all : Array Oper) (os : List Oper) (k : List Item) (fr : Fr) (H : LH) (Q : Value × LH → Prop) : Prop :=
  match g with
  | some true => Step P E fn (lopxB P (LC P E) op fr H) d all os k fr Q
  | some false => d < fn.ntmps ∧ ROps P E fn all os k (upd fr d undef) H Q
  | none => False
def GMStep (P : Program) (E : Ext) (fn : Func) (g : Option Bool) (op : Op) (d : Nat) (all : Array Oper) (H0 : LH) (os : List Oper) (k : List Item) (fr : Fr) (H : LH) (Q : Value × LH → Prop) : Prop :=
  match g with
  | some true => MStep P E fn (lmixx P (LC P E) op fr H0 H) d all H0 os k fr Q
  | some false => d < fn.ntmps ∧ RMix P E fn all H0 os k (upd fr d undef) H Q
  | none => False

/-- in the text's order, where nothing floats -/
def RC0 (P : Program) (E : Ext) (fn : Func) (all : Array Oper) (os : List Oper) (k : List Item) (fr : Fr) (H : LH) (Q : Value × LH → Prop) : Prop := ∃ n r, (match lops0 P (LC P E) fn.ntmps all os fr H with | some (fr', H') => run P E.loud (LC P E) fn n k fr' H' | none => none) = some r ∧ Q r
def C0Step (P : Program) (E : Ext) (fn : Func) (x : Option (Value × LH)) (d : Nat) (all : Array Oper) (os : List Oper) (k : List Item) (fr : Fr) (Q : Value × LH → Prop) : Prop :=
  match x with
  | some (v, H) => d < fn.ntmps ∧ RC0 P E fn all os k (upd fr d v) H Q
  | none => False
def C0Step0 (P : Program) (E : Ext) (fn : Func) (x : Option (Value × LH)) (all : Array Oper) (os : List Oper) (k : List Item) (fr : Fr) (Q : Value × LH → Prop) : Prop :=
  match x with
  | some (_, H) => RC0 P E fn all os k fr H Q
  | none => False
def C0G (P : Program) (E : Ext) (fn : Func) (g : Option Bool) (op : Op) (d : Nat) (all : Array Oper) (os : List Oper) (k : List Item) (fr : Fr) (H : LH) (Q : Value × LH → Prop) : Prop :=
  match g with
  | some true => C0Step P E fn (lopx P (LC P E) op fr H) d all os k fr Q
  | some false => d < fn.ntmps ∧ RC0 P E fn all os k (upd fr d undef) H Q
  | none => False
section
variable {P : Program} {E : Ext} {fn : Func} {k : List Item} {fr : Fr} {H H' H0 : LH} {Q : Value × LH → Prop} {all : Array Oper} {os : List Oper} {ty : TypeId} {pos : String} {after : Array Edge} {d : Nat} {op : Op}
theorem lop_x (dst : Option Tmp) (g : Option (Nat × Bool)) (T : Callee) : lop P T ⟨dst, op, ty, pos, after, g⟩ fr H = lopx P T op fr H := rfl
theorem lopB_x (dst : Option Tmp) (g : Option (Nat × Bool)) (T : Callee) : lopB P T ⟨dst, op, ty, pos, after, g⟩ fr H = lopxB P T op fr H := by
  cases op <;> rfl
theorem lmixop_x (dst : Option Tmp) (g : Option (Nat × Bool)) (T : Callee) : lmixop P T ⟨dst, op, ty, pos, after, g⟩ fr H0 H = lmixx P T op fr H0 H := by
  cases op <;> rfl
theorem ex_succ {p : Nat → Prop} (h0 : ¬ p 0) : (∃ n, p n) ↔ ∃ n, p (n + 1) := ⟨fun ⟨n, h⟩ => by cases n with | zero => exact absurd h h0 | succ n => exact ⟨n, h⟩, fun ⟨n, h⟩ => ⟨_, h⟩⟩
theorem run0 {L : Loud} {T : Callee} : run P L T fn 0 k fr H = none := rfl
theorem runs_nil : Runs P E fn [] fr H Q ↔ RRes (lresults P fn fr H) H Q := by
  unfold Runs; rw [ex_succ (by simp [run])]; simp only [run]; unfold RRes; cases lresults P fn fr H <;> simp
theorem runs_skip : Runs P E fn (.code .skip :: k) fr H Q ↔ Runs P E fn k fr H Q := by
  unfold Runs; rw [ex_succ (by simp [run])]; simp only [run]
theorem runs_label {l : Nat} : Runs P E fn (.code (.label l) :: k) fr H Q ↔ Runs P E fn k fr H Q := by
  unfold Runs; rw [ex_succ (by simp [run])]; simp only [run]
theorem runs_seq {x y : Code} : Runs P E fn (.code (.seq x y) :: k) fr H Q ↔ Runs P E fn (.code x :: .code y :: k) fr H Q := by
  unfold Runs; rw [ex_succ (by simp [run])]; simp only [run]
theorem runs_block {id : Nat} {x : Code} : Runs P E fn (.code (.block id x) :: k) fr H Q ↔ Runs P E fn (.code x :: .inBlock id :: k) fr H Q := by
  unfold Runs; rw [ex_succ (by simp [run])]; simp only [run]
theorem runs_inBlock {id : Nat} : Runs P E fn (.inBlock id :: k) fr H Q ↔ Runs P E fn k fr H Q := by
  unfold Runs; rw [ex_succ (by simp [run])]; simp only [run]
theorem runs_loop {x : Code} : Runs P E fn (.code (.loop x) :: k) fr H Q ↔ Runs P E fn (.inLoop x :: k) fr H Q := by
  unfold Runs; rw [ex_succ (by simp [run])]; rw [ex_succ (p := fun n => ∃ r, run P E.loud (LC P E) fn n (.inLoop x :: k) fr H = some r ∧ Q r) (by simp [run])]; simp only [run]
theorem runs_inLoop {x : Code} : Runs P E fn (.inLoop x :: k) fr H Q ↔ Runs P E fn (.code x :: .inLoop x :: k) fr H Q := by
  unfold Runs; rw [ex_succ (by simp [run])]; simp only [run]
theorem runs_ret : Runs P E fn (.code .ret :: k) fr H Q ↔ RRes (lresults P fn fr H) H Q := by
  unfold Runs; rw [ex_succ (by simp [run])]; simp only [run]; unfold RRes; cases lresults P fn fr H <;> simp
theorem runs_exit {id : Nat} : Runs P E fn (.code (.exit id) :: k) fr H Q ↔ match exitTo id k with | some k' => Runs P E fn k' fr H Q | none => False := by
  unfold Runs; rw [ex_succ (by simp [run])]; simp only [run]
  cases exitTo id k <;> simp
theorem runs_cond {c : Operand} {x y : Code} {b : Bool} (h : ev fr c = .bool b) : Runs P E fn (.code (.cond c x y) :: k) fr H Q ↔ if b = true then Runs P E fn (.code x :: k) fr H Q else Runs P E fn (.code y :: k) fr H Q := by
  unfold Runs; rw [ex_succ (by simp [run])]; simp only [run, h]
  cases b <;> simp
theorem runs_region {id : Nat} {l : List Oper} : Runs P E fn (.code (.region id ⟨l⟩ false) :: k) fr H Q ↔ ROps P E fn ⟨l⟩ l k fr H Q := by
  unfold Runs ROps; rw [ex_succ (by simp [run])]; simp only [run]; exact Iff.rfl
theorem runs_draw {id : Nat} {l : List Oper} : Runs P E fn (.code (.region id ⟨l⟩ true) :: k) fr H Q ↔ RDr P E fn (E.loud.ch fn.ntmps id l.length) l k fr H Q := by
  unfold Runs RDr RMix RCh; rw [ex_succ (by simp [run])]; simp only [run, ldraw]
  rw [show (⟨l⟩ : Array Oper).size = l.length from rfl]
  cases E.loud.ch fn.ntmps id l.length <;> exact Iff.rfl
theorem rops_nil : ROps P E fn all [] k fr H Q ↔ Runs P E fn k fr H Q := by
  unfold ROps Runs; simp only [lops]
theorem rmix_nil : RMix P E fn all H0 [] k fr H Q ↔ Runs P E fn k fr H Q := by
  unfold RMix Runs; simp only [lmix]
theorem rops_cons : ROps P E fn all (⟨some d, op, ty, pos, after, none⟩ :: os) k fr H Q ↔ Step P E fn (lopxB P (LC P E) op fr H) d all os k fr Q := by
  unfold ROps Step; simp only [lops, lwant, lopB_x]
  cases lopxB P (LC P E) op fr H with
  | none => simp
  | some x =>
    obtain ⟨v, H1⟩ := x
    simp only [lput]
    by_cases hd : d < fn.ntmps
    · simp only [hd, ROps, true_and, if_true]
    · simp [hd]
theorem rops_cons0 : ROps P E fn all (⟨none, op, ty, pos, after, none⟩ :: os) k fr H Q ↔ match lopxB P (LC P E) op fr H with | some (_, H') => ROps P E fn all os k fr H' Q | none => False := by
  unfold ROps; simp only [lops, lwant, lopB_x]
  cases lopxB P (LC P E) op fr H with
  | none => simp
  | some x => simp only [lput]
theorem rmix_cons : RMix P E fn all H0 (⟨some d, op, ty, pos, after, none⟩ :: os) k fr H Q ↔ RSel (loudOp E.loud op) (ROps P E fn all (⟨some d, op, ty, pos, after, none⟩ :: os) k fr H Q) (MStep P E fn (lmixx P (LC P E) op fr H0 H) d all H0 os k fr Q) := by
  unfold RMix RSel
  cases hl : loudOp E.loud op with
  | true => unfold ROps; simp only [lmix, hl, if_true]
  | false =>
    unfold MStep; simp only [lmix, hl, Bool.false_eq_true, if_false, lwant, lmixop_x]
    by_cases hd : d < fn.ntmps
    · simp only [if_pos hd]
      cases lmixx P (LC P E) op fr H0 H with
      | none => simp
      | some x => simp only [hd, RMix, true_and]
    · simp only [if_neg hd]
      cases lmixx P (LC P E) op fr H0 H with
      | none => simp
      | some x => simp [hd]
theorem rmix_cons0 : RMix P E fn all H0 (⟨none, op, ty, pos, after, none⟩ :: os) k fr H Q ↔ RSel (loudOp E.loud op) (ROps P E fn all (⟨none, op, ty, pos, after, none⟩ :: os) k fr H Q) False := by
  unfold RMix RSel
  cases hl : loudOp E.loud op with
  | true => unfold ROps; simp only [lmix, hl, if_true]
  | false => simp [lmix, hl]
theorem lwant_x {j : Nat} {want : Bool} {dst : Option Tmp} : lwant all fr ⟨dst, op, ty, pos, after, some (j, want)⟩ = guardx all fr j want := rfl
theorem rops_guard {j : Nat} {want : Bool} : ROps P E fn all (⟨some d, op, ty, pos, after, some (j, want)⟩ :: os) k fr H Q ↔ GStep P E fn (guardx all fr j want) op d all os k fr H Q := by
  unfold ROps GStep; simp only [lops, lwant_x, lopB_x]
  cases guardx all fr j want with
  | none => simp
  | some b =>
    cases b with
    | true =>
      simp only [Step]
      cases lopxB P (LC P E) op fr H with
      | none => simp
      | some x =>
        obtain ⟨v, H1⟩ := x
        simp only [lput]
        by_cases hd : d < fn.ntmps
        · simp only [hd, ROps, true_and, if_true]
        · simp [hd]
    | false =>
      simp only [lput]
      by_cases hd : d < fn.ntmps
      · simp only [hd, ROps, true_and, if_true]
      · simp [hd]
theorem rmix_guard {j : Nat} {want : Bool} : RMix P E fn all H0 (⟨some d, op, ty, pos, after, some (j, want)⟩ :: os) k fr H Q ↔ RSel (loudOp E.loud op) (ROps P E fn all (⟨some d, op, ty, pos, after, some (j, want)⟩ :: os) k fr H Q) (GMStep P E fn (guardx all fr j want) op d all H0 os k fr H Q) := by
  unfold RMix RSel
  cases hl : loudOp E.loud op with
  | true => unfold ROps; simp only [lmix, hl, if_true]
  | false =>
    unfold GMStep; simp only [lmix, hl, Bool.false_eq_true, if_false, lwant_x, lmixop_x]
    by_cases hd : d < fn.ntmps
    · simp only [if_pos hd]
      cases guardx all fr j want with
      | none => simp
      | some b =>
        cases b with
        | true =>
          unfold MStep
          simp only
          cases lmixx P (LC P E) op fr H0 H with
          | none => simp
          | some x => simp only [hd, RMix, true_and]
        | false => simp only [hd, RMix, true_and]
    · simp only [if_neg hd]
      cases guardx all fr j want with
      | none => simp
      | some b =>
        cases b with
        | true =>
          unfold MStep
          simp only
          cases lmixx P (LC P E) op fr H0 H with
          | none => simp
          | some x => simp [hd]
        | false => simp [hd]
theorem step_some {v : Value} : Step P E fn (some (v, H)) d all os k fr Q ↔ d < fn.ntmps ∧ ROps P E fn all os k (upd fr d v) H Q := Iff.rfl
theorem mstep_some {v : Value} : MStep P E fn (some (v, H)) d all H0 os k fr Q ↔ d < fn.ntmps ∧ RMix P E fn all H0 os k (upd fr d v) H Q := Iff.rfl
theorem rsel_true {A B : Prop} : RSel true A B ↔ A := Iff.rfl
theorem rsel_false {A B : Prop} : RSel false A B ↔ B := Iff.rfl
theorem gstep_true : GStep P E fn (some true) op d all os k fr H Q ↔ Step P E fn (lopxB P (LC P E) op fr H) d all os k fr Q := Iff.rfl
theorem gstep_false : GStep P E fn (some false) op d all os k fr H Q ↔ d < fn.ntmps ∧ ROps P E fn all os k (upd fr d undef) H Q := Iff.rfl
theorem gmstep_true : GMStep P E fn (some true) op d all H0 os k fr H Q ↔ MStep P E fn (lmixx P (LC P E) op fr H0 H) d all H0 os k fr Q := Iff.rfl
theorem gmstep_false : GMStep P E fn (some false) op d all H0 os k fr H Q ↔ d < fn.ntmps ∧ RMix P E fn all H0 os k (upd fr d undef) H Q := Iff.rfl
theorem rdr_none {l : List Oper} : RDr P E fn none l k fr H Q ↔ RMix P E fn ⟨l⟩ H l k fr H Q := Iff.rfl
theorem rdr_some {l : List Oper} {prs : List (Nat × Nat)} : RDr P E fn (some prs) l k fr H Q ↔ RCh P E fn ⟨l⟩ prs 0 (fun _ => (fr, H)) l k fr H Q := Iff.rfl
theorem lchain_nil {T : Callee} {N : Nat} {j : Nat} {old : Nat → Fr × LH} : ∀ {os : List Oper} {j : Nat} {old : Nat → Fr × LH} {fr : Fr} {H : LH}, lchain P T N all [] j old os fr H = lops0 P T N all os fr H
  | [], j, old, fr, H => rfl
  | o :: os, j, old, fr, H => by
    unfold lchain lops0
    split
    · split
      · split
        · rw [if_pos ⟨fun _ h => by simp at h, fun _ h => by simp at h⟩]; exact lchain_nil (j := j) (old := old)
        · rfl
      · rfl
    · split
      · rw [if_pos (fun _ h => by simp at h)]; exact lchain_nil (j := j) (old := old)
      · rfl
    · rfl
theorem rch_none {j : Nat} {old : Nat → Fr × LH} : RCh P E fn all [] j old os k fr H Q ↔ RC0 P E fn all os k fr H Q := by
  unfold RCh RC0; rw [lchain_nil (j := j) (old := old)]
theorem rc0_nil : RC0 P E fn all [] k fr H Q ↔ Runs P E fn k fr H Q := by
  unfold RC0 Runs; simp only [lops0]
theorem rc0_cons : RC0 P E fn all (⟨some d, op, ty, pos, after, none⟩ :: os) k fr H Q ↔ C0Step P E fn (lopx P (LC P E) op fr H) d all os k fr Q := by
  unfold RC0 C0Step; simp only [lops0, lwant, lop_x]
  cases lopx P (LC P E) op fr H with
  | none => simp
  | some x =>
    obtain ⟨v, H1⟩ := x
    simp only [lput]
    by_cases hd : d < fn.ntmps
    · simp only [hd, RC0, true_and, if_true]
    · simp [hd]
theorem rc0_cons0 : RC0 P E fn all (⟨none, op, ty, pos, after, none⟩ :: os) k fr H Q ↔ C0Step0 P E fn (lopx P (LC P E) op fr H) all os k fr Q := by
  unfold RC0 C0Step0; simp only [lops0, lwant, lop_x]
  cases lopx P (LC P E) op fr H with
  | none => simp
  | some x => obtain ⟨v, H1⟩ := x; simp only [lput, RC0]
theorem rc0_guard {j : Nat} {want : Bool} : RC0 P E fn all (⟨some d, op, ty, pos, after, some (j, want)⟩ :: os) k fr H Q ↔ C0G P E fn (guardx all fr j want) op d all os k fr H Q := by
  unfold RC0 C0G; simp only [lops0, lwant_x, lop_x]
  cases guardx all fr j want with
  | none => simp
  | some b =>
    cases b with
    | true =>
      simp only [C0Step]
      cases lopx P (LC P E) op fr H with
      | none => simp
      | some x =>
        obtain ⟨v, H1⟩ := x
        simp only [lput]
        by_cases hd : d < fn.ntmps
        · simp only [hd, RC0, true_and, if_true]
        · simp [hd]
    | false =>
      simp only [lput]
      by_cases hd : d < fn.ntmps
      · simp only [hd, RC0, true_and, if_true]
      · simp [hd]
section
variable {prs : List (Nat × Nat)} {j : Nat} {old : Nat → Fr × LH}
theorem rch_nil : RCh P E fn all prs j old [] k fr H Q ↔ Runs P E fn k fr H Q := by
  unfold RCh Runs; simp only [lchain]
theorem ckR_iff {v : Value} (dst : Option Tmp) (g : Option (Nat × Bool)) : ∀ {prs : List (Nat × Nat)}, ckR P j op fr old v prs ↔ ∀ i, (j, i) ∈ prs → i < j → lop P T0 ⟨dst, op, ty, pos, after, g⟩ fr (old i).2 = some (v, (old i).2)
  | [] => by simp [ckR]
  | (a, b) :: ps => by
    have ih := ckR_iff (v := v) dst g (prs := ps)
    unfold ckR
    rw [ih]
    simp only [lop_x]
    constructor
    · rintro ⟨h1, h2⟩ i hi hij
      rcases List.mem_cons.1 hi with e | e
      · injection e with e1 e2
        subst e1 e2
        exact h1 ⟨rfl, hij⟩
      · exact h2 i e hij
    · intro h
      exact ⟨fun ⟨e, hb⟩ => h b (by rw [e]; exact List.mem_cons_self ..) hb, fun i hi hij => h i (List.mem_cons_of_mem _ hi) hij⟩
theorem ckH_iff {fr' : Fr} : ∀ {prs : List (Nat × Nat)}, ckH P j all old fr' H' prs ↔ ∀ i, (i, j) ∈ prs → i < j → ∀ oi d, all[i]? = some oi → oi.dst = some d → lwant all (old i).1 oi = some true → lop P T0 oi (old i).1 H' = some (fr' d, H')
  | [] => by simp [ckH]
  | (a, b) :: ps => by
    have ih := ckH_iff (fr' := fr') (prs := ps)
    unfold ckH
    rw [ih]
    constructor
    · rintro ⟨h1, h2⟩ i hi hij oi d ho hd hw
      rcases List.mem_cons.1 hi with e | e
      · injection e with e1 e2
        subst e1 e2
        have := h1 ⟨rfl, hij⟩
        unfold ckOp at this
        rw [ho] at this
        exact this d hd hw
      · exact h2 i e hij oi d ho hd hw
    · intro h
      refine ⟨fun ⟨e, hb⟩ => ?_, fun i hi hij => h i (List.mem_cons_of_mem _ hi) hij⟩
      unfold ckOp
      cases ho : all[a]? with
      | none => trivial
      | some oi => exact fun d hd hw => h a (by rw [e]; exact List.mem_cons_self ..) hb oi d ho hd hw
/-- an operation has yielded -/
def CStep (P : Program) (E : Ext) (fn : Func) (x : Option (Value × LH)) (d : Nat) (op : Op) (all : Array Oper) (prs : List (Nat × Nat)) (j : Nat) (old : Nat → Fr × LH) (os : List Oper) (k : List Item) (fr : Fr) (H : LH) (Q : Value × LH → Prop) : Prop :=
  match x with
  | some (v, H') => d < fn.ntmps ∧ ckR P j op fr old v prs ∧ ckH P j all old (upd fr d v) H' prs ∧ RCh P E fn all prs (j + 1) (oldS old j (fr, H)) os k (upd fr d v) H' Q
  | none => False
def CStep0 (P : Program) (E : Ext) (fn : Func) (x : Option (Value × LH)) (op : Op) (all : Array Oper) (prs : List (Nat × Nat)) (j : Nat) (old : Nat → Fr × LH) (os : List Oper) (k : List Item) (fr : Fr) (H : LH) (Q : Value × LH → Prop) : Prop :=
  match x with
  | some (v, H') => ckR P j op fr old v prs ∧ ckH P j all old fr H' prs ∧ RCh P E fn all prs (j + 1) (oldS old j (fr, H)) os k fr H' Q
  | none => False
def CG (P : Program) (E : Ext) (fn : Func) (g : Option Bool) (op : Op) (d : Nat) (all : Array Oper) (prs : List (Nat × Nat)) (j : Nat) (old : Nat → Fr × LH) (os : List Oper) (k : List Item) (fr : Fr) (H : LH) (Q : Value × LH → Prop) : Prop :=
  match g with
  | some true => CStep P E fn (lopx P (LC P E) op fr H) d op all prs j old os k fr H Q
  | some false => d < fn.ntmps ∧ ckH P j all old (upd fr d undef) H prs ∧ RCh P E fn all prs (j + 1) (oldS old j (fr, H)) os k (upd fr d undef) H Q
  | none => False
theorem lwant_no {dst : Option Tmp} : lwant all fr ⟨dst, op, ty, pos, after, none⟩ = some true := rfl
theorem rch_cons : RCh P E fn all prs j old (⟨some d, op, ty, pos, after, none⟩ :: os) k fr H Q ↔ CStep P E fn (lopx P (LC P E) op fr H) d op all prs j old os k fr H Q := by
  unfold RCh CStep; simp only [lchain, lwant_no]
  rw [show lopx P (LC P E) op fr H = lop P (LC P E) ⟨some d, op, ty, pos, after, none⟩ fr H from rfl]
  cases lop P (LC P E) ⟨some d, op, ty, pos, after, none⟩ fr H with
  | none => simp
  | some x =>
    obtain ⟨v, H1⟩ := x
    simp only [lput]
    by_cases hd : d < fn.ntmps
    · simp only [hd, if_true, true_and]
      have e1 := ckR_iff (P := P) (op := op) (fr := fr) (old := old) (j := j) (v := v) (ty := ty) (pos := pos) (after := after) (some d) none (prs := prs)
      by_cases hc : ckR P j op fr old v prs ∧ ckH P j all old (upd fr d v) H1 prs
      · rw [if_pos (And.intro (e1.1 hc.1) (ckH_iff.1 hc.2))]
        simp only [hc, true_and, RCh]
        exact Iff.rfl
      · rw [if_neg (fun h => hc (And.intro (e1.2 (And.left h)) (ckH_iff.2 (And.right h))))]
        constructor
        · rintro ⟨n, r, h, _⟩; simp at h
        · rintro ⟨h1, h2, _⟩; exact absurd ⟨h1, h2⟩ hc
    · simp [hd]
theorem rch_cons0 : RCh P E fn all prs j old (⟨none, op, ty, pos, after, none⟩ :: os) k fr H Q ↔ CStep0 P E fn (lopx P (LC P E) op fr H) op all prs j old os k fr H Q := by
  unfold RCh CStep0; simp only [lchain, lwant_no]
  rw [show lopx P (LC P E) op fr H = lop P (LC P E) ⟨none, op, ty, pos, after, none⟩ fr H from rfl]
  cases lop P (LC P E) ⟨none, op, ty, pos, after, none⟩ fr H with
  | none => simp
  | some x =>
    obtain ⟨v, H1⟩ := x
    simp only [lput]
    have e1 := ckR_iff (P := P) (op := op) (fr := fr) (old := old) (j := j) (v := v) (ty := ty) (pos := pos) (after := after) none none (prs := prs)
    by_cases hc : ckR P j op fr old v prs ∧ ckH P j all old fr H1 prs
    · rw [if_pos (And.intro (e1.1 hc.1) (ckH_iff.1 hc.2))]
      simp only [hc, true_and, RCh]
      exact Iff.rfl
    · rw [if_neg (fun h => hc (And.intro (e1.2 (And.left h)) (ckH_iff.2 (And.right h))))]
      constructor
      · rintro ⟨n, r, h, _⟩; simp at h
      · rintro ⟨h1, h2, _⟩; exact absurd ⟨h1, h2⟩ hc
theorem rch_guard {g : Nat} {want : Bool} : RCh P E fn all prs j old (⟨some d, op, ty, pos, after, some (g, want)⟩ :: os) k fr H Q ↔ CG P E fn (guardx all fr g want) op d all prs j old os k fr H Q := by
  unfold RCh CG; simp only [lchain, lwant_x]
  cases guardx all fr g want with
  | none => simp
  | some b =>
    cases b with
    | true =>
      simp only [CStep]
      rw [show lopx P (LC P E) op fr H = lop P (LC P E) ⟨some d, op, ty, pos, after, some (g, want)⟩ fr H from rfl]
      cases lop P (LC P E) ⟨some d, op, ty, pos, after, some (g, want)⟩ fr H with
      | none => simp
      | some x =>
        obtain ⟨v, H1⟩ := x
        simp only [lput]
        by_cases hd : d < fn.ntmps
        · simp only [hd, if_true, true_and]
          have e1 := ckR_iff (P := P) (op := op) (fr := fr) (old := old) (j := j) (v := v) (ty := ty) (pos := pos) (after := after) (some d) (some (g, want)) (prs := prs)
          by_cases hc : ckR P j op fr old v prs ∧ ckH P j all old (upd fr d v) H1 prs
          · rw [if_pos (And.intro (e1.1 hc.1) (ckH_iff.1 hc.2))]
            simp only [hc, true_and, RCh]
            exact Iff.rfl
          · rw [if_neg (fun h => hc (And.intro (e1.2 (And.left h)) (ckH_iff.2 (And.right h))))]
            constructor
            · rintro ⟨n, r, h, _⟩; simp at h
            · rintro ⟨h1, h2, _⟩; exact absurd ⟨h1, h2⟩ hc
        · simp [hd]
    | false =>
      simp only [lput]
      by_cases hd : d < fn.ntmps
      · simp only [hd, if_true, true_and]
        by_cases hc : ckH P j all old (upd fr d undef) H prs
        · rw [if_pos (ckH_iff.1 hc)]
          simp only [hc, true_and, RCh]
          exact Iff.rfl
        · rw [if_neg (fun h => hc (ckH_iff.2 h))]
          constructor
          · rintro ⟨n, r, h, _⟩; simp at h
          · rintro ⟨h1, _⟩; exact absurd h1 hc
      · simp [hd]
end
/-- a loop: a relation that each round hands on, a measure that each round lowers -/
theorem loop_ind {St : Type} (R : St → Fr → LH → Prop) (μ : St → Nat) {x : Code} (st : St) (h : R st fr H)
    (step : ∀ st fr H, R st fr H → (∀ st' fr' H', μ st' < μ st → R st' fr' H' → Runs P E fn (.inLoop x :: k) fr' H' Q) → Runs P E fn (.code x :: .inLoop x :: k) fr H Q) : Runs P E fn (.code (.loop x) :: k) fr H Q := by
  have key : ∀ m st fr H, μ st < m → R st fr H → Runs P E fn (.inLoop x :: k) fr H Q := by
    intro m
    induction m with
    | zero => intro st fr H hm; omega
    | succ m ih =>
      intro st fr H hm hR
      exact runs_inLoop.2 (step st fr H hR (fun st' fr' H' hlt hR' => ih st' fr' H' (by omega) hR'))
  exact runs_loop.2 (key (μ st + 1) st fr H (Nat.lt_succ_self _) h)
theorem LC_runs {f : FuncId} {c : Code} {args : List Value} (he : E f = none) (hf : P.funcs[f]? = some fn) (hb : fn.body = some c) (hN : args.length ≤ fn.ntmps) (hname : fn.name ≠ "runtime.NumGoroutine") (hcd : codeOk E.loud fn.ntmps c = true)
    (hr : Runs P E fn [.code c] (enter args) H Q) : ∃ r, LC P E f args H = some (trunc H r) ∧ Q r := by
  obtain ⟨n, r, hn, hq⟩ := hr
  exact ⟨r, LC_body he hf hb hN hname hcd hn, hq⟩
theorem trunc_flat {v : Value} (hv : flatB v = true) (hle : H.le H') : trunc H (v, H') = (v, H) := by
  unfold trunc; rw [if_pos ⟨hv, hle⟩]
theorem LC_pure {f : FuncId} {c : Code} {args : List Value} {v : Value} (he : E f = none) (hf : P.funcs[f]? = some fn) (hb : fn.body = some c) (hN : args.length ≤ fn.ntmps) (hname : fn.name ≠ "runtime.NumGoroutine") (hcd : codeOk E.loud fn.ntmps c = true)
    (hv : flatB v = true) (hr : Runs P E fn [.code c] (enter args) H (fun r => r.1 = v ∧ H.le r.2)) : LC P E f args H = some (v, H) := by
  obtain ⟨⟨v', H'⟩, h, rfl, hle⟩ := LC_runs he hf hb hN hname hcd hr
  rw [h, trunc_flat hv hle]
theorem le_refl : H.le H := ⟨Nat.le_refl _, fun _ _ => rfl⟩
end
end Go.Lg
/-
  A logical run of Go code: what operations come to on given values.
-/
set_option linter.unusedSimpArgs false
set_option linter.unusedVariables false
namespace Go.Lg
open Go.Tg Go.RowKit

section
variable {P : Program}
@[simp] theorem pureVal_bind {α β : Type} (s : Sem α) (f : α → Sem β) : pureVal P (s >>= f) = (pureVal P s).bind fun x => pureVal P (f x) := by
  show pureVal P (s.bind f) = _
  induction s with
  | pure a => rfl
  | program k ih => exact ih P
  | mark m k ih => exact ih
  | _ => rfl
@[simp] theorem pureVal_pure {α : Type} (x : α) : pureVal P (pure x : Sem α) = some x := rfl
@[simp] theorem pureVal_program : pureVal P program = some P := rfl
@[simp] theorem pureVal_und (t : TypeId) : pureVal P (underlying t) = P.underlying t := by
  unfold underlying
  rw [pureVal_bind, pureVal_program, Option.bind_some]
  cases P.underlying t <;> rfl
@[simp] theorem pureVal_sizeOf (t : TypeId) : pureVal P (sizeOf t) = sz P t := by
  unfold sizeOf typeInfo sz
  simp only [pureVal_bind, pureVal_program, Option.bind_some]
  cases P.info? t <;> rfl
end
/-- a string, a pointer, a slice from a row's head -/
def str (l : List UInt8) : Value := .string ⟨l.toArray⟩
theorem str_ba (s : ByteArray) : Value.string s = str s.data.toList := by cases s; rfl

attribute [simp ↓] runs_skip runs_label runs_seq runs_block runs_inBlock runs_region runs_draw rops_nil rmix_nil rops_cons rmix_cons rmix_cons0 rops_guard rmix_guard
@[congr] theorem rres_congr {x y : Option Value} {H : LH} {Q : Value × LH → Prop} (h : x = y) : RRes x H Q = RRes y H Q := by rw [h]
@[simp] theorem rres_some {v : Value} {H : LH} {Q : Value × LH → Prop} : RRes (some v) H Q ↔ Q (v, H) := Iff.rfl
@[simp] theorem rres_none {H : LH} {Q : Value × LH → Prop} : RRes none H Q ↔ False := Iff.rfl
attribute [simp ↓] rdr_none rdr_some rch_none rch_nil rch_cons rch_cons0 rch_guard rc0_nil rc0_cons rc0_cons0 rc0_guard
attribute [simp] runs_nil runs_ret step_some mstep_some gstep_true gstep_false gmstep_true gmstep_false rsel_true rsel_false

section
variable {P : Program} {E : Ext} {fn : Func} {k : List Item} {fr : Fr} {H H' H0 : LH} {Q : Value × LH → Prop} {all : Array Oper} {os : List Oper} {d : Nat} {op : Op} {T : Callee}
@[congr] theorem step_congr {x y : Option (Value × LH)} (h : x = y) : Step P E fn x d all os k fr Q = Step P E fn y d all os k fr Q := by rw [h]
@[congr] theorem mstep_congr {x y : Option (Value × LH)} (h : x = y) : MStep P E fn x d all H0 os k fr Q = MStep P E fn y d all H0 os k fr Q := by rw [h]
@[congr] theorem rsel_congr {x y : Bool} {A B : Prop} (h : x = y) : RSel x A B = RSel y A B := by rw [h]
@[congr] theorem gstep_congr {x y : Option Bool} (h : x = y) : GStep P E fn x op d all os k fr H Q = GStep P E fn y op d all os k fr H Q := by rw [h]
@[congr] theorem gmstep_congr {x y : Option Bool} (h : x = y) : GMStep P E fn x op d all H0 os k fr H Q = GMStep P E fn y op d all H0 os k fr H Q := by rw [h]
@[congr] theorem rdr_congr {x y : Option (List (Nat × Nat))} {l : List Oper} (h : x = y) : RDr P E fn x l k fr H Q = RDr P E fn y l k fr H Q := by rw [h]
@[congr] theorem c0step_congr {x y : Option (Value × LH)} (h : x = y) : C0Step P E fn x d all os k fr Q = C0Step P E fn y d all os k fr Q := by rw [h]
@[congr] theorem c0step0_congr {x y : Option (Value × LH)} (h : x = y) : C0Step0 P E fn x all os k fr Q = C0Step0 P E fn y all os k fr Q := by rw [h]
@[congr] theorem c0g_congr {x y : Option Bool} (h : x = y) : C0G P E fn x op d all os k fr H Q = C0G P E fn y op d all os k fr H Q := by rw [h]
@[simp] theorem c0step_some {v : Value} : C0Step P E fn (some (v, H)) d all os k fr Q ↔ d < fn.ntmps ∧ RC0 P E fn all os k (upd fr d v) H Q := Iff.rfl
@[simp] theorem c0step_none : C0Step P E fn none d all os k fr Q ↔ False := Iff.rfl
@[simp] theorem c0step0_some {v : Value} : C0Step0 P E fn (some (v, H)) all os k fr Q ↔ RC0 P E fn all os k fr H Q := Iff.rfl
@[simp] theorem c0step0_none : C0Step0 P E fn none all os k fr Q ↔ False := Iff.rfl
@[simp] theorem c0g_true : C0G P E fn (some true) op d all os k fr H Q ↔ C0Step P E fn (lopx P (LC P E) op fr H) d all os k fr Q := Iff.rfl
@[simp] theorem c0g_false : C0G P E fn (some false) op d all os k fr H Q ↔ d < fn.ntmps ∧ RC0 P E fn all os k (upd fr d undef) H Q := Iff.rfl
theorem c0g_b {b : Bool} : C0G P E fn (some b) op d all os k fr H Q ↔ (b = true → C0Step P E fn (lopx P (LC P E) op fr H) d all os k fr Q) ∧ (b = false → d < fn.ntmps ∧ RC0 P E fn all os k (upd fr d undef) H Q) := by cases b <;> simp
attribute [simp low] c0g_b
section
variable {prs : List (Nat × Nat)} {j : Nat} {old : Nat → Fr × LH} {v : Value} {x : Fr × LH}
@[congr] theorem cstep_congr {x y : Option (Value × LH)} (h : x = y) : CStep P E fn x d op all prs j old os k fr H Q = CStep P E fn y d op all prs j old os k fr H Q := by rw [h]
@[congr] theorem cstep0_congr {x y : Option (Value × LH)} (h : x = y) : CStep0 P E fn x op all prs j old os k fr H Q = CStep0 P E fn y op all prs j old os k fr H Q := by rw [h]
@[congr] theorem cg_congr {x y : Option Bool} (h : x = y) : CG P E fn x op d all prs j old os k fr H Q = CG P E fn y op d all prs j old os k fr H Q := by rw [h]
@[simp] theorem cstep_some : CStep P E fn (some (v, H')) d op all prs j old os k fr H Q ↔ d < fn.ntmps ∧ ckR P j op fr old v prs ∧ ckH P j all old (upd fr d v) H' prs ∧ RCh P E fn all prs (j + 1) (oldS old j (fr, H)) os k (upd fr d v) H' Q := Iff.rfl
@[simp] theorem cstep_none : CStep P E fn none d op all prs j old os k fr H Q ↔ False := Iff.rfl
@[simp] theorem cstep0_some : CStep0 P E fn (some (v, H')) op all prs j old os k fr H Q ↔ ckR P j op fr old v prs ∧ ckH P j all old fr H' prs ∧ RCh P E fn all prs (j + 1) (oldS old j (fr, H)) os k fr H' Q := Iff.rfl
@[simp] theorem cstep0_none : CStep0 P E fn none op all prs j old os k fr H Q ↔ False := Iff.rfl
@[simp] theorem cg_true : CG P E fn (some true) op d all prs j old os k fr H Q ↔ CStep P E fn (lopx P (LC P E) op fr H) d op all prs j old os k fr H Q := Iff.rfl
@[simp] theorem cg_false : CG P E fn (some false) op d all prs j old os k fr H Q ↔ d < fn.ntmps ∧ ckH P j all old (upd fr d undef) H prs ∧ RCh P E fn all prs (j + 1) (oldS old j (fr, H)) os k (upd fr d undef) H Q := Iff.rfl
theorem cg_b {b : Bool} : CG P E fn (some b) op d all prs j old os k fr H Q ↔ (b = true → CStep P E fn (lopx P (LC P E) op fr H) d op all prs j old os k fr H Q) ∧ (b = false → d < fn.ntmps ∧ ckH P j all old (upd fr d undef) H prs ∧ RCh P E fn all prs (j + 1) (oldS old j (fr, H)) os k (upd fr d undef) H Q) := by cases b <;> simp
attribute [simp low] cg_b
@[simp ↓] theorem oldS_get {i : Nat} : oldS old j x i = if i = j then x else old i := rfl
@[simp ↓] theorem ckR_nil : ckR P j op fr old v [] ↔ True := Iff.rfl
@[simp ↓] theorem ckR_cons {a b : Nat} : ckR P j op fr old v ((a, b) :: prs) ↔ (a = j ∧ b < j → lopx P T0 op fr (old b).2 = some (v, (old b).2)) ∧ ckR P j op fr old v prs := Iff.rfl
@[simp ↓] theorem ckH_nil : ckH P j all old fr H' [] ↔ True := Iff.rfl
def lget : List Oper → Nat → Option Oper
  | [], _ => none
  | o :: _, 0 => some o
  | _ :: l, n + 1 => lget l n
theorem lget_eq : ∀ (l : List Oper) (j : Nat), l[j]? = lget l j
  | [], j => by cases j <;> rfl
  | o :: l, 0 => rfl
  | o :: l, n + 1 => lget_eq l n
@[simp ↓] theorem lget_zero {o : Oper} {l : List Oper} : lget (o :: l) 0 = some o := rfl
@[simp ↓] theorem lget_succ {o : Oper} {l : List Oper} {n : Nat} : lget (o :: l) (n + 1) = lget l n := rfl
@[simp ↓] theorem ckH_cons {a b : Nat} {l : List Oper} : ckH P j ⟨l⟩ old fr H' ((a, b) :: prs) ↔ (b = j ∧ a < j → ckOp P ⟨l⟩ (lget l a) (old a) fr H') ∧ ckH P j ⟨l⟩ old fr H' prs := by
  have e : (⟨l⟩ : Array Oper)[a]? = lget l a := by
    rw [← lget_eq]
    show (l.toArray)[a]? = _
    rw [List.getElem?_toArray]
  rw [← e]; exact Iff.rfl
@[simp ↓] theorem ckOp_plain {ty : TypeId} {pos : String} {after : Array Edge} {l : List Oper} : ckOp P ⟨l⟩ (some ⟨some d, op, ty, pos, after, none⟩) x fr H' ↔ lopx P T0 op x.1 H' = some (fr d, H') := by
  unfold ckOp
  constructor
  · intro h; exact h d rfl rfl
  · intro h d' hd _
    injection hd with hd
    subst hd; exact h
def gtr (x : Option Bool) : Prop := x = some true
@[simp] theorem gtr_some {b : Bool} : gtr (some b) ↔ b = true := by unfold gtr; simp
@[simp ↓] theorem ckOp_guard {ty : TypeId} {pos : String} {after : Array Edge} {l : List Oper} {g : Nat} {want : Bool} : ckOp P ⟨l⟩ (some ⟨some d, op, ty, pos, after, some (g, want)⟩) x fr H' ↔ (gtr (guardx ⟨l⟩ x.1 g want) → lopx P T0 op x.1 H' = some (fr d, H')) := by
  unfold ckOp gtr
  constructor
  · intro h hg; exact h d rfl hg
  · intro h d' hd hw
    injection hd with hd
    subst hd; exact h hw
end
@[simp] theorem step_none : Step P E fn none d all os k fr Q ↔ False := Iff.rfl
@[simp] theorem mstep_none : MStep P E fn none d all H0 os k fr Q ↔ False := Iff.rfl
@[simp ↓] theorem upd_get {v : Value} {t : Nat} : upd fr d v t = if t = d then v else fr t := rfl
@[simp ↓] theorem ev_tmp {t : Nat} : ev fr (.tmp t) = fr t := rfl
@[simp ↓] theorem ev_int {kd : IntKind} {n : Int} : ev fr (.const (.int kd n)) = .int kd n := rfl
@[simp ↓] theorem ev_bool {b : Bool} : ev fr (.const (.bool b)) = .bool b := rfl
@[simp ↓] theorem ev_str {l : List UInt8} : ev fr (.const (.string ⟨l.toArray⟩)) = str l := rfl
@[simp ↓] theorem ev_nil : ev fr (.const (.pointer none)) = .pointer none := rfl
@[simp ↓] theorem ev_nilslice : ev fr (.const (.slice none 0 0)) = .slice none 0 0 := rfl
@[simp ↓] theorem ev_func {f : FuncId} : ev fr (.func f) = .func (.func f) #[] #[] := rfl
def RCond (P : Program) (E : Ext) (fn : Func) (c : Value) (x y : Code) (k : List Item) (fr : Fr) (H : LH) (Q : Value × LH → Prop) : Prop :=
  match c with
  | .bool b => (b = true → Runs P E fn (.code x :: k) fr H Q) ∧ (b = false → Runs P E fn (.code y :: k) fr H Q)
  | _ => False
@[congr] theorem rcond_congr {c c' : Value} {x y : Code} (h : c = c') : RCond P E fn c x y k fr H Q = RCond P E fn c' x y k fr H Q := by rw [h]
@[simp ↓] theorem runs_cond' {c : Operand} {x y : Code} : Runs P E fn (.code (.cond c x y) :: k) fr H Q ↔ RCond P E fn (ev fr c) x y k fr H Q := by
  unfold RCond
  cases h : ev fr c with
  | bool b => rw [runs_cond h]; cases b <;> simp
  | _ =>
    simp only [iff_false]
    rintro ⟨n, r, hn, _⟩
    cases n with
    | zero => simp [run] at hn
    | succ n => simp [run, h] at hn
@[simp] theorem rcond_true {x y : Code} : RCond P E fn (.bool true) x y k fr H Q ↔ Runs P E fn (.code x :: k) fr H Q := by simp [RCond]
@[simp] theorem rcond_false {x y : Code} : RCond P E fn (.bool false) x y k fr H Q ↔ Runs P E fn (.code y :: k) fr H Q := by simp [RCond]
@[simp low] theorem rcond_b {b : Bool} {x y : Code} : RCond P E fn (.bool b) x y k fr H Q ↔ (b = true → Runs P E fn (.code x :: k) fr H Q) ∧ (b = false → Runs P E fn (.code y :: k) fr H Q) := Iff.rfl
@[simp ↓] theorem runs_exit' {id : Nat} : Runs P E fn (.code (.exit id) :: k) fr H Q ↔ match exitTo id k with | some k' => Runs P E fn k' fr H Q | none => False := runs_exit
@[simp] theorem exit_nil {id : Nat} : exitTo id [] = none := rfl
@[simp] theorem exit_block {id j : Nat} : exitTo id (.inBlock j :: k) = if j == id then some k else exitTo id k := rfl
@[simp] theorem exit_code {id : Nat} {c : Code} : exitTo id (.code c :: k) = exitTo id k := rfl
@[simp] theorem exit_loop {id : Nat} {c : Code} : exitTo id (.inLoop c :: k) = exitTo id k := rfl
def lnth : List Oper → Nat → Option Tmp
  | [], _ => none
  | o :: _, 0 => o.dst
  | _ :: l, n + 1 => lnth l n
theorem lnth_eq : ∀ (l : List Oper) (j : Nat), (l[j]?).bind (·.dst) = lnth l j
  | [], j => by cases j <;> rfl
  | o :: l, 0 => rfl
  | o :: l, n + 1 => lnth_eq l n
@[simp ↓] theorem lnth_zero {dst : Option Tmp} {op : Op} {ty : TypeId} {pos : String} {after : Array Edge} {g : Option (Nat × Bool)} {l : List Oper} : lnth (⟨dst, op, ty, pos, after, g⟩ :: l) 0 = dst := rfl
@[simp ↓] theorem lnth_succ {o : Oper} {l : List Oper} {n : Nat} : lnth (o :: l) (n + 1) = lnth l n := rfl
def gval (v : Value) (want : Bool) : Option Bool := match v with
  | .bool b => some (b == want)
  | v => if flatB v then some false else none
def gdst (d : Option Tmp) (fr : Fr) (want : Bool) : Option Bool := match d with
  | none => some false
  | some d => gval (fr d) want
@[simp ↓] theorem guardx_mk {l : List Oper} {j : Nat} {want : Bool} : guardx ⟨l⟩ fr j want = gdst (lnth l j) fr want := by
  unfold guardx
  rw [← lnth_eq]
  show (match (l.toArray[j]?).bind (·.dst) with | none => _ | some d => _) = _
  rw [List.getElem?_toArray]
  cases (l[j]?).bind (·.dst) <;> rfl
@[simp] theorem gdst_some {d : Nat} {want : Bool} : gdst (some d) fr want = gval (fr d) want := rfl
@[simp] theorem gval_true {b : Bool} : gval (.bool b) true = some b := by cases b <;> rfl
@[simp] theorem gval_false {b : Bool} : gval (.bool b) false = some (!b) := by cases b <;> rfl
@[simp] theorem gval_undef {want : Bool} : gval undef want = some false := rfl
theorem gstep_b {b : Bool} : GStep P E fn (some b) op d all os k fr H Q ↔ (b = true → Step P E fn (lopxB P (LC P E) op fr H) d all os k fr Q) ∧ (b = false → d < fn.ntmps ∧ ROps P E fn all os k (upd fr d undef) H Q) := by cases b <;> simp
theorem gmstep_b {b : Bool} : GMStep P E fn (some b) op d all H0 os k fr H Q ↔ (b = true → MStep P E fn (lmixx P (LC P E) op fr H0 H) d all H0 os k fr Q) ∧ (b = false → d < fn.ntmps ∧ RMix P E fn all H0 os k (upd fr d undef) H Q) := by cases b <;> simp
attribute [simp low] gstep_b gmstep_b
/-! ### operations -/
@[simp ↓] theorem lopx_move {x : Operand} : lopx P T (.move x) fr H = some (ev fr x, H) := rfl
@[simp ↓] theorem lopx_assign {x : Operand} : lopx P T (.assign x) fr H = some (ev fr x, H) := rfl
def lpick (c a b : Value) (H : LH) : Option (Value × LH) := match c with | .bool t => some (if t then a else b, H) | _ => none
@[simp ↓] theorem lopx_pick {c x y : Operand} : lopx P T (.pick c x y) fr H = lpick (ev fr c) (ev fr x) (ev fr y) H := rfl
@[simp] theorem lpick_bool {t : Bool} {a b : Value} : lpick (.bool t) a b H = some (if t = true then a else b, H) := rfl
def withH (v : Option Value) (H : LH) : Option (Value × LH) := v.map fun v => (v, H)
@[simp] theorem withH_some {v : Value} : withH (some v) H = some (v, H) := rfl
@[simp ↓] theorem lopx_bin {op : BinOp} {t yt : TypeId} {x y : Operand} : lopx P T (.binOp op t x y yt) fr H = withH (lbin P op t (ev fr x) (ev fr y)) H := rfl
def lidx (P : Program) (t : TypeId) (x i : Value) : Option Value := if flatB x && flatB i then pureFlat P (Instr.index t x i) else none
@[simp ↓] theorem lopx_index {t : TypeId} {x i : Operand} : lopx P T (.index t x i) fr H = withH (lidx P t (ev fr x) (ev fr i)) H := by
  show (if flatB (ev fr x) && flatB (ev fr i) then _ else _) = withH (lidx _ _ _ _) _
  unfold lidx withH; split <;> rfl
def lun (P : Program) (op : UnOp) (x : Value) : Option Value := if flatB x then pureFlat P (Op.unary op x) else none
@[simp ↓] theorem lopx_un {op : UnOp} {t : TypeId} {x : Operand} : lopx P T (.unOp op t x) fr H = withH (lun P op (ev fr x)) H := by
  show (if flatB (ev fr x) then _ else _) = withH (lun _ _ _) _
  unfold lun withH; split <;> rfl
def lconv (P : Program) (s d : TypeId) (x : Value) (H : LH) : Option Value := if flatB x then pureFlat P (convert s d x) else lbstr P s d x H
@[simp ↓] theorem lopx_conv {s d : TypeId} {x : Operand} : lopx P T (.convert s d x) fr H = withH (lconv P s d (ev fr x) H) H := by
  show (if flatB (ev fr x) then _ else _) = withH (lconv _ _ _ _ _) _
  unfold lconv withH; split <;> rfl
def lextract (x : Value) (i : Nat) : Option Value := match x with | .tuple vs => vs[i]? | _ => none
@[simp ↓] theorem lopx_extract {x : Operand} {i : Nat} : lopx P T (.extract x i) fr H = withH (lextract (ev fr x) i) H := by
  show (match ev fr x with | .tuple vs => _ | _ => none) = withH (lextract _ _) _
  cases ev fr x <;> rfl
@[simp] theorem lextract_0 {a : Value} {l : List Value} : lextract (.tuple ⟨a :: l⟩) 0 = some a := rfl
@[simp] theorem lextract_1 {a b : Value} {l : List Value} : lextract (.tuple ⟨a :: b :: l⟩) 1 = some b := rfl
@[simp] theorem lextract_2 {a b c : Value} {l : List Value} : lextract (.tuple ⟨a :: b :: c :: l⟩) 2 = some c := rfl
@[simp] theorem lextract_3 {a b c d : Value} {l : List Value} : lextract (.tuple ⟨a :: b :: c :: d :: l⟩) 3 = some d := rfl
@[simp ↓] theorem lopx_call {f : Operand} {args : List Operand} {ts : Array TypeId} : lopx P T (.call ⟨.value f, ⟨args⟩, ts⟩) fr H = lcallee P T (ev fr f) (args.map (ev fr)) H := rfl
@[simp ↓] theorem lopx_builtin {b : Builtin} {args : List Operand} {ts : List TypeId} : lopx P T (.call ⟨.builtin b, ⟨args⟩, ⟨ts⟩⟩) fr H = lbuiltin P b ts (args.map (ev fr)) H := rfl
@[simp] theorem lcallee_func {g : FuncId} {args : List Value} : lcallee P T (.func (.func g) #[] #[]) args H = T g args H := by simp [lcallee]
/-! ### operations that stand in a row -/
@[simp ↓] theorem lopxB_move {x : Operand} : lopxB P T (.move x) fr H = lopx P T (.move x) fr H := rfl
@[simp ↓] theorem lopxB_assign {x : Operand} : lopxB P T (.assign x) fr H = lopx P T (.assign x) fr H := rfl
@[simp ↓] theorem lopxB_pick {c x y : Operand} : lopxB P T (.pick c x y) fr H = lopx P T (.pick c x y) fr H := rfl
@[simp ↓] theorem lopxB_alloc {t : TypeId} : lopxB P T (.alloc t) fr H = lopx P T (.alloc t) fr H := rfl
@[simp ↓] theorem lopxB_box {t : TypeId} {x : Operand} : lopxB P T (.box t x) fr H = lopx P T (.box t x) fr H := rfl
@[simp ↓] theorem lopxB_build {t : TypeId} {ps : Array (Nat × Operand)} : lopxB P T (.build t ps) fr H = lopx P T (.build t ps) fr H := rfl
@[simp ↓] theorem lopxB_buildSlice {t : TypeId} {n : Nat} {ps : Array (Nat × Operand)} : lopxB P T (.buildSlice t n ps) fr H = lopx P T (.buildSlice t n ps) fr H := rfl
@[simp ↓] theorem lopxB_load {t : TypeId} {x : Operand} : lopxB P T (.load t x) fr H = lopx P T (.load t x) fr H := rfl
@[simp ↓] theorem lopxB_store {t : TypeId} {x y : Operand} : lopxB P T (.store t x y) fr H = lopx P T (.store t x y) fr H := rfl
@[simp ↓] theorem lopxB_nilCheck {x : Operand} : lopxB P T (.nilCheck x) fr H = lopx P T (.nilCheck x) fr H := rfl
@[simp ↓] theorem lopxB_binOp {o : BinOp} {t u : TypeId} {x y : Operand} : lopxB P T (.binOp o t x y u) fr H = lopx P T (.binOp o t x y u) fr H := rfl
@[simp ↓] theorem lopxB_unOp {o : UnOp} {t : TypeId} {x : Operand} : lopxB P T (.unOp o t x) fr H = lopx P T (.unOp o t x) fr H := rfl
@[simp ↓] theorem lopxB_makeFunc {f : Fn} {g c : Array Operand} : lopxB P T (.makeFunc f g c) fr H = lopx P T (.makeFunc f g c) fr H := rfl
@[simp ↓] theorem lopxB_makeSlice {t : TypeId} {x y : Operand} : lopxB P T (.makeSlice t x y) fr H = lopx P T (.makeSlice t x y) fr H := rfl
@[simp ↓] theorem lopxB_slice {t : TypeId} {x : Operand} {lo hi mx : Option Operand} : lopxB P T (.slice t x lo hi mx) fr H = lopx P T (.slice t x lo hi mx) fr H := rfl
@[simp ↓] theorem lopxB_fieldAddr {t : TypeId} {x : Operand} {i : Nat} : lopxB P T (.fieldAddr t x i) fr H = lopx P T (.fieldAddr t x i) fr H := rfl
@[simp ↓] theorem lopxB_field {t : TypeId} {x : Operand} {i : Nat} : lopxB P T (.field t x i) fr H = lopx P T (.field t x i) fr H := rfl
@[simp ↓] theorem lopxB_indexAddr {t : TypeId} {x y : Operand} : lopxB P T (.indexAddr t x y) fr H = lopx P T (.indexAddr t x y) fr H := rfl
@[simp ↓] theorem lopxB_index {t : TypeId} {x y : Operand} : lopxB P T (.index t x y) fr H = lopx P T (.index t x y) fr H := rfl
@[simp ↓] theorem lopxB_extract {x : Operand} {i : Nat} : lopxB P T (.extract x i) fr H = lopx P T (.extract x i) fr H := rfl
@[simp ↓] theorem lopxB_call {c : Call} : lopxB P T (.call c) fr H = lopx P T (.call c) fr H := rfl
/-- a conversion -/
def lcvB (P : Program) (s d : TypeId) (v : Value) (H : LH) : Option (Value × LH) := match lbytesM P s d v H with
  | some r => some r
  | none => withH (lconv P s d v H) H
@[simp ↓] theorem lopxB_convert {s t : TypeId} {x : Operand} : lopxB P T (.convert s t x) fr H = lcvB P s t (ev fr x) H := by
  show (match lbytesM P s t (ev fr x) H with | some r => some r | none => lopx P T (.convert s t x) fr H) = _
  rw [lopx_conv]; rfl
theorem lbytes_no {s t : TypeId} {v : Value} (h : ∀ bs, v ≠ .string bs) : lbytes P s t v H = none := by
  unfold lbytes
  split
  · exact absurd rfl (h _)
  · rfl
theorem lcvB_no {s t : TypeId} {v : Value} (h : ∀ bs, v ≠ .string bs) (h2 : ∀ a n c, v ≠ .slice a n c) : lcvB P s t v H = withH (lconv P s t v H) H := by
  have e1 := lbytes_no (P := P) (H := H) (s := s) (t := t) h
  have e2 : lmark P s t v H = none := by
    unfold lmark
    split
    · exact absurd rfl (h2 _ _ _)
    · rfl
  unfold lcvB lbytesM; rw [e1, e2]
@[simp] theorem lcvB_int {s t : TypeId} {kd : IntKind} {n : Int} : lcvB P s t (.int kd n) H = withH (lconv P s t (.int kd n) H) H := lcvB_no (fun _ h => by cases h) (fun _ _ _ h => by cases h)
@[simp] theorem lcvB_float {s t : TypeId} {kd : FloatKind} {n : Nat} : lcvB P s t (.float kd n) H = withH (lconv P s t (.float kd n) H) H := lcvB_no (fun _ h => by cases h) (fun _ _ _ h => by cases h)
@[simp] theorem lcvB_slice {s t : TypeId} {a : Option Addr} {n c : Nat} (hne : s ≠ t) : lcvB P s t (.slice a n c) H = withH (lconv P s t (.slice a n c) H) H := by
  have e1 := lbytes_no (P := P) (H := H) (s := s) (t := t) (v := .slice a n c) (fun _ h => by cases h)
  have e2 : lmark P s t (.slice a n c) H = none := by
    unfold lmark
    split
    · split
      · split
        · rw [if_neg (fun h => hne h.1)]
        · rfl
      · rfl
    · rfl
  unfold lcvB lbytesM; rw [e1, e2]
theorem lcvB_mark {s e : TypeId} {l n c : Nat} {b : LB} (hs : P.underlying s = some (.slice e)) (he : P.underlying e = some (.int .u8)) (hz : sz P e = some 1) (hb : H.get l = some b) (hrw : b.rw = true) (hel : b.elem = e) (hn : 0 < n) : lcvB P s s (.slice (some ⟨l, 0, none⟩) n c) H = some (.slice (some ⟨l, 0, none⟩) n c, H.set l ⟨b.cells, MK P e, true⟩) := by
  have e1 := lbytes_no (P := P) (H := H) (s := s) (t := s) (v := .slice (some ⟨l, 0, none⟩) n c) (fun _ h => by cases h)
  unfold lcvB lbytesM lmark; rw [e1]
  simp only [hs, hb, he]
  rw [if_pos ⟨trivial, hrw, hel, hz, hn⟩]
@[simp] theorem lcvB_undef {s t : TypeId} : lcvB P s t undef H = withH (lconv P s t undef H) H := lcvB_no (fun _ h => by cases h) (fun _ _ _ h => by cases h)
theorem strCells_eq (l : List UInt8) : Lib.strCells ⟨l.toArray⟩ = l.map fun b => Value.int .u8 b.toNat := by simp [Lib.strCells]
@[simp] theorem lcvB_bytes {s t e : TypeId} {l : List UInt8} (hs : P.underlying s = some .string) (hd : P.underlying t = some (.slice e)) (he : P.underlying e = some (.int .u8)) (hz : sz P e = some 1) : lcvB P s t (str l) H = some (.slice (some ⟨H.n, 0, none⟩) l.length l.length, H.new ⟨l.map fun b => Value.int .u8 b.toNat, MK P e, decide (l.length ≤ maxLen)⟩) := by
  unfold lcvB lbytesM lbytes str
  simp only [hs, hd, he, hz, strCells_eq, if_true]
  rw [show (⟨l.toArray⟩ : ByteArray).size = l.length by show l.toArray.size = _; simp]
@[simp] theorem lcvB_strs {s t : TypeId} {l : List UInt8} (hd : P.underlying t = some .string) : lcvB P s t (str l) H = withH (lconv P s t (str l) H) H := by
  have : lbytes P s t (str l) H = none := by
    unfold lbytes
    split
    · rename_i h _; rw [hd] at h; cases h
    · rfl
  have e2 : lmark P s t (str l) H = none := by
    unfold lmark
    split
    · rename_i h; cases h
    · rfl
  unfold lcvB lbytesM; rw [this, e2]
/-! ### values -/
@[simp] theorem flat_int {kd : IntKind} {n : Int} : flatB (.int kd n) = true := by simp [flatB, flat1B, atomB, str]
@[simp] theorem flat_bool {b : Bool} : flatB (.bool b) = true := by simp [flatB, flat1B, atomB, str]
@[simp] theorem flat_str {l : List UInt8} : flatB (str l) = true := by simp [flatB, flat1B, atomB, str]
@[simp] theorem flat_string {s : ByteArray} : flatB (.string s) = true := by simp [flatB, flat1B, atomB, str]
@[simp] theorem flat_nil : flatB (.pointer none) = true := by simp [flatB, flat1B, atomB, str]
@[simp] theorem flat_nilslice : flatB (.slice none 0 0) = true := by simp [flatB, flat1B, atomB, str]
@[simp] theorem wrap64_in {n : Int} (h1 : -9223372036854775808 ≤ n) (h2 : n ≤ 9223372036854775807) : IntKind.i64.wrap n = n := IntWalk.i64_in _ ⟨h1, h2⟩
theorem lbin_ii {op : BinOp} {t : TypeId} {kd : IntKind} {a b : Int} {v : Value} (h : pureVal P (binOp op t (.int kd a) (.int kd b)) = some v) (hv : flatB v = true) : lbin P op t (.int kd a) (.int kd b) = some v := by
  have e : pureVal P (do eqGuard op t (.tmp 0) (.tmp 0) (.int kd a) (.int kd b); binOp op t (.int kd a) (.int kd b) : Sem Value) = some v := by
    rw [← h]; cases op <;> rfl
  show pureFlat P (do eqGuard op t (.tmp 0) (.tmp 0) _ _; binOp op t _ _) = some v
  unfold pureFlat
  rw [e]
  simp only [hv, if_true]
variable {t : TypeId} {kd : IntKind} {a b : Int}
@[simp] theorem lbin_add : lbin P .add t (.int kd a) (.int kd b) = some (.int kd (kd.wrap (a + b))) := lbin_ii (by simp [binOp, Op.intArith]) rfl
@[simp] theorem lbin_sub : lbin P .sub t (.int kd a) (.int kd b) = some (.int kd (kd.wrap (a - b))) := lbin_ii (by simp [binOp, Op.intArith]) rfl
@[simp] theorem lbin_mul : lbin P .mul t (.int kd a) (.int kd b) = some (.int kd (kd.wrap (a * b))) := lbin_ii (by simp [binOp, Op.intArith]) rfl
@[simp] theorem lbin_quo (h : b ≠ 0) : lbin P .quo t (.int kd a) (.int kd b) = some (.int kd (kd.wrap (a.tdiv b))) := lbin_ii (by simp [binOp, Op.intDiv, h]) rfl
@[simp] theorem lbin_rem (h : b ≠ 0) : lbin P .rem t (.int kd a) (.int kd b) = some (.int kd (a.tmod b)) := lbin_ii (by simp [binOp, Op.intDiv, h]) rfl
@[simp] theorem lbin_eq : lbin P .eql t (.int kd a) (.int kd b) = some (.bool (decide (a = b))) := lbin_ii (by by_cases h : a = b <;> simp [binOp, Op.intCmp, h]) rfl
@[simp] theorem lbin_ne : lbin P .neq t (.int kd a) (.int kd b) = some (.bool (decide (a ≠ b))) := lbin_ii (by
  simp only [binOp, Op.intCmp, ne_eq, not_true_eq_false, if_false]
  show some (Value.bool (a != b)) = _
  congr 2
  by_cases h : a = b <;> simp [h]) rfl
@[simp] theorem lbin_lt : lbin P .lss t (.int kd a) (.int kd b) = some (.bool (decide (a < b))) := lbin_ii (by simp [binOp, Op.intCmp]) rfl
@[simp] theorem lbin_le : lbin P .leq t (.int kd a) (.int kd b) = some (.bool (decide (a ≤ b))) := lbin_ii (by simp [binOp, Op.intCmp]) rfl
@[simp] theorem lbin_gt : lbin P .gtr t (.int kd a) (.int kd b) = some (.bool (decide (b < a))) := lbin_ii (by simp [binOp, Op.intCmp]) rfl
@[simp] theorem lbin_ge : lbin P .geq t (.int kd a) (.int kd b) = some (.bool (decide (b ≤ a))) := lbin_ii (by simp [binOp, Op.intCmp]) rfl
theorem lbin_ss {op : BinOp} {t : TypeId} {a b : List UInt8} {v : Value} (h : pureVal P (binOp op t (str a) (str b)) = some v) (hv : flatB v = true) : lbin P op t (str a) (str b) = some v := by
  have e : pureVal P (do eqGuard op t (.tmp 0) (.tmp 0) (str a) (str b); binOp op t (str a) (str b) : Sem Value) = some v := by
    rw [← h]; cases op <;> rfl
  show pureFlat P (do eqGuard op t (.tmp 0) (.tmp 0) _ _; binOp op t _ _) = some v
  unfold pureFlat
  rw [e]
  simp only [hv, if_true]
theorem ba_list (l : List UInt8) : (⟨l.toArray⟩ : ByteArray).toList = l := by rw [ba_toList]
theorem ba_size (l : List UInt8) : (⟨l.toArray⟩ : ByteArray).size = l.length := by show l.toArray.size = _; simp
variable {x y : List UInt8}
@[simp] theorem lbin_seq : lbin P .eql t (str x) (str y) = some (.bool (decide (x = y))) := lbin_ss (by
  simp only [str, binOp, Op.stringOp, ba_list]
  show some (Value.bool (x == y)) = _
  by_cases h : x = y <;> simp [h]) rfl
@[simp] theorem lbin_sne : lbin P .neq t (str x) (str y) = some (.bool (decide (x ≠ y))) := lbin_ss (by
  simp only [str, binOp, Op.stringOp, ba_list]
  show some (Value.bool (!(x == y))) = _
  by_cases h : x = y <;> simp [h]) rfl
@[simp] theorem lbin_cat (h : x.length + y.length ≤ 9223372036854775807) : lbin P .add t (str x) (str y) = some (str (x ++ y)) := lbin_ss (by
  simp only [str, binOp, Op.stringOp, ba_size]
  rw [if_neg (by rw [show IntKind.max .i64 = 9223372036854775807 from rfl]; omega)]
  show some (Value.string _) = _
  congr 2) rfl
theorem lbin_bb {op : BinOp} {t : TypeId} {a b : Bool} {v : Value} (h : pureVal P (binOp op t (.bool a) (.bool b)) = some v) (hv : flatB v = true) : lbin P op t (.bool a) (.bool b) = some v := by
  have e : pureVal P (do eqGuard op t (.tmp 0) (.tmp 0) (.bool a) (.bool b); binOp op t (.bool a) (.bool b) : Sem Value) = some v := by
    rw [← h]; cases op <;> rfl
  show pureFlat P (do eqGuard op t (.tmp 0) (.tmp 0) _ _; binOp op t _ _) = some v
  unfold pureFlat
  rw [e]
  simp only [hv, if_true]
@[simp] theorem lun_not {a : Bool} : lun P .not (.bool a) = some (.bool (!a)) := rfl
@[simp] theorem lun_neg {a : Int} : lun P .neg (.int kd a) = some (.int kd (kd.wrap (0 - a))) := rfl
/-- a string's byte -/
def at_ (l : List UInt8) (i : Int) : UInt8 := l.getD i.toNat 0
theorem lidx_str (hu : P.underlying t = some .string) {i : Int} (h0 : 0 ≤ i) (h1 : i < x.length) : lidx P t (str x) (.int kd i) = some (.int .u8 (at_ x i).toNat) := by
  have hlt : i.toNat < x.length := by omega
  have e : (⟨x.toArray⟩ : ByteArray)[i.toNat]? = some (at_ x i) := by
    unfold at_
    have : (⟨x.toArray⟩ : ByteArray)[i.toNat]? = x[i.toNat]? := by
      rw [getElem?_def, getElem?_def]
      simp only [ba_size]
      rfl
    rw [this, List.getD_eq_getElem?_getD, List.getElem?_eq_getElem hlt]; rfl
  have hp : pureVal P (Instr.index t (str x) (.int kd i)) = some (.int .u8 (at_ x i).toNat) := by
    simp only [Instr.index, str, asIntOf, pureVal_bind, pureVal_pure, Option.bind_some, pureVal_und, hu]
    rw [if_pos h0, e]; rfl
  show pureFlat P _ = _
  unfold pureFlat
  rw [hp]; rfl
theorem lbuiltin_len_str (hu : P.underlying t = some .string) : lbuiltin P .len [t] [str x] H = some (.int .i64 x.length, H) := by
  simp only [lbuiltin, str, hu, ba_size]
theorem lbuiltin_len_slice {e : TypeId} (hu : P.underlying t = some (.slice e)) {ad : Option Addr} {n c : Nat} : lbuiltin P .len [t] [.slice ad n c] H = some (.int .i64 n, H) := by
  simp only [lbuiltin, hu]
end
end Go.Lg
/-
  bytes.Repeat of one byte, by the walk.
-/
set_option linter.unusedSimpArgs false
set_option linter.unusedVariables false
set_option maxRecDepth 1000000
namespace Go.Proofs.YtombmblgmbjieaaGreatDoor
open Go.RowKit Go.Lib Go.Tg
/-- 'copy(b[bp:], b[:m])' of a buffer that is filled with one byte -/
theorem copy_self {P : Program} (w0 wr : World) (h N k : Nat) (c : UInt8) (t e : TypeId) (hu : P.underlying t = some (.slice e)) (hs : (P.info? e).map (·.size) = some 1) (hb : Lib.Buf w0 wr h N (List.replicate k c)) (hk : 0 < k) (hN : k < N) :
    ∃ wr', (∀ ty, (Builtin.copy_ #[t, t] ty #[Lib.tailV h N k, .slice (some ⟨h, 0, none⟩) k N]).run P wr = .ok (.int .i64 ((min k (N - k) : Nat) : Int)) wr') ∧ Lib.Buf w0 wr' h N (List.replicate (k + min k (N - k)) c) := by
  obtain ⟨m, hm⟩ : ∃ m, m = min k (N - k) := ⟨_, rfl⟩
  rw [← hm]
  have hne : ¬ N = k := by omega
  have hr := fun ty => run_copy_cells (P := P) wr t t ty e h k (N - k) (N - k) ⟨h, 0, none⟩ k N ((List.replicate m c).map fun x => Value.int .u8 (x.toNat : Int)) hu hs (by simp; omega)
    (fun j u hj => by
      rw [List.getElem?_map] at hj
      obtain ⟨x, hx, rfl⟩ := Option.map_eq_some_iff.1 hj
      have hjm : j < m := by simpa using (List.getElem?_eq_some_iff.1 hx).1
      have hxc : x = c := by
        have := (List.getElem?_eq_some_iff.1 hx).2
        rw [List.getElem_replicate] at this; exact this.symm
      subst hxc
      have e : (⟨h, 0, none⟩ : Addr).add j = ⟨h, j, none⟩ := by
        unfold Addr.add; split
        · rename_i hz; subst hz; rfl
        · simp
      rw [e]
      exact hb.holds j x (by rw [List.getElem?_replicate, if_pos (by omega)]))
    (fun j hj => by simp at hj; exact hb.there _ (by omega)) (fun j hj => by simp at hj; exact hb.free _ (by omega))
    (fun u hu' => by obtain ⟨x, _, rfl⟩ := List.mem_map.1 hu'; rfl)
  simp only [List.length_map, List.length_replicate] at hr
  refine ⟨_, by unfold Lib.tailV; rw [if_neg hne]; exact hr, ?_⟩
  have hin := World.cell?_setCells_in h ((List.replicate m c).map fun x => Value.int .u8 (x.toNat : Int)) k wr (fun j hj => by simp at hj; exact hb.there _ (by omega))
  have hout := World.cell?_setCells_out h ((List.replicate m c).map fun x => Value.int .u8 (x.toNat : Int)) k wr
  simp only [List.length_map, List.length_replicate] at hin hout
  refine ⟨?_, ?_, ?_, ?_, by simp; omega⟩
  · exact Lib.below_setCells h (Nat.le_refl _) _ _ hb.below
  · intro j hj
    by_cases h1 : k ≤ j ∧ j < k + m
    · obtain ⟨d, rfl⟩ : ∃ d, j = k + d := ⟨j - k, by omega⟩
      rw [hin d (by omega)]; rfl
    · rw [hout ⟨h, j, none⟩ (fun _ _ => by show j < _ ∨ _ ≤ j; omega)]
      exact hb.there j hj
  · intro j hj
    rw [World.frozen?_setCells]
    exact hb.free j hj
  · intro j x hx
    have hj : j < k + m := by simpa using (List.getElem?_eq_some_iff.1 hx).1
    have hxc : x = c := by
      have := (List.getElem?_eq_some_iff.1 hx).2
      rw [List.getElem_replicate] at this; exact this.symm
    subst hxc
    by_cases h1 : j < k
    · rw [hout ⟨h, j, none⟩ (fun _ _ => Or.inl h1)]
      exact hb.holds j x (by rw [List.getElem?_replicate, if_pos h1])
    · obtain ⟨d, rfl⟩ : ∃ d, j = k + d := ⟨j - k, by omega⟩
      rw [hin d (by omega)]
      simp
theorem step_copy {P : Program} {ops : Array Oper} {o : Oper} {a : Act} {w w' : World} {K : Act → World → Prop} {Q : Exit → Act → World → Prop} {E : Prop} {x y v : Value} (hg : o.guard = none) (d s : Operand) (t : TypeId)
    (hop : o.op = Op.call { callee := Callee.builtin Builtin.copy, args := #[d, s], argTypes := #[t, t] }) (hd : a.eval d = x) (hs : a.eval s = y) (hrun : ∀ ty, (Builtin.copy_ #[t, t] ty #[x, y]).run P w = .ok v w') (hK : K (a.put o.dst v) w') :
    if Region.wanted o (yielded ops a.tmps) = true then Oper.wp P o a w K Q else E := by
  have hw : Region.wanted o (yielded ops a.tmps) = true := by simp [Region.wanted, hg]
  rw [if_pos hw]
  unfold Oper.wp
  simp [execOp, hop, resolve, invoke, builtin, hd, hs, hrun, Result.andThen]
  exact hK
theorem buf_drew {w0 wr : World} {h N : Nat} {l : List UInt8} (hb : Lib.Buf w0 wr h N l) : Lib.Buf w0 wr.drew h N l := ⟨⟨hb.below.os, hb.below.tape, hb.below.output, hb.below.size, hb.below.block⟩, hb.there, hb.free, hb.holds, hb.fits⟩
theorem mul_w (n : Nat) (h : n < 18446744073709551616) (w : World) : Calls Tryz.prog 197 #[.int .u64 1, .int .u64 n] w fun e w' => e = .returned (.tuple #[.int .u64 0, .int .u64 n]) ∧ w' = w :=
  (Tryz.bits_Mul 1 n (by omega) h w).mono fun e w' ⟨h1, h2⟩ => ⟨by
    rw [h1, Nat.one_mul, Nat.div_eq_of_lt h, Nat.mod_eq_of_lt h]; rfl, h2⟩
set_option maxHeartbeats 4000000 in
theorem brepeat_w (n kb cp : Nat) (c : UInt8) (h2 : 2 ≤ n) (h8 : n ≤ 100) (w : World) (hc : w.cell? ⟨kb, 0, none⟩ = some (.int .u8 c.toNat)) : Calls Tryz.prog 261 #[.slice (some ⟨kb, 0, none⟩) 1 cp, .int .i64 n] w fun e w' => e = .returned (.slice (some ⟨w.heap.size, 0, none⟩) n n) ∧ Lib.Buf w w' w.heap.size n (List.replicate n c) := by
  have t3 := Tryz.underlying3
  have t4 := Tryz.underlying4
  have t5 := Tryz.underlying5
  have t9 := Tryz.underlying9
  have tB := Tryz.underlying57
  have tu := Tryz.underlying134
  have hs5 : (Tryz.prog.info? 5).map (·.size) = some 1 := by kernel_rfl
  have f0 : ((n : Int) == 0) = false := beq_eq_false_iff_ne.2 (by omega)
  obtain ⟨cs, hrunM, hle, _⟩ := Lib.run_makeNoZero (P := Tryz.prog) w #[3] 57 5 tB n (by omega)
  have hcall : (callFunc 268 #[.int .i64 (n : Int)]).run Tryz.prog w = .ok (.value (.slice (some ⟨w.heap.size, 0, none⟩) n cs.size)) ((w.alloc (.cells cs 5)).drewN 2) := by
    rw [run_callFunc_extern Tryz.func268 (by kernel_rfl) (by kernel_rfl) (by kernel_rfl) (e := Extern.BytealgMakeNoZero.makeNoZero #[3] #[57]) (by kernel_rfl), hrunM]
    rfl
  have i0 : (0 : Int) ≤ (n : Int) := by omega
  have i1 : (n : Int) ≤ (cs.size : Int) := by omega
  have i2 : ¬ (9223372036854775807 : Int) < (n : Int) := by omega
  have i3 : ¬ (8192 : Int) < (n : Int) := by omega
  have B0 := Lib.Buf.start w cs 5 n 2 hle
  have hc0 : ((w.alloc (.cells cs 5)).drewN 2).cell? ⟨kb, 0, none⟩ = some (.int .u8 c.toNat) := Lib.Below.cellOf B0.below hc (Nat.le_refl _)
  obtain ⟨w1, hr1, B1⟩ := Lib.copy_part (P := Tryz.prog) w _ w.heap.size n [] [c] (.slice (some ⟨kb, 0, none⟩) 1 cp) 57 3 5 tB hs5 (Nat.le_refl _) B0 ⟨some ⟨kb, 0, none⟩, cp, rfl, (by intro h; cases h), fun a ha i x hx => by
    cases ha
    cases i with
    | zero => simp at hx; subst hx; exact hc
    | succ i => simp at hx⟩ (by simp; omega)
  rw [List.length_nil, Lib.tailV_zero] at hr1
  rw [List.nil_append] at B1
  have HB1 : Aside (Lib.Buf w w1 w.heap.size n [c]) := B1
  clear B1 B0 hrunM
  go_enter Tryz.func261, Tryz.ntmps261
  go_wp2_with (first | (go_at_call 197; refine (mul_w n (by omega) _).mono ?_; rintro e w' ⟨rfl, hw⟩; rw [hw]) | (at_builtin; refine Lib.wpList_copy_run _ rfl _ _ 57 57 rfl _ _ rfl rfl hr1 ?_))
  go_loopg [10, 11] n (fun g s10 s11 wr => ∃ bp : Nat, 1 ≤ bp ∧ bp ≤ n ∧ n - bp ≤ g ∧ s10 = .int .i64 bp ∧ Aside (Lib.Buf w wr w.heap.size n (List.replicate bp c)))
  case atStart => exact ⟨1, Nat.le_refl _, by omega, by omega, rfl, HB1⟩
  case round =>
    obtain ⟨bp, b1, b2, b3, rfl, HB⟩ := hrel
    by_cases hlt : bp < n
    · have hz : (bp : Int) < (n : Int) := by omega
      have hmin : min (bp : Int) (n : Int) = (bp : Int) := by omega
      have hsl1 : ∀ W, (Instr.slice 57 (.slice (some ⟨w.heap.size, 0, none⟩) n n) (some (.int .i64 (bp : Int))) none none).run Tryz.prog W = .ok (Lib.tailV w.heap.size n bp) W := fun W => Lib.run_slice_tailV W 57 5 tB (fun w => by kernel_rfl) _ n bp (by omega)
      obtain ⟨w2, hr2, B2⟩ := copy_self (P := Tryz.prog) w wr.drew w.heap.size n bp c 57 5 tB hs5 (buf_drew HB.out) (by omega) hlt
      have HB2 : Aside (Lib.Buf w w2 w.heap.size n (List.replicate (bp + min bp (n - bp)) c)) := B2
      clear B2
      go_wp2
      go_region_law (fail)
      have hwr : IntKind.i64.wrap ((bp : Int) + ((min bp (n - bp) : Nat) : Int)) = ((bp + min bp (n - bp) : Nat) : Int) := by
        rw [Go.Lg.wrap64_in (by omega) (by omega)]; omega
      go_wp2
      go_roundg (n - (bp + min bp (n - bp)))
      case measure => omega
      case rel => exact ⟨bp + min bp (n - bp), by omega, by omega, Nat.le_refl _, congrArg (Value.int .i64) hwr, HB2⟩
    · obtain rfl : bp = n := by omega
      have hz : ¬ ((bp : Int) < (bp : Int)) := by omega
      go_wp2
      go_ret
      exact ⟨rfl, HB.out⟩
end Go.Proofs.YtombmblgmbjieaaGreatDoor
/-
  pack.with, of no gap, by the walk.
-/
set_option linter.unusedSimpArgs false
set_option linter.unusedVariables false
set_option maxRecDepth 1000000
namespace Go.Proofs.YtombmblgmbjieaaGreatDoor
open Go.RowKit Go.Lib Go.Tg
section
variable {P : Program} {ops : Array Oper} {o : Oper} {a : Act} {w w' : World} {K : Act → World → Prop} {Q : Exit → Act → World → Prop} {E : Prop} {x y v : Value} {rest : List Oper}
theorem wpList_app (hg : o.guard = none) (d s : Operand) (t u : TypeId) (hop : o.op = Op.call { callee := Callee.builtin Builtin.append, args := #[d, s], argTypes := #[t, u] }) (hd : a.eval d = x) (hs : a.eval s = y)
    (hrun : ∀ ty, (Builtin.append_ #[t, u] ty #[x, y]).run P w = .ok v w') (h : wpList P ops Q rest (a.put o.dst v) w') : wpList P ops Q (o :: rest) a w := by
  refine wpList_plain hg fun K hK => ?_
  unfold Oper.wp
  simp [execOp, hop, resolve, invoke, builtin, hd, hs, hrun, Result.andThen]
  exact hK _ _ h
theorem step_app (hg : o.guard = none) (d s : Operand) (t u : TypeId) (hop : o.op = Op.call { callee := Callee.builtin Builtin.append, args := #[d, s], argTypes := #[t, u] }) (hd : a.eval d = x) (hs : a.eval s = y)
    (hrun : ∀ ty, (Builtin.append_ #[t, u] ty #[x, y]).run P w = .ok v w') (hK : K (a.put o.dst v) w') : if Region.wanted o (yielded ops a.tmps) = true then Oper.wp P o a w K Q else E := by
  have hw : Region.wanted o (yielded ops a.tmps) = true := by simp [Region.wanted, hg]
  rw [if_pos hw]
  unfold Oper.wp
  simp [execOp, hop, resolve, invoke, builtin, hd, hs, hrun, Result.andThen]
  exact hK
end
theorem info8 : ∃ i, Tryz.prog.info? 5 = some i ∧ i.zero = some (.int .u8 0) ∧ i.size = 1 ∧ i.bytes = 1 := by
  have h : (Tryz.prog.info? 5).map (fun i => (i.zero, i.size, i.bytes)) = some (some (.int .u8 0), 1, 1) := by kernel_rfl
  obtain ⟨i, hi, hz⟩ := Option.map_eq_some_iff.1 h
  simp only [Prod.mk.injEq] at hz
  exact ⟨i, hi, hz.1, hz.2.1, hz.2.2⟩
theorem add0 (b j : Nat) : (⟨b, 0, none⟩ : Addr).add j = ⟨b, j, none⟩ := by
  unfold Addr.add; split
  · rename_i hz; subst hz; rfl
  · simp
theorem next_le {n : Nat} (h0 : 0 < n) (h : n ≤ 200) : Builtin.nextslicecap n 0 ≤ 1000 := by
  unfold Builtin.nextslicecap
  rw [if_pos (by omega)]; omega
theorem cells_at (W : World) (L : List Value) (Z : Array Value) (e : TypeId) {j : Nat} {v : Value} (h : L[j]? = some v) : (W.alloc (.cells (([] : List Value).toArray ++ L.toArray ++ Z) e)).cell? ⟨W.heap.size, j, none⟩ = some v := by
  rw [World.cell?_alloc_mark W (([] : List Value).toArray ++ L.toArray ++ Z) e (0, 0) j]
  have hlt := (List.getElem?_eq_some_iff.1 h).1
  rw [Array.getElem?_append_left (by simpa using hlt)]
  simpa using h
theorem app_str (W : World) (b : Nat) (s : ByteArray) (h0 : 0 < s.size) (hs : s.size ≤ 100) : ∃ W' cap, (∀ ty, (Builtin.append_ #[57, 9] ty #[.slice (some ⟨b, 0, none⟩) 0 0, .string s]).run Tryz.prog W = .ok (.slice (some ⟨W.heap.size, 0, none⟩) s.size cap) W') ∧
    (∀ (j : Nat) x, s.data.toList[j]? = some x → W'.cell? ⟨W.heap.size, j, none⟩ = some (.int .u8 x.toNat)) ∧ Change (fun _ => False) W W' := by
  obtain ⟨i, hi, hz, hsz, hby⟩ := info8
  have hn := next_le (n := 0 + s.size) (by omega) (by omega)
  have hr := fun ty => run_append_grow_string (P := Tryz.prog) W 57 9 ty 5 i (.int .u8 0) Tryz.underlying57 Tryz.underlying9 hi hz ⟨b, 0, none⟩ 0 0 [] (by simp) (by simp) s (by omega) (by omega) (by rw [hby]; omega)
  simp only [Nat.zero_add] at hr
  refine ⟨_, _, hr, fun j x hx => ?_, ((Change.refl _ W).drew).alloc _⟩
  have hj : (strCells s)[j]? = some (.int .u8 x.toNat) := by unfold strCells; rw [List.getElem?_map, hx]; rfl
  exact cells_at W.drew (strCells s) _ 5 hj
theorem app_sl (W : World) (b1 b2 n c : Nat) (x : UInt8) (h0 : 0 < n) (hn : n ≤ 100) (hc : ∀ j, j < n → W.cell? ⟨b2, j, none⟩ = some (.int .u8 x.toNat)) : ∃ W' cap, (∀ ty, (Builtin.append_ #[57, 57] ty #[.slice (some ⟨b1, 0, none⟩) 0 0, .slice (some ⟨b2, 0, none⟩) n c]).run Tryz.prog W = .ok (.slice (some ⟨W.heap.size, 0, none⟩) n cap) W') ∧
    (∀ j, j < n → W'.cell? ⟨W.heap.size, j, none⟩ = some (.int .u8 x.toNat)) ∧ Change (fun _ => False) W W' := by
  obtain ⟨i, hi, hz, hsz, hby⟩ := info8
  have hnx := next_le (n := 0 + n) (by omega) (by omega)
  have hr := fun ty => run_append_grow (P := Tryz.prog) W 57 ty 5 i (.int .u8 0) Tryz.underlying57 hi hz ⟨b1, 0, none⟩ 0 0 [] (by simp) (by simp) ⟨b2, 0, none⟩ n c (List.replicate n (.int .u8 x.toNat)) (by simp [hsz]) (fun j v hj => by
    have hjn : j < n := by simpa using (List.getElem?_eq_some_iff.1 hj).1
    have hv : v = .int .u8 x.toNat := by
      have := (List.getElem?_eq_some_iff.1 hj).2
      rw [List.getElem_replicate] at this; exact this.symm
    rw [add0, hv]; exact hc j hjn) (by omega) (by omega) (by rw [hby]; omega)
  simp only [Nat.zero_add] at hr
  refine ⟨_, _, hr, fun j hj => ?_, ((Change.refl _ W).drew).alloc _⟩
  exact cells_at W.drew (List.replicate n (.int .u8 x.toNat)) _ 5 (by rw [List.getElem?_replicate, if_pos hj])
/-- a call of bytes.Repeat, as a step of a region whose order is open -/
theorem step_rep {ops : Array Oper} {o : Oper} {a : Act} {w : World} {K : Act → World → Prop} {Q : Exit → Act → World → Prop} {E : Prop} {n kb cp : Nat} (c : UInt8) (hg : o.guard = none) (x y : Operand) (ts : Array TypeId) (hop : o.op = Op.call { callee := .value (.func 261), args := #[x, y], argTypes := ts })
    (hx : a.eval x = .slice (some ⟨kb, 0, none⟩) 1 cp) (hy : a.eval y = .int .i64 n) (h2 : 2 ≤ n) (h8 : n ≤ 100) (hc : w.cell? ⟨kb, 0, none⟩ = some (.int .u8 c.toNat))
    (hK : ∀ w', Lib.Buf w w' w.heap.size n (List.replicate n c) → K (a.put o.dst (.slice (some ⟨w.heap.size, 0, none⟩) n n)) w') : if Region.wanted o (yielded ops a.tmps) = true then Oper.wp Tryz.prog o a w K Q else E := by
  have hw : Region.wanted o (yielded ops a.tmps) = true := by simp [Region.wanted, hg]
  rw [if_pos hw]
  unfold Oper.wp
  have hrun : (execOp a.eval o).run Tryz.prog w = .ok (.enter 261 #[.slice (some ⟨kb, 0, none⟩) 1 cp, .int .i64 n]) w := by
    simp [execOp, hop, resolve, hx, hy, go_sem]
    exact ⟨by simpa [Act.eval] using hx, by simpa [Act.eval] using hy⟩
  rw [hrun, Oper.upon_enter]
  refine (brepeat_w n kb cp c h2 h8 w hc).mono ?_
  rintro e w' ⟨rfl, hb⟩
  exact hK w' hb
theorem step_app2 {ops : Array Oper} {o : Oper} {a : Act} {w : World} {K : Act → World → Prop} {Q : Exit → Act → World → Prop} {E : Prop} {n b1 b2 c : Nat} (u : UInt8) (hg : o.guard = none) (x y : Operand) (hop : o.op = Op.call { callee := Callee.builtin Builtin.append, args := #[x, y], argTypes := #[57, 57] })
    (hx : a.eval x = .slice (some ⟨b1, 0, none⟩) 0 0) (hy : a.eval y = .slice (some ⟨b2, 0, none⟩) n c) (h2 : 2 ≤ n) (h8 : n ≤ 100) (hc : ∀ j, j < n → w.cell? ⟨b2, j, none⟩ = some (.int .u8 u.toNat))
    (hK : ∀ w' cap, (∀ j, j < n → w'.cell? ⟨w.heap.size, j, none⟩ = some (.int .u8 u.toNat)) → Change (fun _ => False) w w' → K (a.put o.dst (.slice (some ⟨w.heap.size, 0, none⟩) n cap)) w') : if Region.wanted o (yielded ops a.tmps) = true then Oper.wp Tryz.prog o a w K Q else E := by
  obtain ⟨w', cap, h1, h3, h4⟩ := app_sl w b1 b2 n c u (by omega) h8 hc
  exact step_app hg x y _ _ hop hx hy h1 (hK w' cap h3 h4)
theorem cell_alloc {W : World} {o : Obj} {a : Addr} {v : Value} (h : W.cell? a = some v) : (W.alloc o).cell? a = some v := by
  have hlt := World.block_lt_of_cell? W a h
  unfold World.cell? at h ⊢
  rw [heap_alloc_old _ _ hlt]; exact h
theorem buf_at {w0 wr : World} {h n : Nat} {c : UInt8} (hb : Lib.Buf w0 wr h n (List.replicate n c)) : ∀ j, j < n → wr.cell? ⟨h, j, none⟩ = some (.int .u8 c.toNat) := fun j hj => hb.holds j c (by rw [List.getElem?_replicate, if_pos hj])
theorem buf_chg {w0 wr : World} {n : Nat} {l : List UInt8} (hb : Lib.Buf w0 wr w0.heap.size n l) : Change (fun _ => False) w0 wr := ⟨hb.below.os, hb.below.tape, hb.below.output, hb.below.size, fun k hk _ => hb.below.block k hk⟩
theorem cell_chg {W W' : World} {a : Addr} {v : Value} (hc : Change (fun _ => False) W W') (h : W.cell? a = some v) : W'.cell? a = some v := by
  have hlt := World.block_lt_of_cell? W a h
  unfold World.cell? at h ⊢
  rw [hc.block _ hlt (by simp)]; exact h
theorem set4 {w : World} {k : Nat} {a b c d x y z u : Value} {t : TypeId} (e1 : w.heap[k]? = some (.cells #[a, b, c, d] t (0, 0))) :
    (w.cell? ⟨k, 0, none⟩ = some a ∧ w.frozen? ⟨k, 0, none⟩ = false) ∧ ((w.setCell ⟨k, 0, none⟩ x).cell? ⟨k, 1, none⟩ = some b ∧ (w.setCell ⟨k, 0, none⟩ x).frozen? ⟨k, 1, none⟩ = false) ∧
    (((w.setCell ⟨k, 0, none⟩ x).setCell ⟨k, 1, none⟩ y).cell? ⟨k, 2, none⟩ = some c ∧ ((w.setCell ⟨k, 0, none⟩ x).setCell ⟨k, 1, none⟩ y).frozen? ⟨k, 2, none⟩ = false) ∧
    ((((w.setCell ⟨k, 0, none⟩ x).setCell ⟨k, 1, none⟩ y).setCell ⟨k, 2, none⟩ z).cell? ⟨k, 3, none⟩ = some d ∧ (((w.setCell ⟨k, 0, none⟩ x).setCell ⟨k, 1, none⟩ y).setCell ⟨k, 2, none⟩ z).frozen? ⟨k, 3, none⟩ = false) ∧
    ((((w.setCell ⟨k, 0, none⟩ x).setCell ⟨k, 1, none⟩ y).setCell ⟨k, 2, none⟩ z).setCell ⟨k, 3, none⟩ u).heap[k]? = some (.cells #[x, y, z, u] t (0, 0)) ∧
    Change (fun j => j = k) w ((((w.setCell ⟨k, 0, none⟩ x).setCell ⟨k, 1, none⟩ y).setCell ⟨k, 2, none⟩ z).setCell ⟨k, 3, none⟩ u) := by
  refine ⟨⟨?_, ?_⟩, ⟨?_, ?_⟩, ⟨?_, ?_⟩, ⟨?_, ?_⟩, ?_, ((((Change.one k w).set 0 x).set 1 y).set 2 z).set 3 u⟩
  all_goals simp [World.cell?, World.frozen?, World.setCell, Array.getElem?_modify, e1]
theorem base4 {w : World} {k : Nat} {a b c d : Value} {t : TypeId} (e1 : w.heap[k]? = some (.cells #[a, b, c, d] t (0, 0))) :
    w.cell? ⟨k, 0, none⟩ = some a ∧ w.cell? ⟨k, 1, none⟩ = some b ∧ w.cell? ⟨k, 2, none⟩ = some c ∧ w.cell? ⟨k, 3, none⟩ = some d ∧ w.frozen? ⟨k, 0, none⟩ = false ∧ w.frozen? ⟨k, 1, none⟩ = false ∧ w.frozen? ⟨k, 2, none⟩ = false ∧ w.frozen? ⟨k, 3, none⟩ = false := by
  refine ⟨?_, ?_, ?_, ?_, ?_, ?_, ?_, ?_⟩
  all_goals simp [World.cell?, World.frozen?, e1]
set_option maxHeartbeats 4000000 in
theorem with_w (s t : ByteArray) (h2 : 2 ≤ s.size) (h8 : s.size ≤ 100) (w : World) : Calls Tryz.prog 221 #[.int .i64 0, .string s, .string t] w fun e w' => e = .returned (.agg #[.string s, .string ⟨(List.replicate s.size (255 : UInt8)).toArray⟩, .string ⟨#[]⟩, .string t]) ∧ Change (fun _ => False) w w' := by
  have t3 := Tryz.underlying3
  have t5 := Tryz.underlying5
  have t9 := Tryz.underlying9
  have tB := Tryz.underlying57
  obtain ⟨ii, hi, hz, hsz, hby⟩ := info8
  have hm : ∀ W, (Instr.makeSlice 57 (.int .i64 0) (.int .i64 0)).run Tryz.prog W = .ok (.slice (some ⟨W.heap.size, 0, none⟩) 0 0) (W.alloc (.cells #[] 5)) := fun W => by
    have := run_make_row (P := Tryz.prog) 57 5 ii (.int .u8 0) tB hi hz hsz rfl .i64 .i64 0 (by simp) (by decide) W
    have e : madeCells #[Value.int .u8 0] 0 = #[] := Array.eq_empty_of_size_eq_zero (by simp [madeCells])
    rw [e] at this
    exact this
  have hex : ∀ W : World, ∃ W1, W1 = W := fun W => ⟨W, rfl⟩
  obtain ⟨W1, hW1⟩ := hex ((w.alloc (.cells #[.string ⟨#[]⟩, .string ⟨#[]⟩, .string ⟨#[]⟩, .string ⟨#[]⟩] 66)).alloc (.cells #[] 5))
  obtain ⟨W2, cap, hA1, hA2, hA3⟩ := app_str W1 (w.heap.size + 1) s (by omega) h8
  have C1 : Change (fun _ => False) w W2 := by
    refine Change.trans ?_ hA3 (fun _ h => h.elim)
    rw [hW1]; exact ((Change.refl _ w).alloc _).alloc _
  have hcell : W2.heap[w.heap.size]? = some (.cells #[.string ⟨#[]⟩, .string ⟨#[]⟩, .string ⟨#[]⟩, .string ⟨#[]⟩] 66 (0, 0)) := by
    rw [hA3.block _ (by rw [hW1]; simp only [World.size_alloc]; omega) (by simp), hW1, heap_alloc_old _ _ (by simp only [World.size_alloc]; omega)]
    have := World.alloc_heap_new w (.cells #[.string ⟨#[]⟩, .string ⟨#[]⟩, .string ⟨#[]⟩, .string ⟨#[]⟩] 66)
    exact this
  have hge : w.heap.size + 2 = W1.heap.size := by rw [hW1]; simp only [World.size_alloc]
  rw [hW1] at hA1 hA2 hge
  have HA2 : Aside (∀ (j : Nat) x, s.data.toList[j]? = some x → W2.cell? ⟨w.heap.size + 2, j, none⟩ = some (.int .u8 x.toNat)) := by rw [hge]; exact hA2
  rw [← hge] at hA1
  have HC : Aside (Change (fun _ => False) w W2) := C1
  clear hA2 hA3 C1 hge hW1 W1 hex hi hz hsz hby
  go_enter Tryz.func221, Tryz.ntmps221
  go_wp2_with (at_builtin; refine wpList_app rfl _ _ 57 9 rfl rfl rfl hA1 ?_)
  have hs2 : (s.size : Int) = ((s.size : Nat) : Int) := rfl
  go_region_law (first | (refine step_rep (n := s.size) 255 rfl _ _ _ rfl rfl rfl h2 h8 (by simp [go_sem]) ?_; intro w' hB) | (refine step_app2 (n := s.size) 255 rfl _ _ rfl rfl rfl h2 h8 (by first | exact fun j hj => by simpa using buf_at hB j hj | exact fun j hj => cell_alloc (by simpa using buf_at hB j hj)) ?_; intro w4 cap2 hA hC))
  all_goals
    have CC : Change (fun _ => False) W2 w4 := by
      first
        | exact (((((Change.refl _ W2).alloc _).alloc _).drew).trans (buf_chg hB) (fun _ h => h.elim)).trans hC (fun _ h => h.elim)
        | exact (((((Change.refl _ W2).alloc _).drew).trans (buf_chg hB) (fun _ h => h.elim)).alloc _).trans hC (fun _ h => h.elim)
    have c1 : w4.heap[w.heap.size]? = some (.cells #[.string ⟨#[]⟩, .string ⟨#[]⟩, .string ⟨#[]⟩, .string ⟨#[]⟩] 66 (0, 0)) := by rw [CC.block _ (Array.getElem?_eq_some_iff.1 hcell).1 (by simp)]; exact hcell
    have HC4 : Aside (Change (fun _ => False) w w4) := HC.out.trans CC (fun _ h => h.elim)
    obtain ⟨d0, d1, d2, d3, e0, e1, e2, e3⟩ := base4 c1
    have D5 : Aside (∀ x y z u : Value, ((((w4.setCell ⟨w.heap.size, 0, none⟩ x).setCell ⟨w.heap.size, 1, none⟩ y).setCell ⟨w.heap.size, 2, none⟩ z).setCell ⟨w.heap.size, 3, none⟩ u).heap[w.heap.size]? = some (.cells #[x, y, z, u] 66 (0, 0)) ∧
      Change (fun j => j = w.heap.size) w4 ((((w4.setCell ⟨w.heap.size, 0, none⟩ x).setCell ⟨w.heap.size, 1, none⟩ y).setCell ⟨w.heap.size, 2, none⟩ z).setCell ⟨w.heap.size, 3, none⟩ u)) := fun x y z u => (set4 c1).2.2.2.2
    have hv1 := run_convert_bytes_back (P := Tryz.prog) w4 57 9 5 ⟨w.heap.size + 2, 0, none⟩ cap s.data.toList tB t5 t9 (fun j hj => by
      rw [add0]
      exact cell_chg CC (HA2.out j _ (List.getElem?_eq_getElem hj)))
    rw [← Lib.size_eq] at hv1
    have hA' : ∀ j (hj : j < (List.replicate s.size (255 : UInt8)).length), w4.cell? (Addr.add ⟨_, 0, none⟩ j) = some (.int .u8 ((List.replicate s.size (255 : UInt8))[j]).toNat) := fun j hj => by
      rw [add0, List.getElem_replicate]
      exact hA j (by simpa using hj)
    have hv2 := run_convert_bytes_back (P := Tryz.prog) w4 57 9 5 _ cap2 (List.replicate s.size 255) tB t5 t9 hA'
    simp only [List.length_replicate, World.size_alloc] at hv2
    clear hA' hA hC hB CC c1 hA1 hm hcell
    go_wp2
    obtain ⟨f1, f2⟩ := D5.out (.string ⟨s.data⟩) (.string ⟨Array.replicate s.size 255⟩) (.string ⟨#[]⟩) (.string t)
    obtain ⟨g0, g1, g2, g3, -, -, -, -⟩ := base4 f1
    have HD := HC4.out.trans f2 (fun i hi => .inr (by omega))
    generalize ((((w4.setCell ⟨w.heap.size, 0, none⟩ (.string ⟨s.data⟩)).setCell ⟨w.heap.size, 1, none⟩ (.string ⟨Array.replicate s.size 255⟩)).setCell ⟨w.heap.size, 2, none⟩ (.string ⟨#[]⟩)).setCell ⟨w.heap.size, 3, none⟩ (.string t)) = w5 at *
    refine bodyPost_ret (v := .agg #[.string ⟨s.data⟩, .string ⟨Array.replicate s.size 255⟩, .string ⟨#[]⟩, .string t]) ?_ ?_ ?_
    · simp [results, Tryz.results221, go_sem, g0, g1, g2, g3]
    · rfl
    · exact ⟨rfl, HD⟩
end Go.Proofs.YtombmblgmbjieaaGreatDoor
