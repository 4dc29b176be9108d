/-
  Texts joined, part 4: LgSimp, LgEv, LgEvB, LgEvC, PgS, LgEnd, LgRow, LgQui, LgMore, PgT, LgLift, HdRun, HdPlain, HdBack.
-/
import Derived.Test.YteckofomnhminaaGreatDoorM3
import Derived.Test.YteckofomnhminaaGreatDoorM1
import Derived.ChangeArms
import Derived.WideShapes
import Derived.Lib.LaidTab
/-
  A logical run of Go code: rules by which a run is reckoned.
-/
set_option linter.unusedSimpArgs false
set_option linter.unusedVariables false
namespace Go.Lg
open Go.Tg Go.RowKit

def Runs (P : Program) (E : Ext) (fn : Func) (k : List Item) (fr : Fr) (H : LH) (Q : Value × LH → Prop) : Prop := ∃ n r, run P E.loud (LC P E) fn n k fr H = some r ∧ Q r
def ROps (P : Program) (E : Ext) (fn : Func) (all : Array Oper) (os : List Oper) (k : List Item) (fr : Fr) (H : LH) (Q : Value × LH → Prop) : Prop := ∃ n r, (match lops P (LC P E) fn.ntmps all os fr H with | some (fr', H') => run P E.loud (LC P E) fn n k fr' H' | none => none) = some r ∧ Q r
def RMix (P : Program) (E : Ext) (fn : Func) (all : Array Oper) (H0 : LH) (os : List Oper) (k : List Item) (fr : Fr) (H : LH) (Q : Value × LH → Prop) : Prop := ∃ n r, (match lmix P E.loud (LC P E) fn.ntmps all H0 os fr H with | some (fr', H') => run P E.loud (LC P E) fn n k fr' H' | none => none) = some r ∧ Q r
/-- in the text's order, with what floats -/
def RCh (P : Program) (E : Ext) (fn : Func) (all : Array Oper) (prs : List (Nat × Nat)) (j : Nat) (old : Nat → Fr × LH) (os : List Oper) (k : List Item) (fr : Fr) (H : LH) (Q : Value × LH → Prop) : Prop := ∃ n r, (match lchain P (LC P E) fn.ntmps all prs j old os fr H with | some (fr', H') => run P E.loud (LC P E) fn n k fr' H' | none => none) = some r ∧ Q r
/-- a region whose order is open -/
def RDr (P : Program) (E : Ext) (fn : Func) (x : Option (List (Nat × Nat))) (l : List Oper) (k : List Item) (fr : Fr) (H : LH) (Q : Value × LH → Prop) : Prop :=
  match x with
  | none => RMix P E fn ⟨l⟩ H l k fr H Q
  | some prs => RCh P E fn ⟨l⟩ prs 0 (fun _ => (fr, H)) l k fr H Q
def oldS (old : Nat → Fr × LH) (k : Nat) (x : Fr × LH) : Nat → Fr × LH := fun j => if j = k then x else old j
/-- a read yields the same where it floats -/
def ckR (P : Program) (k : Nat) (op : Op) (fr : Fr) (old : Nat → Fr × LH) (v : Value) : List (Nat × Nat) → Prop
  | [] => True
  | (i, j) :: ps => (i = k ∧ j < k → lop P T0 ⟨none, op, 0, "", #[], none⟩ fr (old j).2 = some (v, (old j).2)) ∧ ckR P k op fr old v ps
def ckOp (P : Program) (all : Array Oper) (o : Option Oper) (x : Fr × LH) (fr' : Fr) (H' : LH) : Prop :=
  match o with
  | some o => ∀ d, o.dst = some d → lwant all x.1 o = some true → lop P T0 o x.1 H' = some (fr' d, H')
  | none => True
def ckH (P : Program) (k : Nat) (all : Array Oper) (old : Nat → Fr × LH) (fr' : Fr) (H' : LH) : List (Nat × Nat) → Prop
  | [] => True
  | (i, j) :: ps => (j = k ∧ i < k → ckOp P all all[i]? (old i) fr' H') ∧ ckH P k all old fr' H' ps
/-- an operation has yielded -/
def Step (P : Program) (E : Ext) (fn : Func) (x : Option (Value × LH)) (d : Nat) (all : Array Oper) (os : List Oper) (k : List Item) (fr : Fr) (Q : Value × LH → Prop) : Prop :=
  match x with
  | some (v, H) => d < fn.ntmps ∧ ROps P E fn all os k (upd fr d v) H Q
  | none => False
def MStep (P : Program) (E : Ext) (fn : Func) (x : Option (Value × LH)) (d : Nat) (all : Array Oper) (H0 : LH) (os : List Oper) (k : List Item) (fr : Fr) (Q : Value × LH → Prop) : Prop :=
  match x with
  | some (v, H) => d < fn.ntmps ∧ RMix P E fn all H0 os k (upd fr d v) H Q
  | none => False
/-- a choice between two ways -/
def RSel (b : Bool) (A B : Prop) : Prop := match b with | true => A | false => B
/-- the results -/
def RRes (x : Option Value) (H : LH) (Q : Value × LH → Prop) : Prop := match x with | some v => Q (v, H) | none => False
def lopx (P : Program) (T : Callee) (op : Op) (fr : Fr) (H : LH) : Option (Value × LH) := lop P T ⟨none, op, 0, "", #[], none⟩ fr H
/-- strings' bytes, too -/
def lopxB (P : Program) (T : Callee) (op : Op) (fr : Fr) (H : LH) : Option (Value × LH) := match op with
  | .convert s d x => match lbytes P s d (ev fr x) H with
    | some r => some r
    | none => lopx P T (.convert s d x) fr H
  | op => lopx P T op fr H
def lmixx (P : Program) (T : Callee) (op : Op) (fr : Fr) (H0 H : LH) : Option (Value × LH) := lmixop P T ⟨none, op, 0, "", #[], none⟩ fr H0 H
/-- is a guarded operation carried out? -/
def guardx (all : Array Oper) (fr : Fr) (j : Nat) (want : Bool) : Option Bool :=
  match (all[j]?).bind (·.dst) with
  | none => some false
  | some d => match fr d with
    | .bool b => some (b == want)
    | v => if flatB v then some false else none
def GStep (P : Program) (E : Ext) (fn : Func) (g : Option Bool) (op : Op) (d : Nat) (all : Array Oper) (os : List Oper) (k : List Item) (fr : Fr) (H : LH) (Q : Value × LH → Prop) : Prop :=
  match g with
  | some true => Step P E fn (lopxB P (LC P E) op fr H) d all os k fr Q
  | some false => d < fn.ntmps ∧ ROps P E fn all os k (upd fr d undef) H Q
  | none => False
def GMStep (P : Program) (E : Ext) (fn : Func) (g : Option Bool) (op : Op) (d : Nat) (all : Array Oper) (H0 : LH) (os : List Oper) (k : List Item) (fr : Fr) (H : LH) (Q : Value × LH → Prop) : Prop :=
  match g with
  | some true => MStep P E fn (lmixx P (LC P E) op fr H0 H) d all H0 os k fr Q
  | some false => d < fn.ntmps ∧ RMix P E fn all H0 os k (upd fr d undef) H Q
  | none => False

/-- in the text's order, where nothing floats -/
def RC0 (P : Program) (E : Ext) (fn : Func) (all : Array Oper) (os : List Oper) (k : List Item) (fr : Fr) (H : LH) (Q : Value × LH → Prop) : Prop := ∃ n r, (match lops0 P (LC P E) fn.ntmps all os fr H with | some (fr', H') => run P E.loud (LC P E) fn n k fr' H' | none => none) = some r ∧ Q r
def C0Step (P : Program) (E : Ext) (fn : Func) (x : Option (Value × LH)) (d : Nat) (all : Array Oper) (os : List Oper) (k : List Item) (fr : Fr) (Q : Value × LH → Prop) : Prop :=
  match x with
  | some (v, H) => d < fn.ntmps ∧ RC0 P E fn all os k (upd fr d v) H Q
  | none => False
def C0Step0 (P : Program) (E : Ext) (fn : Func) (x : Option (Value × LH)) (all : Array Oper) (os : List Oper) (k : List Item) (fr : Fr) (Q : Value × LH → Prop) : Prop :=
  match x with
  | some (_, H) => RC0 P E fn all os k fr H Q
  | none => False
def C0G (P : Program) (E : Ext) (fn : Func) (g : Option Bool) (op : Op) (d : Nat) (all : Array Oper) (os : List Oper) (k : List Item) (fr : Fr) (H : LH) (Q : Value × LH → Prop) : Prop :=
  match g with
  | some true => C0Step P E fn (lopx P (LC P E) op fr H) d all os k fr Q
  | some false => d < fn.ntmps ∧ RC0 P E fn all os k (upd fr d undef) H Q
  | none => False
section
variable {P : Program} {E : Ext} {fn : Func} {k : List Item} {fr : Fr} {H H' H0 : LH} {Q : Value × LH → Prop} {all : Array Oper} {os : List Oper} {ty : TypeId} {pos : String} {after : Array Edge} {d : Nat} {op : Op}
theorem lop_x (dst : Option Tmp) (g : Option (Nat × Bool)) (T : Callee) : lop P T ⟨dst, op, ty, pos, after, g⟩ fr H = lopx P T op fr H := rfl
theorem lopB_x (dst : Option Tmp) (g : Option (Nat × Bool)) (T : Callee) : lopB P T ⟨dst, op, ty, pos, after, g⟩ fr H = lopxB P T op fr H := by
  cases op <;> rfl
theorem lmixop_x (dst : Option Tmp) (g : Option (Nat × Bool)) (T : Callee) : lmixop P T ⟨dst, op, ty, pos, after, g⟩ fr H0 H = lmixx P T op fr H0 H := by
  cases op <;> rfl
theorem ex_succ {p : Nat → Prop} (h0 : ¬ p 0) : (∃ n, p n) ↔ ∃ n, p (n + 1) := ⟨fun ⟨n, h⟩ => by cases n with | zero => exact absurd h h0 | succ n => exact ⟨n, h⟩, fun ⟨n, h⟩ => ⟨_, h⟩⟩
theorem run0 {L : Loud} {T : Callee} : run P L T fn 0 k fr H = none := rfl
theorem runs_nil : Runs P E fn [] fr H Q ↔ RRes (lresults P fn fr H) H Q := by
  unfold Runs; rw [ex_succ (by simp [run])]; simp only [run]; unfold RRes; cases lresults P fn fr H <;> simp
theorem runs_skip : Runs P E fn (.code .skip :: k) fr H Q ↔ Runs P E fn k fr H Q := by
  unfold Runs; rw [ex_succ (by simp [run])]; simp only [run]
theorem runs_label {l : Nat} : Runs P E fn (.code (.label l) :: k) fr H Q ↔ Runs P E fn k fr H Q := by
  unfold Runs; rw [ex_succ (by simp [run])]; simp only [run]
theorem runs_seq {x y : Code} : Runs P E fn (.code (.seq x y) :: k) fr H Q ↔ Runs P E fn (.code x :: .code y :: k) fr H Q := by
  unfold Runs; rw [ex_succ (by simp [run])]; simp only [run]
theorem runs_block {id : Nat} {x : Code} : Runs P E fn (.code (.block id x) :: k) fr H Q ↔ Runs P E fn (.code x :: .inBlock id :: k) fr H Q := by
  unfold Runs; rw [ex_succ (by simp [run])]; simp only [run]
theorem runs_inBlock {id : Nat} : Runs P E fn (.inBlock id :: k) fr H Q ↔ Runs P E fn k fr H Q := by
  unfold Runs; rw [ex_succ (by simp [run])]; simp only [run]
theorem runs_loop {x : Code} : Runs P E fn (.code (.loop x) :: k) fr H Q ↔ Runs P E fn (.inLoop x :: k) fr H Q := by
  unfold Runs; rw [ex_succ (by simp [run])]; rw [ex_succ (p := fun n => ∃ r, run P E.loud (LC P E) fn n (.inLoop x :: k) fr H = some r ∧ Q r) (by simp [run])]; simp only [run]
theorem runs_inLoop {x : Code} : Runs P E fn (.inLoop x :: k) fr H Q ↔ Runs P E fn (.code x :: .inLoop x :: k) fr H Q := by
  unfold Runs; rw [ex_succ (by simp [run])]; simp only [run]
theorem runs_ret : Runs P E fn (.code .ret :: k) fr H Q ↔ RRes (lresults P fn fr H) H Q := by
  unfold Runs; rw [ex_succ (by simp [run])]; simp only [run]; unfold RRes; cases lresults P fn fr H <;> simp
theorem runs_exit {id : Nat} : Runs P E fn (.code (.exit id) :: k) fr H Q ↔ match exitTo id k with | some k' => Runs P E fn k' fr H Q | none => False := by
  unfold Runs; rw [ex_succ (by simp [run])]; simp only [run]
  cases exitTo id k <;> simp
theorem runs_cond {c : Operand} {x y : Code} {b : Bool} (h : ev fr c = .bool b) : Runs P E fn (.code (.cond c x y) :: k) fr H Q ↔ if b = true then Runs P E fn (.code x :: k) fr H Q else Runs P E fn (.code y :: k) fr H Q := by
  unfold Runs; rw [ex_succ (by simp [run])]; simp only [run, h]
  cases b <;> simp
theorem runs_region {id : Nat} {l : List Oper} : Runs P E fn (.code (.region id ⟨l⟩ false) :: k) fr H Q ↔ ROps P E fn ⟨l⟩ l k fr H Q := by
  unfold Runs ROps; rw [ex_succ (by simp [run])]; simp only [run]; exact Iff.rfl
theorem runs_draw {id : Nat} {l : List Oper} : Runs P E fn (.code (.region id ⟨l⟩ true) :: k) fr H Q ↔ RDr P E fn (E.loud.ch fn.ntmps id l.length) l k fr H Q := by
  unfold Runs RDr RMix RCh; rw [ex_succ (by simp [run])]; simp only [run, ldraw]
  rw [show (⟨l⟩ : Array Oper).size = l.length from rfl]
  cases E.loud.ch fn.ntmps id l.length <;> exact Iff.rfl
theorem rops_nil : ROps P E fn all [] k fr H Q ↔ Runs P E fn k fr H Q := by
  unfold ROps Runs; simp only [lops]
theorem rmix_nil : RMix P E fn all H0 [] k fr H Q ↔ Runs P E fn k fr H Q := by
  unfold RMix Runs; simp only [lmix]
theorem rops_cons : ROps P E fn all (⟨some d, op, ty, pos, after, none⟩ :: os) k fr H Q ↔ Step P E fn (lopxB P (LC P E) op fr H) d all os k fr Q := by
  unfold ROps Step; simp only [lops, lwant, lopB_x]
  cases lopxB P (LC P E) op fr H with
  | none => simp
  | some x =>
    obtain ⟨v, H1⟩ := x
    simp only [lput]
    by_cases hd : d < fn.ntmps
    · simp only [hd, ROps, true_and, if_true]
    · simp [hd]
theorem rops_cons0 : ROps P E fn all (⟨none, op, ty, pos, after, none⟩ :: os) k fr H Q ↔ match lopxB P (LC P E) op fr H with | some (_, H') => ROps P E fn all os k fr H' Q | none => False := by
  unfold ROps; simp only [lops, lwant, lopB_x]
  cases lopxB P (LC P E) op fr H with
  | none => simp
  | some x => simp only [lput]
theorem rmix_cons : RMix P E fn all H0 (⟨some d, op, ty, pos, after, none⟩ :: os) k fr H Q ↔ RSel (loudOp E.loud op) (ROps P E fn all (⟨some d, op, ty, pos, after, none⟩ :: os) k fr H Q) (MStep P E fn (lmixx P (LC P E) op fr H0 H) d all H0 os k fr Q) := by
  unfold RMix RSel
  cases hl : loudOp E.loud op with
  | true => unfold ROps; simp only [lmix, hl, if_true]
  | false =>
    unfold MStep; simp only [lmix, hl, Bool.false_eq_true, if_false, lwant, lmixop_x]
    by_cases hd : d < fn.ntmps
    · simp only [if_pos hd]
      cases lmixx P (LC P E) op fr H0 H with
      | none => simp
      | some x => simp only [hd, RMix, true_and]
    · simp only [if_neg hd]
      cases lmixx P (LC P E) op fr H0 H with
      | none => simp
      | some x => simp [hd]
theorem rmix_cons0 : RMix P E fn all H0 (⟨none, op, ty, pos, after, none⟩ :: os) k fr H Q ↔ RSel (loudOp E.loud op) (ROps P E fn all (⟨none, op, ty, pos, after, none⟩ :: os) k fr H Q) False := by
  unfold RMix RSel
  cases hl : loudOp E.loud op with
  | true => unfold ROps; simp only [lmix, hl, if_true]
  | false => simp [lmix, hl]
theorem lwant_x {j : Nat} {want : Bool} {dst : Option Tmp} : lwant all fr ⟨dst, op, ty, pos, after, some (j, want)⟩ = guardx all fr j want := rfl
theorem rops_guard {j : Nat} {want : Bool} : ROps P E fn all (⟨some d, op, ty, pos, after, some (j, want)⟩ :: os) k fr H Q ↔ GStep P E fn (guardx all fr j want) op d all os k fr H Q := by
  unfold ROps GStep; simp only [lops, lwant_x, lopB_x]
  cases guardx all fr j want with
  | none => simp
  | some b =>
    cases b with
    | true =>
      simp only [Step]
      cases lopxB P (LC P E) op fr H with
      | none => simp
      | some x =>
        obtain ⟨v, H1⟩ := x
        simp only [lput]
        by_cases hd : d < fn.ntmps
        · simp only [hd, ROps, true_and, if_true]
        · simp [hd]
    | false =>
      simp only [lput]
      by_cases hd : d < fn.ntmps
      · simp only [hd, ROps, true_and, if_true]
      · simp [hd]
theorem rmix_guard {j : Nat} {want : Bool} : RMix P E fn all H0 (⟨some d, op, ty, pos, after, some (j, want)⟩ :: os) k fr H Q ↔ RSel (loudOp E.loud op) (ROps P E fn all (⟨some d, op, ty, pos, after, some (j, want)⟩ :: os) k fr H Q) (GMStep P E fn (guardx all fr j want) op d all H0 os k fr H Q) := by
  unfold RMix RSel
  cases hl : loudOp E.loud op with
  | true => unfold ROps; simp only [lmix, hl, if_true]
  | false =>
    unfold GMStep; simp only [lmix, hl, Bool.false_eq_true, if_false, lwant_x, lmixop_x]
    by_cases hd : d < fn.ntmps
    · simp only [if_pos hd]
      cases guardx all fr j want with
      | none => simp
      | some b =>
        cases b with
        | true =>
          unfold MStep
          simp only
          cases lmixx P (LC P E) op fr H0 H with
          | none => simp
          | some x => simp only [hd, RMix, true_and]
        | false => simp only [hd, RMix, true_and]
    · simp only [if_neg hd]
      cases guardx all fr j want with
      | none => simp
      | some b =>
        cases b with
        | true =>
          unfold MStep
          simp only
          cases lmixx P (LC P E) op fr H0 H with
          | none => simp
          | some x => simp [hd]
        | false => simp [hd]
theorem step_some {v : Value} : Step P E fn (some (v, H)) d all os k fr Q ↔ d < fn.ntmps ∧ ROps P E fn all os k (upd fr d v) H Q := Iff.rfl
theorem mstep_some {v : Value} : MStep P E fn (some (v, H)) d all H0 os k fr Q ↔ d < fn.ntmps ∧ RMix P E fn all H0 os k (upd fr d v) H Q := Iff.rfl
theorem rsel_true {A B : Prop} : RSel true A B ↔ A := Iff.rfl
theorem rsel_false {A B : Prop} : RSel false A B ↔ B := Iff.rfl
theorem gstep_true : GStep P E fn (some true) op d all os k fr H Q ↔ Step P E fn (lopxB P (LC P E) op fr H) d all os k fr Q := Iff.rfl
theorem gstep_false : GStep P E fn (some false) op d all os k fr H Q ↔ d < fn.ntmps ∧ ROps P E fn all os k (upd fr d undef) H Q := Iff.rfl
theorem gmstep_true : GMStep P E fn (some true) op d all H0 os k fr H Q ↔ MStep P E fn (lmixx P (LC P E) op fr H0 H) d all H0 os k fr Q := Iff.rfl
theorem gmstep_false : GMStep P E fn (some false) op d all H0 os k fr H Q ↔ d < fn.ntmps ∧ RMix P E fn all H0 os k (upd fr d undef) H Q := Iff.rfl
theorem rdr_none {l : List Oper} : RDr P E fn none l k fr H Q ↔ RMix P E fn ⟨l⟩ H l k fr H Q := Iff.rfl
theorem rdr_some {l : List Oper} {prs : List (Nat × Nat)} : RDr P E fn (some prs) l k fr H Q ↔ RCh P E fn ⟨l⟩ prs 0 (fun _ => (fr, H)) l k fr H Q := Iff.rfl
theorem lchain_nil {T : Callee} {N : Nat} {j : Nat} {old : Nat → Fr × LH} : ∀ {os : List Oper} {j : Nat} {old : Nat → Fr × LH} {fr : Fr} {H : LH}, lchain P T N all [] j old os fr H = lops0 P T N all os fr H
  | [], j, old, fr, H => rfl
  | o :: os, j, old, fr, H => by
    unfold lchain lops0
    split
    · split
      · split
        · rw [if_pos ⟨fun _ h => by simp at h, fun _ h => by simp at h⟩]; exact lchain_nil (j := j) (old := old)
        · rfl
      · rfl
    · split
      · rw [if_pos (fun _ h => by simp at h)]; exact lchain_nil (j := j) (old := old)
      · rfl
    · rfl
theorem rch_none {j : Nat} {old : Nat → Fr × LH} : RCh P E fn all [] j old os k fr H Q ↔ RC0 P E fn all os k fr H Q := by
  unfold RCh RC0; rw [lchain_nil (j := j) (old := old)]
theorem rc0_nil : RC0 P E fn all [] k fr H Q ↔ Runs P E fn k fr H Q := by
  unfold RC0 Runs; simp only [lops0]
theorem rc0_cons : RC0 P E fn all (⟨some d, op, ty, pos, after, none⟩ :: os) k fr H Q ↔ C0Step P E fn (lopx P (LC P E) op fr H) d all os k fr Q := by
  unfold RC0 C0Step; simp only [lops0, lwant, lop_x]
  cases lopx P (LC P E) op fr H with
  | none => simp
  | some x =>
    obtain ⟨v, H1⟩ := x
    simp only [lput]
    by_cases hd : d < fn.ntmps
    · simp only [hd, RC0, true_and, if_true]
    · simp [hd]
theorem rc0_cons0 : RC0 P E fn all (⟨none, op, ty, pos, after, none⟩ :: os) k fr H Q ↔ C0Step0 P E fn (lopx P (LC P E) op fr H) all os k fr Q := by
  unfold RC0 C0Step0; simp only [lops0, lwant, lop_x]
  cases lopx P (LC P E) op fr H with
  | none => simp
  | some x => obtain ⟨v, H1⟩ := x; simp only [lput, RC0]
theorem rc0_guard {j : Nat} {want : Bool} : RC0 P E fn all (⟨some d, op, ty, pos, after, some (j, want)⟩ :: os) k fr H Q ↔ C0G P E fn (guardx all fr j want) op d all os k fr H Q := by
  unfold RC0 C0G; simp only [lops0, lwant_x, lop_x]
  cases guardx all fr j want with
  | none => simp
  | some b =>
    cases b with
    | true =>
      simp only [C0Step]
      cases lopx P (LC P E) op fr H with
      | none => simp
      | some x =>
        obtain ⟨v, H1⟩ := x
        simp only [lput]
        by_cases hd : d < fn.ntmps
        · simp only [hd, RC0, true_and, if_true]
        · simp [hd]
    | false =>
      simp only [lput]
      by_cases hd : d < fn.ntmps
      · simp only [hd, RC0, true_and, if_true]
      · simp [hd]
section
variable {prs : List (Nat × Nat)} {j : Nat} {old : Nat → Fr × LH}
theorem rch_nil : RCh P E fn all prs j old [] k fr H Q ↔ Runs P E fn k fr H Q := by
  unfold RCh Runs; simp only [lchain]
theorem ckR_iff {v : Value} (dst : Option Tmp) (g : Option (Nat × Bool)) : ∀ {prs : List (Nat × Nat)}, ckR P j op fr old v prs ↔ ∀ i, (j, i) ∈ prs → i < j → lop P T0 ⟨dst, op, ty, pos, after, g⟩ fr (old i).2 = some (v, (old i).2)
  | [] => by simp [ckR]
  | (a, b) :: ps => by
    have ih := ckR_iff (v := v) dst g (prs := ps)
    unfold ckR
    rw [ih]
    simp only [lop_x]
    constructor
    · rintro ⟨h1, h2⟩ i hi hij
      rcases List.mem_cons.1 hi with e | e
      · injection e with e1 e2
        subst e1 e2
        exact h1 ⟨rfl, hij⟩
      · exact h2 i e hij
    · intro h
      exact ⟨fun ⟨e, hb⟩ => h b (by rw [e]; exact List.mem_cons_self ..) hb, fun i hi hij => h i (List.mem_cons_of_mem _ hi) hij⟩
theorem ckH_iff {fr' : Fr} : ∀ {prs : List (Nat × Nat)}, ckH P j all old fr' H' prs ↔ ∀ i, (i, j) ∈ prs → i < j → ∀ oi d, all[i]? = some oi → oi.dst = some d → lwant all (old i).1 oi = some true → lop P T0 oi (old i).1 H' = some (fr' d, H')
  | [] => by simp [ckH]
  | (a, b) :: ps => by
    have ih := ckH_iff (fr' := fr') (prs := ps)
    unfold ckH
    rw [ih]
    constructor
    · rintro ⟨h1, h2⟩ i hi hij oi d ho hd hw
      rcases List.mem_cons.1 hi with e | e
      · injection e with e1 e2
        subst e1 e2
        have := h1 ⟨rfl, hij⟩
        unfold ckOp at this
        rw [ho] at this
        exact this d hd hw
      · exact h2 i e hij oi d ho hd hw
    · intro h
      refine ⟨fun ⟨e, hb⟩ => ?_, fun i hi hij => h i (List.mem_cons_of_mem _ hi) hij⟩
      unfold ckOp
      cases ho : all[a]? with
      | none => trivial
      | some oi => exact fun d hd hw => h a (by rw [e]; exact List.mem_cons_self ..) hb oi d ho hd hw
/-- an operation has yielded -/
def CStep (P : Program) (E : Ext) (fn : Func) (x : Option (Value × LH)) (d : Nat) (op : Op) (all : Array Oper) (prs : List (Nat × Nat)) (j : Nat) (old : Nat → Fr × LH) (os : List Oper) (k : List Item) (fr : Fr) (H : LH) (Q : Value × LH → Prop) : Prop :=
  match x with
  | some (v, H') => d < fn.ntmps ∧ ckR P j op fr old v prs ∧ ckH P j all old (upd fr d v) H' prs ∧ RCh P E fn all prs (j + 1) (oldS old j (fr, H)) os k (upd fr d v) H' Q
  | none => False
def CStep0 (P : Program) (E : Ext) (fn : Func) (x : Option (Value × LH)) (op : Op) (all : Array Oper) (prs : List (Nat × Nat)) (j : Nat) (old : Nat → Fr × LH) (os : List Oper) (k : List Item) (fr : Fr) (H : LH) (Q : Value × LH → Prop) : Prop :=
  match x with
  | some (v, H') => ckR P j op fr old v prs ∧ ckH P j all old fr H' prs ∧ RCh P E fn all prs (j + 1) (oldS old j (fr, H)) os k fr H' Q
  | none => False
def CG (P : Program) (E : Ext) (fn : Func) (g : Option Bool) (op : Op) (d : Nat) (all : Array Oper) (prs : List (Nat × Nat)) (j : Nat) (old : Nat → Fr × LH) (os : List Oper) (k : List Item) (fr : Fr) (H : LH) (Q : Value × LH → Prop) : Prop :=
  match g with
  | some true => CStep P E fn (lopx P (LC P E) op fr H) d op all prs j old os k fr H Q
  | some false => d < fn.ntmps ∧ ckH P j all old (upd fr d undef) H prs ∧ RCh P E fn all prs (j + 1) (oldS old j (fr, H)) os k (upd fr d undef) H Q
  | none => False
theorem lwant_no {dst : Option Tmp} : lwant all fr ⟨dst, op, ty, pos, after, none⟩ = some true := rfl
theorem rch_cons : RCh P E fn all prs j old (⟨some d, op, ty, pos, after, none⟩ :: os) k fr H Q ↔ CStep P E fn (lopx P (LC P E) op fr H) d op all prs j old os k fr H Q := by
  unfold RCh CStep; simp only [lchain, lwant_no]
  rw [show lopx P (LC P E) op fr H = lop P (LC P E) ⟨some d, op, ty, pos, after, none⟩ fr H from rfl]
  cases lop P (LC P E) ⟨some d, op, ty, pos, after, none⟩ fr H with
  | none => simp
  | some x =>
    obtain ⟨v, H1⟩ := x
    simp only [lput]
    by_cases hd : d < fn.ntmps
    · simp only [hd, if_true, true_and]
      have e1 := ckR_iff (P := P) (op := op) (fr := fr) (old := old) (j := j) (v := v) (ty := ty) (pos := pos) (after := after) (some d) none (prs := prs)
      by_cases hc : ckR P j op fr old v prs ∧ ckH P j all old (upd fr d v) H1 prs
      · rw [if_pos (And.intro (e1.1 hc.1) (ckH_iff.1 hc.2))]
        simp only [hc, true_and, RCh]
        exact Iff.rfl
      · rw [if_neg (fun h => hc (And.intro (e1.2 (And.left h)) (ckH_iff.2 (And.right h))))]
        constructor
        · rintro ⟨n, r, h, _⟩; simp at h
        · rintro ⟨h1, h2, _⟩; exact absurd ⟨h1, h2⟩ hc
    · simp [hd]
theorem rch_cons0 : RCh P E fn all prs j old (⟨none, op, ty, pos, after, none⟩ :: os) k fr H Q ↔ CStep0 P E fn (lopx P (LC P E) op fr H) op all prs j old os k fr H Q := by
  unfold RCh CStep0; simp only [lchain, lwant_no]
  rw [show lopx P (LC P E) op fr H = lop P (LC P E) ⟨none, op, ty, pos, after, none⟩ fr H from rfl]
  cases lop P (LC P E) ⟨none, op, ty, pos, after, none⟩ fr H with
  | none => simp
  | some x =>
    obtain ⟨v, H1⟩ := x
    simp only [lput]
    have e1 := ckR_iff (P := P) (op := op) (fr := fr) (old := old) (j := j) (v := v) (ty := ty) (pos := pos) (after := after) none none (prs := prs)
    by_cases hc : ckR P j op fr old v prs ∧ ckH P j all old fr H1 prs
    · rw [if_pos (And.intro (e1.1 hc.1) (ckH_iff.1 hc.2))]
      simp only [hc, true_and, RCh]
      exact Iff.rfl
    · rw [if_neg (fun h => hc (And.intro (e1.2 (And.left h)) (ckH_iff.2 (And.right h))))]
      constructor
      · rintro ⟨n, r, h, _⟩; simp at h
      · rintro ⟨h1, h2, _⟩; exact absurd ⟨h1, h2⟩ hc
theorem rch_guard {g : Nat} {want : Bool} : RCh P E fn all prs j old (⟨some d, op, ty, pos, after, some (g, want)⟩ :: os) k fr H Q ↔ CG P E fn (guardx all fr g want) op d all prs j old os k fr H Q := by
  unfold RCh CG; simp only [lchain, lwant_x]
  cases guardx all fr g want with
  | none => simp
  | some b =>
    cases b with
    | true =>
      simp only [CStep]
      rw [show lopx P (LC P E) op fr H = lop P (LC P E) ⟨some d, op, ty, pos, after, some (g, want)⟩ fr H from rfl]
      cases lop P (LC P E) ⟨some d, op, ty, pos, after, some (g, want)⟩ fr H with
      | none => simp
      | some x =>
        obtain ⟨v, H1⟩ := x
        simp only [lput]
        by_cases hd : d < fn.ntmps
        · simp only [hd, if_true, true_and]
          have e1 := ckR_iff (P := P) (op := op) (fr := fr) (old := old) (j := j) (v := v) (ty := ty) (pos := pos) (after := after) (some d) (some (g, want)) (prs := prs)
          by_cases hc : ckR P j op fr old v prs ∧ ckH P j all old (upd fr d v) H1 prs
          · rw [if_pos (And.intro (e1.1 hc.1) (ckH_iff.1 hc.2))]
            simp only [hc, true_and, RCh]
            exact Iff.rfl
          · rw [if_neg (fun h => hc (And.intro (e1.2 (And.left h)) (ckH_iff.2 (And.right h))))]
            constructor
            · rintro ⟨n, r, h, _⟩; simp at h
            · rintro ⟨h1, h2, _⟩; exact absurd ⟨h1, h2⟩ hc
        · simp [hd]
    | false =>
      simp only [lput]
      by_cases hd : d < fn.ntmps
      · simp only [hd, if_true, true_and]
        by_cases hc : ckH P j all old (upd fr d undef) H prs
        · rw [if_pos (ckH_iff.1 hc)]
          simp only [hc, true_and, RCh]
          exact Iff.rfl
        · rw [if_neg (fun h => hc (ckH_iff.2 h))]
          constructor
          · rintro ⟨n, r, h, _⟩; simp at h
          · rintro ⟨h1, _⟩; exact absurd h1 hc
      · simp [hd]
end
/-- a loop: a relation that each round hands on, a measure that each round lowers -/
theorem loop_ind {St : Type} (R : St → Fr → LH → Prop) (μ : St → Nat) {x : Code} (st : St) (h : R st fr H)
    (step : ∀ st fr H, R st fr H → (∀ st' fr' H', μ st' < μ st → R st' fr' H' → Runs P E fn (.inLoop x :: k) fr' H' Q) → Runs P E fn (.code x :: .inLoop x :: k) fr H Q) : Runs P E fn (.code (.loop x) :: k) fr H Q := by
  have key : ∀ m st fr H, μ st < m → R st fr H → Runs P E fn (.inLoop x :: k) fr H Q := by
    intro m
    induction m with
    | zero => intro st fr H hm; omega
    | succ m ih =>
      intro st fr H hm hR
      exact runs_inLoop.2 (step st fr H hR (fun st' fr' H' hlt hR' => ih st' fr' H' (by omega) hR'))
  exact runs_loop.2 (key (μ st + 1) st fr H (Nat.lt_succ_self _) h)
theorem LC_runs {f : FuncId} {c : Code} {args : List Value} (he : E f = none) (hf : P.funcs[f]? = some fn) (hb : fn.body = some c) (hN : args.length ≤ fn.ntmps) (hname : fn.name ≠ "runtime.NumGoroutine") (hcd : codeOk E.loud fn.ntmps c = true)
    (hr : Runs P E fn [.code c] (enter args) H Q) : ∃ r, LC P E f args H = some (trunc H r) ∧ Q r := by
  obtain ⟨n, r, hn, hq⟩ := hr
  exact ⟨r, LC_body he hf hb hN hname hcd hn, hq⟩
theorem trunc_flat {v : Value} (hv : flatB v = true) (hle : H.le H') : trunc H (v, H') = (v, H) := by
  unfold trunc; rw [if_pos ⟨hv, hle⟩]
theorem LC_pure {f : FuncId} {c : Code} {args : List Value} {v : Value} (he : E f = none) (hf : P.funcs[f]? = some fn) (hb : fn.body = some c) (hN : args.length ≤ fn.ntmps) (hname : fn.name ≠ "runtime.NumGoroutine") (hcd : codeOk E.loud fn.ntmps c = true)
    (hv : flatB v = true) (hr : Runs P E fn [.code c] (enter args) H (fun r => r.1 = v ∧ H.le r.2)) : LC P E f args H = some (v, H) := by
  obtain ⟨⟨v', H'⟩, h, rfl, hle⟩ := LC_runs he hf hb hN hname hcd hr
  rw [h, trunc_flat hv hle]
theorem le_refl : H.le H := ⟨Nat.le_refl _, fun _ _ => rfl⟩
end
end Go.Lg
/-
  A logical run of Go code: what operations come to on given values.
-/
set_option linter.unusedSimpArgs false
set_option linter.unusedVariables false
namespace Go.Lg
open Go.Tg Go.RowKit

section
variable {P : Program}
@[simp] theorem pureVal_bind {α β : Type} (s : Sem α) (f : α → Sem β) : pureVal P (s >>= f) = (pureVal P s).bind fun x => pureVal P (f x) := by
  show pureVal P (s.bind f) = _
  induction s with
  | pure a => rfl
  | program k ih => exact ih P
  | mark m k ih => exact ih
  | _ => rfl
@[simp] theorem pureVal_pure {α : Type} (x : α) : pureVal P (pure x : Sem α) = some x := rfl
@[simp] theorem pureVal_program : pureVal P program = some P := rfl
@[simp] theorem pureVal_und (t : TypeId) : pureVal P (underlying t) = P.underlying t := by
  unfold underlying
  rw [pureVal_bind, pureVal_program, Option.bind_some]
  cases P.underlying t <;> rfl
@[simp] theorem pureVal_sizeOf (t : TypeId) : pureVal P (sizeOf t) = sz P t := by
  unfold sizeOf typeInfo sz
  simp only [pureVal_bind, pureVal_program, Option.bind_some]
  cases P.info? t <;> rfl
end
/-- a string, a pointer, a slice from a row's head -/
def str (l : List UInt8) : Value := .string ⟨l.toArray⟩
theorem str_ba (s : ByteArray) : Value.string s = str s.data.toList := by cases s; rfl

attribute [simp ↓] runs_skip runs_label runs_seq runs_block runs_inBlock runs_region runs_draw rops_nil rmix_nil rops_cons rmix_cons rmix_cons0 rops_guard rmix_guard
@[congr] theorem rres_congr {x y : Option Value} {H : LH} {Q : Value × LH → Prop} (h : x = y) : RRes x H Q = RRes y H Q := by rw [h]
@[simp] theorem rres_some {v : Value} {H : LH} {Q : Value × LH → Prop} : RRes (some v) H Q ↔ Q (v, H) := Iff.rfl
@[simp] theorem rres_none {H : LH} {Q : Value × LH → Prop} : RRes none H Q ↔ False := Iff.rfl
attribute [simp ↓] rdr_none rdr_some rch_none rch_nil rch_cons rch_cons0 rch_guard rc0_nil rc0_cons rc0_cons0 rc0_guard
attribute [simp] runs_nil runs_ret step_some mstep_some gstep_true gstep_false gmstep_true gmstep_false rsel_true rsel_false

section
variable {P : Program} {E : Ext} {fn : Func} {k : List Item} {fr : Fr} {H H' H0 : LH} {Q : Value × LH → Prop} {all : Array Oper} {os : List Oper} {d : Nat} {op : Op} {T : Callee}
@[congr] theorem step_congr {x y : Option (Value × LH)} (h : x = y) : Step P E fn x d all os k fr Q = Step P E fn y d all os k fr Q := by rw [h]
@[congr] theorem mstep_congr {x y : Option (Value × LH)} (h : x = y) : MStep P E fn x d all H0 os k fr Q = MStep P E fn y d all H0 os k fr Q := by rw [h]
@[congr] theorem rsel_congr {x y : Bool} {A B : Prop} (h : x = y) : RSel x A B = RSel y A B := by rw [h]
@[congr] theorem gstep_congr {x y : Option Bool} (h : x = y) : GStep P E fn x op d all os k fr H Q = GStep P E fn y op d all os k fr H Q := by rw [h]
@[congr] theorem gmstep_congr {x y : Option Bool} (h : x = y) : GMStep P E fn x op d all H0 os k fr H Q = GMStep P E fn y op d all H0 os k fr H Q := by rw [h]
@[congr] theorem rdr_congr {x y : Option (List (Nat × Nat))} {l : List Oper} (h : x = y) : RDr P E fn x l k fr H Q = RDr P E fn y l k fr H Q := by rw [h]
@[congr] theorem c0step_congr {x y : Option (Value × LH)} (h : x = y) : C0Step P E fn x d all os k fr Q = C0Step P E fn y d all os k fr Q := by rw [h]
@[congr] theorem c0step0_congr {x y : Option (Value × LH)} (h : x = y) : C0Step0 P E fn x all os k fr Q = C0Step0 P E fn y all os k fr Q := by rw [h]
@[congr] theorem c0g_congr {x y : Option Bool} (h : x = y) : C0G P E fn x op d all os k fr H Q = C0G P E fn y op d all os k fr H Q := by rw [h]
@[simp] theorem c0step_some {v : Value} : C0Step P E fn (some (v, H)) d all os k fr Q ↔ d < fn.ntmps ∧ RC0 P E fn all os k (upd fr d v) H Q := Iff.rfl
@[simp] theorem c0step_none : C0Step P E fn none d all os k fr Q ↔ False := Iff.rfl
@[simp] theorem c0step0_some {v : Value} : C0Step0 P E fn (some (v, H)) all os k fr Q ↔ RC0 P E fn all os k fr H Q := Iff.rfl
@[simp] theorem c0step0_none : C0Step0 P E fn none all os k fr Q ↔ False := Iff.rfl
@[simp] theorem c0g_true : C0G P E fn (some true) op d all os k fr H Q ↔ C0Step P E fn (lopx P (LC P E) op fr H) d all os k fr Q := Iff.rfl
@[simp] theorem c0g_false : C0G P E fn (some false) op d all os k fr H Q ↔ d < fn.ntmps ∧ RC0 P E fn all os k (upd fr d undef) H Q := Iff.rfl
theorem c0g_b {b : Bool} : C0G P E fn (some b) op d all os k fr H Q ↔ (b = true → C0Step P E fn (lopx P (LC P E) op fr H) d all os k fr Q) ∧ (b = false → d < fn.ntmps ∧ RC0 P E fn all os k (upd fr d undef) H Q) := by cases b <;> simp
attribute [simp low] c0g_b
section
variable {prs : List (Nat × Nat)} {j : Nat} {old : Nat → Fr × LH} {v : Value} {x : Fr × LH}
@[congr] theorem cstep_congr {x y : Option (Value × LH)} (h : x = y) : CStep P E fn x d op all prs j old os k fr H Q = CStep P E fn y d op all prs j old os k fr H Q := by rw [h]
@[congr] theorem cstep0_congr {x y : Option (Value × LH)} (h : x = y) : CStep0 P E fn x op all prs j old os k fr H Q = CStep0 P E fn y op all prs j old os k fr H Q := by rw [h]
@[congr] theorem cg_congr {x y : Option Bool} (h : x = y) : CG P E fn x op d all prs j old os k fr H Q = CG P E fn y op d all prs j old os k fr H Q := by rw [h]
@[simp] theorem cstep_some : CStep P E fn (some (v, H')) d op all prs j old os k fr H Q ↔ d < fn.ntmps ∧ ckR P j op fr old v prs ∧ ckH P j all old (upd fr d v) H' prs ∧ RCh P E fn all prs (j + 1) (oldS old j (fr, H)) os k (upd fr d v) H' Q := Iff.rfl
@[simp] theorem cstep_none : CStep P E fn none d op all prs j old os k fr H Q ↔ False := Iff.rfl
@[simp] theorem cstep0_some : CStep0 P E fn (some (v, H')) op all prs j old os k fr H Q ↔ ckR P j op fr old v prs ∧ ckH P j all old fr H' prs ∧ RCh P E fn all prs (j + 1) (oldS old j (fr, H)) os k fr H' Q := Iff.rfl
@[simp] theorem cstep0_none : CStep0 P E fn none op all prs j old os k fr H Q ↔ False := Iff.rfl
@[simp] theorem cg_true : CG P E fn (some true) op d all prs j old os k fr H Q ↔ CStep P E fn (lopx P (LC P E) op fr H) d op all prs j old os k fr H Q := Iff.rfl
@[simp] theorem cg_false : CG P E fn (some false) op d all prs j old os k fr H Q ↔ d < fn.ntmps ∧ ckH P j all old (upd fr d undef) H prs ∧ RCh P E fn all prs (j + 1) (oldS old j (fr, H)) os k (upd fr d undef) H Q := Iff.rfl
theorem cg_b {b : Bool} : CG P E fn (some b) op d all prs j old os k fr H Q ↔ (b = true → CStep P E fn (lopx P (LC P E) op fr H) d op all prs j old os k fr H Q) ∧ (b = false → d < fn.ntmps ∧ ckH P j all old (upd fr d undef) H prs ∧ RCh P E fn all prs (j + 1) (oldS old j (fr, H)) os k (upd fr d undef) H Q) := by cases b <;> simp
attribute [simp low] cg_b
@[simp ↓] theorem oldS_get {i : Nat} : oldS old j x i = if i = j then x else old i := rfl
@[simp ↓] theorem ckR_nil : ckR P j op fr old v [] ↔ True := Iff.rfl
@[simp ↓] theorem ckR_cons {a b : Nat} : ckR P j op fr old v ((a, b) :: prs) ↔ (a = j ∧ b < j → lopx P T0 op fr (old b).2 = some (v, (old b).2)) ∧ ckR P j op fr old v prs := Iff.rfl
@[simp ↓] theorem ckH_nil : ckH P j all old fr H' [] ↔ True := Iff.rfl
def lget : List Oper → Nat → Option Oper
  | [], _ => none
  | o :: _, 0 => some o
  | _ :: l, n + 1 => lget l n
theorem lget_eq : ∀ (l : List Oper) (j : Nat), l[j]? = lget l j
  | [], j => by cases j <;> rfl
  | o :: l, 0 => rfl
  | o :: l, n + 1 => lget_eq l n
@[simp ↓] theorem lget_zero {o : Oper} {l : List Oper} : lget (o :: l) 0 = some o := rfl
@[simp ↓] theorem lget_succ {o : Oper} {l : List Oper} {n : Nat} : lget (o :: l) (n + 1) = lget l n := rfl
@[simp ↓] theorem ckH_cons {a b : Nat} {l : List Oper} : ckH P j ⟨l⟩ old fr H' ((a, b) :: prs) ↔ (b = j ∧ a < j → ckOp P ⟨l⟩ (lget l a) (old a) fr H') ∧ ckH P j ⟨l⟩ old fr H' prs := by
  have e : (⟨l⟩ : Array Oper)[a]? = lget l a := by
    rw [← lget_eq]
    show (l.toArray)[a]? = _
    rw [List.getElem?_toArray]
  rw [← e]; exact Iff.rfl
@[simp ↓] theorem ckOp_plain {ty : TypeId} {pos : String} {after : Array Edge} {l : List Oper} : ckOp P ⟨l⟩ (some ⟨some d, op, ty, pos, after, none⟩) x fr H' ↔ lopx P T0 op x.1 H' = some (fr d, H') := by
  unfold ckOp
  constructor
  · intro h; exact h d rfl rfl
  · intro h d' hd _
    injection hd with hd
    subst hd; exact h
def gtr (x : Option Bool) : Prop := x = some true
@[simp] theorem gtr_some {b : Bool} : gtr (some b) ↔ b = true := by unfold gtr; simp
@[simp ↓] theorem ckOp_guard {ty : TypeId} {pos : String} {after : Array Edge} {l : List Oper} {g : Nat} {want : Bool} : ckOp P ⟨l⟩ (some ⟨some d, op, ty, pos, after, some (g, want)⟩) x fr H' ↔ (gtr (guardx ⟨l⟩ x.1 g want) → lopx P T0 op x.1 H' = some (fr d, H')) := by
  unfold ckOp gtr
  constructor
  · intro h hg; exact h d rfl hg
  · intro h d' hd hw
    injection hd with hd
    subst hd; exact h hw
end
@[simp] theorem step_none : Step P E fn none d all os k fr Q ↔ False := Iff.rfl
@[simp] theorem mstep_none : MStep P E fn none d all H0 os k fr Q ↔ False := Iff.rfl
@[simp ↓] theorem upd_get {v : Value} {t : Nat} : upd fr d v t = if t = d then v else fr t := rfl
@[simp ↓] theorem ev_tmp {t : Nat} : ev fr (.tmp t) = fr t := rfl
@[simp ↓] theorem ev_int {kd : IntKind} {n : Int} : ev fr (.const (.int kd n)) = .int kd n := rfl
@[simp ↓] theorem ev_bool {b : Bool} : ev fr (.const (.bool b)) = .bool b := rfl
@[simp ↓] theorem ev_str {l : List UInt8} : ev fr (.const (.string ⟨l.toArray⟩)) = str l := rfl
@[simp ↓] theorem ev_nil : ev fr (.const (.pointer none)) = .pointer none := rfl
@[simp ↓] theorem ev_nilslice : ev fr (.const (.slice none 0 0)) = .slice none 0 0 := rfl
@[simp ↓] theorem ev_func {f : FuncId} : ev fr (.func f) = .func (.func f) #[] #[] := rfl
def RCond (P : Program) (E : Ext) (fn : Func) (c : Value) (x y : Code) (k : List Item) (fr : Fr) (H : LH) (Q : Value × LH → Prop) : Prop :=
  match c with
  | .bool b => (b = true → Runs P E fn (.code x :: k) fr H Q) ∧ (b = false → Runs P E fn (.code y :: k) fr H Q)
  | _ => False
@[congr] theorem rcond_congr {c c' : Value} {x y : Code} (h : c = c') : RCond P E fn c x y k fr H Q = RCond P E fn c' x y k fr H Q := by rw [h]
@[simp ↓] theorem runs_cond' {c : Operand} {x y : Code} : Runs P E fn (.code (.cond c x y) :: k) fr H Q ↔ RCond P E fn (ev fr c) x y k fr H Q := by
  unfold RCond
  cases h : ev fr c with
  | bool b => rw [runs_cond h]; cases b <;> simp
  | _ =>
    simp only [iff_false]
    rintro ⟨n, r, hn, _⟩
    cases n with
    | zero => simp [run] at hn
    | succ n => simp [run, h] at hn
@[simp] theorem rcond_true {x y : Code} : RCond P E fn (.bool true) x y k fr H Q ↔ Runs P E fn (.code x :: k) fr H Q := by simp [RCond]
@[simp] theorem rcond_false {x y : Code} : RCond P E fn (.bool false) x y k fr H Q ↔ Runs P E fn (.code y :: k) fr H Q := by simp [RCond]
@[simp low] theorem rcond_b {b : Bool} {x y : Code} : RCond P E fn (.bool b) x y k fr H Q ↔ (b = true → Runs P E fn (.code x :: k) fr H Q) ∧ (b = false → Runs P E fn (.code y :: k) fr H Q) := Iff.rfl
@[simp ↓] theorem runs_exit' {id : Nat} : Runs P E fn (.code (.exit id) :: k) fr H Q ↔ match exitTo id k with | some k' => Runs P E fn k' fr H Q | none => False := runs_exit
@[simp] theorem exit_nil {id : Nat} : exitTo id [] = none := rfl
@[simp] theorem exit_block {id j : Nat} : exitTo id (.inBlock j :: k) = if j == id then some k else exitTo id k := rfl
@[simp] theorem exit_code {id : Nat} {c : Code} : exitTo id (.code c :: k) = exitTo id k := rfl
@[simp] theorem exit_loop {id : Nat} {c : Code} : exitTo id (.inLoop c :: k) = exitTo id k := rfl
def lnth : List Oper → Nat → Option Tmp
  | [], _ => none
  | o :: _, 0 => o.dst
  | _ :: l, n + 1 => lnth l n
theorem lnth_eq : ∀ (l : List Oper) (j : Nat), (l[j]?).bind (·.dst) = lnth l j
  | [], j => by cases j <;> rfl
  | o :: l, 0 => rfl
  | o :: l, n + 1 => lnth_eq l n
@[simp ↓] theorem lnth_zero {dst : Option Tmp} {op : Op} {ty : TypeId} {pos : String} {after : Array Edge} {g : Option (Nat × Bool)} {l : List Oper} : lnth (⟨dst, op, ty, pos, after, g⟩ :: l) 0 = dst := rfl
@[simp ↓] theorem lnth_succ {o : Oper} {l : List Oper} {n : Nat} : lnth (o :: l) (n + 1) = lnth l n := rfl
def gval (v : Value) (want : Bool) : Option Bool := match v with
  | .bool b => some (b == want)
  | v => if flatB v then some false else none
def gdst (d : Option Tmp) (fr : Fr) (want : Bool) : Option Bool := match d with
  | none => some false
  | some d => gval (fr d) want
@[simp ↓] theorem guardx_mk {l : List Oper} {j : Nat} {want : Bool} : guardx ⟨l⟩ fr j want = gdst (lnth l j) fr want := by
  unfold guardx
  rw [← lnth_eq]
  show (match (l.toArray[j]?).bind (·.dst) with | none => _ | some d => _) = _
  rw [List.getElem?_toArray]
  cases (l[j]?).bind (·.dst) <;> rfl
@[simp] theorem gdst_some {d : Nat} {want : Bool} : gdst (some d) fr want = gval (fr d) want := rfl
@[simp] theorem gval_true {b : Bool} : gval (.bool b) true = some b := by cases b <;> rfl
@[simp] theorem gval_false {b : Bool} : gval (.bool b) false = some (!b) := by cases b <;> rfl
@[simp] theorem gval_undef {want : Bool} : gval undef want = some false := rfl
theorem gstep_b {b : Bool} : GStep P E fn (some b) op d all os k fr H Q ↔ (b = true → Step P E fn (lopxB P (LC P E) op fr H) d all os k fr Q) ∧ (b = false → d < fn.ntmps ∧ ROps P E fn all os k (upd fr d undef) H Q) := by cases b <;> simp
theorem gmstep_b {b : Bool} : GMStep P E fn (some b) op d all H0 os k fr H Q ↔ (b = true → MStep P E fn (lmixx P (LC P E) op fr H0 H) d all H0 os k fr Q) ∧ (b = false → d < fn.ntmps ∧ RMix P E fn all H0 os k (upd fr d undef) H Q) := by cases b <;> simp
attribute [simp low] gstep_b gmstep_b
/-! ### operations -/
@[simp ↓] theorem lopx_move {x : Operand} : lopx P T (.move x) fr H = some (ev fr x, H) := rfl
@[simp ↓] theorem lopx_assign {x : Operand} : lopx P T (.assign x) fr H = some (ev fr x, H) := rfl
def lpick (c a b : Value) (H : LH) : Option (Value × LH) := match c with | .bool t => some (if t then a else b, H) | _ => none
@[simp ↓] theorem lopx_pick {c x y : Operand} : lopx P T (.pick c x y) fr H = lpick (ev fr c) (ev fr x) (ev fr y) H := rfl
@[simp] theorem lpick_bool {t : Bool} {a b : Value} : lpick (.bool t) a b H = some (if t = true then a else b, H) := rfl
def withH (v : Option Value) (H : LH) : Option (Value × LH) := v.map fun v => (v, H)
@[simp] theorem withH_some {v : Value} : withH (some v) H = some (v, H) := rfl
@[simp ↓] theorem lopx_bin {op : BinOp} {t yt : TypeId} {x y : Operand} : lopx P T (.binOp op t x y yt) fr H = withH (lbin P op t (ev fr x) (ev fr y)) H := rfl
def lidx (P : Program) (t : TypeId) (x i : Value) : Option Value := if flatB x && flatB i then pureFlat P (Instr.index t x i) else none
@[simp ↓] theorem lopx_index {t : TypeId} {x i : Operand} : lopx P T (.index t x i) fr H = withH (lidx P t (ev fr x) (ev fr i)) H := by
  show (if flatB (ev fr x) && flatB (ev fr i) then _ else _) = withH (lidx _ _ _ _) _
  unfold lidx withH; split <;> rfl
def lun (P : Program) (op : UnOp) (x : Value) : Option Value := if flatB x then pureFlat P (Op.unary op x) else none
@[simp ↓] theorem lopx_un {op : UnOp} {t : TypeId} {x : Operand} : lopx P T (.unOp op t x) fr H = withH (lun P op (ev fr x)) H := by
  show (if flatB (ev fr x) then _ else _) = withH (lun _ _ _) _
  unfold lun withH; split <;> rfl
def lconv (P : Program) (s d : TypeId) (x : Value) (H : LH) : Option Value := if flatB x then pureFlat P (convert s d x) else lbstr P s d x H
@[simp ↓] theorem lopx_conv {s d : TypeId} {x : Operand} : lopx P T (.convert s d x) fr H = withH (lconv P s d (ev fr x) H) H := by
  show (if flatB (ev fr x) then _ else _) = withH (lconv _ _ _ _ _) _
  unfold lconv withH; split <;> rfl
def lextract (x : Value) (i : Nat) : Option Value := match x with | .tuple vs => vs[i]? | _ => none
@[simp ↓] theorem lopx_extract {x : Operand} {i : Nat} : lopx P T (.extract x i) fr H = withH (lextract (ev fr x) i) H := by
  show (match ev fr x with | .tuple vs => _ | _ => none) = withH (lextract _ _) _
  cases ev fr x <;> rfl
@[simp] theorem lextract_0 {a : Value} {l : List Value} : lextract (.tuple ⟨a :: l⟩) 0 = some a := rfl
@[simp] theorem lextract_1 {a b : Value} {l : List Value} : lextract (.tuple ⟨a :: b :: l⟩) 1 = some b := rfl
@[simp] theorem lextract_2 {a b c : Value} {l : List Value} : lextract (.tuple ⟨a :: b :: c :: l⟩) 2 = some c := rfl
@[simp] theorem lextract_3 {a b c d : Value} {l : List Value} : lextract (.tuple ⟨a :: b :: c :: d :: l⟩) 3 = some d := rfl
@[simp ↓] theorem lopx_call {f : Operand} {args : List Operand} {ts : Array TypeId} : lopx P T (.call ⟨.value f, ⟨args⟩, ts⟩) fr H = lcallee P T (ev fr f) (args.map (ev fr)) H := rfl
@[simp ↓] theorem lopx_builtin {b : Builtin} {args : List Operand} {ts : List TypeId} : lopx P T (.call ⟨.builtin b, ⟨args⟩, ⟨ts⟩⟩) fr H = lbuiltin P b ts (args.map (ev fr)) H := rfl
@[simp] theorem lcallee_func {g : FuncId} {args : List Value} : lcallee P T (.func (.func g) #[] #[]) args H = T g args H := by simp [lcallee]
/-! ### operations that stand in a row -/
@[simp ↓] theorem lopxB_move {x : Operand} : lopxB P T (.move x) fr H = lopx P T (.move x) fr H := rfl
@[simp ↓] theorem lopxB_assign {x : Operand} : lopxB P T (.assign x) fr H = lopx P T (.assign x) fr H := rfl
@[simp ↓] theorem lopxB_pick {c x y : Operand} : lopxB P T (.pick c x y) fr H = lopx P T (.pick c x y) fr H := rfl
@[simp ↓] theorem lopxB_alloc {t : TypeId} : lopxB P T (.alloc t) fr H = lopx P T (.alloc t) fr H := rfl
@[simp ↓] theorem lopxB_box {t : TypeId} {x : Operand} : lopxB P T (.box t x) fr H = lopx P T (.box t x) fr H := rfl
@[simp ↓] theorem lopxB_build {t : TypeId} {ps : Array (Nat × Operand)} : lopxB P T (.build t ps) fr H = lopx P T (.build t ps) fr H := rfl
@[simp ↓] theorem lopxB_buildSlice {t : TypeId} {n : Nat} {ps : Array (Nat × Operand)} : lopxB P T (.buildSlice t n ps) fr H = lopx P T (.buildSlice t n ps) fr H := rfl
@[simp ↓] theorem lopxB_load {t : TypeId} {x : Operand} : lopxB P T (.load t x) fr H = lopx P T (.load t x) fr H := rfl
@[simp ↓] theorem lopxB_store {t : TypeId} {x y : Operand} : lopxB P T (.store t x y) fr H = lopx P T (.store t x y) fr H := rfl
@[simp ↓] theorem lopxB_nilCheck {x : Operand} : lopxB P T (.nilCheck x) fr H = lopx P T (.nilCheck x) fr H := rfl
@[simp ↓] theorem lopxB_binOp {o : BinOp} {t u : TypeId} {x y : Operand} : lopxB P T (.binOp o t x y u) fr H = lopx P T (.binOp o t x y u) fr H := rfl
@[simp ↓] theorem lopxB_unOp {o : UnOp} {t : TypeId} {x : Operand} : lopxB P T (.unOp o t x) fr H = lopx P T (.unOp o t x) fr H := rfl
@[simp ↓] theorem lopxB_makeFunc {f : Fn} {g c : Array Operand} : lopxB P T (.makeFunc f g c) fr H = lopx P T (.makeFunc f g c) fr H := rfl
@[simp ↓] theorem lopxB_makeSlice {t : TypeId} {x y : Operand} : lopxB P T (.makeSlice t x y) fr H = lopx P T (.makeSlice t x y) fr H := rfl
@[simp ↓] theorem lopxB_slice {t : TypeId} {x : Operand} {lo hi mx : Option Operand} : lopxB P T (.slice t x lo hi mx) fr H = lopx P T (.slice t x lo hi mx) fr H := rfl
@[simp ↓] theorem lopxB_fieldAddr {t : TypeId} {x : Operand} {i : Nat} : lopxB P T (.fieldAddr t x i) fr H = lopx P T (.fieldAddr t x i) fr H := rfl
@[simp ↓] theorem lopxB_field {t : TypeId} {x : Operand} {i : Nat} : lopxB P T (.field t x i) fr H = lopx P T (.field t x i) fr H := rfl
@[simp ↓] theorem lopxB_indexAddr {t : TypeId} {x y : Operand} : lopxB P T (.indexAddr t x y) fr H = lopx P T (.indexAddr t x y) fr H := rfl
@[simp ↓] theorem lopxB_index {t : TypeId} {x y : Operand} : lopxB P T (.index t x y) fr H = lopx P T (.index t x y) fr H := rfl
@[simp ↓] theorem lopxB_extract {x : Operand} {i : Nat} : lopxB P T (.extract x i) fr H = lopx P T (.extract x i) fr H := rfl
@[simp ↓] theorem lopxB_call {c : Call} : lopxB P T (.call c) fr H = lopx P T (.call c) fr H := rfl
/-- a conversion -/
def lcvB (P : Program) (s d : TypeId) (v : Value) (H : LH) : Option (Value × LH) := match lbytes P s d v H with
  | some r => some r
  | none => withH (lconv P s d v H) H
@[simp ↓] theorem lopxB_convert {s t : TypeId} {x : Operand} : lopxB P T (.convert s t x) fr H = lcvB P s t (ev fr x) H := by
  show (match lbytes P s t (ev fr x) H with | some r => some r | none => lopx P T (.convert s t x) fr H) = _
  rw [lopx_conv]; rfl
theorem lcvB_no {s t : TypeId} {v : Value} (h : ∀ bs, v ≠ .string bs) : lcvB P s t v H = withH (lconv P s t v H) H := by
  have : lbytes P s t v H = none := by
    unfold lbytes
    split
    · exact absurd rfl (h _)
    · rfl
  unfold lcvB; rw [this]
@[simp] theorem lcvB_int {s t : TypeId} {kd : IntKind} {n : Int} : lcvB P s t (.int kd n) H = withH (lconv P s t (.int kd n) H) H := lcvB_no (fun _ h => by cases h)
@[simp] theorem lcvB_float {s t : TypeId} {kd : FloatKind} {n : Nat} : lcvB P s t (.float kd n) H = withH (lconv P s t (.float kd n) H) H := lcvB_no (fun _ h => by cases h)
@[simp] theorem lcvB_slice {s t : TypeId} {a : Option Addr} {n c : Nat} : lcvB P s t (.slice a n c) H = withH (lconv P s t (.slice a n c) H) H := lcvB_no (fun _ h => by cases h)
@[simp] theorem lcvB_undef {s t : TypeId} : lcvB P s t undef H = withH (lconv P s t undef H) H := lcvB_no (fun _ h => by cases h)
theorem strCells_eq (l : List UInt8) : Lib.strCells ⟨l.toArray⟩ = l.map fun b => Value.int .u8 b.toNat := by simp [Lib.strCells]
@[simp] theorem lcvB_bytes {s t e : TypeId} {l : List UInt8} (hs : P.underlying s = some .string) (hd : P.underlying t = some (.slice e)) (he : P.underlying e = some (.int .u8)) : lcvB P s t (str l) H = some (.slice (some ⟨H.n, 0, none⟩) l.length l.length, H.new ⟨l.map fun b => Value.int .u8 b.toNat, e, false⟩) := by
  unfold lcvB lbytes str
  simp only [hs, hd, he, strCells_eq]
  rw [show (⟨l.toArray⟩ : ByteArray).size = l.length by show l.toArray.size = _; simp]
@[simp] theorem lcvB_strs {s t : TypeId} {l : List UInt8} (hd : P.underlying t = some .string) : lcvB P s t (str l) H = withH (lconv P s t (str l) H) H := by
  have : lbytes P s t (str l) H = none := by
    unfold lbytes
    split
    · rename_i h _; rw [hd] at h; cases h
    · rfl
  unfold lcvB; rw [this]
/-! ### values -/
@[simp] theorem flat_int {kd : IntKind} {n : Int} : flatB (.int kd n) = true := by simp [flatB, flat1B, atomB, str]
@[simp] theorem flat_bool {b : Bool} : flatB (.bool b) = true := by simp [flatB, flat1B, atomB, str]
@[simp] theorem flat_str {l : List UInt8} : flatB (str l) = true := by simp [flatB, flat1B, atomB, str]
@[simp] theorem flat_string {s : ByteArray} : flatB (.string s) = true := by simp [flatB, flat1B, atomB, str]
@[simp] theorem flat_nil : flatB (.pointer none) = true := by simp [flatB, flat1B, atomB, str]
@[simp] theorem flat_nilslice : flatB (.slice none 0 0) = true := by simp [flatB, flat1B, atomB, str]
@[simp] theorem wrap64_in {n : Int} (h1 : -9223372036854775808 ≤ n) (h2 : n ≤ 9223372036854775807) : IntKind.i64.wrap n = n := IntWalk.i64_in _ ⟨h1, h2⟩
theorem lbin_ii {op : BinOp} {t : TypeId} {kd : IntKind} {a b : Int} {v : Value} (h : pureVal P (binOp op t (.int kd a) (.int kd b)) = some v) (hv : flatB v = true) : lbin P op t (.int kd a) (.int kd b) = some v := by
  have e : pureVal P (do eqGuard op t (.tmp 0) (.tmp 0) (.int kd a) (.int kd b); binOp op t (.int kd a) (.int kd b) : Sem Value) = some v := by
    rw [← h]; cases op <;> rfl
  show pureFlat P (do eqGuard op t (.tmp 0) (.tmp 0) _ _; binOp op t _ _) = some v
  unfold pureFlat
  rw [e]
  simp only [hv, if_true]
variable {t : TypeId} {kd : IntKind} {a b : Int}
@[simp] theorem lbin_add : lbin P .add t (.int kd a) (.int kd b) = some (.int kd (kd.wrap (a + b))) := lbin_ii (by simp [binOp, Op.intArith]) rfl
@[simp] theorem lbin_sub : lbin P .sub t (.int kd a) (.int kd b) = some (.int kd (kd.wrap (a - b))) := lbin_ii (by simp [binOp, Op.intArith]) rfl
@[simp] theorem lbin_mul : lbin P .mul t (.int kd a) (.int kd b) = some (.int kd (kd.wrap (a * b))) := lbin_ii (by simp [binOp, Op.intArith]) rfl
@[simp] theorem lbin_quo (h : b ≠ 0) : lbin P .quo t (.int kd a) (.int kd b) = some (.int kd (kd.wrap (a.tdiv b))) := lbin_ii (by simp [binOp, Op.intDiv, h]) rfl
@[simp] theorem lbin_rem (h : b ≠ 0) : lbin P .rem t (.int kd a) (.int kd b) = some (.int kd (a.tmod b)) := lbin_ii (by simp [binOp, Op.intDiv, h]) rfl
@[simp] theorem lbin_eq : lbin P .eql t (.int kd a) (.int kd b) = some (.bool (decide (a = b))) := lbin_ii (by by_cases h : a = b <;> simp [binOp, Op.intCmp, h]) rfl
@[simp] theorem lbin_ne : lbin P .neq t (.int kd a) (.int kd b) = some (.bool (decide (a ≠ b))) := lbin_ii (by
  simp only [binOp, Op.intCmp, ne_eq, not_true_eq_false, if_false]
  show some (Value.bool (a != b)) = _
  congr 2
  by_cases h : a = b <;> simp [h]) rfl
@[simp] theorem lbin_lt : lbin P .lss t (.int kd a) (.int kd b) = some (.bool (decide (a < b))) := lbin_ii (by simp [binOp, Op.intCmp]) rfl
@[simp] theorem lbin_le : lbin P .leq t (.int kd a) (.int kd b) = some (.bool (decide (a ≤ b))) := lbin_ii (by simp [binOp, Op.intCmp]) rfl
@[simp] theorem lbin_gt : lbin P .gtr t (.int kd a) (.int kd b) = some (.bool (decide (b < a))) := lbin_ii (by simp [binOp, Op.intCmp]) rfl
@[simp] theorem lbin_ge : lbin P .geq t (.int kd a) (.int kd b) = some (.bool (decide (b ≤ a))) := lbin_ii (by simp [binOp, Op.intCmp]) rfl
theorem lbin_ss {op : BinOp} {t : TypeId} {a b : List UInt8} {v : Value} (h : pureVal P (binOp op t (str a) (str b)) = some v) (hv : flatB v = true) : lbin P op t (str a) (str b) = some v := by
  have e : pureVal P (do eqGuard op t (.tmp 0) (.tmp 0) (str a) (str b); binOp op t (str a) (str b) : Sem Value) = some v := by
    rw [← h]; cases op <;> rfl
  show pureFlat P (do eqGuard op t (.tmp 0) (.tmp 0) _ _; binOp op t _ _) = some v
  unfold pureFlat
  rw [e]
  simp only [hv, if_true]
theorem ba_list (l : List UInt8) : (⟨l.toArray⟩ : ByteArray).toList = l := by rw [ba_toList]
theorem ba_size (l : List UInt8) : (⟨l.toArray⟩ : ByteArray).size = l.length := by show l.toArray.size = _; simp
variable {x y : List UInt8}
@[simp] theorem lbin_seq : lbin P .eql t (str x) (str y) = some (.bool (decide (x = y))) := lbin_ss (by
  simp only [str, binOp, Op.stringOp, ba_list]
  show some (Value.bool (x == y)) = _
  by_cases h : x = y <;> simp [h]) rfl
@[simp] theorem lbin_sne : lbin P .neq t (str x) (str y) = some (.bool (decide (x ≠ y))) := lbin_ss (by
  simp only [str, binOp, Op.stringOp, ba_list]
  show some (Value.bool (!(x == y))) = _
  by_cases h : x = y <;> simp [h]) rfl
@[simp] theorem lbin_cat (h : x.length + y.length ≤ 9223372036854775807) : lbin P .add t (str x) (str y) = some (str (x ++ y)) := lbin_ss (by
  simp only [str, binOp, Op.stringOp, ba_size]
  rw [if_neg (by rw [show IntKind.max .i64 = 9223372036854775807 from rfl]; omega)]
  show some (Value.string _) = _
  congr 2) rfl
theorem lbin_bb {op : BinOp} {t : TypeId} {a b : Bool} {v : Value} (h : pureVal P (binOp op t (.bool a) (.bool b)) = some v) (hv : flatB v = true) : lbin P op t (.bool a) (.bool b) = some v := by
  have e : pureVal P (do eqGuard op t (.tmp 0) (.tmp 0) (.bool a) (.bool b); binOp op t (.bool a) (.bool b) : Sem Value) = some v := by
    rw [← h]; cases op <;> rfl
  show pureFlat P (do eqGuard op t (.tmp 0) (.tmp 0) _ _; binOp op t _ _) = some v
  unfold pureFlat
  rw [e]
  simp only [hv, if_true]
@[simp] theorem lun_not {a : Bool} : lun P .not (.bool a) = some (.bool (!a)) := rfl
@[simp] theorem lun_neg {a : Int} : lun P .neg (.int kd a) = some (.int kd (kd.wrap (0 - a))) := rfl
/-- a string's byte -/
def at_ (l : List UInt8) (i : Int) : UInt8 := l.getD i.toNat 0
theorem lidx_str (hu : P.underlying t = some .string) {i : Int} (h0 : 0 ≤ i) (h1 : i < x.length) : lidx P t (str x) (.int kd i) = some (.int .u8 (at_ x i).toNat) := by
  have hlt : i.toNat < x.length := by omega
  have e : (⟨x.toArray⟩ : ByteArray)[i.toNat]? = some (at_ x i) := by
    unfold at_
    have : (⟨x.toArray⟩ : ByteArray)[i.toNat]? = x[i.toNat]? := by
      rw [getElem?_def, getElem?_def]
      simp only [ba_size]
      rfl
    rw [this, List.getD_eq_getElem?_getD, List.getElem?_eq_getElem hlt]; rfl
  have hp : pureVal P (Instr.index t (str x) (.int kd i)) = some (.int .u8 (at_ x i).toNat) := by
    simp only [Instr.index, str, asIntOf, pureVal_bind, pureVal_pure, Option.bind_some, pureVal_und, hu]
    rw [if_pos h0, e]; rfl
  show pureFlat P _ = _
  unfold pureFlat
  rw [hp]; rfl
theorem lbuiltin_len_str (hu : P.underlying t = some .string) : lbuiltin P .len [t] [str x] H = some (.int .i64 x.length, H) := by
  simp only [lbuiltin, str, hu, ba_size]
theorem lbuiltin_len_slice {e : TypeId} (hu : P.underlying t = some (.slice e)) {ad : Option Addr} {n c : Nat} : lbuiltin P .len [t] [.slice ad n c] H = some (.int .i64 n, H) := by
  simp only [lbuiltin, hu]
end
end Go.Lg
/-
  A logical run of Go code: what operations on memory, strings and slices come to.
-/
set_option linter.unusedSimpArgs false
set_option linter.unusedVariables false
namespace Go.Lg
open Go.Tg Go.RowKit

abbrev ptr (l off : Nat) : Value := .pointer (some ⟨l, off, none⟩)
abbrev sl (l n c : Nat) : Value := .slice (some ⟨l, 0, none⟩) n c
section
variable {P : Program} {E : Ext} {fn : Func} {k : List Item} {fr : Fr} {H H' : LH} {Q : Value × LH → Prop} {all : Array Oper} {os : List Oper} {d : Nat} {op : Op} {T : Callee} {b c : LB} {l m : Nat}

@[simp] theorem enter_get {args : List Value} {t : Nat} : enter args t = args.getD t undef := rfl
/-! ### the heap -/
@[simp] theorem get_new : (H.new b).get H.n = some b := by simp [LH.new]
theorem get_new' : (H.new b).get l = if l = H.n then some b else H.get l := rfl
@[simp] theorem get_new_ne (h : l ≠ H.n) : (H.new b).get l = H.get l := by simp [LH.new, h]
@[simp] theorem get_set : (H.set l b).get l = some b := by simp [LH.set]
@[simp] theorem get_set_ne (h : m ≠ l) : (H.set l b).get m = H.get m := by simp [LH.set, h]
@[simp] theorem get_kill : (H.kill l).get l = none := by simp [LH.kill]
@[simp] theorem get_kill_ne (h : m ≠ l) : (H.kill l).get m = H.get m := by simp [LH.kill, h]
@[simp] theorem n_new : (H.new b).n = H.n + 1 := by simp only [LH.new]
@[simp] theorem n_set : (H.set l b).n = H.n := by simp only [LH.set]
@[simp] theorem n_kill : (H.kill l).n = H.n := by simp only [LH.kill]
@[simp] theorem n_ro : H.ro.n = H.n := by simp only [LH.ro]
@[simp] theorem base_new : (H.new b).base = H.base := by simp only [LH.new]
@[simp] theorem base_set : (H.set l b).base = H.base := by simp only [LH.set]
@[simp] theorem base_kill : (H.kill l).base = H.base := by simp only [LH.kill]
@[simp] theorem base_ro : H.ro.base = H.base := by simp only [LH.ro]
@[simp] theorem ng_new : (H.new b).ng = H.ng := by simp only [LH.new]
@[simp] theorem ng_set : (H.set l b).ng = H.ng := by simp only [LH.set]
@[simp] theorem ng_kill : (H.kill l).ng = H.ng := by simp only [LH.kill]
@[simp] theorem ng_ro : H.ro.ng = H.ng := by simp only [LH.ro]
@[simp] theorem get_ro : H.ro.get l = (H.get l).map fun b => { b with rw := false } := by simp only [LH.ro]
@[simp] theorem set_set : (H.set l b).set l c = H.set l c := by
  unfold LH.set; simp only [LH.mk.injEq, true_and, and_true]; funext k; split <;> simp_all
@[simp] theorem new_set : (H.new b).set H.n c = H.new c := by
  unfold LH.new LH.set; simp only [LH.mk.injEq, true_and, and_true]; funext k; split <;> simp_all
@[simp] theorem le_self : H.le H := le_refl
theorem LH.le.trans {A B C : LH} (h : A.le B) (g : B.le C) : A.le C := ⟨Nat.le_trans h.1 g.1, fun l hl => (g.2 l (Nat.lt_of_lt_of_le hl h.1)).trans (h.2 l hl)⟩
theorem LH.le.new (h : H.le H') : H.le (H'.new b) := ⟨Nat.le_succ_of_le h.1, fun l hl => by
  have := h.1
  rw [get_new_ne (by omega)]; exact h.2 l hl⟩
theorem LH.le.set (h : H.le H') (hl : H.n ≤ l) : H.le (H'.set l b) := ⟨h.1, fun k hk => by rw [get_set_ne (by omega)]; exact h.2 k hk⟩
theorem LH.le.kill (h : H.le H') (hl : H.n ≤ l) : H.le (H'.kill l) := ⟨h.1, fun k hk => by rw [get_kill_ne (by omega)]; exact h.2 k hk⟩
/-! ### fields, loads, stores -/
/-- a field: its first cell, how many cells, whether it is a struct or an array -/
def fldi (P : Program) (s : TypeId) (f : Nat) : Option (Nat × Nat × Bool) :=
  match P.underlying s with
  | some (.struct fs) => match fs[f]? with
    | some fd => match sz P fd.type, aggB P fd.type with
      | some n, some g => some (fd.offset, n, g)
      | _, _ => none
    | none => none
  | _ => none
def lfaddr (i : Option (Nat × Nat × Bool)) (x : Value) (H : LH) : Option (Value × LH) :=
  match i, x with
  | some (o, n, _), .pointer (some ⟨l, off, none⟩) => if n = 0 then none else some (ptr l (off + o), H)
  | _, _ => none
theorem lopx_fieldAddr {s : TypeId} {x : Operand} {f : Nat} {i : Nat × Nat × Bool} (h : fldi P s f = some i) : lopx P T (.fieldAddr s x f) fr H = lfaddr (some i) (ev fr x) H := by
  unfold fldi at h
  show (match ev fr x, P.underlying s with | .pointer (some ⟨l, off, none⟩), some (.struct fs) => _ | _, _ => none) = _
  split at h
  · rename_i fs hu
    split at h
    · rename_i fd hf
      split at h
      · rename_i n g hs ha
        injection h with h
        subst h
        rw [hu]
        unfold lfaddr
        split
        · rename_i e1 e2
          injection e2 with e2
          injection e2 with e2
          subst e2
          simp only [hf, hs, e1]
        · rename_i h1
          split
          · rename_i e1 e2
            exact absurd rfl (h1 _ _ _ e2)
          · rfl
      · cases h
    · cases h
  · cases h
attribute [simp] lopx_fieldAddr
@[simp] theorem lfaddr_ptr {o n off : Nat} {g : Bool} (h : n ≠ 0) : lfaddr (some (o, n, g)) (ptr l off) H = some (ptr l (off + o), H) := by simp [lfaddr, h]
def lldb (a : Option Bool) (s : Option Nat) (cs : List Value) (off : Nat) : Option Value :=
  match a, s with
  | some true, some s => if off + s ≤ cs.length then some (.agg ((cs.drop off).take s).toArray) else none
  | some false, _ => cs[off]?
  | _, _ => none
def lld (P : Program) (t : TypeId) (x : Value) (H : LH) : Option Value := match x with
  | .pointer (some ⟨l, off, none⟩) => match H.get l with
    | some b => lldb (aggB P t) (sz P t) b.cells off
    | none => none
  | _ => none
theorem lload_eq {t : TypeId} {off : Nat} : lload P t l off H = lld P t (ptr l off) H := by
  cases h : H.get l with
  | none => simp only [lload, lld, h]
  | some b =>
    simp only [lload, lld, h, lldb]
    cases aggB P t with
    | none => rfl
    | some g => cases g <;> cases sz P t <;> simp [lcells]
@[simp ↓] theorem lopx_load {t : TypeId} {x : Operand} : lopx P T (.load t x) fr H = withH (lld P t (ev fr x) H) H := by
  show (match ev fr x with | .pointer (some ⟨l, off, none⟩) => (lload P t l off H).map fun v => (v, H) | _ => none) = _
  split
  · rename_i e; rw [e, lload_eq]; rfl
  · rename_i h
    unfold lld
    split
    · rename_i e; exact absurd e (h _ _)
    · rfl
theorem lld_ptr {t : TypeId} {off : Nat} (h : H.get l = some b) : lld P t (ptr l off) H = lldb (aggB P t) (sz P t) b.cells off := by simp [lld, h]
attribute [simp] lld_ptr
@[simp] theorem lldb_cell {s : Option Nat} {cs : List Value} {off : Nat} : lldb (some false) s cs off = cs[off]? := rfl
@[simp] theorem lldb_agg {s : Nat} {cs : List Value} {off : Nat} (h : off + s ≤ cs.length) : lldb (some true) (some s) cs off = some (.agg ((cs.drop off).take s).toArray) := by simp [lldb, h]
def lst (P : Program) (t : TypeId) (x v : Value) (H : LH) : Option (Value × LH) := match x with
  | .pointer (some ⟨l, off, none⟩) => (lstore P t l off v H).map fun H' => (undef, H')
  | _ => none
@[simp ↓] theorem lopx_store {t : TypeId} {x y : Operand} : lopx P T (.store t x y) fr H = lst P t (ev fr x) (ev fr y) H := rfl
theorem cells_one {v : Value} (h : cellB v = true) : v.cells = #[v] := by cases v <;> first | rfl | (simp [cellB] at h)
theorem lst_cell {t : TypeId} {off : Nat} {v : Value} (h : H.get l = some b) (hrw : b.rw = true) (hs : sz P t = some 1) (hv : cellB v = true) (ho : off < b.cells.length) :
    lst P t (ptr l off) v H = some (undef, H.set l ⟨b.cells.set off v, b.elem, true⟩) := by
  have e1 : splice b.cells off [v] = b.cells.set off v := by
    unfold splice
    rw [List.set_eq_take_append_cons_drop, if_pos ho]; simp
  simp only [lst, lstore, h, hs, cells_one hv]
  simp [hv, e1, hrw]
  omega
attribute [simp] lst_cell
theorem lst_agg {t : TypeId} {off n : Nat} {vs : List Value} (h : H.get l = some b) (hrw : b.rw = true) (hs : sz P t = some n) (hn : vs.length = n) (hv : vs.all cellB = true) (ho : off + n ≤ b.cells.length) :
    lst P t (ptr l off) (.agg ⟨vs⟩) H = some (undef, H.set l ⟨splice b.cells off vs, b.elem, true⟩) := by
  subst hn
  have hv' : ∀ x ∈ vs, cellB x = true := by simpa using hv
  simp only [lst, lstore, h, hs, Value.cells]
  simp [ho, hrw]
  exact hv'
attribute [simp] lst_agg
@[simp] theorem cell_int {kd : IntKind} {n : Int} : cellB (.int kd n) = true := by simp only [cellB]
@[simp] theorem cell_bool {x : Bool} : cellB (.bool x) = true := by simp only [cellB, str]
@[simp] theorem cell_str {x : List UInt8} : cellB (str x) = true := by simp only [cellB, str]
@[simp] theorem cell_ptr {x : Option Addr} : cellB (.pointer x) = true := by simp only [cellB, str]
@[simp] theorem cell_slice {x : Option Addr} {n c : Nat} : cellB (.slice x n c) = true := by simp only [cellB, str]
@[simp] theorem cell_func {f : Fn} {x y : Array Value} : cellB (.func f x y) = true := by simp only [cellB, str]
def Step0 (P : Program) (E : Ext) (fn : Func) (x : Option (Value × LH)) (all : Array Oper) (os : List Oper) (k : List Item) (fr : Fr) (Q : Value × LH → Prop) : Prop :=
  match x with
  | some (_, H) => ROps P E fn all os k fr H Q
  | none => False
@[congr] theorem step0_congr {x y : Option (Value × LH)} (h : x = y) : Step0 P E fn x all os k fr Q = Step0 P E fn y all os k fr Q := by rw [h]
@[simp] theorem step0_some {v : Value} : Step0 P E fn (some (v, H)) all os k fr Q ↔ ROps P E fn all os k fr H Q := Iff.rfl
@[simp] theorem step0_none : Step0 P E fn none all os k fr Q ↔ False := Iff.rfl
@[simp ↓] theorem rops_cons0' {ty : TypeId} {pos : String} {after : Array Edge} : ROps P E fn all (⟨none, op, ty, pos, after, none⟩ :: os) k fr H Q ↔ Step0 P E fn (lopxB P (LC P E) op fr H) all os k fr Q := by
  rw [rops_cons0]; rfl
/-! ### results -/
def lres (P : Program) (rs : List ResultVar) (fr : Fr) (H : LH) : Option Value :=
  match rs.mapM (lresult P fr H) with
  | some [v] => some v
  | some vs => some (.tuple vs.toArray)
  | none => none
@[simp] theorem lresults_eq : lresults P fn fr H = lres P fn.results.toList fr H := rfl
def lres1 (P : Program) (r : ResultVar) (fr : Fr) (H : LH) : Option Value := match r with
  | .tmp t => some (fr t)
  | .cell a t => lld P t (fr a) H
theorem lresult_eq {x : ResultVar} : lresult P fr H x = lres1 P x fr H := by
  cases x with
  | tmp t => rfl
  | cell a t =>
    simp only [lresult, lres1]
    split
    · rename_i e; rw [e, lload_eq]
    · rename_i h
      unfold lld
      split
      · rename_i e; exact absurd e (h _ _)
      · rfl
@[simp] theorem lres1_tmp {t : Tmp} : lres1 P (.tmp t) fr H = some (fr t) := rfl
@[simp] theorem lres1_cell {a : Tmp} {t : TypeId} : lres1 P (.cell a t) fr H = lld P t (fr a) H := rfl
@[simp] theorem lres_nil : lres P [] fr H = some (.tuple #[]) := rfl
@[simp] theorem lres_one {x : ResultVar} : lres P [x] fr H = lres1 P x fr H := by
  simp only [lres, List.mapM_cons, List.mapM_nil, lresult_eq]
  cases lres1 P x fr H <;> rfl
@[simp] theorem lres_two {x y : ResultVar} : lres P [x, y] fr H = (lres1 P x fr H).bind fun a => (lres1 P y fr H).bind fun b => some (.tuple #[a, b]) := by
  simp only [lres, List.mapM_cons, List.mapM_nil, lresult_eq]
  cases lres1 P x fr H <;> cases lres1 P y fr H <;> rfl
@[simp] theorem lres_three {x y z : ResultVar} : lres P [x, y, z] fr H = (lres1 P x fr H).bind fun a => (lres1 P y fr H).bind fun b => (lres1 P z fr H).bind fun c => some (.tuple #[a, b, c]) := by
  simp only [lres, List.mapM_cons, List.mapM_nil, lresult_eq]
  cases lres1 P x fr H <;> cases lres1 P y fr H <;> cases lres1 P z fr H <;> rfl
@[simp] theorem lres_four {x y z u : ResultVar} : lres P [x, y, z, u] fr H = (lres1 P x fr H).bind fun a => (lres1 P y fr H).bind fun b => (lres1 P z fr H).bind fun c => (lres1 P u fr H).bind fun d => some (.tuple #[a, b, c, d]) := by
  simp only [lres, List.mapM_cons, List.mapM_nil, lresult_eq]
  cases lres1 P x fr H <;> cases lres1 P y fr H <;> cases lres1 P z fr H <;> cases lres1 P u fr H <;> rfl
/-! ### new blocks -/
def lbox (s : Option Nat) (e : TypeId) (v : Value) (H : LH) : Option (Value × LH) := if knownB v && s == some v.cells.size then some (ptr H.n 0, H.new ⟨v.cells.toList, e, true⟩) else none
@[simp ↓] theorem lopx_box {e : TypeId} {x : Operand} : lopx P T (.box e x) fr H = lbox (sz P e) e (ev fr x) H := rfl
@[simp] theorem lbox_agg {e : TypeId} {n : Nat} {vs : List Value} (h : vs.length = n) : lbox (some n) e (.agg ⟨vs⟩) H = some (ptr H.n 0, H.new ⟨vs, e, true⟩) := by simp [lbox, knownB, Value.cells, h]
@[simp] theorem lbox_cell {e : TypeId} {v : Value} (h : cellB v = true) : lbox (some 1) e v H = some (ptr H.n 0, H.new ⟨[v], e, true⟩) := by
  have : knownB v = true := by cases v <;> first | rfl | (simp [cellB] at h)
  simp [lbox, this, cells_one h]
def lalloc (s : Option Nat) (z : Option Value) (e : TypeId) (H : LH) : Option (Value × LH) := match z with
  | some z => if flatB z && s == some z.cells.size then some (ptr H.n 0, H.new ⟨z.cells.toList, e, true⟩) else none
  | none => none
@[simp ↓] theorem lopx_alloc {e : TypeId} : lopx P T (.alloc e) fr H = lalloc (sz P e) (zr P e) e H := rfl
@[simp] theorem lalloc_agg {e : TypeId} {n : Nat} {vs : List Value} (h : vs.length = n) (hf : vs.all atomB = true) : lalloc (some n) (some (.agg ⟨vs⟩)) e H = some (ptr H.n 0, H.new ⟨vs, e, true⟩) := by
  have : flatB (.agg ⟨vs⟩) = true := hf
  simp [lalloc, this, Value.cells, h]
@[simp] theorem lalloc_cell {e : TypeId} {v : Value} (h : cellB v = true) (hf : flatB v = true) : lalloc (some 1) (some v) e H = some (ptr H.n 0, H.new ⟨[v], e, true⟩) := by simp [lalloc, hf, cells_one h]
@[simp] theorem zr_str : Value.string ⟨#[]⟩ = str [] := rfl
@[simp ↓] theorem lopx_nilCheck {x : Operand} {ad : Addr} (h : ev fr x = .pointer (some ad)) : lopx P T (.nilCheck x) fr H = some (.pointer (some ad), H) := by
  show (match ev fr x with | .pointer (some a) => _ | .func (.func g) f c => _ | _ => none) = _
  rw [h]
/-! ### strings -/
/-- a part of a string -/
def sub (x : List UInt8) (i j : Int) : List UInt8 := (x.take j.toNat).drop i.toNat
def lbv (v : Value) : Option Int := match v with | .int _ i => some i | _ => none
def lssl (x : Value) (i j : Option Int) : Option Value := match x, i, j with
  | .string s, some i, some j => if 0 ≤ i ∧ i ≤ j ∧ j ≤ s.size then some (str (sub s.data.toList i j)) else none
  | _, _, _ => none
end
end Go.Lg
/-
  A logical run of Go code: parts of strings and rows, elements, append, conversions, structs.
-/
set_option linter.unusedSimpArgs false
set_option linter.unusedVariables false
namespace Go.Lg
open Go.Tg Go.RowKit

section
variable {P : Program} {E : Ext} {fn : Func} {k : List Item} {fr : Fr} {H H' : LH} {Q : Value × LH → Prop} {all : Array Oper} {os : List Oper} {d : Nat} {op : Op} {T : Callee} {b c : LB} {l m : Nat} {t e : TypeId} {kd kd' : IntKind} {x y : List UInt8} {i j : Int}
attribute [simp] lidx_str lbuiltin_len_str lbuiltin_len_slice
/-! ### parts -/
def evo (fr : Fr) (o : Option Operand) : Option Value := o.map (ev fr)
@[simp ↓] theorem evo_none : evo fr none = none := rfl
@[simp ↓] theorem evo_some {x : Operand} : evo fr (some x) = some (ev fr x) := rfl
def lbd (d : Nat) : Option Value → Option Nat
  | none => some d
  | some (.int _ i) => if 0 ≤ i then some i.toNat else none
  | _ => none
theorem lbound_eq {d : Nat} {o : Option Operand} : lbound fr d o = lbd d (evo fr o) := by
  cases o with
  | none => rfl
  | some x => simp only [lbound, evo, Option.map_some]; cases ev fr x <;> rfl
def lpart (P : Program) (t : TypeId) (x : Value) (lo hi : Option Value) : Option Value :=
  match P.underlying t, x with
  | some .string, .string s =>
    match lbd 0 lo, lbd s.size hi with
    | some a, some b => if a ≤ b ∧ b ≤ s.size then some (.string (s.extract a b)) else none
    | _, _ => none
  | some (.slice e), .slice a n c =>
    match lbd 0 lo, lbd n hi, sz P e with
    | some i, some j, some s => if i ≤ j ∧ j ≤ n then
        match a with
        | some ⟨l, o, none⟩ => some (.slice (some ⟨l, o + i * s, none⟩) (j - i) (c - i))
        | none => some (.slice none 0 0)
        | _ => none
      else none
    | _, _, _ => none
  | _, _ => none
@[simp ↓] theorem lopx_slice {x : Operand} {lo hi : Option Operand} : lopx P T (.slice t x lo hi none) fr H = withH (lpart P t (ev fr x) (evo fr lo) (evo fr hi)) H := by
  show (lslice P t (ev fr x) fr lo hi).map _ = _
  unfold lslice lpart withH
  simp only [lbound_eq]
  rfl
theorem ext_str {a b : Nat} : (⟨x.toArray⟩ : ByteArray).extract a b = ⟨((x.take b).drop a).toArray⟩ := by
  apply ByteArray.ext
  rw [ByteArray.data_extract, List.drop_take]
  simp
theorem lpart_str0 {u : Option TypeDesc} (hu : P.underlying t = some .string) {a b : Option Value} {p q : Nat} (ha : lbd 0 a = some p) (hb : lbd x.length b = some q) (h : p ≤ q ∧ q ≤ x.length) : lpart P t (str x) a b = some (str ((x.take q).drop p)) := by
  unfold lpart str
  simp only [hu, ha, ba_size, hb, if_pos h, ext_str]
theorem lbd_int {d : Nat} (h : 0 ≤ i) : lbd d (some (.int kd i)) = some i.toNat := by simp only [lbd, if_pos h]
@[simp] theorem lpart_str_nn (hu : P.underlying t = some .string) : lpart P t (str x) none none = some (str x) := by
  rw [lpart_str0 (u := none) hu rfl rfl ⟨Nat.zero_le _, Nat.le_refl _⟩]; simp
@[simp] theorem lpart_str_ns (hu : P.underlying t = some .string) (h0 : 0 ≤ j) (h1 : j ≤ x.length) : lpart P t (str x) none (some (.int kd j)) = some (str (x.take j.toNat)) := by
  rw [lpart_str0 (u := none) hu rfl (lbd_int h0) ⟨Nat.zero_le _, by omega⟩]; simp
@[simp] theorem lpart_str_sn (hu : P.underlying t = some .string) (h0 : 0 ≤ i) (h1 : i ≤ x.length) : lpart P t (str x) (some (.int kd i)) none = some (str (x.drop i.toNat)) := by
  rw [lpart_str0 (u := none) hu (lbd_int h0) rfl ⟨by omega, Nat.le_refl _⟩]; simp
@[simp] theorem lpart_str_ss (hu : P.underlying t = some .string) (h0 : 0 ≤ i) (h1 : i ≤ j) (h2 : j ≤ x.length) : lpart P t (str x) (some (.int kd i)) (some (.int kd' j)) = some (str (sub x i j)) :=
  lpart_str0 (u := none) hu (lbd_int h0) (lbd_int (by omega)) ⟨by omega, by omega⟩
theorem lpart_row0 {s o n c : Nat} (hu : P.underlying t = some (.slice e)) (hs : sz P e = some s) {a b : Option Value} {p q : Nat} (ha : lbd 0 a = some p) (hb : lbd n b = some q) (h : p ≤ q ∧ q ≤ n) : lpart P t (.slice (some ⟨l, o, none⟩) n c) a b = some (.slice (some ⟨l, o + p * s, none⟩) (q - p) (c - p)) := by
  unfold lpart
  simp only [hu, ha, hs, hb, if_pos h]
@[simp] theorem lpart_row_nn {s o n c : Nat} (hu : P.underlying t = some (.slice e)) (hs : sz P e = some s) : lpart P t (.slice (some ⟨l, o, none⟩) n c) none none = some (.slice (some ⟨l, o, none⟩) n c) := by
  rw [lpart_row0 hu hs rfl rfl ⟨Nat.zero_le _, Nat.le_refl _⟩]; simp
@[simp] theorem lpart_row_ns {s o n c : Nat} (hu : P.underlying t = some (.slice e)) (hs : sz P e = some s) (h0 : 0 ≤ j) (h1 : j ≤ n) : lpart P t (.slice (some ⟨l, o, none⟩) n c) none (some (.int kd j)) = some (.slice (some ⟨l, o, none⟩) j.toNat c) := by
  rw [lpart_row0 hu hs rfl (lbd_int h0) ⟨Nat.zero_le _, by omega⟩]; simp
@[simp] theorem lpart_row_sn {s o n c : Nat} (hu : P.underlying t = some (.slice e)) (hs : sz P e = some s) (h0 : 0 ≤ i) (h1 : i ≤ n) : lpart P t (.slice (some ⟨l, o, none⟩) n c) (some (.int kd i)) none = some (.slice (some ⟨l, o + i.toNat * s, none⟩) (n - i.toNat) (c - i.toNat)) := by
  rw [lpart_row0 hu hs (lbd_int h0) rfl ⟨by omega, Nat.le_refl _⟩]
@[simp] theorem lpart_row_ss {s o n c : Nat} (hu : P.underlying t = some (.slice e)) (hs : sz P e = some s) (h0 : 0 ≤ i) (h1 : i ≤ j) (h2 : j ≤ n) : lpart P t (.slice (some ⟨l, o, none⟩) n c) (some (.int kd i)) (some (.int kd' j)) = some (.slice (some ⟨l, o + i.toNat * s, none⟩) (j.toNat - i.toNat) (c - i.toNat)) :=
  lpart_row0 hu hs (lbd_int h0) (lbd_int (by omega)) ⟨by omega, by omega⟩
@[simp] theorem lpart_nil {s : Nat} (hu : P.underlying t = some (.slice e)) (hs : sz P e = some s) : lpart P t (.slice none 0 0) none none = some (.slice none 0 0) := by
  unfold lpart; simp [hu, lbd, hs]
/-! ### elements -/
def lixa (P : Program) (t : TypeId) (x i : Value) (H : LH) : Option (Value × LH) := match x, i, P.underlying t with
  | .slice (some ⟨l, off, none⟩) n _, .int _ k, some (.slice e) => match sz P e with
    | some s => if 0 ≤ k ∧ k < n then some (.pointer (some ⟨l, off + k.toNat * s, none⟩), H) else none
    | none => none
  | _, _, _ => none
@[simp ↓] theorem lopx_indexAddr {x i : Operand} : lopx P T (.indexAddr t x i) fr H = lixa P t (ev fr x) (ev fr i) H := rfl
@[simp] theorem lixa_row {s off n c : Nat} (hu : P.underlying t = some (.slice e)) (hs : sz P e = some s) (h0 : 0 ≤ i) (h1 : i < n) : lixa P t (.slice (some ⟨l, off, none⟩) n c) (.int kd i) H = some (ptr l (off + i.toNat * s), H) := by
  simp only [lixa, hu, hs, if_pos (And.intro h0 h1)]
/-! ### append -/
def lesrc (P : Program) (t : TypeId) (y : Value) (H : LH) : Option (Nat × List Value) :=
  match P.underlying t with
  | some (.slice e) => match lesz P e with
    | some s => lsrc s y H
    | none => none
  | _ => none
@[simp] theorem lesrc_nil {s : Nat} (hu : P.underlying t = some (.slice e)) (hs : lesz P e = some s) : lesrc P t (.slice none 0 0) H = some (0, []) := by
  simp only [lesrc, hu, hs, lsrc]
@[simp] theorem lesrc_row {s o n c : Nat} (hu : P.underlying t = some (.slice e)) (hs : lesz P e = some s) (hb : H.get l = some b) (hle : o + n * s ≤ b.cells.length) : lesrc P t (.slice (some ⟨l, o, none⟩) n c) H = some (n, (b.cells.drop o).take (n * s)) := by
  simp only [lesrc, hu, hs, lsrc, hb, lcells, if_pos hle, Option.map_some]
def lapp (P : Program) (t : TypeId) (x : Value) (src : Option (Nat × List Value)) (H : LH) : Option (Value × LH) :=
  match P.underlying t, src with
  | some (.slice e), some (m, new) =>
    match lesz P e with
    | some s =>
        if new.all cellB then
          match x with
          | .slice none 0 0 => if m = 0 then some (x, H) else if m ≤ maxElems then some (.slice (some ⟨H.n, 0, none⟩) m m, H.new ⟨new, e, true⟩) else none
          | .slice (some ⟨l, o, none⟩) n c =>
            match H.get l with
            | some b =>
              if b.rw = true ∧ b.elem = e ∧ o = 0 ∧ b.cells.length = c * s ∧ n ≤ c then
                if m = 0 then some (x, H)
                else if n + m ≤ c then some (.slice (some ⟨l, 0, none⟩) (n + m) c, H.set l { b with cells := splice b.cells (n * s) new })
                else if n = c ∧ n + m ≤ maxElems then some (.slice (some ⟨H.n, 0, none⟩) (n + m) (n + m), (H.kill l).new ⟨b.cells ++ new, e, true⟩)
                else none
              else none
            | none => none
          | _ => none
        else none
    | none => none
  | _, _ => none
theorem lappend_eq {x y : Value} : lappend P t t x y H = lapp P t x (lesrc P t y H) H := by
  unfold lappend lapp lesrc
  cases P.underlying t with
  | none => rfl
  | some u =>
    cases u <;> try rfl
    rename_i e
    dsimp only
    cases hz : lesz P e with
    | none => rfl
    | some s =>
      dsimp only
      rw [if_pos rfl]
      cases lsrc s y H with
      | none => rfl
      | some q =>
        obtain ⟨m, new⟩ := q
        simp only [hz]
        rfl
@[simp] theorem lbuiltin_append {x y : Value} : lbuiltin P .append [t, t] [x, y] H = lapp P t x (lesrc P t y H) H := by
  rw [← lappend_eq]; simp only [lbuiltin]
theorem lbuiltin_appends {u : TypeId} {x : Value} {z : List UInt8} (hne : t ≠ u) (ht : P.underlying t = some (.slice e)) (hu : P.underlying u = some .string) (hs : lesz P e = some 1) (hz : zr P e = some (.int .u8 0)) (hb : byts P e = some 1) :
    lbuiltin P .append [t, u] [x, str z] H = lapp P t x (some (z.length, z.map fun b => Value.int .u8 b.toNat)) H := by
  have e1 : lsrcS P u e 1 (str z) = some (z.length, z.map fun b => Value.int .u8 b.toNat) := by
    unfold lsrcS str
    simp only [hu, hz, hb, and_self, if_true]
    rw [ba_size]
    rfl
  show lappend P t u x (str z) H = _
  unfold lappend lapp
  simp only [ht, hs, if_neg hne, e1]
  rfl
variable {new : List Value} {s n cp : Nat}
@[simp] theorem lapp_nil (hu : P.underlying t = some (.slice e)) (hs : lesz P e = some s) (hc : new.all cellB = true) (hm : m ≠ 0) (hM : m ≤ maxElems) : lapp P t (.slice none 0 0) (some (m, new)) H = some (sl H.n m m, H.new ⟨new, e, true⟩) := by
  simp only [lapp, hu, hs, hc, hm, hM, if_true, if_false]
@[simp] theorem lapp_nil0 (hu : P.underlying t = some (.slice e)) (hs : lesz P e = some s) : lapp P t (.slice none 0 0) (some (0, [])) H = some (.slice none 0 0, H) := by
  simp [lapp, hu, hs]
theorem lapp_grow (hu : P.underlying t = some (.slice e)) (hs : lesz P e = some s) (hc : new.all cellB = true) (hm : m ≠ 0) (hM : n + m ≤ maxElems) (hb : H.get l = some b) (hrw : b.rw = true) (he : b.elem = e) (hl : b.cells.length = n * s) : lapp P t (sl l n n) (some (m, new)) H = some (sl H.n (n + m) (n + m), (H.kill l).new ⟨b.cells ++ new, e, true⟩) := by
  have h1 : ¬ n + m ≤ n := by omega
  simp only [lapp, hu, hs, hc, hb, if_true]
  rw [if_pos ⟨hrw, he, trivial, hl, Nat.le_refl _⟩, if_neg hm, if_neg h1, if_pos ⟨trivial, hM⟩]
theorem lapp_in (hu : P.underlying t = some (.slice e)) (hs : lesz P e = some s) (hc : new.all cellB = true) (hm : m ≠ 0) (hb : H.get l = some b) (hrw : b.rw = true) (he : b.elem = e) (hl : b.cells.length = cp * s) (hn : n + m ≤ cp) : lapp P t (sl l n cp) (some (m, new)) H = some (sl l (n + m) cp, H.set l { b with cells := splice b.cells (n * s) new }) := by
  simp only [lapp, hu, hs, hc, hb, if_true]
  rw [if_pos ⟨hrw, he, trivial, hl, by omega⟩, if_neg hm, if_pos hn]
/-! ### new rows -/
def denseB : List (Nat × Value) → Nat → Bool
  | [], _ => true
  | (i, v) :: ps, k => i == k && cellB v && denseB ps (k + 1)
@[simp] theorem denseB_nil {k : Nat} : denseB [] k = true := rfl
@[simp] theorem denseB_cons {k i : Nat} {v : Value} {ps : List (Nat × Value)} : denseB ((i, v) :: ps) k = (i == k && cellB v && denseB ps (k + 1)) := rfl
theorem fill_dense {pl : Nat → Option (Nat × Nat)} : ∀ (ps : List (Nat × Value)) (pre post : List Value), (∀ j, j < pre.length + ps.length → pl j = some (j, 1)) → denseB ps pre.length = true → post.length = ps.length → Instr.fill pl (pre ++ post).toArray ps = some (pre ++ ps.map Prod.snd).toArray
  | [], pre, post, _, _, h => by
    have : post = [] := List.length_eq_zero_iff.1 h
    subst this; simp [Instr.fill]
  | (i, v) :: ps, pre, post, hp, hd, h => by
    cases post with
    | nil => simp at h
    | cons z post =>
    simp only [denseB, Bool.and_eq_true, beq_iff_eq] at hd
    obtain ⟨⟨rfl, hv⟩, hd⟩ := hd
    have e1 := cells_one hv
    unfold Instr.fill
    rw [hp _ (by simp)]
    simp only [e1]
    rw [if_neg (by simp)]
    have e2 : ((#[v] : Array Value).zipIdx.foldl (fun cs (c, j) => cs.setIfInBounds (pre.length + j) c) (pre ++ z :: post).toArray) = ((pre ++ [v]) ++ post).toArray := by
      simp
    rw [e2, fill_dense ps (pre ++ [v]) post (fun j hj => hp j (by simp at hj ⊢; omega)) (by simpa using hd) (by simpa using h)]
    simp
theorem dense_known : ∀ (ps : List (Nat × Value)) (k : Nat), denseB ps k = true → (ps.all fun p => knownB p.2) = true
  | [], _, _ => rfl
  | (i, v) :: ps, k, h => by
    simp only [denseB, Bool.and_eq_true, beq_iff_eq] at h
    have : knownB v = true := by cases v <;> first | rfl | (have := h.1.2; simp [cellB] at this)
    simp only [List.all_cons, this, dense_known ps _ h.2, Bool.and_self]
@[simp ↓] theorem lopx_buildSlice {ps : List (Nat × Operand)} : lopx P T (.buildSlice t n ⟨ps⟩) fr H = lbuildSlice P t n (ps.map fun p => (p.1, ev fr p.2)) H := rfl
theorem lbs_dense {z : Value} {ps : List (Nat × Value)} (hu : P.underlying t = some (.slice e)) (hs : sz P e = some 1) (hz : zr P e = some z) (hf : flatB z = true) (hz1 : cellB z = true) (hn : n = ps.length) (hle : n ≤ 65536) (hd : denseB ps 0 = true) : lbuildSlice P t n ps H = some (sl H.n n n, H.new ⟨ps.map Prod.snd, e, true⟩) := by
  subst hn
  have hk : ∀ p ∈ ps, knownB p.2 = true := by simpa using dense_known ps 0 hd
  unfold lbuildSlice
  simp only [hu, hs, hz]
  rw [if_pos (by
    simp only [Bool.and_eq_true, decide_eq_true_eq, beq_iff_eq, List.all_eq_true]
    exact ⟨⟨⟨⟨hf, by omega⟩, by omega⟩, by rw [cells_one hz1]; rfl⟩, hk⟩)]
  have e0 : ((Array.range (ps.length * 1)).map fun j => z.cells[j % z.cells.size]!) = (([] : List Value) ++ List.replicate ps.length z).toArray := by
    rw [cells_one hz1]
    apply Array.ext
    · simp
    · intro i h1 h2
      simp [Nat.mod_one]
  rw [e0, fill_dense ps [] (List.replicate ps.length z) (fun j _ => by simp) hd (by simp)]
  simp
attribute [simp] lbs_dense
/-! ### conversions -/
@[simp] theorem lconv_ii {a c : TypeId} {k1 k2 : IntKind} {n : Int} (h1 : P.underlying a = some (.int k1)) (h2 : P.underlying c = some (.int k2)) : lconv P a c (.int k1 n) H = some (.int k2 (k2.wrap n)) := by
  have e : pureVal P (convert a c (.int k1 n)) = some (.int k2 (k2.wrap n)) := by
    simp only [convert, pureVal_bind, pureVal_und, h1, h2, Option.bind_some]
    rfl
  unfold lconv
  simp only [flat_int, if_true, pureFlat, e]
def lbs : List Value → Option (List UInt8)
  | [] => some []
  | v :: l => (lbyte v).bind fun b => (lbs l).map (b :: ·)
theorem lbs_eq : ∀ l : List Value, l.mapM lbyte = lbs l
  | [] => rfl
  | v :: l => by
    rw [List.mapM_cons, lbs_eq l, lbs]
    cases lbyte v <;> cases lbs l <;> rfl
def bv (x : UInt8) : Value := .int .u8 x.toNat
@[simp] theorem lbyte_bv {x : UInt8} : lbyte (.int .u8 x.toNat) = some x := by simp [lbyte]
@[simp] theorem lbs_nil : lbs [] = some [] := rfl
@[simp] theorem lbs_cons {v : Value} {l : List Value} : lbs (v :: l) = (lbyte v).bind fun b => (lbs l).map (b :: ·) := rfl
@[simp] theorem lbs_map : ∀ l : List UInt8, lbs (l.map bv) = some l
  | [] => rfl
  | a :: l => by simp only [List.map_cons, lbs, bv, lbyte_bv, Option.bind_some, lbs_map l, Option.map_some]
theorem lconv_bs {a c e : TypeId} {o n cp : Nat} {z : List UInt8} (h1 : P.underlying a = some (.slice e)) (h2 : P.underlying c = some .string) (h3 : P.underlying e = some (.int .u8)) (hb : H.get l = some b) (hle : o + n ≤ b.cells.length) (hz : lbs ((b.cells.drop o).take n) = some z) : lconv P a c (.slice (some ⟨l, o, none⟩) n cp) H = some (str z) := by
  have e1 : flatB (.slice (some ⟨l, o, none⟩) n cp) = false := by simp [flatB, flat1B, atomB]
  unfold lconv lbstr
  simp only [e1, h1, h2, h3, hb, lcells, if_pos hle, lbs_eq, hz, Option.map_some]
  rfl
/-! ### structs -/
/-- where the fields of a struct lie -/
def plc (P : Program) (t : TypeId) : Option (List (Nat × Nat)) := match P.underlying t with
  | some (.struct fs) => fs.toList.mapM (fun f => (P.info? f.type).map fun i => (f.offset, i.size))
  | _ => none
def plcB (P : Program) (t : TypeId) : Bool := (plc P t).isSome
def lfill (P : Program) (t : TypeId) (cs : List Value) (ps : List (Nat × Value)) : Option (List Value) := match plc P t with
  | some pl => (Instr.fill (pl.toArray[·]?) cs.toArray ps).map Array.toList
  | none => none
theorem mapM_get {α β : Type} {f : α → Option β} : ∀ {l : List α} {r : List β}, l.mapM f = some r → ∀ (i : Nat) x, l[i]? = some x → r[i]? = f x
  | [], r, h, i, x, hx => by simp at hx
  | a :: l, r, h, i, x, hx => by
    simp only [List.mapM_cons, Option.bind_eq_bind, Option.pure_def] at h
    cases ha : f a with
    | none => simp [ha] at h
    | some y =>
      simp only [ha, Option.bind_some] at h
      cases hl : l.mapM f with
      | none => simp [hl] at h
      | some ys =>
        simp only [hl, Option.bind_some, Option.some.injEq] at h
        subst h
        cases i with
        | zero => simp at hx; subst hx; simp [ha]
        | succ i => simpa using mapM_get hl i x (by simpa using hx)
theorem plc_get {pl : List (Nat × Nat)} (hp : plc P t = some pl) {i o n : Nat} {g : Bool} (hf : fldi P t i = some (o, n, g)) : pl[i]? = some (o, n) := by
  unfold fldi at hf
  unfold plc at hp
  split at hf
  · rename_i fs hu
    rw [hu] at hp
    split at hf
    · rename_i fd hfd
      split at hf
      · rename_i n' g' hs ha
        simp only [Option.some.injEq, Prod.mk.injEq] at hf
        obtain ⟨rfl, rfl, rfl⟩ := hf
        rw [mapM_get hp i fd (by simpa using hfd)]
        unfold sz at hs
        cases hi : P.info? fd.type with
        | none => simp [hi] at hs
        | some it => simp [hi] at hs; simp [hs]
      · cases hf
    · cases hf
  · cases hf
@[simp] theorem lfill_nil {cs : List Value} (h : plcB P t = true) : lfill P t cs [] = some cs := by
  unfold plcB at h
  unfold lfill
  cases hp : plc P t with
  | none => simp [hp] at h
  | some pl => rfl
theorem fold_splice : ∀ (vs : List Value) (pre cs : List Value) (off : Nat), off + pre.length + vs.length ≤ cs.length → (vs.toArray.zipIdx pre.length).foldl (fun cs (c, j) => cs.setIfInBounds (off + j) c) cs.toArray = (splice cs (off + pre.length) vs).toArray
  | [], pre, cs, off, h => by
    rw [show (([] : List Value).toArray.zipIdx pre.length) = #[] from by apply Array.ext <;> simp]
    simp [splice]
  | v :: vs, pre, cs, off, h => by
    have hh : off + pre.length < cs.length := by simp at h; omega
    have ih := fold_splice vs (pre ++ [v]) (cs.set (off + pre.length) v) off (by simp at h ⊢; omega)
    have e : (v :: vs).toArray.zipIdx pre.length = ((v, pre.length) :: (vs.zipIdx (pre.length + 1))).toArray := by simp
    rw [e]
    have e2 : (vs.toArray.zipIdx (pre ++ [v]).length) = (vs.zipIdx (pre.length + 1)).toArray := by simp
    rw [e2] at ih
    simp only [List.foldl_toArray', List.size_toArray, List.foldl_cons, List.setIfInBounds_toArray] at ih ⊢
    rw [ih]
    congr 1
    unfold splice
    simp only [List.length_append, List.length_cons, List.length_nil, Nat.zero_add, ← Nat.add_assoc]
    rw [List.take_set, List.drop_set, if_pos (by omega)]
    have e3 : (cs.take (off + pre.length + 1)).set (off + pre.length) v = cs.take (off + pre.length) ++ [v] := by
      rw [List.take_succ_eq_append_getElem hh, List.set_append, if_neg (by simp; omega)]
      simp [Nat.min_eq_left (Nat.le_of_lt hh)]
    rw [e3]
    simp [Nat.add_assoc, Nat.add_comm, Nat.add_left_comm]
theorem lfill_step {cs : List Value} {i o n : Nat} {g : Bool} {v : Value} {ps : List (Nat × Value)} (hf : fldi P t i = some (o, n, g)) (hn : v.cells.toList.length = n) (ho : o + n ≤ cs.length) : lfill P t cs ((i, v) :: ps) = lfill P t (splice cs o v.cells.toList) ps := by
  unfold lfill
  cases hp : plc P t with
  | none => rfl
  | some pl =>
    have h1 : pl.toArray[i]? = some (o, n) := by simpa using plc_get hp hf
    simp only [Instr.fill, h1]
    rw [if_neg (by simp at hn ⊢; omega)]
    have := fold_splice v.cells.toList [] cs o (by simp at hn ⊢; omega)
    simp only [List.length_nil, Nat.add_zero, Array.toArray_toList] at this
    rw [this]
@[simp] theorem lfill_cell {cs : List Value} {i o n : Nat} {g : Bool} {v : Value} {ps : List (Nat × Value)} (hf : fldi P t i = some (o, n, g)) (hn : n = 1) (hv : cellB v = true) (ho : o < cs.length) : lfill P t cs ((i, v) :: ps) = lfill P t (cs.set o v) ps := by
  subst hn
  rw [lfill_step hf (by rw [cells_one hv]; rfl) (by omega)]
  congr 1
  rw [cells_one hv]
  unfold splice
  rw [List.set_eq_take_append_cons_drop, if_pos ho]; simp
@[simp] theorem lfill_agg {cs vs : List Value} {i o n : Nat} {g : Bool} {ps : List (Nat × Value)} (hf : fldi P t i = some (o, n, g)) (hn : vs.length = n) (ho : o + n ≤ cs.length) : lfill P t cs ((i, .agg ⟨vs⟩) :: ps) = lfill P t (splice cs o vs) ps :=
  lfill_step hf hn ho
def lbE (P : Program) (t : TypeId) (z : Option Value) (ps : List (Nat × Value)) : Option Value :=
  match z with
  | some z => if ps.all (fun p => knownB p.2) && flatB z then (lfill P t z.cells.toList ps).map fun cs => .agg ⟨cs⟩ else none
  | none => none
theorem lbuild_eq {ps : List (Nat × Value)} : lbuild P t ps = lbE P t (zr P t) ps := by
  unfold lbuild lbE zr lfill plc
  cases hi : P.info? t with
  | none => simp
  | some it =>
    simp only [Option.bind_some]
    have hz : it.zero = none ∨ ∃ z, it.zero = some z := by cases it.zero <;> simp
    rcases hz with hz | ⟨z, hz⟩
    · simp [hz]
    · simp only [hz, Option.any_some]
      split
      · cases hu : P.underlying t with
        | none => rfl
        | some u =>
          cases u <;> try rfl
          rename_i fs
          simp only [Program.built, hi, hu, hz]
          cases fs.toList.mapM (fun f => (P.info? f.type).map fun i => (f.offset, i.size)) with
          | none => rfl
          | some pl =>
            simp only [Array.toArray_toList]
            cases Instr.fill (pl.toArray[·]?) z.cells ps with
            | none => rfl
            | some cs => rfl
      · rfl
@[simp ↓] theorem lopx_build {ps : List (Nat × Operand)} : lopx P T (.build t ⟨ps⟩) fr H = withH (lbE P t (zr P t) (ps.map fun p => (p.1, ev fr p.2))) H := by
  rw [← lbuild_eq]; rfl
def knownL : List (Nat × Value) → Bool
  | [] => true
  | (_, v) :: ps => knownB v && knownL ps
@[simp] theorem knownL_nil : knownL [] = true := rfl
@[simp] theorem knownL_cons {i : Nat} {v : Value} {ps : List (Nat × Value)} : knownL ((i, v) :: ps) = (knownB v && knownL ps) := rfl
theorem known_of_cell {v : Value} (h : cellB v = true) : knownB v = true := by cases v <;> first | rfl | (simp [cellB] at h)
attribute [simp] known_of_cell
@[simp] theorem known_agg {a : Array Value} : knownB (.agg a) = true := rfl
theorem knownL_eq : ∀ (ps : List (Nat × Value)), ps.all (fun p => knownB p.2) = knownL ps
  | [] => rfl
  | (i, v) :: ps => by simp only [List.all_cons, knownL, knownL_eq ps]
theorem lbE_agg {z : List Value} {ps : List (Nat × Value)} (hk : knownL ps = true) (hz : z.all atomB = true) : lbE P t (some (.agg ⟨z⟩)) ps = (lfill P t z ps).map fun cs => .agg ⟨cs⟩ := by
  have : flatB (.agg ⟨z⟩) = true := hz
  simp only [lbE, knownL_eq, hk, this, Bool.and_self, if_true, Value.cells]
attribute [simp] lbE_agg
/-! ### fields of struct values -/
def lfld (i : Option (Nat × Nat × Bool)) (x : Value) : Option Value := match i, x with
  | some (o, n, true), .agg cs => some (.agg (cs.extract o (o + n)))
  | some (o, _, false), .agg cs => cs[o]?
  | _, _ => none
theorem lopx_field {x : Operand} {f : Nat} {i : Nat × Nat × Bool} (h : fldi P t f = some i) : lopx P T (.field t x f) fr H = withH (lfld (some i) (ev fr x)) H := by
  unfold fldi at h
  show (match P.underlying t, ev fr x with | some (.struct fs), .agg cs => _ | _, _ => none) = _
  split at h
  · rename_i fs hu
    split at h
    · rename_i fd hf
      split at h
      · rename_i n g hs ha
        injection h with h
        subst h
        rw [hu]
        unfold lfld
        cases ev fr x <;> cases g <;> simp only [hf, hs, ha, withH, Option.map_some, Option.map_none]
      · cases h
    · cases h
  · cases h
attribute [simp] lopx_field
@[simp] theorem lfld_cell {o n : Nat} {cs : List Value} : lfld (some (o, n, false)) (.agg ⟨cs⟩) = cs[o]? := by simp [lfld]
@[simp] theorem lfld_agg {o n : Nat} {cs : List Value} : lfld (some (o, n, true)) (.agg ⟨cs⟩) = some (.agg ⟨(cs.drop o).take n⟩) := by simp [lfld]
/-! ### nil -/
@[simp] theorem lbin_pe {a : Option Addr} (hu : P.underlying t = some (.pointer e)) : lbin P .eql t (.pointer a) (.pointer none) = some (.bool a.isNone) := by
  cases a <;> simp [lbin, hu]
@[simp] theorem lbin_pn {a : Option Addr} (hu : P.underlying t = some (.pointer e)) : lbin P .neq t (.pointer a) (.pointer none) = some (.bool (!a.isNone)) := by
  cases a <;> simp [lbin, hu]
@[simp] theorem lbin_se {a : Option Addr} {n c : Nat} (hu : P.underlying t = some (.slice e)) : lbin P .eql t (.slice a n c) (.slice none 0 0) = some (.bool a.isNone) := by
  cases a <;> simp [lbin, hu]
@[simp] theorem lbin_sn {a : Option Addr} {n c : Nat} (hu : P.underlying t = some (.slice e)) : lbin P .neq t (.slice a n c) (.slice none 0 0) = some (.bool (!a.isNone)) := by
  cases a <;> simp [lbin, hu]
/-! ### greatest and least -/
@[simp] theorem lbuiltin_max {ts : List TypeId} {k k' : IntKind} {a b : Int} : lbuiltin P .max ts [.int k a, .int k' b] H = some (.int k (if a < b then b else a), H) := rfl
@[simp] theorem lbuiltin_min {ts : List TypeId} {k k' : IntKind} {a b : Int} : lbuiltin P .min ts [.int k a, .int k' b] H = some (.int k (if b < a then b else a), H) := rfl
/-! ### what a call leaves -/
theorem trunc_set {v : Value} (h : H.get l = some b) (hl : l < H.n) : trunc H (v, H.set l c) = (v, H.set l c) := by
  unfold trunc
  split
  · rename_i hc
    have := hc.2.2 l hl
    simp only [get_set, h, Option.some.injEq] at this
    have e : H.set l c = H := by
      cases H with
      | mk n g ho w0 ng =>
        simp only [LH.set, LH.mk.injEq, true_and, and_true]
        funext k
        split
        · rename_i e; subst e; rw [this]; exact h.symm
        · rfl
    rw [e]
  · rfl
theorem trunc_or (v : Value) (H H' : LH) : trunc H (v, H') = (v, H') ∨ trunc H (v, H') = (v, H) ∧ flatB v = true ∧ H.le H' := by
  unfold trunc
  split
  · exact .inr ⟨rfl, by assumption⟩
  · exact .inl rfl
end
end Go.Lg
/-
  A logical run with throws, and ranges over functions: rules by which it is reckoned.
-/
set_option linter.unusedSimpArgs false
set_option linter.unusedVariables false
namespace Go.Lg
open Go.Tg Go.RowKit

abbrev PQ := Res → LH → Option Code → Prop
def PR (P : Program) (E : PEnv) (Y : Option YC) (rd : Nat) (fn : Func) (k : List Item) (fr : Fr) (H : LH) (p : Option Code) (Q : PQ) : Prop := ∃ r H' p', R P E (.run Y rd fn k fr H p r H' p') ∧ Q r H' p'
def PO (P : Program) (E : PEnv) (Y : Option YC) (rd : Nat) (fn : Func) (all : Array Oper) (os : List Oper) (k : List Item) (fr : Fr) (H : LH) (p : Option Code) (Q : PQ) : Prop := ∃ r H' p', R P E (.ops Y rd fn all os k fr H p r H' p') ∧ Q r H' p'
def PStep (P : Program) (E : PEnv) (Y : Option YC) (rd : Nat) (fn : Func) (x : Option (Value × LH)) (d : Nat) (all : Array Oper) (os : List Oper) (k : List Item) (fr : Fr) (p : Option Code) (Q : PQ) : Prop :=
  match x with
  | some (v, H) => d < fn.ntmps ∧ PO P E Y rd fn all os k (upd fr d v) H p Q
  | none => False
def PStep0 (P : Program) (E : PEnv) (Y : Option YC) (rd : Nat) (fn : Func) (x : Option (Value × LH)) (all : Array Oper) (os : List Oper) (k : List Item) (fr : Fr) (p : Option Code) (Q : PQ) : Prop :=
  match x with
  | some (_, H) => PO P E Y rd fn all os k fr H p Q
  | none => False
/-- an operation for which a contract is handed in by hand -/
def PHand (P : Program) (E : PEnv) (Y : Option YC) (rd : Nat) (fn : Func) (all : Array Oper) (os : List Oper) (k : List Item) (fr : Fr) (H : LH) (p : Option Code) (Q : PQ) : Prop := PO P E Y rd fn all os k fr H p Q
def PRes (x : Option Value) (H : LH) (p : Option Code) (Q : PQ) : Prop := match x with | some v => Q (.ret v) H p | none => False
def PCond (P : Program) (E : PEnv) (Y : Option YC) (rd : Nat) (fn : Func) (c : Value) (x y : Code) (k : List Item) (fr : Fr) (H : LH) (p : Option Code) (Q : PQ) : Prop :=
  match c with
  | .bool t => if t = true then PR P E Y rd fn (.code x :: k) fr H p Q else PR P E Y rd fn (.code y :: k) fr H p Q
  | _ => False
def isClear : Builtin → Bool
  | .clear => true
  | _ => false
/-- is an operation to be handed in by hand? -/
def handB (E : PEnv) (fr : Fr) (op : Op) : Bool := match op with
  | .call c => match c.callee with
    | .builtin b => isClear b
    | .value x => match ev fr x with
      | .func (.func g) _ _ => E.ps g
      | .func (.yield _) _ _ => true
      | _ => false
    | _ => false
  | .makeFunc _ first _ => first.size != 0
  | _ => false
def PG (P : Program) (E : PEnv) (Y : Option YC) (rd : Nat) (fn : Func) (g : Option Bool) (op : Op) (d : Nat) (all : Array Oper) (o : Oper) (os : List Oper) (k : List Item) (fr : Fr) (H : LH) (p : Option Code) (Q : PQ) : Prop :=
  match g with
  | some true => RSel (handB E fr op) (PHand P E Y rd fn all (o :: os) k fr H p Q) (PStep P E Y rd fn (lopxB P (LC P E.E) op fr H) d all os k fr p Q)
  | some false => d < fn.ntmps ∧ PO P E Y rd fn all os k (upd fr d undef) H p Q
  | none => False
section
variable {P : Program} {E : PEnv} {Y : Option YC} {rd : Nat} {fn : Func} {k : List Item} {fr : Fr} {H H' H0 : LH} {p : Option Code} {Q : PQ} {all : Array Oper} {os : List Oper} {d : Nat} {op : Op} {ty : TypeId} {pos : String} {after : Array Edge} {v : Value}
theorem pr_skip : PR P E Y rd fn (.code .skip :: k) fr H p Q ↔ PR P E Y rd fn k fr H p Q := ⟨fun ⟨r, H', p', h, q⟩ => by cases h; exact ⟨_, _, _, ‹_›, q⟩, fun ⟨r, H', p', h, q⟩ => ⟨_, _, _, .skip h, q⟩⟩
theorem pr_label {l : Nat} : PR P E Y rd fn (.code (.label l) :: k) fr H p Q ↔ PR P E Y rd fn k fr H p Q := ⟨fun ⟨r, H', p', h, q⟩ => by cases h; exact ⟨_, _, _, ‹_›, q⟩, fun ⟨r, H', p', h, q⟩ => ⟨_, _, _, .label h, q⟩⟩
theorem pr_inBlock {l : Nat} : PR P E Y rd fn (.inBlock l :: k) fr H p Q ↔ PR P E Y rd fn k fr H p Q := ⟨fun ⟨r, H', p', h, q⟩ => by cases h; exact ⟨_, _, _, ‹_›, q⟩, fun ⟨r, H', p', h, q⟩ => ⟨_, _, _, .inBlock h, q⟩⟩
theorem pr_inScope {c : Code} : PR P E Y rd fn (.inScope c :: k) fr H p Q ↔ PR P E Y rd fn k fr H p Q := ⟨fun ⟨r, H', p', h, q⟩ => by cases h; exact ⟨_, _, _, ‹_›, q⟩, fun ⟨r, H', p', h, q⟩ => ⟨_, _, _, .inScope h, q⟩⟩
theorem pr_seq {a b : Code} : PR P E Y rd fn (.code (.seq a b) :: k) fr H p Q ↔ PR P E Y rd fn (.code a :: .code b :: k) fr H p Q := ⟨fun ⟨r, H', p', h, q⟩ => by cases h; exact ⟨_, _, _, ‹_›, q⟩, fun ⟨r, H', p', h, q⟩ => ⟨_, _, _, .seq h, q⟩⟩
theorem pr_block {id : Nat} {c : Code} : PR P E Y rd fn (.code (.block id c) :: k) fr H p Q ↔ PR P E Y rd fn (.code c :: .inBlock id :: k) fr H p Q := ⟨fun ⟨r, H', p', h, q⟩ => by cases h; exact ⟨_, _, _, ‹_›, q⟩, fun ⟨r, H', p', h, q⟩ => ⟨_, _, _, .block h, q⟩⟩
theorem pr_scope {c : Code} : PR P E Y rd fn (.code (.scope c) :: k) fr H p Q ↔ PR P E Y rd fn (.code c :: .inScope c :: k) fr H p Q := ⟨fun ⟨r, H', p', h, q⟩ => by cases h; exact ⟨_, _, _, ‹_›, q⟩, fun ⟨r, H', p', h, q⟩ => ⟨_, _, _, .scope h, q⟩⟩
theorem pr_loop {c : Code} : PR P E Y rd fn (.code (.loop c) :: k) fr H p Q ↔ PR P E Y rd fn (.inLoop c :: k) fr H p Q := ⟨fun ⟨r, H', p', h, q⟩ => by cases h; exact ⟨_, _, _, .inLoop ‹_›, q⟩, fun ⟨r, H', p', h, q⟩ => by cases h; exact ⟨_, _, _, .loop ‹_›, q⟩⟩
theorem pr_inLoop {c : Code} : PR P E Y rd fn (.inLoop c :: k) fr H p Q ↔ PR P E Y rd fn (.code c :: .inLoop c :: k) fr H p Q := ⟨fun ⟨r, H', p', h, q⟩ => by cases h; exact ⟨_, _, _, ‹_›, q⟩, fun ⟨r, H', p', h, q⟩ => ⟨_, _, _, .inLoop h, q⟩⟩
theorem pr_beg : PR P E none 1 fn (.beginRound :: k) fr H none Q ↔ ∃ r H', R P E (.run none 2 fn k fr H none r H' none) ∧ Q r H' none := ⟨fun ⟨r, H', p', h, q⟩ => by cases h; exact ⟨_, _, ‹_›, q⟩, fun ⟨r, H', h, q⟩ => ⟨_, _, _, .beg h, q⟩⟩
def PExit (P : Program) (E : PEnv) (Y : Option YC) (rd : Nat) (fn : Func) (id : Nat) (x : Option (List Item)) (fr : Fr) (H : LH) (p : Option Code) (Q : PQ) : Prop :=
  match x with
  | some k => PR P E Y rd fn k fr H p Q
  | none => Y = none ∧ rd = 2 ∧ p = none ∧ Q (.jump (some (.exit id))) H none
@[congr] theorem pexit_congr {id : Nat} {x y : Option (List Item)} (h : x = y) : PExit P E Y rd fn id x fr H p Q = PExit P E Y rd fn id y fr H p Q := by rw [h]
@[simp] theorem pexit_some {id : Nat} : PExit P E Y rd fn id (some k) fr H p Q ↔ PR P E Y rd fn k fr H p Q := Iff.rfl
@[simp] theorem pexit_none {id : Nat} : PExit P E none 2 fn id none fr H none Q ↔ Q (.jump (some (.exit id))) H none := by simp [PExit]
theorem pr_exit {id : Nat} : PR P E Y rd fn (.code (.exit id) :: k) fr H p Q ↔ PExit P E Y rd fn id (exitTo id k) fr H p Q := by
  constructor
  · rintro ⟨r, H', p', h, q⟩
    cases h with
    | exit1 hx => rw [hx]; exact ⟨rfl, rfl, rfl, q⟩
    | exit hx h => rw [hx]; exact ⟨_, _, _, h, q⟩
  · intro h
    cases hx : exitTo id k with
    | none => rw [hx] at h; obtain ⟨rfl, rfl, rfl, q⟩ := h; exact ⟨_, _, _, .exit1 hx, q⟩
    | some k' => rw [hx] at h; obtain ⟨r, H', p', h, q⟩ := h; exact ⟨_, _, _, .exit hx h, q⟩
def PGoto (P : Program) (E : PEnv) (Y : Option YC) (rd : Nat) (fn : Func) (x : Option (List Item)) (fr : Fr) (H : LH) (p : Option Code) (Q : PQ) : Prop :=
  match x with
  | some k => PR P E Y rd fn k fr H p Q
  | none => False
@[congr] theorem pgoto_congr {x y : Option (List Item)} (h : x = y) : PGoto P E Y rd fn x fr H p Q = PGoto P E Y rd fn y fr H p Q := by rw [h]
@[simp] theorem pgoto_some : PGoto P E Y rd fn (some k) fr H p Q ↔ PR P E Y rd fn k fr H p Q := Iff.rfl
theorem pr_goto {id : Nat} : PR P E Y rd fn (.code (.goto id) :: k) fr H p Q ↔ PGoto P E Y rd fn (gotoIn id k) fr H p Q := by
  constructor
  · rintro ⟨r, H', p', h, q⟩
    cases h with
    | goto hx h => rw [hx]; exact ⟨_, _, _, h, q⟩
  · intro h
    cases hx : gotoIn id k with
    | none => rw [hx] at h; exact h.elim
    | some k' => rw [hx] at h; obtain ⟨r, H', p', h, q⟩ := h; exact ⟨_, _, _, .goto hx h, q⟩
theorem pr_nil : PR P E Y 0 fn [] fr H p Q ↔ PRes (lresults P fn fr H) H p Q := by
  constructor
  · rintro ⟨r, H', p', h, q⟩
    cases h with
    | nil0 hx => rw [hx]; exact q
  · intro h
    cases hx : lresults P fn fr H with
    | none => rw [hx] at h; exact h.elim
    | some v => rw [hx] at h; exact ⟨_, _, _, .nil0 hx, h⟩
theorem pr_ret : PR P E Y 0 fn (.code .ret :: k) fr H p Q ↔ PRes (lresults P fn fr H) H p Q := by
  constructor
  · rintro ⟨r, H', p', h, q⟩
    cases h with
    | ret0 hx => rw [hx]; exact q
  · intro h
    cases hx : lresults P fn fr H with
    | none => rw [hx] at h; exact h.elim
    | some v => rw [hx] at h; exact ⟨_, _, _, .ret0 hx, h⟩
theorem pr_nil2 : PR P E none 2 fn [] fr H none Q ↔ Q (.jump none) H none := ⟨fun ⟨r, H', p', h, q⟩ => by cases h; exact q, fun h => ⟨_, _, _, .nil1, h⟩⟩
theorem pr_ret2 : PR P E none 2 fn (.code .ret :: k) fr H none Q ↔ Q (.jump (some .ret)) H none := ⟨fun ⟨r, H', p', h, q⟩ => by cases h; exact q, fun h => ⟨_, _, _, .ret1, h⟩⟩
theorem pr_cond {c : Operand} {x y : Code} : PR P E Y rd fn (.code (.cond c x y) :: k) fr H p Q ↔ PCond P E Y rd fn (ev fr c) x y k fr H p Q := by
  constructor
  · rintro ⟨r, H', p', h, q⟩
    cases h with
    | @cond _ _ _ _ _ _ _ _ _ _ _ _ _ t hc h =>
      rw [hc]
      unfold PCond
      cases t with
      | true => simp only [if_true]; exact ⟨_, _, _, h, q⟩
      | false => simp only [Bool.false_eq_true, if_false]; exact ⟨_, _, _, h, q⟩
  · intro h
    unfold PCond at h
    split at h
    · rename_i t hc
      cases t with
      | true => simp only [if_true] at h; obtain ⟨r, H', p', h, q⟩ := h; exact ⟨_, _, _, .cond hc h, q⟩
      | false => simp only [Bool.false_eq_true, if_false] at h; obtain ⟨r, H', p', h, q⟩ := h; exact ⟨_, _, _, .cond hc h, q⟩
    · exact h.elim
theorem pr_region {id : Nat} {l : List Oper} : PR P E Y rd fn (.code (.region id ⟨l⟩ false) :: k) fr H p Q ↔ PO P E Y rd fn ⟨l⟩ l k fr H p Q := ⟨fun ⟨r, H', p', h, q⟩ => by cases h; exact ⟨_, _, _, ‹_›, q⟩, fun ⟨r, H', p', h, q⟩ => ⟨_, _, _, .region h, q⟩⟩
theorem po_nil : PO P E Y rd fn all [] k fr H p Q ↔ PR P E Y rd fn k fr H p Q := ⟨fun ⟨r, H', p', h, q⟩ => by cases h; exact ⟨_, _, _, ‹_›, q⟩, fun ⟨r, H', p', h, q⟩ => ⟨_, _, _, .onil h, q⟩⟩
theorem hand_ps (h : handB E fr op = false) : psOf E fr op = false := by
  unfold handB at h
  unfold psOf
  split
  · rename_i c
    simp only at h ⊢
    split
    · rename_i x hx
      rw [hx] at h
      simp only at h ⊢
      split
      · rename_i g _ _ hg
        rw [hg] at h; exact h
      · rfl
    · rfl
  · rfl
/-- what an operation that is to be carried out comes to, if nothing is to be handed in -/
theorem po_plain {o : Oper} (hh : handB E fr o.op = false) (hw : lwant all fr o = some true) : PO P E Y rd fn all (o :: os) k fr H p Q ↔ ∃ v H1 fr1, lopB P (LC P E.E) o fr H = some (v, H1) ∧ lput fn.ntmps fr o.dst v = some fr1 ∧ PO P E Y rd fn all os k fr1 H1 p Q := by
  constructor
  · rintro ⟨r, H', p', h, q⟩
    cases h with
    | oskip h1 _ _ => rw [hw] at h1; cases h1
    | oplain _ _ h1 h2 h3 => exact ⟨_, _, _, h1, h2, _, _, _, h3, q⟩
    | omkf _ h1 h2 _ _ => rw [h1] at hh; simp [handB, h2] at hh
    | oclear _ h1 _ _ _ => rw [h1] at hh; simp [handB, isClear] at hh
    | ocall _ h1 h2 h3 _ _ _ => rw [h1] at hh; simp [handB, h2, h3] at hh
    | ocallp _ h1 h2 h3 _ => rw [h1] at hh; simp [handB, h2, h3] at hh
    | oyield _ h1 h2 _ _ _ _ _ => rw [h1] at hh; simp [handB, h2, tok] at hh
  · rintro ⟨v, H1, fr1, h1, h2, r, H', p', h3, q⟩
    exact ⟨_, _, _, .oplain hw (hand_ps hh) h1 h2 h3, q⟩
theorem po_cons : PO P E Y rd fn all (⟨some d, op, ty, pos, after, none⟩ :: os) k fr H p Q ↔ RSel (handB E fr op) (PHand P E Y rd fn all (⟨some d, op, ty, pos, after, none⟩ :: os) k fr H p Q) (PStep P E Y rd fn (lopxB P (LC P E.E) op fr H) d all os k fr p Q) := by
  cases hh : handB E fr op with
  | true => exact Iff.rfl
  | false =>
    rw [po_plain hh rfl]
    unfold RSel PStep
    simp only [lopB_x, lput]
    cases lopxB P (LC P E.E) op fr H with
    | none => simp
    | some x =>
      obtain ⟨u, H1⟩ := x
      by_cases hd : d < fn.ntmps
      · simp [hd]
        exact ⟨fun ⟨_, _, ⟨e1, e2⟩, h⟩ => by subst e1 e2; exact h, fun h => ⟨_, _, ⟨rfl, rfl⟩, h⟩⟩
      · simp [hd]
theorem po_cons0 : PO P E Y rd fn all (⟨none, op, ty, pos, after, none⟩ :: os) k fr H p Q ↔ RSel (handB E fr op) (PHand P E Y rd fn all (⟨none, op, ty, pos, after, none⟩ :: os) k fr H p Q) (PStep0 P E Y rd fn (lopxB P (LC P E.E) op fr H) all os k fr p Q) := by
  cases hh : handB E fr op with
  | true => exact Iff.rfl
  | false =>
    rw [po_plain hh rfl]
    unfold RSel PStep0
    simp only [lopB_x, lput]
    cases lopxB P (LC P E.E) op fr H with
    | none => simp
    | some x =>
      obtain ⟨u, H1⟩ := x
      simp
      exact ⟨fun ⟨_, _, ⟨e1, e2⟩, h⟩ => by subst e1 e2; exact h, fun h => ⟨_, _, ⟨rfl, rfl⟩, h⟩⟩
theorem po_guard {j : Nat} {want : Bool} : PO P E Y rd fn all (⟨some d, op, ty, pos, after, some (j, want)⟩ :: os) k fr H p Q ↔ PG P E Y rd fn (guardx all fr j want) op d all ⟨some d, op, ty, pos, after, some (j, want)⟩ os k fr H p Q := by
  unfold PG
  cases hg : guardx all fr j want with
  | none =>
    simp only [iff_false]
    rintro ⟨r, H', p', h, q⟩
    have hw : lwant all fr ⟨some d, op, ty, pos, after, some (j, want)⟩ = none := by rw [lwant_x]; exact hg
    cases h with
    | oskip h1 _ _ => rw [hw] at h1; cases h1
    | oplain h1 _ _ _ _ => rw [hw] at h1; cases h1
    | omkf h1 _ _ _ _ => rw [hw] at h1; cases h1
    | oclear h1 _ _ _ _ => rw [hw] at h1; cases h1
    | ocall h1 _ _ _ _ _ _ => rw [hw] at h1; cases h1
    | ocallp h1 _ _ _ _ => rw [hw] at h1; cases h1
    | oyield h1 _ _ _ _ _ _ _ => rw [hw] at h1; cases h1
  | some b =>
    have hw : lwant all fr ⟨some d, op, ty, pos, after, some (j, want)⟩ = some b := by rw [lwant_x]; exact hg
    cases b with
    | true =>
      cases hh : handB E fr op with
      | true => exact Iff.rfl
      | false =>
        rw [po_plain hh hw]
        unfold RSel PStep
        simp only [lopB_x, lput]
        cases lopxB P (LC P E.E) op fr H with
        | none => simp
        | some x =>
          obtain ⟨u, H1⟩ := x
          by_cases hd : d < fn.ntmps
          · simp [hd]
            exact ⟨fun ⟨_, _, ⟨e1, e2⟩, h⟩ => by subst e1 e2; exact h, fun h => ⟨_, _, ⟨rfl, rfl⟩, h⟩⟩
          · simp [hd]
    | false =>
      simp only
      constructor
      · rintro ⟨r, H', p', h, q⟩
        cases h with
        | oskip h1 h2 h3 =>
          simp only [lput] at h2
          split at h2
          · rename_i hd; injection h2 with h2; subst h2; exact ⟨hd, _, _, _, h3, q⟩
          · cases h2
        | oplain h1 _ _ _ _ => rw [hw] at h1; cases h1
        | omkf h1 _ _ _ _ => rw [hw] at h1; cases h1
        | oclear h1 _ _ _ _ => rw [hw] at h1; cases h1
        | ocall h1 _ _ _ _ _ _ => rw [hw] at h1; cases h1
        | ocallp h1 _ _ _ _ => rw [hw] at h1; cases h1
        | oyield h1 _ _ _ _ _ _ _ => rw [hw] at h1; cases h1
      · rintro ⟨hd, r, H', p', h, q⟩
        exact ⟨_, _, _, .oskip hw (by simp only [lput]; rw [if_pos hd]) h, q⟩
attribute [simp ↓] pr_skip pr_label pr_seq pr_block pr_inBlock pr_inScope pr_scope pr_region pr_exit pr_goto pr_cond po_nil po_cons po_cons0 po_guard
attribute [simp] pr_nil pr_ret pr_nil2 pr_ret2
@[congr] theorem pstep_congr {x y : Option (Value × LH)} (h : x = y) : PStep P E Y rd fn x d all os k fr p Q = PStep P E Y rd fn y d all os k fr p Q := by rw [h]
@[congr] theorem pstep0_congr {x y : Option (Value × LH)} (h : x = y) : PStep0 P E Y rd fn x all os k fr p Q = PStep0 P E Y rd fn y all os k fr p Q := by rw [h]
@[congr] theorem pcond_congr {c c' : Value} {x y : Code} (h : c = c') : PCond P E Y rd fn c x y k fr H p Q = PCond P E Y rd fn c' x y k fr H p Q := by rw [h]
@[congr] theorem pres_congr {x y : Option Value} (h : x = y) : PRes x H p Q = PRes y H p Q := by rw [h]
@[congr] theorem pg_congr {x y : Option Bool} {o : Oper} (h : x = y) : PG P E Y rd fn x op d all o os k fr H p Q = PG P E Y rd fn y op d all o os k fr H p Q := by rw [h]
@[congr] theorem phand_congr : PHand P E Y rd fn all os k fr H p Q = PHand P E Y rd fn all os k fr H p Q := rfl
@[simp] theorem pstep_some : PStep P E Y rd fn (some (v, H)) d all os k fr p Q ↔ d < fn.ntmps ∧ PO P E Y rd fn all os k (upd fr d v) H p Q := Iff.rfl
@[simp] theorem pstep_none : PStep P E Y rd fn none d all os k fr p Q ↔ False := Iff.rfl
@[simp] theorem pstep0_some : PStep0 P E Y rd fn (some (v, H)) all os k fr p Q ↔ PO P E Y rd fn all os k fr H p Q := Iff.rfl
@[simp] theorem pstep0_none : PStep0 P E Y rd fn none all os k fr p Q ↔ False := Iff.rfl
@[simp] theorem pcond_true {x y : Code} : PCond P E Y rd fn (.bool true) x y k fr H p Q ↔ PR P E Y rd fn (.code x :: k) fr H p Q := by simp [PCond]
@[simp] theorem pcond_false {x y : Code} : PCond P E Y rd fn (.bool false) x y k fr H p Q ↔ PR P E Y rd fn (.code y :: k) fr H p Q := by simp [PCond]
@[simp] theorem pres_some : PRes (some v) H p Q ↔ Q (.ret v) H p := Iff.rfl
@[simp] theorem pres_none : PRes none H p Q ↔ False := Iff.rfl
@[simp] theorem pg_true {o : Oper} : PG P E Y rd fn (some true) op d all o os k fr H p Q ↔ RSel (handB E fr op) (PHand P E Y rd fn all (o :: os) k fr H p Q) (PStep P E Y rd fn (lopxB P (LC P E.E) op fr H) d all os k fr p Q) := Iff.rfl
@[simp] theorem pg_false {o : Oper} : PG P E Y rd fn (some false) op d all o os k fr H p Q ↔ d < fn.ntmps ∧ PO P E Y rd fn all os k (upd fr d undef) H p Q := Iff.rfl
/-! ### is it to be handed in? -/
@[simp ↓] theorem hand_move {x : Operand} : handB E fr (.move x) = false := rfl
@[simp ↓] theorem hand_assign {x : Operand} : handB E fr (.assign x) = false := rfl
@[simp ↓] theorem hand_pick {c x y : Operand} : handB E fr (.pick c x y) = false := rfl
@[simp ↓] theorem hand_alloc {t : TypeId} : handB E fr (.alloc t) = false := rfl
@[simp ↓] theorem hand_box {t : TypeId} {x : Operand} : handB E fr (.box t x) = false := rfl
@[simp ↓] theorem hand_load {t : TypeId} {x : Operand} : handB E fr (.load t x) = false := rfl
@[simp ↓] theorem hand_store {t : TypeId} {x y : Operand} : handB E fr (.store t x y) = false := rfl
@[simp ↓] theorem hand_nilCheck {x : Operand} : handB E fr (.nilCheck x) = false := rfl
@[simp ↓] theorem hand_fieldAddr {t : TypeId} {x : Operand} {f : Nat} : handB E fr (.fieldAddr t x f) = false := rfl
@[simp ↓] theorem hand_indexAddr {t : TypeId} {x i : Operand} : handB E fr (.indexAddr t x i) = false := rfl
@[simp ↓] theorem hand_slice {t : TypeId} {x : Operand} {lo hi mx : Option Operand} : handB E fr (.slice t x lo hi mx) = false := rfl
@[simp ↓] theorem hand_field {t : TypeId} {x : Operand} {f : Nat} : handB E fr (.field t x f) = false := rfl
@[simp ↓] theorem hand_extract {x : Operand} {f : Nat} : handB E fr (.extract x f) = false := rfl
@[simp ↓] theorem hand_build {t : TypeId} {ps : Array (Nat × Operand)} : handB E fr (.build t ps) = false := rfl
@[simp ↓] theorem hand_buildSlice {t : TypeId} {n : Nat} {ps : Array (Nat × Operand)} : handB E fr (.buildSlice t n ps) = false := rfl
@[simp ↓] theorem hand_makeSlice {t : TypeId} {x y : Operand} : handB E fr (.makeSlice t x y) = false := rfl
@[simp ↓] theorem hand_makeFunc0 {f : Fn} {c : Array Operand} : handB E fr (.makeFunc f #[] c) = false := rfl
@[simp ↓] theorem hand_makeFunc1 {f : Fn} {x : Operand} {l : List Operand} {c : Array Operand} : handB E fr (.makeFunc f ⟨x :: l⟩ c) = true := rfl
@[simp ↓] theorem hand_bin {op : BinOp} {t yt : TypeId} {x y : Operand} : handB E fr (.binOp op t x y yt) = false := rfl
@[simp ↓] theorem hand_un {op : UnOp} {t : TypeId} {x : Operand} : handB E fr (.unOp op t x) = false := rfl
@[simp ↓] theorem hand_conv {s t : TypeId} {x : Operand} : handB E fr (.convert s t x) = false := rfl
@[simp ↓] theorem hand_index {t : TypeId} {x i : Operand} : handB E fr (.index t x i) = false := rfl
@[simp ↓] theorem hand_builtin {b : Builtin} {args : Array Operand} {ts : Array TypeId} : handB E fr (.call ⟨.builtin b, args, ts⟩) = isClear b := rfl
@[simp] theorem clear_len : isClear .len = false := rfl
@[simp] theorem clear_append : isClear .append = false := rfl
@[simp] theorem clear_min : isClear .min = false := rfl
@[simp] theorem clear_max : isClear .max = false := rfl
@[simp] theorem clear_clear : isClear .clear = true := rfl
def handV (E : PEnv) (v : Value) : Bool := match v with
  | .func (.func g) _ _ => E.ps g
  | .func (.yield _) _ _ => true
  | _ => false
@[simp ↓] theorem hand_call {x : Operand} {args : Array Operand} {ts : Array TypeId} : handB E fr (.call ⟨.value x, args, ts⟩) = handV E (ev fr x) := rfl
@[simp] theorem handV_func {g : FuncId} {a b : Array Value} : handV E (.func (.func g) a b) = E.ps g := rfl
@[simp] theorem handV_tok {l : Nat} : handV E (tok l) = true := rfl
@[simp] theorem handV_yield {l : Nat} {a b : Array Value} : handV E (.func (.yield l) a b) = true := rfl
/-! ### what is handed in -/
theorem hand_call_ret {o : Oper} {x : Operand} {args : Array Operand} {ts : Array TypeId} {g : FuncId} {first caps : Array Value} {H1 : LH} (hw : lwant all fr o = some true) (hop : o.op = .call ⟨.value x, args, ts⟩) (hx : ev fr x = .func (.func g) first caps) (hps : E.ps g = true)
    (hc : R P E (.call g (first.toList ++ args.toList.map (ev fr) ++ caps.toList) H (.ret v) H1)) {fr1 : Fr} (hput : lput fn.ntmps fr o.dst v = some fr1) (h : PO P E Y rd fn all os k fr1 H1 p Q) : PHand P E Y rd fn all (o :: os) k fr H p Q := by
  obtain ⟨r, H', p', h, q⟩ := h
  exact ⟨_, _, _, .ocall hw hop hx hps hc hput h, q⟩
theorem hand_call_pan {o : Oper} {x : Operand} {args : Array Operand} {ts : Array TypeId} {g : FuncId} {first caps : Array Value} {H1 : LH} (hw : lwant all fr o = some true) (hop : o.op = .call ⟨.value x, args, ts⟩) (hx : ev fr x = .func (.func g) first caps) (hps : E.ps g = true)
    (hc : R P E (.call g (first.toList ++ args.toList.map (ev fr) ++ caps.toList) H (.pan v) H1)) (h : Q (.pan v) H1 p) : PHand P E Y rd fn all (o :: os) k fr H p Q :=
  ⟨_, _, _, .ocallp hw hop hx hps hc, h⟩
theorem hand_clear {o : Oper} {x : Operand} {t : TypeId} {H1 : LH} (hw : lwant all fr o = some true) (hop : o.op = .call ⟨.builtin .clear, #[x], #[t]⟩) (hc : lclr P t (ev fr x) H = some H1) {fr1 : Fr} (hput : lput fn.ntmps fr o.dst (.tuple #[]) = some fr1)
    (h : PO P E Y rd fn all os k fr1 H1 p Q) : PHand P E Y rd fn all (o :: os) k fr H p Q := by
  obtain ⟨r, H', p', h, q⟩ := h
  exact ⟨_, _, _, .oclear hw hop hc hput h, q⟩
theorem hand_mkf {o : Oper} {g : FuncId} {first caps : Array Operand} (hw : lwant all fr o = some true) (hop : o.op = .makeFunc (.func g) first caps) (h0 : first.size ≠ 0) {fr1 : Fr} (hput : lput fn.ntmps fr o.dst (.func (.func g) (first.map (ev fr)) (caps.map (ev fr))) = some fr1)
    (h : PO P E Y rd fn all os k fr1 H p Q) : PHand P E Y rd fn all (o :: os) k fr H p Q := by
  obtain ⟨r, H', p', h, q⟩ := h
  exact ⟨_, _, _, .omkf hw hop h0 hput h, q⟩
theorem hand_yield {yc : YC} {o : Oper} {x : Operand} {args : Array Operand} {ts : Array TypeId} {j : Option Code} {H1 : LH} (hw : lwant all fr o = some true) (hop : o.op = .call ⟨.value x, args, ts⟩) (hx : ev fr x = tok yc.l) (hsz : args.size = yc.params.length) (hN : ∀ d ∈ yc.params, d < yc.fn.ntmps)
    (hr : R P E (.run none 1 yc.fn [.code yc.assign, .beginRound, .code yc.body] (setL yc.fr (yc.params.zip (args.toList.map (ev fr)))) H none (.jump j) H1 none)) {fr1 : Fr} (hput : lput fn.ntmps fr o.dst (.bool j.isNone) = some fr1)
    (h : PO P E (some yc) 0 fn all os k fr1 H1 j Q) : PHand P E (some yc) 0 fn all (o :: os) k fr H none Q := by
  obtain ⟨r, H', p', h, q⟩ := h
  exact ⟨_, _, _, .oyield hw hop hx hsz hN hr hput h, q⟩
/-- a loop: a relation that each round hands on, a measure that each round lowers -/
theorem ploop_ind {St : Type} (Rl : St → Fr → LH → Option Code → Prop) (μ : St → Nat) {x : Code} (st : St) (h : Rl st fr H p)
    (step : ∀ st fr H p, Rl st fr H p → (∀ st' fr' H' p', μ st' < μ st → Rl st' fr' H' p' → PR P E Y rd fn (.inLoop x :: k) fr' H' p' Q) → PR P E Y rd fn (.code x :: .inLoop x :: k) fr H p Q) : PR P E Y rd fn (.code (.loop x) :: k) fr H p Q := by
  have key : ∀ m st fr H p, μ st < m → Rl st fr H p → PR P E Y rd fn (.inLoop x :: k) fr H p Q := by
    intro m
    induction m with
    | zero => intro st fr H p hm; omega
    | succ m ih =>
      intro st fr H p hm hR
      exact pr_inLoop.2 (step st fr H p hR (fun st' fr' H' p' hlt hR' => ih st' fr' H' p' (by omega) hR'))
  exact pr_loop.2 (key (μ st + 1) st fr H p (Nat.lt_succ_self _) h)
/-- a function's contract -/
theorem pcall {f : FuncId} {fn : Func} {c : Code} {args : List Value} (hf : P.funcs[f]? = some fn) (hb : fn.body = some c) (hN : args.length ≤ fn.ntmps) (hname : fn.name ≠ "runtime.NumGoroutine") (hcd : codeOkR E.pl fn.ntmps c = true) {Q : Res → LH → Prop}
    (h : PR P E none 0 fn [.code c] (enter args) H none (fun r H' p' => p' = none ∧ Q r H')) : ∃ r H', R P E (.call f args H r H') ∧ Q r H' := by
  obtain ⟨r, H', p', h1, rfl, h2⟩ := h
  exact ⟨r, H', .body ⟨hf, hb, hN, hname, hcd⟩ h1, h2⟩
/-- a function's contract, exactly -/
theorem pcall_is {f : FuncId} {fn : Func} {c : Code} {args : List Value} {r : Res} (hf : P.funcs[f]? = some fn) (hb : fn.body = some c) (hN : args.length ≤ fn.ntmps) (hname : fn.name ≠ "runtime.NumGoroutine") (hcd : codeOkR E.pl fn.ntmps c = true)
    (h : PR P E none 0 fn [.code c] (enter args) H none (fun r1 H1 p' => p' = none ∧ r1 = r ∧ H1 = H')) : R P E (.call f args H r H') := by
  obtain ⟨r, H', h1, rfl, rfl⟩ := pcall hf hb hN hname hcd (Q := fun r1 H1 => r1 = r ∧ H1 = H') h
  exact h1
/-- ... a flat one, that leaves what was there -/
theorem pcall_flat {f : FuncId} {fn : Func} {c : Code} {args : List Value} {r : Res} (hf : P.funcs[f]? = some fn) (hb : fn.body = some c) (hN : args.length ≤ fn.ntmps) (hname : fn.name ≠ "runtime.NumGoroutine") (hcd : codeOkR E.pl fn.ntmps c = true) (hr : flatR r = true)
    (h : PR P E none 0 fn [.code c] (enter args) H none (fun r1 H1 p' => p' = none ∧ r1 = r ∧ H.le H1)) : R P E (.call f args H r H) := by
  obtain ⟨r, H', h1, rfl, h2⟩ := pcall hf hb hN hname hcd (Q := fun r1 H1 => r1 = r ∧ H.le H1) h
  exact .trunc h1 hr h2
end
end Go.Lg
/-
  A logical run of Go code: library functions by their contracts; a law's end.
-/
set_option linter.unusedSimpArgs false
set_option linter.unusedVariables false
namespace Go.Lg
open Go.Tg Go.RowKit

section
variable {P : Program} {E : Ext} {H H' : LH} {ι : Ren} {w w' : World} {v v' : Value}
def ren0 : Ren := fun _ => ⟨0, 0, 0⟩
theorem rel_empty {w : World} {ng : Nat} (h : ng ≤ w.heap.size) : Rel P (LH.empty w ng) ren0 w :=
  ⟨fun _ _ => rfl, fun _ h => h.elim, (fun _ _ h => by cases h), (fun _ _ _ _ h => by cases h), fun g hg => ⟨rfl, Nat.lt_of_lt_of_le hg h, fun ⟨_, _, h, _⟩ => by cases h⟩⟩
theorem flats_rel {D : Nat → Prop} {ι : Ren} {args : List Value} (h : ∀ x ∈ args, flatB x = true) : args.length = args.toArray.size ∧ ∀ (i : Nat) (x y : Value), args[i]? = some x → args.toArray[i]? = some y → VR D ι x y := by
  refine ⟨by simp, fun i x y hx hy => ?_⟩
  rw [List.getElem?_toArray, hx] at hy
  injection hy with hy
  subst hy
  exact .flat _ (h x (List.mem_of_getElem? hx))
/-- a law of flat arguments -/
theorem law_flat {f : FuncId} {args : List Value} {ng : Nat} (hT : TOk P (LC P E)) (hf : ∀ x ∈ args, flatB x = true) (hng : ng ≤ w.heap.size) (h : LC P E f args (LH.empty w ng) = some (.bool true, H')) (he : Entered P f := by exact ⟨_, rfl, rfl, by decide⟩) :
    Calls P f args.toArray w fun e w' => e = .returned (.bool true) ∧ Change (fun _ => False) w w' := by
  have hc := (hT _ _ _ _ _ h).call he
  obtain ⟨h1, h2⟩ := flats_rel (D := (LH.empty w ng).D) (ι := ren0) hf
  refine (hc ren0 w args.toArray (rel_empty hng) h1 h2).mono ?_
  rintro e w' ⟨ι', v', rfl, ho, hv⟩
  rw [flat_eq hv rfl]
  exact ⟨rfl, ho.chg.mono (fun _ _ ⟨_, _, h, _⟩ => by cases h)⟩
/-- specifications of library functions -/
abbrev Spec := List Value → LH → Option (Value × LH)
def SpecOk (P : Program) (f : FuncId) (s : Spec) : Prop := ∀ args H v H', s args H = some (v, H') → Ran P f args H v H'
/-- the regions that go by the text's order: by the function's size and the region's number -/
def chT (n id k : Nat) : Option (List (Nat × Nat)) :=
  if n = 15 then (if id = 2 ∧ k = 6 then some [(2, 4)] else if id = 3 ∧ k = 10 then some [(7, 8)] else none) else
  if n = 22 then (if id = 6 ∧ k = 4 then some [(1, 2)] else none) else
  if n = 24 then (if id = 3 ∧ k = 8 then some [(0, 4)] else none) else
  if n = 26 then (if id = 1 ∧ k = 9 then some [(2, 1)] else none) else
  if n = 27 then (if id = 5 ∧ k = 16 then some [] else none) else
  if n = 28 then (if id = 5 ∧ k = 10 then some [(5, 3)] else if id = 6 ∧ k = 8 then some [] else none) else
  if n = 29 then (if id = 4 ∧ k = 10 then some [(0, 2), (0, 3), (0, 7)] else none) else
  if n = 32 then (if id = 3 ∧ k = 16 then some [] else if id = 5 ∧ k = 12 then some [] else none) else
  if n = 34 then (if id = 3 ∧ k = 16 then some [] else none) else
  if n = 35 then (if id = 10 ∧ k = 4 then some [(0, 1)] else none) else
  if n = 36 then (if id = 5 ∧ k = 17 then some [(11, 6)] else none) else
  if n = 38 then (if id = 3 ∧ k = 24 then some [] else none) else
  if n = 39 then (if id = 4 ∧ k = 16 then some [(3, 9), (5, 9), (5, 11), (7, 9), (7, 11), (7, 13)] else if id = 6 ∧ k = 11 then some [(0, 5)] else if id = 7 ∧ k = 13 then some [(0, 5), (0, 9)] else none) else
  if n = 41 then (if id = 1 ∧ k = 15 then some [(1, 6), (1, 10), (1, 11), (1, 13), (3, 6), (3, 10), (3, 11), (3, 13), (5, 10), (5, 13)] else none) else
  if n = 42 then (if id = 5 ∧ k = 12 then some [(2, 7)] else none) else
  if n = 46 then (if id = 5 ∧ k = 18 then some [(5, 13)] else if id = 8 ∧ k = 13 then some [(4, 2), (4, 7), (4, 10), (6, 2)] else none) else
  if n = 49 then (if id = 6 ∧ k = 18 then some [] else none) else
  if n = 52 then (if id = 12 ∧ k = 9 then some [] else none) else
  if n = 53 then (if id = 6 ∧ k = 18 then some [] else none) else
  if n = 55 then (if id = 1 ∧ k = 9 then some [(2, 1)] else if id = 2 ∧ k = 10 then some [(0, 2), (0, 7), (1, 7), (6, 2), (6, 4), (6, 7), (6, 8)] else none) else
  if n = 56 then (if id = 9 ∧ k = 13 then some [(5, 0), (5, 4)] else if id = 10 ∧ k = 20 then some [] else none) else
  if n = 58 then (if id = 7 ∧ k = 19 then some [] else none) else
  if n = 59 then (if id = 5 ∧ k = 9 then some [(2, 7), (6, 7)] else none) else
  if n = 60 then (if id = 10 ∧ k = 12 then some [(5, 7)] else if id = 10 ∧ k = 20 then some [] else none) else
  if n = 62 then (if id = 8 ∧ k = 14 then some [] else if id = 9 ∧ k = 12 then some [] else none) else
  if n = 63 then (if id = 4 ∧ k = 21 then some [(4, 12), (4, 13), (6, 12), (6, 13), (6, 17), (10, 12)] else none) else
  if n = 65 then (if id = 10 ∧ k = 20 then some [] else none) else
  if n = 67 then (if id = 8 ∧ k = 16 then some [(9, 0), (9, 4), (11, 0), (11, 4)] else if id = 10 ∧ k = 20 then some [] else if id = 12 ∧ k = 8 then some [(3, 0), (3, 2)] else none) else
  if n = 68 then (if id = 6 ∧ k = 12 then some [(3, 8), (3, 9), (7, 8), (7, 9), (7, 10)] else none) else
  if n = 72 then (if id = 9 ∧ k = 17 then some [(9, 0), (9, 4)] else if id = 11 ∧ k = 17 then some [(0, 4), (0, 7), (0, 12)] else none) else
  if n = 76 then (if id = 6 ∧ k = 24 then some [] else none) else
  if n = 77 then (if id = 20 ∧ k = 10 then some [] else none) else
  if n = 79 then (if id = 9 ∧ k = 12 then some [(5, 3)] else none) else
  if n = 80 then (if id = 8 ∧ k = 13 then some [(3, 5), (8, 10)] else none) else
  if n = 82 then (if id = 6 ∧ k = 24 then some [] else if id = 9 ∧ k = 15 then some [] else if id = 21 ∧ k = 9 then some [] else none) else
  if n = 84 then (if id = 1 ∧ k = 16 then some [] else if id = 8 ∧ k = 16 then some [] else if id = 9 ∧ k = 11 then some [] else none) else
  if n = 89 then (if id = 9 ∧ k = 31 then some [(5, 1), (10, 1), (10, 8), (10, 17), (15, 1), (15, 8), (16, 1), (16, 8), (24, 1), (24, 8), (24, 17), (24, 19), (24, 20)] else none) else
  if n = 90 then (if id = 1 ∧ k = 16 then some [] else if id = 8 ∧ k = 16 then some [] else none) else
  if n = 108 then (if id = 15 ∧ k = 14 then some [] else none) else
  if n = 105 then (if id = 8 ∧ k = 18 then some [] else if id = 10 ∧ k = 19 then some [] else none) else
  if n = 133 then (if id = 11 ∧ k = 18 then some [] else if id = 17 ∧ k = 18 then some [] else if id = 23 ∧ k = 18 then some [] else none) else
  if n = 134 then (if id = 15 ∧ k = 10 then some [] else if id = 19 ∧ k = 8 then some [] else none) else
  if n = 136 then (if id = 10 ∧ k = 12 then some [(3, 8), (3, 9), (7, 8), (7, 9), (7, 10)] else none) else
  if n = 139 then (if id = 7 ∧ k = 21 then some [(11, 7), (15, 7)] else if id = 16 ∧ k = 17 then some [(9, 0), (9, 4)] else if id = 20 ∧ k = 18 then some [(11, 5)] else none) else
  if n = 141 then (if id = 11 ∧ k = 18 then some [] else if id = 15 ∧ k = 13 then some [(5, 8)] else if id = 17 ∧ k = 18 then some [] else if id = 23 ∧ k = 18 then some [] else none) else
  if n = 143 then (if id = 10 ∧ k = 8 then some [] else if id = 10 ∧ k = 11 then some [] else if id = 14 ∧ k = 10 then some [] else if id = 28 ∧ k = 9 then some [] else none) else
  if n = 151 then (if id = 19 ∧ k = 19 then some [(3, 1), (9, 7), (16, 14)] else if id = 21 ∧ k = 31 then some [(3, 1), (9, 7), (16, 14)] else none) else
  if n = 167 then (if id = 7 ∧ k = 15 then some [] else if id = 8 ∧ k = 15 then some [] else if id = 9 ∧ k = 15 then some [] else if id = 10 ∧ k = 15 then some [] else if id = 17 ∧ k = 15 then some [] else if id = 18 ∧ k = 15 then some [] else if id = 23 ∧ k = 15 then some [] else none) else
  if n = 168 then (if id = 1 ∧ k = 16 then some [] else if id = 8 ∧ k = 16 then some [] else if id = 10 ∧ k = 16 then some [] else if id = 18 ∧ k = 16 then some [] else if id = 21 ∧ k = 16 then some [] else none) else
  if n = 178 then (if id = 1 ∧ k = 16 then some [] else if id = 8 ∧ k = 16 then some [] else if id = 10 ∧ k = 16 then some [] else if id = 18 ∧ k = 16 then some [] else if id = 21 ∧ k = 16 then some [] else none) else
  if n = 201 then (if id = 17 ∧ k = 24 then some [] else if id = 19 ∧ k = 20 then some [(5, 1), (12, 1), (12, 8)] else none) else
  if n = 220 then (if id = 11 ∧ k = 18 then some [] else if id = 23 ∧ k = 18 then some [] else none) else
  none
def extLL (l : List (FuncId × Spec)) (loud : List FuncId) : Ext := ⟨fun f => (l.find? (fun p => p.1 == f)).map (·.2), ⟨fun f => loud.contains f, chT⟩⟩
@[simp] theorem extLL_ch {l : List (FuncId × Spec)} {loud : List FuncId} {n id k : Nat} : (extLL l loud).loud.ch n id k = chT n id k := rfl
attribute [simp] chT
abbrev extL (l : List (FuncId × Spec)) : Ext := extLL l []
theorem extL_ok {l : List (FuncId × Spec)} {loud : List FuncId} (h : ∀ p ∈ l, SpecOk P p.1 p.2) : ExtOk P (extLL l loud) := by
  intro f s hs args H v H' hr
  unfold extLL at hs
  obtain ⟨p, hp, rfl⟩ := Option.map_eq_some_iff.1 hs
  have h1 := List.find?_some hp
  have h2 := List.mem_of_find?_eq_some hp
  simp only [beq_iff_eq] at h1
  subst h1
  exact h p h2 args H v H' hr
/-- a function of flat arguments that leaves the world as it was -/
theorem callOk_flat {f : FuncId} {args : List Value} (hf : ∀ x ∈ args, flatB x = true) (hv : flatB v = true) (h : ∀ w, Calls P f args.toArray w fun e w' => e = .returned v ∧ w' = w) : CallOk P f args H v H := by
  intro ι w args' hrel h1 h2
  have e : args' = args.toArray := by
    apply Array.ext
    · simp [h1]
    · intro i h3 h4
      have hx : args[i]? = some (args[i]'(by simpa using h4)) := List.getElem?_eq_getElem _
      have := flat_eq (h2 i _ _ hx (Array.getElem?_eq_getElem h3)) (hf _ (List.getElem_mem _))
      rw [this]; simp
  subst e
  refine (h w).mono ?_
  rintro e w' ⟨rfl, rfl⟩
  exact ⟨ι, v, rfl, Out.refl hrel, .flat _ hv⟩
/-- a function of flat arguments that leaves all blocks as they were -/
theorem callOk_flatC {f : FuncId} {args : List Value} (hf : ∀ x ∈ args, flatB x = true) (hv : flatB v = true) (h : ∀ w, Calls P f args.toArray w fun e w' => e = .returned v ∧ Change (fun _ => False) w w') : CallOk P f args H v H := by
  intro ι w args' hrel h1 h2
  have e : args' = args.toArray := by
    apply Array.ext
    · simp [h1]
    · intro i h3 h4
      have hx : args[i]? = some (args[i]'(by simpa using h4)) := List.getElem?_eq_getElem _
      have := flat_eq (h2 i _ _ hx (Array.getElem?_eq_getElem h3)) (hf _ (List.getElem_mem _))
      rw [this]; simp
  subst e
  refine (h w).mono ?_
  rintro e w' ⟨rfl, hc⟩
  exact ⟨ι, v, rfl, out_change hrel hc, .flat _ hv⟩
/-- a function of flat arguments that makes a row of flat cells -/
theorem callOk_row {f : FuncId} {args : List Value} {cells : List Value} {e : TypeId} {k : Nat} (hf : ∀ x ∈ args, flatB x = true) (hc : ∀ x ∈ cells, flatB x = true) (hs : sz P e = some 1) (hk : cells.length = k) (hm : k ≤ maxLen)
    (h : ∀ ι w, Rel P H ι w → Calls P f args.toArray w fun x w' => x = .returned (.slice (some ⟨w.heap.size, 0, none⟩) k k) ∧ w' = w.alloc (.cells cells.toArray e)) : CallOk P f args H (sl H.n k k) (H.new ⟨cells, e, true⟩) := by
  intro ι w args' hrel h1 h2
  have e1 : args' = args.toArray := by
    apply Array.ext
    · simp [h1]
    · intro i h3 h4
      have hx : args[i]? = some (args[i]'(by simpa using h4)) := List.getElem?_eq_getElem _
      have := flat_eq (h2 i _ _ hx (Array.getElem?_eq_getElem h3)) (hf _ (List.getElem_mem _))
      rw [this]; simp
  subst e1
  refine (h ι w hrel).mono ?_
  rintro x w' ⟨rfl, rfl⟩
  have ho := rel_new hrel (b := ⟨cells, e, true⟩) (arr := cells.toArray) (slack := 0) rfl hs (by simp) (fun n hn hl => by simp at hl; omega) (fun i x hx => ⟨x, by simpa using hx, .flat _ (hc x (List.mem_of_getElem? hx))⟩)
  refine ⟨_, _, rfl, ho, ?_⟩
  have := VR.slice (n := (H.new ⟨cells, e, true⟩).D) (ι := ι.add H.n ⟨w.heap.size, 0, 0⟩) H.n 0 k k ((D_new hrel H.n).2 (.inr rfl)) (Nat.le_refl _)
  simpa [Ren.add] using this
/-- a package's variable, as it was in the beginning -/
theorem pin_block (hrel : Rel P H ι w) {g : Nat} (hg : g < H.ng) : w.heap[g]? = H.base.heap[g]? := (hrel.pin g hg).1
end
end Go.Lg
/-
  A logical run of Go code: rows of cells that grow and shrink.
-/
set_option linter.unusedSimpArgs false
set_option linter.unusedVariables false
namespace Go.Lg
open Go.Tg Go.RowKit

section
variable {P : Program} {H H' : LH} {v x : Value} {xs : List Value} {e t : TypeId} {N : Nat} {b : LB}
/-- v is a row of the cells xs, in a block behind N -/
def Row (N : Nat) (H : LH) (e : TypeId) (v : Value) (xs : List Value) : Prop :=
  (v = .slice none 0 0 ∧ xs = []) ∨ ∃ k c rest, v = sl k xs.length c ∧ N ≤ k ∧ H.get k = some ⟨xs ++ rest, e, true⟩ ∧ c = xs.length + rest.length
/-- blocks that are no row's -/
def offRow (v : Value) (k : Nat) : Prop := ∀ n c, v ≠ sl k n c
theorem Row.nil : Row N H e (.slice none 0 0) [] := .inl ⟨rfl, rfl⟩
theorem Row.len (h : Row N H e v xs) (hu : P.underlying t = some (.slice e)) : lbuiltin P .len [t] [v] H' = some (.int .i64 xs.length, H') := by
  rcases h with ⟨rfl, rfl⟩ | ⟨k, c, rest, rfl, _⟩
  · exact lbuiltin_len_slice hu
  · exact lbuiltin_len_slice hu
theorem Row.cell (h : Row N H e v xs) : cellB v = true := by
  rcases h with ⟨rfl, rfl⟩ | ⟨k, c, rest, rfl, _⟩ <;> simp
theorem Row.keep (h : Row N H e v xs) (hk : ∀ k, N ≤ k → ¬ offRow v k → H'.get k = H.get k) : Row N H' e v xs := by
  rcases h with ⟨rfl, rfl⟩ | ⟨k, c, rest, rfl, h1, h2, h3⟩
  · exact .inl ⟨rfl, rfl⟩
  · exact .inr ⟨k, c, rest, rfl, h1, by rw [hk k h1 (fun h => h _ _ rfl)]; exact h2, h3⟩
theorem Row.off_of_elem (h : Row N H e v xs) {l : Nat} (hl : H.get l = some b) (hne : b.elem ≠ e) : offRow v l := by
  rcases h with ⟨rfl, rfl⟩ | ⟨k, c, rest, rfl, h1, h2, h3⟩
  · intro n c h; cases h
  · intro n c h
    injection h with h
    injection h with h
    injection h with h
    subst h
    rw [h2] at hl
    injection hl with hl
    subst hl
    exact hne rfl
theorem off_nil {k : Nat} : offRow (.slice none 0 0) k := fun n c h => by cases h
/-- one element more -/
theorem Row.push (h : Row N H e v xs) (hu : P.underlying t = some (.slice e)) (hs : lesz P e = some 1) (hx : cellB x = true) (hm : xs.length + 1 ≤ maxElems) (hN : N ≤ H.n) (hdom : ∀ l, H.n ≤ l → H.get l = none) :
    ∃ v' H', lapp P t v (some (1, [x])) H = some (v', H') ∧ Row N H' e v' (xs ++ [x]) ∧ H.n ≤ H'.n ∧ (∀ k, k < H.n → offRow v k → H'.get k = H.get k) ∧ (∀ k, k < H.n → offRow v k → offRow v' k) ∧ (∀ l, H'.n ≤ l → H'.get l = none) ∧ H'.base = H.base ∧ H'.ng = H.ng := by
  have hc : [x].all cellB = true := by simp [hx]
  rcases h with ⟨rfl, rfl⟩ | ⟨k, c, rest, rfl, h1, h2, h3⟩
  · refine ⟨_, _, lapp_nil hu hs hc (by omega) (by simp [maxElems]), .inr ⟨H.n, 1, [], rfl, hN, by simp, rfl⟩, by simp, fun k hk _ => get_new_ne (by omega), fun k hk _ n c h => ?_, fun l hl => ?_, rfl, rfl⟩
    · injection h with h
      injection h with h
      injection h with h
      omega
    · have : H.n + 1 ≤ l := hl
      rw [get_new_ne (by omega)]; exact hdom l (by omega)
  · have hklt : k < H.n := by
      rcases Nat.lt_or_ge k H.n with h | h
      · exact h
      · rw [hdom k h] at h2; cases h2
    cases rest with
    | nil =>
      simp only [List.length_nil, Nat.add_zero] at h3
      subst h3
      have ha := lapp_grow (P := P) (H := H) (t := t) (m := 1) (new := [x]) (n := xs.length) (s := 1) hu hs hc (by omega) hm h2 rfl rfl (by simp)
      simp only [List.append_nil] at ha h2
      refine ⟨_, _, ha, .inr ⟨H.n, xs.length + 1, [], by simp, hN, ?_, by simp⟩, by simp, fun j hj ho => ?_, fun j hj ho n c h => ?_, fun l hl => ?_, rfl, rfl⟩
      · rw [show H.n = (H.kill k).n from rfl, get_new]; simp
      · have hjk : j ≠ k := fun e => ho _ _ (by rw [e])
        rw [get_new_ne (by simp; omega), get_kill_ne hjk]
      · injection h with h
        injection h with h
        injection h with h
        omega
      · have : H.n + 1 ≤ l := hl
        rw [get_new_ne (by simp; omega), get_kill_ne (by omega)]; exact hdom l (by omega)
    | cons z rest =>
      have ha := lapp_in (P := P) (H := H) (t := t) (m := 1) (new := [x]) (n := xs.length) (cp := c) (s := 1) hu hs hc (by omega) h2 rfl rfl (by simp [h3]) (by simp [h3])
      refine ⟨_, _, ha, .inr ⟨k, c, rest, by simp, h1, ?_, by simp [h3]; omega⟩, by simp, fun j hj ho => ?_, fun j hj ho n c' h => ?_, fun l hl => ?_, rfl, rfl⟩
      · rw [get_set]
        congr 2
        simp [splice]
      · have hjk : j ≠ k := fun e => ho _ _ (by rw [e])
        rw [get_set_ne hjk]
      · injection h with h
        injection h with h
        injection h with h
        subst h
        exact ho _ _ rfl
      · have : H.n ≤ l := hl
        rw [get_set_ne (by omega)]; exact hdom l this
/-- fewer elements -/
theorem Row.take (h : Row N H e v xs) (hu : P.underlying t = some (.slice e)) (hs : sz P e = some 1) {j : Int} {kd : IntKind} (h0 : 0 ≤ j) (h1 : j < xs.length) : ∃ v', lpart P t v none (some (.int kd j)) = some v' ∧ Row N H e v' (xs.take j.toNat) ∧ ∀ k, offRow v k → offRow v' k := by
  rcases h with ⟨rfl, rfl⟩ | ⟨k, c, rest, rfl, g1, g2, g3⟩
  · simp at h1; omega
  · refine ⟨_, lpart_row_ns hu hs h0 (by omega), .inr ⟨k, c, xs.drop j.toNat ++ rest, ?_, g1, ?_, ?_⟩, fun i hi n c' h => ?_⟩
    · rw [List.length_take, Nat.min_eq_left (by omega)]
    · rw [← List.append_assoc, List.take_append_drop]; exact g2
    · simp; omega
    · injection h with h
      injection h with h
      injection h with h
      subst h
      exact hi _ _ rfl
/-- an element is read -/
theorem Row.at (h : Row N H e v xs) (hu : P.underlying t = some (.slice e)) (hs : sz P e = some 1) (ha : aggB P e = some false) {j : Int} {kd : IntKind} (h0 : 0 ≤ j) (h1 : j < xs.length) {d : Value} : ∃ p, lixa P t v (.int kd j) H' = some (p, H') ∧ lld P e p H = some (xs.getD j.toNat d) := by
  rcases h with ⟨rfl, rfl⟩ | ⟨k, c, rest, rfl, g1, g2, g3⟩
  · simp at h1; omega
  · refine ⟨_, lixa_row hu hs h0 (by omega), ?_⟩
    rw [lld_ptr g2, ha]
    simp only [lldb_cell, Nat.zero_add, Nat.mul_one]
    have hlt : j.toNat < xs.length := by omega
    rw [List.getElem?_append, if_pos hlt, List.getD_eq_getElem?_getD, List.getElem?_eq_getElem hlt]; rfl
end
end Go.Lg
/-
  A logical run of Go code: rules for regions whose order is open.
-/
set_option linter.unusedSimpArgs false
set_option linter.unusedVariables false
namespace Go.Lg
open Go.Tg Go.RowKit
section
variable {P : Program} {fr : Fr} {H H0 : LH} {T : Callee} {L : Loud} {t s : TypeId} {x y i c : Operand}
@[simp ↓] theorem lmixx_move : lmixx P T (.move x) fr H0 H = lopx P T (.move x) fr H := rfl
@[simp ↓] theorem loud_move : loudOp L (.move x) = false := rfl
@[simp ↓] theorem lmixx_assign : lmixx P T (.assign x) fr H0 H = lopx P T (.assign x) fr H := rfl
@[simp ↓] theorem loud_assign : loudOp L (.assign x) = false := rfl
@[simp ↓] theorem lmixx_pick : lmixx P T (.pick c x y) fr H0 H = lopx P T (.pick c x y) fr H := rfl
@[simp ↓] theorem loud_pick : loudOp L (.pick c x y) = false := rfl
@[simp ↓] theorem lmixx_box : lmixx P T (.box t x) fr H0 H = lopx P T (.box t x) fr H := rfl
@[simp ↓] theorem loud_box : loudOp L (.box t x) = false := rfl
@[simp ↓] theorem lmixx_alloc : lmixx P T (.alloc t) fr H0 H = lopx P T (.alloc t) fr H := rfl
@[simp ↓] theorem loud_alloc : loudOp L (.alloc t) = false := rfl
@[simp ↓] theorem lmixx_load : lmixx P T (.load t x) fr H0 H = lopx P T (.load t x) fr H := rfl
@[simp ↓] theorem loud_load : loudOp L (.load t x) = false := rfl
@[simp ↓] theorem lmixx_nilCheck : lmixx P T (.nilCheck x) fr H0 H = lopx P T (.nilCheck x) fr H := rfl
@[simp ↓] theorem loud_nilCheck : loudOp L (.nilCheck x) = false := rfl
@[simp ↓] theorem lmixx_fieldAddr {f : Nat} : lmixx P T (.fieldAddr t x f) fr H0 H = lopx P T (.fieldAddr t x f) fr H := rfl
@[simp ↓] theorem loud_fieldAddr {f : Nat} : loudOp L (.fieldAddr t x f) = false := rfl
@[simp ↓] theorem lmixx_indexAddr : lmixx P T (.indexAddr t x i) fr H0 H = lopx P T (.indexAddr t x i) fr H := rfl
@[simp ↓] theorem loud_indexAddr : loudOp L (.indexAddr t x i) = false := rfl
@[simp ↓] theorem lmixx_slice {lo hi mx : Option Operand} : lmixx P T (.slice t x lo hi mx) fr H0 H = lopx P T (.slice t x lo hi mx) fr H := rfl
@[simp ↓] theorem loud_slice {lo hi mx : Option Operand} : loudOp L (.slice t x lo hi mx) = false := rfl
@[simp ↓] theorem lmixx_field {f : Nat} : lmixx P T (.field t x f) fr H0 H = lopx P T (.field t x f) fr H := rfl
@[simp ↓] theorem loud_field {f : Nat} : loudOp L (.field t x f) = false := rfl
@[simp ↓] theorem lmixx_extract {f : Nat} : lmixx P T (.extract x f) fr H0 H = lopx P T (.extract x f) fr H := rfl
@[simp ↓] theorem loud_extract {f : Nat} : loudOp L (.extract x f) = false := rfl
@[simp ↓] theorem lmixx_build {ps : Array (Nat × Operand)} : lmixx P T (.build t ps) fr H0 H = lopx P T (.build t ps) fr H := rfl
@[simp ↓] theorem loud_build {ps : Array (Nat × Operand)} : loudOp L (.build t ps) = false := rfl
@[simp ↓] theorem lmixx_buildSlice {f : Nat} {ps : Array (Nat × Operand)} : lmixx P T (.buildSlice t f ps) fr H0 H = lopx P T (.buildSlice t f ps) fr H := rfl
@[simp ↓] theorem loud_buildSlice {f : Nat} {ps : Array (Nat × Operand)} : loudOp L (.buildSlice t f ps) = false := rfl
@[simp ↓] theorem lmixx_binOp {op : BinOp} : lmixx P T (.binOp op t x y s) fr H0 H = lopx P T (.binOp op t x y s) fr H := rfl
@[simp ↓] theorem loud_binOp {op : BinOp} : loudOp L (.binOp op t x y s) = false := rfl
@[simp ↓] theorem lmixx_unOp {uop : UnOp} : lmixx P T (.unOp uop t x) fr H0 H = lopx P T (.unOp uop t x) fr H := rfl
@[simp ↓] theorem loud_unOp {uop : UnOp} : loudOp L (.unOp uop t x) = false := rfl
@[simp ↓] theorem lmixx_convert : lmixx P T (.convert s t x) fr H0 H = lopx P T (.convert s t x) fr H := rfl
@[simp ↓] theorem loud_convert : loudOp L (.convert s t x) = false := rfl
@[simp ↓] theorem lmixx_index : lmixx P T (.index t x i) fr H0 H = lopx P T (.index t x i) fr H := rfl
@[simp ↓] theorem loud_index : loudOp L (.index t x i) = false := rfl
@[simp ↓] theorem lmixx_makeFunc {g : Fn} {c1 c2 : Array Operand} : lmixx P T (.makeFunc g c1 c2) fr H0 H = lopx P T (.makeFunc g c1 c2) fr H := rfl
@[simp ↓] theorem loud_makeFunc {g : Fn} {c1 c2 : Array Operand} : loudOp L (.makeFunc g c1 c2) = false := rfl
@[simp ↓] theorem loud_store : loudOp L (.store t x y) = true := rfl
@[simp ↓] theorem loud_append {args : Array Operand} {ts : Array TypeId} : loudOp L (.call ⟨.builtin .append, args, ts⟩) = true := rfl
@[simp ↓] theorem loud_len {args : Array Operand} {ts : Array TypeId} : loudOp L (.call ⟨.builtin .len, args, ts⟩) = false := rfl
@[simp ↓] theorem loud_min {args : Array Operand} {ts : Array TypeId} : loudOp L (.call ⟨.builtin .min, args, ts⟩) = false := rfl
@[simp ↓] theorem loud_max {args : Array Operand} {ts : Array TypeId} : loudOp L (.call ⟨.builtin .max, args, ts⟩) = false := rfl
@[simp ↓] theorem loud_call {g : FuncId} {args : Array Operand} {ts : Array TypeId} : loudOp L (.call ⟨.value (.func g), args, ts⟩) = L g := rfl
@[simp ↓] theorem loud_callt {g : Tmp} {args : Array Operand} {ts : Array TypeId} : loudOp L (.call ⟨.value (.tmp g), args, ts⟩) = false := rfl
def sameH (x : Option (Value × LH)) (H : LH) : Option (Value × LH) := x.map fun r => (r.1, H)
@[simp] theorem sameH_some {v : Value} {H1 : LH} : sameH (some (v, H1)) H = some (v, H) := rfl
@[simp] theorem sameH_none : sameH none H = none := rfl
@[simp ↓] theorem lmixx_len {args : List Operand} {ts : List TypeId} : lmixx P T (.call ⟨.builtin .len, ⟨args⟩, ⟨ts⟩⟩) fr H0 H = sameH (lbuiltin P .len ts (args.map (ev fr)) H) H := rfl
@[simp ↓] theorem lmixx_min {args : List Operand} {ts : List TypeId} : lmixx P T (.call ⟨.builtin .min, ⟨args⟩, ⟨ts⟩⟩) fr H0 H = sameH (lbuiltin P .min ts (args.map (ev fr)) H) H := rfl
@[simp ↓] theorem lmixx_max {args : List Operand} {ts : List TypeId} : lmixx P T (.call ⟨.builtin .max, ⟨args⟩, ⟨ts⟩⟩) fr H0 H = sameH (lbuiltin P .max ts (args.map (ev fr)) H) H := rfl
/-- a call in an open order: of numbers and texts, or ahead of all new blocks -/
def mcall (b : Bool) (x : Option (Value × LH)) (H : LH) : Option (Value × LH) := match b, x with | true, some (v, _) => if flatB v then some (v, H) else none | _, _ => none
@[simp] theorem mcall_some {v : Value} {H1 : LH} (h : flatB v = true) : mcall true (some (v, H1)) H = some (v, H) := by simp [mcall, h]
@[simp] theorem mcall_none {b : Bool} : mcall b none H = none := by cases b <;> rfl
@[congr] theorem mcall_congr {b b' : Bool} {x x' : Option (Value × LH)} (h1 : b = b') (h2 : x = x') : mcall b x H = mcall b' x' H := by rw [h1, h2]
def flatL : List Value → Bool
  | [] => true
  | v :: l => flatB v && flatL l
@[simp] theorem flatL_nil : flatL [] = true := rfl
@[simp] theorem flatL_cons {v : Value} {l : List Value} : flatL (v :: l) = (flatB v && flatL l) := rfl
theorem flatL_eq : ∀ l : List Value, l.all flatB = flatL l
  | [] => rfl
  | v :: l => by simp only [List.all_cons, flatL, flatL_eq l]
def lowH (H0 H : LH) (f : Value) (args : List Value) : Bool := H.n == H0.n || (flatB f && flatL args)
@[simp] theorem lowH_same {f : Value} {args : List Value} : lowH H H f args = true := by simp [lowH]
@[simp] theorem lowH_flat {f : Value} {args : List Value} (h1 : flatB f = true) (h2 : flatL args = true) : lowH H0 H f args = true := by simp [lowH, h1, h2]
@[simp] theorem flat_fn {g : FuncId} : flatB (.func (.func g) #[] #[]) = true := rfl
@[simp ↓] theorem lmixx_call {f : Operand} {args : List Operand} {ts : Array TypeId} : lmixx P T (.call ⟨.value f, ⟨args⟩, ts⟩) fr H0 H = mcall (lowH H0 H (ev fr f) (args.map (ev fr))) (lcallee P T (ev fr f) (args.map (ev fr)) H0.ro) H := by
  show (if (H.n == H0.n || (flatB (ev fr f) && (args.map (ev fr)).all flatB)) = true then (match lcallee P T (ev fr f) (args.map (ev fr)) H0.ro with | some (v, _) => if flatB v then some v else none | none => none).map (fun v => (v, H)) else none) = _
  rw [flatL_eq]
  unfold lowH mcall
  cases (H.n == H0.n || (flatB (ev fr f) && flatL (args.map (ev fr)))) with
  | false => rfl
  | true =>
    rw [if_pos rfl]
    cases lcallee P T (ev fr f) (args.map (ev fr)) H0.ro with
    | none => rfl
    | some x =>
      obtain ⟨v, H1⟩ := x
      simp only
      split <;> rfl
end
end Go.Lg
/-
  A logical run of Go code: more rules.
-/
set_option linter.unusedSimpArgs false
set_option linter.unusedVariables false
namespace Go.Lg
open Go.Tg Go.RowKit
section
variable {P : Program} {H : LH} {t : TypeId} {a b : Bool}
theorem pureVal_equal_b (hu : P.underlying t = some .bool) : pureVal P (Op.equal t (.bool a) (.bool b)) = some (a == b) := by
  unfold Op.equal
  show pureVal P (Op.equalIn (9999 + 1) t (.bool a) (.bool b)) = _
  unfold Op.equalIn
  simp only [pureVal_bind, pureVal_und, hu, Option.bind_some, pureVal_pure]
@[simp] theorem lbin_beq (hu : P.underlying t = some .bool) : lbin P .eql t (.bool a) (.bool b) = some (.bool (a == b)) := lbin_bb (by simp only [binOp, pureVal_bind, pureVal_equal_b hu, Option.bind_some, pureVal_pure]) rfl
@[simp] theorem lbin_bne (hu : P.underlying t = some .bool) : lbin P .neq t (.bool a) (.bool b) = some (.bool (a != b)) := lbin_bb (by simp only [binOp, pureVal_bind, pureVal_equal_b hu, Option.bind_some, pureVal_pure]; rfl) rfl
@[simp ↓] theorem ev_str0 {fr : Fr} : ev fr (.const (.string ⟨#[]⟩)) = str [] := rfl
@[simp ↓] theorem ev_str1 {fr : Fr} : ev fr (.const (.string ByteArray.empty)) = str [] := rfl
@[simp] theorem ev_strc {fr : Fr} {l : List UInt8} : ev fr (.const (str l)) = str l := by
  show (if flatB (str l) then str l else unk) = _
  rw [if_pos flat_str]
@[simp] theorem get_new_eq {H : LH} {b : LB} {l : Nat} (h : l = H.n) : (H.new b).get l = some b := by subst h; exact get_new
@[simp] theorem new_set_eq {H : LH} {b c : LB} {l : Nat} (h : l = H.n) : (H.new b).set l c = H.new c := by subst h; exact new_set
@[simp ↓] theorem lopx_makeSlice {T : Callee} {fr : Fr} {x y : Operand} : lopx P T (.makeSlice t x y) fr H = lmake P t (ev fr x) (ev fr y) H := rfl
@[simp] theorem lmake_one {e : TypeId} {z : Value} {l c : Int} {k k' : IntKind} (hu : P.underlying t = some (.slice e)) (hs : lesz P e = some 1) (hz : zr P e = some z) (hf : flatB z = true) (hc : cellB z = true) (h0 : 0 ≤ l) (h1 : l ≤ c) (h2 : c ≤ 1048576) :
    lmake P t (.int k l) (.int k' c) H = some (.slice (some ⟨H.n, 0, none⟩) l.toNat c.toNat, H.new ⟨List.replicate c.toNat z, e, true⟩) := by
  unfold lesz at hs
  unfold zr at hz
  unfold lmake
  simp only [hu]
  cases hi : P.info? e with
  | none => simp [hi] at hs
  | some i =>
    simp only [hi, Option.bind_some] at hs hz
    rw [hz] at hs
    simp only at hs
    split at hs
    · rename_i hh
      simp only [Option.some.injEq] at hs
      simp only [hz]
      have hcs : z.cells = #[z] := cells_one hc
      rw [if_pos (by
        simp only [Bool.and_eq_true, decide_eq_true_eq, beq_iff_eq]
        refine ⟨⟨⟨⟨⟨⟨hf, by omega⟩, h0⟩, h1⟩, by rw [hs]; omega⟩, hh.2.2⟩, by rw [hcs, hs]; rfl⟩)]
      congr 3
      rw [hcs, hs, Nat.mul_one]
      congr 1
      apply List.ext_getElem
      · simp
      · intro i h1 h2
        simp [Nat.mod_one]
    · cases hs
end
end Go.Lg
/-
  A logical run with throws, and ranges over functions: regions whose order is open.
-/
set_option linter.unusedSimpArgs false
set_option linter.unusedVariables false
namespace Go.Lg
open Go.Tg Go.RowKit

abbrev KF := Fr → LH → Prop
def LX (P : Program) (T : Callee) (N : Nat) (all : Array Oper) (os : List Oper) (fr : Fr) (H : LH) (K : KF) : Prop := ∃ fr' H', lops P T N all os fr H = some (fr', H') ∧ K fr' H'
def LX0 (P : Program) (T : Callee) (N : Nat) (all : Array Oper) (os : List Oper) (fr : Fr) (H : LH) (K : KF) : Prop := ∃ fr' H', lops0 P T N all os fr H = some (fr', H') ∧ K fr' H'
def MX (P : Program) (L : Loud) (T : Callee) (N : Nat) (all : Array Oper) (H0 : LH) (os : List Oper) (fr : Fr) (H : LH) (K : KF) : Prop := ∃ fr' H', lmix P L T N all H0 os fr H = some (fr', H') ∧ K fr' H'
def CX (P : Program) (T : Callee) (N : Nat) (all : Array Oper) (prs : List (Nat × Nat)) (j : Nat) (old : Nat → Fr × LH) (os : List Oper) (fr : Fr) (H : LH) (K : KF) : Prop := ∃ fr' H', lchain P T N all prs j old os fr H = some (fr', H') ∧ K fr' H'
def DX (P : Program) (L : Loud) (T : Callee) (N : Nat) (x : Option (List (Nat × Nat))) (l : List Oper) (fr : Fr) (H : LH) (K : KF) : Prop :=
  match x with
  | none => MX P L T N ⟨l⟩ H l fr H K
  | some prs => CX P T N ⟨l⟩ prs 0 (fun _ => (fr, H)) l fr H K
def XS (x : Option (Value × LH)) (d N : Nat) (fr : Fr) (F : KF) : Prop := match x with | some (v, H) => d < N ∧ F (upd fr d v) H | none => False
def XS0 (x : Option (Value × LH)) (fr : Fr) (F : KF) : Prop := match x with | some (_, H) => F fr H | none => False
def XG (g : Option Bool) (x : Option (Value × LH)) (d N : Nat) (fr : Fr) (H : LH) (F : KF) : Prop := match g with | some true => XS x d N fr F | some false => d < N ∧ F (upd fr d undef) H | none => False
def XC (P : Program) (x : Option (Value × LH)) (d N : Nat) (op : Op) (all : Array Oper) (prs : List (Nat × Nat)) (j : Nat) (old : Nat → Fr × LH) (fr : Fr) (F : KF) : Prop := match x with
  | some (v, H') => d < N ∧ ckR P j op fr old v prs ∧ ckH P j all old (upd fr d v) H' prs ∧ F (upd fr d v) H'
  | none => False
def XC0 (P : Program) (x : Option (Value × LH)) (op : Op) (all : Array Oper) (prs : List (Nat × Nat)) (j : Nat) (old : Nat → Fr × LH) (fr : Fr) (F : KF) : Prop := match x with
  | some (v, H') => ckR P j op fr old v prs ∧ ckH P j all old fr H' prs ∧ F fr H'
  | none => False
def XCG (P : Program) (g : Option Bool) (x : Option (Value × LH)) (d N : Nat) (op : Op) (all : Array Oper) (prs : List (Nat × Nat)) (j : Nat) (old : Nat → Fr × LH) (fr : Fr) (H : LH) (F : KF) : Prop := match g with
  | some true => XC P x d N op all prs j old fr F
  | some false => d < N ∧ ckH P j all old (upd fr d undef) H prs ∧ F (upd fr d undef) H
  | none => False
section
variable {P : Program} {E : PEnv} {Y : Option YC} {rd : Nat} {fn : Func} {k : List Item} {fr : Fr} {H H' H0 : LH} {p : Option Code} {Q : PQ} {all : Array Oper} {os : List Oper} {d N : Nat} {op : Op} {ty : TypeId} {pos : String} {after : Array Edge} {v : Value} {T : Callee} {L : Loud} {K F : KF} {prs : List (Nat × Nat)} {j : Nat} {old : Nat → Fr × LH}
theorem pr_draw {id : Nat} {l : List Oper} : PR P E Y rd fn (.code (.region id ⟨l⟩ true) :: k) fr H p Q ↔ DX P E.pl (LC P E.E) fn.ntmps (E.pl.ch fn.ntmps id l.length) l fr H (fun fr' H' => PR P E Y rd fn k fr' H' p Q) := by
  have key : (∃ fr1 H1, ldraw P E.pl (LC P E.E) fn.ntmps id ⟨l⟩ fr H = some (fr1, H1) ∧ PR P E Y rd fn k fr1 H1 p Q) ↔ DX P E.pl (LC P E.E) fn.ntmps (E.pl.ch fn.ntmps id l.length) l fr H (fun fr' H' => PR P E Y rd fn k fr' H' p Q) := by
    unfold DX ldraw
    rw [show (⟨l⟩ : Array Oper).size = l.length from rfl]
    cases E.pl.ch fn.ntmps id l.length <;> exact Iff.rfl
  rw [← key]
  constructor
  · rintro ⟨r, H', p', h, q⟩
    cases h with
    | draw h1 h2 => exact ⟨_, _, h1, _, _, _, h2, q⟩
  · rintro ⟨fr1, H1, h1, r, H', p', h2, q⟩
    exact ⟨_, _, _, .draw h1 h2, q⟩
theorem ex_one {a b : Type} {x : a} {y : b} {K : a → b → Prop} : (∃ fr' H', (some (x, y) : Option (a × b)) = some (fr', H') ∧ K fr' H') ↔ K x y := by
  constructor
  · rintro ⟨_, _, e, h⟩
    injection e with e; injection e with e1 e2; subst e1 e2; exact h
  · exact fun h => ⟨_, _, rfl, h⟩
theorem ex_non {a b : Type} {K : a → b → Prop} : (∃ fr' H', (none : Option (a × b)) = some (fr', H') ∧ K fr' H') ↔ False := by
  constructor
  · rintro ⟨_, _, e, h⟩; cases e
  · exact False.elim
theorem lx_nil : LX P T N all [] fr H K ↔ K fr H := by unfold LX; simp only [lops]; exact ex_one
theorem lx_cons : LX P T N all (⟨some d, op, ty, pos, after, none⟩ :: os) fr H K ↔ XS (lopxB P T op fr H) d N fr (fun fr' H' => LX P T N all os fr' H' K) := by
  unfold LX XS; simp only [lops, lwant, lopB_x]
  cases lopxB P T op fr H with
  | none => exact ex_non
  | some x =>
    obtain ⟨v, H1⟩ := x
    simp only [lput]
    by_cases hd : d < N
    · simp only [hd, if_true, true_and]
    · simp only [hd, if_false, false_and]; exact ex_non
theorem lx_cons0 : LX P T N all (⟨none, op, ty, pos, after, none⟩ :: os) fr H K ↔ XS0 (lopxB P T op fr H) fr (fun fr' H' => LX P T N all os fr' H' K) := by
  unfold LX XS0; simp only [lops, lwant, lopB_x]
  cases lopxB P T op fr H with
  | none => exact ex_non
  | some x => obtain ⟨v, H1⟩ := x; simp only [lput]
theorem lx_guard {i : Nat} {want : Bool} : LX P T N all (⟨some d, op, ty, pos, after, some (i, want)⟩ :: os) fr H K ↔ XG (guardx all fr i want) (lopxB P T op fr H) d N fr H (fun fr' H' => LX P T N all os fr' H' K) := by
  unfold LX XG; simp only [lops, lwant_x, lopB_x]
  cases guardx all fr i want with
  | none => exact ex_non
  | some b =>
    cases b with
    | true =>
      unfold XS
      simp only
      cases lopxB P T op fr H with
      | none => exact ex_non
      | some x =>
        obtain ⟨v, H1⟩ := x
        simp only [lput]
        by_cases hd : d < N
        · simp only [hd, if_true, true_and]
        · simp only [hd, if_false, false_and]; exact ex_non
    | false =>
      simp only [lput]
      by_cases hd : d < N
      · simp only [hd, if_true, true_and]
      · simp only [hd, if_false, false_and]; exact ex_non
theorem lx0_nil : LX0 P T N all [] fr H K ↔ K fr H := by unfold LX0; simp only [lops0]; exact ex_one
theorem lx0_cons : LX0 P T N all (⟨some d, op, ty, pos, after, none⟩ :: os) fr H K ↔ XS (lopx P T op fr H) d N fr (fun fr' H' => LX0 P T N all os fr' H' K) := by
  unfold LX0 XS; simp only [lops0, lwant, lop_x]
  cases lopx P T op fr H with
  | none => exact ex_non
  | some x =>
    obtain ⟨v, H1⟩ := x
    simp only [lput]
    by_cases hd : d < N
    · simp only [hd, if_true, true_and]
    · simp only [hd, if_false, false_and]; exact ex_non
theorem lx0_cons0 : LX0 P T N all (⟨none, op, ty, pos, after, none⟩ :: os) fr H K ↔ XS0 (lopx P T op fr H) fr (fun fr' H' => LX0 P T N all os fr' H' K) := by
  unfold LX0 XS0; simp only [lops0, lwant, lop_x]
  cases lopx P T op fr H with
  | none => exact ex_non
  | some x => obtain ⟨v, H1⟩ := x; simp only [lput]
theorem lx0_guard {i : Nat} {want : Bool} : LX0 P T N all (⟨some d, op, ty, pos, after, some (i, want)⟩ :: os) fr H K ↔ XG (guardx all fr i want) (lopx P T op fr H) d N fr H (fun fr' H' => LX0 P T N all os fr' H' K) := by
  unfold LX0 XG; simp only [lops0, lwant_x, lop_x]
  cases guardx all fr i want with
  | none => exact ex_non
  | some b =>
    cases b with
    | true =>
      unfold XS
      simp only
      cases lopx P T op fr H with
      | none => exact ex_non
      | some x =>
        obtain ⟨v, H1⟩ := x
        simp only [lput]
        by_cases hd : d < N
        · simp only [hd, if_true, true_and]
        · simp only [hd, if_false, false_and]; exact ex_non
    | false =>
      simp only [lput]
      by_cases hd : d < N
      · simp only [hd, if_true, true_and]
      · simp only [hd, if_false, false_and]; exact ex_non
theorem mx_nil : MX P L T N all H0 [] fr H K ↔ K fr H := by unfold MX; simp only [lmix]; exact ex_one
theorem mx_cons : MX P L T N all H0 (⟨some d, op, ty, pos, after, none⟩ :: os) fr H K ↔ RSel (loudOp L op) (LX P T N all (⟨some d, op, ty, pos, after, none⟩ :: os) fr H K) (XS (lmixx P T op fr H0 H) d N fr (fun fr' H' => MX P L T N all H0 os fr' H' K)) := by
  unfold MX RSel
  cases hl : loudOp L op with
  | true => unfold LX; simp only [lmix, hl, if_true]
  | false =>
    unfold XS; simp only [lmix, hl, Bool.false_eq_true, if_false, lwant, lmixop_x]
    by_cases hd : d < N
    · simp only [if_pos hd]
      cases lmixx P T op fr H0 H with
      | none => exact ex_non
      | some x => obtain ⟨v, H1⟩ := x; simp only [hd, true_and]
    · simp only [if_neg hd]
      cases lmixx P T op fr H0 H with
      | none => exact ex_non
      | some x => obtain ⟨v, H1⟩ := x; simp only [hd, false_and]; exact ex_non
theorem mx_cons0 : MX P L T N all H0 (⟨none, op, ty, pos, after, none⟩ :: os) fr H K ↔ RSel (loudOp L op) (LX P T N all (⟨none, op, ty, pos, after, none⟩ :: os) fr H K) False := by
  unfold MX RSel
  cases hl : loudOp L op with
  | true => unfold LX; simp only [lmix, hl, if_true]
  | false => simp [lmix, hl]
theorem mx_guard {i : Nat} {want : Bool} : MX P L T N all H0 (⟨some d, op, ty, pos, after, some (i, want)⟩ :: os) fr H K ↔ RSel (loudOp L op) (LX P T N all (⟨some d, op, ty, pos, after, some (i, want)⟩ :: os) fr H K) (XG (guardx all fr i want) (lmixx P T op fr H0 H) d N fr H (fun fr' H' => MX P L T N all H0 os fr' H' K)) := by
  unfold MX RSel
  cases hl : loudOp L op with
  | true => unfold LX; simp only [lmix, hl, if_true]
  | false =>
    unfold XG; simp only [lmix, hl, Bool.false_eq_true, if_false, lwant_x, lmixop_x]
    by_cases hd : d < N
    · simp only [if_pos hd]
      cases guardx all fr i want with
      | none => exact ex_non
      | some b =>
        cases b with
        | true =>
          unfold XS
          simp only
          cases lmixx P T op fr H0 H with
          | none => exact ex_non
          | some x => obtain ⟨v, H1⟩ := x; simp only [hd, true_and]
        | false => simp only [hd, true_and]
    · simp only [if_neg hd]
      cases guardx all fr i want with
      | none => exact ex_non
      | some b =>
        cases b with
        | true =>
          unfold XS
          simp only
          cases lmixx P T op fr H0 H with
          | none => exact ex_non
          | some x => obtain ⟨v, H1⟩ := x; simp only [hd, false_and]; exact ex_non
        | false => simp only [hd, false_and]; exact ex_non
theorem cx_none : CX P T N all [] j old os fr H K ↔ LX0 P T N all os fr H K := by unfold CX LX0; rw [lchain_nil (j := j) (old := old)]
theorem cx_nil : CX P T N all prs j old [] fr H K ↔ K fr H := by unfold CX; simp only [lchain]; exact ex_one
theorem cx_cons : CX P T N all prs j old (⟨some d, op, ty, pos, after, none⟩ :: os) fr H K ↔ XC P (lopx P T op fr H) d N op all prs j old fr (fun fr' H' => CX P T N all prs (j + 1) (oldS old j (fr, H)) os fr' H' K) := by
  unfold CX XC; simp only [lchain, lwant_no]
  rw [show lopx P T op fr H = lop P T ⟨some d, op, ty, pos, after, none⟩ fr H from rfl]
  cases lop P T ⟨some d, op, ty, pos, after, none⟩ fr H with
  | none => exact ex_non
  | some x =>
    obtain ⟨v, H1⟩ := x
    simp only [lput]
    by_cases hd : d < N
    · simp only [hd, if_true, true_and]
      have e1 := ckR_iff (P := P) (op := op) (fr := fr) (old := old) (j := j) (v := v) (ty := ty) (pos := pos) (after := after) (some d) none (prs := prs)
      by_cases hc : ckR P j op fr old v prs ∧ ckH P j all old (upd fr d v) H1 prs
      · rw [if_pos (And.intro (e1.1 hc.1) (ckH_iff.1 hc.2))]
        simp only [hc, true_and]
        exact Iff.rfl
      · rw [if_neg (fun h => hc (And.intro (e1.2 (And.left h)) (ckH_iff.2 (And.right h))))]
        exact ⟨fun h => (ex_non.1 h).elim, fun ⟨h1, h2, _⟩ => absurd ⟨h1, h2⟩ hc⟩
    · simp only [hd, if_false, false_and]; exact ex_non
theorem cx_cons0 : CX P T N all prs j old (⟨none, op, ty, pos, after, none⟩ :: os) fr H K ↔ XC0 P (lopx P T op fr H) op all prs j old fr (fun fr' H' => CX P T N all prs (j + 1) (oldS old j (fr, H)) os fr' H' K) := by
  unfold CX XC0; simp only [lchain, lwant_no]
  rw [show lopx P T op fr H = lop P T ⟨none, op, ty, pos, after, none⟩ fr H from rfl]
  cases lop P T ⟨none, op, ty, pos, after, none⟩ fr H with
  | none => exact ex_non
  | some x =>
    obtain ⟨v, H1⟩ := x
    simp only [lput]
    have e1 := ckR_iff (P := P) (op := op) (fr := fr) (old := old) (j := j) (v := v) (ty := ty) (pos := pos) (after := after) none none (prs := prs)
    by_cases hc : ckR P j op fr old v prs ∧ ckH P j all old fr H1 prs
    · rw [if_pos (And.intro (e1.1 hc.1) (ckH_iff.1 hc.2))]
      simp only [hc, true_and]
      exact Iff.rfl
    · rw [if_neg (fun h => hc (And.intro (e1.2 (And.left h)) (ckH_iff.2 (And.right h))))]
      exact ⟨fun h => (ex_non.1 h).elim, fun ⟨h1, h2, _⟩ => absurd ⟨h1, h2⟩ hc⟩
theorem cx_guard {g : Nat} {want : Bool} : CX P T N all prs j old (⟨some d, op, ty, pos, after, some (g, want)⟩ :: os) fr H K ↔ XCG P (guardx all fr g want) (lopx P T op fr H) d N op all prs j old fr H (fun fr' H' => CX P T N all prs (j + 1) (oldS old j (fr, H)) os fr' H' K) := by
  unfold CX XCG; simp only [lchain, lwant_x]
  cases guardx all fr g want with
  | none => exact ex_non
  | some b =>
    cases b with
    | true =>
      simp only [XC]
      rw [show lopx P T op fr H = lop P T ⟨some d, op, ty, pos, after, some (g, want)⟩ fr H from rfl]
      cases lop P T ⟨some d, op, ty, pos, after, some (g, want)⟩ fr H with
      | none => exact ex_non
      | some x =>
        obtain ⟨v, H1⟩ := x
        simp only [lput]
        by_cases hd : d < N
        · simp only [hd, if_true, true_and]
          have e1 := ckR_iff (P := P) (op := op) (fr := fr) (old := old) (j := j) (v := v) (ty := ty) (pos := pos) (after := after) (some d) (some (g, want)) (prs := prs)
          by_cases hc : ckR P j op fr old v prs ∧ ckH P j all old (upd fr d v) H1 prs
          · rw [if_pos (And.intro (e1.1 hc.1) (ckH_iff.1 hc.2))]
            simp only [hc, true_and]
            exact Iff.rfl
          · rw [if_neg (fun h => hc (And.intro (e1.2 (And.left h)) (ckH_iff.2 (And.right h))))]
            exact ⟨fun h => (ex_non.1 h).elim, fun ⟨h1, h2, _⟩ => absurd ⟨h1, h2⟩ hc⟩
        · simp only [hd, if_false, false_and]; exact ex_non
    | false =>
      simp only [lput]
      by_cases hd : d < N
      · simp only [hd, if_true, true_and]
        by_cases hc : ckH P j all old (upd fr d undef) H prs
        · rw [if_pos (ckH_iff.1 hc)]
          simp only [hc, true_and]
          exact Iff.rfl
        · rw [if_neg (fun h => hc (ckH_iff.2 h))]
          exact ⟨fun h => (ex_non.1 h).elim, fun ⟨h1, _⟩ => absurd h1 hc⟩
      · simp only [hd, if_false, false_and]; exact ex_non
theorem dx_none {l : List Oper} : DX P L T N none l fr H K ↔ MX P L T N ⟨l⟩ H l fr H K := Iff.rfl
theorem dx_some {l : List Oper} : DX P L T N (some prs) l fr H K ↔ CX P T N ⟨l⟩ prs 0 (fun _ => (fr, H)) l fr H K := Iff.rfl
attribute [simp ↓] pr_draw dx_none dx_some lx_nil lx_cons lx_cons0 lx_guard lx0_nil lx0_cons lx0_cons0 lx0_guard mx_nil mx_cons mx_cons0 mx_guard cx_none cx_nil cx_cons cx_cons0 cx_guard
@[congr] theorem dx_congr {x y : Option (List (Nat × Nat))} {l : List Oper} (h : x = y) : DX P L T N x l fr H K = DX P L T N y l fr H K := by rw [h]
@[congr] theorem xs_congr {x y : Option (Value × LH)} (h : x = y) : XS x d N fr F = XS y d N fr F := by rw [h]
@[congr] theorem xs0_congr {x y : Option (Value × LH)} (h : x = y) : XS0 x fr F = XS0 y fr F := by rw [h]
@[congr] theorem xg_congr {g g' : Option Bool} {x : Option (Value × LH)} (h : g = g') : XG g x d N fr H F = XG g' x d N fr H F := by rw [h]
@[congr] theorem xc_congr {x y : Option (Value × LH)} (h : x = y) : XC P x d N op all prs j old fr F = XC P y d N op all prs j old fr F := by rw [h]
@[congr] theorem xc0_congr {x y : Option (Value × LH)} (h : x = y) : XC0 P x op all prs j old fr F = XC0 P y op all prs j old fr F := by rw [h]
@[congr] theorem xcg_congr {g g' : Option Bool} {x : Option (Value × LH)} (h : g = g') : XCG P g x d N op all prs j old fr H F = XCG P g' x d N op all prs j old fr H F := by rw [h]
@[simp] theorem xs_some : XS (some (v, H)) d N fr F ↔ d < N ∧ F (upd fr d v) H := Iff.rfl
@[simp] theorem xs_none : XS none d N fr F ↔ False := Iff.rfl
@[simp] theorem xs0_some : XS0 (some (v, H)) fr F ↔ F fr H := Iff.rfl
@[simp] theorem xs0_none : XS0 none fr F ↔ False := Iff.rfl
@[simp] theorem xg_true {x : Option (Value × LH)} : XG (some true) x d N fr H F ↔ XS x d N fr F := Iff.rfl
@[simp] theorem xg_false {x : Option (Value × LH)} : XG (some false) x d N fr H F ↔ d < N ∧ F (upd fr d undef) H := Iff.rfl
@[simp] theorem xc_some : XC P (some (v, H)) d N op all prs j old fr F ↔ d < N ∧ ckR P j op fr old v prs ∧ ckH P j all old (upd fr d v) H prs ∧ F (upd fr d v) H := Iff.rfl
@[simp] theorem xc_none : XC P none d N op all prs j old fr F ↔ False := Iff.rfl
@[simp] theorem xc0_some : XC0 P (some (v, H)) op all prs j old fr F ↔ ckR P j op fr old v prs ∧ ckH P j all old fr H prs ∧ F fr H := Iff.rfl
@[simp] theorem xc0_none : XC0 P none op all prs j old fr F ↔ False := Iff.rfl
@[simp] theorem xcg_true {x : Option (Value × LH)} : XCG P (some true) x d N op all prs j old fr H F ↔ XC P x d N op all prs j old fr F := Iff.rfl
@[simp] theorem xcg_false {x : Option (Value × LH)} : XCG P (some false) x d N op all prs j old fr H F ↔ d < N ∧ ckH P j all old (upd fr d undef) H prs ∧ F (upd fr d undef) H := Iff.rfl
end
end Go.Lg
/-
  A logical run of Go code: a whole world as a logical heap that is only read: arguments of any shape.
-/
set_option linter.unusedSimpArgs false
set_option linter.unusedVariables false
namespace Go.Lg
open Go.Tg Go.RowKit

def lift1 (n : Nat) : Value → Value
  | .pointer (some ⟨l, o, none⟩) => if l < n then .pointer (some ⟨l, o, none⟩) else unk
  | .slice (some ⟨l, o, none⟩) k c => if l < n ∧ k ≤ c then .slice (some ⟨l, o, none⟩) k c else if k = 0 ∧ c = 0 ∧ 0 < n then .slice (some ⟨0, 0, none⟩) 0 0 else unk
  | .slice (some ⟨_, _, some _⟩) k c => if k = 0 ∧ c = 0 ∧ 0 < n then .slice (some ⟨0, 0, none⟩) 0 0 else unk
  | v => if atomB v then v else unk
def liftV (n : Nat) : Value → Value
  | .agg cs => .agg (cs.map (lift1 n))
  | v => lift1 n v
def liftB (n : Nat) : Option Obj → Option LB
  | some (.cells arr t _) => some ⟨arr.toList.map (lift1 n), t, false⟩
  | _ => none
/-- the world w as a logical heap -/
def LH.lift (w : World) (g : Nat) : LH := ⟨w.heap.size, fun l => liftB w.heap.size w.heap[l]?, fun _ => False, w, g⟩
def renI : Ren := fun l => ⟨l, 0, 0⟩
theorem atom_flat {v : Value} (h : atomB v = true) : flatB v = true := by
  cases v <;> first | exact h | (simp [atomB] at h)
section
variable {P : Program} {E : Ext} {H H' : LH} {w w' : World} {v v' : Value} {g : Nat}
theorem lift_D {l : Nat} : (LH.lift w g).D l ↔ l < w.heap.size := ⟨fun h => h.1, fun h => ⟨h, fun h => h⟩⟩
theorem lift1_vr (v : Value) : VR (LH.lift w g).D renI (lift1 w.heap.size v) v := by
  unfold lift1
  split
  · rename_i l o
    split
    · have := VR.ptr (n := (LH.lift w g).D) (ι := renI) l o (lift_D.2 ‹_›)
      simpa [renI] using this
    · exact .any _
  · rename_i l o k c
    split
    · rename_i h
      have := VR.slice (n := (LH.lift w g).D) (ι := renI) l o k c (lift_D.2 h.1) h.2
      simpa [renI] using this
    · split
      · rename_i h; obtain ⟨rfl, rfl, h⟩ := h; exact .slice0 0 0 _ (lift_D.2 h)
      · exact .any _
  · split
    · rename_i h; obtain ⟨rfl, rfl, h⟩ := h; exact .slice0 0 0 _ (lift_D.2 h)
    · exact .any _
  · split
    · exact .flat _ (atom_flat ‹_›)
    · exact .any _
theorem liftV_vr (v : Value) : VR (LH.lift w g).D renI (liftV w.heap.size v) v := by
  unfold liftV
  split
  · refine .agg _ _ (by simp) (fun i x y hx hy => ?_)
    rw [Array.getElem?_map, hy] at hx
    simp only [Option.map_some, Option.some.injEq] at hx
    subst hx
    exact lift1_vr y
  · exact lift1_vr _
theorem rel_lift (hg : g ≤ w.heap.size) : Rel P (LH.lift w g) renI w := by
  have hno : ∀ k, ¬ RW (LH.lift w g) renI k := by
    rintro k ⟨l, b, hb, hr, _⟩
    have hb' : liftB w.heap.size w.heap[l]? = some b := hb
    unfold liftB at hb'
    split at hb'
    · simp only [Option.some.injEq] at hb'; subst hb'; cases hr
    · cases hb'
  refine ⟨fun l hl => ?_, fun _ h => h.elim, fun l b hb => ?_, fun l l' b b' hb _ hr => ?_, fun k hk => ⟨rfl, Nat.lt_of_lt_of_le hk hg, hno k⟩⟩
  · show liftB _ _ = none
    rw [Array.getElem?_eq_none hl]; rfl
  · have hb' : liftB w.heap.size w.heap[l]? = some b := hb
    unfold liftB at hb'
    split at hb'
    · rename_i arr t fr hw
      simp only [Option.some.injEq] at hb'
      subst hb'
      refine ⟨arr, t, fr, hw, by simp [renI], fun i x hx => ?_, fun h => by cases h⟩
      simp only [List.getElem?_map, Option.map_eq_some_iff] at hx
      obtain ⟨y, hy, rfl⟩ := hx
      exact ⟨y, by simpa [renI] using hy, lift1_vr y⟩
    · cases hb'
  · exact absurd ⟨l, b, hb, hr, rfl⟩ (hno (renI l).blk)
/-- a law of arguments of any shape -/
theorem law_lift {f : FuncId} {args : Array Value} {ng : Nat} (hT : TOk P (LC P E)) (hng : ng ≤ w.heap.size) (h : LC P E f (args.toList.map (liftV w.heap.size)) (LH.lift w ng) = some (.bool true, H')) (he : Entered P f := by exact ⟨_, rfl, rfl, by decide⟩) :
    Calls P f args w fun e w' => e = .returned (.bool true) ∧ Change (fun _ => False) w w' := by
  have hc := (hT _ _ _ _ _ h).call he
  refine (hc renI w args (rel_lift hng) (by simp) (fun i x y hx hy => ?_)).mono ?_
  · rw [List.getElem?_map, Array.getElem?_toList] at hx
    rw [hy] at hx
    simp only [Option.map_some, Option.some.injEq] at hx
    subst hx
    exact liftV_vr y
  · rintro e w' ⟨ι', v', rfl, ho, hv⟩
    rw [flat_eq hv rfl]
    refine ⟨rfl, ho.chg.mono ?_⟩
    rintro k - ⟨l, b, hb, hr, _⟩
    have hb' : liftB w.heap.size w.heap[l]? = some b := hb
    unfold liftB at hb'
    split at hb'
    · simp only [Option.some.injEq] at hb'; subst hb'; cases hr
    · cases hb'
theorem lift_flat {v : Value} (h : atomB v = true) (n : Nat) : lift1 n v = v := by
  unfold lift1
  split
  · simp [atomB] at h
  · simp [atomB] at h
  · simp [atomB] at h
  · rw [if_pos h]
@[simp] theorem lift_str {n : Nat} {s : ByteArray} : lift1 n (.string s) = .string s := rfl
@[simp] theorem lift_int {n : Nat} {k : IntKind} {i : Int} : lift1 n (.int k i) = .int k i := rfl
@[simp] theorem lift_bool {n : Nat} {b : Bool} : lift1 n (.bool b) = .bool b := rfl
/-- v is a row of elements of s cells each -/
def RowOf {α : Type} (H : LH) (s : Nat) (El : α → List Value → Prop) (v : Value) (xs : List α) : Prop :=
  (v = .slice none 0 0 ∧ xs = []) ∨ ∃ l o c, v = .slice (some ⟨l, o, none⟩) xs.length c ∧ xs.length ≤ c ∧ l < H.n ∧ (xs ≠ [] → ∃ b, H.get l = some b ∧ o + xs.length * s ≤ b.cells.length ∧ ∀ i x, xs[i]? = some x → El x ((b.cells.drop (o + i * s)).take s))
variable {HH : Type} {enc : TypeId × Value → HH}
theorem cells_lift {a : Addr} {k : Nat} {cs : List Value} {b0 : Nat} (hk : 0 < k) (h : w.cells? b0 a k = some cs) : ∃ l o arr t f, a = ⟨l, o, none⟩ ∧ w.heap[l]? = some (.cells arr t f) ∧ cs = (arr.toList.drop o).take k ∧ o + k ≤ arr.size := by
  unfold World.cells? at h
  split at h
  · have hlen : cs.length = k := by simpa using Lib.mapM_length h
    have hi : ∀ i, i < k → cs[i]? = w.cell? (a.add i) := fun i hi => mapM_get h i i (by simp [hi])
    have e0 := hi 0 hk
    have hsome : ∀ i, i < k → ∃ x, cs[i]? = some x := fun i hi => ⟨_, List.getElem?_eq_getElem (by omega)⟩
    obtain ⟨x0, hx0⟩ := hsome 0 hk
    obtain ⟨l, o, sp⟩ := a
    rw [hx0] at e0
    simp only [Addr.add, if_pos, World.cell?] at e0
    split at e0
    · rename_i arr t f hw
      split at e0
      · cases e0
      · rename_i hsp
        have hsp' : sp = none := by cases sp with | none => rfl | some x => simp at hsp
        subst hsp'
        have hc : ∀ i, i < k → cs[i]? = arr[o + i]? := fun i h2 => by
          rw [hi i h2]
          unfold Addr.add
          split
          · rename_i h0; subst h0; simp [World.cell?, hw]
          · simp [World.cell?, hw]
        have hsz : o + k ≤ arr.size := by
          obtain ⟨x, hx⟩ := hsome (k - 1) (by omega)
          rw [hc (k - 1) (by omega)] at hx
          have := (Array.getElem?_eq_some_iff.1 hx).1
          omega
        refine ⟨l, o, arr, t, f, rfl, hw, ?_, hsz⟩
        apply List.ext_getElem?
        intro i
        rw [List.getElem?_take]
        split
        · rename_i h2; rw [hc i h2, List.getElem?_drop]; simp
        · rw [List.getElem?_eq_none (by omega)]
    · cases e0
  · cases h
theorem lift_block {l : Nat} {arr : Array Value} {t : TypeId} {f : Nat × Nat} (h : w.heap[l]? = some (.cells arr t f)) : (LH.lift w g).get l = some ⟨arr.toList.map (lift1 w.heap.size), t, false⟩ := by
  show liftB _ _ = _
  rw [h]; rfl
/-- a slice among arguments -/
theorem row_of_trod {α : Type} {El : α → List Value → Prop} {t e : TypeId} {base fuel s : Nat} {held : Bool} {cs : List Value} {x : DataW HH × List MemPlace} (ht : P.underlying t = some (.slice e)) (hs : P.cellsOf e = s) (h0 : 0 < s) (hw0 : 0 < w.heap.size)
    (hel : ∀ fuel cs y, DataW.trod enc P w base (fun _ => true) held fuel e cs = some y → ∃ a, El a (cs.map (lift1 w.heap.size)))
    (h : DataW.trod enc P w base (fun _ => true) held fuel t cs = some x) : ∃ v xs, cs = [v] ∧ RowOf (LH.lift w g) s El (lift1 w.heap.size v) xs ∧ xs.length ≤ maxLen := by
  rcases DataW.trod_slice ht h with ⟨rfl, rfl⟩ | ⟨a, len, cap, elems, rest, n, _, rfl, rfl, _, hl, hm, hlen, hat, hrest, _⟩
  · exact ⟨_, [], rfl, .inl ⟨rfl, rfl⟩, Nat.zero_le _⟩
  · rw [hs] at hat hrest
    obtain ⟨hr1, hr2⟩ := hrest rfl
    have hcell : ∀ i, i < len → ∃ cs' y, w.cells? base (a.add (i * s)) s = some cs' ∧ DataW.trod enc P w base (fun _ => true) held n e cs' = some y := fun i hi => by
      have := hat i hi
      rw [List.getElem?_eq_getElem (by omega)] at this
      obtain ⟨cs', h1, h2⟩ := Option.bind_eq_some_iff.1 this
      exact ⟨cs', _, h1, h2⟩
    have hmem : ∀ i, i < cap → ∃ cs', w.cells? base (a.add (i * s)) s = some cs' := fun i hi => by
      rcases Nat.lt_or_ge i len with h1 | h1
      · obtain ⟨cs', _, h, _⟩ := hcell i h1; exact ⟨cs', h⟩
      · have := hr2 (i - len) (by omega)
        rw [List.getElem?_eq_getElem (by omega), show len + (i - len) = i by omega] at this
        obtain ⟨cs', h1, h2⟩ := Option.bind_eq_some_iff.1 this
        exact ⟨cs', h1⟩
    have hex : ∀ i : Fin len, ∃ x : α, ∀ cs', w.cells? base (a.add (i.1 * s)) s = some cs' → El x (cs'.map (lift1 w.heap.size)) := fun i => by
      obtain ⟨cs', y, h1, h2⟩ := hcell i.1 i.2
      obtain ⟨x, hx⟩ := hel n cs' y h2
      exact ⟨x, fun cs2 h3 => by rw [h1] at h3; injection h3 with h3; subst h3; exact hx⟩
    refine ⟨_, List.ofFn (fun i => Classical.choose (hex i)), rfl, ?_, by simp; omega⟩
    rcases Nat.eq_zero_or_pos cap with hc | hc
    · subst hc
      obtain rfl : len = 0 := by omega
      refine .inr ?_
      have : ∃ l o, lift1 w.heap.size (.slice (some a) 0 0) = .slice (some ⟨l, o, none⟩) 0 0 ∧ l < w.heap.size := by
        obtain ⟨l, o, sp⟩ := a
        cases sp with
        | none =>
          simp only [lift1]
          split
          · exact ⟨l, o, rfl, And.left ‹_›⟩
          · rw [if_pos (by simp [hw0])]; exact ⟨0, 0, rfl, hw0⟩
        | some q => simp only [lift1]; rw [if_pos (by simp [hw0])]; exact ⟨0, 0, rfl, hw0⟩
      obtain ⟨l, o, e1, h1⟩ := this
      exact ⟨l, o, 0, by simpa using e1, by simp, h1, fun hne => by simp at hne⟩
    · obtain ⟨cs0, h00⟩ := hmem 0 hc
      rw [Nat.zero_mul, show a.add 0 = a from rfl] at h00
      obtain ⟨l, o, arr, t, f, rfl, hw, _, _⟩ := cells_lift h0 h00
      have hlt : l < w.heap.size := (Array.getElem?_eq_some_iff.1 hw).1
      refine .inr ⟨l, o, cap, by simp [lift1, hlt, hl], by simpa using hl, hlt, fun hne => ⟨_, lift_block hw, ?_, fun i y hy => ?_⟩⟩
      · have hlen0 : 0 < len := by
          rcases Nat.eq_zero_or_pos len with h1 | h1
          · subst h1; simp at hne
          · exact h1
        obtain ⟨cs', y, h1, _⟩ := hcell (len - 1) (by omega)
        obtain ⟨l', o', arr', t', f', ea, hw', _, hsz⟩ := cells_lift h0 h1
        have : l' = l ∧ o' = o + (len - 1) * s := by
          unfold Addr.add at ea
          split at ea
          · rename_i hz; injection ea with e1 e2; exact ⟨e1.symm, by omega⟩
          · injection ea with e1 e2; exact ⟨e1.symm, e2.symm⟩
        obtain ⟨rfl, rfl⟩ := this
        rw [hw] at hw'
        injection hw' with hw'
        injection hw' with e1
        subst e1
        have e2 : len * s = (len - 1) * s + s := by
          obtain ⟨m, rfl⟩ : ∃ m, len = m + 1 := ⟨len - 1, by omega⟩
          rw [Nat.add_sub_cancel, Nat.succ_mul]
        simp; omega
      · have hi : i < len := by have := (List.getElem?_eq_some_iff.1 hy).1; simpa using this
        obtain ⟨cs', y', h1, _⟩ := hcell i hi
        have hch := Classical.choose_spec (hex ⟨i, hi⟩) cs' h1
        have hy' : y = Classical.choose (hex ⟨i, hi⟩) := by
          rw [List.getElem?_ofFn] at hy
          simpa [hi] using hy.symm
        rw [hy']
        obtain ⟨l', o', arr', t', f', ea, hw', hcs, hsz⟩ := cells_lift h0 h1
        have : l' = l ∧ o' = o + i * s := by
          unfold Addr.add at ea
          split at ea
          · rename_i hz; injection ea with e1 e2; exact ⟨e1.symm, by omega⟩
          · injection ea with e1 e2; exact ⟨e1.symm, e2.symm⟩
        obtain ⟨rfl, rfl⟩ := this
        rw [hw] at hw'
        injection hw' with hw'
        injection hw' with e1
        subst e1
        subst hcs
        rw [List.map_take, List.map_drop] at hch
        exact hch
/-- strings among arguments -/
theorem str_of_trod {t : TypeId} {base fuel : Nat} {sp : Nat → Bool} {held : Bool} {cs : List Value} {x : DataW HH × List MemPlace} (ht : P.underlying t = some .string) (h : DataW.trod enc P w base sp held fuel t cs = some x) :
    ∃ s : List UInt8, cs = [str s] ∧ s.length ≤ maxLen := by
  obtain ⟨s', rfl, hx, hs⟩ := DataW.trod_string ht h
  exact ⟨s'.data.toList, by rw [str_ba], by simpa using hs⟩
end
end Go.Lg
/-
  Ranges over functions, and laws, over the logical run with throws.
-/
set_option linter.unusedSimpArgs false
set_option linter.unusedVariables false
namespace Go.Lg
open Go.Tg Go.RowKit
section
variable {P : Program} {E : PEnv} {Y : Option YC} {rd : Nat} {fn : Func} {k : List Item} {fr : Fr} {H H' H0 : LH} {p : Option Code} {Q : PQ} {w : World}
theorem pr_rangeF {x : Operand} {params : Array Tmp} {assign body : Code} {g : FuncId} {caps : Array Value} {gfn : Func} {gc : Code} (hx : ev fr x = .func (.func g) #[] caps) (hf : fnOk P E g gfn gc (tok H.n :: caps.toList))
    (h : PR P E (some ⟨H.n, fn, fr, params.toList, assign, body⟩) 0 gfn [.code gc] (enter (tok H.n :: caps.toList)) H.dead none (fun r H1 p1 => (∃ v, r = .ret v) ∧ PR P E Y rd fn ((p1.map Item.code).toList ++ k) fr H1 p Q)) : PR P E Y rd fn (.code (.rangeFunc x params assign body) :: k) fr H p Q := by
  obtain ⟨r, H1, p1, h1, ⟨v, rfl⟩, r2, H2, p2, h2, q⟩ := h
  exact ⟨_, _, _, .rangeF hx hf h1 h2, q⟩
theorem pr_rangeE {x : Operand} {params : Array Tmp} {assign body : Code} {g : FuncId} {caps : Array Value} {gfn : Func} (hx : ev fr x = .func (.func g) #[] caps)
    (h : ∃ gc, fnOk P E g gfn gc (tok H.n :: caps.toList) ∧ PR P E (some ⟨H.n, fn, fr, params.toList, assign, body⟩) 0 gfn [.code gc] (enter (tok H.n :: caps.toList)) H.dead none (fun r H1 p1 => (∃ v, r = .ret v) ∧ PR P E Y rd fn ((p1.map Item.code).toList ++ k) fr H1 p Q)) : PR P E Y rd fn (.code (.rangeFunc x params assign body) :: k) fr H p Q := by
  obtain ⟨gc, hf, h⟩ := h
  exact pr_rangeF hx hf h
theorem pr_begin (h : PR P E none 2 fn k fr H none (fun r H' p' => p' = none ∧ Q r H' none)) : PR P E none 1 fn (.beginRound :: k) fr H none Q := by
  obtain ⟨r, H', p', h, rfl, q⟩ := h
  exact ⟨_, _, _, .beg h, q⟩
theorem round_of {Post : Option Code → LH → Prop} (h : PR P E none 1 fn k fr H none (fun r H1 p' => p' = none ∧ ∃ j, r = .jump j ∧ Post j H1)) : ∃ j H1, R P E (.run none 1 fn k fr H none (.jump j) H1 none) ∧ Post j H1 := by
  obtain ⟨r, H', p', h, rfl, j, rfl, q⟩ := h
  exact ⟨_, _, h, q⟩
theorem pr_mono {Q' : PQ} (h : PR P E Y rd fn k fr H p Q) (hq : ∀ r H' p', Q r H' p' → Q' r H' p') : PR P E Y rd fn k fr H p Q' := by
  obtain ⟨r, H', p', h1, q⟩ := h
  exact ⟨r, H', p', h1, hq _ _ _ q⟩
/-- a law of arguments of any shape -/
theorem law_liftR {f : FuncId} {args : Array Value} {ng : Nat} (hng : ng ≤ w.heap.size) (h : Sound P E (.call f (args.toList.map (liftV w.heap.size)) (LH.lift w ng) (.ret (.bool true)) H')) :
    Calls P f args w fun e w' => e = .returned (.bool true) ∧ Change (fun _ => False) w w' := by
  obtain ⟨he, hc⟩ := h
  refine (hc renI w args (rel_lift hng) (by simp) (fun i x y hx hy => ?_)).mono ?_
  · rw [List.getElem?_map, Array.getElem?_toList] at hx
    rw [hy] at hx
    simp only [Option.map_some, Option.some.injEq] at hx
    subst hx
    exact liftV_vr y
  · rintro e w' ⟨ι', ⟨v', rfl, hv⟩, ho⟩
    rw [flat_eq hv rfl]
    refine ⟨rfl, ho.chg.mono ?_⟩
    rintro k - ⟨l, b, hb, hr, _⟩
    have hb' : liftB w.heap.size w.heap[l]? = some b := hb
    unfold liftB at hb'
    split at hb'
    · simp only [Option.some.injEq] at hb'; subst hb'; cases hr
    · cases hb'
@[simp] theorem lopx_mkf0 {T : Callee} {f : FuncId} {c : List Operand} : lopx P T (.makeFunc (.func f) #[] ⟨c⟩) fr H = some (.func (.func f) #[] ⟨c.map (ev fr)⟩, H) := by
  show (if (#[] : Array Operand).size = 0 then some (Value.func (.func f) #[] (Array.map (ev fr) ⟨c⟩), H) else none) = _
  simp
@[simp] theorem lcallee_caps {T : Callee} {g : FuncId} {a : Value} {c args : List Value} : lcallee P T (.func (.func g) #[] ⟨a :: c⟩) args H = T g (args ++ a :: c) H := rfl
theorem trunc_no {v : Value} (h : flatB v = false) : trunc H (v, H') = (v, H') := by
  rcases trunc_or v H H' with e | ⟨_, e, _⟩
  · exact e
  · rw [h] at e; cases e
end
end Go.Lg
/-
  Layer 22 (header): headers, in plain words.
-/
set_option linter.unusedSimpArgs false
set_option linter.unusedVariables false
namespace Tg.Hd
open Go.Lg (str)
abbrev Hdr := List UInt8 × List UInt8
def white (b : UInt8) : Bool := ([9, 10, 13, 32] : List UInt8).contains b
def trimE (s : List UInt8) : List UInt8 := (s.reverse.dropWhile white).reverse
def trim (s : List UInt8) : List UInt8 := (trimE s).dropWhile white
def signs : List UInt8 := [33, 35, 36, 37, 38, 39, 42, 43, 45, 46, 94, 95, 124, 126, 96]
def isL (b : UInt8) : Bool := (decide ((97 : Int) ≤ b.toNat) && decide ((b.toNat : Int) ≤ 122)) || (decide ((65 : Int) ≤ b.toNat) && decide ((b.toNat : Int) ≤ 90))
def isD (b : UInt8) : Bool := decide ((48 : Int) ≤ b.toNat) && decide ((b.toNat : Int) ≤ 57)
def tok (b : UInt8) : Bool := isL b || isD b || signs.contains b
def free (of s : List UInt8) : Bool := s.all fun b => !of.contains b
def fine (h : Hdr) : Bool := decide (h.1 ≠ []) && h.1.all tok && decide (trim h.2 = h.2) && free [0, 13, 10] h.2 && decide (h.2.length ≤ 8192)
def good (l : List Hdr) : Bool := decide (l.length ≤ 100) && l.all fine
/-- a list's cells -/
def cells (l : List Hdr) : List Go.Value := l.flatMap fun h => [str h.1, str h.2]
theorem cells_nil : cells [] = [] := rfl
theorem cells_cons (h : Hdr) (l : List Hdr) : cells (h :: l) = str h.1 :: str h.2 :: cells l := rfl
theorem cells_app (a b : List Hdr) : cells (a ++ b) = cells a ++ cells b := List.flatMap_append
theorem cells_len : ∀ l : List Hdr, (cells l).length = l.length * 2
  | [] => rfl
  | h :: l => by rw [cells_cons]; simp [cells_len l]; omega
theorem cells_at : ∀ {l : List Hdr} {i : Nat} (h : i < l.length) (r : List Go.Value), ((cells l ++ r).drop (i * 2)).take 2 = [str l[i].1, str l[i].2] ∧ (cells l ++ r)[i * 2]? = some (str l[i].1) ∧ (cells l ++ r)[i * 2 + 1]? = some (str l[i].2)
  | [], i, h, _ => by simp at h
  | x :: l, 0, h, r => by rw [cells_cons]; exact ⟨rfl, rfl, rfl⟩
  | x :: l, i + 1, h, r => by
    have ih := cells_at (l := l) (i := i) (by simpa using h) r
    rw [cells_cons, show (i + 1) * 2 = i * 2 + 2 by omega]
    exact ih
/-- texts between feeds -/
def lines : List UInt8 → List (List UInt8)
  | [] => [[]]
  | b :: r => if b = 10 then [] :: lines r else match lines r with
    | [] => [[b]]
    | p :: l => (b :: p) :: l
def stripR (t : List UInt8) : List UInt8 := if t.getLast? = some 13 then t.dropLast else t
def upto (c : UInt8) (t : List UInt8) : Nat := (t.takeWhile fun b => !(b == c)).length
def lineP (t : List UInt8) : Option Hdr :=
  if t.contains 58 then
    let h : Hdr := (t.take (upto 58 t), trim (t.drop (upto 58 t + 1)))
    if fine h then some h else none
  else none
def rows : List (List UInt8) → Nat → List Hdr → List Hdr × Int × Int
  | [], _, acc => if 100 < acc.length then ([], 0, 6) else (acc, 0, 0)
  | t :: l, n, acc => if stripR t = [] then rows l (n + 1) acc else match lineP (stripR t) with
    | none => ([], ((n + 1 : Nat) : Int), 2)
    | some h => rows l (n + 1) (acc ++ [h])
def parse (s : List UInt8) : List Hdr × Int × Int := rows (lines s) 0 []
def text (l : List Hdr) : List UInt8 := l.flatMap fun h => h.1 ++ [58, 32] ++ h.2 ++ [13, 10]
def few (l : List Hdr) (n : Nat) : List Hdr := (l.take n).map fun h => (h.1.take 30, h.2.take 100)
def same (a b : List UInt8) : Bool := decide (a.map Tg.Lo.low = b.map Tg.Lo.low)
end Tg.Hd
/-
  Layer 22 (header): good headers come back from their text; in plain words.
-/
set_option linter.unusedSimpArgs false
set_option linter.unusedVariables false
namespace Tg.Hd
theorem lines_ne (s : List UInt8) : lines s ≠ [] := by
  cases s with
  | nil => simp [lines]
  | cons b r =>
    unfold lines
    split
    · simp
    · split <;> simp
theorem lines_one : ∀ (w : List UInt8), (∀ b ∈ w, b ≠ 10) → lines w = [w]
  | [], _ => rfl
  | b :: w, h => by
    unfold lines
    rw [if_neg (h b (by simp)), lines_one w (fun c hc => h c (by simp [hc]))]
theorem lines_cut : ∀ (w r : List UInt8), (∀ b ∈ w, b ≠ 10) → lines (w ++ 10 :: r) = w :: lines r
  | [], r, _ => by
    show lines (10 :: r) = _
    conv => lhs; unfold lines
    rw [if_pos rfl]
  | b :: w, r, h => by
    show lines (b :: (w ++ 10 :: r)) = _
    conv => lhs; unfold lines
    rw [if_neg (h b (by simp)), lines_cut w r (fun c hc => h c (by simp [hc]))]
theorem trim_fix {s : List UInt8} (h : trim s = s) : trimE s = s ∧ s.dropWhile white = s := by
  have h1 : (trim s).length ≤ (trimE s).length := (List.dropWhile_suffix _).length_le
  have h2 : trimE s <+: s := List.reverse_suffix.mp (by unfold trimE; rw [List.reverse_reverse]; exact List.dropWhile_suffix _)
  have h3 : trimE s = s := h2.eq_of_length_le (by rw [h] at h1; exact h1)
  refine ⟨h3, ?_⟩
  unfold trim at h
  rw [h3] at h
  exact h
theorem dw_cons {c : UInt8} {r : List UInt8} (h : (c :: r).dropWhile white = c :: r) : white c = false := by
  rw [List.dropWhile_cons] at h
  cases hc : white c with
  | false => rfl
  | true =>
    rw [hc, if_pos rfl] at h
    have := (List.dropWhile_suffix (l := r) white).length_le
    rw [h] at this
    simp at this; omega
theorem trim_blank {s : List UInt8} (h : trim s = s) : trim (32 :: s) = s := by
  obtain ⟨h1, h2⟩ := trim_fix h
  cases hr : s.reverse with
  | nil =>
    have : s = [] := by rw [← List.reverse_reverse s, hr]; rfl
    subst this; decide
  | cons c r =>
    have h3 : s.reverse.dropWhile white = s.reverse := by
      unfold trimE at h1
      rw [← List.reverse_reverse (s.reverse.dropWhile white), h1]
    rw [hr] at h3
    have hc := dw_cons h3
    unfold trim trimE
    rw [List.reverse_cons, hr, List.cons_append, List.dropWhile_cons, if_neg (by rw [hc]; decide), ← List.cons_append, List.reverse_append, ← hr, List.reverse_reverse]
    show (32 :: s).dropWhile white = s
    rw [List.dropWhile_cons, if_pos (by decide), h2]
theorem tok_F : ∀ k : Fin 256, tok (UInt8.ofNat k.1) = true → (UInt8.ofNat k.1) ≠ 58 ∧ (UInt8.ofNat k.1) ≠ 10 := by decide +kernel
theorem tok_b {b : UInt8} (h : tok b = true) : b ≠ 58 ∧ b ≠ 10 := by
  have := tok_F ⟨b.toNat, b.toNat_lt⟩
  rw [show UInt8.ofNat b.toNat = b from UInt8.ofNat_toNat] at this
  exact this h
structure FineP (h : Hdr) : Prop where
  ne : h.1 ≠ []
  tok : ∀ b ∈ h.1, tok b = true
  trim : trim h.2 = h.2
  free : ∀ b ∈ h.2, b ≠ 0 ∧ b ≠ 13 ∧ b ≠ 10
  len : h.2.length ≤ 8192
theorem fine_p {h : Hdr} (hf : fine h = true) : FineP h := by
  unfold fine at hf
  simp only [Bool.and_eq_true, decide_eq_true_eq] at hf
  obtain ⟨⟨⟨⟨h1, h2⟩, h3⟩, h4⟩, h5⟩ := hf
  refine ⟨h1, List.all_eq_true.mp h2, h3, fun b hb => ?_, h5⟩
  have := List.all_eq_true.mp h4 b hb
  simp at this
  exact this
theorem upto_at {a r : List UInt8} (h : ∀ b ∈ a, b ≠ 58) : upto 58 (a ++ 58 :: r) = a.length := by
  unfold upto
  induction a with
  | nil => simp
  | cons x a ih =>
    rw [List.cons_append, List.takeWhile_cons, if_pos (by simp [h x (by simp)]), List.length_cons, ih (fun b hb => h b (by simp [hb])), List.length_cons]
theorem line_back {h : Hdr} (hf : fine h = true) : stripR (h.1 ++ 58 :: 32 :: (h.2 ++ [13])) = h.1 ++ 58 :: 32 :: h.2 ∧ lineP (h.1 ++ 58 :: 32 :: h.2) = some h ∧ ∀ b ∈ h.1 ++ 58 :: 32 :: (h.2 ++ [13]), b ≠ 10 := by
  have g := fine_p hf
  have hu := upto_at (a := h.1) (r := 32 :: h.2) (fun b hb => (tok_b (g.tok b hb)).1)
  have e1 : (h.1 ++ 58 :: 32 :: h.2).drop (h.1.length + 1) = 32 :: h.2 := by
    have : (h.1 ++ 58 :: 32 :: h.2).drop (h.1.length + 1) = ((h.1 ++ 58 :: 32 :: h.2).drop h.1.length).drop 1 := by rw [List.drop_drop]
    rw [this, List.drop_left]; rfl
  refine ⟨?_, ?_, ?_⟩
  · unfold stripR
    have e : h.1 ++ 58 :: 32 :: (h.2 ++ [13]) = (h.1 ++ 58 :: 32 :: h.2) ++ [13] := by simp
    rw [e, List.getLast?_concat, if_pos rfl, List.dropLast_concat]
  · unfold lineP
    rw [if_pos (by simp), hu, List.take_left, e1, trim_blank g.trim]
    simp only
    rw [if_pos hf]
  · intro b hb
    simp only [List.mem_append, List.mem_cons, List.not_mem_nil, or_false] at hb
    rcases hb with hb | rfl | rfl | hb | rfl
    · exact (tok_b (g.tok b hb)).2
    · decide
    · decide
    · exact (g.free b hb).2.2
    · decide
theorem rows_back : ∀ (l : List Hdr) (n : Nat) (acc : List Hdr), l.all fine = true → rows (lines (text l)) n acc = if 100 < (acc ++ l).length then ([], 0, 6) else (acc ++ l, 0, 0)
  | [], n, acc, _ => by
    show rows [[]] n acc = _
    unfold rows
    rw [if_pos (by decide)]
    unfold rows
    rw [List.append_nil]
  | h :: l, n, acc, hl => by
    rw [List.all_cons, Bool.and_eq_true] at hl
    obtain ⟨e1, e2, e3⟩ := line_back hl.1
    have e : text (h :: l) = (h.1 ++ 58 :: 32 :: (h.2 ++ [13])) ++ 10 :: text l := by
      unfold text
      rw [List.flatMap_cons]; simp
    rw [e, lines_cut _ _ e3]
    unfold rows
    rw [e1, e2, if_neg (by simp)]
    simp only
    rw [rows_back l (n + 1) (acc ++ [h]) hl.2, List.append_assoc, List.singleton_append]
theorem parse_text {l : List Hdr} (h : good l = true) : parse (text l) = (l, 0, 0) := by
  unfold good at h
  rw [Bool.and_eq_true, decide_eq_true_eq] at h
  unfold parse
  rw [rows_back l 0 [] h.2, List.nil_append, if_neg (by omega)]
theorem live1 : parse [65, 58, 32, 98] = ([([65], [98])], 0, 0) := by decide +kernel
end Tg.Hd
