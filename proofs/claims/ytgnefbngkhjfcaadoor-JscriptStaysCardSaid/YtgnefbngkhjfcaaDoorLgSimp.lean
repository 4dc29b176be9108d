/-
  A logical run of Go code: rules by which a run is reckoned.
-/
import Derived.Test.YtgnefbngkhjfcaaDoorLgCall
set_option linter.unusedSimpArgs false
set_option linter.unusedVariables false
namespace Go.Lg
open Go.Tg Go.RowKit

def Runs (P : Program) (E : Ext) (fn : Func) (k : List Item) (fr : Fr) (H : LH) (Q : Value × LH → Prop) : Prop := ∃ n r, run P E.loud (LC P E) fn n k fr H = some r ∧ Q r
def ROps (P : Program) (E : Ext) (fn : Func) (all : Array Oper) (os : List Oper) (k : List Item) (fr : Fr) (H : LH) (Q : Value × LH → Prop) : Prop := ∃ n r, (match lops P (LC P E) fn.ntmps all os fr H with | some (fr', H') => run P E.loud (LC P E) fn n k fr' H' | none => none) = some r ∧ Q r
def RMix (P : Program) (E : Ext) (fn : Func) (all : Array Oper) (H0 : LH) (os : List Oper) (k : List Item) (fr : Fr) (H : LH) (Q : Value × LH → Prop) : Prop := ∃ n r, (match lmix P E.loud (LC P E) fn.ntmps all H0 os fr H with | some (fr', H') => run P E.loud (LC P E) fn n k fr' H' | none => none) = some r ∧ Q r
/-- an operation has yielded -/
def Step (P : Program) (E : Ext) (fn : Func) (x : Option (Value × LH)) (d : Nat) (all : Array Oper) (os : List Oper) (k : List Item) (fr : Fr) (Q : Value × LH → Prop) : Prop :=
  match x with
  | some (v, H) => d < fn.ntmps ∧ ROps P E fn all os k (upd fr d v) H Q
  | none => False
def MStep (P : Program) (E : Ext) (fn : Func) (x : Option (Value × LH)) (d : Nat) (all : Array Oper) (H0 : LH) (os : List Oper) (k : List Item) (fr : Fr) (Q : Value × LH → Prop) : Prop :=
  match x with
  | some (v, H) => d < fn.ntmps ∧ RMix P E fn all H0 os k (upd fr d v) H Q
  | none => False
/-- a choice between two ways -/
def RSel (b : Bool) (A B : Prop) : Prop := match b with | true => A | false => B
/-- the results -/
def RRes (x : Option Value) (H : LH) (Q : Value × LH → Prop) : Prop := match x with | some v => Q (v, H) | none => False
def lopx (P : Program) (T : Callee) (op : Op) (fr : Fr) (H : LH) : Option (Value × LH) := lop P T ⟨none, op, 0, "", #[], none⟩ fr H
def lmixx (P : Program) (T : Callee) (op : Op) (fr : Fr) (H0 H : LH) : Option (Value × LH) := lmixop P T ⟨none, op, 0, "", #[], none⟩ fr H0 H
/-- is a guarded operation carried out? -/
def guardx (all : Array Oper) (fr : Fr) (j : Nat) (want : Bool) : Option Bool :=
  match (all[j]?).bind (·.dst) with
  | none => some false
  | some d => match fr d with
    | .bool b => some (b == want)
    | v => if flatB v then some false else none
def GStep (P : Program) (E : Ext) (fn : Func) (g : Option Bool) (op : Op) (d : Nat) (all : Array Oper) (os : List Oper) (k : List Item) (fr : Fr) (H : LH) (Q : Value × LH → Prop) : Prop :=
  match g with
  | some true => Step P E fn (lopx P (LC P E) op fr H) d all os k fr Q
  | some false => d < fn.ntmps ∧ ROps P E fn all os k (upd fr d undef) H Q
  | none => False
def GMStep (P : Program) (E : Ext) (fn : Func) (g : Option Bool) (op : Op) (d : Nat) (all : Array Oper) (H0 : LH) (os : List Oper) (k : List Item) (fr : Fr) (H : LH) (Q : Value × LH → Prop) : Prop :=
  match g with
  | some true => MStep P E fn (lmixx P (LC P E) op fr H0 H) d all H0 os k fr Q
  | some false => d < fn.ntmps ∧ RMix P E fn all H0 os k (upd fr d undef) H Q
  | none => False

section
variable {P : Program} {E : Ext} {fn : Func} {k : List Item} {fr : Fr} {H H' H0 : LH} {Q : Value × LH → Prop} {all : Array Oper} {os : List Oper} {ty : TypeId} {pos : String} {after : Array Edge} {d : Nat} {op : Op}
theorem lop_x (dst : Option Tmp) (g : Option (Nat × Bool)) (T : Callee) : lop P T ⟨dst, op, ty, pos, after, g⟩ fr H = lopx P T op fr H := rfl
theorem lmixop_x (dst : Option Tmp) (g : Option (Nat × Bool)) (T : Callee) : lmixop P T ⟨dst, op, ty, pos, after, g⟩ fr H0 H = lmixx P T op fr H0 H := by
  cases op <;> rfl
theorem ex_succ {p : Nat → Prop} (h0 : ¬ p 0) : (∃ n, p n) ↔ ∃ n, p (n + 1) := ⟨fun ⟨n, h⟩ => by cases n with | zero => exact absurd h h0 | succ n => exact ⟨n, h⟩, fun ⟨n, h⟩ => ⟨_, h⟩⟩
theorem run0 {L : Loud} {T : Callee} : run P L T fn 0 k fr H = none := rfl
theorem runs_nil : Runs P E fn [] fr H Q ↔ RRes (lresults P fn fr H) H Q := by
  unfold Runs; rw [ex_succ (by simp [run])]; simp only [run]; unfold RRes; cases lresults P fn fr H <;> simp
theorem runs_skip : Runs P E fn (.code .skip :: k) fr H Q ↔ Runs P E fn k fr H Q := by
  unfold Runs; rw [ex_succ (by simp [run])]; simp only [run]
theorem runs_label {l : Nat} : Runs P E fn (.code (.label l) :: k) fr H Q ↔ Runs P E fn k fr H Q := by
  unfold Runs; rw [ex_succ (by simp [run])]; simp only [run]
theorem runs_seq {x y : Code} : Runs P E fn (.code (.seq x y) :: k) fr H Q ↔ Runs P E fn (.code x :: .code y :: k) fr H Q := by
  unfold Runs; rw [ex_succ (by simp [run])]; simp only [run]
theorem runs_block {id : Nat} {x : Code} : Runs P E fn (.code (.block id x) :: k) fr H Q ↔ Runs P E fn (.code x :: .inBlock id :: k) fr H Q := by
  unfold Runs; rw [ex_succ (by simp [run])]; simp only [run]
theorem runs_inBlock {id : Nat} : Runs P E fn (.inBlock id :: k) fr H Q ↔ Runs P E fn k fr H Q := by
  unfold Runs; rw [ex_succ (by simp [run])]; simp only [run]
theorem runs_loop {x : Code} : Runs P E fn (.code (.loop x) :: k) fr H Q ↔ Runs P E fn (.inLoop x :: k) fr H Q := by
  unfold Runs; rw [ex_succ (by simp [run])]; rw [ex_succ (p := fun n => ∃ r, run P E.loud (LC P E) fn n (.inLoop x :: k) fr H = some r ∧ Q r) (by simp [run])]; simp only [run]
theorem runs_inLoop {x : Code} : Runs P E fn (.inLoop x :: k) fr H Q ↔ Runs P E fn (.code x :: .inLoop x :: k) fr H Q := by
  unfold Runs; rw [ex_succ (by simp [run])]; simp only [run]
theorem runs_ret : Runs P E fn (.code .ret :: k) fr H Q ↔ RRes (lresults P fn fr H) H Q := by
  unfold Runs; rw [ex_succ (by simp [run])]; simp only [run]; unfold RRes; cases lresults P fn fr H <;> simp
theorem runs_exit {id : Nat} : Runs P E fn (.code (.exit id) :: k) fr H Q ↔ match exitTo id k with | some k' => Runs P E fn k' fr H Q | none => False := by
  unfold Runs; rw [ex_succ (by simp [run])]; simp only [run]
  cases exitTo id k <;> simp
theorem runs_cond {c : Operand} {x y : Code} {b : Bool} (h : ev fr c = .bool b) : Runs P E fn (.code (.cond c x y) :: k) fr H Q ↔ if b = true then Runs P E fn (.code x :: k) fr H Q else Runs P E fn (.code y :: k) fr H Q := by
  unfold Runs; rw [ex_succ (by simp [run])]; simp only [run, h]
  cases b <;> simp
theorem runs_region {id : Nat} {l : List Oper} : Runs P E fn (.code (.region id ⟨l⟩ false) :: k) fr H Q ↔ ROps P E fn ⟨l⟩ l k fr H Q := by
  unfold Runs ROps; rw [ex_succ (by simp [run])]; simp only [run]; exact Iff.rfl
theorem runs_draw {id : Nat} {l : List Oper} : Runs P E fn (.code (.region id ⟨l⟩ true) :: k) fr H Q ↔ RMix P E fn ⟨l⟩ H l k fr H Q := by
  unfold Runs RMix; rw [ex_succ (by simp [run])]; simp only [run]; exact Iff.rfl
theorem rops_nil : ROps P E fn all [] k fr H Q ↔ Runs P E fn k fr H Q := by
  unfold ROps Runs; simp only [lops]
theorem rmix_nil : RMix P E fn all H0 [] k fr H Q ↔ Runs P E fn k fr H Q := by
  unfold RMix Runs; simp only [lmix]
theorem rops_cons : ROps P E fn all (⟨some d, op, ty, pos, after, none⟩ :: os) k fr H Q ↔ Step P E fn (lopx P (LC P E) op fr H) d all os k fr Q := by
  unfold ROps Step; simp only [lops, lwant, lop_x]
  cases lopx P (LC P E) op fr H with
  | none => simp
  | some x =>
    obtain ⟨v, H1⟩ := x
    simp only [lput]
    by_cases hd : d < fn.ntmps
    · simp only [hd, ROps, true_and, if_true]
    · simp [hd]
theorem rops_cons0 : ROps P E fn all (⟨none, op, ty, pos, after, none⟩ :: os) k fr H Q ↔ match lopx P (LC P E) op fr H with | some (_, H') => ROps P E fn all os k fr H' Q | none => False := by
  unfold ROps; simp only [lops, lwant, lop_x]
  cases lopx P (LC P E) op fr H with
  | none => simp
  | some x => simp only [lput]
theorem rmix_cons : RMix P E fn all H0 (⟨some d, op, ty, pos, after, none⟩ :: os) k fr H Q ↔ RSel (loudOp E.loud op) (ROps P E fn all (⟨some d, op, ty, pos, after, none⟩ :: os) k fr H Q) (MStep P E fn (lmixx P (LC P E) op fr H0 H) d all H0 os k fr Q) := by
  unfold RMix RSel
  cases hl : loudOp E.loud op with
  | true => unfold ROps; simp only [lmix, hl, if_true]
  | false =>
    unfold MStep; simp only [lmix, hl, Bool.false_eq_true, if_false, lwant, lmixop_x]
    by_cases hd : d < fn.ntmps
    · simp only [if_pos hd]
      cases lmixx P (LC P E) op fr H0 H with
      | none => simp
      | some x => simp only [hd, RMix, true_and]
    · simp only [if_neg hd]
      cases lmixx P (LC P E) op fr H0 H with
      | none => simp
      | some x => simp [hd]
theorem rmix_cons0 : RMix P E fn all H0 (⟨none, op, ty, pos, after, none⟩ :: os) k fr H Q ↔ RSel (loudOp E.loud op) (ROps P E fn all (⟨none, op, ty, pos, after, none⟩ :: os) k fr H Q) False := by
  unfold RMix RSel
  cases hl : loudOp E.loud op with
  | true => unfold ROps; simp only [lmix, hl, if_true]
  | false => simp [lmix, hl]
theorem lwant_x {j : Nat} {want : Bool} {dst : Option Tmp} : lwant all fr ⟨dst, op, ty, pos, after, some (j, want)⟩ = guardx all fr j want := rfl
theorem rops_guard {j : Nat} {want : Bool} : ROps P E fn all (⟨some d, op, ty, pos, after, some (j, want)⟩ :: os) k fr H Q ↔ GStep P E fn (guardx all fr j want) op d all os k fr H Q := by
  unfold ROps GStep; simp only [lops, lwant_x, lop_x]
  cases guardx all fr j want with
  | none => simp
  | some b =>
    cases b with
    | true =>
      simp only [Step]
      cases lopx P (LC P E) op fr H with
      | none => simp
      | some x =>
        obtain ⟨v, H1⟩ := x
        simp only [lput]
        by_cases hd : d < fn.ntmps
        · simp only [hd, ROps, true_and, if_true]
        · simp [hd]
    | false =>
      simp only [lput]
      by_cases hd : d < fn.ntmps
      · simp only [hd, ROps, true_and, if_true]
      · simp [hd]
theorem rmix_guard {j : Nat} {want : Bool} : RMix P E fn all H0 (⟨some d, op, ty, pos, after, some (j, want)⟩ :: os) k fr H Q ↔ RSel (loudOp E.loud op) (ROps P E fn all (⟨some d, op, ty, pos, after, some (j, want)⟩ :: os) k fr H Q) (GMStep P E fn (guardx all fr j want) op d all H0 os k fr H Q) := by
  unfold RMix RSel
  cases hl : loudOp E.loud op with
  | true => unfold ROps; simp only [lmix, hl, if_true]
  | false =>
    unfold GMStep; simp only [lmix, hl, Bool.false_eq_true, if_false, lwant_x, lmixop_x]
    by_cases hd : d < fn.ntmps
    · simp only [if_pos hd]
      cases guardx all fr j want with
      | none => simp
      | some b =>
        cases b with
        | true =>
          unfold MStep
          simp only
          cases lmixx P (LC P E) op fr H0 H with
          | none => simp
          | some x => simp only [hd, RMix, true_and]
        | false => simp only [hd, RMix, true_and]
    · simp only [if_neg hd]
      cases guardx all fr j want with
      | none => simp
      | some b =>
        cases b with
        | true =>
          unfold MStep
          simp only
          cases lmixx P (LC P E) op fr H0 H with
          | none => simp
          | some x => simp [hd]
        | false => simp [hd]
theorem step_some {v : Value} : Step P E fn (some (v, H)) d all os k fr Q ↔ d < fn.ntmps ∧ ROps P E fn all os k (upd fr d v) H Q := Iff.rfl
theorem mstep_some {v : Value} : MStep P E fn (some (v, H)) d all H0 os k fr Q ↔ d < fn.ntmps ∧ RMix P E fn all H0 os k (upd fr d v) H Q := Iff.rfl
theorem rsel_true {A B : Prop} : RSel true A B ↔ A := Iff.rfl
theorem rsel_false {A B : Prop} : RSel false A B ↔ B := Iff.rfl
theorem gstep_true : GStep P E fn (some true) op d all os k fr H Q ↔ Step P E fn (lopx P (LC P E) op fr H) d all os k fr Q := Iff.rfl
theorem gstep_false : GStep P E fn (some false) op d all os k fr H Q ↔ d < fn.ntmps ∧ ROps P E fn all os k (upd fr d undef) H Q := Iff.rfl
theorem gmstep_true : GMStep P E fn (some true) op d all H0 os k fr H Q ↔ MStep P E fn (lmixx P (LC P E) op fr H0 H) d all H0 os k fr Q := Iff.rfl
theorem gmstep_false : GMStep P E fn (some false) op d all H0 os k fr H Q ↔ d < fn.ntmps ∧ RMix P E fn all H0 os k (upd fr d undef) H Q := Iff.rfl
/-- a loop: a relation that each round hands on, a measure that each round lowers -/
theorem loop_ind {St : Type} (R : St → Fr → LH → Prop) (μ : St → Nat) {x : Code} (st : St) (h : R st fr H)
    (step : ∀ st fr H, R st fr H → (∀ st' fr' H', μ st' < μ st → R st' fr' H' → Runs P E fn (.inLoop x :: k) fr' H' Q) → Runs P E fn (.code x :: .inLoop x :: k) fr H Q) : Runs P E fn (.code (.loop x) :: k) fr H Q := by
  have key : ∀ m st fr H, μ st < m → R st fr H → Runs P E fn (.inLoop x :: k) fr H Q := by
    intro m
    induction m with
    | zero => intro st fr H hm; omega
    | succ m ih =>
      intro st fr H hm hR
      exact runs_inLoop.2 (step st fr H hR (fun st' fr' H' hlt hR' => ih st' fr' H' (by omega) hR'))
  exact runs_loop.2 (key (μ st + 1) st fr H (Nat.lt_succ_self _) h)
theorem LC_runs {f : FuncId} {c : Code} {args : List Value} (he : E f = none) (hf : P.funcs[f]? = some fn) (hb : fn.body = some c) (hN : args.length ≤ fn.ntmps) (hname : fn.name ≠ "runtime.NumGoroutine") (hcd : codeOk E.loud c = true)
    (hr : Runs P E fn [.code c] (enter args) H Q) : ∃ r, LC P E f args H = some (trunc H r) ∧ Q r := by
  obtain ⟨n, r, hn, hq⟩ := hr
  exact ⟨r, LC_body he hf hb hN hname hcd hn, hq⟩
theorem trunc_flat {v : Value} (hv : flatB v = true) (hle : H.le H') : trunc H (v, H') = (v, H) := by
  unfold trunc; rw [if_pos ⟨hv, hle⟩]
theorem LC_pure {f : FuncId} {c : Code} {args : List Value} {v : Value} (he : E f = none) (hf : P.funcs[f]? = some fn) (hb : fn.body = some c) (hN : args.length ≤ fn.ntmps) (hname : fn.name ≠ "runtime.NumGoroutine") (hcd : codeOk E.loud c = true)
    (hv : flatB v = true) (hr : Runs P E fn [.code c] (enter args) H (fun r => r.1 = v ∧ H.le r.2)) : LC P E f args H = some (v, H) := by
  obtain ⟨⟨v', H'⟩, h, rfl, hle⟩ := LC_runs he hf hb hN hname hcd hr
  rw [h, trunc_flat hv hle]
theorem le_refl : H.le H := ⟨Nat.le_refl _, fun _ _ => rfl⟩
end
end Go.Lg
