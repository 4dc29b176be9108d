/-
  Texts joined, part 5: PgS, PgT, LgCut, StRune, StAny, StBld, StRows, StLib, StEnv, LgObj, StBldW, UrCode, UrCodeB, UrCodeC, UrSplit, UrDots, NuPlain, NuParts, UrNum, UrGood, UrLens, UrParse.
-/
import Derived.Test.YthgcgjpbhbikaaaDoorM4
import Derived.Laws.Runes
import Derived.Test.YthgcgjpbhbikaaaDoorM1
import Derived.Test.YthgcgjpbhbikaaaDoorM3
import Derived.Lib.SlTrimSet
/-
  A logical run with throws, and ranges over functions: rules by which it is reckoned.
-/
set_option linter.unusedSimpArgs false
set_option linter.unusedVariables false
namespace Go.Lg
open Go.Tg Go.RowKit

abbrev PQ := Res → LH → Option Code → Prop
def PR (P : Program) (E : PEnv) (Y : Option YC) (rd : Nat) (fn : Func) (k : List Item) (fr : Fr) (H : LH) (p : Option Code) (Q : PQ) : Prop := ∃ r H' p', R P E (.run Y rd fn k fr H p r H' p') ∧ Q r H' p'
def PO (P : Program) (E : PEnv) (Y : Option YC) (rd : Nat) (fn : Func) (all : Array Oper) (os : List Oper) (k : List Item) (fr : Fr) (H : LH) (p : Option Code) (Q : PQ) : Prop := ∃ r H' p', R P E (.ops Y rd fn all os k fr H p r H' p') ∧ Q r H' p'
def PStep (P : Program) (E : PEnv) (Y : Option YC) (rd : Nat) (fn : Func) (x : Option (Value × LH)) (d : Nat) (all : Array Oper) (os : List Oper) (k : List Item) (fr : Fr) (p : Option Code) (Q : PQ) : Prop :=
  match x with
  | some (v, H) => d < fn.ntmps ∧ PO P E Y rd fn all os k (upd fr d v) H p Q
  | none => False
def PStep0 (P : Program) (E : PEnv) (Y : Option YC) (rd : Nat) (fn : Func) (x : Option (Value × LH)) (all : Array Oper) (os : List Oper) (k : List Item) (fr : Fr) (p : Option Code) (Q : PQ) : Prop :=
  match x with
  | some (_, H) => PO P E Y rd fn all os k fr H p Q
  | none => False
/-- an operation for which a contract is handed in by hand -/
def PHand (P : Program) (E : PEnv) (Y : Option YC) (rd : Nat) (fn : Func) (all : Array Oper) (os : List Oper) (k : List Item) (fr : Fr) (H : LH) (p : Option Code) (Q : PQ) : Prop := PO P E Y rd fn all os k fr H p Q
def PRes (x : Option Value) (H : LH) (p : Option Code) (Q : PQ) : Prop := match x with | some v => Q (.ret v) H p | none => False
def PCond (P : Program) (E : PEnv) (Y : Option YC) (rd : Nat) (fn : Func) (c : Value) (x y : Code) (k : List Item) (fr : Fr) (H : LH) (p : Option Code) (Q : PQ) : Prop :=
  match c with
  | .bool t => if t = true then PR P E Y rd fn (.code x :: k) fr H p Q else PR P E Y rd fn (.code y :: k) fr H p Q
  | _ => False
def isClear : Builtin → Bool
  | .clear => true
  | _ => false
/-- is an operation to be handed in by hand? -/
def handB (E : PEnv) (fr : Fr) (op : Op) : Bool := match op with
  | .call c => match c.callee with
    | .builtin b => isClear b
    | .value x => match ev fr x with
      | .func (.func g) _ _ => E.ps g
      | .func (.yield _) _ _ => true
      | _ => false
    | _ => false
  | .makeFunc _ first _ => first.size != 0
  | _ => false
def PG (P : Program) (E : PEnv) (Y : Option YC) (rd : Nat) (fn : Func) (g : Option Bool) (op : Op) (d : Nat) (all : Array Oper) (o : Oper) (os : List Oper) (k : List Item) (fr : Fr) (H : LH) (p : Option Code) (Q : PQ) : Prop :=
  match g with
  | some true => RSel (handB E fr op) (PHand P E Y rd fn all (o :: os) k fr H p Q) (PStep P E Y rd fn (lopxB P (LC P E.E) op fr H) d all os k fr p Q)
  | some false => d < fn.ntmps ∧ PO P E Y rd fn all os k (upd fr d undef) H p Q
  | none => False
section
variable {P : Program} {E : PEnv} {Y : Option YC} {rd : Nat} {fn : Func} {k : List Item} {fr : Fr} {H H' H0 : LH} {p : Option Code} {Q : PQ} {all : Array Oper} {os : List Oper} {d : Nat} {op : Op} {ty : TypeId} {pos : String} {after : Array Edge} {v : Value}
theorem pr_skip : PR P E Y rd fn (.code .skip :: k) fr H p Q ↔ PR P E Y rd fn k fr H p Q := ⟨fun ⟨r, H', p', h, q⟩ => by cases h; exact ⟨_, _, _, ‹_›, q⟩, fun ⟨r, H', p', h, q⟩ => ⟨_, _, _, .skip h, q⟩⟩
theorem pr_label {l : Nat} : PR P E Y rd fn (.code (.label l) :: k) fr H p Q ↔ PR P E Y rd fn k fr H p Q := ⟨fun ⟨r, H', p', h, q⟩ => by cases h; exact ⟨_, _, _, ‹_›, q⟩, fun ⟨r, H', p', h, q⟩ => ⟨_, _, _, .label h, q⟩⟩
theorem pr_inBlock {l : Nat} : PR P E Y rd fn (.inBlock l :: k) fr H p Q ↔ PR P E Y rd fn k fr H p Q := ⟨fun ⟨r, H', p', h, q⟩ => by cases h; exact ⟨_, _, _, ‹_›, q⟩, fun ⟨r, H', p', h, q⟩ => ⟨_, _, _, .inBlock h, q⟩⟩
theorem pr_inScope {c : Code} : PR P E Y rd fn (.inScope c :: k) fr H p Q ↔ PR P E Y rd fn k fr H p Q := ⟨fun ⟨r, H', p', h, q⟩ => by cases h; exact ⟨_, _, _, ‹_›, q⟩, fun ⟨r, H', p', h, q⟩ => ⟨_, _, _, .inScope h, q⟩⟩
theorem pr_seq {a b : Code} : PR P E Y rd fn (.code (.seq a b) :: k) fr H p Q ↔ PR P E Y rd fn (.code a :: .code b :: k) fr H p Q := ⟨fun ⟨r, H', p', h, q⟩ => by cases h; exact ⟨_, _, _, ‹_›, q⟩, fun ⟨r, H', p', h, q⟩ => ⟨_, _, _, .seq h, q⟩⟩
theorem pr_block {id : Nat} {c : Code} : PR P E Y rd fn (.code (.block id c) :: k) fr H p Q ↔ PR P E Y rd fn (.code c :: .inBlock id :: k) fr H p Q := ⟨fun ⟨r, H', p', h, q⟩ => by cases h; exact ⟨_, _, _, ‹_›, q⟩, fun ⟨r, H', p', h, q⟩ => ⟨_, _, _, .block h, q⟩⟩
theorem pr_scope {c : Code} : PR P E Y rd fn (.code (.scope c) :: k) fr H p Q ↔ PR P E Y rd fn (.code c :: .inScope c :: k) fr H p Q := ⟨fun ⟨r, H', p', h, q⟩ => by cases h; exact ⟨_, _, _, ‹_›, q⟩, fun ⟨r, H', p', h, q⟩ => ⟨_, _, _, .scope h, q⟩⟩
theorem pr_loop {c : Code} : PR P E Y rd fn (.code (.loop c) :: k) fr H p Q ↔ PR P E Y rd fn (.inLoop c :: k) fr H p Q := ⟨fun ⟨r, H', p', h, q⟩ => by cases h; exact ⟨_, _, _, .inLoop ‹_›, q⟩, fun ⟨r, H', p', h, q⟩ => by cases h; exact ⟨_, _, _, .loop ‹_›, q⟩⟩
theorem pr_inLoop {c : Code} : PR P E Y rd fn (.inLoop c :: k) fr H p Q ↔ PR P E Y rd fn (.code c :: .inLoop c :: k) fr H p Q := ⟨fun ⟨r, H', p', h, q⟩ => by cases h; exact ⟨_, _, _, ‹_›, q⟩, fun ⟨r, H', p', h, q⟩ => ⟨_, _, _, .inLoop h, q⟩⟩
theorem pr_beg : PR P E none 1 fn (.beginRound :: k) fr H none Q ↔ ∃ r H', R P E (.run none 2 fn k fr H none r H' none) ∧ Q r H' none := ⟨fun ⟨r, H', p', h, q⟩ => by cases h; exact ⟨_, _, ‹_›, q⟩, fun ⟨r, H', h, q⟩ => ⟨_, _, _, .beg h, q⟩⟩
def PExit (P : Program) (E : PEnv) (Y : Option YC) (rd : Nat) (fn : Func) (id : Nat) (x : Option (List Item)) (fr : Fr) (H : LH) (p : Option Code) (Q : PQ) : Prop :=
  match x with
  | some k => PR P E Y rd fn k fr H p Q
  | none => Y = none ∧ rd = 2 ∧ p = none ∧ Q (.jump (some (.exit id))) H none
@[congr] theorem pexit_congr {id : Nat} {x y : Option (List Item)} (h : x = y) : PExit P E Y rd fn id x fr H p Q = PExit P E Y rd fn id y fr H p Q := by rw [h]
@[simp] theorem pexit_some {id : Nat} : PExit P E Y rd fn id (some k) fr H p Q ↔ PR P E Y rd fn k fr H p Q := Iff.rfl
@[simp] theorem pexit_none {id : Nat} : PExit P E none 2 fn id none fr H none Q ↔ Q (.jump (some (.exit id))) H none := by simp [PExit]
theorem pr_exit {id : Nat} : PR P E Y rd fn (.code (.exit id) :: k) fr H p Q ↔ PExit P E Y rd fn id (exitTo id k) fr H p Q := by
  constructor
  · rintro ⟨r, H', p', h, q⟩
    cases h with
    | exit1 hx => rw [hx]; exact ⟨rfl, rfl, rfl, q⟩
    | exit hx h => rw [hx]; exact ⟨_, _, _, h, q⟩
  · intro h
    cases hx : exitTo id k with
    | none => rw [hx] at h; obtain ⟨rfl, rfl, rfl, q⟩ := h; exact ⟨_, _, _, .exit1 hx, q⟩
    | some k' => rw [hx] at h; obtain ⟨r, H', p', h, q⟩ := h; exact ⟨_, _, _, .exit hx h, q⟩
def PGoto (P : Program) (E : PEnv) (Y : Option YC) (rd : Nat) (fn : Func) (x : Option (List Item)) (fr : Fr) (H : LH) (p : Option Code) (Q : PQ) : Prop :=
  match x with
  | some k => PR P E Y rd fn k fr H p Q
  | none => False
@[congr] theorem pgoto_congr {x y : Option (List Item)} (h : x = y) : PGoto P E Y rd fn x fr H p Q = PGoto P E Y rd fn y fr H p Q := by rw [h]
@[simp] theorem pgoto_some : PGoto P E Y rd fn (some k) fr H p Q ↔ PR P E Y rd fn k fr H p Q := Iff.rfl
theorem pr_goto {id : Nat} : PR P E Y rd fn (.code (.goto id) :: k) fr H p Q ↔ PGoto P E Y rd fn (gotoIn id k) fr H p Q := by
  constructor
  · rintro ⟨r, H', p', h, q⟩
    cases h with
    | goto hx h => rw [hx]; exact ⟨_, _, _, h, q⟩
  · intro h
    cases hx : gotoIn id k with
    | none => rw [hx] at h; exact h.elim
    | some k' => rw [hx] at h; obtain ⟨r, H', p', h, q⟩ := h; exact ⟨_, _, _, .goto hx h, q⟩
theorem pr_nil : PR P E Y 0 fn [] fr H p Q ↔ PRes (lresults P fn fr H) H p Q := by
  constructor
  · rintro ⟨r, H', p', h, q⟩
    cases h with
    | nil0 hx => rw [hx]; exact q
  · intro h
    cases hx : lresults P fn fr H with
    | none => rw [hx] at h; exact h.elim
    | some v => rw [hx] at h; exact ⟨_, _, _, .nil0 hx, h⟩
theorem pr_ret : PR P E Y 0 fn (.code .ret :: k) fr H p Q ↔ PRes (lresults P fn fr H) H p Q := by
  constructor
  · rintro ⟨r, H', p', h, q⟩
    cases h with
    | ret0 hx => rw [hx]; exact q
  · intro h
    cases hx : lresults P fn fr H with
    | none => rw [hx] at h; exact h.elim
    | some v => rw [hx] at h; exact ⟨_, _, _, .ret0 hx, h⟩
theorem pr_nil2 : PR P E none 2 fn [] fr H none Q ↔ Q (.jump none) H none := ⟨fun ⟨r, H', p', h, q⟩ => by cases h; exact q, fun h => ⟨_, _, _, .nil1, h⟩⟩
theorem pr_ret2 : PR P E none 2 fn (.code .ret :: k) fr H none Q ↔ Q (.jump (some .ret)) H none := ⟨fun ⟨r, H', p', h, q⟩ => by cases h; exact q, fun h => ⟨_, _, _, .ret1, h⟩⟩
theorem pr_cond {c : Operand} {x y : Code} : PR P E Y rd fn (.code (.cond c x y) :: k) fr H p Q ↔ PCond P E Y rd fn (ev fr c) x y k fr H p Q := by
  constructor
  · rintro ⟨r, H', p', h, q⟩
    cases h with
    | @cond _ _ _ _ _ _ _ _ _ _ _ _ _ t hc h =>
      rw [hc]
      unfold PCond
      cases t with
      | true => simp only [if_true]; exact ⟨_, _, _, h, q⟩
      | false => simp only [Bool.false_eq_true, if_false]; exact ⟨_, _, _, h, q⟩
  · intro h
    unfold PCond at h
    split at h
    · rename_i t hc
      cases t with
      | true => simp only [if_true] at h; obtain ⟨r, H', p', h, q⟩ := h; exact ⟨_, _, _, .cond hc h, q⟩
      | false => simp only [Bool.false_eq_true, if_false] at h; obtain ⟨r, H', p', h, q⟩ := h; exact ⟨_, _, _, .cond hc h, q⟩
    · exact h.elim
theorem pr_region {id : Nat} {l : List Oper} : PR P E Y rd fn (.code (.region id ⟨l⟩ false) :: k) fr H p Q ↔ PO P E Y rd fn ⟨l⟩ l k fr H p Q := ⟨fun ⟨r, H', p', h, q⟩ => by cases h; exact ⟨_, _, _, ‹_›, q⟩, fun ⟨r, H', p', h, q⟩ => ⟨_, _, _, .region h, q⟩⟩
theorem po_nil : PO P E Y rd fn all [] k fr H p Q ↔ PR P E Y rd fn k fr H p Q := ⟨fun ⟨r, H', p', h, q⟩ => by cases h; exact ⟨_, _, _, ‹_›, q⟩, fun ⟨r, H', p', h, q⟩ => ⟨_, _, _, .onil h, q⟩⟩
theorem hand_ps (h : handB E fr op = false) : psOf E fr op = false := by
  unfold handB at h
  unfold psOf
  split
  · rename_i c
    simp only at h ⊢
    split
    · rename_i x hx
      rw [hx] at h
      simp only at h ⊢
      split
      · rename_i g _ _ hg
        rw [hg] at h; exact h
      · rfl
    · rfl
  · rfl
/-- what an operation that is to be carried out comes to, if nothing is to be handed in -/
theorem po_plain {o : Oper} (hh : handB E fr o.op = false) (hw : lwant all fr o = some true) : PO P E Y rd fn all (o :: os) k fr H p Q ↔ ∃ v H1 fr1, lopB P (LC P E.E) o fr H = some (v, H1) ∧ lput fn.ntmps fr o.dst v = some fr1 ∧ PO P E Y rd fn all os k fr1 H1 p Q := by
  constructor
  · rintro ⟨r, H', p', h, q⟩
    cases h with
    | oskip h1 _ _ => rw [hw] at h1; cases h1
    | oplain _ _ h1 h2 h3 => exact ⟨_, _, _, h1, h2, _, _, _, h3, q⟩
    | omkf _ h1 h2 _ _ => rw [h1] at hh; simp [handB, h2] at hh
    | oclear _ h1 _ _ _ => rw [h1] at hh; simp [handB, isClear] at hh
    | ocall _ h1 h2 h3 _ _ _ => rw [h1] at hh; simp [handB, h2, h3] at hh
    | ocallp _ h1 h2 h3 _ => rw [h1] at hh; simp [handB, h2, h3] at hh
    | oyield _ h1 h2 _ _ _ _ _ => rw [h1] at hh; simp [handB, h2, tok] at hh
  · rintro ⟨v, H1, fr1, h1, h2, r, H', p', h3, q⟩
    exact ⟨_, _, _, .oplain hw (hand_ps hh) h1 h2 h3, q⟩
theorem po_cons : PO P E Y rd fn all (⟨some d, op, ty, pos, after, none⟩ :: os) k fr H p Q ↔ RSel (handB E fr op) (PHand P E Y rd fn all (⟨some d, op, ty, pos, after, none⟩ :: os) k fr H p Q) (PStep P E Y rd fn (lopxB P (LC P E.E) op fr H) d all os k fr p Q) := by
  cases hh : handB E fr op with
  | true => exact Iff.rfl
  | false =>
    rw [po_plain hh rfl]
    unfold RSel PStep
    simp only [lopB_x, lput]
    cases lopxB P (LC P E.E) op fr H with
    | none => simp
    | some x =>
      obtain ⟨u, H1⟩ := x
      by_cases hd : d < fn.ntmps
      · simp [hd]
        exact ⟨fun ⟨_, _, ⟨e1, e2⟩, h⟩ => by subst e1 e2; exact h, fun h => ⟨_, _, ⟨rfl, rfl⟩, h⟩⟩
      · simp [hd]
theorem po_cons0 : PO P E Y rd fn all (⟨none, op, ty, pos, after, none⟩ :: os) k fr H p Q ↔ RSel (handB E fr op) (PHand P E Y rd fn all (⟨none, op, ty, pos, after, none⟩ :: os) k fr H p Q) (PStep0 P E Y rd fn (lopxB P (LC P E.E) op fr H) all os k fr p Q) := by
  cases hh : handB E fr op with
  | true => exact Iff.rfl
  | false =>
    rw [po_plain hh rfl]
    unfold RSel PStep0
    simp only [lopB_x, lput]
    cases lopxB P (LC P E.E) op fr H with
    | none => simp
    | some x =>
      obtain ⟨u, H1⟩ := x
      simp
      exact ⟨fun ⟨_, _, ⟨e1, e2⟩, h⟩ => by subst e1 e2; exact h, fun h => ⟨_, _, ⟨rfl, rfl⟩, h⟩⟩
theorem po_guard {j : Nat} {want : Bool} : PO P E Y rd fn all (⟨some d, op, ty, pos, after, some (j, want)⟩ :: os) k fr H p Q ↔ PG P E Y rd fn (guardx all fr j want) op d all ⟨some d, op, ty, pos, after, some (j, want)⟩ os k fr H p Q := by
  unfold PG
  cases hg : guardx all fr j want with
  | none =>
    simp only [iff_false]
    rintro ⟨r, H', p', h, q⟩
    have hw : lwant all fr ⟨some d, op, ty, pos, after, some (j, want)⟩ = none := by rw [lwant_x]; exact hg
    cases h with
    | oskip h1 _ _ => rw [hw] at h1; cases h1
    | oplain h1 _ _ _ _ => rw [hw] at h1; cases h1
    | omkf h1 _ _ _ _ => rw [hw] at h1; cases h1
    | oclear h1 _ _ _ _ => rw [hw] at h1; cases h1
    | ocall h1 _ _ _ _ _ _ => rw [hw] at h1; cases h1
    | ocallp h1 _ _ _ _ => rw [hw] at h1; cases h1
    | oyield h1 _ _ _ _ _ _ _ => rw [hw] at h1; cases h1
  | some b =>
    have hw : lwant all fr ⟨some d, op, ty, pos, after, some (j, want)⟩ = some b := by rw [lwant_x]; exact hg
    cases b with
    | true =>
      cases hh : handB E fr op with
      | true => exact Iff.rfl
      | false =>
        rw [po_plain hh hw]
        unfold RSel PStep
        simp only [lopB_x, lput]
        cases lopxB P (LC P E.E) op fr H with
        | none => simp
        | some x =>
          obtain ⟨u, H1⟩ := x
          by_cases hd : d < fn.ntmps
          · simp [hd]
            exact ⟨fun ⟨_, _, ⟨e1, e2⟩, h⟩ => by subst e1 e2; exact h, fun h => ⟨_, _, ⟨rfl, rfl⟩, h⟩⟩
          · simp [hd]
    | false =>
      simp only
      constructor
      · rintro ⟨r, H', p', h, q⟩
        cases h with
        | oskip h1 h2 h3 =>
          simp only [lput] at h2
          split at h2
          · rename_i hd; injection h2 with h2; subst h2; exact ⟨hd, _, _, _, h3, q⟩
          · cases h2
        | oplain h1 _ _ _ _ => rw [hw] at h1; cases h1
        | omkf h1 _ _ _ _ => rw [hw] at h1; cases h1
        | oclear h1 _ _ _ _ => rw [hw] at h1; cases h1
        | ocall h1 _ _ _ _ _ _ => rw [hw] at h1; cases h1
        | ocallp h1 _ _ _ _ => rw [hw] at h1; cases h1
        | oyield h1 _ _ _ _ _ _ _ => rw [hw] at h1; cases h1
      · rintro ⟨hd, r, H', p', h, q⟩
        exact ⟨_, _, _, .oskip hw (by simp only [lput]; rw [if_pos hd]) h, q⟩
attribute [simp ↓] pr_skip pr_label pr_seq pr_block pr_inBlock pr_inScope pr_scope pr_region pr_exit pr_goto pr_cond po_nil po_cons po_cons0 po_guard
attribute [simp] pr_nil pr_ret pr_nil2 pr_ret2
@[congr] theorem pstep_congr {x y : Option (Value × LH)} (h : x = y) : PStep P E Y rd fn x d all os k fr p Q = PStep P E Y rd fn y d all os k fr p Q := by rw [h]
@[congr] theorem pstep0_congr {x y : Option (Value × LH)} (h : x = y) : PStep0 P E Y rd fn x all os k fr p Q = PStep0 P E Y rd fn y all os k fr p Q := by rw [h]
@[congr] theorem pcond_congr {c c' : Value} {x y : Code} (h : c = c') : PCond P E Y rd fn c x y k fr H p Q = PCond P E Y rd fn c' x y k fr H p Q := by rw [h]
@[congr] theorem pres_congr {x y : Option Value} (h : x = y) : PRes x H p Q = PRes y H p Q := by rw [h]
@[congr] theorem pg_congr {x y : Option Bool} {o : Oper} (h : x = y) : PG P E Y rd fn x op d all o os k fr H p Q = PG P E Y rd fn y op d all o os k fr H p Q := by rw [h]
@[congr] theorem phand_congr : PHand P E Y rd fn all os k fr H p Q = PHand P E Y rd fn all os k fr H p Q := rfl
@[simp] theorem pstep_some : PStep P E Y rd fn (some (v, H)) d all os k fr p Q ↔ d < fn.ntmps ∧ PO P E Y rd fn all os k (upd fr d v) H p Q := Iff.rfl
@[simp] theorem pstep_none : PStep P E Y rd fn none d all os k fr p Q ↔ False := Iff.rfl
@[simp] theorem pstep0_some : PStep0 P E Y rd fn (some (v, H)) all os k fr p Q ↔ PO P E Y rd fn all os k fr H p Q := Iff.rfl
@[simp] theorem pstep0_none : PStep0 P E Y rd fn none all os k fr p Q ↔ False := Iff.rfl
@[simp] theorem pcond_true {x y : Code} : PCond P E Y rd fn (.bool true) x y k fr H p Q ↔ PR P E Y rd fn (.code x :: k) fr H p Q := by simp [PCond]
@[simp] theorem pcond_false {x y : Code} : PCond P E Y rd fn (.bool false) x y k fr H p Q ↔ PR P E Y rd fn (.code y :: k) fr H p Q := by simp [PCond]
@[simp] theorem pres_some : PRes (some v) H p Q ↔ Q (.ret v) H p := Iff.rfl
@[simp] theorem pres_none : PRes none H p Q ↔ False := Iff.rfl
@[simp] theorem pg_true {o : Oper} : PG P E Y rd fn (some true) op d all o os k fr H p Q ↔ RSel (handB E fr op) (PHand P E Y rd fn all (o :: os) k fr H p Q) (PStep P E Y rd fn (lopxB P (LC P E.E) op fr H) d all os k fr p Q) := Iff.rfl
@[simp] theorem pg_false {o : Oper} : PG P E Y rd fn (some false) op d all o os k fr H p Q ↔ d < fn.ntmps ∧ PO P E Y rd fn all os k (upd fr d undef) H p Q := Iff.rfl
/-! ### is it to be handed in? -/
@[simp ↓] theorem hand_move {x : Operand} : handB E fr (.move x) = false := rfl
@[simp ↓] theorem hand_assign {x : Operand} : handB E fr (.assign x) = false := rfl
@[simp ↓] theorem hand_pick {c x y : Operand} : handB E fr (.pick c x y) = false := rfl
@[simp ↓] theorem hand_alloc {t : TypeId} : handB E fr (.alloc t) = false := rfl
@[simp ↓] theorem hand_box {t : TypeId} {x : Operand} : handB E fr (.box t x) = false := rfl
@[simp ↓] theorem hand_load {t : TypeId} {x : Operand} : handB E fr (.load t x) = false := rfl
@[simp ↓] theorem hand_store {t : TypeId} {x y : Operand} : handB E fr (.store t x y) = false := rfl
@[simp ↓] theorem hand_nilCheck {x : Operand} : handB E fr (.nilCheck x) = false := rfl
@[simp ↓] theorem hand_fieldAddr {t : TypeId} {x : Operand} {f : Nat} : handB E fr (.fieldAddr t x f) = false := rfl
@[simp ↓] theorem hand_indexAddr {t : TypeId} {x i : Operand} : handB E fr (.indexAddr t x i) = false := rfl
@[simp ↓] theorem hand_slice {t : TypeId} {x : Operand} {lo hi mx : Option Operand} : handB E fr (.slice t x lo hi mx) = false := rfl
@[simp ↓] theorem hand_field {t : TypeId} {x : Operand} {f : Nat} : handB E fr (.field t x f) = false := rfl
@[simp ↓] theorem hand_extract {x : Operand} {f : Nat} : handB E fr (.extract x f) = false := rfl
@[simp ↓] theorem hand_build {t : TypeId} {ps : Array (Nat × Operand)} : handB E fr (.build t ps) = false := rfl
@[simp ↓] theorem hand_buildSlice {t : TypeId} {n : Nat} {ps : Array (Nat × Operand)} : handB E fr (.buildSlice t n ps) = false := rfl
@[simp ↓] theorem hand_makeSlice {t : TypeId} {x y : Operand} : handB E fr (.makeSlice t x y) = false := rfl
@[simp ↓] theorem hand_makeFunc0 {f : Fn} {c : Array Operand} : handB E fr (.makeFunc f #[] c) = false := rfl
@[simp ↓] theorem hand_makeFunc1 {f : Fn} {x : Operand} {l : List Operand} {c : Array Operand} : handB E fr (.makeFunc f ⟨x :: l⟩ c) = true := rfl
@[simp ↓] theorem hand_bin {op : BinOp} {t yt : TypeId} {x y : Operand} : handB E fr (.binOp op t x y yt) = false := rfl
@[simp ↓] theorem hand_un {op : UnOp} {t : TypeId} {x : Operand} : handB E fr (.unOp op t x) = false := rfl
@[simp ↓] theorem hand_conv {s t : TypeId} {x : Operand} : handB E fr (.convert s t x) = false := rfl
@[simp ↓] theorem hand_index {t : TypeId} {x i : Operand} : handB E fr (.index t x i) = false := rfl
@[simp ↓] theorem hand_builtin {b : Builtin} {args : Array Operand} {ts : Array TypeId} : handB E fr (.call ⟨.builtin b, args, ts⟩) = isClear b := rfl
@[simp] theorem clear_len : isClear .len = false := rfl
@[simp] theorem clear_append : isClear .append = false := rfl
@[simp] theorem clear_min : isClear .min = false := rfl
@[simp] theorem clear_max : isClear .max = false := rfl
@[simp] theorem clear_clear : isClear .clear = true := rfl
def handV (E : PEnv) (v : Value) : Bool := match v with
  | .func (.func g) _ _ => E.ps g
  | .func (.yield _) _ _ => true
  | _ => false
@[simp ↓] theorem hand_call {x : Operand} {args : Array Operand} {ts : Array TypeId} : handB E fr (.call ⟨.value x, args, ts⟩) = handV E (ev fr x) := rfl
@[simp] theorem handV_func {g : FuncId} {a b : Array Value} : handV E (.func (.func g) a b) = E.ps g := rfl
@[simp] theorem handV_tok {l : Nat} : handV E (tok l) = true := rfl
@[simp] theorem handV_yield {l : Nat} {a b : Array Value} : handV E (.func (.yield l) a b) = true := rfl
/-! ### what is handed in -/
theorem hand_call_ret {o : Oper} {x : Operand} {args : Array Operand} {ts : Array TypeId} {g : FuncId} {first caps : Array Value} {H1 : LH} (hw : lwant all fr o = some true) (hop : o.op = .call ⟨.value x, args, ts⟩) (hx : ev fr x = .func (.func g) first caps) (hps : E.ps g = true)
    (hc : R P E (.call g (first.toList ++ args.toList.map (ev fr) ++ caps.toList) H (.ret v) H1)) {fr1 : Fr} (hput : lput fn.ntmps fr o.dst v = some fr1) (h : PO P E Y rd fn all os k fr1 H1 p Q) : PHand P E Y rd fn all (o :: os) k fr H p Q := by
  obtain ⟨r, H', p', h, q⟩ := h
  exact ⟨_, _, _, .ocall hw hop hx hps hc hput h, q⟩
theorem hand_call_pan {o : Oper} {x : Operand} {args : Array Operand} {ts : Array TypeId} {g : FuncId} {first caps : Array Value} {H1 : LH} (hw : lwant all fr o = some true) (hop : o.op = .call ⟨.value x, args, ts⟩) (hx : ev fr x = .func (.func g) first caps) (hps : E.ps g = true)
    (hc : R P E (.call g (first.toList ++ args.toList.map (ev fr) ++ caps.toList) H (.pan v) H1)) (h : Q (.pan v) H1 p) : PHand P E Y rd fn all (o :: os) k fr H p Q :=
  ⟨_, _, _, .ocallp hw hop hx hps hc, h⟩
theorem hand_clear {o : Oper} {x : Operand} {t : TypeId} {H1 : LH} (hw : lwant all fr o = some true) (hop : o.op = .call ⟨.builtin .clear, #[x], #[t]⟩) (hc : lclr P t (ev fr x) H = some H1) {fr1 : Fr} (hput : lput fn.ntmps fr o.dst (.tuple #[]) = some fr1)
    (h : PO P E Y rd fn all os k fr1 H1 p Q) : PHand P E Y rd fn all (o :: os) k fr H p Q := by
  obtain ⟨r, H', p', h, q⟩ := h
  exact ⟨_, _, _, .oclear hw hop hc hput h, q⟩
theorem hand_mkf {o : Oper} {g : FuncId} {first caps : Array Operand} (hw : lwant all fr o = some true) (hop : o.op = .makeFunc (.func g) first caps) (h0 : first.size ≠ 0) {fr1 : Fr} (hput : lput fn.ntmps fr o.dst (.func (.func g) (first.map (ev fr)) (caps.map (ev fr))) = some fr1)
    (h : PO P E Y rd fn all os k fr1 H p Q) : PHand P E Y rd fn all (o :: os) k fr H p Q := by
  obtain ⟨r, H', p', h, q⟩ := h
  exact ⟨_, _, _, .omkf hw hop h0 hput h, q⟩
theorem hand_yield {yc : YC} {o : Oper} {x : Operand} {args : Array Operand} {ts : Array TypeId} {j : Option Code} {H1 : LH} (hw : lwant all fr o = some true) (hop : o.op = .call ⟨.value x, args, ts⟩) (hx : ev fr x = tok yc.l) (hsz : args.size = yc.params.length) (hN : ∀ d ∈ yc.params, d < yc.fn.ntmps)
    (hr : R P E (.run none 1 yc.fn [.code yc.assign, .beginRound, .code yc.body] (setL yc.fr (yc.params.zip (args.toList.map (ev fr)))) H none (.jump j) H1 none)) {fr1 : Fr} (hput : lput fn.ntmps fr o.dst (.bool j.isNone) = some fr1)
    (h : PO P E (some yc) 0 fn all os k fr1 H1 j Q) : PHand P E (some yc) 0 fn all (o :: os) k fr H none Q := by
  obtain ⟨r, H', p', h, q⟩ := h
  exact ⟨_, _, _, .oyield hw hop hx hsz hN hr hput h, q⟩
/-- a loop: a relation that each round hands on, a measure that each round lowers -/
theorem ploop_ind {St : Type} (Rl : St → Fr → LH → Option Code → Prop) (μ : St → Nat) {x : Code} (st : St) (h : Rl st fr H p)
    (step : ∀ st fr H p, Rl st fr H p → (∀ st' fr' H' p', μ st' < μ st → Rl st' fr' H' p' → PR P E Y rd fn (.inLoop x :: k) fr' H' p' Q) → PR P E Y rd fn (.code x :: .inLoop x :: k) fr H p Q) : PR P E Y rd fn (.code (.loop x) :: k) fr H p Q := by
  have key : ∀ m st fr H p, μ st < m → Rl st fr H p → PR P E Y rd fn (.inLoop x :: k) fr H p Q := by
    intro m
    induction m with
    | zero => intro st fr H p hm; omega
    | succ m ih =>
      intro st fr H p hm hR
      exact pr_inLoop.2 (step st fr H p hR (fun st' fr' H' p' hlt hR' => ih st' fr' H' p' (by omega) hR'))
  exact pr_loop.2 (key (μ st + 1) st fr H p (Nat.lt_succ_self _) h)
/-- a function's contract -/
theorem pcall {f : FuncId} {fn : Func} {c : Code} {args : List Value} (hf : P.funcs[f]? = some fn) (hb : fn.body = some c) (hN : args.length ≤ fn.ntmps) (hname : fn.name ≠ "runtime.NumGoroutine") (hcd : codeOkR E.pl fn.ntmps c = true) {Q : Res → LH → Prop}
    (h : PR P E none 0 fn [.code c] (enter args) H none (fun r H' p' => p' = none ∧ Q r H')) : ∃ r H', R P E (.call f args H r H') ∧ Q r H' := by
  obtain ⟨r, H', p', h1, rfl, h2⟩ := h
  exact ⟨r, H', .body ⟨hf, hb, hN, hname, hcd⟩ h1, h2⟩
/-- a function's contract, exactly -/
theorem pcall_is {f : FuncId} {fn : Func} {c : Code} {args : List Value} {r : Res} (hf : P.funcs[f]? = some fn) (hb : fn.body = some c) (hN : args.length ≤ fn.ntmps) (hname : fn.name ≠ "runtime.NumGoroutine") (hcd : codeOkR E.pl fn.ntmps c = true)
    (h : PR P E none 0 fn [.code c] (enter args) H none (fun r1 H1 p' => p' = none ∧ r1 = r ∧ H1 = H')) : R P E (.call f args H r H') := by
  obtain ⟨r, H', h1, rfl, rfl⟩ := pcall hf hb hN hname hcd (Q := fun r1 H1 => r1 = r ∧ H1 = H') h
  exact h1
/-- ... a flat one, that leaves what was there -/
theorem pcall_flat {f : FuncId} {fn : Func} {c : Code} {args : List Value} {r : Res} (hf : P.funcs[f]? = some fn) (hb : fn.body = some c) (hN : args.length ≤ fn.ntmps) (hname : fn.name ≠ "runtime.NumGoroutine") (hcd : codeOkR E.pl fn.ntmps c = true) (hr : flatR r = true)
    (h : PR P E none 0 fn [.code c] (enter args) H none (fun r1 H1 p' => p' = none ∧ r1 = r ∧ H.le H1)) : R P E (.call f args H r H) := by
  obtain ⟨r, H', h1, rfl, h2⟩ := pcall hf hb hN hname hcd (Q := fun r1 H1 => r1 = r ∧ H.le H1) h
  exact .trunc h1 hr h2
end
end Go.Lg
/-
  A logical run with throws, and ranges over functions: regions whose order is open.
-/
set_option linter.unusedSimpArgs false
set_option linter.unusedVariables false
namespace Go.Lg
open Go.Tg Go.RowKit

abbrev KF := Fr → LH → Prop
def LX (P : Program) (T : Callee) (N : Nat) (all : Array Oper) (os : List Oper) (fr : Fr) (H : LH) (K : KF) : Prop := ∃ fr' H', lops P T N all os fr H = some (fr', H') ∧ K fr' H'
def LX0 (P : Program) (T : Callee) (N : Nat) (all : Array Oper) (os : List Oper) (fr : Fr) (H : LH) (K : KF) : Prop := ∃ fr' H', lops0 P T N all os fr H = some (fr', H') ∧ K fr' H'
def MX (P : Program) (L : Loud) (T : Callee) (N : Nat) (all : Array Oper) (H0 : LH) (os : List Oper) (fr : Fr) (H : LH) (K : KF) : Prop := ∃ fr' H', lmix P L T N all H0 os fr H = some (fr', H') ∧ K fr' H'
def CX (P : Program) (T : Callee) (N : Nat) (all : Array Oper) (prs : List (Nat × Nat)) (j : Nat) (old : Nat → Fr × LH) (os : List Oper) (fr : Fr) (H : LH) (K : KF) : Prop := ∃ fr' H', lchain P T N all prs j old os fr H = some (fr', H') ∧ K fr' H'
def DX (P : Program) (L : Loud) (T : Callee) (N : Nat) (x : Option (List (Nat × Nat))) (l : List Oper) (fr : Fr) (H : LH) (K : KF) : Prop :=
  match x with
  | none => MX P L T N ⟨l⟩ H l fr H K
  | some prs => CX P T N ⟨l⟩ prs 0 (fun _ => (fr, H)) l fr H K
def XS (x : Option (Value × LH)) (d N : Nat) (fr : Fr) (F : KF) : Prop := match x with | some (v, H) => d < N ∧ F (upd fr d v) H | none => False
def XS0 (x : Option (Value × LH)) (fr : Fr) (F : KF) : Prop := match x with | some (_, H) => F fr H | none => False
def XG (g : Option Bool) (x : Option (Value × LH)) (d N : Nat) (fr : Fr) (H : LH) (F : KF) : Prop := match g with | some true => XS x d N fr F | some false => d < N ∧ F (upd fr d undef) H | none => False
def XC (P : Program) (x : Option (Value × LH)) (d N : Nat) (op : Op) (all : Array Oper) (prs : List (Nat × Nat)) (j : Nat) (old : Nat → Fr × LH) (fr : Fr) (F : KF) : Prop := match x with
  | some (v, H') => d < N ∧ ckR P j op fr old v prs ∧ ckH P j all old (upd fr d v) H' prs ∧ F (upd fr d v) H'
  | none => False
def XC0 (P : Program) (x : Option (Value × LH)) (op : Op) (all : Array Oper) (prs : List (Nat × Nat)) (j : Nat) (old : Nat → Fr × LH) (fr : Fr) (F : KF) : Prop := match x with
  | some (v, H') => ckR P j op fr old v prs ∧ ckH P j all old fr H' prs ∧ F fr H'
  | none => False
def XCG (P : Program) (g : Option Bool) (x : Option (Value × LH)) (d N : Nat) (op : Op) (all : Array Oper) (prs : List (Nat × Nat)) (j : Nat) (old : Nat → Fr × LH) (fr : Fr) (H : LH) (F : KF) : Prop := match g with
  | some true => XC P x d N op all prs j old fr F
  | some false => d < N ∧ ckH P j all old (upd fr d undef) H prs ∧ F (upd fr d undef) H
  | none => False
section
variable {P : Program} {E : PEnv} {Y : Option YC} {rd : Nat} {fn : Func} {k : List Item} {fr : Fr} {H H' H0 : LH} {p : Option Code} {Q : PQ} {all : Array Oper} {os : List Oper} {d N : Nat} {op : Op} {ty : TypeId} {pos : String} {after : Array Edge} {v : Value} {T : Callee} {L : Loud} {K F : KF} {prs : List (Nat × Nat)} {j : Nat} {old : Nat → Fr × LH}
theorem pr_draw {id : Nat} {l : List Oper} : PR P E Y rd fn (.code (.region id ⟨l⟩ true) :: k) fr H p Q ↔ DX P E.pl (LC P E.E) fn.ntmps (E.pl.ch fn.ntmps id l.length) l fr H (fun fr' H' => PR P E Y rd fn k fr' H' p Q) := by
  have key : (∃ fr1 H1, ldraw P E.pl (LC P E.E) fn.ntmps id ⟨l⟩ fr H = some (fr1, H1) ∧ PR P E Y rd fn k fr1 H1 p Q) ↔ DX P E.pl (LC P E.E) fn.ntmps (E.pl.ch fn.ntmps id l.length) l fr H (fun fr' H' => PR P E Y rd fn k fr' H' p Q) := by
    unfold DX ldraw
    rw [show (⟨l⟩ : Array Oper).size = l.length from rfl]
    cases E.pl.ch fn.ntmps id l.length <;> exact Iff.rfl
  rw [← key]
  constructor
  · rintro ⟨r, H', p', h, q⟩
    cases h with
    | draw h1 h2 => exact ⟨_, _, h1, _, _, _, h2, q⟩
  · rintro ⟨fr1, H1, h1, r, H', p', h2, q⟩
    exact ⟨_, _, _, .draw h1 h2, q⟩
theorem ex_one {a b : Type} {x : a} {y : b} {K : a → b → Prop} : (∃ fr' H', (some (x, y) : Option (a × b)) = some (fr', H') ∧ K fr' H') ↔ K x y := by
  constructor
  · rintro ⟨_, _, e, h⟩
    injection e with e; injection e with e1 e2; subst e1 e2; exact h
  · exact fun h => ⟨_, _, rfl, h⟩
theorem ex_non {a b : Type} {K : a → b → Prop} : (∃ fr' H', (none : Option (a × b)) = some (fr', H') ∧ K fr' H') ↔ False := by
  constructor
  · rintro ⟨_, _, e, h⟩; cases e
  · exact False.elim
theorem lx_nil : LX P T N all [] fr H K ↔ K fr H := by unfold LX; simp only [lops]; exact ex_one
theorem lx_cons : LX P T N all (⟨some d, op, ty, pos, after, none⟩ :: os) fr H K ↔ XS (lopxB P T op fr H) d N fr (fun fr' H' => LX P T N all os fr' H' K) := by
  unfold LX XS; simp only [lops, lwant, lopB_x]
  cases lopxB P T op fr H with
  | none => exact ex_non
  | some x =>
    obtain ⟨v, H1⟩ := x
    simp only [lput]
    by_cases hd : d < N
    · simp only [hd, if_true, true_and]
    · simp only [hd, if_false, false_and]; exact ex_non
theorem lx_cons0 : LX P T N all (⟨none, op, ty, pos, after, none⟩ :: os) fr H K ↔ XS0 (lopxB P T op fr H) fr (fun fr' H' => LX P T N all os fr' H' K) := by
  unfold LX XS0; simp only [lops, lwant, lopB_x]
  cases lopxB P T op fr H with
  | none => exact ex_non
  | some x => obtain ⟨v, H1⟩ := x; simp only [lput]
theorem lx_guard {i : Nat} {want : Bool} : LX P T N all (⟨some d, op, ty, pos, after, some (i, want)⟩ :: os) fr H K ↔ XG (guardx all fr i want) (lopxB P T op fr H) d N fr H (fun fr' H' => LX P T N all os fr' H' K) := by
  unfold LX XG; simp only [lops, lwant_x, lopB_x]
  cases guardx all fr i want with
  | none => exact ex_non
  | some b =>
    cases b with
    | true =>
      unfold XS
      simp only
      cases lopxB P T op fr H with
      | none => exact ex_non
      | some x =>
        obtain ⟨v, H1⟩ := x
        simp only [lput]
        by_cases hd : d < N
        · simp only [hd, if_true, true_and]
        · simp only [hd, if_false, false_and]; exact ex_non
    | false =>
      simp only [lput]
      by_cases hd : d < N
      · simp only [hd, if_true, true_and]
      · simp only [hd, if_false, false_and]; exact ex_non
theorem lx0_nil : LX0 P T N all [] fr H K ↔ K fr H := by unfold LX0; simp only [lops0]; exact ex_one
theorem lx0_cons : LX0 P T N all (⟨some d, op, ty, pos, after, none⟩ :: os) fr H K ↔ XS (lopx P T op fr H) d N fr (fun fr' H' => LX0 P T N all os fr' H' K) := by
  unfold LX0 XS; simp only [lops0, lwant, lop_x]
  cases lopx P T op fr H with
  | none => exact ex_non
  | some x =>
    obtain ⟨v, H1⟩ := x
    simp only [lput]
    by_cases hd : d < N
    · simp only [hd, if_true, true_and]
    · simp only [hd, if_false, false_and]; exact ex_non
theorem lx0_cons0 : LX0 P T N all (⟨none, op, ty, pos, after, none⟩ :: os) fr H K ↔ XS0 (lopx P T op fr H) fr (fun fr' H' => LX0 P T N all os fr' H' K) := by
  unfold LX0 XS0; simp only [lops0, lwant, lop_x]
  cases lopx P T op fr H with
  | none => exact ex_non
  | some x => obtain ⟨v, H1⟩ := x; simp only [lput]
theorem lx0_guard {i : Nat} {want : Bool} : LX0 P T N all (⟨some d, op, ty, pos, after, some (i, want)⟩ :: os) fr H K ↔ XG (guardx all fr i want) (lopx P T op fr H) d N fr H (fun fr' H' => LX0 P T N all os fr' H' K) := by
  unfold LX0 XG; simp only [lops0, lwant_x, lop_x]
  cases guardx all fr i want with
  | none => exact ex_non
  | some b =>
    cases b with
    | true =>
      unfold XS
      simp only
      cases lopx P T op fr H with
      | none => exact ex_non
      | some x =>
        obtain ⟨v, H1⟩ := x
        simp only [lput]
        by_cases hd : d < N
        · simp only [hd, if_true, true_and]
        · simp only [hd, if_false, false_and]; exact ex_non
    | false =>
      simp only [lput]
      by_cases hd : d < N
      · simp only [hd, if_true, true_and]
      · simp only [hd, if_false, false_and]; exact ex_non
theorem mx_nil : MX P L T N all H0 [] fr H K ↔ K fr H := by unfold MX; simp only [lmix]; exact ex_one
theorem mx_cons : MX P L T N all H0 (⟨some d, op, ty, pos, after, none⟩ :: os) fr H K ↔ RSel (loudOp L op) (LX P T N all (⟨some d, op, ty, pos, after, none⟩ :: os) fr H K) (XS (lmixx P T op fr H0 H) d N fr (fun fr' H' => MX P L T N all H0 os fr' H' K)) := by
  unfold MX RSel
  cases hl : loudOp L op with
  | true => unfold LX; simp only [lmix, hl, if_true]
  | false =>
    unfold XS; simp only [lmix, hl, Bool.false_eq_true, if_false, lwant, lmixop_x]
    by_cases hd : d < N
    · simp only [if_pos hd]
      cases lmixx P T op fr H0 H with
      | none => exact ex_non
      | some x => obtain ⟨v, H1⟩ := x; simp only [hd, true_and]
    · simp only [if_neg hd]
      cases lmixx P T op fr H0 H with
      | none => exact ex_non
      | some x => obtain ⟨v, H1⟩ := x; simp only [hd, false_and]; exact ex_non
theorem mx_cons0 : MX P L T N all H0 (⟨none, op, ty, pos, after, none⟩ :: os) fr H K ↔ RSel (loudOp L op) (LX P T N all (⟨none, op, ty, pos, after, none⟩ :: os) fr H K) False := by
  unfold MX RSel
  cases hl : loudOp L op with
  | true => unfold LX; simp only [lmix, hl, if_true]
  | false => simp [lmix, hl]
theorem mx_guard {i : Nat} {want : Bool} : MX P L T N all H0 (⟨some d, op, ty, pos, after, some (i, want)⟩ :: os) fr H K ↔ RSel (loudOp L op) (LX P T N all (⟨some d, op, ty, pos, after, some (i, want)⟩ :: os) fr H K) (XG (guardx all fr i want) (lmixx P T op fr H0 H) d N fr H (fun fr' H' => MX P L T N all H0 os fr' H' K)) := by
  unfold MX RSel
  cases hl : loudOp L op with
  | true => unfold LX; simp only [lmix, hl, if_true]
  | false =>
    unfold XG; simp only [lmix, hl, Bool.false_eq_true, if_false, lwant_x, lmixop_x]
    by_cases hd : d < N
    · simp only [if_pos hd]
      cases guardx all fr i want with
      | none => exact ex_non
      | some b =>
        cases b with
        | true =>
          unfold XS
          simp only
          cases lmixx P T op fr H0 H with
          | none => exact ex_non
          | some x => obtain ⟨v, H1⟩ := x; simp only [hd, true_and]
        | false => simp only [hd, true_and]
    · simp only [if_neg hd]
      cases guardx all fr i want with
      | none => exact ex_non
      | some b =>
        cases b with
        | true =>
          unfold XS
          simp only
          cases lmixx P T op fr H0 H with
          | none => exact ex_non
          | some x => obtain ⟨v, H1⟩ := x; simp only [hd, false_and]; exact ex_non
        | false => simp only [hd, false_and]; exact ex_non
theorem cx_none : CX P T N all [] j old os fr H K ↔ LX0 P T N all os fr H K := by unfold CX LX0; rw [lchain_nil (j := j) (old := old)]
theorem cx_nil : CX P T N all prs j old [] fr H K ↔ K fr H := by unfold CX; simp only [lchain]; exact ex_one
theorem cx_cons : CX P T N all prs j old (⟨some d, op, ty, pos, after, none⟩ :: os) fr H K ↔ XC P (lopx P T op fr H) d N op all prs j old fr (fun fr' H' => CX P T N all prs (j + 1) (oldS old j (fr, H)) os fr' H' K) := by
  unfold CX XC; simp only [lchain, lwant_no]
  rw [show lopx P T op fr H = lop P T ⟨some d, op, ty, pos, after, none⟩ fr H from rfl]
  cases lop P T ⟨some d, op, ty, pos, after, none⟩ fr H with
  | none => exact ex_non
  | some x =>
    obtain ⟨v, H1⟩ := x
    simp only [lput]
    by_cases hd : d < N
    · simp only [hd, if_true, true_and]
      have e1 := ckR_iff (P := P) (op := op) (fr := fr) (old := old) (j := j) (v := v) (ty := ty) (pos := pos) (after := after) (some d) none (prs := prs)
      by_cases hc : ckR P j op fr old v prs ∧ ckH P j all old (upd fr d v) H1 prs
      · rw [if_pos (And.intro (e1.1 hc.1) (ckH_iff.1 hc.2))]
        simp only [hc, true_and]
        exact Iff.rfl
      · rw [if_neg (fun h => hc (And.intro (e1.2 (And.left h)) (ckH_iff.2 (And.right h))))]
        exact ⟨fun h => (ex_non.1 h).elim, fun ⟨h1, h2, _⟩ => absurd ⟨h1, h2⟩ hc⟩
    · simp only [hd, if_false, false_and]; exact ex_non
theorem cx_cons0 : CX P T N all prs j old (⟨none, op, ty, pos, after, none⟩ :: os) fr H K ↔ XC0 P (lopx P T op fr H) op all prs j old fr (fun fr' H' => CX P T N all prs (j + 1) (oldS old j (fr, H)) os fr' H' K) := by
  unfold CX XC0; simp only [lchain, lwant_no]
  rw [show lopx P T op fr H = lop P T ⟨none, op, ty, pos, after, none⟩ fr H from rfl]
  cases lop P T ⟨none, op, ty, pos, after, none⟩ fr H with
  | none => exact ex_non
  | some x =>
    obtain ⟨v, H1⟩ := x
    simp only [lput]
    have e1 := ckR_iff (P := P) (op := op) (fr := fr) (old := old) (j := j) (v := v) (ty := ty) (pos := pos) (after := after) none none (prs := prs)
    by_cases hc : ckR P j op fr old v prs ∧ ckH P j all old fr H1 prs
    · rw [if_pos (And.intro (e1.1 hc.1) (ckH_iff.1 hc.2))]
      simp only [hc, true_and]
      exact Iff.rfl
    · rw [if_neg (fun h => hc (And.intro (e1.2 (And.left h)) (ckH_iff.2 (And.right h))))]
      exact ⟨fun h => (ex_non.1 h).elim, fun ⟨h1, h2, _⟩ => absurd ⟨h1, h2⟩ hc⟩
theorem cx_guard {g : Nat} {want : Bool} : CX P T N all prs j old (⟨some d, op, ty, pos, after, some (g, want)⟩ :: os) fr H K ↔ XCG P (guardx all fr g want) (lopx P T op fr H) d N op all prs j old fr H (fun fr' H' => CX P T N all prs (j + 1) (oldS old j (fr, H)) os fr' H' K) := by
  unfold CX XCG; simp only [lchain, lwant_x]
  cases guardx all fr g want with
  | none => exact ex_non
  | some b =>
    cases b with
    | true =>
      simp only [XC]
      rw [show lopx P T op fr H = lop P T ⟨some d, op, ty, pos, after, some (g, want)⟩ fr H from rfl]
      cases lop P T ⟨some d, op, ty, pos, after, some (g, want)⟩ fr H with
      | none => exact ex_non
      | some x =>
        obtain ⟨v, H1⟩ := x
        simp only [lput]
        by_cases hd : d < N
        · simp only [hd, if_true, true_and]
          have e1 := ckR_iff (P := P) (op := op) (fr := fr) (old := old) (j := j) (v := v) (ty := ty) (pos := pos) (after := after) (some d) (some (g, want)) (prs := prs)
          by_cases hc : ckR P j op fr old v prs ∧ ckH P j all old (upd fr d v) H1 prs
          · rw [if_pos (And.intro (e1.1 hc.1) (ckH_iff.1 hc.2))]
            simp only [hc, true_and]
            exact Iff.rfl
          · rw [if_neg (fun h => hc (And.intro (e1.2 (And.left h)) (ckH_iff.2 (And.right h))))]
            exact ⟨fun h => (ex_non.1 h).elim, fun ⟨h1, h2, _⟩ => absurd ⟨h1, h2⟩ hc⟩
        · simp only [hd, if_false, false_and]; exact ex_non
    | false =>
      simp only [lput]
      by_cases hd : d < N
      · simp only [hd, if_true, true_and]
        by_cases hc : ckH P j all old (upd fr d undef) H prs
        · rw [if_pos (ckH_iff.1 hc)]
          simp only [hc, true_and]
          exact Iff.rfl
        · rw [if_neg (fun h => hc (ckH_iff.2 h))]
          exact ⟨fun h => (ex_non.1 h).elim, fun ⟨h1, _⟩ => absurd h1 hc⟩
      · simp only [hd, if_false, false_and]; exact ex_non
theorem dx_none {l : List Oper} : DX P L T N none l fr H K ↔ MX P L T N ⟨l⟩ H l fr H K := Iff.rfl
theorem dx_some {l : List Oper} : DX P L T N (some prs) l fr H K ↔ CX P T N ⟨l⟩ prs 0 (fun _ => (fr, H)) l fr H K := Iff.rfl
attribute [simp ↓] pr_draw dx_none dx_some lx_nil lx_cons lx_cons0 lx_guard lx0_nil lx0_cons lx0_cons0 lx0_guard mx_nil mx_cons mx_cons0 mx_guard cx_none cx_nil cx_cons cx_cons0 cx_guard
@[congr] theorem dx_congr {x y : Option (List (Nat × Nat))} {l : List Oper} (h : x = y) : DX P L T N x l fr H K = DX P L T N y l fr H K := by rw [h]
@[congr] theorem xs_congr {x y : Option (Value × LH)} (h : x = y) : XS x d N fr F = XS y d N fr F := by rw [h]
@[congr] theorem xs0_congr {x y : Option (Value × LH)} (h : x = y) : XS0 x fr F = XS0 y fr F := by rw [h]
@[congr] theorem xg_congr {g g' : Option Bool} {x : Option (Value × LH)} (h : g = g') : XG g x d N fr H F = XG g' x d N fr H F := by rw [h]
@[congr] theorem xc_congr {x y : Option (Value × LH)} (h : x = y) : XC P x d N op all prs j old fr F = XC P y d N op all prs j old fr F := by rw [h]
@[congr] theorem xc0_congr {x y : Option (Value × LH)} (h : x = y) : XC0 P x op all prs j old fr F = XC0 P y op all prs j old fr F := by rw [h]
@[congr] theorem xcg_congr {g g' : Option Bool} {x : Option (Value × LH)} (h : g = g') : XCG P g x d N op all prs j old fr H F = XCG P g' x d N op all prs j old fr H F := by rw [h]
@[simp] theorem xs_some : XS (some (v, H)) d N fr F ↔ d < N ∧ F (upd fr d v) H := Iff.rfl
@[simp] theorem xs_none : XS none d N fr F ↔ False := Iff.rfl
@[simp] theorem xs0_some : XS0 (some (v, H)) fr F ↔ F fr H := Iff.rfl
@[simp] theorem xs0_none : XS0 none fr F ↔ False := Iff.rfl
@[simp] theorem xg_true {x : Option (Value × LH)} : XG (some true) x d N fr H F ↔ XS x d N fr F := Iff.rfl
@[simp] theorem xg_false {x : Option (Value × LH)} : XG (some false) x d N fr H F ↔ d < N ∧ F (upd fr d undef) H := Iff.rfl
@[simp] theorem xc_some : XC P (some (v, H)) d N op all prs j old fr F ↔ d < N ∧ ckR P j op fr old v prs ∧ ckH P j all old (upd fr d v) H prs ∧ F (upd fr d v) H := Iff.rfl
@[simp] theorem xc_none : XC P none d N op all prs j old fr F ↔ False := Iff.rfl
@[simp] theorem xc0_some : XC0 P (some (v, H)) op all prs j old fr F ↔ ckR P j op fr old v prs ∧ ckH P j all old fr H prs ∧ F fr H := Iff.rfl
@[simp] theorem xc0_none : XC0 P none op all prs j old fr F ↔ False := Iff.rfl
@[simp] theorem xcg_true {x : Option (Value × LH)} : XCG P (some true) x d N op all prs j old fr H F ↔ XC P x d N op all prs j old fr F := Iff.rfl
@[simp] theorem xcg_false {x : Option (Value × LH)} : XCG P (some false) x d N op all prs j old fr H F ↔ d < N ∧ ckH P j all old (upd fr d undef) H prs ∧ F (upd fr d undef) H := Iff.rfl
end
end Go.Lg
/-
  A logical run of Go code: a run cut at a point of a row of statements.
-/
set_option linter.unusedSimpArgs false
set_option linter.unusedVariables false
namespace Go.Lg
open Go.Tg Go.RowKit
/-- what stands behind the first n statements -/
def seqDrop : Nat → Code → Code
  | 0, c => c
  | n + 1, .seq _ b => seqDrop n b
  | _ + 1, c => c
/-- the first n statements, with another rest -/
def seqPre : Nat → Code → Code → Code
  | 0, _, K => K
  | n + 1, .seq a b, K => .seq a (seqPre n b K)
  | _ + 1, c, _ => c
@[simp ↓] theorem seqDrop_zero {c : Code} : seqDrop 0 c = c := by cases c <;> rfl
@[simp ↓] theorem seqDrop_succ {n : Nat} {a b : Code} : seqDrop (n + 1) (.seq a b) = seqDrop n b := rfl
@[simp ↓] theorem seqPre_zero {c K : Code} : seqPre 0 c K = K := by cases c <;> rfl
@[simp ↓] theorem seqPre_succ {n : Nat} {a b K : Code} : seqPre (n + 1) (.seq a b) K = .seq a (seqPre n b K) := rfl
@[simp] theorem splice_all {cs vs : List Value} (h : cs.length = vs.length) : splice cs 0 vs = vs := by
  unfold splice; simp [h]
/-! numbers beside written ones, among the natural numbers -/
section
variable {n m : Nat}
theorem lit_le : (@OfNat.ofNat Int n _ ≤ (m : Int)) ↔ (@OfNat.ofNat Nat n _ ≤ m) := by show ((n : Int) ≤ m) ↔ n ≤ m; omega
theorem le_lit : ((m : Int) ≤ @OfNat.ofNat Int n _) ↔ (m ≤ @OfNat.ofNat Nat n _) := by show ((m : Int) ≤ n) ↔ m ≤ n; omega
theorem lit_lt : (@OfNat.ofNat Int n _ < (m : Int)) ↔ (@OfNat.ofNat Nat n _ < m) := by show ((n : Int) < m) ↔ n < m; omega
theorem lt_lit : ((m : Int) < @OfNat.ofNat Int n _) ↔ (m < @OfNat.ofNat Nat n _) := by show ((m : Int) < n) ↔ m < n; omega
theorem eq_lit : ((m : Int) = @OfNat.ofNat Int n _) ↔ (m = @OfNat.ofNat Nat n _) := by show ((m : Int) = n) ↔ m = n; omega
theorem lit_eq : (@OfNat.ofNat Int n _ = (m : Int)) ↔ (@OfNat.ofNat Nat n _ = m) := by show ((n : Int) = m) ↔ n = m; omega
end
theorem lbin_fn_ne {P : Program} {t : TypeId} {g : FuncId} {f cp : Array Value} {a b c : _} (hu : P.underlying t = some (.func a b c)) : lbin P .neq t (.func (.func g) f cp) .nilFunc = some (.bool true) := by
  simp [lbin, hu]
theorem lbin_fn_eq {P : Program} {t : TypeId} {g : FuncId} {f cp : Array Value} {a b c : _} (hu : P.underlying t = some (.func a b c)) : lbin P .eql t (.func (.func g) f cp) .nilFunc = some (.bool false) := by
  simp [lbin, hu]
attribute [simp] lbin_fn_eq
attribute [simp] lbin_fn_ne
@[simp ↓] theorem ev_nilIface {fr : Fr} : ev fr (.const .nilIface) = .nilIface := rfl
@[simp ↓] theorem ev_nilFunc {fr : Fr} : ev fr (.const .nilFunc) = .nilFunc := rfl
@[simp] theorem flat_nilIface : flatB .nilIface = true := by simp only [flatB, flat1B, atomB]
@[simp] theorem cell_nilIface : cellB .nilIface = true := by simp only [cellB]
@[simp] theorem cell_nilFunc : cellB .nilFunc = true := by simp only [cellB]
@[simp] theorem atom_str {l : List UInt8} : atomB (str l) = true := by simp only [atomB, str]
@[simp] theorem atom_int {k : IntKind} {n : Int} : atomB (.int k n) = true := by simp only [atomB]
@[simp] theorem atom_bool {b : Bool} : atomB (.bool b) = true := by simp only [atomB]
@[simp] theorem atom_nil : atomB (.pointer none) = true := by simp only [atomB]
@[simp] theorem atom_nilslice : atomB (.slice none 0 0) = true := by simp [atomB]
@[simp] theorem lbE_nil {P : Program} {t : TypeId} {z : List Value} (hp : plcB P t = true) (hz : z.all atomB = true) : lbE P t (some (.agg ⟨z⟩)) [] = some (.agg ⟨z⟩) := by
  rw [lbE_agg (by simp only [knownL]) hz, lfill_nil hp]; rfl
section
variable {H H' : LH} {b : LB} {l : Nat}
@[simp] theorem le_new_iff (h : H.n ≤ H'.n) : H.le (H'.new b) ↔ H.le H' := by
  constructor
  · intro hl; exact ⟨h, fun k hk => by rw [← hl.2 k hk, get_new_ne (by omega)]⟩
  · intro hl; exact hl.new
@[simp] theorem le_set_iff (h : H.n ≤ l) : H.le (H'.set l b) ↔ H.le H' := by
  constructor
  · intro hl; exact ⟨hl.1, fun k hk => by rw [← hl.2 k hk, get_set_ne (by omega)]⟩
  · intro hl; exact hl.set h
@[simp] theorem le_kill_iff (h : H.n ≤ l) : H.le (H'.kill l) ↔ H.le H' := by
  constructor
  · intro hl; exact ⟨hl.1, fun k hk => by rw [← hl.2 k hk, get_kill_ne (by omega)]⟩
  · intro hl; exact hl.kill h
end
section
variable {P : Program} {E : Ext} {fn : Func} {k : List Item} {fr : Fr} {H : LH} {Q : Value × LH → Prop} {c : Code}
theorem runs_cut (n : Nat) (Inv : Fr → LH → Prop) (h1 : ∀ fr H, Inv fr H → Runs P E fn (.code (seqDrop n c) :: k) fr H Q)
    (h2 : ∀ K, (∀ fr H, Inv fr H → Runs P E fn (.code K :: k) fr H Q) → Runs P E fn (.code (seqPre n c K) :: k) fr H Q) (hc : seqPre n c (seqDrop n c) = c) : Runs P E fn (.code c :: k) fr H Q := by
  have := h2 (seqDrop n c) h1
  rw [hc] at this
  exact this
/-- a way to a place in a code: behind n statements; what stands ahead in a pair; what is done if so, if not; a block's body -/
inductive Dir where
  | d (n : Nat)
  | l
  | t
  | e
  | b
def cAt : List Dir → Code → Code
  | [], c => c
  | .d n :: p, c => cAt p (seqDrop n c)
  | .l :: p, .seq a _ => cAt p a
  | .t :: p, .cond _ a _ => cAt p a
  | .e :: p, .cond _ _ a => cAt p a
  | .b :: p, .block _ a => cAt p a
  | _ :: _, c => c
def cPut : List Dir → Code → Code → Code
  | [], _, K => K
  | .d n :: p, c, K => seqPre n c (cPut p (seqDrop n c) K)
  | .l :: p, .seq a b, K => .seq (cPut p a K) b
  | .t :: p, .cond x a b, K => .cond x (cPut p a K) b
  | .e :: p, .cond x a b, K => .cond x a (cPut p b K)
  | .b :: p, .block i a, K => .block i (cPut p a K)
  | _ :: _, c, _ => c
/-- what is still to be done behind that place -/
def cK : List Dir → Code → List Item → List Item
  | [], _, k => k
  | .d n :: p, c, k => cK p (seqDrop n c) k
  | .l :: p, .seq a b, k => cK p a (.code b :: k)
  | .t :: p, .cond _ a _, k => cK p a k
  | .e :: p, .cond _ _ a, k => cK p a k
  | .b :: p, .block i a, k => cK p a (.inBlock i :: k)
  | _ :: _, _, k => k
section
variable {p : List Dir} {n i : Nat} {a b K : Code} {x : Operand}
@[simp ↓] theorem cAt_nil : cAt [] c = c := by cases c <;> rfl
@[simp ↓] theorem cAt_d : cAt (.d n :: p) c = cAt p (seqDrop n c) := by cases c <;> rfl
@[simp ↓] theorem cAt_l : cAt (.l :: p) (.seq a b) = cAt p a := rfl
@[simp ↓] theorem cAt_t : cAt (.t :: p) (.cond x a b) = cAt p a := rfl
@[simp ↓] theorem cAt_e : cAt (.e :: p) (.cond x a b) = cAt p b := rfl
@[simp ↓] theorem cAt_b : cAt (.b :: p) (.block i a) = cAt p a := rfl
@[simp ↓] theorem cPut_nil : cPut [] c K = K := by cases c <;> rfl
@[simp ↓] theorem cPut_d : cPut (.d n :: p) c K = seqPre n c (cPut p (seqDrop n c) K) := by cases c <;> rfl
@[simp ↓] theorem cPut_l : cPut (.l :: p) (.seq a b) K = .seq (cPut p a K) b := rfl
@[simp ↓] theorem cPut_t : cPut (.t :: p) (.cond x a b) K = .cond x (cPut p a K) b := rfl
@[simp ↓] theorem cPut_e : cPut (.e :: p) (.cond x a b) K = .cond x a (cPut p b K) := rfl
@[simp ↓] theorem cPut_b : cPut (.b :: p) (.block i a) K = .block i (cPut p a K) := rfl
@[simp ↓] theorem cK_nil : cK [] c k = k := by cases c <;> rfl
@[simp ↓] theorem cK_d : cK (.d n :: p) c k = cK p (seqDrop n c) k := by cases c <;> rfl
@[simp ↓] theorem cK_l : cK (.l :: p) (.seq a b) k = cK p a (.code b :: k) := rfl
@[simp ↓] theorem cK_t : cK (.t :: p) (.cond x a b) k = cK p a k := rfl
@[simp ↓] theorem cK_e : cK (.e :: p) (.cond x a b) k = cK p b k := rfl
@[simp ↓] theorem cK_b : cK (.b :: p) (.block i a) k = cK p a (.inBlock i :: k) := rfl
end
theorem runs_at (p : List Dir) (Inv : Fr → LH → Prop) (h1 : ∀ fr H, Inv fr H → Runs P E fn (.code (cAt p c) :: cK p c k) fr H Q)
    (h2 : ∀ K, (∀ fr H, Inv fr H → Runs P E fn (.code K :: cK p c k) fr H Q) → Runs P E fn (.code (cPut p c K) :: k) fr H Q) (hc : cPut p c (cAt p c) = c) : Runs P E fn (.code c :: k) fr H Q := by
  have := h2 (cAt p c) h1
  rw [hc] at this
  exact this
end
end Go.Lg
/-
  strings.IndexRune at a rune that is no ASCII sign, in an ASCII text: there is none.
-/
set_option linter.unusedSimpArgs false
set_option linter.unusedVariables false
set_option maxRecDepth 100000
namespace Go.Lg
open Go.Tg Go.RowKit
theorem lconv_rune {P : Program} {H : LH} {t c : TypeId} {kd : IntKind} {n : Int} (h1 : (P.underlying t).isSome = true) (h2 : P.underlying c = some .string) : lconv P t c (.int kd n) H = some (str (Utf8.encode n).data.toList) := by
  obtain ⟨u, hu⟩ := Option.isSome_iff_exists.1 h1
  have e : pureVal P (convert t c (.int kd n)) = some (.string (Utf8.encode n)) := by
    simp only [convert, pureVal_bind, pureVal_und, hu, h2, Option.bind_some, Conv.intToString, pureVal_pure]
  unfold lconv
  simp only [flat_int, if_true, pureFlat, e, flat_string, str_ba, flat_str]
/-- a function of flat arguments, by a run with throws -/
theorem calls_of_R {P : Program} {E : PEnv} {f : FuncId} {args : List Value} {v : Value} {w : World} (hs : ∀ H, Sound P E (.call f args H (.ret v) H)) (hf : ∀ x ∈ args, flatB x = true) (hv : flatB v = true) : Calls P f args.toArray w fun e w' => e = .returned v ∧ Change (fun _ => False) w w' := by
  obtain ⟨_, hc⟩ := hs (LH.empty w 0)
  obtain ⟨h1, h2⟩ := flats_rel (D := (LH.empty w 0).D) (ι := ren0) hf
  refine (hc ren0 w args.toArray (rel_empty (Nat.zero_le _)) h1 h2).mono ?_
  rintro e w' ⟨ι', hr, ho⟩
  obtain ⟨v', rfl, hv'⟩ := hr
  rw [flat_eq hv' hv]
  exact ⟨rfl, ho.chg.mono (fun _ _ ⟨_, _, h, _⟩ => by cases h)⟩
end Go.Lg
namespace Go.Proofs.YthgcgjpbhbikaaaDoor
open Go.Lg Go.Tg
def gValidRune : List Value → Option Value
  | [.int .i32 r] => some (.bool (Lib.validRune r))
  | _ => none
theorem ok_ValidRune : SpecOk Tryd.prog 60 (flatSpec gValidRune) := specOk_flat ⟨_, Tryd.func60, rfl, by decide⟩ fun args v h => by
  unfold gValidRune at h
  split at h
  · injection h with h; subst h
    exact ⟨flat1 (by simp), rfl, fun w => same_mono (Tryd.utf8_ValidRune _ w)⟩
  · cases h
noncomputable def eRune : PEnv := ⟨extLL [(34, flatSpec gIndexByte), (60, flatSpec gValidRune)] [], fun _ => false, ⟨fun _ => false, chT⟩, fun _ => none, none, 0⟩
theorem eRune_ok : ∀ p ∈ [(34, flatSpec gIndexByte), (60, flatSpec gValidRune)], SpecOk Tryd.prog p.1 p.2 := by
  intro p hp
  rcases List.mem_cons.1 hp with rfl | hp
  · exact ok_IndexByte
  rcases List.mem_cons.1 hp with rfl | hp
  · exact ok_ValidRune
  cases hp
theorem eRune_sound {j : J} (h : R Tryd.prog eRune j) : Sound Tryd.prog eRune j := sound (LC_ok (extL_ok eRune_ok) mixed) mixed (fun f s h => by cases h) (fun f h => by cases h) h
section
variable {H : LH} {s : List UInt8}
@[simp] theorem rIndexByte {c : UInt8} : LC Tryd.prog eRune.E 34 [str s, .int .u8 c.toNat] H = some (.int .i64 (Lib.indexByte s c), H) := LC_flat (g := gIndexByte) rfl (by simp [gIndexByte, str])
@[simp] theorem rValidRune {r : Int} : LC Tryd.prog eRune.E 60 [.int .i32 r] H = some (.bool (Lib.validRune r), H) := LC_flat (g := gValidRune) rfl (by simp [gValidRune])
@[simp] theorem eRune_ps {g : FuncId} : eRune.ps g = false := rfl
@[simp] theorem eRune_ch {n id k : Nat} : eRune.pl.ch n id k = chT n id k := rfl
@[simp] theorem eRune_loud {g : FuncId} : eRune.pl g = false := rfl
theorem ib_none {c : UInt8} : ∀ {l : List UInt8}, (∀ b ∈ l, b ≠ c) → Lib.indexByte l c = -1
  | [], _ => rfl
  | b :: l, h => by
    show (if b == c then 0 else if Lib.indexByte l c == -1 then -1 else Lib.indexByte l c + 1) = _
    rw [if_neg (by simpa using h b (by simp)), ib_none (fun x hx => h x (by simp [hx]))]; rfl
theorem idxRune_R {r : Int} (h128 : 128 ≤ r) (hv : Lib.validRune r = true) (h533 : r ≠ 65533) (hs : s.length < 4294967281) (hA : ∀ b ∈ s, b.toNat < 128) : R Tryd.prog eRune (.call 43 [str s, .int .i32 r] H (.ret (.int .i64 (-1))) H) := by
  have hv' : Utf8.valid r = true := by
    have := of_decide_eq_true hv
    unfold Utf8.valid
    simp only [Bool.or_eq_true, Bool.and_eq_true, decide_eq_true_eq]
    omega
  obtain ⟨rs, hrs, f1, f2, c, hc, hc128⟩ : ∃ rs : List UInt8, (Utf8.encode r).data.toList = rs ∧ 2 ≤ rs.length ∧ rs.length ≤ 4 ∧ ∃ (c : UInt8), rs[rs.length - 1]? = some c ∧ 128 ≤ c.toNat := by
    obtain ⟨f1, f2, f3⟩ := encode_facts r hv' h128
    have e : (Utf8.encode r).data.toList.length = (Utf8.encode r).size := Array.length_toList
    refine ⟨_, rfl, by omega, by omega, _, ?_, f3 (by omega)⟩
    rw [e, Array.getElem?_toList]
    exact Array.getElem?_eq_getElem _
  refine pcall_flat Tryd.func43 rfl (Nat.le_of_ble_eq_true rfl) (by decide) (by kernel_rfl) rfl ?_
  have q1 := eq_true (show (0 : Int) ≤ r by omega)
  have q2 := eq_false (show ¬ r < 128 by omega)
  have q3 := eq_false h533
  have hcv : ∀ H, lconv Tryd.prog 21 9 (.int .i32 r) H = some (str rs) := fun H => by rw [lconv_rune (by rw [Tryd.underlying21]; rfl) Tryd.underlying9, hrs]
  have w1 : IntKind.i64.wrap ((rs.length : Int) - 1) = (rs.length : Int) - 1 := by rw [wrap64_in (by omega) (by omega)]
  simp (config := { maxSteps := 1000000 }) [q1, q2, q3, hv, hcv, w1]
  refine pr_loop.2 (pr_inLoop.2 ?_)
  by_cases hlt : rs.length - 1 < s.length
  · have p1 := eq_true (show (rs.length : Int) - 1 < (s.length : Int) by omega)
    have p2 := eq_true (show (1 : Int) ≤ (rs.length : Int) by omega)
    have e1 : ((rs.length : Int) - 1).toNat = rs.length - 1 := by omega
    have a1 : at_ s ((rs.length : Int) - 1) = s[rs.length - 1] := by
      unfold at_; rw [e1, List.getD_eq_getElem?_getD, List.getElem?_eq_getElem hlt]; rfl
    have a2 : at_ rs ((rs.length : Int) - 1) = c := by
      unfold at_; rw [e1, List.getD_eq_getElem?_getD, hc]; rfl
    have hsb := hA _ (List.getElem_mem hlt)
    have p3 := eq_false (show ¬ (s[rs.length - 1].toNat : Int) = (c.toNat : Int) by omega)
    have w2 : IntKind.i64.wrap (rs.length : Int) = (rs.length : Int) := by rw [wrap64_in (by omega) (by omega)]
    have p4 := eq_true (show (rs.length : Int) ≤ (s.length : Int) by omega)
    have p5 : Lib.indexByte (s.drop rs.length) c = -1 := by
      exact ib_none fun b hb e => by have := hA b (List.mem_of_mem_drop hb); rw [e] at this; omega
    have p6 := eq_true (show (rs.length : Int) - 1 < (rs.length : Int) by omega)
    generalize s[rs.length - 1] = d at *
    simp (config := { maxSteps := 1000000 }) [p1, p2, p6, e1, a1, a2, p3, w2, p4, p5]
  · have p1 := eq_false (show ¬ (rs.length : Int) - 1 < (s.length : Int) by omega)
    simp (config := { maxSteps := 1000000 }) [p1]
end
end Go.Proofs.YthgcgjpbhbikaaaDoor
/-
  strings.IndexAny, strings.ContainsAny of any text at ASCII signs.
-/
set_option linter.unusedSimpArgs false
set_option linter.unusedVariables false
set_option maxRecDepth 1000000
namespace Go.Proofs.YthgcgjpbhbikaaaDoor
open Go.RowKit Go.Lib Go.Tg

theorem idxRune_any (s : ByteArray) (r : Int) (w : World) (h128 : 128 ≤ r) (hv : Lib.validRune r = true) (hs : s.size < 4294967281) (hascii : ∀ (j : Nat) b, s.data.toList[j]? = some b → b.toNat < 128) :
    Calls Tryd.prog 43 #[.string s, .int .i32 r] w fun e w' => e = .returned (.int .i64 (-1)) ∧ Change (fun _ => False) w w' := by
  by_cases h533 : r = 65533
  · subst h533
    refine (idxRune_bad s w hascii).mono ?_
    rintro e w' ⟨h, pos, rfl⟩
    exact ⟨h, (Change.refl _ w).alloc _⟩
  · have hl : s.data.toList.length < 4294967281 := by rw [← Lib.size_eq]; exact hs
    have hA : ∀ b ∈ s.data.toList, b.toNat < 128 := fun b hb => by
      obtain ⟨j, hj⟩ := List.mem_iff_getElem?.1 hb
      exact hascii j b hj
    have := Go.Lg.calls_of_R (w := w) (args := [Go.Lg.str s.data.toList, .int .i32 r]) (v := .int .i64 (-1)) (fun H => eRune_sound (idxRune_R (H := H) h128 hv h533 hl hA)) (Go.Lg.flat2 (by simp) (by simp)) (by simp)
    rw [← Go.Lg.str_ba] at this
    exact this

theorem idxAny_any (s chars : ByteArray) (w : World) (hs : s.size < 4294967281) (hcs : chars.size < 4294967281) (hac : ∀ (j : Nat) b, chars.data.toList[j]? = some b → b.toNat < 128) :
    Calls Tryd.prog 25 #[.string s, .string chars] w fun e w' => e = .returned (.int .i64 (Lib.indexAny s.data.toList chars.data.toList)) ∧ Change (fun _ => False) w w' := by
  rcases Nat.lt_or_ge chars.size 2 with h | h
  · rcases Nat.eq_zero_or_pos chars.size with h0 | h0
    · exact Go.Lg.same_mono (Tryd.strings_IndexAny_none s chars w h0)
    · exact Go.Lg.same_mono (Tryd.strings_IndexAny_one s chars w (by omega) hac)
  · rcases Nat.lt_or_ge 8 s.size with h8 | h8
    · refine (Tryd.strings_IndexAny_long (fun w => by first | exact Tryd.zeroValue_ascii w | exact (by kernel_rfl)) s chars w h h8 hs hcs hac).mono ?_
      rintro e w' ⟨h1, rfl⟩
      exact ⟨h1, ((Change.refl _ w).alloc _).alloc _⟩
    · exact idxAny_short (fun s r w a b c d => idxRune_any s r w a b c d) s chars w h h8 hcs hac
end Go.Proofs.YthgcgjpbhbikaaaDoor
/-
  strings.Builder, strings.Join over the logical run.
-/
set_option linter.unusedSimpArgs false
set_option linter.unusedVariables false
set_option maxRecDepth 100000
namespace Go.Lg
open Go.Tg Go.RowKit
section
variable {P : Program} {H H' : LH} {ι : Ren} {w w' : World}
theorem Rel.cell0 (h : Rel P H ι w) {l i : Nat} {b : LB} {v : Value} (hb : H.get l = some b) (hv : b.cells[i]? = some v) : ∃ v', w.cell? ⟨(ι l).blk, (ι l).off + i, none⟩ = some v' ∧ VR H.D ι v v' := by
  obtain ⟨arr, t, f, hw, _, h1, _⟩ := h.blk l b hb
  obtain ⟨v', h2, h3⟩ := h1 i v hv
  exact ⟨v', by simp [World.cell?, hw, h2], h3⟩
theorem Rel.row (h : Rel P H ι w) {l : Nat} {b : LB} (hb : H.get l = some b) (hrw : b.rw = true) : (ι l).off = 0 := by
  obtain ⟨arr, t, f, hw, _, _, h1⟩ := h.blk l b hb
  exact (h1 hrw).1
theorem vr_row {D : Nat → Prop} {g o n c : Nat} {v' : Value} (h : VR D ι (.slice (some ⟨g, o, none⟩) n c) v') (h0 : n ≠ 0) : v' = .slice (some ⟨(ι g).blk, (ι g).off + o, none⟩) n (c + (ι g).slack) := by
  cases h with
  | flat _ hv => simp [flatB, flat1B, atomB] at hv
  | slice _ _ _ _ _ _ => rfl
  | slice0 _ _ _ _ => exact absurd rfl h0
/-- a block turns, that nobody asks any more -/
theorem out_kill (h : Rel P H ι w) {l : Nat} {b : LB} (hb : H.get l = some b) (hrw : b.rw = true) (hc : Change (fun k => k = (ι l).blk) w w') : Out P H ι w (H.kill l) ι w' := by
  have hRW : RW H ι (ι l).blk := ⟨l, b, hb, hrw, rfl⟩
  refine ⟨rel_off (rel_kill h l) hc ?_, Nat.le_refl _, fun _ h => h, fun _ _ => rfl, hc.mono (fun k _ e => by rw [e]; exact hRW), ?_, ?_, rfl⟩
  · rintro k rfl
    refine ⟨?_, fun hk => (h.pin _ hk).2.2 hRW⟩
    rintro ⟨l', b', hb', e⟩
    have hb2 : (H.kill l).get l' = some b' := hb'
    have hne : l' ≠ l := by rintro rfl; simp at hb2
    rw [get_kill_ne hne] at hb2
    exact h.sep l l' b b' hb hb2 hrw (Ne.symm hne) e.symm
  · rintro k ⟨l', b', hb', hr, e⟩
    have hb2 : (H.kill l).get l' = some b' := hb'
    have hne : l' ≠ l := by rintro rfl; simp at hb2
    rw [get_kill_ne hne] at hb2
    exact .inl ⟨l', b', hb2, hr, e⟩
  · rintro k ⟨l', b', hb', e⟩
    have hb2 : (H.kill l).get l' = some b' := hb'
    have hne : l' ≠ l := by rintro rfl; simp at hb2
    rw [get_kill_ne hne] at hb2
    exact .inl ⟨l', b', hb2, e⟩
end
end Go.Lg
namespace Go.Proofs.YthgcgjpbhbikaaaDoor
open Go.Lg Go.Tg
/-- what stands for one pointer -/
theorem one_ptr {P : Program} {H : LH} {ι : Ren} {b : Nat} {args' : Array Value} (hl : [Value.pointer (some ⟨b, 0, none⟩)].length = args'.size) (h : ∀ (i : Nat) (x y : Value), [Value.pointer (some ⟨b, 0, none⟩)][i]? = some x → args'[i]? = some y → VR H.D ι x y) : args' = #[.pointer (some ⟨(ι b).blk, (ι b).off, none⟩)] := by
  have h1 : args'.size = 1 := hl.symm
  have hv := h 0 _ _ rfl (Array.getElem?_eq_getElem (by omega))
  obtain ⟨_, e⟩ := vr_ptr hv
  apply Array.ext
  · simp [h1]
  · intro i h2 h3
    obtain rfl : i = 0 := by omega
    rw [e]; simp
theorem size1 {args' : Array Value} {x : Value} (hl : [x].length = args'.size) : ∃ y, args' = #[y] := by
  have h1 : args'.size = 1 := hl.symm
  exact ⟨args'[0], by apply Array.ext; simp [h1]; intro i h2 h3; obtain rfl : i = 0 := by omega
                      simp⟩
def specCopy : Lg.Spec := fun args H => match args with
  | [.pointer (some ⟨b, 0, none⟩)] => match H.get b with
    | some ⟨[.pointer none, v], e, true⟩ => if e = 55 then some (.tuple #[], H.set b ⟨[ptr b 0, v], e, true⟩) else none
    | some ⟨[.pointer (some ⟨b', 0, none⟩), v], e, true⟩ => if b' = b then some (.tuple #[], H) else none
    | _ => none
  | _ => none
theorem ok_Copy : SpecOk Tryd.prog 53 specCopy := by
  intro args H v H' hs
  refine .inl ⟨⟨_, Tryd.func53, rfl, by decide⟩, ?_⟩
  unfold specCopy at hs
  split at hs
  · rename_i b
    split at hs
    · rename_i x e hg
      split at hs
      · rename_i he
        subst he
        simp only [Option.some.injEq, Prod.mk.injEq] at hs
        obtain ⟨rfl, rfl⟩ := hs
        intro ι w args' hrel hl ha
        obtain rfl := one_ptr (P := Tryd.prog) hl ha
        have hoff := hrel.row hg rfl
        rw [hoff]
        obtain ⟨arr, t, f, hw, hsz, hcells, hrw⟩ := hrel.blk b _ hg
        obtain ⟨_, hel, s, hs1, hs2, hs3⟩ := hrw rfl
        obtain ⟨rfl, rfl⟩ := ElOk.plain hel (show sz Tryd.prog 55 = some 2 by kernel_rfl)
        have hs1' : s = 2 := Option.some.inj (hs1.symm.trans (show sz Tryd.prog 55 = some 2 by kernel_rfl))
        subst hs1'
        have hc0 : w.cell? ⟨(ι b).blk, 0, none⟩ = some (.pointer none) := by
          obtain ⟨v', h1, h2⟩ := hrel.cell0 (i := 0) hg rfl
          rw [hoff] at h1
          rw [h1, flat_eq h2 rfl]
        refine (bld_fresh (ι b).blk (ι b).slack w hc0 (by simp [World.shape?, hw, hs2]) (by simp [World.frozen?, hw])).mono ?_
        rintro e w' ⟨rfl, rfl⟩
        refine ⟨ι, _, rfl, ?_, .flat _ rfl⟩
        refine rel_set hrel (b := ⟨[.pointer none, x], 55, true⟩) (b' := ⟨[ptr b 0, x], 55, true⟩) hg rfl rfl rfl rfl hw (arr' := arr.setIfInBounds 0 (.pointer (some ⟨(ι b).blk, 0, none⟩))) (by simp) ?_ ?_ ?_
        · intro i y hy
          cases i with
          | zero =>
            simp only [List.getElem?_cons_zero, Option.some.injEq] at hy
            subst hy
            refine ⟨.pointer (some ⟨(ι b).blk, 0, none⟩), ?_, ?_⟩
            · rw [Array.getElem?_setIfInBounds_self_of_lt (by rw [hs2]; simp; omega)]
            · have := VR.ptr (n := H.D) (ι := ι) b 0 (hrel.live hg)
              rw [hoff] at this; exact this
          | succ i =>
            obtain ⟨y', h1, h2⟩ := hcells (i + 1) y hy
            rw [hoff, Nat.zero_add] at h1
            exact ⟨y', by rw [Array.getElem?_setIfInBounds_ne (by omega)]; exact h1, h2⟩
        · simp [World.setCell, Array.getElem?_modify, hw]
        · refine ⟨rfl, rfl, rfl, by simp [World.setCell], fun k hk hn => ?_⟩
          simp only [World.setCell, Array.getElem?_modify]
          rw [if_neg (fun e => hn e.symm)]
      · cases hs
    · rename_i b' x e hg
      split at hs
      · rename_i he
        subst he
        simp only [Option.some.injEq, Prod.mk.injEq] at hs
        obtain ⟨rfl, rfl⟩ := hs
        intro ι w args' hrel hl ha
        obtain rfl := one_ptr (P := Tryd.prog) hl ha
        have hoff := hrel.row hg rfl
        have hc0 : w.cell? ⟨(ι b').blk, 0, none⟩ = some (.pointer (some ⟨(ι b').blk, 0, none⟩)) := by
          obtain ⟨v', h1, h2⟩ := hrel.cell0 (i := 0) hg rfl
          rw [hoff] at h1
          rw [h1, (vr_ptr h2).2, hoff]
        rw [hoff]
        refine (bld_used (ι b').blk w hc0).mono ?_
        rintro e w' ⟨rfl, rfl⟩
        exact ⟨ι, _, rfl, Out.refl hrel, .flat _ rfl⟩
      · cases hs
    · cases hs
  · cases hs
open Classical in
noncomputable def specBStr : Lg.Spec := fun args H => match args with
  | [.pointer (some ⟨b, 0, none⟩)] => match H.get b with
    | some ⟨[_, .slice none 0 0], _, true⟩ => some (str [], H)
    | some ⟨[_, .slice (some ⟨g, 0, none⟩) n c], _, true⟩ => match H.get g with
      | some ⟨cs, e, true⟩ => if ∃ l : List UInt8, l ≠ [] ∧ cs.take n = l.map bv ∧ l.length = n ∧ n ≤ c ∧ n ≤ maxLen ∧ e = 5 then (lbs (cs.take n)).map fun l => (str l, H.kill g) else none
      | _ => none
    | _ => none
  | _ => none
theorem ok_BStr : SpecOk Tryd.prog 36 specBStr := by
  intro args H v H' hs
  refine .inl ⟨⟨_, Tryd.func36, rfl, by decide⟩, ?_⟩
  unfold specBStr at hs
  split at hs
  · rename_i b
    split at hs
    · rename_i p e hg
      simp only [Option.some.injEq, Prod.mk.injEq] at hs
      obtain ⟨rfl, rfl⟩ := hs
      intro ι w args' hrel hl ha
      obtain rfl := one_ptr (P := Tryd.prog) hl ha
      have hoff := hrel.row hg rfl
      have hc1 : w.cell? ⟨(ι b).blk, 1, none⟩ = some (.slice none 0 0) := by
        obtain ⟨v', h1, h2⟩ := hrel.cell0 (i := 1) hg rfl
        rw [hoff] at h1
        rw [h1, flat_eq h2 rfl]
      rw [hoff]
      refine (bld_string_nil (ι b).blk w hc1).mono ?_
      rintro e w' ⟨rfl, hc⟩
      exact ⟨ι, _, rfl, out_change hrel hc, .flat _ rfl⟩
    · rename_i p g n c e hg
      split at hs
      · rename_i cs e2 hgg
        split at hs
        · rename_i hex
          obtain ⟨l, h0, htk, hln, hnc, hnm, rfl⟩ := hex
          rw [htk, lbs_map] at hs
          simp only [Option.map_some, Option.some.injEq, Prod.mk.injEq] at hs
          obtain ⟨rfl, rfl⟩ := hs
          intro ι w args' hrel hl ha
          obtain rfl := one_ptr (P := Tryd.prog) hl ha
          have hoff := hrel.row hg rfl
          have hoffg := hrel.row hgg rfl
          subst hln
          have hne : l.length ≠ 0 := by simpa using h0
          have hc1 : w.cell? ⟨(ι b).blk, 1, none⟩ = some (.slice (some ⟨(ι g).blk, 0, none⟩) l.length (c + (ι g).slack)) := by
            obtain ⟨v', h1, h2⟩ := hrel.cell0 (i := 1) hg rfl
            rw [hoff] at h1
            rw [h1]
            rw [vr_row h2 hne, hoffg]
          obtain ⟨arr, t, f, hw, hsz, hcells, hrw⟩ := hrel.blk g _ hgg
          obtain ⟨_, hel, s, hs1, hs2, hs3⟩ := hrw rfl
          obtain ⟨rfl, rfl⟩ := ElOk.plain hel (show sz Tryd.prog 5 = some 1 by kernel_rfl)
          have hlen : l.length ≤ cs.length := by
            have := congrArg List.length htk
            simp at this; omega
          rw [hoff]
          refine (bld_string (ι b).blk (ι g).blk (c + (ι g).slack) l arr w h0 hc1 hw (by omega) (by rw [hs2]; simp; omega) hnm (fun j x hx => ?_)).mono ?_
          · have hj : j < l.length := (List.getElem?_eq_some_iff.1 hx).1
            have h1 : cs[j]? = some (bv x) := by
              have : (cs.take l.length)[j]? = some (bv x) := by rw [htk, List.getElem?_map, hx]; rfl
              rwa [List.getElem?_take, if_pos hj] at this
            obtain ⟨y, h2, h3⟩ := hcells j _ h1
            rw [hoffg, Nat.zero_add] at h2
            rw [h2, flat_eq h3 rfl]; rfl
          · rintro e w' ⟨rfl, hc⟩
            exact ⟨ι, _, rfl, out_kill hrel hgg rfl hc, .flat _ rfl⟩
        · cases hs
      · cases hs
    · cases hs
  · cases hs
end Go.Proofs.YthgcgjpbhbikaaaDoor
/-
  strings.Join, strings.Split, strings.Contains, strconv.Itoa over the logical run.
-/
set_option linter.unusedSimpArgs false
set_option linter.unusedVariables false
set_option maxRecDepth 100000
namespace Go.Proofs.YthgcgjpbhbikaaaDoor
open Go.Lg Go.Tg
/-- the machine's number that the search in strings reads lies in its variable -/
def MaxL (H : LH) : Prop := 0 < H.ng ∧ ∃ m, H.base.cell? ⟨0, 0, none⟩ = some (.int .i64 m)
theorem max_at {P : Program} {H : LH} {ι : Ren} {w : World} (hrel : Rel P H ι w) (h : MaxL H) : ∃ m, w.cell? ⟨0, 0, none⟩ = some (.int .i64 m) := by
  obtain ⟨h1, m, h2⟩ := h
  refine ⟨m, ?_⟩
  unfold World.cell? at h2 ⊢
  rw [pin_block hrel h1]
  exact h2
theorem one_str {P : Program} {H : LH} {ι : Ren} {args' : Array Value} {vs : List Value} (hf : ∀ x ∈ vs, flatB x = true) (hl : vs.length = args'.size) (h : ∀ (i : Nat) (x y : Value), vs[i]? = some x → args'[i]? = some y → VR H.D ι x y) : args' = vs.toArray := by
  apply Array.ext
  · simp [hl]
  · intro i h3 h4
    have hx : vs[i]? = some (vs[i]'(by simpa using h4)) := List.getElem?_eq_getElem _
    have := flat_eq (h i _ _ hx (Array.getElem?_eq_getElem h3)) (hf _ (List.getElem_mem _))
    rw [this]; simp
open Classical in
noncomputable def specContains : Lg.Spec := fun args H => match args with
  | [.string s, .string sep] => if s.size < 4294967281 ∧ (sep.size = 1 ∨ MaxL H) then some (.bool (Lib.contains s.data.toList sep.data.toList), H) else none
  | _ => none
theorem contains_one (s : List UInt8) (c : UInt8) : decide (0 ≤ Lib.indexByte s c) = Lib.contains s [c] := by
  unfold Lib.contains; rw [Lib.index_one]
theorem ok_Contains : SpecOk Tryd.prog 21 specContains := by
  intro args H v H' hs
  refine .inl ⟨⟨_, Tryd.func21, rfl, by decide⟩, ?_⟩
  unfold specContains at hs
  split at hs
  · rename_i s sep
    split at hs
    · rename_i hc
      obtain ⟨h1, h2⟩ := hc
      simp only [Option.some.injEq, Prod.mk.injEq] at hs
      obtain ⟨rfl, rfl⟩ := hs
      intro ι w args' hrel hl ha
      obtain rfl := one_str (P := Tryd.prog) (flat2 (by simp) (by simp)) hl ha
      rcases h2 with h2 | h2
      · obtain ⟨c, hc⟩ : ∃ c, sep = ⟨#[c]⟩ := by
          obtain ⟨⟨l⟩⟩ := sep
          have : l.length = 1 := h2
          match l, this with
          | [c], _ => exact ⟨c, rfl⟩
        subst hc
        refine (Tryd.strings_Contains_one s c w).mono ?_
        rintro e w' ⟨rfl, rfl⟩
        exact ⟨ι, _, rfl, Out.refl hrel, by rw [contains_one]; exact .flat _ rfl⟩
      · obtain ⟨m, hm⟩ := max_at hrel h2
        refine (Tryd.strings_Contains s sep m w h1 hm).mono ?_
        rintro e w' ⟨rfl, rfl⟩
        exact ⟨ι, _, rfl, Out.refl hrel, .flat _ rfl⟩
    · cases hs
  · cases hs
open Classical in
noncomputable def specSplit : Lg.Spec := fun args H => match args with
  | [.string s, .string sep] => if s.size < 4294967281 ∧ 1 ≤ sep.size ∧ MaxL H ∧ Lib.countB s sep + 1 ≤ maxLen ∧ (Lib.splitB sep 0 (Lib.countB s sep) s).length = Lib.countB s sep + 1 then
      some (sl H.n (Lib.countB s sep + 1) (Lib.countB s sep + 1), H.new ⟨(Lib.splitB sep 0 (Lib.countB s sep) s).map Value.string, 9, true⟩)
    else none
  | _ => none
theorem ok_Split : SpecOk Tryd.prog 29 specSplit := by
  intro args H v H' h
  refine .inl ⟨⟨_, Tryd.func29, rfl, by decide⟩, ?_⟩
  unfold specSplit at h
  split at h
  · rename_i s sep
    split at h
    · rename_i hc
      obtain ⟨h1, h2, h3, h4, h5⟩ := hc
      simp only [Option.some.injEq, Prod.mk.injEq] at h
      obtain ⟨rfl, rfl⟩ := h
      exact callOk_row (flat2 rfl rfl) (fun x hx => by
          obtain ⟨l, _, rfl⟩ := List.mem_map.1 hx
          rfl) (by kernel_rfl) (by simpa using h5) h4 (fun ι w hrel => by
            obtain ⟨m, hm⟩ := max_at hrel h3
            exact Tryd.strings_Split s sep m w h1 hm h2)
    · cases h
  · cases h
open Classical in
noncomputable def specJoin : Lg.Spec := fun args H => match args with
  | [.slice none 0 0, .string sep] => some (str [], H)
  | [.slice (some ⟨l, o, none⟩) n c, .string sep] => if h : ∃ (b : LB) (xs : List (List UInt8)), H.get l = some b ∧ n ≠ 0 ∧ n ≤ c ∧ n ≤ 140737488355328 ∧ xs.length = n ∧ (b.cells.drop o).take n = xs.map str ∧ (Lib.join xs sep.data.toList).length ≤ 140737488355328 then
      some (str (Lib.join (Classical.choose (Classical.choose_spec h)) sep.data.toList), H) else none
  | _ => none
theorem str_inj {a b : List UInt8} (h : str a = str b) : a = b := by
  unfold str at h
  injection h with h
  injection h with h
  injection h
theorem map_str_inj : ∀ {xs ys : List (List UInt8)}, xs.map str = ys.map str → xs = ys
  | [], [], _ => rfl
  | [], y :: ys, h => by simp at h
  | x :: xs, [], h => by simp at h
  | x :: xs, y :: ys, h => by
    simp only [List.map_cons, List.cons.injEq] at h
    rw [str_inj h.1, map_str_inj h.2]
theorem ok_Join : SpecOk Tryd.prog 31 specJoin := by
  intro args H v H' hs
  refine .inl ⟨⟨_, Tryd.func31, rfl, by decide⟩, ?_⟩
  unfold specJoin at hs
  split at hs
  · rename_i sep
    simp only [Option.some.injEq, Prod.mk.injEq] at hs
    obtain ⟨rfl, rfl⟩ := hs
    intro ι w args' hrel hl ha
    obtain rfl := one_str (P := Tryd.prog) (flat2 (by simp) (by simp)) hl ha
    refine (Tryd.strings_Join_none none 0 sep w).mono ?_
    rintro e w' ⟨rfl, rfl⟩
    exact ⟨ι, _, rfl, Out.refl hrel, .flat _ rfl⟩
  · rename_i l o n c sep
    split at hs
    · rename_i hex
      have hspec := Classical.choose_spec (Classical.choose_spec hex)
      obtain ⟨hb, h0, hnc, hn, hxl, hcells, hlen⟩ := hspec
      generalize Classical.choose (Classical.choose_spec hex) = xs at *
      generalize Classical.choose hex = b at *
      simp only [Option.some.injEq, Prod.mk.injEq] at hs
      obtain ⟨rfl, rfl⟩ := hs
      intro ι w args' hrel hl ha
      have h2 : args'.size = 2 := hl.symm
      have v0 := ha 0 _ _ rfl (Array.getElem?_eq_getElem (show 0 < args'.size by omega))
      have v1 := ha 1 _ _ rfl (Array.getElem?_eq_getElem (show 1 < args'.size by omega))
      have e0 := vr_row v0 h0
      have e1 := flat_eq v1 rfl
      obtain rfl : args' = #[.slice (some ⟨(ι l).blk, (ι l).off + o, none⟩) n (c + (ι l).slack), .string sep] := by
        apply Array.ext
        · simp [h2]
        · intro i h3 h4
          have : i = 0 ∨ i = 1 := by omega
          rcases this with rfl | rfl
          · rw [e0]; simp
          · rw [e1]; simp
      have hmap : xs.map (fun x => (⟨x.toArray⟩ : ByteArray).data.toList) = xs := by simp
      have hj : (List.map (fun x => x.data.toList) (xs.map fun x => (⟨x.toArray⟩ : ByteArray))) = xs := by simp [Function.comp_def]
      have := Tryd.strings_Join (ι l).blk ((ι l).off + o) (c + (ι l).slack) (xs.map fun x => (⟨x.toArray⟩ : ByteArray)) sep w (fun j x hx => ?_) (rel_lt hrel hb) (by simp; omega) (by simp; omega) (by rw [hj]; exact hlen)
      · rw [hj] at this
        rw [List.length_map, hxl] at this
        refine this.mono ?_
        rintro e w' ⟨rfl, hbl⟩
        exact ⟨ι, _, rfl, out_change hrel (change_of_below hbl), .flat _ rfl⟩
      · rw [List.getElem?_map] at hx
        obtain ⟨y, hy, rfl⟩ := Option.map_eq_some_iff.1 hx
        have hjn : j < n := by rw [← hxl]; exact (List.getElem?_eq_some_iff.1 hy).1
        have hc : b.cells[o + j]? = some (str y) := by
          have : ((b.cells.drop o).take n)[j]? = some (str y) := by rw [hcells, List.getElem?_map, hy]; rfl
          rw [List.getElem?_take, if_pos hjn, List.getElem?_drop] at this
          exact this
        obtain ⟨v', g1, g2⟩ := hrel.cell0 (i := o + j) hb hc
        rw [show (ι l).off + o + j = (ι l).off + (o + j) by omega, g1, flat_eq g2 rfl]
        rfl
    · cases hs
  · cases hs
/-- the table of powers of ten lies in its variable -/
def Tab10 (H : LH) : Prop := 1 < H.ng ∧ Lib.TabIs Tryd.prog H.base "internal/strconv.uint64pow10" .u64 Lib.pow10Tab
theorem tab10_at {P : Program} {H : LH} {ι : Ren} {w : World} (hrel : Rel P H ι w) (h : Tab10 H) : Lib.TabIs Tryd.prog w "internal/strconv.uint64pow10" .u64 Lib.pow10Tab := by
  have h2 := h.2
  unfold Lib.TabIs World.var? at h2 ⊢
  rw [show Tryd.prog.globalNamed "internal/strconv.uint64pow10" = some 1 by kernel_rfl] at h2 ⊢
  simp only [Option.bind_some] at h2 ⊢
  rw [pin_block hrel h.1]
  exact h2
open Classical in
noncomputable def specItoa : Lg.Spec := fun args H => match args with
  | [.int .i64 n] => if -9223372036854775808 ≤ n ∧ n ≤ 9223372036854775807 ∧ Tab10 H then some (str (Lib.itoa n), H) else none
  | _ => none
theorem ok_Itoa : SpecOk Tryd.prog 42 specItoa := by
  intro args H v H' hs
  refine .inl ⟨⟨_, Tryd.func42, rfl, by decide⟩, ?_⟩
  unfold specItoa at hs
  split at hs
  · rename_i n
    split at hs
    · rename_i hc
      obtain ⟨h1, h2, h3⟩ := hc
      simp only [Option.some.injEq, Prod.mk.injEq] at hs
      obtain ⟨rfl, rfl⟩ := hs
      intro ι w args' hrel hl ha
      obtain rfl := one_str (P := Tryd.prog) (flat1 (by simp)) hl ha
      refine (Tryd.strconv_Itoa n h1 h2 w (tab10_at hrel h3)).mono ?_
      rintro e w' ⟨rfl, k, os, rfl⟩
      refine ⟨ι, _, rfl, out_change hrel ⟨rfl, rfl, rfl, ?_, fun j hj _ => ?_⟩, .flat _ rfl⟩
      · show w.heap.size ≤ (w.heap ++ os).size
        simp
      · show (w.heap ++ os)[j]? = w.heap[j]?
        rw [Array.getElem?_append_left hj]
    · cases hs
  · cases hs
end Go.Proofs.YthgcgjpbhbikaaaDoor
/-
  Library functions by their contracts: strings, math.
-/
set_option linter.unusedSimpArgs false
set_option linter.unusedVariables false
namespace Go.Proofs.YthgcgjpbhbikaaaDoor
open Go.Lg Go.Tg

def gHasPrefix : List Value → Option Value
  | [.string s, .string p] => some (.bool (Lib.hasPrefix s.data.toList p.data.toList))
  | _ => none
theorem ok_HasPrefix : SpecOk Tryd.prog 15 (flatSpec gHasPrefix) := specOk_flat ⟨_, Tryd.func15, rfl, by decide⟩ fun args v h => by
  unfold gHasPrefix at h
  split at h
  · injection h with h; subst h
    exact ⟨flat2 rfl rfl, rfl, fun w => same_mono (Tryd.strings_HasPrefix _ _ w)⟩
  · cases h
open Classical in
noncomputable def gIndexAny : List Value → Option Value
  | [.string s, .string c] => if s.size < 4294967281 ∧ c.size < 4294967281 ∧ asc c then some (.int .i64 (Lib.indexAny s.data.toList c.data.toList)) else none
  | _ => none
theorem ok_IndexAny : SpecOk Tryd.prog 25 (flatSpec gIndexAny) := specOk_flat ⟨_, Tryd.func25, rfl, by decide⟩ fun args v h => by
  unfold gIndexAny at h
  split at h
  · split at h
    · rename_i hs
      obtain ⟨h1, h2, h4⟩ := hs
      injection h with h; subst h
      exact ⟨flat2 rfl rfl, rfl, fun w => idxAny_any _ _ w h1 h2 h4⟩
    · cases h
  · cases h
def gIndex : List Value → Option Value
  | [.string s, .string ⟨⟨[c]⟩⟩] => some (.int .i64 (Lib.indexByte s.data.toList c))
  | _ => none
theorem ok_Index : SpecOk Tryd.prog 47 (flatSpec gIndex) := specOk_flat ⟨_, Tryd.func47, rfl, by decide⟩ fun args v h => by
  unfold gIndex at h
  split at h
  · injection h with h; subst h
    exact ⟨flat2 rfl rfl, rfl, fun w => same_mono (Tryd.stringslite_Index_one _ _ w)⟩
  · cases h
def gLower : List Value → Option Value
  | [.string s] => if s.size ≤ maxLen then some (.string ⟨(Tg.Lo.lower s.data.toList).toArray⟩) else none
  | _ => none
theorem ok_Lower : SpecOk Tryd.prog 28 (flatSpec gLower) := specOk_flat ⟨_, Tryd.func28, rfl, by decide⟩ fun args v h => by
  unfold gLower at h
  split at h
  · split at h
    · rename_i hs
      injection h with h; subst h
      exact ⟨flat1 rfl, rfl, fun w => lower_w _ w hs⟩
    · cases h
  · cases h
noncomputable def specsStr : List (FuncId × Lg.Spec) := [
  (28, flatSpec gLower),
  (21, specContains),
  (29, specSplit),
  (31, specJoin),
  (42, specItoa),
  (53, specCopy),
  (36, specBStr),
  (34, flatSpec gIndexByte),
  (15, flatSpec gHasPrefix),
  (25, flatSpec gIndexAny),
  (47, flatSpec gIndex),
  ]
theorem str_ok : ∀ p ∈ specsStr, SpecOk Tryd.prog p.1 p.2 := by
  intro p hp
  unfold specsStr at hp
  rcases List.mem_cons.1 hp with rfl | hp
  · exact ok_Lower
  rcases List.mem_cons.1 hp with rfl | hp
  · exact ok_Contains
  rcases List.mem_cons.1 hp with rfl | hp
  · exact ok_Split
  rcases List.mem_cons.1 hp with rfl | hp
  · exact ok_Join
  rcases List.mem_cons.1 hp with rfl | hp
  · exact ok_Itoa
  rcases List.mem_cons.1 hp with rfl | hp
  · exact ok_Copy
  rcases List.mem_cons.1 hp with rfl | hp
  · exact ok_BStr
  rcases List.mem_cons.1 hp with rfl | hp
  · exact ok_IndexByte
  rcases List.mem_cons.1 hp with rfl | hp
  · exact ok_HasPrefix
  rcases List.mem_cons.1 hp with rfl | hp
  · exact ok_IndexAny
  rcases List.mem_cons.1 hp with rfl | hp
  · exact ok_Index
  cases hp
end Go.Proofs.YthgcgjpbhbikaaaDoor
/-
  The library functions of these laws, as rules.
-/
set_option linter.unusedSimpArgs false
set_option linter.unusedVariables false
namespace Go.Proofs.YthgcgjpbhbikaaaDoor
open Go.Lg Go.Tg

noncomputable def EJ : Ext := extLL specsStr []
@[simp] theorem EJ_ch {n id k : Nat} : EJ.loud.ch n id k = chT n id k := rfl
@[simp] theorem EJ_loud {g : FuncId} : EJ.loud g = false := rfl
theorem extOk : ExtOk Tryd.prog EJ := extL_ok str_ok
theorem tOk : TOk Tryd.prog (LC Tryd.prog EJ) := LC_ok extOk mixed
section
variable {H : LH} {s t p : List UInt8}
@[simp] theorem indexByte_l {c : UInt8} : LC Tryd.prog EJ 34 [str s, .int .u8 c.toNat] H = some (.int .i64 (Lib.indexByte s c), H) := LC_flat (g := gIndexByte) rfl (by simp [gIndexByte, str])
@[simp] theorem hasPrefix_l : LC Tryd.prog EJ 15 [str s, str p] H = some (.bool (Lib.hasPrefix s p), H) := LC_flat (g := gHasPrefix) rfl (by simp [gHasPrefix, str])
theorem indexAny_l (h1 : s.length < 4294967281) (h2 : p.length < 4294967281) (h4 : ascL p) : LC Tryd.prog EJ 25 [str s, str p] H = some (.int .i64 (Lib.indexAny s p), H) := LC_flat (g := gIndexAny) rfl (by
  unfold gIndexAny str
  dsimp only
  rw [if_pos ⟨by rw [ba_size]; exact h1, by rw [ba_size]; exact h2, asc_of h4⟩])
@[simp] theorem index1_l {c : UInt8} : LC Tryd.prog EJ 47 [str s, str [c]] H = some (.int .i64 (Lib.indexByte s c), H) := LC_flat (g := gIndex) rfl (by simp [gIndex, str])
theorem contains_l (h : s.length < 4294967281) (hm : p.length = 1 ∨ MaxL H) : LC Tryd.prog EJ 21 [str s, str p] H = some (.bool (Lib.contains s p), H) := LC_ext (s := specContains) rfl (by
  unfold specContains str
  dsimp only
  rw [if_pos ⟨by rw [ba_size]; exact h, by rw [ba_size]; exact hm⟩])
theorem split_l (h : s.length < 4294967281) (h1 : 1 ≤ p.length) (hm : MaxL H) (h2 : Lib.countB ⟨s.toArray⟩ ⟨p.toArray⟩ + 1 ≤ maxLen) (h3 : (Lib.splitB ⟨p.toArray⟩ 0 (Lib.countB ⟨s.toArray⟩ ⟨p.toArray⟩) ⟨s.toArray⟩).length = Lib.countB ⟨s.toArray⟩ ⟨p.toArray⟩ + 1) :
    LC Tryd.prog EJ 29 [str s, str p] H = some (sl H.n (Lib.countB ⟨s.toArray⟩ ⟨p.toArray⟩ + 1) (Lib.countB ⟨s.toArray⟩ ⟨p.toArray⟩ + 1), H.new ⟨(Lib.splitB ⟨p.toArray⟩ 0 (Lib.countB ⟨s.toArray⟩ ⟨p.toArray⟩) ⟨s.toArray⟩).map Value.string, 9, true⟩) := LC_ext (s := specSplit) rfl (by
  unfold specSplit str
  dsimp only
  rw [if_pos ⟨by rw [ba_size]; exact h, by rw [ba_size]; exact h1, hm, h2, h3⟩])
theorem join_nil : LC Tryd.prog EJ 31 [.slice none 0 0, str p] H = some (str [], H) := LC_ext (s := specJoin) rfl (by
  unfold specJoin str
  rfl)
theorem join_l {l o n c : Nat} {b : LB} {xs : List (List UInt8)} (hb : H.get l = some b) (h0 : n ≠ 0) (hc : n ≤ c) (hn : n ≤ 140737488355328) (hx : xs.length = n) (hcs : (b.cells.drop o).take n = xs.map str) (hl : (Lib.join xs p).length ≤ 140737488355328) :
    LC Tryd.prog EJ 31 [.slice (some ⟨l, o, none⟩) n c, str p] H = some (str (Lib.join xs p), H) := LC_ext (s := specJoin) rfl (by
  have hex : ∃ (b : LB) (xs : List (List UInt8)), H.get l = some b ∧ n ≠ 0 ∧ n ≤ c ∧ n ≤ 140737488355328 ∧ xs.length = n ∧ (b.cells.drop o).take n = xs.map str ∧ (Lib.join xs (⟨p.toArray⟩ : ByteArray).data.toList).length ≤ 140737488355328 := ⟨b, xs, hb, h0, hc, hn, hx, hcs, hl⟩
  have e : Classical.choose (Classical.choose_spec hex) = xs := by
    obtain ⟨g1, _, _, _, _, g6, _⟩ := Classical.choose_spec (Classical.choose_spec hex)
    have hbe := congrArg LB.cells (Option.some.inj (hb.symm.trans g1))
    exact (map_str_inj (hcs.symm.trans ((congrArg (fun z => (z.drop o).take n) hbe).trans g6))).symm
  show specJoin [.slice (some ⟨l, o, none⟩) n c, .string ⟨p.toArray⟩] H = _
  unfold specJoin
  simp only
  rw [dif_pos hex, e])
theorem itoa_l {n : Int} (h1 : -9223372036854775808 ≤ n) (h2 : n ≤ 9223372036854775807) (ht : Tab10 H) : LC Tryd.prog EJ 42 [.int .i64 n] H = some (str (Lib.itoa n), H) := LC_ext (s := specItoa) rfl (by
  unfold specItoa
  dsimp only
  rw [if_pos ⟨h1, h2, ht⟩])
theorem lower_l (h : s.length ≤ maxLen) : LC Tryd.prog EJ 28 [str s] H = some (str (Tg.Lo.lower s), H) := LC_flat (g := gLower) rfl (by
  unfold gLower str
  dsimp only
  rw [if_pos (by rw [ba_size]; exact h)])
end
end Go.Proofs.YthgcgjpbhbikaaaDoor
/-
  A logical run of Go code: what an object's method may turn: the object's block, the block of its row, new blocks.
-/
set_option linter.unusedSimpArgs false
set_option linter.unusedVariables false
namespace Go.Lg
open Go.Tg Go.RowKit

/-- from the heap H, where the object p has the row v, to the heap H', where it has the row v' -/
structure Kp (p : Nat) (v : Value) (H : LH) (v' : Value) (H' : LH) : Prop where
  n : H.n ≤ H'.n
  keep : ∀ k, k < H.n → k ≠ p → offRow v k → H'.get k = H.get k
  off : ∀ k, k < H.n → k ≠ p → offRow v k → offRow v' k
  base : H'.base = H.base
  ng : H'.ng = H.ng
section
variable {p : Nat} {v v' v1 : Value} {H H' H1 : LH} {B : LB}
theorem Kp.refl : Kp p v H v H := ⟨Nat.le_refl _, fun _ _ _ _ => rfl, fun _ _ _ h => h, rfl, rfl⟩
theorem Kp.trans (h : Kp p v H v1 H1) (k : Kp p v1 H1 v' H') : Kp p v H v' H' :=
  ⟨Nat.le_trans h.n k.n, fun l hl hp ho => (k.keep l (Nat.lt_of_lt_of_le hl h.n) hp (h.off l hl hp ho)).trans (h.keep l hl hp ho),
    fun l hl hp ho => k.off l (Nat.lt_of_lt_of_le hl h.n) hp (h.off l hl hp ho), k.base.trans h.base, k.ng.trans h.ng⟩
theorem Kp.set (ho : ∀ k, offRow v k → offRow v' k) : Kp p v H v' (H.set p B) := ⟨Nat.le_refl _, fun _ _ hp _ => get_set_ne hp, fun k _ _ h => ho k h, rfl, rfl⟩
theorem Kp.new : Kp p v H v (H.new B) := ⟨Nat.le_succ _, fun _ hl _ _ => get_new_ne (by omega), fun _ _ _ h => h, rfl, rfl⟩
/-- what was there ahead of the object -/
theorem Kp.le (h : Kp p v H1 v' H') (hn : H.n ≤ H1.n) (hp : H.n ≤ p) (hv : ∀ k, k < H.n → offRow v k) (hg : ∀ k, k < H.n → H1.get k = H.get k) : H.le H' :=
  ⟨Nat.le_trans hn h.n, fun l hl => (h.keep l (by omega) (by omega) (hv l hl)).trans (hg l hl)⟩
end
end Go.Lg
/-
  strings.Builder: writing, and the text, over the logical run.
-/
set_option linter.unusedSimpArgs false
set_option linter.unusedVariables false
set_option maxRecDepth 100000
namespace Go.Proofs.YthgcgjpbhbikaaaDoor
open Go.Lg Go.Tg
/-- a builder at b that holds the bytes l, in a row v of its own -/
structure Bld (N : Nat) (H : LH) (b : Nat) (l : List UInt8) (v : Value) : Prop where
  get : ∃ p, H.get b = some ⟨[p, v], 55, true⟩ ∧ (p = .pointer none ∨ p = ptr b 0)
  row : RowN N H 5 1 v l.length (l.map bv)
  full : Full v
  off : offRow v b
  lt : b < H.n
  N : N ≤ H.n
  nil : l = [] → v = .slice none 0 0
section
variable {H : LH} {N b : Nat} {l s : List UInt8} {v : Value} {c : UInt8}
theorem copy_l (h : Bld N H b l v) : LC Tryd.prog EJ 53 [ptr b 0] H = some (.tuple #[], H.set b ⟨[ptr b 0, v], 55, true⟩) ∨ (H.get b = some ⟨[ptr b 0, v], 55, true⟩ ∧ LC Tryd.prog EJ 53 [ptr b 0] H = some (.tuple #[], H)) := by
  obtain ⟨p, hg, hp⟩ := h.get
  rcases hp with rfl | rfl
  · left
    refine LC_ext (s := specCopy) rfl ?_
    unfold specCopy
    simp only [hg]
    rw [if_pos trivial]
  · right
    refine ⟨hg, LC_ext (s := specCopy) rfl ?_⟩
    unfold specCopy
    simp only [hg]
    rw [if_pos trivial]
theorem copy_ex (h : Bld N H b l v) : ∃ H1, LC Tryd.prog EJ 53 [ptr b 0] H = some (.tuple #[], H1) ∧ H1.get b = some ⟨[ptr b 0, v], 55, true⟩ ∧ H1.n = H.n ∧ (∀ k, k ≠ b → H1.get k = H.get k) ∧ H1.base = H.base ∧ H1.ng = H.ng := by
  rcases copy_l h with e | ⟨hg, e⟩
  · exact ⟨_, e, by simp, by simp, fun k hk => get_set_ne hk, rfl, rfl⟩
  · exact ⟨_, e, hg, rfl, fun _ _ => rfl, rfl, rfl⟩
theorem row_other {H1 : LH} {v : Value} {n : Nat} {xs : List Value} (h : RowN N H 5 1 v n xs) (ho : offRow v b) (hn : H1.n = H.n) (hk : ∀ k, k ≠ b → H1.get k = H.get k) : RowN N H1 5 1 v n xs := by
  refine ⟨h.1, ?_⟩
  rcases h.2 with h2 | ⟨k, c, rest, rfl, h1, h2, h3, h4, h5⟩
  · exact .inl h2
  · refine .inr ⟨k, c, rest, rfl, h1, by omega, ?_, h4, h5⟩
    rw [hk k (fun e => ho n c (by rw [e]))]; exact h3
theorem bv_cells (l : List UInt8) : (l.map bv).all cellB = true := by simp [bv]
/-- where nothing has turned, the run hands the heap back as it was -/
theorem bld_trunc {H3 : LH} {v' u : Value} {l' : List UInt8} (h : Bld N H b l v) (h3 : Bld N H3 b l' v') (hk : Kp b v H v' H3) : ∃ H4, trunc H (u, H3) = (u, H4) ∧ Bld N H4 b l' v' ∧ Kp b v H v' H4 := by
  rcases trunc_or u H H3 with e | ⟨e, _, hle⟩
  · exact ⟨H3, e, h3, hk⟩
  · refine ⟨H, e, ?_⟩
    obtain ⟨p, hg, hp⟩ := h.get
    obtain ⟨p', hg', hp'⟩ := h3.get
    rw [hle.2 b h.lt, hg] at hg'
    injection hg' with hg'
    injection hg' with hg'
    simp only [List.cons.injEq, and_true] at hg'
    obtain ⟨rfl, rfl⟩ := hg'
    refine ⟨⟨⟨p, hg, hp⟩, ⟨h3.row.1, ?_⟩, h.full, h.off, h.lt, h.N, h3.nil⟩, Kp.refl⟩
    rcases h3.row.2 with h2 | ⟨k, c, rest, rfl, g1, g2, g3, g4, g5⟩
    · exact .inl h2
    · have hkn : k < H.n := by
        rcases h.row.2 with ⟨h5, _⟩ | ⟨k', c', rest', h5, _, h6, _⟩
        · cases h5
        · injection h5 with h5; injection h5 with h5; injection h5 with h5; omega
      exact .inr ⟨k, c, rest, rfl, g1, hkn, by rw [← hle.2 k hkn]; exact g3, g4, g5⟩
theorem wstr_ex (h : Bld N H b l v) (hlen : l.length + s.length ≤ maxElems) :
    ∃ v' H', LC Tryd.prog EJ 33 [ptr b 0, str s] H = some (.tuple #[.int .i64 s.length, .nilIface], H') ∧ Bld N H' b (l ++ s) v' ∧ Kp b v H v' H' := by
  obtain ⟨H1, hc, hg1, hn1, hk1, hb1, hng1⟩ := copy_ex h
  have hrow1 := row_other h.row h.off hn1 hk1
  obtain ⟨v', H2, ha, hr2, hkept, hf⟩ := hrow1.app (t := 23) (new := s.map bv) (m := s.length) Tryd.underlying23 (by kernel_rfl) (bv_cells s) (by simp) hlen (by rw [hn1]; exact h.N) (.inr h.full)
  have hblt : b < H1.n := by rw [hn1]; exact h.lt
  have hg2 : H2.get b = some ⟨[ptr b 0, v], 55, true⟩ := by rw [hkept.get b hblt h.off]; exact hg1
  have hap : lbuiltin Tryd.prog .append [23, 9] [v, str s] H1 = some (v', H2) := by
    rw [lbuiltin_appends (e := 5) (by decide) Tryd.underlying23 Tryd.underlying9 (by kernel_rfl) (by kernel_rfl) (by kernel_rfl)]
    exact ha
  have hcell : cellB v' = true := hr2.cell
  have hoff' := hkept.off b hblt h.off
  obtain ⟨r, hr, h1, h2⟩ := LC_runs (P := Tryd.prog) (E := EJ) (f := 33) rfl Tryd.func33 rfl (Nat.le_of_ble_eq_true rfl) (by decide) (by kernel_rfl) (H := H) (args := [ptr b 0, str s]) (Q := fun r => r.1 = .tuple #[.int .i64 s.length, .nilIface] ∧ r.2 = H2.set b ⟨[ptr b 0, v'], 55, true⟩) (by
    simp [hc, hg1, hap, hg2, hcell])
  obtain ⟨u, H3⟩ := r
  simp only at h1 h2
  subst h1 h2
  have hset : Bld N (H2.set b ⟨[ptr b 0, v'], 55, true⟩) b (l ++ s) v' := by
    refine ⟨⟨_, get_set, .inr rfl⟩, ?_, hf h.full, hoff', Nat.lt_of_lt_of_le hblt hkept.le, ?_, ?_⟩
    · have := row_other (b := b) (H1 := H2.set b ⟨[ptr b 0, v'], 55, true⟩) hr2 hoff' rfl (fun k hk => get_set_ne hk)
      rw [List.length_append, List.map_append]; exact this
    · exact Nat.le_trans h.N (by rw [← hn1]; exact hkept.le)
    · intro e
      obtain ⟨e1, e2⟩ := List.append_eq_nil_iff.1 e
      have hv := h.nil e1
      subst hv e2
      rw [List.map_nil, List.length_nil, lapp_nil0 (s := 1) Tryd.underlying23 (by kernel_rfl)] at ha
      simp only [Option.some.injEq, Prod.mk.injEq] at ha
      exact ha.1.symm
  have hkp : Kp b v H v' (H2.set b ⟨[ptr b 0, v'], 55, true⟩) := by
    refine ⟨by rw [← hn1]; exact hkept.le, fun k hk hkb ho => ?_, fun k hk hkb ho => hkept.off k (by omega) ho, by simp [hkept.base, hb1], by simp [hkept.ng, hng1]⟩
    rw [get_set_ne hkb, hkept.get k (by omega) ho, hk1 k hkb]
  obtain ⟨H4, e1, e2, e3⟩ := bld_trunc h hset hkp
  exact ⟨_, H4, by rw [hr, e1], e2, e3⟩
theorem wbyte_ex (h : Bld N H b l v) (hlen : l.length + 1 ≤ maxElems) :
    ∃ v' H', LC Tryd.prog EJ 35 [ptr b 0, .int .u8 c.toNat] H = some (.nilIface, H') ∧ Bld N H' b (l ++ [c]) v' ∧ Kp b v H v' H' := by
  obtain ⟨H1, hc, hg1, hn1, hk1, hb1, hng1⟩ := copy_ex h
  have hrow1 := row_other h.row h.off hn1 hk1
  have hblt : b < H1.n := by rw [hn1]; exact h.lt
  have hrow2 : RowN N (H1.new ⟨[.int .u8 c.toNat], 5, true⟩) 5 1 v l.length (l.map bv) := hrow1.keep (Nat.le_succ _) (fun k _ _ hk => get_new_ne (by omega))
  obtain ⟨v', H2, ha, hr2, hkept, hf⟩ := hrow2.app (t := 23) (new := [c].map bv) (m := 1) Tryd.underlying23 (by kernel_rfl) (bv_cells [c]) (by simp) hlen (by rw [n_new, hn1]; have := h.N; omega) (.inr h.full)
  have hg2 : H2.get b = some ⟨[ptr b 0, v], 55, true⟩ := by rw [hkept.get b (by rw [n_new]; omega) h.off, get_new_ne (by omega)]; exact hg1
  simp only [List.map_cons, List.map_nil, bv] at ha
  have hcell : cellB v' = true := hr2.cell
  have hoff' := hkept.off b (by rw [n_new]; omega) h.off
  obtain ⟨r, hr, h1, h2⟩ := LC_runs (P := Tryd.prog) (E := EJ) (f := 35) rfl Tryd.func35 rfl (Nat.le_of_ble_eq_true rfl) (by decide) (by kernel_rfl) (H := H) (args := [ptr b 0, .int .u8 c.toNat]) (Q := fun r => r.1 = .nilIface ∧ r.2 = H2.set b ⟨[ptr b 0, v'], 55, true⟩) (by
    have hbn : b ≠ H1.n := by omega
    simp [hc, hg1, ha, hg2, hcell, hbn])
  obtain ⟨u, H3⟩ := r
  simp only at h1 h2
  subst h1 h2
  have hle2 : H1.n + 1 ≤ H2.n := hkept.le
  have hset : Bld N (H2.set b ⟨[ptr b 0, v'], 55, true⟩) b (l ++ [c]) v' := by
    refine ⟨⟨_, get_set, .inr rfl⟩, ?_, hf h.full, hoff', by rw [n_set]; omega, ?_, fun e => by simp at e⟩
    · have := row_other (b := b) (H1 := H2.set b ⟨[ptr b 0, v'], 55, true⟩) hr2 hoff' rfl (fun k hk => get_set_ne hk)
      rw [List.length_append, List.map_append]; exact this
    · have := h.N; rw [n_set]; omega
  have hkp : Kp b v H v' (H2.set b ⟨[ptr b 0, v'], 55, true⟩) := by
    refine ⟨by rw [n_set]; omega, fun k hk hkb ho => ?_, fun k hk hkb ho => hkept.off k (by rw [n_new]; omega) ho, by simp [hkept.base, hb1], by simp [hkept.ng, hng1]⟩
    rw [get_set_ne hkb, hkept.get k (by rw [n_new]; omega) ho, get_new_ne (by omega), hk1 k hkb]
  obtain ⟨H4, e1, e2, e3⟩ := bld_trunc h hset hkp
  exact ⟨_, H4, by rw [hr, e1], e2, e3⟩
theorem bstr_ex (h : Bld N H b l v) (hm : l.length ≤ maxLen) : ∃ H', LC Tryd.prog EJ 36 [ptr b 0] H = some (str l, H') ∧ H'.n = H.n ∧ ∀ k, k < N → H'.get k = H.get k := by
  obtain ⟨p, hg, hp⟩ := h.get
  rcases h.row.2 with ⟨rfl, h0⟩ | ⟨k, c, rest, rfl, g1, g2, g3, g4, g5⟩
  · have hl : l = [] := List.eq_nil_of_length_eq_zero h0
    subst hl
    refine ⟨H, LC_ext (s := specBStr) rfl ?_, rfl, fun _ _ => rfl⟩
    unfold specBStr
    simp only [hg]
  · rcases Nat.eq_zero_or_pos l.length with h0 | h0
    · exfalso
      have := h.nil (List.eq_nil_of_length_eq_zero h0)
      cases this
    · refine ⟨H.kill k, LC_ext (s := specBStr) rfl ?_, rfl, fun j hj => get_kill_ne (by omega)⟩
      have htk : (l.map bv ++ rest).take l.length = l.map bv := by simp
      unfold specBStr
      simp only [hg, g3]
      rw [if_pos ⟨l, by intro e; rw [e] at h0; simp at h0, htk, rfl, g4, hm, rfl⟩, htk, lbs_map]
      rfl
end
end Go.Proofs.YthgcgjpbhbikaaaDoor
/-
  Layer 26 (url): what the code's functions come to.
-/
set_option linter.unusedSimpArgs false
set_option linter.unusedVariables false
set_option maxRecDepth 100000
namespace Go.Proofs.YthgcgjpbhbikaaaDoor
open Go.Lg Go.Tg
section
variable {H : LH} {b : UInt8} {s p : List UInt8}
theorem own_l : LC Tryd.prog EJ 19 [str s] H = some (.int .i64 (Tg.Ur.own s), H) := by
  refine LC_pure rfl Tryd.func19 rfl (Nat.le_of_ble_eq_true rfl) (by decide) (by kernel_rfl) rfl ?_
  unfold Tg.Ur.own
  by_cases h1 : s = [104, 116, 116, 112]
  · subst h1; simp
  by_cases h2 : s = [119, 115]
  · subst h2; simp
  by_cases h3 : s = [104, 116, 116, 112, 115]
  · subst h3; simp
  by_cases h4 : s = [119, 115, 115]
  · subst h4; simp
  simp [h1, h2, h3, h4]
theorem digit_cl : LC Tryd.prog EJ 55 [.int .u8 b.toNat] H = some (.bool (Tg.Ur.isD b), H) := by
  refine LC_pure rfl Tryd.func55 rfl (Nat.le_of_ble_eq_true rfl) (by decide) (by kernel_rfl) rfl ?_
  unfold Tg.Ur.isD
  by_cases h1 : (48 : Int) ≤ b.toNat <;> by_cases h2 : (b.toNat : Int) ≤ 57 <;> simp [h1, h2]
theorem Digit_cl : LC Tryd.prog EJ 39 [.int .u8 b.toNat] H = some (.bool (Tg.Ur.isD b), H) := by
  refine LC_pure rfl Tryd.func39 rfl (Nat.le_of_ble_eq_true rfl) (by decide) (by kernel_rfl) rfl ?_
  simp [digit_cl]
theorem wrap8 {n : Int} : IntKind.u8.wrap n = n % 256 := IntKind.wrap_u8 _
theorem hex_cl : LC Tryd.prog EJ 52 [.int .u8 b.toNat] H = some (.tuple #[.int .i64 ((Tg.Ur.hx b).getD 0 : Nat), .bool (Tg.Ur.hx b).isSome], H) := by
  refine LC_pure rfl Tryd.func52 rfl (Nat.le_of_ble_eq_true rfl) (by decide) (by kernel_rfl) rfl ?_
  have hlt := b.toNat_lt
  have hdl := digit_cl (H := H) (b := b)
  unfold Tg.Ur.isD at hdl
  unfold Tg.Ur.hx
  have w : ∀ x : Int, 0 ≤ x → x ≤ 255 → IntKind.u8.wrap x = x := fun x h1 h2 => by rw [wrap8]; omega
  have w6 : ∀ x : Int, 0 ≤ x → x ≤ 265 → IntKind.i64.wrap x = x := fun x h1 h2 => wrap64_in (by omega) (by omega)
  by_cases h1 : (48 : Int) ≤ b.toNat ∧ (b.toNat : Int) ≤ 57
  · have e := w ((b.toNat : Int) - 48) (by omega) (by omega)
    have e6 := w6 ((b.toNat : Int) - 48) (by omega) (by omega)
    have e2 : ((b.toNat - 48 : Nat) : Int) = (b.toNat : Int) - 48 := by omega
    simp [h1] at hdl
    simp [hdl, h1, e, e6, e2]
  · have hd : (decide ((48 : Int) ≤ b.toNat) && decide ((b.toNat : Int) ≤ 57)) = false := by
      rw [Bool.and_eq_false_iff, decide_eq_false_iff_not, decide_eq_false_iff_not]; omega
    rw [hd] at hdl
    rw [if_neg h1]
    by_cases h3 : (97 : Int) ≤ b.toNat
    · by_cases h4 : (b.toNat : Int) ≤ 102
      · have e := w ((b.toNat : Int) - 97) (by omega) (by omega)
        have e6 := w6 ((b.toNat : Int) - 97) (by omega) (by omega)
        have e7 := w6 ((b.toNat : Int) - 97 + 10) (by omega) (by omega)
        have e2 : ((b.toNat - 87 : Nat) : Int) = (b.toNat : Int) - 97 + 10 := by omega
        simp [hdl, h3, h4, e, e6, e7, e2]
      · have h5 : (65 : Int) ≤ b.toNat := by omega
        have h6 : ¬ (b.toNat : Int) ≤ 70 := by omega
        simp [hdl, h3, h4, h5, h6]
    · by_cases h5 : (65 : Int) ≤ b.toNat
      · by_cases h6 : (b.toNat : Int) ≤ 70
        · have e := w ((b.toNat : Int) - 65) (by omega) (by omega)
          have e6 := w6 ((b.toNat : Int) - 65) (by omega) (by omega)
          have e7 := w6 ((b.toNat : Int) - 65 + 10) (by omega) (by omega)
          have e2 : ((b.toNat - 55 : Nat) : Int) = (b.toNat : Int) - 65 + 10 := by omega
          simp [hdl, h3, h5, h6, e, e6, e7, e2]
        · simp [hdl, h3, h5, h6]
      · simp [hdl, h3, h5]
theorem great_cl : LC Tryd.prog EJ 64 [.int .u8 b.toNat] H = some (.bool (decide ((65 : Int) ≤ b.toNat) && decide ((b.toNat : Int) ≤ 90)), H) := by
  refine LC_pure rfl Tryd.func64 rfl (Nat.le_of_ble_eq_true rfl) (by decide) (by kernel_rfl) rfl ?_
  by_cases h1 : (65 : Int) ≤ b.toNat <;> by_cases h2 : (b.toNat : Int) ≤ 90 <;> simp [h1, h2]
theorem low_cl : LC Tryd.prog EJ 48 [.int .u8 b.toNat] H = some (.int .u8 (Tg.Lo.low b).toNat, H) := by
  refine LC_pure rfl Tryd.func48 rfl (Nat.le_of_ble_eq_true rfl) (by decide) (by kernel_rfl) rfl ?_
  unfold Tg.Lo.low
  have hlt := b.toNat_lt
  by_cases h1 : (65 : Int) ≤ b.toNat <;> by_cases h2 : (b.toNat : Int) ≤ 90
  · have e : (b + 32).toNat = b.toNat + 32 := by rw [UInt8.toNat_add]; show (b.toNat + 32) % 256 = _; omega
    have hw : IntKind.u8.wrap ((b.toNat : Int) + 32) = ((b + 32).toNat : Int) := by rw [wrap8, e]; omega
    simp [great_cl, h1, h2, hw]
  all_goals simp [great_cl, h1, h2]
theorem wrapI {x : Int} (h1 : -9223372036854775808 ≤ x) (h2 : x ≤ 9223372036854775807) : IntKind.i64.wrap x = x := wrap64_in h1 h2
theorem at_in {s : List UInt8} {i : Nat} (h : i < s.length) : at_ s (i : Int) = s[i] := by
  unfold at_
  rw [show ((i : Nat) : Int).toNat = i by omega, List.getD_eq_getElem?_getD, List.getElem?_eq_getElem h]; rfl
theorem count_cl {g : FuncId} {q : UInt8 → Bool} (hg : ∀ (b : UInt8) (H : LH), LC Tryd.prog EJ g [.int .u8 b.toNat] H = some (.bool (q b), H)) (hs : s.length ≤ 9223372036854775806) :
    LC Tryd.prog EJ 56 [str s, .func (.func g) #[] #[]] H = some (.int .i64 (s.countP q : Nat), H) := by
  refine LC_pure rfl Tryd.func56 rfl (Nat.le_of_ble_eq_true rfl) (by decide) (by kernel_rfl) rfl ?_
  have hfn := lbin_fn_ne (g := g) (f := #[]) (cp := #[]) Tryd.underlying66
  simp
  refine loop_ind (fun (i : Nat) fr' H' => fr' 0 = str s ∧ fr' 1 = .func (.func g) #[] #[] ∧ fr' 5 = .int .i64 ((s.take i).countP q : Nat) ∧ fr' 6 = .int .i64 i ∧ i ≤ s.length ∧ H' = H) (fun i => s.length - i) 0 (by simp) ?_
  rintro i fr' H' ⟨h0, h1, h5, h6, hi, rfl⟩ ih
  by_cases hlt : i < s.length
  · have hat := at_in hlt
    have ht : s.take (i + 1) = s.take i ++ [s[i]] := List.take_succ_eq_append_getElem hlt
    have hw : IntKind.i64.wrap ((i : Int) + 1) = ((i + 1 : Nat) : Int) := by rw [wrapI (by omega) (by omega)]; omega
    have hle : (s.take i).countP q ≤ i := Nat.le_trans List.countP_le_length (by simp; omega)
    have hw2 : IntKind.i64.wrap (((s.take i).countP q : Nat) + 1 : Int) = (((s.take i).countP q + 1 : Nat) : Int) := by rw [wrapI (by omega) (by omega)]; omega
    have hn : (s.take (i + 1)).countP q = (s.take i).countP q + if q s[i] = true then 1 else 0 := by rw [ht, List.countP_append]; simp [List.countP_cons]
    generalize (s.take i).countP q = m at *
    generalize hi1 : i + 1 = i1 at *
    cases hq : q s[i] with
    | true =>
      rw [hq, if_pos rfl] at hn
      generalize hm1 : m + 1 = m1 at *
      simp [hfn, h0, h1, h5, h6, hlt, hat, hg, hq, hw, hw2]
      exact ih i1 _ _ (by omega) ⟨by simp [h0], by simp [h1], by simp [hn], by simp, by omega, rfl⟩
    | false =>
      rw [hq, if_neg (by simp)] at hn
      simp [hfn, h0, h1, h5, h6, hlt, hat, hg, hq, hw]
      exact ih i1 _ _ (by omega) ⟨by simp [h0], by simp [h1], by simp [hn, h5], by simp, by omega, rfl⟩
  · have e : s.take i = s := List.take_of_length_le (by omega)
    rw [e] at h5
    simp [hfn, h0, h1, h5, h6, hlt]
theorem all_cl {g : FuncId} {q : UInt8 → Bool} (hg : ∀ (b : UInt8) (H : LH), LC Tryd.prog EJ g [.int .u8 b.toNat] H = some (.bool (q b), H)) (hs : s.length ≤ 9223372036854775806) :
    LC Tryd.prog EJ 40 [str s, .func (.func g) #[] #[]] H = some (.bool (s.all q), H) := by
  refine LC_pure rfl Tryd.func40 rfl (Nat.le_of_ble_eq_true rfl) (by decide) (by kernel_rfl) rfl ?_
  have e : decide (s.countP q = s.length) = s.all q := by
    rw [Bool.eq_iff_iff, decide_eq_true_eq, List.countP_eq_length, List.all_eq_true]
  have e2 : (((s.countP q : Nat) : Int) = (s.length : Int)) = (s.countP q = s.length) := by apply propext; omega
  rw [← e]
  simp [count_cl hg hs, e2]
theorem low_eq {a b : UInt8} : (((Tg.Lo.low a).toNat : Int) = ((Tg.Lo.low b).toNat : Int)) = (Tg.Lo.low a = Tg.Lo.low b) := by
  apply propext
  constructor
  · intro h; exact UInt8.toNat_inj.1 (by omega)
  · intro h; rw [h]
theorem same_cl (hs : s.length ≤ 9223372036854775806) : LC Tryd.prog EJ 67 [str s, str p] H = some (.bool (decide (Tg.Lo.lower s = Tg.Lo.lower p)), H) := by
  refine LC_pure rfl Tryd.func67 rfl (Nat.le_of_ble_eq_true rfl) (by decide) (by kernel_rfl) rfl ?_
  by_cases hl : s.length = p.length
  · have q1 : ((s.length : Int) = (p.length : Int)) = True := eq_true (by omega)
    refine runs_cut 2 (fun fr' H' => fr' 0 = str s ∧ fr' 1 = str p ∧ H' = H) ?_ (fun K hK => ?_) rfl
    · rintro fr' H' ⟨h0, h1, rfl⟩
      simp [h0, h1]
      refine loop_ind (fun (i : Nat) fr2 H2 => fr2 0 = str s ∧ fr2 1 = str p ∧ fr2 12 = .int .i64 s.length ∧ fr2 13 = .int .i64 i ∧ i ≤ s.length ∧ Tg.Lo.lower (s.take i) = Tg.Lo.lower (p.take i) ∧ H2 = H') (fun i => s.length - i) 0 ⟨by simp [h0], by simp [h1], by simp, by simp, by simp, by simp, rfl⟩ ?_
      rintro i fr2 H2 ⟨g0, g1, g12, g13, hi, he, rfl⟩ ih
      by_cases hlt : i < s.length
      · have hlp : i < p.length := by omega
        have a1 := at_in hlt
        have a2 := at_in hlp
        have hw : IntKind.i64.wrap ((i : Int) + 1) = ((i + 1 : Nat) : Int) := by rw [wrapI (by omega) (by omega)]; omega
        have t1 : s.take (i + 1) = s.take i ++ [s[i]] := List.take_succ_eq_append_getElem hlt
        have t2 : p.take (i + 1) = p.take i ++ [p[i]] := List.take_succ_eq_append_getElem hlp
        have hle := @low_eq s[i] p[i]
        by_cases hc : Tg.Lo.low s[i] = Tg.Lo.low p[i]
        · have qc := eq_true hc
          rw [qc] at hle
          have hn : Tg.Lo.lower (s.take (i + 1)) = Tg.Lo.lower (p.take (i + 1)) := by
            rw [t1, t2]; unfold Tg.Lo.lower at he ⊢; rw [List.map_append, List.map_append, he]; simp [hc]
          have hc' := congrArg UInt8.toNat hc
          generalize hi1 : i + 1 = i1 at *
          simp [g0, g1, g12, g13, hlt, hlp, a1, a2, low_cl, hle, hc, hw]
          exact ih i1 _ _ (by omega) ⟨by simp [g0], by simp [g1], by simp [g12], by simp, by omega, hn, rfl⟩
        · have qc := eq_false hc
          rw [qc] at hle
          have hne : ¬ Tg.Lo.lower s = Tg.Lo.lower p := by
            intro h
            have := congrArg (fun l => l[i]?) h
            simp [Tg.Lo.lower, hlt, hlp] at this
            exact hc this
          simp [g0, g1, g12, g13, hlt, hlp, a1, a2, low_cl, hle, hc, hne]
      · have e1 : s.take i = s := List.take_of_length_le (by omega)
        have e2 : p.take i = p := List.take_of_length_le (by omega)
        rw [e1, e2] at he
        simp [g0, g1, g12, g13, hlt, he]
    · simp [q1]
      exact hK _ _ ⟨by simp, by simp, rfl⟩
  · have q1 : ((s.length : Int) = (p.length : Int)) = False := eq_false (by omega)
    have hne : ¬ Tg.Lo.lower s = Tg.Lo.lower p := by
      intro h
      have := congrArg List.length h
      simp [Tg.Lo.lower] at this
      exact hl this
    simp [q1, hne]
theorem begins_cl (hs : s.length ≤ 9223372036854775806) : LC Tryd.prog EJ 50 [str s, str p] H = some (.bool (decide (Tg.Lo.lower (s.take p.length) = Tg.Lo.lower p)), H) := by
  refine LC_pure rfl Tryd.func50 rfl (Nat.le_of_ble_eq_true rfl) (by decide) (by kernel_rfl) rfl ?_
  by_cases hl : p.length ≤ s.length
  · have q1 : ((p.length : Int) ≤ (s.length : Int)) = True := eq_true (by omega)
    have h1 := same_cl (H := H) (s := s.take p.length) (p := p) (by simp; omega)
    simp [q1, h1]
  · have q1 : ((p.length : Int) ≤ (s.length : Int)) = False := eq_false (by omega)
    have hne : ¬ Tg.Lo.lower (s.take p.length) = Tg.Lo.lower p := by
      intro h
      have := congrArg List.length h
      simp [Tg.Lo.lower] at this
      omega
    simp [q1, hne]
end
end Go.Proofs.YthgcgjpbhbikaaaDoor
/-
  Layer 26 (url): what the code's functions come to: points, trims, parts of texts.
-/
set_option linter.unusedSimpArgs false
set_option linter.unusedVariables false
set_option maxRecDepth 100000
namespace Tg.Ur
theorem pts_nil (n : Nat) : pts [] n = n := by rw [pts]
theorem pts_dot (r : List UInt8) (n : Nat) : pts (46 :: r) n = pts r (n + 1) := by rw [pts]
theorem pts_cons (b : UInt8) (r : List UInt8) (n : Nat) (h : b ≠ 46) : pts (b :: r) n = if Tg.Lo.lower ((b :: r).take 3) = [37, 50, 101] then pts (r.drop 2) (n + 1) else 0 := by
  rw [pts]
  intro h2; exact h h2
theorem pts_le : ∀ (k : Nat) (s : List UInt8) (n : Nat), s.length ≤ k → pts s n ≤ n + s.length
  | 0, s, n, h => by
    have : s = [] := List.eq_nil_of_length_eq_zero (by omega)
    subst this; rw [pts_nil]; simp
  | k + 1, s, n, h => by
    cases s with
    | nil => rw [pts_nil]; simp
    | cons b r =>
      by_cases h46 : b = 46
      · subst h46
        rw [pts_dot]
        have := pts_le k r (n + 1) (by simp at h; omega)
        simp; omega
      · rw [pts_cons b r n h46]
        split
        · have := pts_le k (r.drop 2) (n + 1) (by simp at h ⊢; omega)
          simp at this ⊢; omega
        · omega
end Tg.Ur
namespace Go.Proofs.YthgcgjpbhbikaaaDoor
open Go.Lg Go.Tg
section
variable {H : LH} {b : UInt8} {s p : List UInt8}
theorem points_cl (hs : s.length ≤ 1048576) : LC Tryd.prog EJ 30 [str s] H = some (.int .i64 (Tg.Ur.pts s 0 : Nat), H) := by
  refine LC_pure rfl Tryd.func30 rfl (Nat.le_of_ble_eq_true rfl) (by decide) (by kernel_rfl) rfl ?_
  simp
  refine loop_ind (fun (u : List UInt8) fr' H' => fr' 0 = str u ∧ (∃ n : Nat, fr' 3 = .int .i64 n ∧ Tg.Ur.pts s 0 = Tg.Ur.pts u n ∧ n + u.length ≤ 1048576) ∧ H' = H) (fun u => u.length) s ⟨by simp, ⟨0, by simp, rfl, by omega⟩, rfl⟩ ?_
  rintro u fr' H' ⟨h0, ⟨n, h3, hp, hl⟩, rfl⟩ ih
  cases u with
  | nil =>
    rw [Tg.Ur.pts_nil] at hp
    simp [h0, h3, hp]
  | cons c r =>
    have hat : at_ (c :: r) 0 = c := rfl
    have hw : IntKind.i64.wrap ((n : Int) + 1) = ((n + 1 : Nat) : Int) := by rw [wrapI (by simp at hl; omega) (by simp at hl; omega)]; omega
    have q0 := eq_true (show (0 : Int) < (r.length : Int) + 1 by omega)
    have q1 := eq_true (show (1 : Int) ≤ (r.length : Int) + 1 by omega)
    by_cases h46 : c = 46
    · subst h46
      rw [Tg.Ur.pts_dot] at hp
      generalize hn1 : n + 1 = n1 at *
      simp [h0, h3, hat, hw, q0, q1]
      exact ih r _ _ (by simp) ⟨by simp, ⟨n1, by simp, hp, by simp at hl; omega⟩, rfl⟩
    · have hb := begins_cl (H := H') (s := c :: r) (p := [37, 50, 101]) (by simp at hl ⊢; omega)
      rw [Tg.Ur.pts_cons c r n h46] at hp
      have e3 : Tg.Lo.lower [37, 50, 101] = [37, 50, 101] := by decide
      rw [e3, show ([37, 50, 101] : List UInt8).length = 3 from rfl] at hb
      by_cases hd : Tg.Lo.lower ((c :: r).take 3) = [37, 50, 101]
      · rw [if_pos hd] at hp
        have hlen : 3 ≤ (c :: r).length := by
          have := congrArg List.length hd
          simp [Tg.Lo.lower] at this ⊢; omega
        have q3 := eq_true (show (3 : Int) ≤ (r.length : Int) + 1 by simp at hlen; omega)
        have hdd : (c :: r).drop 3 = r.drop 2 := rfl
        rw [decide_eq_true hd] at hb
        generalize hn1 : n + 1 = n1 at *
        simp [h0, h3, hat, h46, hb, hw, q0, q3]
        exact ih (r.drop 2) _ _ (by simp; omega) ⟨by simp, ⟨n1, by simp, hp, by simp at hl ⊢; omega⟩, rfl⟩
      · rw [if_neg hd] at hp
        rw [decide_eq_false hd] at hb
        simp [h0, h3, hat, h46, hb, q0, hp]
theorem until_some {o : Nat} (hs : s.length ≤ 1048576) (hp : p.length < 4294967281) (ha : ascL p) (h : Lib.indexAny s p = o) : LC Tryd.prog EJ 13 [str s, str p] H = some (.tuple #[str (s.take o), str (s.drop o)], H) := by
  refine LC_pure rfl Tryd.func13 rfl (Nat.le_of_ble_eq_true rfl) (by decide) (by kernel_rfl) rfl ?_
  have hi := indexAny_l (H := H) (s := s) (p := p) (by omega) hp ha
  rw [h] at hi
  have hle : o ≤ s.length := by
    have key : ∀ s : List UInt8, Lib.indexAny s p ≤ (s.length : Int) := by
      intro s
      induction s with
      | nil => simp [Lib.indexAny]
      | cons b r ih =>
        unfold Lib.indexAny
        split
        · simp; omega
        · split <;> simp <;> omega
    have := key s; omega
  have q := eq_true (show (o : Int) ≤ (s.length : Int) by omega)
  simp [hi, q]
theorem until_none (hs : s.length ≤ 1048576) (hp : p.length < 4294967281) (ha : ascL p) (h : Lib.indexAny s p = -1) : LC Tryd.prog EJ 13 [str s, str p] H = some (.tuple #[str s, str []], H) := by
  refine LC_pure rfl Tryd.func13 rfl (Nat.le_of_ble_eq_true rfl) (by decide) (by kernel_rfl) rfl ?_
  have hi := indexAny_l (H := H) (s := s) (p := p) (by omega) hp ha
  rw [h] at hi
  simp [hi]
theorem dw_le {q : UInt8 → Bool} (s : List UInt8) : (s.dropWhile q).length ≤ s.length := (List.dropWhile_suffix q).length_le
theorem trim_cl (hs : s.length ≤ 1048576) : LC Tryd.prog EJ 8 [str s] H = some (str (Tg.Ur.trim s), H) := by
  refine LC_pure rfl Tryd.func8 rfl (Nat.le_of_ble_eq_true rfl) (by decide) (by kernel_rfl) (by simp) ?_
  -- the end
  refine runs_cut 2 (fun fr' H' => fr' 0 = str (Tg.Ur.trimL s) ∧ H' = H) ?_ (fun K1 hK1 => ?_) rfl
  · rintro fr' H' ⟨h0, rfl⟩
    have hl : (Tg.Ur.trimL s).length ≤ 1048576 := Nat.le_trans (dw_le s) hs
    simp
    refine loop_ind (fun (u : List UInt8) fr2 H2 => fr2 0 = str u ∧ u.length ≤ 1048576 ∧ Tg.Ur.trim s = (u.reverse.dropWhile fun b => decide ((b.toNat : Int) ≤ 32)).reverse ∧ H2 = H') (fun u => u.length) (Tg.Ur.trimL s) ⟨h0, hl, rfl, rfl⟩ ?_
    rintro u fr2 H2 ⟨g0, gl, ht, rfl⟩ ih
    rcases List.eq_nil_or_concat u with rfl | ⟨u, c, rfl⟩
    · simp at ht
      simp [g0, ht]
    · rw [List.concat_eq_append] at *
      have e1 : ((u.length : Int) + 1 - 1) = (u.length : Int) := by omega
      have hw : IntKind.i64.wrap (u.length : Int) = (u.length : Int) := wrapI (by omega) (by simp at gl; omega)
      have hat : at_ (u ++ [c]) (u.length : Int) = c := by rw [at_in (by simp)]; simp
      have q0 := eq_true (show (u.length : Int) < (u.length : Int) + 1 by omega)
      have q1 := eq_true (show (u.length : Int) ≤ (u.length : Int) + 1 by omega)
      have htk : (u ++ [c]).take u.length = u := by simp
      by_cases hc : (c.toNat : Int) ≤ 32
      · have ht2 : Tg.Ur.trim s = (u.reverse.dropWhile fun b => decide ((b.toNat : Int) ≤ 32)).reverse := by
          rw [ht, List.reverse_append]; simp [List.dropWhile_cons, hc]
        simp [g0, e1, hw, hat, q0, q1, hc, htk]
        exact ih u _ _ (by simp) ⟨by simp, by simp at gl; omega, ht2, rfl⟩
      · have ht2 : Tg.Ur.trim s = u ++ [c] := by
          rw [ht, List.reverse_append]; simp [List.dropWhile_cons, hc]
        simp [g0, e1, hw, hat, q0, hc, ht2]
  simp
  refine loop_ind (fun (u : List UInt8) fr2 H2 => fr2 0 = str u ∧ u.length ≤ 1048576 ∧ Tg.Ur.trimL s = Tg.Ur.trimL u ∧ H2 = H) (fun u => u.length) s ⟨by simp, hs, rfl, rfl⟩ ?_
  rintro u fr2 H2 ⟨g0, gl, ht, rfl⟩ ih
  cases u with
  | nil =>
    simp [g0]
    exact hK1 _ _ ⟨by rw [ht, show Tg.Ur.trimL [] = [] from rfl]; simp [g0], rfl⟩
  | cons c r =>
    have hat : at_ (c :: r) 0 = c := rfl
    have q0 := eq_true (show (0 : Int) < (r.length : Int) + 1 by omega)
    have q1 := eq_true (show (1 : Int) ≤ (r.length : Int) + 1 by omega)
    by_cases hc : (c.toNat : Int) ≤ 32
    · have ht2 : Tg.Ur.trimL s = Tg.Ur.trimL r := by rw [ht]; unfold Tg.Ur.trimL; simp [List.dropWhile_cons, hc]
      simp [g0, hat, hc, q0, q1]
      exact ih r _ _ (by simp) ⟨by simp, by simp at gl; omega, ht2, rfl⟩
    · have ht2 : Tg.Ur.trimL s = c :: r := by rw [ht]; unfold Tg.Ur.trimL; simp [List.dropWhile_cons, hc]
      simp [g0, hat, hc, q0]
      exact hK1 _ _ ⟨by simp [g0, ht2], rfl⟩
end
end Go.Proofs.YthgcgjpbhbikaaaDoor
/-
  Layer 26 (url): what the code's functions come to: texts quoted.
-/
set_option linter.unusedSimpArgs false
set_option linter.unusedVariables false
set_option maxRecDepth 100000
namespace Tg.Ur
/-- the digits of an escape, whether or not they are good -/
def escP (s : List UInt8) : List UInt8 × Bool :=
  match s with
  | 37 :: x :: y :: _ => ([37, hd16 ((hx x).getD 0), hd16 ((hx y).getD 0)], (hx x).isSome && (hx y).isSome)
  | _ => ([], false)
theorem esc_of (s : List UInt8) : esc s = if (escP s).2 then some (escP s).1 else Option.none := by
  unfold esc escP
  split
  · rename_i x y r
    cases h1 : hx x <;> cases h2 : hx y <;> simp [h1, h2]
  · simp
theorem hx_lt {b : UInt8} {n : Nat} (h : hx b = some n) : n < 16 := by
  unfold hx at h
  split at h
  · injection h with h; omega
  · split at h
    · injection h with h; omega
    · split at h
      · injection h with h; omega
      · cases h
theorem hxD_lt (b : UInt8) : (hx b).getD 0 < 16 := by
  cases h : hx b with
  | none => simp
  | some n => exact hx_lt h
end Tg.Ur
namespace Go.Proofs.YthgcgjpbhbikaaaDoor
open Go.Lg Go.Tg
section
variable {H : LH} {b : UInt8} {s p : List UInt8}
theorem hexd_at {n : Nat} : at_ [48, 49, 50, 51, 52, 53, 54, 55, 56, 57, 65, 66, 67, 68, 69, 70] (n : Int) = Tg.Ur.hd16 n := by
  unfold at_ Tg.Ur.hd16; rw [Int.toNat_natCast]; rfl
theorem conv3 {y z : UInt8} : lconv Tryd.prog 23 9 (sl H.n 3 3) (H.new ⟨[.int .u8 37, .int .u8 y.toNat, .int .u8 z.toNat], 5, true⟩) = some (str [37, y, z]) :=
  lconv_bs (e := 5) Tryd.underlying23 Tryd.underlying9 Tryd.underlying5 get_new (by simp) (by show lbs [bv 37, bv y, bv z] = _; exact lbs_map [37, y, z])
theorem escaped_cl (hs : s.length ≤ 1048576) : LC Tryd.prog EJ 32 [str s] H = some (.tuple #[str (Tg.Ur.escP s).1, .bool (Tg.Ur.escP s).2], H) := by
  refine LC_pure rfl Tryd.func32 rfl (Nat.le_of_ble_eq_true rfl) (by decide) (by kernel_rfl) rfl ?_
  by_cases h3 : s.length < 3
  · have q := eq_true (show (s.length : Int) < 3 by omega)
    have e : Tg.Ur.escP s = ([], false) := by
      unfold Tg.Ur.escP
      split
      · simp at h3; omega
      · rfl
    simp [q, e]
  · rcases s with _ | ⟨c, _ | ⟨x, _ | ⟨y, r⟩⟩⟩
    · simp at h3
    · simp at h3
    · simp at h3
    · have a0 : at_ (c :: x :: y :: r) 0 = c := rfl
      have a1 : at_ (c :: x :: y :: r) 1 = x := rfl
      have a2 : at_ (c :: x :: y :: r) 2 = y := rfl
      have q := eq_false (show ¬ ((c :: x :: y :: r).length : Int) < 3 by simp; omega)
      have q0 := eq_true (show (0 : Int) < (r.length : Int) + 1 + 1 + 1 by omega)
      have q1 := eq_true (show (1 : Int) < (r.length : Int) + 1 + 1 + 1 by omega)
      have q2 := eq_true (show (2 : Int) < (r.length : Int) + 1 + 1 + 1 by omega)
      have q3 := eq_false (show ¬ (r.length : Int) + 1 + 1 + 1 < 3 by omega)
      by_cases hc : c = 37
      · subst hc
        have hl1 := Tg.Ur.hxD_lt x
        have hl2 := Tg.Ur.hxD_lt y
        have hh1 := fun H : LH => hex_cl (H := H) (b := x)
        have hh2 := fun H : LH => hex_cl (H := H) (b := y)
        have e : Tg.Ur.escP (37 :: x :: y :: r) = ([37, Tg.Ur.hd16 ((Tg.Ur.hx x).getD 0), Tg.Ur.hd16 ((Tg.Ur.hx y).getD 0)], (Tg.Ur.hx x).isSome && (Tg.Ur.hx y).isSome) := rfl
        rw [e]
        have g1 := hexd_at (n := (Tg.Ur.hx x).getD 0)
        have g2 := hexd_at (n := (Tg.Ur.hx y).getD 0)
        generalize (Tg.Ur.hx x).getD 0 = n1 at *
        generalize (Tg.Ur.hx y).getD 0 = n2 at *
        generalize (Tg.Ur.hx x).isSome = b1 at *
        generalize (Tg.Ur.hx y).isSome = b2 at *
        have q4 := eq_true (show (n1 : Int) < 16 by omega)
        have q5 := eq_true (show (n2 : Int) < 16 by omega)
        cases b1 <;> simp [a0, a1, a2, q, q0, q1, q2, q3, hh1, hh2, g1, g2, q4, q5, conv3]
      · have e : Tg.Ur.escP (c :: x :: y :: r) = ([], false) := by
          unfold Tg.Ur.escP
          split
          · rename_i h; injection h with h; exact absurd h hc
          · rfl
        simp [a0, q, q0, q3, hc, e]
/-! ### quoted -/
theorem qt_esc {s e : List UInt8} (h : Tg.Ur.esc s = some e) : Tg.Ur.qt s = e ++ Tg.Ur.qt (s.drop 3) := by
  cases s with
  | nil => simp [Tg.Ur.esc] at h
  | cons b r => rw [Tg.Ur.qt, h]; rfl
theorem qt_byte {b : UInt8} {r : List UInt8} (h : Tg.Ur.esc (b :: r) = none) : Tg.Ur.qt (b :: r) = (if Tg.Ur.okB b then [b] else Tg.Ur.pct b) ++ Tg.Ur.qt r := by
  rw [Tg.Ur.qt, h]
theorem esc_len {s e : List UInt8} (h : Tg.Ur.esc s = some e) : e.length = 3 ∧ 3 ≤ s.length := by
  unfold Tg.Ur.esc at h
  split at h
  · split at h
    · injection h with h; subst h; simp
    · cases h
  · cases h
theorem Bld.new {N b : Nat} {l : List UInt8} {v : Value} {x : LB} (h : Bld N H b l v) : Bld N (H.new x) b l v :=
  ⟨by obtain ⟨p, hg, hp⟩ := h.get; exact ⟨p, by rw [get_new_ne (by have := h.lt; omega)]; exact hg, hp⟩, h.row.keep (Nat.le_succ _) (fun k _ _ hk => get_new_ne (by omega)), h.full, h.off, by rw [n_new]; have := h.lt; omega, by rw [n_new]; have := h.N; omega, h.nil⟩
theorem Bld.off_lt {N b k : Nat} {l : List UInt8} {v : Value} (h : Bld N H b l v) (hk : k < N) : offRow v k := by
  intro n c e
  rcases h.row.2 with ⟨rfl, _⟩ | ⟨k', c', rest, rfl, g1, _⟩
  · cases e
  · injection e with e; injection e with e; injection e with e; omega
theorem Bld.first : Bld H.n (H.new ⟨[.pointer none, .slice none 0 0], 55, true⟩) H.n [] (.slice none 0 0) :=
  ⟨⟨_, get_new, .inl rfl⟩, RowN.nil, (by unfold Full; simp), (fun _ _ e => by cases e), (by rw [n_new]; omega), (by rw [n_new]; omega), fun _ => rfl⟩
theorem wstr_k {N b : Nat} {l s : List UInt8} {v : Value} (h : Bld N H b l v) (hN : N ≤ b) (hlen : l.length + s.length ≤ maxElems) :
    ∃ v' H', LC Tryd.prog EJ 33 [ptr b 0, str s] H = some (.tuple #[.int .i64 s.length, .nilIface], H') ∧ Bld N H' b (l ++ s) v' ∧ ∀ k, k < N → H'.get k = H.get k := by
  obtain ⟨v', H', e, hb, hk⟩ := wstr_ex h hlen
  exact ⟨v', H', e, hb, fun k hk2 => hk.keep k (by have := h.lt; omega) (by omega) (h.off_lt hk2)⟩
theorem wbyte_k {N b : Nat} {l : List UInt8} {v : Value} {c : UInt8} (h : Bld N H b l v) (hN : N ≤ b) (hlen : l.length + 1 ≤ maxElems) :
    ∃ v' H', LC Tryd.prog EJ 35 [ptr b 0, .int .u8 c.toNat] H = some (.nilIface, H') ∧ Bld N H' b (l ++ [c]) v' ∧ ∀ k, k < N → H'.get k = H.get k := by
  obtain ⟨v', H', e, hb, hk⟩ := wbyte_ex h hlen
  exact ⟨v', H', e, hb, fun k hk2 => hk.keep k (by have := h.lt; omega) (by omega) (h.off_lt hk2)⟩
theorem idx_lt (l : List UInt8) (c : UInt8) : l.contains c = !decide (Lib.indexByte l c < 0) := by
  induction l with
  | nil => rfl
  | cons x l ih =>
    have hge := Lib.indexByte_ge l c
    rw [List.contains_cons]
    unfold Lib.indexByte
    by_cases hx : x = c
    · subst hx; simp
    · have hx1 : (x == c) = false := by simp [hx]
      have hx2 : (c == x) = false := by simp; exact fun e => hx e.symm
      rw [hx1, hx2, ih]
      simp only [Bool.false_or, Bool.false_eq_true, if_false]
      by_cases h1 : Lib.indexByte l c = -1
      · simp [h1]
      · have : (Lib.indexByte l c == -1) = false := by simp [h1]
        rw [this]
        simp only [Bool.false_eq_true, if_false]
        congr 2
        rw [eq_iff_iff]; omega
theorem nibF : ∀ k : Fin 256, (k.1 : Int).fdiv (2 ^ (min 4 8)) = ((k.1 / 16 : Nat) : Int) ∧ bAnd .u8 (k.1 : Int) 15 = ((k.1 % 16 : Nat) : Int) := by decide +kernel
theorem nib (b : UInt8) : (b.toNat : Int).fdiv 16 = ((b.toNat / 16 : Nat) : Int) ∧ bAnd .u8 (b.toNat : Int) 15 = ((b.toNat % 16 : Nat) : Int) ∧ b.toNat / 16 < 16 ∧ b.toNat % 16 < 16 := by
  have hlt := b.toNat_lt
  have := nibF ⟨b.toNat, hlt⟩
  exact ⟨this.1, this.2, by omega, by omega⟩
theorem quote_cl (hs : s.length ≤ 300000) : LC Tryd.prog EJ 18 [str s] H = some (str (Tg.Ur.qt s), H) := by
  refine LC_pure rfl Tryd.func18 rfl (Nat.le_of_ble_eq_true rfl) (by decide) (by kernel_rfl) rfl ?_
  simp
  have hN : H.n ≤ H.n := Nat.le_refl _
  refine loop_ind (fun (i : Nat) fr' H' => fr' 0 = str s ∧ fr' 3 = ptr H.n 0 ∧ fr' 4 = .int .i64 i ∧ i ≤ s.length ∧ (∃ l v, Bld H.n H' H.n l v ∧ Tg.Ur.qt s = l ++ Tg.Ur.qt (s.drop i) ∧ l.length ≤ 3 * i) ∧ ∀ k, k < H.n → H'.get k = H.get k) (fun i => s.length - i) 0 ⟨by simp, by simp, by simp, Nat.zero_le _, ⟨[], _, Bld.first, by simp, by simp⟩, fun k hk => get_new_ne (by omega)⟩ ?_
  rintro i fr' H' ⟨h0, h3, h4, hi, ⟨l, v, hb, hq, hl⟩, hle⟩ ih
  have hm : maxElems = maxElems := rfl
  by_cases hlt : i < s.length
  · have q0 := eq_true (show (i : Int) < (s.length : Int) by omega)
    have q1 := eq_true (show (i : Int) ≤ (s.length : Int) by omega)
    have hd : s.drop i = s[i] :: s.drop (i + 1) := List.drop_eq_getElem_cons hlt
    have hat : at_ s (i : Int) = s[i] := at_in hlt
    have hes := fun H : LH => escaped_cl (H := H) (s := s.drop i) (by simp; omega)
    have heo := Tg.Ur.esc_of (s.drop i)
    have hw1 : IntKind.i64.wrap ((i : Int) + 1) = ((i + 1 : Nat) : Int) := by rw [wrapI (by omega) (by omega)]; omega
    have hw2 : IntKind.i64.wrap ((i : Int) + 2) = (i : Int) + 2 := wrapI (by omega) (by omega)
    have hw3 : IntKind.i64.wrap ((i : Int) + 2 + 1) = (i : Int) + 3 := by rw [wrapI (by omega) (by omega)]; omega
    cases hok : (Tg.Ur.escP (s.drop i)).2 with
    | true =>
      rw [hok, if_pos rfl] at heo
      rw [qt_esc heo] at hq
      obtain ⟨he1, he2⟩ := esc_len heo
      simp at he2
      rw [hok] at hes
      generalize (Tg.Ur.escP (s.drop i)).1 = e at *
      obtain ⟨v', H2, w1, w2, w3⟩ := wstr_k (s := e) hb hN (by rw [he1]; unfold maxElems; omega)
      simp [h0, h3, h4, q0, q1, hat, hes, w1, hw2, hw3]
      refine ih (i + 3) _ _ (by omega) ⟨by simp [h0], by simp [h3], by simp [hw3], by omega, ⟨l ++ e, v', w2, ?_, by rw [List.length_append]; omega⟩, fun k hk => by rw [w3 k hk, hle k hk]⟩
      rw [hq, List.drop_drop, List.append_assoc]
    | false =>
      rw [hok, if_neg (by simp)] at heo
      rw [hok] at hes
      rw [hd] at heo
      rw [hd, qt_byte heo] at hq
      generalize s[i] = b at *
      have hxb := fun H : LH => indexByte_l (H := H) (s := [34, 60, 62, 96]) (c := b)
      have hmem := idx_lt [34, 60, 62, 96] b
      have hokb : Tg.Ur.okB b = (decide ((32 : Int) < b.toNat) && decide ((b.toNat : Int) ≤ 126) && decide (Lib.indexByte [34, 60, 62, 96] b < 0)) := by
        unfold Tg.Ur.okB; rw [hmem]; simp
      generalize Lib.indexByte [34, 60, 62, 96] b = ix at *
      cases hob : Tg.Ur.okB b with
      | true =>
        rw [hob] at hokb hq
        obtain ⟨v', H2, w1, w2, w3⟩ := wbyte_k (c := b) hb hN (by unfold maxElems; omega)
        have hokb := hokb.symm
        rw [Bool.and_eq_true, Bool.and_eq_true, decide_eq_true_eq, decide_eq_true_eq, decide_eq_true_eq] at hokb
        obtain ⟨⟨o1, o2⟩, o3⟩ := hokb
        simp [h0, h3, h4, q0, q1, hat, hes, hxb, o1, o2, o3, w1]
        refine ih (i + 1) _ _ (by omega) ⟨by simp [h0], by simp [h3], by simp [hw1], by omega, ⟨l ++ [b], v', w2, ?_, by rw [List.length_append]; simp; omega⟩, fun k hk => by rw [w3 k hk, hle k hk]⟩
        rw [hq, if_pos rfl, List.append_assoc]
      | false =>
        rw [hob] at hokb hq
        rw [if_neg (by simp)] at hq
        obtain ⟨e1, e2, e3, e4⟩ := nib b
        have e1 : (b.toNat : Int).fdiv (2 ^ min 4 IntKind.u8.bits) = ((b.toNat / 16 : Nat) : Int) := e1
        have g1 := hexd_at (n := b.toNat / 16)
        have g2 := hexd_at (n := b.toNat % 16)
        obtain ⟨v', H2, w1, w2, w3⟩ := wstr_k (s := Tg.Ur.pct b) (hb.new (x := ⟨[.int .u8 37, .int .u8 (Tg.Ur.hd16 (b.toNat / 16)).toNat, .int .u8 (Tg.Ur.hd16 (b.toNat % 16)).toNat], 5, true⟩)) hN (by show _ + 3 ≤ _; unfold maxElems; omega)
        have hfin := fun fr2 (f0 : fr2 0 = str s) (f3 : fr2 3 = ptr H.n 0) (f4 : fr2 4 = .int .i64 ((i + 1 : Nat) : Int)) => ih (i + 1) fr2 H2 (by omega) ⟨f0, f3, f4, by omega, ⟨l ++ Tg.Ur.pct b, v', w2, by rw [hq, List.append_assoc], by rw [List.length_append]; show _ + 3 ≤ _; omega⟩, fun k hk => by rw [w3 k hk, get_new_ne (by have := hb.lt; omega), hle k hk]⟩
        unfold Tg.Ur.pct at w1
        have q5 := eq_true (show ((b.toNat / 16 : Nat) : Int) < 16 by omega)
        have q6 := eq_true (show ((b.toNat % 16 : Nat) : Int) < 16 by omega)
        clear ih w2 w3 hq
        generalize b.toNat / 16 = n1 at *
        generalize b.toNat % 16 = n2 at *
        have hw : ∀ n : Nat, n < 16 → IntKind.u8.wrap (n : Int) = (n : Int) := fun n h => by rw [wrap8]; omega
        have hwa := hw n1 e3
        have hwb := hw n2 e4
        by_cases o1 : (32 : Int) < b.toNat
        · by_cases o2 : (b.toNat : Int) ≤ 126
          · have o3 : ¬ ix < 0 := by
              intro h; rw [decide_eq_true o1, decide_eq_true o2, decide_eq_true h] at hokb; cases hokb
            have o3 := eq_false o3
            simp [h0, h3, h4, q0, q1, hat, hes, hxb, o1, o2, o3, e1, e2, g1, g2, q5, q6, hwa, hwb, conv3, w1]
            refine hfin _ ?_ ?_ ?_
            all_goals simp [h0, h3, hw1]
          · have o2 := eq_false o2
            simp [h0, h3, h4, q0, q1, hat, hes, hxb, o1, o2, e1, e2, g1, g2, q5, q6, hwa, hwb, conv3, w1]
            refine hfin _ ?_ ?_ ?_
            all_goals simp [h0, h3, hw1]
        · have o1 := eq_false o1
          simp [h0, h3, h4, q0, q1, hat, hes, hxb, o1, e1, e2, g1, g2, q5, q6, hwa, hwb, conv3, w1]
          refine hfin _ ?_ ?_ ?_
          all_goals simp [h0, h3, hw1]
  · have q0 := eq_false (show ¬ (i : Int) < (s.length : Int) by omega)
    rw [List.drop_of_length_le (by omega), show Tg.Ur.qt [] = [] by rw [Tg.Ur.qt], List.append_nil] at hq
    obtain ⟨H2, b1, b2, b3⟩ := bstr_ex hb (by unfold maxLen; omega)
    simp [h0, h3, h4, q0, b1, hq]
    exact ⟨by have := hb.lt; omega, fun k hk => by rw [b3 k hk, hle k hk]⟩
end
end Go.Proofs.YthgcgjpbhbikaaaDoor
/-
  Layer 26 (url): pieces between slashes, and their joining, in plain words.
-/
set_option linter.unusedSimpArgs false
set_option linter.unusedVariables false
namespace Tg.Ur
open Go
theorem pieces_ne (s : List UInt8) : pieces s ≠ [] := by
  cases s with
  | nil => simp [pieces]
  | cons b r =>
    unfold pieces
    split
    · simp
    · split <;> simp
theorem pieces_idx : ∀ s : List UInt8, (Lib.indexByte s 47 = -1 → pieces s = [s]) ∧ ∀ i : Nat, Lib.indexByte s 47 = i → pieces s = s.take i :: pieces (s.drop (i + 1))
  | [] => ⟨fun _ => rfl, fun i h => by simp [Lib.indexByte] at h⟩
  | b :: r => by
    obtain ⟨h1, h2⟩ := pieces_idx r
    have hge := Lib.indexByte_ge r 47
    unfold Lib.indexByte
    by_cases hb : b = 47
    · subst hb
      constructor
      · intro h; simp at h
      · intro i h
        have : i = 0 := by simp at h; omega
        subst this
        simp [pieces]
    · have hb1 : (b == 47) = false := by simp [hb]
      rw [hb1]
      simp only [Bool.false_eq_true, if_false]
      by_cases hm : Lib.indexByte r 47 = -1
      · constructor
        · intro _; unfold pieces; rw [if_neg hb, h1 hm]
        · intro i h; simp [hm] at h
      · have hm1 : (Lib.indexByte r 47 == -1) = false := by simp [hm]
        rw [hm1]
        simp only [Bool.false_eq_true, if_false]
        constructor
        · intro h; omega
        · intro i h
          obtain ⟨j, rfl⟩ : ∃ j, i = j + 1 := ⟨i - 1, by omega⟩
          have e := h2 j (by omega)
          conv => lhs; unfold pieces
          rw [if_neg hb, e]
          rfl
theorem splitK_pieces : ∀ (n : Nat) (s : List UInt8), s.length ≤ n → Lib.splitK [47] 0 (Lib.count s [47]) s = pieces s ∧ Lib.count s [47] ≤ s.length
  | n, s, h => by
    obtain ⟨h1, h2⟩ := pieces_idx s
    have hge := Lib.indexByte_ge s 47
    by_cases hm : Lib.indexByte s 47 = -1
    · have hi : Lib.index s [47] = -1 := by rw [Lib.index_one]; exact hm
      rw [Lib.count_miss hi, h1 hm]
      exact ⟨rfl, by omega⟩
    · obtain ⟨i, hi⟩ : ∃ i : Nat, Lib.indexByte s 47 = i := ⟨(Lib.indexByte s 47).toNat, by omega⟩
      have hi2 : Lib.index s [47] = i := by rw [Lib.index_one]; exact hi
      have hlt : i < s.length := by
        have := (Lib.indexByte_some hi).1
        rcases Nat.lt_or_ge i s.length with g | g
        · exact g
        · rw [List.getElem?_eq_none g] at this; cases this
      rw [Lib.count_hit (by simp) hi2, h2 i hi]
      cases n with
      | zero => omega
      | succ n =>
        have ih := splitK_pieces n (s.drop (i + 1)) (by rw [List.length_drop]; omega)
        rw [Nat.add_comm 1]
        constructor
        · show (if Lib.index s [47] == -1 then [s] else s.take ((Lib.index s [47]).toNat + 0) :: Lib.splitK [47] 0 (Lib.count (s.drop (i + 1)) [47]) (s.drop ((Lib.index s [47]).toNat + 1))) = _
          rw [hi2, if_neg (by simp), Int.toNat_natCast, ih.1]
          rfl
        · have h3 := ih.2
          rw [List.length_drop] at h3
          show Lib.count (s.drop (i + 1)) [47] + 1 ≤ _
          omega
theorem ba_str (x : ByteArray) : Value.string x = Go.Lg.str x.data.toList := by
  unfold Go.Lg.str; rfl
theorem split_rows (s : List UInt8) : (Lib.splitB ⟨[47].toArray⟩ 0 (Lib.countB ⟨s.toArray⟩ ⟨[47].toArray⟩) ⟨s.toArray⟩).map Value.string = (pieces s).map Go.Lg.str ∧ (pieces s).length = Lib.countB ⟨s.toArray⟩ ⟨[47].toArray⟩ + 1 ∧ (Lib.splitB ⟨[47].toArray⟩ 0 (Lib.countB ⟨s.toArray⟩ ⟨[47].toArray⟩) ⟨s.toArray⟩).length = Lib.countB ⟨s.toArray⟩ ⟨[47].toArray⟩ + 1 ∧ Lib.countB ⟨s.toArray⟩ ⟨[47].toArray⟩ ≤ s.length := by
  have e := Lib.splitB_data ⟨[47].toArray⟩ 0 (Lib.countB ⟨s.toArray⟩ ⟨[47].toArray⟩) ⟨s.toArray⟩
  have hp := splitK_pieces s.length s (Nat.le_refl _)
  have e2 : (Lib.splitB ⟨[47].toArray⟩ 0 (Lib.countB ⟨s.toArray⟩ ⟨[47].toArray⟩) ⟨s.toArray⟩).map (·.data.toList) = pieces s := e.trans hp.1
  have hl := Lib.splitB_all ⟨[47].toArray⟩ (Nat.le_refl 1) 0 (Lib.countB ⟨s.toArray⟩ ⟨[47].toArray⟩) ⟨s.toArray⟩ rfl
  refine ⟨?_, ?_, hl, hp.2⟩
  · rw [← e2, List.map_map]
    exact List.map_congr_left (fun x _ => ba_str x)
  · rw [← e2, List.length_map, hl]
theorem pieces_len : ∀ s : List UInt8, ∀ p ∈ pieces s, p.length ≤ s.length
  | [], p, h => by simp [pieces] at h; subst h; simp
  | b :: r, p, h => by
    have ih := pieces_len r
    unfold pieces at h
    split at h
    · rcases List.mem_cons.mp h with rfl | h
      · simp
      · have := ih p h; simp; omega
    · split at h
      · simp at h; subst h; simp
      · rename_i q l hq
        rcases List.mem_cons.mp h with rfl | h
        · have := ih q (by rw [hq]; simp); simp; omega
        · have := ih p (by rw [hq]; simp [h]); simp; omega
/-! ### joined -/
theorem joinS_ne {l : List (List UInt8)} (h : l ≠ []) : joinS l = 47 :: Lib.join l [47] := by
  cases l with
  | nil => exact absurd rfl h
  | cons x r =>
    rw [Lib.join_cons]
    show 47 :: (x ++ joinS r) = 47 :: (x ++ Lib.joinTail [47] r)
    congr 2
    clear h
    induction r with
    | nil => rfl
    | cons y r ih => show 47 :: (y ++ joinS r) = _; rw [ih]; simp [Lib.joinTail]
theorem joinS_len {m : Nat} : ∀ {l : List (List UInt8)}, (∀ p ∈ l, p.length ≤ m) → (joinS l).length ≤ l.length * (m + 1)
  | [], _ => by simp [joinS]
  | x :: l, h => by
    have ih := joinS_len (l := l) (fun p hp => h p (by simp [hp]))
    have hx := h x (by simp)
    show (47 :: (x ++ joinS l)).length ≤ (l.length + 1) * (m + 1)
    rw [Nat.add_mul]
    simp; omega
theorem foldD_cons (out : List (List UInt8)) (p : List UInt8) (l : List (List UInt8)) : foldD out (p :: l) = foldD (stepD (decide (l = [])) out p) l := by
  cases l with
  | nil => rfl
  | cons q l => rfl
theorem stepD_len (t : Bool) (out : List (List UInt8)) (p : List UInt8) : (stepD t out p).length ≤ out.length + 1 := by
  unfold stepD
  split
  · simp
  · rw [List.length_append]
    have : (if pts p 0 = 2 then out.dropLast else out).length ≤ out.length := by split <;> simp
    have : (if t = true then [([] : List UInt8)] else []).length ≤ 1 := by split <;> simp
    omega
theorem stepD_mem {t : Bool} {out : List (List UInt8)} {p : List UInt8} {m : Nat} (h : ∀ q ∈ out, q.length ≤ m) (hp : p.length ≤ m) : ∀ q ∈ stepD t out p, q.length ≤ m := by
  unfold stepD
  intro q hq
  split at hq
  · rcases List.mem_append.mp hq with g | g
    · exact h q g
    · simp at g; subst g; exact hp
  · rcases List.mem_append.mp hq with g | g
    · split at g
      · exact h q (List.dropLast_subset _ g)
      · exact h q g
    · split at g
      · simp at g; subst g; simp
      · simp at g
end Tg.Ur
/-
  Layer 26 (url): what the code's functions come to: a path without points.
-/
set_option linter.unusedSimpArgs false
set_option linter.unusedVariables false
set_option maxRecDepth 100000
namespace Go.Proofs.YthgcgjpbhbikaaaDoor
open Go.Lg Go.Tg
section
variable {H : LH} {b : UInt8} {s p : List UInt8}
theorem RowN.takeL {P : Program} {N : Nat} {t e : TypeId} {v : Value} {n : Nat} {xs : List Value} (h : RowN N H e 1 v n xs) (hu : P.underlying t = some (.slice e)) (hs : sz P e = some 1) (j : Nat) (hj : j ≤ n) : ∃ v', lpart P t v none (some (.int .i64 j)) = some v' ∧ RowN N H e 1 v' j (xs.take j) ∧ ∀ k, offRow v k → offRow v' k := by
  have hl := h.1
  rcases h.2 with ⟨rfl, rfl⟩ | ⟨k, c, rest, rfl, g1, g2, g3, g4, g5⟩
  · have : j = 0 := by omega
    subst this
    exact ⟨.slice none 0 0, by simp [lpart, hu, hs, lbd], ⟨by simp, .inl ⟨rfl, rfl⟩⟩, fun _ h => h⟩
  · refine ⟨_, lpart_row_ns hu hs (by omega) (by omega), ⟨by rw [List.length_take]; omega, .inr ⟨k, c, xs.drop j ++ rest, by rw [Int.toNat_natCast], g1, g2, ?_, by omega, ?_⟩⟩, fun i hi n c' h => ?_⟩
    · rw [← List.append_assoc, List.take_append_drop]; exact g3
    · rw [← List.append_assoc, List.take_append_drop]; exact g5
    · injection h with h
      injection h with h
      injection h with h
      subst h
      exact hi _ _ rfl
theorem prefix1 {c : UInt8} : Lib.hasPrefix s [c] = decide (s[0]? = some c) := by
  cases s with
  | nil => rfl
  | cons b r => simp [Lib.hasPrefix, List.isPrefixOf]; rw [Bool.eq_iff_iff]; simp; exact eq_comm
theorem out_app {v : Value} {acc : List (List UInt8)} {N : Nat} {x : List UInt8} (h : RowN N H 9 1 v acc.length (acc.map str)) (hN : N ≤ H.n) (hl : acc.length ≤ 100000) :
    ∃ v' H2, lapp Tryd.prog 50 v (some (1, [str x])) (H.new ⟨[str x], 9, true⟩) = some (v', H2) ∧ RowN N H2 9 1 v' (acc ++ [x]).length ((acc ++ [x]).map str) ∧ N ≤ H2.n ∧ ∀ k, k < N → H2.get k = H.get k := by
  have h2 : RowN N (H.new ⟨[str x], 9, true⟩) 9 1 v acc.length (acc.map str) := h.keep (Nat.le_succ _) (fun k _ _ hk => get_new_ne (by omega))
  obtain ⟨v', H2, ha, hr, hk, _⟩ := h2.app (t := 50) (new := [x].map str) (m := 1) Tryd.underlying50 (by kernel_rfl) (by simp) (by simp) (by unfold maxElems; omega) (by rw [n_new]; omega) (.inl (Nat.le_refl 1))
  refine ⟨v', H2, ha, by rw [List.length_append, List.map_append]; exact hr, Nat.le_trans (by rw [n_new]; omega) hk.le, fun k hkn => ?_⟩
  rw [hk.get k (by rw [n_new]; omega) (h.off_lt hkn), get_new_ne (by omega)]
theorem foldD_ne : ∀ (l : List (List UInt8)) (out : List (List UInt8)), l ≠ [] → Tg.Ur.foldD out l ≠ []
  | [], _, h => absurd rfl h
  | [p], out, _ => by
    show Tg.Ur.stepD true out p ≠ []
    unfold Tg.Ur.stepD
    split <;> simp
  | p :: q :: l, out, _ => foldD_ne (q :: l) _ (by simp)
theorem dots_cl (hs : s.length ≤ 90000) (hm : MaxL H) : LC Tryd.prog EJ 17 [str s] H = some (str (Tg.Ur.dots s), H) := by
  refine LC_pure rfl Tryd.func17 rfl (Nat.le_of_ble_eq_true rfl) (by decide) (by kernel_rfl) rfl ?_
  have hpre := prefix1 (s := s) (c := 47)
  by_cases h47 : s[0]? = some 47
  · obtain ⟨r, rfl⟩ : ∃ r, s = 47 :: r := by
      cases s with
      | nil => simp at h47
      | cons c r => simp at h47; exact ⟨r, by rw [h47]⟩
    have hp1 : Lib.hasPrefix (47 :: r) [47] = true := by rw [hpre]; exact decide_eq_true h47
    clear hpre h47
    obtain ⟨e1, e2, e3, e4⟩ := Tg.Ur.split_rows r
    have hsp := split_l (H := H) (s := r) (p := [47]) (by simp at hs; omega) (by simp) hm (by unfold maxLen; simp at hs; omega) e3
    rw [e1, ← e2] at hsp
    have hpl := Tg.Ur.pieces_len r
    have hpn := Tg.Ur.pieces_ne r
    have hlen : (Tg.Ur.pieces r).length ≤ 90000 := by simp at hs; omega
    have hrl : r.length ≤ 90000 := by simp at hs; omega
    have hD : Tg.Ur.dots (47 :: r) = 47 :: Lib.join (Tg.Ur.foldD [] (Tg.Ur.pieces r)) [47] := by
      show (if Tg.Ur.joinS (Tg.Ur.foldD [] (Tg.Ur.pieces r)) = [] then [47] else Tg.Ur.joinS (Tg.Ur.foldD [] (Tg.Ur.pieces r))) = _
      by_cases hj : Tg.Ur.foldD [] (Tg.Ur.pieces r) = []
      · rw [hj]; rfl
      · rw [Tg.Ur.joinS_ne hj]; simp
    rw [hD]
    generalize hps : Tg.Ur.pieces r = ps at *
    clear e1 e2 e3 e4 hD
    have q1 := eq_true (show (1 : Int) ≤ (r.length : Int) + 1 by omega)
    simp [hsp, q1, hp1]
    refine loop_ind (fun (i : Nat) fr' H' => ∃ acc v, fr' 3 = v ∧ fr' 4 = sl H.n ps.length ps.length ∧ fr' 14 = sl H.n ps.length ps.length ∧ fr' 15 = .int .i64 ps.length ∧ fr' 16 = .int .i64 i ∧ i ≤ ps.length ∧ RowN (H.n + 1) H' 9 1 v acc.length (acc.map str) ∧ H.n + 1 ≤ H'.n ∧ H'.get H.n = some ⟨ps.map str, 9, true⟩ ∧ (∀ k, k < H.n → H'.get k = H.get k) ∧ Tg.Ur.foldD acc (ps.drop i) = Tg.Ur.foldD [] ps ∧ acc.length ≤ i ∧ ∀ q ∈ acc, q.length ≤ r.length) (fun i => ps.length - i) 0 ⟨[], _, by simp, by simp, by simp, by simp, by simp, Nat.zero_le _, RowN.nil, by simp, by simp, fun k hk => get_new_ne (by omega), rfl, Nat.le_refl _, by simp⟩ ?_
    rintro i fr' H' ⟨acc, v, h3, h4, h14, h15, h16, hi, hrow, hn, hg, hle, hf, ha, hq⟩ ih
    subst h3
    by_cases hlt : i < ps.length
    · have hsz : sz Tryd.prog 9 = some 1 := by kernel_rfl
      have hag : aggB Tryd.prog 9 = some false := by kernel_rfl
      have hprow : Row H.n H' 9 (sl H.n ps.length ps.length) (ps.map str) := .inr ⟨H.n, ps.length, [], by simp, Nat.le_refl _, by simpa using hg, by simp⟩
      obtain ⟨pa, f1, f2⟩ := Row.at (P := Tryd.prog) (H' := H') (kd := .i64) (j := (i : Int)) (d := .nilFunc) hprow Tryd.underlying50 hsz hag (by omega) (by simp; omega)
      have hget : (ps.map str).getD (i : Int).toNat .nilFunc = str ps[i] := by rw [Int.toNat_natCast, List.getD_eq_getElem?_getD, List.getElem?_map, List.getElem?_eq_getElem hlt]; rfl
      rw [hget] at f2
      have hpi := hpl ps[i] (List.getElem_mem hlt)
      rw [List.drop_eq_getElem_cons hlt, Tg.Ur.foldD_cons] at hf
      have hlast : (ps.drop (i + 1) = []) ↔ i + 1 = ps.length := by rw [List.drop_eq_nil_iff]; omega
      rw [show decide (ps.drop (i + 1) = []) = decide (i + 1 = ps.length) by simp only [hlast]] at hf
      generalize ps[i] = p at *
      have hpc := fun H : LH => points_cl (H := H) (s := p) (by omega)
      have q0 := eq_true (show (i : Int) < (ps.length : Int) by omega)
      have hw1 : IntKind.i64.wrap ((i : Int) + 1) = ((i + 1 : Nat) : Int) := by rw [wrapI (by omega) (by omega)]; omega
      have hlen0 := fun H2 : LH => hrow.len (P := Tryd.prog) (H' := H2) (t := 50) Tryd.underlying50
      obtain ⟨v1, t1, t2, t3⟩ := RowN.takeL (P := Tryd.prog) (t := 50) hrow Tryd.underlying50 hsz (acc.length - 1) (by omega)
      have hnext := fun acc2 v2 fr2 H2 (g3 : fr2 3 = v2) (gr : RowN (H.n + 1) H2 9 1 v2 acc2.length (acc2.map str)) (g4 : fr2 4 = sl H.n ps.length ps.length) (g14 : fr2 14 = sl H.n ps.length ps.length) (g15 : fr2 15 = .int .i64 ps.length) (g16 : fr2 16 = .int .i64 ((i + 1 : Nat) : Int)) (gn : H.n + 1 ≤ H2.n) (gk : ∀ k, k < H.n + 1 → H2.get k = H'.get k) (ga : Tg.Ur.stepD (decide (i + 1 = ps.length)) acc p = acc2) =>
        ih (i + 1) fr2 H2 (by omega) ⟨acc2, v2, g3, g4, g14, g15, g16, by omega, gr, gn, by rw [gk _ (by omega)]; exact hg, fun k hk => by rw [gk k (by omega)]; exact hle k hk, by rw [← ga]; exact hf, by rw [← ga]; have := Tg.Ur.stepD_len (decide (i + 1 = ps.length)) acc p; omega, by rw [← ga]; exact Tg.Ur.stepD_mem hq hpi⟩
      have hwi : IntKind.i64.wrap ((ps.length : Int) - 1) = (ps.length : Int) - 1 := wrapI (by omega) (by omega)
      have hwl : IntKind.i64.wrap ((acc.length : Int) - 1) = (acc.length : Int) - 1 := wrapI (by omega) (by omega)
      have hmx : (if (acc.length : Int) - 1 < 0 then 0 else (acc.length : Int) - 1) = ((acc.length - 1 : Nat) : Int) := by split <;> omega
      have hdl : acc.take (acc.length - 1) = acc.dropLast := (List.dropLast_eq_take).symm
      rw [← List.map_take, hdl] at t2
      have hll : acc.length - 1 = acc.dropLast.length := by simp
      rw [hll] at t2 hmx t1
      unfold Tg.Ur.stepD at hnext
      clear ih hf
      generalize Tg.Ur.pts p 0 = n at *
      by_cases hn2 : n = 2
      · subst hn2
        rw [if_neg (by simp), if_pos rfl] at hnext
        have tz : ∃ z : Int, lpart Tryd.prog 50 (fr' 3) none (some (.int .i64 z)) = some v1 ∧ ((((acc.length : Int) - 1 < 0) = True ∧ z = 0) ∨ (((acc.length : Int) - 1 < 0) = False ∧ z = (acc.length : Int) - 1)) := by
          refine ⟨_, t1, ?_⟩
          rw [← hll]
          by_cases hz : (acc.length : Int) - 1 < 0
          · exact .inl ⟨eq_true hz, by omega⟩
          · exact .inr ⟨eq_false hz, by omega⟩
        clear t1
        obtain ⟨z, t1, ⟨qz, rfl⟩ | ⟨qz, rfl⟩⟩ := tz
        all_goals
          by_cases hL : i + 1 = ps.length
          · have qL := eq_true (show (i : Int) = (ps.length : Int) - 1 by omega)
            rw [decide_eq_true hL, if_pos rfl] at hnext
            obtain ⟨v2, H2, a1, a2, a3, a4⟩ := out_app (x := []) t2 hn (by rw [← hll]; omega)
            simp [h4, h14, h15, h16, q0, f1, f2, hpc, hlen0, hwl, qz, t1, hwi, qL, a1]
            exact hnext _ v2 _ _ (by simp) a2 (by simp [h4]) (by simp [h14]) (by simp [h15]) (by simp [hw1]) a3 a4 rfl
          · have qL := eq_false (show ¬ (i : Int) = (ps.length : Int) - 1 by omega)
            rw [decide_eq_false hL, if_neg (by simp), List.append_nil] at hnext
            simp [h4, h14, h15, h16, q0, f1, f2, hpc, hlen0, hwl, qz, t1, hwi, qL]
            exact hnext _ v1 _ _ (by simp) t2 (by simp [h4]) (by simp [h14]) (by simp [h15]) (by simp [hw1]) hn (fun _ _ => rfl) rfl
      by_cases hn1 : n = 1
      · subst hn1
        rw [if_neg (by simp), if_neg (by simp)] at hnext
        by_cases hL : i + 1 = ps.length
        · have qL := eq_true (show (i : Int) = (ps.length : Int) - 1 by omega)
          rw [decide_eq_true hL, if_pos rfl] at hnext
          obtain ⟨v2, H2, a1, a2, a3, a4⟩ := out_app (x := []) hrow hn (by omega)
          simp [h4, h14, h15, h16, q0, f1, f2, hpc, hwi, qL, a1]
          exact hnext _ v2 _ _ (by simp) a2 (by simp [h4]) (by simp [h14]) (by simp [h15]) (by simp [hw1]) a3 a4 rfl
        · have qL := eq_false (show ¬ (i : Int) = (ps.length : Int) - 1 by omega)
          rw [decide_eq_false hL, if_neg (by simp), List.append_nil] at hnext
          simp [h4, h14, h15, h16, q0, f1, f2, hpc, hwi, qL]
          exact hnext _ (fr' 3) _ _ (by simp) hrow (by simp [h4]) (by simp [h14]) (by simp [h15]) (by simp [hw1]) hn (fun _ _ => rfl) rfl
      · rw [if_pos ⟨hn1, hn2⟩] at hnext
        have qa := eq_false (show ¬ (n : Int) = 2 by omega)
        have qb := eq_false (show ¬ (n : Int) = 1 by omega)
        obtain ⟨v2, H2, a1, a2, a3, a4⟩ := out_app (x := p) hrow hn (by omega)
        simp [h4, h14, h15, h16, q0, f1, f2, hpc, qa, qb, hn1, hn2, a1]
        exact hnext _ v2 _ _ (by simp) a2 (by simp [h4]) (by simp [h14]) (by simp [h15]) (by simp [hw1]) a3 a4 rfl
    · have q0 := eq_false (show ¬ (i : Int) < (ps.length : Int) by omega)
      rw [List.drop_of_length_le (by omega)] at hf
      have hf : acc = Tg.Ur.foldD [] ps := hf
      have hne : acc ≠ [] := by rw [hf]; exact foldD_ne _ _ hpn
      rw [← hf]
      have hpos := List.length_pos_iff.mpr hne
      have hjl := Tg.Ur.joinS_len hq
      rw [Tg.Ur.joinS_ne hne] at hjl
      have hmul : acc.length * (r.length + 1) ≤ 90000 * 90001 := Nat.mul_le_mul (by omega) (by omega)
      simp only [List.length_cons] at hjl
      clear ih
      rcases hrow.2 with ⟨_, h0⟩ | ⟨k, c, rest, hv, g1, g2, g3, g4, g5⟩
      · omega
      · have hj := join_l (H := H') (p := [47]) (l := k) (o := 0) (n := acc.length) (c := c) (xs := acc) g3 (by omega) g4 (by omega) rfl (by simp) (by omega)
        have hjb : (Lib.join acc [47]).length + 1 ≤ 4294967296000 := by omega
        generalize Lib.join acc [47] = jn at *
        have hjc : jn.length + 1 ≤ 9223372036854775807 := by omega
        simp [h15, h16, q0, hv, hj, lbin_cat (P := Tryd.prog) (x := [47]) (y := jn) (by simp; omega)]
        exact ⟨by omega, fun k hk => hle k hk⟩
  · have hp0 : Lib.hasPrefix s [47] = false := by rw [hpre]; exact decide_eq_false h47
    have hd : Tg.Ur.dots s = [] := by
      unfold Tg.Ur.dots
      split
      · simp at h47
      · rfl
    simp [hp0, hd]
end
end Go.Proofs.YthgcgjpbhbikaaaDoor
/-
  Plain laws of numbers' texts: the machine of states and the grammar agree.
-/
set_option linter.unusedSimpArgs false
set_option linter.unusedVariables false
namespace Tg.Nu
def isD (b : UInt8) : Bool := decide (48 ≤ (b.toNat : Int)) && decide ((b.toNat : Int) ≤ 57)
def isE (b : UInt8) : Bool := decide (b = 101) || decide (b = 69)
def wh (st : Nat) : Bool := st == 2 || st == 3 || st == 5 || st == 8
def nx (st : Nat) (b : UInt8) : Nat :=
  if st = 0 ∨ st = 1 then
    if b = 45 ∧ st = 0 then 1 else if b = 48 then 2 else if isD b then 3 else 9
  else if (st = 4 ∨ st = 5) ∧ isD b then 5
  else if st = 6 ∨ st = 7 ∨ st = 8 then
    if isD b then 8 else if st = 6 ∧ (b = 43 ∨ b = 45) then 7 else 9
  else if st = 3 ∧ isD b then 3
  else if b = 46 ∧ (st = 2 ∨ st = 3) then 4
  else if isE b ∧ wh st then 6 else 9
def en (st : Nat) (s : List UInt8) : Nat := s.foldl nx st
def acc (st : Nat) (s : List UInt8) : Bool := wh (en st s)
theorem nx9 (b : UInt8) : nx 9 b = 9 := by simp [nx, wh]
theorem en9 : ∀ s, en 9 s = 9
  | [] => rfl
  | b :: s => by show en (nx 9 b) s = 9; rw [nx9]; exact en9 s
theorem acc9 (s : List UInt8) : acc 9 s = false := by unfold acc; rw [en9]; rfl
theorem acc_cons (st : Nat) (b : UInt8) (s : List UInt8) : acc st (b :: s) = acc (nx st b) s := rfl
theorem D_not (b : UInt8) (h : isD b = true) : b ≠ 45 ∧ b ≠ 43 ∧ b ≠ 46 ∧ isE b = false := by
  simp only [isD, Bool.and_eq_true, decide_eq_true_eq] at h
  refine ⟨?_, ?_, ?_, ?_⟩
  · rintro rfl; simp at h
  · rintro rfl; simp at h
  · rintro rfl; simp at h
  · simp only [isE, Bool.or_eq_false_iff, decide_eq_false_iff_not]
    constructor <;> (rintro rfl; simp at h)
theorem E_not (b : UInt8) (h : isE b = true) : b ≠ 46 ∧ isD b = false := by
  simp only [isE, Bool.or_eq_true, decide_eq_true_eq] at h
  rcases h with rfl | rfl <;> decide
def hd : List UInt8 → Bool
  | [] => false
  | c :: _ => isD c
theorem hd_cons (c : UInt8) (r : List UInt8) : hd (c :: r) = isD c := rfl
def all8 (v : List UInt8) : Bool := hd v && (v.dropWhile isD).isEmpty
def B6 (r : List UInt8) : Bool :=
  match r with
  | [] => false
  | c :: q => if c = 43 ∨ c = 45 then all8 q else all8 r
def B2 (u : List UInt8) : Bool :=
  match u with
  | [] => true
  | c :: r => isE c && B6 r
def B1 (v : List UInt8) : Bool :=
  match v with
  | [] => true
  | c :: r => if c = 46 then hd r && B2 (r.dropWhile isD) else B2 v
theorem acc8 : ∀ s, acc 8 s = (s.dropWhile isD).isEmpty
  | [] => rfl
  | b :: s => by
    rw [acc_cons, List.dropWhile_cons]
    by_cases h : isD b = true
    · rw [if_pos h, show nx 8 b = 8 by simp [nx, h]]; exact acc8 s
    · rw [if_neg h, show nx 8 b = 9 by simp [nx, h], acc9]; rfl
theorem acc7 (s : List UInt8) : acc 7 s = all8 s := by
  cases s with
  | nil => rfl
  | cons b s =>
    rw [acc_cons]
    unfold all8
    rw [List.dropWhile_cons, hd_cons]
    by_cases h : isD b = true
    · rw [if_pos h, show nx 7 b = 8 by simp [nx, h], acc8, h]; rfl
    · rw [if_neg h, show nx 7 b = 9 by simp [nx, h], acc9]; simp [h]
theorem acc6 (s : List UInt8) : acc 6 s = B6 s := by
  cases s with
  | nil => rfl
  | cons b s =>
    rw [acc_cons]
    unfold B6
    by_cases h : isD b = true
    · obtain ⟨h1, h2, _⟩ := D_not b h
      rw [show nx 6 b = 8 by simp [nx, h], acc8]
      simp [h1, h2, all8, hd, h, List.dropWhile_cons]
    · by_cases h2 : b = 43 ∨ b = 45
      · rw [show nx 6 b = 7 by simp [nx, h, h2], acc7]; simp [h2]
      · rw [show nx 6 b = 9 by simp [nx, h, h2], acc9]; simp [h2, all8, hd, h]
theorem acc5 : ∀ s, acc 5 s = B2 (s.dropWhile isD)
  | [] => rfl
  | b :: s => by
    rw [acc_cons, List.dropWhile_cons]
    by_cases h : isD b = true
    · rw [if_pos h, show nx 5 b = 5 by simp [nx, h]]; exact acc5 s
    · rw [if_neg h]
      unfold B2
      by_cases h2 : isE b = true
      · rw [show nx 5 b = 6 by simp [nx, h, h2, wh], acc6]; simp [h2]
      · rw [show nx 5 b = 9 by simp [nx, h, h2], acc9]; simp [h2]
theorem acc4 (s : List UInt8) : acc 4 s = (hd s && B2 (s.dropWhile isD)) := by
  cases s with
  | nil => rfl
  | cons b s =>
    rw [acc_cons, List.dropWhile_cons]
    unfold hd
    by_cases h : isD b = true
    · rw [if_pos h, show nx 4 b = 5 by simp [nx, h], acc5]; simp [h]
    · rw [if_neg h, show nx 4 b = 9 by simp [nx, h, wh], acc9]; simp [h]
theorem acc3 : ∀ s, acc 3 s = B1 (s.dropWhile isD)
  | [] => rfl
  | b :: s => by
    rw [acc_cons, List.dropWhile_cons]
    by_cases h : isD b = true
    · rw [if_pos h, show nx 3 b = 3 by simp [nx, h]]; exact acc3 s
    · rw [if_neg h]
      unfold B1
      by_cases h1 : b = 46
      · rw [show nx 3 b = 4 by subst h1; rfl, acc4]; simp [h1]
      · by_cases h2 : isE b = true
        · rw [show nx 3 b = 6 by simp [nx, h, h1, h2, wh], acc6]; simp [h1, B2, h2]
        · rw [show nx 3 b = 9 by simp [nx, h, h1, h2], acc9]; simp [h1, B2, h2]
theorem acc2 (s : List UInt8) : acc 2 s = B1 s := by
  cases s with
  | nil => rfl
  | cons b s =>
    rw [acc_cons]
    unfold B1
    by_cases h1 : b = 46
    · rw [show nx 2 b = 4 by subst h1; rfl, acc4]; simp [h1]
    · by_cases h2 : isE b = true
      · rw [show nx 2 b = 6 by simp [nx, h1, h2, wh], acc6]; simp [h1, B2, h2]
      · rw [show nx 2 b = 9 by simp [nx, h1, h2], acc9]; simp [h1, B2, h2]
/-- the reference's grammar, by places -/
def rn (s : List UInt8) (i : Nat) : Nat := ((s.drop i).takeWhile isD).length
def Is2 (s : List UInt8) (i : Nat) : Bool :=
  match s[i]? with
  | some c =>
    if isE c then
      let j := if s[i + 1]? = some 43 ∨ s[i + 1]? = some 45 then i + 2 else i + 1
      if rn s j = 0 then false else j + rn s j == s.length
    else i == s.length
  | none => i == s.length
def Is1 (s : List UInt8) (i : Nat) : Bool := if s[i]? = some 46 then (if rn s (i + 1) = 0 then false else Is2 s (i + 1 + rn s (i + 1))) else Is2 s i
def Is (s : List UInt8) : Bool :=
  let i := if s[0]? = some 45 then 1 else 0
  if rn s i = 0 ∨ (1 < rn s i ∧ s[i]? = some 48) then false else Is1 s (i + rn s i)
theorem drop_take (u : List UInt8) : u.drop (u.takeWhile isD).length = u.dropWhile isD := by
  induction u with
  | nil => rfl
  | cons b u ih =>
    rw [List.takeWhile_cons, List.dropWhile_cons]
    split
    · simpa using ih
    · rfl
theorem drop_rn (s : List UInt8) (i : Nat) : s.drop (i + rn s i) = (s.drop i).dropWhile isD := by
  rw [← List.drop_drop]; exact drop_take _
theorem rn_zero (s : List UInt8) (i : Nat) : (rn s i = 0) = (hd (s.drop i) = false) := by
  unfold rn
  cases s.drop i with
  | nil => simp [hd]
  | cons b u =>
    rw [List.takeWhile_cons]
    unfold hd
    split
    · rename_i h; simp [h]
    · rename_i h; simp [h]
theorem rn_le (s : List UInt8) (i : Nat) (h : i ≤ s.length) : i + rn s i ≤ s.length := by
  have : rn s i ≤ (s.drop i).length := (List.takeWhile_prefix isD).length_le
  rw [List.length_drop] at this; omega
theorem get_drop (s : List UInt8) (i : Nat) : s[i]? = (s.drop i)[0]? := by simp
theorem end_drop (s : List UInt8) (i : Nat) (h : i ≤ s.length) : (i == s.length) = (s.drop i).isEmpty := by
  rw [Bool.eq_iff_iff, beq_iff_eq, List.isEmpty_iff, List.drop_eq_nil_iff]; omega
theorem Is2_eq (s : List UInt8) (i : Nat) (h : i ≤ s.length) : Is2 s i = B2 (s.drop i) := by
  unfold Is2
  rw [get_drop s i, end_drop s i h]
  cases hu : s.drop i with
  | nil => rfl
  | cons c r =>
    have hl : i < s.length := by
      rcases Nat.lt_or_ge i s.length with h | h
      · exact h
      · rw [List.drop_eq_nil_of_le h] at hu; cases hu
    have hr : s.drop (i + 1) = r := by rw [← List.drop_drop, hu]; rfl
    simp only [List.getElem?_cons_zero]
    show _ = (isE c && B6 r)
    by_cases hE : isE c = true
    · rw [if_pos hE, hE, Bool.true_and, get_drop s (i + 1), hr]
      have key : ∀ j, j ≤ s.length → (if rn s j = 0 then false else j + rn s j == s.length) = all8 (s.drop j) := by
        intro j hj
        unfold all8
        rw [← drop_rn, ← end_drop _ _ (rn_le s j hj)]
        by_cases h0 : rn s j = 0
        · rw [if_pos h0]; rw [rn_zero] at h0; simp [h0]
        · rw [if_neg h0]; rw [rn_zero] at h0; simp [h0]
      cases r with
      | nil =>
        simp only [List.getElem?_nil, reduceCtorEq, or_self, if_false]
        rw [key _ hl, hr]; rfl
      | cons d q =>
        have hq : s.drop (i + 2) = q := by rw [show i + 2 = i + 1 + 1 from rfl, ← List.drop_drop, hr]; rfl
        have hl2 : i + 2 ≤ s.length := by
          have := congrArg List.length hr
          simp at this; omega
        simp only [List.getElem?_cons_zero, Option.some.injEq]
        unfold B6
        by_cases hs : d = 43 ∨ d = 45
        · simp only [if_pos hs]; rw [key _ hl2, hq]
        · simp only [if_neg hs]; rw [key _ hl, hr]
    · rw [if_neg hE]; simp [hE]
theorem Is1_eq (s : List UInt8) (i : Nat) (h : i ≤ s.length) : Is1 s i = B1 (s.drop i) := by
  unfold Is1
  rw [get_drop s i]
  cases hu : s.drop i with
  | nil =>
    simp only [List.getElem?_nil, reduceCtorEq, if_false]
    rw [Is2_eq s i h, hu]; rfl
  | cons c r =>
    have hl : i < s.length := by
      rcases Nat.lt_or_ge i s.length with h | h
      · exact h
      · rw [List.drop_eq_nil_of_le h] at hu; cases hu
    have hr : s.drop (i + 1) = r := by rw [← List.drop_drop, hu]; rfl
    simp only [List.getElem?_cons_zero, Option.some.injEq]
    unfold B1
    by_cases h46 : c = 46
    · simp only [if_pos h46]
      by_cases h0 : rn s (i + 1) = 0
      · rw [if_pos h0]; rw [rn_zero, hr] at h0; simp [h0]
      · rw [if_neg h0, Is2_eq _ _ (rn_le _ _ hl), drop_rn, hr]; rw [rn_zero, hr] at h0; simp [h0]
    · simp only [if_neg h46]
      rw [Is2_eq s i h, hu]
theorem rn_cons (s r : List UInt8) (c : UInt8) (i : Nat) (h : s.drop i = c :: r) (hc : isD c = true) : rn s i = (r.takeWhile isD).length + 1 := by
  unfold rn; rw [h, List.takeWhile_cons, if_pos hc]; rfl
theorem hd_len (r : List UInt8) : (0 < (r.takeWhile isD).length) ↔ hd r = true := by
  cases r with
  | nil => simp [hd]
  | cons c q => rw [List.takeWhile_cons]; unfold hd; split <;> simp_all
theorem acc1_eq (s : List UInt8) (i : Nat) (h : i ≤ s.length) : acc 1 (s.drop i) = (if rn s i = 0 ∨ (1 < rn s i ∧ s[i]? = some 48) then false else Is1 s (i + rn s i)) := by
  rw [get_drop s i]
  by_cases h0 : rn s i = 0
  · rw [if_pos (.inl h0)]
    rw [rn_zero] at h0
    cases hu : s.drop i with
    | nil => rfl
    | cons c r =>
      rw [hu] at h0
      have hc : isD c = false := h0
      have h48 : c ≠ 48 := by rintro rfl; cases hc
      rw [acc_cons, show nx 1 c = 9 by simp [nx, hc, h48], acc9]
  · cases hu : s.drop i with
    | nil => rw [rn_zero, hu] at h0; exact absurd rfl h0
    | cons c r =>
      have hc : isD c = true := by rw [rn_zero, hu] at h0; simpa [hd] using h0
      have hn := rn_cons s r c i hu hc
      have hdw : (s.drop i).dropWhile isD = r.dropWhile isD := by rw [hu, List.dropWhile_cons, if_pos hc]
      have hI : Is1 s (i + rn s i) = B1 (r.dropWhile isD) := by rw [Is1_eq _ _ (rn_le _ _ h), drop_rn, hdw]
      simp only [List.getElem?_cons_zero, Option.some.injEq]
      rw [acc_cons]
      by_cases h48 : c = 48
      · subst h48
        rw [show nx 1 48 = 2 from rfl, acc2, hI]
        by_cases hr : hd r = true
        · rw [if_pos (.inr ⟨by have := (hd_len r).2 hr; omega, rfl⟩)]
          cases r with
          | nil => cases hr
          | cons d q =>
            have hD : isD d = true := hr
            obtain ⟨_, _, h46, hE⟩ := D_not d hD
            simp [B1, h46, B2, hE]
        · have hl : ¬ 1 < rn s i := (by
            have : ¬ 0 < (r.takeWhile isD).length := fun h => hr ((hd_len r).1 h)
            omega)
          rw [if_neg (fun h => h.elim h0 (fun h => hl h.1))]
          congr 1
          cases r with
          | nil => rfl
          | cons d q => rw [List.dropWhile_cons, if_neg]; exact hr
      · rw [if_neg (fun h => h.elim h0 (fun h => h48 h.2)), hI, show nx 1 c = 3 by simp [nx, hc, h48], acc3]
/-- the machine and the grammar -/
theorem is_eq (s : List UInt8) : Is s = acc 0 s := by
  unfold Is
  cases s with
  | nil => rfl
  | cons b r =>
    simp only [List.getElem?_cons_zero, Option.some.injEq]
    by_cases h : b = 45
    · subst h
      simp only [if_true]
      exact (acc1_eq (45 :: r) 1 (by simp)).symm
    · simp only [if_neg h]
      have := acc1_eq (b :: r) 0 (by simp)
      rw [← this, List.drop_zero, acc_cons, acc_cons]
      congr 1
      simp [nx, h]
theorem en_lt : ∀ (s : List UInt8) (st : Nat), st ≤ 9 → en st s ≤ 9
  | [], st, h => h
  | b :: s, st, h => en_lt s (nx st b) (by unfold nx; repeat (first | omega | split))
theorem en_append (st : Nat) (s t : List UInt8) : en st (s ++ t) = en (en st s) t := by unfold en; rw [List.foldl_append]
/-- the state of a text -/
def stP (s : List UInt8) : Nat := if Is s then 2 else if Is (s ++ [49]) then 1 else 0
def stC (s : List UInt8) : Nat := if en 0 s = 9 then 0 else if wh (en 0 s) then 2 else 1
theorem st_eq (s : List UInt8) : stC s = stP s := by
  unfold stC stP
  rw [is_eq, is_eq]
  unfold acc
  rw [en_append]
  have h := en_lt s 0 (by omega)
  generalize en 0 s = k at *
  have : k = 0 ∨ k = 1 ∨ k = 2 ∨ k = 3 ∨ k = 4 ∨ k = 5 ∨ k = 6 ∨ k = 7 ∨ k = 8 ∨ k = 9 := by omega
  rcases this with rfl | rfl | rfl | rfl | rfl | rfl | rfl | rfl | rfl | rfl <;> rfl
/-- the longest number's text: from above, and from below -/
def longP (s : List UInt8) : Nat → Nat
  | 0 => 0
  | n + 1 => if Is (s.take (n + 1)) then n + 1 else longP s n
theorem longP_is (s : List UInt8) : ∀ n, longP s n ≤ n ∧ (longP s n ≠ 0 → Is (s.take (longP s n)) = true)
  | 0 => ⟨Nat.le_refl _, fun h => absurd rfl h⟩
  | n + 1 => by
    unfold longP
    split
    · exact ⟨Nat.le_refl _, fun _ => by assumption⟩
    · have := longP_is s n; exact ⟨by omega, this.2⟩
theorem longP_lost (s : List UInt8) (i : Nat) (h : en 0 (s.take i) = 9) : ∀ n, i ≤ n → longP s n = longP s i
  | 0, h0 => by rw [show i = 0 by omega]
  | n + 1, h0 => by
    rcases Nat.lt_or_ge n i with h1 | h1
    · rw [show i = n + 1 by omega]
    · have e : Is (s.take (n + 1)) = false := by
        rw [is_eq]; unfold acc
        have : s.take (n + 1) = s.take i ++ (s.take (n + 1)).drop i := by
          rw [show s.take i = (s.take (n + 1)).take i by rw [List.take_take, Nat.min_eq_left h0], List.take_append_drop]
        rw [this, en_append, h, en9]; rfl
      show (if Is (s.take (n + 1)) = true then n + 1 else longP s n) = _
      rw [e, if_neg (by simp)]
      exact longP_lost s i h n h1
end Tg.Nu
namespace Tg.Nu
theorem en_take (k : Nat) (s : List UInt8) {i : Nat} (h : i < s.length) : en k (s.take (i + 1)) = nx (en k (s.take i)) s[i] := by
  rw [List.take_succ_eq_append_getElem h, en_append]; rfl
theorem en_lost (k : Nat) (s : List UInt8) (i : Nat) (h : en k (s.take i) = 9) : en k s = 9 := by
  have := en_append k (s.take i) (s.drop i)
  rw [List.take_append_drop, h, en9] at this
  exact this
theorem longP_step (s : List UInt8) (i : Nat) (h : i < s.length) : longP s (i + 1) = if wh (nx (en 0 (s.take i)) s[i]) then i + 1 else longP s i := by
  show (if Is (s.take (i + 1)) = true then i + 1 else longP s i) = _
  rw [is_eq]; unfold acc; rw [en_take 0 s h]
end Tg.Nu
/-
  Layer 9 (jnum): what a number's text says: the code's way and the reference's way.
-/
set_option linter.unusedSimpArgs false
set_option linter.unusedVariables false
namespace Tg.Nu
open Go
theorem mem_tw {p : UInt8 → Bool} : ∀ {l : List UInt8} {b : UInt8}, b ∈ l.takeWhile p → p b = true
  | [], b, h => by cases h
  | x :: l, b, h => by
    rw [List.takeWhile_cons] at h
    split at h
    · rename_i hx
      rcases List.mem_cons.1 h with rfl | h
      · exact hx
      · exact mem_tw h
    · cases h
theorem any_cons (b : UInt8) (l c : List UInt8) : Lib.indexAny (b :: l) c = if c.contains b then 0 else if Lib.indexAny l c == -1 then -1 else Lib.indexAny l c + 1 := rfl
theorem byte_cons (b : UInt8) (l : List UInt8) (c : UInt8) : Lib.indexByte (b :: l) c = if b == c then 0 else if Lib.indexByte l c == -1 then -1 else Lib.indexByte l c + 1 := rfl
def digs (l : List UInt8) : Prop := ∀ b ∈ l, isD b = true
def eoT : Option (UInt8 × List UInt8 × List UInt8) → List UInt8
  | none => []
  | some (e, sg, ep) => e :: (sg ++ ep)
def foT : Option (List UInt8) → List UInt8
  | none => []
  | some f => 46 :: f
structure Num where
  neg : Bool
  ip : List UInt8
  f : Option (List UInt8)
  e : Option (UInt8 × List UInt8 × List UInt8)
def OkE : Option (UInt8 × List UInt8 × List UInt8) → Prop
  | none => True
  | some (c, sg, ep) => isE c = true ∧ (sg = [] ∨ sg = [43] ∨ sg = [45]) ∧ digs ep ∧ ep ≠ []
def OkF : Option (List UInt8) → Prop
  | none => True
  | some f => digs f
structure Num.Ok (n : Num) : Prop where
  ip : digs n.ip
  ip0 : n.ip ≠ []
  f : OkF n.f
  e : OkE n.e
def Num.head (n : Num) : List UInt8 := n.ip ++ foT n.f
def Num.body (n : Num) : List UInt8 := n.head ++ eoT n.e
def Num.text (n : Num) : List UInt8 := (if n.neg then [45] else []) ++ n.body
theorem digs_take (l : List UInt8) : digs (l.takeWhile isD) := fun b hb => mem_tw hb
theorem digs_all {l : List UInt8} (h : (l.dropWhile isD).isEmpty = true) : digs l := by
  intro b hb
  rw [List.isEmpty_iff] at h
  have := List.takeWhile_append_dropWhile (p := isD) (l := l)
  rw [h, List.append_nil] at this
  rw [← this] at hb
  exact mem_tw hb
theorem all8_of {l : List UInt8} (h : all8 l = true) : digs l ∧ l ≠ [] := by
  unfold all8 at h
  rw [Bool.and_eq_true] at h
  exact ⟨digs_all h.2, fun e => by rw [e] at h; exact absurd h.1 (by decide)⟩
theorem B6_of {r : List UInt8} (h : B6 r = true) : ∃ sg ep, r = sg ++ ep ∧ (sg = [] ∨ sg = [43] ∨ sg = [45]) ∧ digs ep ∧ ep ≠ [] := by
  unfold B6 at h
  split at h
  · cases h
  · rename_i c q
    split at h
    · rename_i hc
      obtain ⟨h1, h2⟩ := all8_of h
      rcases hc with rfl | rfl
      · exact ⟨[43], q, rfl, .inr (.inl rfl), h1, h2⟩
      · exact ⟨[45], q, rfl, .inr (.inr rfl), h1, h2⟩
    · obtain ⟨h1, h2⟩ := all8_of h
      exact ⟨[], c :: q, rfl, .inl rfl, h1, h2⟩
theorem B2_of {u : List UInt8} (h : B2 u = true) : ∃ e, u = eoT e ∧ OkE e := by
  unfold B2 at h
  split at h
  · exact ⟨none, rfl, trivial⟩
  · rename_i c r
    rw [Bool.and_eq_true] at h
    obtain ⟨sg, ep, rfl, h2, h3, h4⟩ := B6_of h.2
    exact ⟨some (c, sg, ep), rfl, h.1, h2, h3, h4⟩
theorem B1_of {v : List UInt8} (h : B1 v = true) : ∃ f e, v = foT f ++ eoT e ∧ OkF f ∧ OkE e := by
  unfold B1 at h
  split at h
  · exact ⟨none, none, rfl, trivial, trivial⟩
  · rename_i c r
    split at h
    · rename_i hc
      subst hc
      rw [Bool.and_eq_true] at h
      obtain ⟨e, he, hok⟩ := B2_of h.2
      refine ⟨some (r.takeWhile isD), e, ?_, digs_take r, hok⟩
      show 46 :: r = 46 :: (r.takeWhile isD) ++ eoT e
      rw [← he, List.cons_append, List.takeWhile_append_dropWhile]
    · obtain ⟨e, he, hok⟩ := B2_of h
      exact ⟨none, e, he, trivial, hok⟩
theorem acc1_of {u : List UInt8} (h : acc 1 u = true) : ∃ ip v, u = ip ++ v ∧ digs ip ∧ ip ≠ [] ∧ B1 v = true := by
  cases u with
  | nil => cases h
  | cons c r =>
    rw [acc_cons] at h
    by_cases h48 : c = 48
    · subst h48
      rw [show nx 1 48 = 2 from rfl, acc2] at h
      exact ⟨[48], r, rfl, fun b hb => by rw [List.mem_singleton.1 hb]; rfl, by simp, h⟩
    · cases hc : isD c with
      | true =>
        rw [show nx 1 c = 3 by simp [nx, hc, h48], acc3] at h
        refine ⟨c :: r.takeWhile isD, r.dropWhile isD, ?_, ?_, by simp, h⟩
        · rw [List.cons_append, List.takeWhile_append_dropWhile]
        · intro b hb
          rcases List.mem_cons.1 hb with rfl | hb
          · exact hc
          · exact mem_tw hb
      | false => rw [show nx 1 c = 9 by simp [nx, hc, h48], acc9] at h; cases h
theorem text_of {s : List UInt8} (h : acc 0 s = true) : ∃ n : Num, s = n.text ∧ n.Ok := by
  cases s with
  | nil => cases h
  | cons c r =>
    by_cases h45 : c = 45
    · subst h45
      rw [acc_cons, show nx 0 45 = 1 from rfl] at h
      obtain ⟨ip, v, rfl, h1, h2, h3⟩ := acc1_of h
      obtain ⟨f, e, rfl, h4, h5⟩ := B1_of h3
      exact ⟨⟨true, ip, f, e⟩, by simp [Num.text, Num.body, Num.head], ⟨h1, h2, h4, h5⟩⟩
    · have h' : acc 1 (c :: r) = true := by
        rw [acc_cons] at h ⊢
        rw [show nx 1 c = nx 0 c by simp [nx, h45]]; exact h
      obtain ⟨ip, v, e0, h1, h2, h3⟩ := acc1_of h'
      obtain ⟨f, e, rfl, h4, h5⟩ := B1_of h3
      exact ⟨⟨false, ip, f, e⟩, by simp [Num.text, Num.body, Num.head, e0], ⟨h1, h2, h4, h5⟩⟩
/-! ### the answer -/
def dv (n : Nat) (l : List UInt8) : Nat := l.foldl (fun n b => 10 * n + (b.toNat - 48)) n
def nz (b : UInt8) : Bool := b == 48
def lead (l : List UInt8) : List UInt8 := l.dropWhile nz
def trail (l : List UInt8) : List UInt8 := (l.reverse.dropWhile nz).reverse
def cap40 (n : Nat) : Nat := if 1099511627776 < n then 1099511627776 else n
def Num.fp (n : Num) : List UInt8 := match n.f with | none => [] | some f => f
def Num.pw (n : Num) : Int := match n.e with
  | none => 0
  | some (_, sg, ep) => if sg = [45] then -(cap40 (dv 0 ep) : Int) else cap40 (dv 0 ep)
def Num.all (n : Num) : List UInt8 := lead (n.ip ++ n.fp)
def Num.short (n : Num) : List UInt8 := trail n.all
def clamp (n lo hi : Int) : Int := if n < lo then lo else if hi < n then hi else n
def Num.exp (n : Num) : Int := if n.short = [] then 0 else clamp (n.pw - n.fp.length + (n.all.length - n.short.length)) (-9999) 9999
/-! ### the code's way -/
theorem D_ne {b : UInt8} (h : isD b = true) : b ≠ 45 ∧ b ≠ 43 ∧ b ≠ 46 ∧ b ≠ 101 ∧ b ≠ 69 := by
  obtain ⟨h1, h2, h3, h4⟩ := D_not b h
  refine ⟨h1, h2, h3, ?_, ?_⟩
  · rintro rfl; revert h4; decide
  · rintro rfl; revert h4; decide
theorem Num.Ok.cons {n : Num} (h : n.Ok) : ∃ c r, n.ip = c :: r ∧ isD c = true := by
  cases hip : n.ip with
  | nil => exact absurd hip h.ip0
  | cons c r => exact ⟨c, r, rfl, h.ip c (by rw [hip]; simp)⟩
theorem text_true {n : Num} (h : n.neg = true) : n.text = 45 :: n.body := by unfold Num.text; rw [h]; rfl
theorem text_false {n : Num} (h : n.neg = false) : n.text = n.body := by unfold Num.text; rw [h]; rfl
theorem body_cons {n : Num} (h : n.Ok) : ∃ c r, n.body = c :: r ∧ isD c = true := by
  obtain ⟨c, r, e, hc⟩ := h.cons
  exact ⟨c, r ++ foT n.f ++ eoT n.e, by unfold Num.body Num.head; rw [e]; simp, hc⟩
theorem trim_text {n : Num} (h : n.Ok) : Lib.trimPrefix n.text [45] = n.body := by
  unfold Lib.trimPrefix Lib.hasPrefix
  cases hn : n.neg with
  | true => rw [text_true hn]; simp
  | false =>
    rw [text_false hn]
    obtain ⟨c, r, e, hc⟩ := body_cons h
    have := (D_ne hc).1
    rw [e, if_neg]
    simp; exact fun h => this h.symm
theorem len_text {n : Num} : n.text.length = n.body.length + (if n.neg = true then 1 else 0) := by
  cases hn : n.neg with
  | true => rw [text_true hn]; rfl
  | false => rw [text_false hn]; rfl
theorem any_skip (l r : List UInt8) (h : ∀ b ∈ l, b ≠ 101 ∧ b ≠ 69) : Lib.indexAny (l ++ r) [101, 69] = if Lib.indexAny r [101, 69] = -1 then -1 else Lib.indexAny r [101, 69] + l.length := by
  induction l with
  | nil => simp
  | cons b l ih =>
    obtain ⟨h1, h2⟩ := h b (by simp)
    rw [List.cons_append, any_cons, ih (fun b hb => h b (by simp [hb]))]
    have hc : ([101, 69] : List UInt8).contains b = false := by simp [h1, h2]
    rw [hc]
    have hge := Lib.indexAny_ge [101, 69] r
    by_cases hr : Lib.indexAny r [101, 69] = -1
    · simp [hr]
    · have h3 : Lib.indexAny r [101, 69] + (l.length : Int) ≠ -1 := by omega
      simp [hr, h3]; omega
theorem head_ne {n : Num} (h : n.Ok) : ∀ b ∈ n.head, b ≠ 101 ∧ b ≠ 69 := by
  intro b hb
  unfold Num.head at hb
  rcases List.mem_append.1 hb with hb | hb
  · obtain ⟨_, _, _, h4, h5⟩ := D_ne (h.ip b hb); exact ⟨h4, h5⟩
  · cases hf : n.f with
    | none => rw [hf] at hb; cases hb
    | some f =>
      rw [hf] at hb
      rcases List.mem_cons.1 hb with rfl | hb
      · decide
      · have := h.f; rw [hf] at this
        obtain ⟨_, _, _, h4, h5⟩ := D_ne (this b hb); exact ⟨h4, h5⟩
theorem any_body {n : Num} (h : n.Ok) : Lib.indexAny n.body [101, 69] = match n.e with | none => -1 | some _ => (n.head.length : Int) := by
  unfold Num.body
  rw [any_skip _ _ (head_ne h)]
  cases he : n.e with
  | none => rfl
  | some x =>
    obtain ⟨c, sg, ep⟩ := x
    have hok := h.e
    rw [he] at hok
    have hc : c = 101 ∨ c = 69 := by have := hok.1; simpa [isE] using this
    have h0 : Lib.indexAny (eoT (some (c, sg, ep))) [101, 69] = 0 := by
      show Lib.indexAny (c :: (sg ++ ep)) [101, 69] = 0
      unfold Lib.indexAny
      rw [if_pos]
      rcases hc with rfl | rfl <;> rfl
    rw [h0]; simp
theorem digs_head {l : List UInt8} (h : digs l) (h0 : l ≠ []) : ∃ c r, l = c :: r ∧ isD c = true := by
  cases l with
  | nil => exact absurd rfl h0
  | cons c r => exact ⟨c, r, rfl, h c (by simp)⟩
theorem trim_sign {c : UInt8} {sg ep : List UInt8} (h : OkE (some (c, sg, ep))) : Lib.trimLeftS (sg ++ ep) [43, 45] = ep := by
  obtain ⟨_, hs, hd, h0⟩ := h
  obtain ⟨d, r, rfl, hc⟩ := digs_head hd h0
  obtain ⟨h1, h2, _⟩ := D_ne hc
  have hx : ([43, 45] : List UInt8).contains d = false := by simp [h1, h2]
  unfold Lib.trimLeftS
  rcases hs with rfl | rfl | rfl
  · rw [List.nil_append, List.dropWhile_cons, if_neg (by rw [hx]; simp)]
  · rw [List.singleton_append, List.dropWhile_cons, if_pos (by decide), List.dropWhile_cons, if_neg (by rw [hx]; simp)]
  · rw [List.singleton_append, List.dropWhile_cons, if_pos (by decide), List.dropWhile_cons, if_neg (by rw [hx]; simp)]
theorem body_take {n : Num} : n.body.take n.head.length = n.head := by unfold Num.body; simp
theorem body_drop {n : Num} {c : UInt8} {sg ep : List UInt8} (he : n.e = some (c, sg, ep)) : n.body.drop (n.head.length + 1) = sg ++ ep := by
  unfold Num.body
  rw [he, ← List.drop_drop]
  simp [eoT]
theorem body_sign {n : Num} {c : UInt8} {sg ep : List UInt8} (h : n.Ok) (he : n.e = some (c, sg, ep)) : (n.body[n.head.length + 1]? = some 45) ↔ sg = [45] := by
  have e1 : n.body[n.head.length + 1]? = (sg ++ ep)[0]? := by rw [← body_drop he]; simp
  have hok := h.e
  rw [he] at hok
  obtain ⟨_, hs, hd, h0⟩ := hok
  obtain ⟨d, r, rfl, hc⟩ := digs_head hd h0
  rw [e1]
  rcases hs with rfl | rfl | rfl
  · simp; exact (D_ne hc).1
  · simp
  · simp
theorem byte_skip (l r : List UInt8) (h : ∀ b ∈ l, b ≠ 46) : Lib.indexByte (l ++ r) 46 = if Lib.indexByte r 46 = -1 then -1 else Lib.indexByte r 46 + l.length := by
  induction l with
  | nil => simp
  | cons b l ih =>
    have h1 := h b (by simp)
    rw [List.cons_append, byte_cons, ih (fun b hb => h b (by simp [hb]))]
    have hc : (b == 46) = false := by simp [h1]
    rw [hc]
    have hge := Lib.indexByte_ge r 46
    by_cases hr : Lib.indexByte r 46 = -1
    · simp [hr]
    · have h3 : Lib.indexByte r 46 + (l.length : Int) ≠ -1 := by omega
      simp [hr, h3]; omega
theorem byte_head {n : Num} (h : n.Ok) : Lib.indexByte n.head 46 = match n.f with | none => -1 | some _ => (n.ip.length : Int) := by
  unfold Num.head
  rw [byte_skip _ _ (fun b hb => (D_ne (h.ip b hb)).2.2.1)]
  cases hf : n.f with
  | none => rfl
  | some f => simp [foT, Lib.indexByte]
theorem contains_nz (b : UInt8) : ([48] : List UInt8).contains b = nz b := by simp [nz]; rw [Bool.eq_iff_iff]; simp
theorem trimL_all (l : List UInt8) : Lib.trimLeftS l [48] = lead l := by
  unfold Lib.trimLeftS lead
  congr 1; funext b; exact contains_nz b
theorem trimR_short (l : List UInt8) : Lib.trimRightS l [48] = trail l := by
  unfold Lib.trimRightS trail
  congr 2; funext b; exact contains_nz b
theorem ascii_text {n : Num} (h : n.Ok) : ∀ b ∈ n.body, b.toNat < 128 := by
  have hd : ∀ b, isD b = true → b.toNat < 128 := by
    intro b hb
    simp only [isD, Bool.and_eq_true, decide_eq_true_eq] at hb
    omega
  intro b hb
  unfold Num.body Num.head at hb
  rcases List.mem_append.1 hb with hb | hb
  · rcases List.mem_append.1 hb with hb | hb
    · exact hd b (h.ip b hb)
    · cases hf : n.f with
      | none => rw [hf] at hb; cases hb
      | some f =>
        rw [hf] at hb
        rcases List.mem_cons.1 hb with rfl | hb
        · decide
        · have := h.f; rw [hf] at this; exact hd b (this b hb)
  · cases he : n.e with
    | none => rw [he] at hb; cases hb
    | some x =>
      obtain ⟨c, sg, ep⟩ := x
      have hok := h.e
      rw [he] at hb hok
      obtain ⟨h1, h2, h3, h4⟩ := hok
      rcases List.mem_cons.1 hb with rfl | hb
      · have hc : b = 101 ∨ b = 69 := by simpa [isE] using h1
        rcases hc with rfl | rfl <;> decide
      · rcases List.mem_append.1 hb with hb | hb
        · rcases h2 with rfl | rfl | rfl
          · cases hb
          · rw [List.mem_singleton.1 hb]; decide
          · rw [List.mem_singleton.1 hb]; decide
        · exact hd b (h3 b hb)
/-! ### digits -/
theorem dv_append (n : Nat) (l r : List UInt8) : dv n (l ++ r) = dv (dv n l) r := by unfold dv; rw [List.foldl_append]
theorem dv_take (l : List UInt8) {i : Nat} (h : i < l.length) : dv 0 (l.take (i + 1)) = 10 * dv 0 (l.take i) + (l[i].toNat - 48) := by
  rw [List.take_succ_eq_append_getElem h, dv_append]; rfl
theorem dv_ge (l : List UInt8) : ∀ n, n ≤ dv n l := by
  induction l with
  | nil => intro n; exact Nat.le_refl n
  | cons b l ih => intro n; exact Nat.le_trans (by omega) (ih (10 * n + (b.toNat - 48)))
theorem dv_mono (l : List UInt8) (i : Nat) : dv 0 (l.take i) ≤ dv 0 l := by
  have := dv_append 0 (l.take i) (l.drop i)
  rw [List.take_append_drop] at this
  rw [this]; exact dv_ge _ _
def dC (l : List UInt8) : Nat := if dv 0 l ≤ 9007199254740991 then dv 0 l else 9007199254740991
theorem dC_cap (l : List UInt8) : min (dC l) 1099511627776 = cap40 (dv 0 l) := by unfold dC cap40; split <;> split <;> omega
end Tg.Nu
/-! ### the reference's way -/
namespace Tg.Nu
def rstep (x : Bool × List UInt8 × Int) (b : UInt8) : Bool × List UInt8 × Int :=
  if b = 46 then (true, x.2.1, x.2.2) else (x.1, if x.2.1 ≠ [] ∨ b ≠ 48 then x.2.1 ++ [b] else x.2.1, if x.1 then x.2.2 - 1 else x.2.2)
def rfold (l : List UInt8) : Bool × List UInt8 × Int := l.foldl rstep (false, [], 0)
def cat (d l : List UInt8) : List UInt8 := if d ≠ [] then d ++ l else lead l
theorem cat_cons (d l : List UInt8) (b : UInt8) : cat (if d ≠ [] ∨ b ≠ 48 then d ++ [b] else d) l = cat d (b :: l) := by
  unfold cat
  by_cases hd : d = []
  · subst hd
    by_cases hb : b = 48
    · subst hb; simp [lead, nz]
    · simp [hb, lead, nz]
  · simp [hd]
theorem rfold_run (l : List UInt8) (h : ∀ b ∈ l, b ≠ 46) : ∀ (pt : Bool) (d : List UInt8) (e : Int), l.foldl rstep (pt, d, e) = (pt, if l = [] then d else cat d l, if pt then e - l.length else e) := by
  induction l with
  | nil => intro pt d e; cases pt <;> simp
  | cons b l ih =>
    intro pt d e
    have hb := h b (by simp)
    have e1 : rstep (pt, d, e) b = (pt, if d ≠ [] ∨ b ≠ 48 then d ++ [b] else d, if pt then e - 1 else e) := by unfold rstep; rw [if_neg hb]
    rw [List.foldl_cons, e1, ih (fun b hb => h b (by simp [hb]))]
    by_cases hl : l = []
    · subst hl
      have := cat_cons d [] b
      unfold cat at this
      cases pt <;> by_cases hd : d = [] <;> by_cases hb48 : b = 48 <;> simp_all [cat, lead, nz]
    · rw [if_neg hl, cat_cons d l b, if_neg (show ¬ (b :: l = []) by simp)]
      cases pt <;> simp; omega
theorem lead_app (a b : List UInt8) : lead (a ++ b) = if lead a ≠ [] then lead a ++ b else lead b := by
  unfold lead
  induction a with
  | nil => simp
  | cons x a ih =>
    rw [List.cons_append, List.dropWhile_cons, List.dropWhile_cons]
    by_cases hx : nz x = true
    · rw [if_pos hx, if_pos hx]; exact ih
    · rw [if_neg hx, if_neg hx]; simp
theorem rfold_head {n : Num} (h : n.Ok) : (rfold n.head).2 = (n.all, -(n.fp.length : Int)) := by
  have h46 : ∀ b ∈ n.ip, b ≠ 46 := fun b hb => (D_ne (h.ip b hb)).2.2.1
  unfold rfold Num.head
  rw [List.foldl_append, rfold_run _ h46, if_neg h.ip0]
  have hc : cat [] n.ip = lead n.ip := by simp [cat]
  rw [hc]
  unfold Num.all Num.fp
  cases hf : n.f with
  | none => simp [foT]
  | some f =>
    have hF := h.f
    rw [hf] at hF
    have hf46 : ∀ b ∈ f, b ≠ 46 := fun b hb => (D_ne (hF b hb)).2.2.1
    show (f.foldl rstep (rstep (false, lead n.ip, 0) 46)).2 = _
    have e1 : rstep (false, lead n.ip, 0) 46 = (true, lead n.ip, 0) := rfl
    rw [e1, rfold_run _ hf46]
    dsimp only
    by_cases hf0 : f = []
    · subst hf0; simp
    · rw [if_neg hf0, lead_app]
      unfold cat
      simp
theorem rfold_take (l : List UInt8) {i : Nat} (h : i < l.length) : rfold (l.take (i + 1)) = rstep (rfold (l.take i)) l[i] := by
  unfold rfold
  rw [List.take_succ_eq_append_getElem h, List.foldl_append]; rfl
theorem rfold_bound (l : List UInt8) : (rfold l).2.1.length ≤ l.length ∧ -(l.length : Int) ≤ (rfold l).2.2 ∧ (rfold l).2.2 ≤ 0 := by
  have : ∀ (l : List UInt8) (x : Bool × List UInt8 × Int), (l.foldl rstep x).2.1.length ≤ x.2.1.length + l.length ∧ x.2.2 - l.length ≤ (l.foldl rstep x).2.2 ∧ (l.foldl rstep x).2.2 ≤ x.2.2 := by
    intro l
    induction l with
    | nil => intro x; simp
    | cons b l ih =>
      intro x
      have hi := ih (rstep x b)
      have h1 : (rstep x b).2.1.length ≤ x.2.1.length + 1 ∧ x.2.2 - 1 ≤ (rstep x b).2.2 ∧ (rstep x b).2.2 ≤ x.2.2 := by
        unfold rstep
        split
        · simp; omega
        · refine ⟨?_, ?_, ?_⟩
          · dsimp only; split <;> simp
          · dsimp only; split <;> omega
          · dsimp only; split <;> omega
      rw [List.foldl_cons, List.length_cons]
      omega
  have := this l (false, [], 0)
  simp at this
  exact ⟨this.1, by unfold rfold; omega, this.2.2⟩
/-- a digit less at the end -/
theorem trail_last (l : List UInt8) (h : l ≠ []) (hz : l.getLast h = 48) : trail l = trail l.dropLast := by
  unfold trail
  congr 1
  have e : l.reverse = 48 :: l.dropLast.reverse := by
    conv => lhs; rw [← List.dropLast_concat_getLast h, hz]
    simp
  rw [e, List.dropWhile_cons, if_pos (by rfl)]
theorem trail_stay (l : List UInt8) (h : l = [] ∨ ∃ h : l ≠ [], l.getLast h ≠ 48) : trail l = l := by
  unfold trail
  rcases h with rfl | ⟨h, hz⟩
  · rfl
  · have e : l.reverse = l.getLast h :: l.dropLast.reverse := by
      conv => lhs; rw [← List.dropLast_concat_getLast h]
      simp
    rw [e, List.dropWhile_cons, if_neg (by simpa [nz] using hz), ← e, List.reverse_reverse]
end Tg.Nu
/-
  Layer 26 (url): what the code's functions come to: ports, and what stands ahead of a byte.
-/
set_option linter.unusedSimpArgs false
set_option linter.unusedVariables false
set_option maxRecDepth 100000
namespace Go.Proofs.YthgcgjpbhbikaaaDoor
open Go.Lg Go.Tg
section
open Tg.Nu
variable {H : LH} {b : UInt8} {s t : List UInt8}
theorem digit_l : LC Tryd.prog EJ 39 [.int .u8 b.toNat] H = some (.bool (isD b), H) := Digit_cl
theorem digits_l (hs : s.length ≤ 1048576) : LC Tryd.prog EJ 57 [str s] H = some (.int .i64 ((s.takeWhile isD).length : Nat), H) := by
  refine LC_pure rfl Tryd.func57 rfl (Nat.le_of_ble_eq_true rfl) (by decide) (by kernel_rfl) rfl ?_
  simp
  refine loop_ind (fun (i : Nat) fr' H' => fr' 0 = str s ∧ fr' 3 = .int .i64 i ∧ i ≤ s.length ∧ (s.takeWhile isD).length = i + ((s.drop i).takeWhile isD).length ∧ H' = H) (fun i => s.length - i) 0 (by simp) ?_
  rintro i fr' H' ⟨h0, h3, hi, hr, rfl⟩ ih
  by_cases hlt : i < s.length
  · have hd := List.drop_eq_getElem_cons hlt
    rw [hd, List.takeWhile_cons] at hr
    cases hc : isD s[i] with
    | true =>
      rw [hc, if_pos rfl, List.length_cons] at hr
      have hw : IntKind.i64.wrap ((i : Int) + 1) = ((i + 1 : Nat) : Int) := by rw [wrap64_in (by omega) (by omega)]; omega
      simp [h0, h3, hlt, digit_l, at_in hlt, hc, hw]
      exact ih (i + 1) _ _ (by omega) ⟨by simp [h0], by simp, hlt, by omega, rfl⟩
    | false =>
      rw [hc, if_neg (by simp)] at hr
      simp [h0, h3, hlt, digit_l, at_in hlt, hc]
      simp at hr; omega
  · rw [List.drop_eq_nil_of_le (by omega)] at hr
    simp [h0, h3, hlt]
    simp at hr; omega
theorem value_l (hd : digs s) (hs : s.length ≤ 1048576) : LC Tryd.prog EJ 58 [str s] H = some (.tuple #[.int .i64 (dC s : Nat), .bool (decide (dv 0 s ≤ 9007199254740991))], H) := by
  refine LC_pure rfl Tryd.func58 rfl (Nat.le_of_ble_eq_true rfl) (by decide) (by kernel_rfl) rfl ?_
  simp
  refine loop_ind (fun (i : Nat) fr' H' => fr' 0 = str s ∧ fr' 4 = .int .i64 (dv 0 (s.take i) : Nat) ∧ fr' 7 = .int .i64 s.length ∧ fr' 8 = .int .i64 i ∧ i ≤ s.length ∧ dv 0 (s.take i) ≤ 9007199254740991 ∧ H' = H) (fun i => s.length - i) 0 (by simp [dv]) ?_
  rintro i fr' H' ⟨h0, h4, h7, h8, hi, hm, rfl⟩ ih
  by_cases hlt : i < s.length
  · have hD := hd s[i] (List.getElem_mem hlt)
    simp only [isD, Bool.and_eq_true, decide_eq_true_eq] at hD
    have ht := dv_take s hlt
    have hmono := dv_mono s (i + 1)
    have hw1 : IntKind.i64.wrap ((dv 0 (s.take i) : Int) * 10) = (dv 0 (s.take i) : Int) * 10 := by rw [wrap64_in (by omega) (by omega)]
    have hw2 : IntKind.u8.wrap ((s[i].toNat : Int) - 48) = ((s[i].toNat - 48 : Nat) : Int) := by
      have := s[i].toNat_lt
      rw [show IntKind.u8.wrap ((s[i].toNat : Int) - 48) = ((s[i].toNat : Int) - 48) % 256 from IntKind.wrap_u8 _]; omega
    have hw3 : IntKind.i64.wrap ((s[i].toNat - 48 : Nat) : Int) = ((s[i].toNat - 48 : Nat) : Int) := by rw [wrap64_in (by omega) (by omega)]
    have hw4 : IntKind.i64.wrap ((dv 0 (s.take i) : Int) * 10 + ((s[i].toNat - 48 : Nat) : Int)) = ((dv 0 (s.take (i + 1)) : Nat) : Int) := by rw [wrap64_in (by omega) (by omega)]; omega
    have hw : IntKind.i64.wrap ((i : Int) + 1) = ((i + 1 : Nat) : Int) := by rw [wrap64_in (by omega) (by omega)]; omega
    by_cases hbig : dv 0 (s.take (i + 1)) ≤ 9007199254740991
    · have f := eq_false (show ¬ 9007199254740991 < ((dv 0 (s.take (i + 1)) : Nat) : Int) by omega)
      simp [h0, h4, h7, h8, hlt, at_in hlt, hw1, hw2, hw3, hw4, hw, f]
      exact ih (i + 1) _ _ (by omega) ⟨by simp [h0], by simp, by simp [h7], by simp, hlt, hbig, rfl⟩
    · have f := eq_true (show 9007199254740991 < ((dv 0 (s.take (i + 1)) : Nat) : Int) by omega)
      have e1 : ¬ dv 0 s ≤ 9007199254740991 := by omega
      have e2 : dC s = 9007199254740991 := by unfold dC; rw [if_neg e1]
      simp [h0, h4, h7, h8, hlt, at_in hlt, hw1, hw2, hw3, hw4, hw, f, e1, e2]
  · have e : s.take i = s := List.take_of_length_le (by omega)
    rw [e] at hm h4
    have e2 : dC s = dv 0 s := by unfold dC; rw [if_pos hm]
    simp [h0, h4, h7, h8, hlt, hm, e2]
/-- strings.Cut at one byte -/
theorem cutlite_some {c : UInt8} {o : Nat} (h : Lib.indexByte s c = o) (hs : s.length ≤ 9223372036854775806) : LC Tryd.prog EJ 26 [str s, str [c]] H = some (.tuple #[str (s.take o), str (s.drop (o + 1)), .bool true], H) := by
  refine LC_pure rfl Tryd.func26 rfl (Nat.le_of_ble_eq_true rfl) (by decide) (by kernel_rfl) rfl ?_
  have hlt : o < s.length := (List.getElem?_eq_some_iff.1 (Lib.indexByte_some h).1).1
  have hw : IntKind.i64.wrap ((o : Int) + 1) = (o : Int) + 1 := by rw [wrap64_in (by omega) (by omega)]
  have e1 : ((o : Int) + 1).toNat = o + 1 := by omega
  have f1 := eq_true (show (o : Int) ≤ s.length by omega)
  have f2 := eq_true (show (o : Int) + 1 ≤ s.length by omega)
  have f3 := eq_true (show (0 : Int) ≤ (o : Int) + 1 by omega)
  simp [h, hw, e1, f1, f2, f3]
theorem cutlite_none {c : UInt8} (h : Lib.indexByte s c = -1) : LC Tryd.prog EJ 26 [str s, str [c]] H = some (.tuple #[str s, str [], .bool false], H) := by
  refine LC_pure rfl Tryd.func26 rfl (Nat.le_of_ble_eq_true rfl) (by decide) (by kernel_rfl) rfl ?_
  simp [h]
theorem scut_some {c : UInt8} {o : Nat} (h : Lib.indexByte s c = o) (hs : s.length ≤ 9223372036854775806) : LC Tryd.prog EJ 14 [str s, str [c]] H = some (.tuple #[str (s.take o), str (s.drop (o + 1)), .bool true], H) := by
  refine LC_pure rfl Tryd.func14 rfl (Nat.le_of_ble_eq_true rfl) (by decide) (by kernel_rfl) rfl ?_
  simp [cutlite_some h hs]
theorem scut_none {c : UInt8} (h : Lib.indexByte s c = -1) : LC Tryd.prog EJ 14 [str s, str [c]] H = some (.tuple #[str s, str [], .bool false], H) := by
  refine LC_pure rfl Tryd.func14 rfl (Nat.le_of_ble_eq_true rfl) (by decide) (by kernel_rfl) rfl ?_
  simp [cutlite_none h]

theorem tw_all : ∀ {s : List UInt8}, s.all isD = true → s.takeWhile isD = s
  | [], _ => rfl
  | b :: r, h => by
    simp only [List.all_cons, Bool.and_eq_true] at h
    rw [List.takeWhile_cons, if_pos h.1, tw_all h.2]
theorem tw_lt : ∀ {s : List UInt8}, s.all isD = false → (s.takeWhile isD).length < s.length
  | [], h => by simp at h
  | b :: r, h => by
    rw [List.takeWhile_cons]
    by_cases hb : isD b = true
    · rw [if_pos hb]
      simp only [List.all_cons, hb, Bool.true_and] at h
      have := tw_lt h
      simp; omega
    · rw [if_neg hb]; simp
theorem dparse_cl (hs : s.length ≤ 1048576) : LC Tryd.prog EJ 23 [str s] H = some (.tuple #[.int .i64 (if s = [] ∨ s.all isD = false then 0 else if 9007199254740991 < dv 0 s then 0 else (dv 0 s : Nat)), .int .i64 (if s = [] ∨ s.all isD = false then 2 else if 9007199254740991 < dv 0 s then 9 else 0)], H) := by
  have key : LC Tryd.prog EJ 41 [str s] H = some (.tuple #[.int .i64 (if s = [] ∨ s.all isD = false then 0 else if 9007199254740991 < dv 0 s then 0 else (dv 0 s : Nat)), .int .i64 (if s = [] ∨ s.all isD = false then 2 else if 9007199254740991 < dv 0 s then 9 else 0)], H) := by
    refine LC_pure rfl Tryd.func41 rfl (Nat.le_of_ble_eq_true rfl) (by decide) (by kernel_rfl) rfl ?_
    have h1 := fun H : LH => digits_l (H := H) hs
    by_cases h0 : s = []
    · subst h0; simp
    cases ha : s.all isD with
    | false =>
      have hlt := tw_lt ha
      have q := eq_true (show ((s.takeWhile isD).length : Int) < (s.length : Int) by omega)
      rw [if_pos (.inr rfl), if_pos (.inr rfl)]
      generalize (s.takeWhile isD).length = n at *
      simp [h0, h1, q]
    | true =>
      have e := tw_all ha
      have hd : digs s := fun b hb => List.all_eq_true.mp ha b hb
      have h2 := fun H : LH => value_l (H := H) hd hs
      rw [e] at h1
      by_cases hbig : 9007199254740991 < dv 0 s
      · have hn : ¬ dv 0 s ≤ 9007199254740991 := by omega
        rw [decide_eq_false hn] at h2
        simp [h0, h1, h2, hbig]
      · have hn : dv 0 s ≤ 9007199254740991 := by omega
        have hC : dC s = dv 0 s := by unfold dC; rw [if_pos hn]
        rw [decide_eq_true hn, hC] at h2
        simp [h0, h1, h2, hbig]
  refine LC_pure rfl Tryd.func23 rfl (Nat.le_of_ble_eq_true rfl) (by decide) (by kernel_rfl) rfl ?_
  simp [key]
theorem number_cl (hs : s.length ≤ 1048576) : LC Tryd.prog EJ 11 [str s, str t] H = some (.tuple #[.int .i64 (Tg.Ur.number s t).1, .int .i64 (Tg.Ur.number s t).2], H) := by
  refine LC_pure rfl Tryd.func11 rfl (Nat.le_of_ble_eq_true rfl) (by decide) (by kernel_rfl) rfl ?_
  have h1 := fun H : LH => dparse_cl (H := H) hs
  have ho := fun H : LH => own_l (H := H) (s := t)
  unfold Tg.Ur.number
  by_cases h0 : s = []
  · subst h0; simp
  rw [if_neg h0]
  have hisd : Tg.Ur.isD = isD := rfl
  have hdv : Tg.Ur.dval s = dv 0 s := rfl
  rw [hisd, hdv]
  cases ha : s.all isD with
  | false => simp [ha] at h1; simp [h0, h1]
  | true =>
    simp only [ha, h0, or_false, Bool.true_eq_false, if_false] at h1
    rw [if_neg (by simp)]
    by_cases hbig : 9007199254740991 < dv 0 s
    · simp only [if_pos hbig] at h1 ⊢
      simp [h0, h1]
    · simp only [if_neg hbig] at h1 ⊢
      generalize dv 0 s = n at *
      by_cases hz : n = 0
      · subst hz
        simp [h0, h1]
      · have qz := eq_false (show ¬ (n : Int) = 0 by omega)
        by_cases hp : 65535 < n
        · have qp := eq_true (show (65535 : Int) < (n : Int) by omega)
          rw [if_pos (.inr hp)]
          simp [h0, h1, hz, qp]
        · have qp := eq_false (show ¬ (65535 : Int) < (n : Int) by omega)
          rw [if_neg (by omega)]
          by_cases hO : (n : Int) = Tg.Ur.own t
          · have qO := eq_true hO
            rw [if_pos hO]
            simp [h0, h1, hz, qp, ho, qO]
          · have qO := eq_false hO
            rw [if_neg hO]
            simp [h0, h1, hz, qp, ho, qO]
theorem any_upto (s p : List UInt8) : (Lib.indexAny s p = -1 ∧ Tg.Ur.upto p s = s.length) ∨ (Lib.indexAny s p = (Tg.Ur.upto p s : Nat) ∧ Tg.Ur.upto p s < s.length) := by
  induction s with
  | nil => left; simp [Lib.indexAny, Tg.Ur.upto]
  | cons b r ih =>
    unfold Lib.indexAny
    unfold Tg.Ur.upto at ih ⊢
    rw [List.takeWhile_cons]
    cases hc : p.contains b with
    | true => right; simp
    | false =>
      simp only [Bool.not_false, if_true, Bool.false_eq_true, if_false, List.length_cons]
      rcases ih with ⟨h1, h2⟩ | ⟨h1, h2⟩
      · left; rw [h1, h2]; simp
      · right
        rw [h1, if_neg (by simp)]
        exact ⟨by omega, by omega⟩
theorem until_cl {p : List UInt8} (hs : s.length ≤ 1048576) (hp : p.length < 4294967281) (ha : ascL p) : LC Tryd.prog EJ 13 [str s, str p] H = some (.tuple #[str (s.take (Tg.Ur.upto p s)), str (s.drop (Tg.Ur.upto p s))], H) := by
  rcases any_upto s p with ⟨h1, h2⟩ | ⟨h1, h2⟩
  · rw [until_none hs hp ha h1, h2, List.take_length, List.drop_length]
  · exact until_some hs hp ha h1
end
end Go.Proofs.YthgcgjpbhbikaaaDoor
/-
  Layer 26 (url): what the code's functions come to: names of hosts, good places.
-/
set_option linter.unusedSimpArgs false
set_option linter.unusedVariables false
set_option maxRecDepth 100000
namespace Go.Proofs.YthgcgjpbhbikaaaDoor
open Go.Lg Go.Tg
section
variable {H : LH} {b : UInt8} {s t : List UInt8}
theorem plain_cl : LC Tryd.prog EJ 38 [.int .u8 b.toNat] H = some (.bool (Tg.Ur.isName b), H) := by
  refine LC_pure rfl Tryd.func38 rfl (Nat.le_of_ble_eq_true rfl) (by decide) (by kernel_rfl) rfl ?_
  unfold Tg.Ur.isName
  have hd := fun H : LH => Digit_cl (H := H) (b := b)
  have e : Tg.Ur.isD b = (decide ((48 : Int) ≤ b.toNat) && decide ((b.toNat : Int) ≤ 57)) := rfl
  rw [← e]
  by_cases h3 : b = 46
  · subst h3
    have hd : ∀ H : LH, LC Tryd.prog EJ 39 [.int .u8 46] H = some (.bool false, H) := hd
    simp [hd]
  by_cases h4 : b = 45
  · subst h4
    have hd : ∀ H : LH, LC Tryd.prog EJ 39 [.int .u8 45] H = some (.bool false, H) := hd
    simp [hd]
  by_cases h1 : (97 : Int) ≤ b.toNat <;> by_cases h2 : (b.toNat : Int) ≤ 122 <;> cases h5 : Tg.Ur.isD b <;> rw [h5] at hd <;> simp [h1, h2, h3, h4, hd]
theorem two_dots : ∀ s : List UInt8, Lib.contains s [46, 46] = Tg.Ur.twoDots s
  | [] => rfl
  | [b] => by
    unfold Tg.Ur.twoDots Lib.contains Lib.index
    by_cases hb : b = 46 <;> simp [hb, Lib.index, Tg.Ur.twoDots, List.isPrefixOf]
  | b :: c :: r => by
    have ih := two_dots (c :: r)
    have hge := Lib.index_ge (c :: r) [46, 46]
    unfold Lib.contains at ih ⊢
    unfold Lib.index
    by_cases h : b = 46 ∧ c = 46
    · obtain ⟨rfl, rfl⟩ := h
      simp [Tg.Ur.twoDots, List.isPrefixOf]
    · have hp : List.isPrefixOf [46, 46] (b :: c :: r) = false := by
        simp only [List.isPrefixOf, Bool.and_true]
        rw [Bool.eq_false_iff]
        intro e
        simp at e
        exact h ⟨e.1.symm, e.2.symm⟩
      have ht : Tg.Ur.twoDots (b :: c :: r) = Tg.Ur.twoDots (c :: r) := by
        conv => lhs; unfold Tg.Ur.twoDots
        split
        · rename_i e; simp at e; exact absurd ⟨e.1, e.2.1⟩ h
        · rename_i e; simp at e; rw [← e.2]
        · rename_i e; simp at e
      rw [hp, ht, ← ih]
      simp only [Bool.false_eq_true, if_false]
      by_cases hm : Lib.index (c :: r) [46, 46] = -1
      · simp [hm]
      · have : (Lib.index (c :: r) [46, 46] == -1) = false := by simp [hm]
        rw [this]
        simp only [Bool.false_eq_true, if_false, decide_eq_decide]
        omega
theorem named_cl (hs : s.length ≤ 1048576) (hm : MaxL H) : LC Tryd.prog EJ 22 [str s] H = some (.bool (Tg.Ur.named s), H) := by
  refine LC_pure rfl Tryd.func22 rfl (Nat.le_of_ble_eq_true rfl) (by decide) (by kernel_rfl) rfl ?_
  have hall := fun H : LH => all_cl (H := H) (g := 38) (q := Tg.Ur.isName) (fun b H => plain_cl) (s := s) (by omega)
  have hcon := contains_l (H := H) (s := s) (p := [46, 46]) (by omega) (.inr hm)
  rw [two_dots] at hcon
  unfold Tg.Ur.named
  cases s with
  | nil => simp
  | cons c r =>
    have a0 : at_ (c :: r) 0 = c := rfl
    by_cases h2 : (r.length : Int) + 1 ≤ 253
    · have q2 : r.length + 1 ≤ 253 := by omega
      cases h3 : (c :: r).all Tg.Ur.isName with
      | false =>
        rw [h3] at hall
        simp only [List.all_cons] at h3
        simp [h2, hall, h3]
      | true =>
        rw [h3] at hall
        simp only [List.all_cons] at h3
        have q4 := eq_true (show (0 : Int) < (r.length : Int) + 1 by omega)
        by_cases h4 : c = 46
        · subst h4; simp [h2, q2, q4, hall, h3, a0]
        · simp [h2, q2, q4, hall, h3, h4, a0, hcon]
    · have q2 : ¬ r.length + 1 ≤ 253 := by omega
      simp [h2, q2]
theorem any_free (p s : List UInt8) : decide (0 ≤ Lib.indexAny s p) = !Tg.Ur.free p s := by
  unfold Tg.Ur.free
  induction s with
  | nil => simp [Lib.indexAny]
  | cons b r ih =>
    have hge := Lib.indexAny_ge p r
    unfold Lib.indexAny
    cases hc : p.contains b with
    | true => simp only [List.all_cons, hc]; simp
    | false =>
      simp only [List.all_cons, hc, Bool.not_false, Bool.true_and, Bool.false_eq_true, if_false]
      rw [← ih]
      by_cases hm : Lib.indexAny r p = -1
      · simp [hm]
      · have : (Lib.indexAny r p == -1) = false := by simp [hm]
        rw [this]
        simp only [Bool.false_eq_true, if_false, decide_eq_decide]
        omega
theorem anyOf_cl {p : List UInt8} (h1 : s.length < 4294967281) (h2 : p.length < 4294967281) (h4 : ascL p) : LC Tryd.prog EJ 20 [str s, str p] H = some (.bool (!Tg.Ur.free p s), H) := by
  refine LC_pure rfl Tryd.func20 rfl (Nat.le_of_ble_eq_true rfl) (by decide) (by kernel_rfl) rfl ?_
  have hi := fun H : LH => indexAny_l (H := H) (s := s) h1 h2 h4
  have hf := any_free p s
  by_cases h0 : 0 ≤ Lib.indexAny s p
  · rw [decide_eq_true h0] at hf
    simp [hi, h0, ← hf]
  · rw [decide_eq_false h0] at hf
    simp [hi, h0, ← hf]
theorem hash_cl (h1 : s.length < 4294967281) : LC Tryd.prog EJ 21 [str s, str [35]] H = some (.bool (!Tg.Ur.free [35] s), H) := by
  rw [contains_l h1 (.inl rfl)]
  have : Lib.contains s [35] = !Tg.Ur.free [35] s := by
    unfold Lib.contains
    rw [Lib.index_one, ← Lib.indexAny_one, any_free]
  rw [this]
abbrev uv (u : Tg.Ur.Url) : Value := .agg #[str u.scheme, str u.host, .int .i64 u.port, str u.path, str u.query]
abbrev ub (u : Tg.Ur.Url) : LB := ⟨[str u.scheme, str u.host, .int .i64 u.port, str u.path, str u.query], 25, true⟩
def placeB (u : Tg.Ur.Url) : Bool := decide (u.port = 0) || (decide (1 ≤ u.port) && decide (u.port ≤ 65535) && decide (u.port ≠ Tg.Ur.own u.scheme))
def pathB (u : Tg.Ur.Url) : Bool := decide (u.path[0]? = some 47) && decide (Tg.Ur.dots u.path = u.path) && decide (Tg.Ur.qt u.path = u.path) && Tg.Ur.free [63, 35] u.path
def queryB (u : Tg.Ur.Url) : Bool := decide (u.query = []) || (decide (u.query[0]? = some 63) && decide (Tg.Ur.qt u.query = u.query) && Tg.Ur.free [35] u.query)
theorem good_eq (u : Tg.Ur.Url) : Tg.Ur.good u = (decide (Tg.Ur.own u.scheme ≠ 0) && placeB u && pathB u && queryB u && Tg.Ur.named u.host) := rfl
theorem good_cl {u : Tg.Ur.Url} (h1 : u.host.length ≤ 1048576) (h2 : u.path.length ≤ 90000) (h3 : u.query.length ≤ 90000) (hm : MaxL H) : LC Tryd.prog EJ 10 [uv u] H = some (.bool (Tg.Ur.good u), H) := by
  refine LC_pure rfl Tryd.func10 rfl (Nat.le_of_ble_eq_true rfl) (by decide) (by kernel_rfl) rfl ?_
  have hle : H.le (H.new (ub u)) := le_refl.new
  refine runs_cut 5 (fun fr' H' => fr' 1 = ptr H.n 0 ∧ fr' 3 = .int .i64 (Tg.Ur.own u.scheme) ∧ fr' 4 = .bool (placeB u) ∧ fr' 5 = .bool (pathB u) ∧ fr' 6 = .bool (queryB u) ∧ H' = H.new (ub u)) ?_ (fun K5 hK5 => ?_) rfl
  · rintro fr' H' ⟨f1, f3, f4, f5, f6, rfl⟩
    have hn := named_cl (H := H.new (ub u)) (s := u.host) h1 hm
    rw [good_eq]
    by_cases h0 : Tg.Ur.own u.scheme = 0
    · simp [f1, f3, h0, hle]
    cases hp : placeB u with
    | false => simp [f1, f3, f4, hp, h0, hle]
    | true =>
      cases hq : pathB u with
      | false => simp [f1, f3, f4, f5, hp, hq, h0, hle]
      | true =>
        cases hr : queryB u with
        | false => simp [f1, f3, f4, f5, f6, hp, hq, hr, h0, hle]
        | true => simp [f1, f3, f4, f5, f6, hp, hq, hr, h0, hle, hn]
  refine runs_cut 4 (fun fr' H' => fr' 1 = ptr H.n 0 ∧ fr' 3 = .int .i64 (Tg.Ur.own u.scheme) ∧ fr' 4 = .bool (placeB u) ∧ fr' 5 = .bool (pathB u) ∧ H' = H.new (ub u)) ?_ (fun K4 hK4 => ?_) rfl
  · rintro fr' H' ⟨f1, f3, f4, f5, rfl⟩
    have hq := fun H : LH => quote_cl (H := H) (s := u.query) (by omega)
    have hh := fun H : LH => hash_cl (H := H) (s := u.query) (by omega)
    have hfin := fun fr' (g : fr' 1 = ptr H.n 0 ∧ fr' 3 = .int .i64 (Tg.Ur.own u.scheme) ∧ fr' 4 = .bool (placeB u) ∧ fr' 5 = .bool (pathB u)) (g6 : fr' 6 = .bool (queryB u)) => hK5 fr' (H.new (ub u)) ⟨g.1, g.2.1, g.2.2.1, g.2.2.2, g6, rfl⟩
    unfold queryB at hfin
    clear hK5
    obtain ⟨sch, hst, prt, pth, q⟩ := u
    simp only at *
    cases q with
    | nil =>
      simp [f1]
      exact hfin _ (by simp [f1, f3, f4, f5]) (by simp)
    | cons c r =>
      have a0 : at_ (c :: r) 0 = c := rfl
      have q1 := eq_true (show (0 : Int) < (r.length : Int) + 1 by omega)
      by_cases hc : c = 63
      · subst hc
        by_cases he : Tg.Ur.qt (63 :: r) = 63 :: r
        · cases hf : Tg.Ur.free [35] (63 :: r) with
          | false =>
            rw [hf] at hh
            simp [f1, a0, q1, hq, he, hh]
            exact hfin _ (by simp [f1, f3, f4, f5]) (by simp [he, hf])
          | true =>
            rw [hf] at hh
            simp [f1, a0, q1, hq, he, hh]
            exact hfin _ (by simp [f1, f3, f4, f5]) (by simp [he, hf])
        · simp [f1, a0, q1, hq, he]
          exact hfin _ (by simp [f1, f3, f4, f5]) (by simp [he])
      · simp [f1, a0, q1, hc]
        exact hfin _ (by simp [f1, f3, f4, f5]) (by simp [hc])
  refine runs_cut 3 (fun fr' H' => fr' 1 = ptr H.n 0 ∧ fr' 3 = .int .i64 (Tg.Ur.own u.scheme) ∧ fr' 4 = .bool (placeB u) ∧ H' = H.new (ub u)) ?_ (fun K3 hK3 => ?_) rfl
  · rintro fr' H' ⟨f1, f3, f4, rfl⟩
    have hq := fun H : LH => quote_cl (H := H) (s := u.path) (by omega)
    have hd := dots_cl (H := (H.new (ub u)).ro) (s := u.path) (by omega) hm
    have hh := fun H : LH => anyOf_cl (H := H) (s := u.path) (p := [63, 35]) (by omega) (by decide) (by intro b hb; simp at hb; rcases hb with rfl | rfl <;> decide)
    have hfin := fun fr' (g : fr' 1 = ptr H.n 0 ∧ fr' 3 = .int .i64 (Tg.Ur.own u.scheme) ∧ fr' 4 = .bool (placeB u)) (g5 : fr' 5 = .bool (pathB u)) => hK4 fr' (H.new (ub u)) ⟨g.1, g.2.1, g.2.2, g5, rfl⟩
    unfold pathB at hfin
    clear hK4
    obtain ⟨sch, hst, prt, p, qry⟩ := u
    simp only at *
    cases p with
    | nil =>
      simp [f1]
      exact hfin _ (by simp [f1, f3, f4]) (by simp)
    | cons c r =>
      have a0 : at_ (c :: r) 0 = c := rfl
      have q1 := eq_true (show (0 : Int) < (r.length : Int) + 1 by omega)
      by_cases hc : c = 47
      · subst hc
        by_cases hdd : Tg.Ur.dots (47 :: r) = 47 :: r
        · by_cases he : Tg.Ur.qt (47 :: r) = 47 :: r
          · cases hf : Tg.Ur.free [63, 35] (47 :: r) with
            | false =>
              rw [hf] at hh
              simp [f1, a0, q1, hd, hdd, hq, he, hh]
              exact hfin _ (by simp [f1, f3, f4]) (by simp [hdd, he, hf])
            | true =>
              rw [hf] at hh
              simp [f1, a0, q1, hd, hdd, hq, he, hh]
              exact hfin _ (by simp [f1, f3, f4]) (by simp [hdd, he, hf])
          · simp [f1, a0, q1, hd, hdd, hq, he]
            exact hfin _ (by simp [f1, f3, f4]) (by simp [hdd, he])
        · simp [f1, a0, q1, hd, hdd]
          exact hfin _ (by simp [f1, f3, f4]) (by simp [hdd])
      · simp [f1, a0, q1, hc]
        exact hfin _ (by simp [f1, f3, f4]) (by simp [hc])
  have ho := fun H : LH => own_l (H := H) (s := u.scheme)
  unfold placeB at hK3
  by_cases p0 : u.port = 0
  · obtain ⟨sch, hst, prt, pth, q⟩ := u
    simp only at p0 ho hK3
    subst p0
    simp [ho]
    exact hK3 _ _ ⟨by simp, by simp, by simp, rfl⟩
  · by_cases p1 : 1 ≤ u.port
    · by_cases p2 : u.port ≤ 65535
      · by_cases p3 : u.port = Tg.Ur.own u.scheme
        · have q3 := eq_true p3
          simp [ho, p0, p1, p2, q3]
          exact hK3 _ _ ⟨by simp, by simp, by simp [p0, p1, p2, q3], rfl⟩
        · have q3 := eq_false p3
          simp [ho, p0, p1, p2, q3]
          exact hK3 _ _ ⟨by simp, by simp, by simp [p0, p1, p2, q3], rfl⟩
      · have q2 := eq_false p2
        simp [ho, p0, p1, q2]
        exact hK3 _ _ ⟨by simp, by simp, by simp [p0, p1, q2], rfl⟩
    · have q1 := eq_false p1
      simp [ho, p0, q1]
      exact hK3 _ _ ⟨by simp, by simp, by simp [p0, q1], rfl⟩
end
end Go.Proofs.YthgcgjpbhbikaaaDoor
/-
  Layer 26 (url): how long places' parts are, in plain words.
-/
set_option linter.unusedSimpArgs false
set_option linter.unusedVariables false
namespace Tg.Ur
theorem qt_len : ∀ (n : Nat) (s : List UInt8), s.length ≤ n → (qt s).length ≤ 3 * s.length
  | n, [], _ => by rw [qt]; simp
  | n, b :: r, h => by
    cases n with
    | zero => simp at h
    | succ n =>
      cases he : esc (b :: r) with
      | some e =>
        have hl := Go.Proofs.YthgcgjpbhbikaaaDoor.esc_len he
        have ih := qt_len n (r.drop 2) (by simp at h ⊢; omega)
        rw [qt, he]
        simp at hl ih ⊢; omega
      | none =>
        have ih := qt_len n r (by simp at h ⊢; omega)
        rw [qt, he]
        have : (if okB b then [b] else pct b).length ≤ 3 := by split <;> simp [pct]
        simp at ih ⊢; omega
theorem joinS_app (a b : List (List UInt8)) : joinS (a ++ b) = joinS a ++ joinS b := by
  induction a with
  | nil => rfl
  | cons x a ih => show 47 :: (x ++ joinS (a ++ b)) = 47 :: (x ++ joinS a) ++ joinS b; rw [ih]; simp
theorem joinS_dl (a : List (List UInt8)) : (joinS a.dropLast).length ≤ (joinS a).length := by
  rcases List.eq_nil_or_concat a with rfl | ⟨l, x, rfl⟩
  · simp [joinS]
  · rw [List.concat_eq_append, List.dropLast_concat, joinS_app]; simp
theorem stepD_jl (t : Bool) (out : List (List UInt8)) (p : List UInt8) : (joinS (stepD t out p)).length ≤ (joinS out).length + (p.length + 1) := by
  unfold stepD
  split
  · rw [joinS_app]; simp [joinS]
  · rw [joinS_app, List.length_append]
    have h1 : (joinS (if pts p 0 = 2 then out.dropLast else out)).length ≤ (joinS out).length := by
      split
      · exact joinS_dl _
      · exact Nat.le_refl _
    have h2 : (joinS (if t = true then [[]] else [])).length ≤ 1 := by split <;> simp [joinS]
    omega
theorem foldD_jl : ∀ (l out : List (List UInt8)), (joinS (foldD out l)).length ≤ (joinS out).length + (joinS l).length
  | [], out => by simp [foldD, joinS]
  | p :: l, out => by
    rw [foldD_cons]
    have h1 := foldD_jl l (stepD (decide (l = [])) out p)
    have h2 := stepD_jl (decide (l = [])) out p
    show _ ≤ _ + (47 :: (p ++ joinS l)).length
    simp; omega
theorem pieces_jl : ∀ s : List UInt8, (joinS (pieces s)).length = s.length + 1
  | [] => by simp [pieces, joinS]
  | b :: r => by
    have ih := pieces_jl r
    unfold pieces
    split
    · simp [joinS, ih]
    · split
      · rename_i h; exact absurd h (pieces_ne r)
      · rename_i p l h
        rw [h] at ih
        simp [joinS] at ih ⊢; omega
theorem dots_len (s : List UInt8) : (dots s).length ≤ s.length := by
  unfold dots
  split
  · rename_i r
    have h1 := foldD_jl (pieces r) []
    have h2 := pieces_jl r
    split
    · simp
    · simp [joinS] at h1 ⊢; omega
  · simp
theorem upto_le (p s : List UInt8) : upto p s ≤ s.length := by
  unfold upto; exact (List.takeWhile_prefix _).length_le
def textP (u : Url) : List UInt8 := u.scheme ++ [58, 47, 47] ++ u.host ++ (if u.port ≠ 0 then 58 :: Go.Lib.itoa u.port else []) ++ u.path ++ u.query
def text (u : Url) : List UInt8 := if good u then textP u else []
def port (u : Url) : Int := if own u.scheme = 0 ∨ u.port = 0 then own u.scheme else u.port
def origin (u : Url) : List UInt8 := if good u then u.scheme ++ [58, 47, 47] ++ u.host ++ [58] ++ Go.Lib.itoa (port u) else []
end Tg.Ur
/-
  Layer 26 (url): what the code's functions come to: a text's parts, the place.
-/
set_option linter.unusedSimpArgs false
set_option linter.unusedVariables false
set_option maxRecDepth 100000
namespace Go.Proofs.YthgcgjpbhbikaaaDoor
open Go.Lg Go.Tg
section
variable {H : LH} {b : UInt8} {s t : List UInt8}
@[simp] theorem lfill_cell' {P : Program} {t : TypeId} {cs : List Value} {i : Nat} {q : Nat × Nat × Bool} {v : Value} {ps : List (Nat × Value)} (hf : fldi P t i = some q) (hn : q.2.1 = 1) (hv : cellB v = true) (ho : q.1 < cs.length) : lfill P t cs ((i, v) :: ps) = lfill P t (cs.set q.1 v) ps := by
  obtain ⟨o, n, g⟩ := q
  exact lfill_cell hf hn hv ho
theorem Lower_cl (hs : s.length ≤ 1048576) : LC Tryd.prog EJ 16 [str s] H = some (str (Tg.Lo.lower s), H) := by
  refine LC_pure rfl Tryd.func16 rfl (Nat.le_of_ble_eq_true rfl) (by decide) (by kernel_rfl) rfl ?_
  simp [lower_l (H := H) (s := s) (by unfold maxLen; omega)]
theorem byte_upto (s : List UInt8) (c : UInt8) : (Lib.indexByte s c = -1 ∧ Tg.Ur.upto [c] s = s.length) ∨ (Lib.indexByte s c = (Tg.Ur.upto [c] s : Nat) ∧ Tg.Ur.upto [c] s < s.length) := by
  rw [← Lib.indexAny_one]; exact any_upto s [c]
theorem drop_upto {s : List UInt8} {c : UInt8} (h : Lib.indexByte s c = (Tg.Ur.upto [c] s : Nat)) : s.drop (Tg.Ur.upto [c] s) = c :: s.drop (Tg.Ur.upto [c] s + 1) := by
  have h2 := (Lib.indexByte_some h).1
  obtain ⟨hlt, he⟩ := List.getElem?_eq_some_iff.mp h2
  rw [List.drop_eq_getElem_cons hlt, he]
theorem prefix2 {a c : UInt8} : Lib.hasPrefix s [a, c] = decide (s.take 2 = [a, c]) := by
  rcases s with _ | ⟨x, _ | ⟨y, r⟩⟩
  · rfl
  · simp [Lib.hasPrefix, List.isPrefixOf]
  · simp [Lib.hasPrefix, List.isPrefixOf]
    rw [Bool.eq_iff_iff]
    simp
    constructor <;> rintro ⟨h1, h2⟩ <;> exact ⟨h1.symm, h2.symm⟩
theorem asc1 {a : UInt8} (h : a.toNat < 128) : ascL [a] := by intro b hb; simp at hb; subst hb; exact h
theorem asc2 {a c : UInt8} (h : a.toNat < 128) (h2 : c.toNat < 128) : ascL [a, c] := by intro b hb; simp at hb; rcases hb with rfl | rfl <;> assumption
theorem asc3 {a c d : UInt8} (h : a.toNat < 128) (h2 : c.toNat < 128) (h3 : d.toNat < 128) : ascL [a, c, d] := by intro b hb; simp at hb; rcases hb with rfl | rfl | rfl <;> assumption
theorem parts_none (h : Tg.Ur.parts s = none) (hs : s.length ≤ 20000) : LC Tryd.prog EJ 9 [str s] H = some (.tuple #[uv Tg.Ur.none, str [], .bool false], H) := by
  refine LC_pure rfl Tryd.func9 rfl (Nat.le_of_ble_eq_true rfl) (by decide) (by kernel_rfl) rfl ?_
  have h1 := fun H : LH => until_cl (H := H) (s := s) (p := [35]) (by omega) (by decide) (asc1 (by decide))
  unfold Tg.Ur.parts at h
  simp only at h
  have hl : (s.take (Tg.Ur.upto [35] s)).length ≤ 20000 := by rw [List.length_take]; omega
  generalize s.take (Tg.Ur.upto [35] s) = s1 at *
  generalize s.drop (Tg.Ur.upto [35] s) = s2 at *
  rcases byte_upto s1 58 with ⟨c1, c2⟩ | ⟨c1, c2⟩
  · have h2 := fun H : LH => scut_none (H := H) c1
    simp [h1, h2, le_refl.new]
    exact ⟨rfl, rfl, rfl, rfl, rfl⟩
  · have h2 := fun H : LH => scut_some (H := H) c1 (by omega)
    rw [drop_upto c1] at h
    have h3 : (s1.drop (Tg.Ur.upto [58] s1 + 1)).take 2 ≠ [47, 47] := by
      intro e
      rw [show (58 :: s1.drop (Tg.Ur.upto [58] s1 + 1)).take 3 = 58 :: (s1.drop (Tg.Ur.upto [58] s1 + 1)).take 2 from rfl, e, if_pos rfl] at h
      cases h
    have hp := prefix2 (s := s1.drop (Tg.Ur.upto [58] s1 + 1)) (a := 47) (c := 47)
    rw [decide_eq_false h3] at hp
    generalize s1.drop (Tg.Ur.upto [58] s1 + 1) = r at *
    generalize s1.take (Tg.Ur.upto [58] s1) = sch at *
    simp [h1, h2, hp, le_refl.new]
    exact ⟨rfl, rfl, rfl, rfl, rfl⟩
theorem parts_some {u : Tg.Ur.Url} {pl : List UInt8} (h : Tg.Ur.parts s = some (u, pl)) (hs : s.length ≤ 20000) (hm : MaxL H) : LC Tryd.prog EJ 9 [str s] H = some (.tuple #[uv u, str pl, .bool true], H) := by
  refine LC_pure rfl Tryd.func9 rfl (Nat.le_of_ble_eq_true rfl) (by decide) (by kernel_rfl) rfl ?_
  have h1 := fun H : LH => until_cl (H := H) (s := s) (p := [35]) (by omega) (by decide) (asc1 (by decide))
  unfold Tg.Ur.parts at h
  simp only at h
  have hl : (s.take (Tg.Ur.upto [35] s)).length ≤ 20000 := by rw [List.length_take]; omega
  generalize s.take (Tg.Ur.upto [35] s) = s1 at *
  generalize s.drop (Tg.Ur.upto [35] s) = s2 at *
  rcases byte_upto s1 58 with ⟨c1, c2⟩ | ⟨c1, c2⟩
  · rw [c2, List.drop_length] at h
    simp at h
  · have h2 := fun H : LH => scut_some (H := H) c1 (by omega)
    have hd3 : s1.drop (Tg.Ur.upto [58] s1 + 3) = (s1.drop (Tg.Ur.upto [58] s1 + 1)).drop 2 := by rw [List.drop_drop]
    rw [hd3, drop_upto c1] at h
    have hpre := prefix2 (s := s1.drop (Tg.Ur.upto [58] s1 + 1)) (a := 47) (c := 47)
    have hl2 : (s1.drop (Tg.Ur.upto [58] s1 + 1)).length ≤ 20000 := by rw [List.length_drop]; omega
    have hl3 : (s1.take (Tg.Ur.upto [58] s1)).length ≤ 20000 := by rw [List.length_take]; omega
    generalize s1.drop (Tg.Ur.upto [58] s1 + 1) = r at *
    generalize s1.take (Tg.Ur.upto [58] s1) = sch at *
    rw [show (58 :: r).take 3 = 58 :: r.take 2 from rfl] at h
    by_cases hp : r.take 2 = [47, 47]
    · rw [hp, if_pos rfl] at h
      rw [decide_eq_true hp] at hpre
      have h2len : 2 ≤ r.length := by
        have := congrArg List.length hp
        rw [List.length_take] at this; simp at this; omega
      have q2 := eq_true (show (2 : Int) ≤ (r.length : Int) by omega)
      have hl4 : (r.drop 2).length ≤ 20000 := by rw [List.length_drop]; omega
      have h3 := fun H : LH => until_cl (H := H) (s := r.drop 2) (p := [58, 47, 63]) (by omega) (by decide) (asc3 (by decide) (by decide) (by decide))
      generalize hr1 : r.drop 2 = r1 at *
      have hl5 : (r1.take (Tg.Ur.upto [58, 47, 63] r1)).length ≤ 20000 := by rw [List.length_take]; omega
      have hl6 : (r1.drop (Tg.Ur.upto [58, 47, 63] r1)).length ≤ 20000 := by rw [List.length_drop]; omega
      generalize r1.take (Tg.Ur.upto [58, 47, 63] r1) = hst at *
      generalize r1.drop (Tg.Ur.upto [58, 47, 63] r1) = r2 at *
      have g1 := fun H : LH => Lower_cl (H := H) (s := sch) (by omega)
      have g2 := fun H : LH => Lower_cl (H := H) (s := hst) (by omega)
      have hpre2 := prefix1 (s := r2) (c := 58)
      -- the port's text, what stands behind it
      generalize hx : Tg.Ur.cutPort r2 = x at h
      have hxl : x.2.length ≤ 20000 := by
        rw [← hx]
        unfold Tg.Ur.cutPort
        split
        · rw [List.length_drop]; simp at hl6; omega
        · exact hl6
      refine runs_cut 6 (fun fr' H' => fr' 2 = ptr H.n 0 ∧ fr' 3 = str x.1 ∧ fr' 5 = str sch ∧ fr' 6 = str x.2 ∧ fr' 7 = str hst ∧ H' = H.new (ub Tg.Ur.none)) ?_ (fun K6 hK6 => ?_) rfl
      · rintro fr' H' ⟨f2, f3, f5, f6, f7, rfl⟩
        obtain ⟨pt, rs⟩ := x
        simp only at h hxl f3 f6
        have h4 := fun H : LH => until_cl (H := H) (s := rs) (p := [63]) (by omega) (by decide) (asc1 (by decide))
        have hl7 : (rs.take (Tg.Ur.upto [63] rs)).length ≤ 20000 := by rw [List.length_take]; omega
        have hl8 : (rs.drop (Tg.Ur.upto [63] rs)).length ≤ 20000 := by rw [List.length_drop]; omega
        generalize rs.take (Tg.Ur.upto [63] rs) = p0 at *
        generalize rs.drop (Tg.Ur.upto [63] rs) = q0 at *
        have hl9 : (if p0 = [] then [47] else p0).length ≤ 20000 := by
          split
          · simp
          · exact hl7
        injection h with h
        injection h with h1 h2
        subst h2
        have ha := fun H : LH => quote_cl (H := H) (s := if p0 = [] then [47] else p0) (by omega)
        have hb := fun H : LH => quote_cl (H := H) (s := q0) (by omega)
        have hq := Tg.Ur.qt_len _ (if p0 = [] then [47] else p0) (Nat.le_refl _)
        have hc := fun (H2 : LH) (hm2 : MaxL H2) => dots_cl (H := H2) (s := Tg.Ur.qt (if p0 = [] then [47] else p0)) (by omega) hm2
        subst h1
        by_cases hp0 : p0 = []
        · subst hp0
          rw [if_pos rfl] at *
          have hc1 := hc ((H.new ⟨[str (Tg.Lo.lower sch), str (Tg.Lo.lower hst), .int .i64 0, str [47], str q0], 25, true⟩).ro) hm
          simp [f2, f3, f5, f6, f7, g1, g2, h4, ha, hb, hc1, le_refl.new]
        · rw [if_neg hp0] at *
          have hc1 := hc ((H.new ⟨[str (Tg.Lo.lower sch), str (Tg.Lo.lower hst), .int .i64 0, str p0, str q0], 25, true⟩).ro) hm
          simp [f2, f3, f5, f6, f7, g1, g2, h4, hp0, ha, hb, hc1, le_refl.new]
      cases r2 with
      | nil =>
        have hx2 : x = ([], []) := hx.symm.trans rfl
        rw [hx2] at hK6
        have e : Lib.hasPrefix [] [58] = false := rfl
        simp [h1, h2, hpre, q2, hr1, h3, e]
        exact hK6 _ _ ⟨by simp, by simp, by simp, by simp, by simp, rfl⟩
      | cons c r3 =>
        by_cases hc : c = 58
        · subst hc
          have hx2 : x = (r3.take (Tg.Ur.upto [47, 63] r3), r3.drop (Tg.Ur.upto [47, 63] r3)) := hx.symm.trans rfl
          rw [hx2] at hK6
          have q3 := eq_true (show (1 : Int) ≤ (r3.length : Int) + 1 by omega)
          have h5 := fun H : LH => until_cl (H := H) (s := r3) (p := [47, 63]) (by simp at hl6; omega) (by decide) (asc2 (by decide) (by decide))
          have hpre2 : Lib.hasPrefix (58 :: r3) [58] = true := by rw [hpre2]; simp
          simp [h1, h2, hpre, q2, hr1, h3, hpre2, q3, h5]
          exact hK6 _ _ ⟨by simp, by simp, by simp, by simp, by simp, rfl⟩
        · have hx2 : x = ([], c :: r3) := by
            rw [← hx]
            unfold Tg.Ur.cutPort
            split
            · rename_i e; injection e with e; exact absurd e hc
            · rfl
          rw [hx2] at hK6
          rw [decide_eq_false (by simpa using hc)] at hpre2
          simp [h1, h2, hpre, q2, hr1, h3, hpre2]
          exact hK6 _ _ ⟨by simp, by simp, by simp, by simp, by simp, rfl⟩
    · rw [if_neg (by simp [hp])] at h
      cases h
theorem parts_lens {u : Tg.Ur.Url} {pl : List UInt8} (h : Tg.Ur.parts s = some (u, pl)) : u.host.length ≤ s.length ∧ u.scheme.length ≤ s.length ∧ u.path.length ≤ 3 * s.length + 3 ∧ u.query.length ≤ 3 * s.length ∧ pl.length ≤ s.length ∧ u.port = 0 := by
  have low_len : ∀ l : List UInt8, (Tg.Lo.lower l).length = l.length := fun l => by simp [Tg.Lo.lower]
  unfold Tg.Ur.parts at h
  simp only at h
  generalize h1 : s.take (Tg.Ur.upto [35] s) = s1 at h
  generalize h2 : Tg.Ur.upto [58] s1 = k at h
  split at h
  · generalize h3 : s1.drop (k + 3) = r at h
    generalize h4 : Tg.Ur.upto [58, 47, 63] r = j at h
    generalize h5 : Tg.Ur.cutPort (r.drop j) = x at h
    generalize h6 : Tg.Ur.upto [63] x.2 = q at h
    have l1 : s1.length ≤ s.length := by rw [← h1, List.length_take]; omega
    have l2 : r.length ≤ s1.length := by rw [← h3, List.length_drop]; omega
    have l3 : x.1.length ≤ r.length ∧ x.2.length ≤ r.length := by
      rw [← h5]
      unfold Tg.Ur.cutPort
      split
      · rename_i r3 e
        have := congrArg List.length e
        rw [List.length_drop] at this
        simp at this
        constructor
        · rw [List.length_take]; omega
        · rw [List.length_drop]; omega
      · constructor
        · simp
        · rw [List.length_drop]; omega
    injection h with h
    injection h with e1 e2
    subst e1 e2
    simp only
    have hd := Tg.Ur.dots_len (Tg.Ur.qt (if x.2.take q = [] then [47] else x.2.take q))
    have hq := Tg.Ur.qt_len _ (if x.2.take q = [] then [47] else x.2.take q) (Nat.le_refl _)
    have hq2 := Tg.Ur.qt_len _ (x.2.drop q) (Nat.le_refl _)
    have hl : (if x.2.take q = [] then [47] else x.2.take q).length ≤ s.length + 1 := by
      split
      · simp
      · rw [List.length_take]; omega
    rw [List.length_drop] at hq2
    refine ⟨?_, ?_, by omega, by omega, by omega, ?_⟩
    · rw [low_len, List.length_take]; omega
    · rw [low_len, List.length_take]; omega
    · trivial
  · cases h
theorem parse_cl (hs : s.length ≤ 20000) (hm : MaxL H) : LC Tryd.prog EJ 6 [str s] H = some (.tuple #[uv (Tg.Ur.parse s).1, .int .i64 (Tg.Ur.parse s).2], H) := by
  refine LC_pure rfl Tryd.func6 rfl (Nat.le_of_ble_eq_true rfl) (by decide) (by kernel_rfl) rfl ?_
  have ht := fun H : LH => trim_cl (H := H) (s := s) (by omega)
  have htl : (Tg.Ur.trim s).length ≤ s.length := by
    unfold Tg.Ur.trim Tg.Ur.trimL
    rw [List.length_reverse]
    refine Nat.le_trans (dw_le _) ?_
    rw [List.length_reverse]
    exact dw_le _
  unfold Tg.Ur.parse
  simp only
  generalize Tg.Ur.trim s = t at *
  by_cases h8 : 8192 < t.length
  · have q := eq_true (show (8192 : Int) < (t.length : Int) by omega)
    rw [if_pos h8]
    simp [ht, q, le_refl.new]
    exact ⟨rfl, rfl, rfl, rfl, rfl⟩
  · have q := eq_false (show ¬ (8192 : Int) < (t.length : Int) by omega)
    rw [if_neg h8]
    cases hp : Tg.Ur.parts t with
    | none =>
      have h1 := fun H : LH => parts_none (H := H) hp (by omega)
      simp [ht, q, h1, le_refl.new]
      exact ⟨rfl, rfl, rfl, rfl, rfl⟩
    | some x =>
      obtain ⟨u, pl⟩ := x
      have h1 := parts_some (H := H.new ⟨[str [], str [], .int .i64 0, str [], str []], 25, true⟩) hp (by omega) hm
      obtain ⟨l1, l2, l3, l4, l5, l6⟩ := parts_lens hp
      have h2 := good_cl (H := (H.new ⟨[str [], str [], .int .i64 0, str [], str []], 25, true⟩).new (ub u)) (u := u) (by omega) (by omega) (by omega) hm
      have h3 := fun H : LH => number_cl (H := H) (s := pl) (t := u.scheme) (by omega)
      simp only
      cases hg : Tg.Ur.good u with
      | false =>
        rw [hg] at h2
        simp [ht, q, h1, h2, le_refl.new]
        exact ⟨rfl, rfl, rfl, rfl, rfl⟩
      | true =>
        rw [hg] at h2
        generalize Tg.Ur.number pl u.scheme = n at *
        by_cases hn : n.2 = 0
        · simp [ht, q, h1, h2, h3, hn, le_refl.new]
        · simp [ht, q, h1, h2, h3, hn, le_refl.new]
          exact ⟨rfl, rfl, rfl, rfl, rfl⟩
end
end Go.Proofs.YthgcgjpbhbikaaaDoor
