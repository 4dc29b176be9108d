/-
  A logical run of Go code: what operations on memory, strings and slices come to.
-/
import Derived.Test.YtgnefbngkhjfcaaDoorLgEv
set_option linter.unusedSimpArgs false
set_option linter.unusedVariables false
namespace Go.Lg
open Go.Tg Go.RowKit

abbrev ptr (l off : Nat) : Value := .pointer (some ⟨l, off, none⟩)
abbrev sl (l n c : Nat) : Value := .slice (some ⟨l, 0, none⟩) n c
section
variable {P : Program} {E : Ext} {fn : Func} {k : List Item} {fr : Fr} {H H' : LH} {Q : Value × LH → Prop} {all : Array Oper} {os : List Oper} {d : Nat} {op : Op} {T : Callee} {b c : LB} {l m : Nat}

@[simp] theorem enter_get {args : List Value} {t : Nat} : enter args t = args.getD t undef := rfl
/-! ### the heap -/
@[simp] theorem get_new : (H.new b).get H.n = some b := by simp [LH.new]
theorem get_new' : (H.new b).get l = if l = H.n then some b else H.get l := rfl
@[simp] theorem get_new_ne (h : l ≠ H.n) : (H.new b).get l = H.get l := by simp [LH.new, h]
@[simp] theorem get_set : (H.set l b).get l = some b := by simp [LH.set]
@[simp] theorem get_set_ne (h : m ≠ l) : (H.set l b).get m = H.get m := by simp [LH.set, h]
@[simp] theorem get_kill : (H.kill l).get l = none := by simp [LH.kill]
@[simp] theorem get_kill_ne (h : m ≠ l) : (H.kill l).get m = H.get m := by simp [LH.kill, h]
@[simp] theorem n_new : (H.new b).n = H.n + 1 := rfl
@[simp] theorem n_set : (H.set l b).n = H.n := rfl
@[simp] theorem n_kill : (H.kill l).n = H.n := rfl
@[simp] theorem n_ro : H.ro.n = H.n := rfl
@[simp] theorem base_new : (H.new b).base = H.base := rfl
@[simp] theorem base_set : (H.set l b).base = H.base := rfl
@[simp] theorem base_kill : (H.kill l).base = H.base := rfl
@[simp] theorem base_ro : H.ro.base = H.base := rfl
@[simp] theorem ng_new : (H.new b).ng = H.ng := rfl
@[simp] theorem ng_set : (H.set l b).ng = H.ng := rfl
@[simp] theorem ng_kill : (H.kill l).ng = H.ng := rfl
@[simp] theorem ng_ro : H.ro.ng = H.ng := rfl
@[simp] theorem get_ro : H.ro.get l = (H.get l).map fun b => { b with rw := false } := rfl
@[simp] theorem set_set : (H.set l b).set l c = H.set l c := by
  unfold LH.set; simp only [LH.mk.injEq, true_and, and_true]; funext k; split <;> simp_all
@[simp] theorem new_set : (H.new b).set H.n c = H.new c := by
  unfold LH.new LH.set; simp only [LH.mk.injEq, true_and, and_true]; funext k; split <;> simp_all
@[simp] theorem le_self : H.le H := le_refl
theorem LH.le.trans {A B C : LH} (h : A.le B) (g : B.le C) : A.le C := ⟨Nat.le_trans h.1 g.1, fun l hl => (g.2 l (Nat.lt_of_lt_of_le hl h.1)).trans (h.2 l hl)⟩
theorem LH.le.new (h : H.le H') : H.le (H'.new b) := ⟨Nat.le_succ_of_le h.1, fun l hl => by
  have := h.1
  rw [get_new_ne (by omega)]; exact h.2 l hl⟩
theorem LH.le.set (h : H.le H') (hl : H.n ≤ l) : H.le (H'.set l b) := ⟨h.1, fun k hk => by rw [get_set_ne (by omega)]; exact h.2 k hk⟩
theorem LH.le.kill (h : H.le H') (hl : H.n ≤ l) : H.le (H'.kill l) := ⟨h.1, fun k hk => by rw [get_kill_ne (by omega)]; exact h.2 k hk⟩
/-! ### fields, loads, stores -/
/-- a field: its first cell, how many cells, whether it is a struct or an array -/
def fldi (P : Program) (s : TypeId) (f : Nat) : Option (Nat × Nat × Bool) :=
  match P.underlying s with
  | some (.struct fs) => match fs[f]? with
    | some fd => match sz P fd.type, aggB P fd.type with
      | some n, some g => some (fd.offset, n, g)
      | _, _ => none
    | none => none
  | _ => none
def lfaddr (i : Option (Nat × Nat × Bool)) (x : Value) (H : LH) : Option (Value × LH) :=
  match i, x with
  | some (o, n, _), .pointer (some ⟨l, off, none⟩) => if n = 0 then none else some (ptr l (off + o), H)
  | _, _ => none
theorem lopx_fieldAddr {s : TypeId} {x : Operand} {f : Nat} {i : Nat × Nat × Bool} (h : fldi P s f = some i) : lopx P T (.fieldAddr s x f) fr H = lfaddr (some i) (ev fr x) H := by
  unfold fldi at h
  show (match ev fr x, P.underlying s with | .pointer (some ⟨l, off, none⟩), some (.struct fs) => _ | _, _ => none) = _
  split at h
  · rename_i fs hu
    split at h
    · rename_i fd hf
      split at h
      · rename_i n g hs ha
        injection h with h
        subst h
        rw [hu]
        unfold lfaddr
        split
        · rename_i e1 e2
          injection e2 with e2
          injection e2 with e2
          subst e2
          simp only [hf, hs, e1]
        · rename_i h1
          split
          · rename_i e1 e2
            exact absurd rfl (h1 _ _ _ e2)
          · rfl
      · cases h
    · cases h
  · cases h
attribute [simp] lopx_fieldAddr
@[simp] theorem lfaddr_ptr {o n off : Nat} {g : Bool} (h : n ≠ 0) : lfaddr (some (o, n, g)) (ptr l off) H = some (ptr l (off + o), H) := by simp [lfaddr, h]
def lldb (a : Option Bool) (s : Option Nat) (cs : List Value) (off : Nat) : Option Value :=
  match a, s with
  | some true, some s => if off + s ≤ cs.length then some (.agg ((cs.drop off).take s).toArray) else none
  | some false, _ => cs[off]?
  | _, _ => none
def lld (P : Program) (t : TypeId) (x : Value) (H : LH) : Option Value := match x with
  | .pointer (some ⟨l, off, none⟩) => match H.get l with
    | some b => lldb (aggB P t) (sz P t) b.cells off
    | none => none
  | _ => none
theorem lload_eq {t : TypeId} {off : Nat} : lload P t l off H = lld P t (ptr l off) H := by
  cases h : H.get l with
  | none => simp only [lload, lld, h]
  | some b =>
    simp only [lload, lld, h, lldb]
    cases aggB P t with
    | none => rfl
    | some g => cases g <;> cases sz P t <;> simp [lcells]
@[simp ↓] theorem lopx_load {t : TypeId} {x : Operand} : lopx P T (.load t x) fr H = withH (lld P t (ev fr x) H) H := by
  show (match ev fr x with | .pointer (some ⟨l, off, none⟩) => (lload P t l off H).map fun v => (v, H) | _ => none) = _
  split
  · rename_i e; rw [e, lload_eq]; rfl
  · rename_i h
    unfold lld
    split
    · rename_i e; exact absurd e (h _ _)
    · rfl
theorem lld_ptr {t : TypeId} {off : Nat} (h : H.get l = some b) : lld P t (ptr l off) H = lldb (aggB P t) (sz P t) b.cells off := by simp [lld, h]
attribute [simp] lld_ptr
@[simp] theorem lldb_cell {s : Option Nat} {cs : List Value} {off : Nat} : lldb (some false) s cs off = cs[off]? := rfl
@[simp] theorem lldb_agg {s : Nat} {cs : List Value} {off : Nat} (h : off + s ≤ cs.length) : lldb (some true) (some s) cs off = some (.agg ((cs.drop off).take s).toArray) := by simp [lldb, h]
def lst (P : Program) (t : TypeId) (x v : Value) (H : LH) : Option (Value × LH) := match x with
  | .pointer (some ⟨l, off, none⟩) => (lstore P t l off v H).map fun H' => (undef, H')
  | _ => none
@[simp ↓] theorem lopx_store {t : TypeId} {x y : Operand} : lopx P T (.store t x y) fr H = lst P t (ev fr x) (ev fr y) H := rfl
theorem cells_one {v : Value} (h : cellB v = true) : v.cells = #[v] := by cases v <;> first | rfl | (simp [cellB] at h)
theorem lst_cell {t : TypeId} {off : Nat} {v : Value} (h : H.get l = some b) (hrw : b.rw = true) (hs : sz P t = some 1) (hv : cellB v = true) (ho : off < b.cells.length) :
    lst P t (ptr l off) v H = some (undef, H.set l ⟨b.cells.set off v, b.elem, true⟩) := by
  have e1 : splice b.cells off [v] = b.cells.set off v := by
    unfold splice
    rw [List.set_eq_take_append_cons_drop, if_pos ho]; simp
  simp only [lst, lstore, h, hs, cells_one hv]
  simp [hv, e1, hrw]
  omega
attribute [simp] lst_cell
theorem lst_agg {t : TypeId} {off n : Nat} {vs : List Value} (h : H.get l = some b) (hrw : b.rw = true) (hs : sz P t = some n) (hn : vs.length = n) (hv : vs.all cellB = true) (ho : off + n ≤ b.cells.length) :
    lst P t (ptr l off) (.agg ⟨vs⟩) H = some (undef, H.set l ⟨splice b.cells off vs, b.elem, true⟩) := by
  subst hn
  have hv' : ∀ x ∈ vs, cellB x = true := by simpa using hv
  simp only [lst, lstore, h, hs, Value.cells]
  simp [ho, hrw]
  exact hv'
attribute [simp] lst_agg
@[simp] theorem cell_int {kd : IntKind} {n : Int} : cellB (.int kd n) = true := by simp only [cellB]
@[simp] theorem cell_bool {x : Bool} : cellB (.bool x) = true := by simp only [cellB, str]
@[simp] theorem cell_str {x : List UInt8} : cellB (str x) = true := by simp only [cellB, str]
@[simp] theorem cell_ptr {x : Option Addr} : cellB (.pointer x) = true := by simp only [cellB, str]
@[simp] theorem cell_slice {x : Option Addr} {n c : Nat} : cellB (.slice x n c) = true := by simp only [cellB, str]
@[simp] theorem cell_func {f : Fn} {x y : Array Value} : cellB (.func f x y) = true := by simp only [cellB, str]
def Step0 (P : Program) (E : Ext) (fn : Func) (x : Option (Value × LH)) (all : Array Oper) (os : List Oper) (k : List Item) (fr : Fr) (Q : Value × LH → Prop) : Prop :=
  match x with
  | some (_, H) => ROps P E fn all os k fr H Q
  | none => False
@[congr] theorem step0_congr {x y : Option (Value × LH)} (h : x = y) : Step0 P E fn x all os k fr Q = Step0 P E fn y all os k fr Q := by rw [h]
@[simp] theorem step0_some {v : Value} : Step0 P E fn (some (v, H)) all os k fr Q ↔ ROps P E fn all os k fr H Q := Iff.rfl
@[simp] theorem step0_none : Step0 P E fn none all os k fr Q ↔ False := Iff.rfl
@[simp ↓] theorem rops_cons0' {ty : TypeId} {pos : String} {after : Array Edge} : ROps P E fn all (⟨none, op, ty, pos, after, none⟩ :: os) k fr H Q ↔ Step0 P E fn (lopx P (LC P E) op fr H) all os k fr Q := by
  rw [rops_cons0]; rfl
/-! ### results -/
def lres (P : Program) (rs : List ResultVar) (fr : Fr) (H : LH) : Option Value :=
  match rs.mapM (lresult P fr H) with
  | some [v] => some v
  | some vs => some (.tuple vs.toArray)
  | none => none
@[simp] theorem lresults_eq : lresults P fn fr H = lres P fn.results.toList fr H := rfl
def lres1 (P : Program) (r : ResultVar) (fr : Fr) (H : LH) : Option Value := match r with
  | .tmp t => some (fr t)
  | .cell a t => lld P t (fr a) H
theorem lresult_eq {x : ResultVar} : lresult P fr H x = lres1 P x fr H := by
  cases x with
  | tmp t => rfl
  | cell a t =>
    simp only [lresult, lres1]
    split
    · rename_i e; rw [e, lload_eq]
    · rename_i h
      unfold lld
      split
      · rename_i e; exact absurd e (h _ _)
      · rfl
@[simp] theorem lres1_tmp {t : Tmp} : lres1 P (.tmp t) fr H = some (fr t) := rfl
@[simp] theorem lres1_cell {a : Tmp} {t : TypeId} : lres1 P (.cell a t) fr H = lld P t (fr a) H := rfl
@[simp] theorem lres_nil : lres P [] fr H = some (.tuple #[]) := rfl
@[simp] theorem lres_one {x : ResultVar} : lres P [x] fr H = lres1 P x fr H := by
  simp only [lres, List.mapM_cons, List.mapM_nil, lresult_eq]
  cases lres1 P x fr H <;> rfl
@[simp] theorem lres_two {x y : ResultVar} : lres P [x, y] fr H = (lres1 P x fr H).bind fun a => (lres1 P y fr H).bind fun b => some (.tuple #[a, b]) := by
  simp only [lres, List.mapM_cons, List.mapM_nil, lresult_eq]
  cases lres1 P x fr H <;> cases lres1 P y fr H <;> rfl
@[simp] theorem lres_three {x y z : ResultVar} : lres P [x, y, z] fr H = (lres1 P x fr H).bind fun a => (lres1 P y fr H).bind fun b => (lres1 P z fr H).bind fun c => some (.tuple #[a, b, c]) := by
  simp only [lres, List.mapM_cons, List.mapM_nil, lresult_eq]
  cases lres1 P x fr H <;> cases lres1 P y fr H <;> cases lres1 P z fr H <;> rfl
@[simp] theorem lres_four {x y z u : ResultVar} : lres P [x, y, z, u] fr H = (lres1 P x fr H).bind fun a => (lres1 P y fr H).bind fun b => (lres1 P z fr H).bind fun c => (lres1 P u fr H).bind fun d => some (.tuple #[a, b, c, d]) := by
  simp only [lres, List.mapM_cons, List.mapM_nil, lresult_eq]
  cases lres1 P x fr H <;> cases lres1 P y fr H <;> cases lres1 P z fr H <;> cases lres1 P u fr H <;> rfl
/-! ### new blocks -/
def lbox (s : Option Nat) (e : TypeId) (v : Value) (H : LH) : Option (Value × LH) := if knownB v && s == some v.cells.size then some (ptr H.n 0, H.new ⟨v.cells.toList, e, true⟩) else none
@[simp ↓] theorem lopx_box {e : TypeId} {x : Operand} : lopx P T (.box e x) fr H = lbox (sz P e) e (ev fr x) H := rfl
@[simp] theorem lbox_agg {e : TypeId} {n : Nat} {vs : List Value} (h : vs.length = n) : lbox (some n) e (.agg ⟨vs⟩) H = some (ptr H.n 0, H.new ⟨vs, e, true⟩) := by simp [lbox, knownB, Value.cells, h]
@[simp] theorem lbox_cell {e : TypeId} {v : Value} (h : cellB v = true) : lbox (some 1) e v H = some (ptr H.n 0, H.new ⟨[v], e, true⟩) := by
  have : knownB v = true := by cases v <;> first | rfl | (simp [cellB] at h)
  simp [lbox, this, cells_one h]
def lalloc (s : Option Nat) (z : Option Value) (e : TypeId) (H : LH) : Option (Value × LH) := match z with
  | some z => if flatB z && s == some z.cells.size then some (ptr H.n 0, H.new ⟨z.cells.toList, e, true⟩) else none
  | none => none
@[simp ↓] theorem lopx_alloc {e : TypeId} : lopx P T (.alloc e) fr H = lalloc (sz P e) (zr P e) e H := rfl
@[simp] theorem lalloc_agg {e : TypeId} {n : Nat} {vs : List Value} (h : vs.length = n) (hf : vs.all atomB = true) : lalloc (some n) (some (.agg ⟨vs⟩)) e H = some (ptr H.n 0, H.new ⟨vs, e, true⟩) := by
  have : flatB (.agg ⟨vs⟩) = true := hf
  simp [lalloc, this, Value.cells, h]
@[simp] theorem lalloc_cell {e : TypeId} {v : Value} (h : cellB v = true) (hf : flatB v = true) : lalloc (some 1) (some v) e H = some (ptr H.n 0, H.new ⟨[v], e, true⟩) := by simp [lalloc, hf, cells_one h]
@[simp] theorem zr_str : Value.string ⟨#[]⟩ = str [] := rfl
@[simp ↓] theorem lopx_nilCheck {x : Operand} {ad : Addr} (h : ev fr x = .pointer (some ad)) : lopx P T (.nilCheck x) fr H = some (.pointer (some ad), H) := by
  show (match ev fr x with | .pointer (some a) => _ | .func (.func g) f c => _ | _ => none) = _
  rw [h]
/-! ### strings -/
/-- a part of a string -/
def sub (x : List UInt8) (i j : Int) : List UInt8 := (x.take j.toNat).drop i.toNat
def lbv (v : Value) : Option Int := match v with | .int _ i => some i | _ => none
def lssl (x : Value) (i j : Option Int) : Option Value := match x, i, j with
  | .string s, some i, some j => if 0 ≤ i ∧ i ≤ j ∧ j ≤ s.size then some (str (sub s.data.toList i j)) else none
  | _, _, _ => none
end
end Go.Lg
