/-
  A logical run of Go code: what operations come to on given values.
-/
import Derived.Test.YtgnefbngkhjfcaaDoorLgSimp
set_option linter.unusedSimpArgs false
set_option linter.unusedVariables false
namespace Go.Lg
open Go.Tg Go.RowKit

section
variable {P : Program}
@[simp] theorem pureVal_bind {α β : Type} (s : Sem α) (f : α → Sem β) : pureVal P (s >>= f) = (pureVal P s).bind fun x => pureVal P (f x) := by
  show pureVal P (s.bind f) = _
  induction s with
  | pure a => rfl
  | program k ih => exact ih P
  | mark m k ih => exact ih
  | _ => rfl
@[simp] theorem pureVal_pure {α : Type} (x : α) : pureVal P (pure x : Sem α) = some x := rfl
@[simp] theorem pureVal_program : pureVal P program = some P := rfl
@[simp] theorem pureVal_und (t : TypeId) : pureVal P (underlying t) = P.underlying t := by
  unfold underlying
  rw [pureVal_bind, pureVal_program, Option.bind_some]
  cases P.underlying t <;> rfl
@[simp] theorem pureVal_sizeOf (t : TypeId) : pureVal P (sizeOf t) = sz P t := by
  unfold sizeOf typeInfo sz
  simp only [pureVal_bind, pureVal_program, Option.bind_some]
  cases P.info? t <;> rfl
end
/-- a string, a pointer, a slice from a row's head -/
def str (l : List UInt8) : Value := .string ⟨l.toArray⟩
theorem str_ba (s : ByteArray) : Value.string s = str s.data.toList := by cases s; rfl

attribute [simp ↓] runs_skip runs_label runs_seq runs_block runs_inBlock runs_region runs_draw rops_nil rmix_nil rops_cons rmix_cons rmix_cons0 rops_guard rmix_guard
@[congr] theorem rres_congr {x y : Option Value} {H : LH} {Q : Value × LH → Prop} (h : x = y) : RRes x H Q = RRes y H Q := by rw [h]
@[simp] theorem rres_some {v : Value} {H : LH} {Q : Value × LH → Prop} : RRes (some v) H Q ↔ Q (v, H) := Iff.rfl
@[simp] theorem rres_none {H : LH} {Q : Value × LH → Prop} : RRes none H Q ↔ False := Iff.rfl
attribute [simp] runs_nil runs_ret step_some mstep_some gstep_true gstep_false gmstep_true gmstep_false rsel_true rsel_false

section
variable {P : Program} {E : Ext} {fn : Func} {k : List Item} {fr : Fr} {H H' H0 : LH} {Q : Value × LH → Prop} {all : Array Oper} {os : List Oper} {d : Nat} {op : Op} {T : Callee}
@[congr] theorem step_congr {x y : Option (Value × LH)} (h : x = y) : Step P E fn x d all os k fr Q = Step P E fn y d all os k fr Q := by rw [h]
@[congr] theorem mstep_congr {x y : Option (Value × LH)} (h : x = y) : MStep P E fn x d all H0 os k fr Q = MStep P E fn y d all H0 os k fr Q := by rw [h]
@[congr] theorem rsel_congr {x y : Bool} {A B : Prop} (h : x = y) : RSel x A B = RSel y A B := by rw [h]
@[congr] theorem gstep_congr {x y : Option Bool} (h : x = y) : GStep P E fn x op d all os k fr H Q = GStep P E fn y op d all os k fr H Q := by rw [h]
@[congr] theorem gmstep_congr {x y : Option Bool} (h : x = y) : GMStep P E fn x op d all H0 os k fr H Q = GMStep P E fn y op d all H0 os k fr H Q := by rw [h]
@[simp] theorem step_none : Step P E fn none d all os k fr Q ↔ False := Iff.rfl
@[simp] theorem mstep_none : MStep P E fn none d all H0 os k fr Q ↔ False := Iff.rfl
@[simp ↓] theorem upd_get {v : Value} {t : Nat} : upd fr d v t = if t = d then v else fr t := rfl
@[simp ↓] theorem ev_tmp {t : Nat} : ev fr (.tmp t) = fr t := rfl
@[simp ↓] theorem ev_int {kd : IntKind} {n : Int} : ev fr (.const (.int kd n)) = .int kd n := rfl
@[simp ↓] theorem ev_bool {b : Bool} : ev fr (.const (.bool b)) = .bool b := rfl
@[simp ↓] theorem ev_str {l : List UInt8} : ev fr (.const (.string ⟨l.toArray⟩)) = str l := rfl
@[simp ↓] theorem ev_nil : ev fr (.const (.pointer none)) = .pointer none := rfl
@[simp ↓] theorem ev_nilslice : ev fr (.const (.slice none 0 0)) = .slice none 0 0 := rfl
@[simp ↓] theorem ev_func {f : FuncId} : ev fr (.func f) = .func (.func f) #[] #[] := rfl
def RCond (P : Program) (E : Ext) (fn : Func) (c : Value) (x y : Code) (k : List Item) (fr : Fr) (H : LH) (Q : Value × LH → Prop) : Prop :=
  match c with
  | .bool b => (b = true → Runs P E fn (.code x :: k) fr H Q) ∧ (b = false → Runs P E fn (.code y :: k) fr H Q)
  | _ => False
@[congr] theorem rcond_congr {c c' : Value} {x y : Code} (h : c = c') : RCond P E fn c x y k fr H Q = RCond P E fn c' x y k fr H Q := by rw [h]
@[simp ↓] theorem runs_cond' {c : Operand} {x y : Code} : Runs P E fn (.code (.cond c x y) :: k) fr H Q ↔ RCond P E fn (ev fr c) x y k fr H Q := by
  unfold RCond
  cases h : ev fr c with
  | bool b => rw [runs_cond h]; cases b <;> simp
  | _ =>
    simp only [iff_false]
    rintro ⟨n, r, hn, _⟩
    cases n with
    | zero => simp [run] at hn
    | succ n => simp [run, h] at hn
@[simp] theorem rcond_true {x y : Code} : RCond P E fn (.bool true) x y k fr H Q ↔ Runs P E fn (.code x :: k) fr H Q := by simp [RCond]
@[simp] theorem rcond_false {x y : Code} : RCond P E fn (.bool false) x y k fr H Q ↔ Runs P E fn (.code y :: k) fr H Q := by simp [RCond]
@[simp] theorem rcond_b {b : Bool} {x y : Code} : RCond P E fn (.bool b) x y k fr H Q ↔ (b = true → Runs P E fn (.code x :: k) fr H Q) ∧ (b = false → Runs P E fn (.code y :: k) fr H Q) := Iff.rfl
@[simp ↓] theorem runs_exit' {id : Nat} : Runs P E fn (.code (.exit id) :: k) fr H Q ↔ match exitTo id k with | some k' => Runs P E fn k' fr H Q | none => False := runs_exit
@[simp] theorem exit_nil {id : Nat} : exitTo id [] = none := rfl
@[simp] theorem exit_block {id j : Nat} : exitTo id (.inBlock j :: k) = if j == id then some k else exitTo id k := rfl
@[simp] theorem exit_code {id : Nat} {c : Code} : exitTo id (.code c :: k) = exitTo id k := rfl
@[simp] theorem exit_loop {id : Nat} {c : Code} : exitTo id (.inLoop c :: k) = exitTo id k := rfl
def lnth : List Oper → Nat → Option Tmp
  | [], _ => none
  | o :: _, 0 => o.dst
  | _ :: l, n + 1 => lnth l n
theorem lnth_eq : ∀ (l : List Oper) (j : Nat), (l[j]?).bind (·.dst) = lnth l j
  | [], j => by cases j <;> rfl
  | o :: l, 0 => rfl
  | o :: l, n + 1 => lnth_eq l n
@[simp ↓] theorem lnth_zero {dst : Option Tmp} {op : Op} {ty : TypeId} {pos : String} {after : Array Edge} {g : Option (Nat × Bool)} {l : List Oper} : lnth (⟨dst, op, ty, pos, after, g⟩ :: l) 0 = dst := rfl
@[simp ↓] theorem lnth_succ {o : Oper} {l : List Oper} {n : Nat} : lnth (o :: l) (n + 1) = lnth l n := rfl
def gval (v : Value) (want : Bool) : Option Bool := match v with
  | .bool b => some (b == want)
  | v => if flatB v then some false else none
def gdst (d : Option Tmp) (fr : Fr) (want : Bool) : Option Bool := match d with
  | none => some false
  | some d => gval (fr d) want
@[simp ↓] theorem guardx_mk {l : List Oper} {j : Nat} {want : Bool} : guardx ⟨l⟩ fr j want = gdst (lnth l j) fr want := by
  unfold guardx
  rw [← lnth_eq]
  show (match (l.toArray[j]?).bind (·.dst) with | none => _ | some d => _) = _
  rw [List.getElem?_toArray]
  cases (l[j]?).bind (·.dst) <;> rfl
@[simp] theorem gdst_some {d : Nat} {want : Bool} : gdst (some d) fr want = gval (fr d) want := rfl
@[simp] theorem gval_true {b : Bool} : gval (.bool b) true = some b := by cases b <;> rfl
@[simp] theorem gval_false {b : Bool} : gval (.bool b) false = some (!b) := by cases b <;> rfl
@[simp] theorem gval_undef {want : Bool} : gval undef want = some false := rfl
theorem gstep_b {b : Bool} : GStep P E fn (some b) op d all os k fr H Q ↔ (b = true → Step P E fn (lopx P (LC P E) op fr H) d all os k fr Q) ∧ (b = false → d < fn.ntmps ∧ ROps P E fn all os k (upd fr d undef) H Q) := by cases b <;> simp
theorem gmstep_b {b : Bool} : GMStep P E fn (some b) op d all H0 os k fr H Q ↔ (b = true → MStep P E fn (lmixx P (LC P E) op fr H0 H) d all H0 os k fr Q) ∧ (b = false → d < fn.ntmps ∧ RMix P E fn all H0 os k (upd fr d undef) H Q) := by cases b <;> simp
attribute [simp] gstep_b gmstep_b
/-! ### operations -/
@[simp ↓] theorem lopx_move {x : Operand} : lopx P T (.move x) fr H = some (ev fr x, H) := rfl
@[simp ↓] theorem lopx_assign {x : Operand} : lopx P T (.assign x) fr H = some (ev fr x, H) := rfl
def lpick (c a b : Value) (H : LH) : Option (Value × LH) := match c with | .bool t => some (if t then a else b, H) | _ => none
@[simp ↓] theorem lopx_pick {c x y : Operand} : lopx P T (.pick c x y) fr H = lpick (ev fr c) (ev fr x) (ev fr y) H := rfl
@[simp] theorem lpick_bool {t : Bool} {a b : Value} : lpick (.bool t) a b H = some (if t = true then a else b, H) := rfl
def withH (v : Option Value) (H : LH) : Option (Value × LH) := v.map fun v => (v, H)
@[simp] theorem withH_some {v : Value} : withH (some v) H = some (v, H) := rfl
@[simp ↓] theorem lopx_bin {op : BinOp} {t yt : TypeId} {x y : Operand} : lopx P T (.binOp op t x y yt) fr H = withH (lbin P op t (ev fr x) (ev fr y)) H := rfl
def lidx (P : Program) (t : TypeId) (x i : Value) : Option Value := if flatB x && flatB i then pureFlat P (Instr.index t x i) else none
@[simp ↓] theorem lopx_index {t : TypeId} {x i : Operand} : lopx P T (.index t x i) fr H = withH (lidx P t (ev fr x) (ev fr i)) H := by
  show (if flatB (ev fr x) && flatB (ev fr i) then _ else _) = withH (lidx _ _ _ _) _
  unfold lidx withH; split <;> rfl
def lun (P : Program) (op : UnOp) (x : Value) : Option Value := if flatB x then pureFlat P (Op.unary op x) else none
@[simp ↓] theorem lopx_un {op : UnOp} {t : TypeId} {x : Operand} : lopx P T (.unOp op t x) fr H = withH (lun P op (ev fr x)) H := by
  show (if flatB (ev fr x) then _ else _) = withH (lun _ _ _) _
  unfold lun withH; split <;> rfl
def lconv (P : Program) (s d : TypeId) (x : Value) (H : LH) : Option Value := if flatB x then pureFlat P (convert s d x) else lbstr P s d x H
@[simp ↓] theorem lopx_conv {s d : TypeId} {x : Operand} : lopx P T (.convert s d x) fr H = withH (lconv P s d (ev fr x) H) H := by
  show (if flatB (ev fr x) then _ else _) = withH (lconv _ _ _ _ _) _
  unfold lconv withH; split <;> rfl
def lextract (x : Value) (i : Nat) : Option Value := match x with | .tuple vs => vs[i]? | _ => none
@[simp ↓] theorem lopx_extract {x : Operand} {i : Nat} : lopx P T (.extract x i) fr H = withH (lextract (ev fr x) i) H := by
  show (match ev fr x with | .tuple vs => _ | _ => none) = withH (lextract _ _) _
  cases ev fr x <;> rfl
@[simp] theorem lextract_0 {a : Value} {l : List Value} : lextract (.tuple ⟨a :: l⟩) 0 = some a := rfl
@[simp] theorem lextract_1 {a b : Value} {l : List Value} : lextract (.tuple ⟨a :: b :: l⟩) 1 = some b := rfl
@[simp] theorem lextract_2 {a b c : Value} {l : List Value} : lextract (.tuple ⟨a :: b :: c :: l⟩) 2 = some c := rfl
@[simp] theorem lextract_3 {a b c d : Value} {l : List Value} : lextract (.tuple ⟨a :: b :: c :: d :: l⟩) 3 = some d := rfl
@[simp ↓] theorem lopx_call {f : Operand} {args : List Operand} {ts : Array TypeId} : lopx P T (.call ⟨.value f, ⟨args⟩, ts⟩) fr H = lcallee P T (ev fr f) (args.map (ev fr)) H := rfl
@[simp ↓] theorem lopx_builtin {b : Builtin} {args : List Operand} {ts : List TypeId} : lopx P T (.call ⟨.builtin b, ⟨args⟩, ⟨ts⟩⟩) fr H = lbuiltin P b ts (args.map (ev fr)) H := rfl
@[simp] theorem lcallee_func {g : FuncId} {args : List Value} : lcallee P T (.func (.func g) #[] #[]) args H = T g args H := by simp [lcallee]
/-! ### values -/
@[simp] theorem flat_int {kd : IntKind} {n : Int} : flatB (.int kd n) = true := by simp [flatB, flat1B, atomB, str]
@[simp] theorem flat_bool {b : Bool} : flatB (.bool b) = true := by simp [flatB, flat1B, atomB, str]
@[simp] theorem flat_str {l : List UInt8} : flatB (str l) = true := by simp [flatB, flat1B, atomB, str]
@[simp] theorem flat_string {s : ByteArray} : flatB (.string s) = true := by simp [flatB, flat1B, atomB, str]
@[simp] theorem flat_nil : flatB (.pointer none) = true := by simp [flatB, flat1B, atomB, str]
@[simp] theorem flat_nilslice : flatB (.slice none 0 0) = true := by simp [flatB, flat1B, atomB, str]
@[simp] theorem wrap64_in {n : Int} (h1 : -9223372036854775808 ≤ n) (h2 : n ≤ 9223372036854775807) : IntKind.i64.wrap n = n := IntWalk.i64_in _ ⟨h1, h2⟩
theorem lbin_ii {op : BinOp} {t : TypeId} {kd : IntKind} {a b : Int} {v : Value} (h : pureVal P (binOp op t (.int kd a) (.int kd b)) = some v) (hv : flatB v = true) : lbin P op t (.int kd a) (.int kd b) = some v := by
  have e : pureVal P (do eqGuard op t (.tmp 0) (.tmp 0) (.int kd a) (.int kd b); binOp op t (.int kd a) (.int kd b) : Sem Value) = some v := by
    rw [← h]; cases op <;> rfl
  show pureFlat P (do eqGuard op t (.tmp 0) (.tmp 0) _ _; binOp op t _ _) = some v
  unfold pureFlat
  rw [e]
  simp only [hv, if_true]
variable {t : TypeId} {kd : IntKind} {a b : Int}
@[simp] theorem lbin_add : lbin P .add t (.int kd a) (.int kd b) = some (.int kd (kd.wrap (a + b))) := lbin_ii (by simp [binOp, Op.intArith]) rfl
@[simp] theorem lbin_sub : lbin P .sub t (.int kd a) (.int kd b) = some (.int kd (kd.wrap (a - b))) := lbin_ii (by simp [binOp, Op.intArith]) rfl
@[simp] theorem lbin_mul : lbin P .mul t (.int kd a) (.int kd b) = some (.int kd (kd.wrap (a * b))) := lbin_ii (by simp [binOp, Op.intArith]) rfl
@[simp] theorem lbin_quo (h : b ≠ 0) : lbin P .quo t (.int kd a) (.int kd b) = some (.int kd (kd.wrap (a.tdiv b))) := lbin_ii (by simp [binOp, Op.intDiv, h]) rfl
@[simp] theorem lbin_rem (h : b ≠ 0) : lbin P .rem t (.int kd a) (.int kd b) = some (.int kd (a.tmod b)) := lbin_ii (by simp [binOp, Op.intDiv, h]) rfl
@[simp] theorem lbin_eq : lbin P .eql t (.int kd a) (.int kd b) = some (.bool (decide (a = b))) := lbin_ii (by by_cases h : a = b <;> simp [binOp, Op.intCmp, h]) rfl
@[simp] theorem lbin_ne : lbin P .neq t (.int kd a) (.int kd b) = some (.bool (decide (a ≠ b))) := lbin_ii (by
  simp only [binOp, Op.intCmp, ne_eq, not_true_eq_false, if_false]
  show some (Value.bool (a != b)) = _
  congr 2
  by_cases h : a = b <;> simp [h]) rfl
@[simp] theorem lbin_lt : lbin P .lss t (.int kd a) (.int kd b) = some (.bool (decide (a < b))) := lbin_ii (by simp [binOp, Op.intCmp]) rfl
@[simp] theorem lbin_le : lbin P .leq t (.int kd a) (.int kd b) = some (.bool (decide (a ≤ b))) := lbin_ii (by simp [binOp, Op.intCmp]) rfl
@[simp] theorem lbin_gt : lbin P .gtr t (.int kd a) (.int kd b) = some (.bool (decide (b < a))) := lbin_ii (by simp [binOp, Op.intCmp]) rfl
@[simp] theorem lbin_ge : lbin P .geq t (.int kd a) (.int kd b) = some (.bool (decide (b ≤ a))) := lbin_ii (by simp [binOp, Op.intCmp]) rfl
theorem lbin_ss {op : BinOp} {t : TypeId} {a b : List UInt8} {v : Value} (h : pureVal P (binOp op t (str a) (str b)) = some v) (hv : flatB v = true) : lbin P op t (str a) (str b) = some v := by
  have e : pureVal P (do eqGuard op t (.tmp 0) (.tmp 0) (str a) (str b); binOp op t (str a) (str b) : Sem Value) = some v := by
    rw [← h]; cases op <;> rfl
  show pureFlat P (do eqGuard op t (.tmp 0) (.tmp 0) _ _; binOp op t _ _) = some v
  unfold pureFlat
  rw [e]
  simp only [hv, if_true]
theorem ba_list (l : List UInt8) : (⟨l.toArray⟩ : ByteArray).toList = l := by rw [ba_toList]
theorem ba_size (l : List UInt8) : (⟨l.toArray⟩ : ByteArray).size = l.length := by show l.toArray.size = _; simp
variable {x y : List UInt8}
@[simp] theorem lbin_seq : lbin P .eql t (str x) (str y) = some (.bool (decide (x = y))) := lbin_ss (by
  simp only [str, binOp, Op.stringOp, ba_list]
  show some (Value.bool (x == y)) = _
  by_cases h : x = y <;> simp [h]) rfl
@[simp] theorem lbin_sne : lbin P .neq t (str x) (str y) = some (.bool (decide (x ≠ y))) := lbin_ss (by
  simp only [str, binOp, Op.stringOp, ba_list]
  show some (Value.bool (!(x == y))) = _
  by_cases h : x = y <;> simp [h]) rfl
@[simp] theorem lbin_cat (h : x.length + y.length ≤ 9223372036854775807) : lbin P .add t (str x) (str y) = some (str (x ++ y)) := lbin_ss (by
  simp only [str, binOp, Op.stringOp, ba_size]
  rw [if_neg (by rw [show IntKind.max .i64 = 9223372036854775807 from rfl]; omega)]
  show some (Value.string _) = _
  congr 2) rfl
theorem lbin_bb {op : BinOp} {t : TypeId} {a b : Bool} {v : Value} (h : pureVal P (binOp op t (.bool a) (.bool b)) = some v) (hv : flatB v = true) : lbin P op t (.bool a) (.bool b) = some v := by
  have e : pureVal P (do eqGuard op t (.tmp 0) (.tmp 0) (.bool a) (.bool b); binOp op t (.bool a) (.bool b) : Sem Value) = some v := by
    rw [← h]; cases op <;> rfl
  show pureFlat P (do eqGuard op t (.tmp 0) (.tmp 0) _ _; binOp op t _ _) = some v
  unfold pureFlat
  rw [e]
  simp only [hv, if_true]
@[simp] theorem lun_not {a : Bool} : lun P .not (.bool a) = some (.bool (!a)) := rfl
@[simp] theorem lun_neg {a : Int} : lun P .neg (.int kd a) = some (.int kd (kd.wrap (0 - a))) := rfl
/-- a string's byte -/
def at_ (l : List UInt8) (i : Int) : UInt8 := l.getD i.toNat 0
theorem lidx_str (hu : P.underlying t = some .string) {i : Int} (h0 : 0 ≤ i) (h1 : i < x.length) : lidx P t (str x) (.int kd i) = some (.int .u8 (at_ x i).toNat) := by
  have hlt : i.toNat < x.length := by omega
  have e : (⟨x.toArray⟩ : ByteArray)[i.toNat]? = some (at_ x i) := by
    unfold at_
    have : (⟨x.toArray⟩ : ByteArray)[i.toNat]? = x[i.toNat]? := by
      rw [getElem?_def, getElem?_def]
      simp only [ba_size]
      rfl
    rw [this, List.getD_eq_getElem?_getD, List.getElem?_eq_getElem hlt]; rfl
  have hp : pureVal P (Instr.index t (str x) (.int kd i)) = some (.int .u8 (at_ x i).toNat) := by
    simp only [Instr.index, str, asIntOf, pureVal_bind, pureVal_pure, Option.bind_some, pureVal_und, hu]
    rw [if_pos h0, e]; rfl
  show pureFlat P _ = _
  unfold pureFlat
  rw [hp]; rfl
theorem lbuiltin_len_str (hu : P.underlying t = some .string) : lbuiltin P .len [t] [str x] H = some (.int .i64 x.length, H) := by
  simp only [lbuiltin, str, hu, ba_size]
theorem lbuiltin_len_slice {e : TypeId} (hu : P.underlying t = some (.slice e)) {ad : Option Addr} {n c : Nat} : lbuiltin P .len [t] [.slice ad n c] H = some (.int .i64 n, H) := by
  simp only [lbuiltin, hu]
end
end Go.Lg
