/-
  The machine of layer 28 (jscript): its fields, and its methods that leave its stack as it is.
-/
import Derived.Test.YtgnefbngkhjfcaaDoorJsPure
set_option linter.unusedSimpArgs false
set_option linter.unusedVariables false
namespace Go.Proofs.YtgnefbngkhjfcaaDoor
open Go.Lg Tg.Js

/-- the machine's cells -/
def mc (m : M) (v : Value) : List Value := [.int .i64 m.depth, v, .int .i64 m.at_, .int .u8 m.by_.toNat, .bool m.taken, str m.said, .int .i64 m.last, .bool m.broken, .bool m.bad, .int .i64 m.place, .int .i64 m.pieces, .int .i64 m.ends, .int .i64 m.seen]
def mb (m : M) (v : Value) : LB := ⟨mc m v, 53, true⟩
theorem set_self {H : LH} {l : Nat} {b : LB} (h : H.get l = some b) : H.set l b = H := by
  cases H with
  | mk n g ho w0 ng =>
    simp only [LH.set, LH.mk.injEq, true_and, and_true]
    funext k
    split
    · rename_i e; subst e; exact h.symm
    · rfl
@[simp] theorem u8inj {a b : UInt8} : ((a.toNat : Int) = b.toNat) = (a = b) := by
  apply propext
  constructor
  · intro h; exact UInt8.toNat_inj.1 (by omega)
  · rintro rfl; rfl
set_option maxRecDepth 100000
section
variable {H : LH} {b : UInt8} {m : M} {v : Value} {p : Nat}
@[simp] theorem mb_len : (mb m v).cells.length = 13 := by simp only [mb, mc]; simp only [List.length_cons, List.length_nil]
@[simp] theorem mb_rw : (mb m v).rw = true := by simp only [mb]
theorem mb_elem : (mb m v).elem = 53 := rfl
@[simp] theorem ld_depth : (mb m v).cells[0]? = some (.int .i64 m.depth) := rfl
@[simp] theorem lg_depth {hl : 0 < (mb m v).cells.length} : (mb m v).cells[0]'hl = (.int .i64 m.depth) := rfl
@[simp] theorem st_depth {x : Int} : (⟨(mb m v).cells.set 0 (.int .i64 x), (mb m v).elem, true⟩ : LB) = mb { m with depth := x } v := rfl
@[simp] theorem ld_at_ : (mb m v).cells[2]? = some (.int .i64 m.at_) := rfl
@[simp] theorem lg_at_ {hl : 2 < (mb m v).cells.length} : (mb m v).cells[2]'hl = (.int .i64 m.at_) := rfl
@[simp] theorem st_at_ {x : Int} : (⟨(mb m v).cells.set 2 (.int .i64 x), (mb m v).elem, true⟩ : LB) = mb { m with at_ := x } v := rfl
@[simp] theorem ld_by_ : (mb m v).cells[3]? = some (.int .u8 m.by_.toNat) := rfl
@[simp] theorem lg_by_ {hl : 3 < (mb m v).cells.length} : (mb m v).cells[3]'hl = (.int .u8 m.by_.toNat) := rfl
@[simp] theorem st_by_ {x : UInt8} : (⟨(mb m v).cells.set 3 (.int .u8 x.toNat), (mb m v).elem, true⟩ : LB) = mb { m with by_ := x } v := rfl
@[simp] theorem ld_taken : (mb m v).cells[4]? = some (.bool m.taken) := rfl
@[simp] theorem lg_taken {hl : 4 < (mb m v).cells.length} : (mb m v).cells[4]'hl = (.bool m.taken) := rfl
@[simp] theorem st_taken {x : Bool} : (⟨(mb m v).cells.set 4 (.bool x), (mb m v).elem, true⟩ : LB) = mb { m with taken := x } v := rfl
@[simp] theorem ld_said : (mb m v).cells[5]? = some (str m.said) := rfl
@[simp] theorem lg_said {hl : 5 < (mb m v).cells.length} : (mb m v).cells[5]'hl = (str m.said) := rfl
@[simp] theorem st_said {x : List UInt8} : (⟨(mb m v).cells.set 5 (str x), (mb m v).elem, true⟩ : LB) = mb { m with said := x } v := rfl
@[simp] theorem ld_last : (mb m v).cells[6]? = some (.int .i64 m.last) := rfl
@[simp] theorem lg_last {hl : 6 < (mb m v).cells.length} : (mb m v).cells[6]'hl = (.int .i64 m.last) := rfl
@[simp] theorem st_last {x : Int} : (⟨(mb m v).cells.set 6 (.int .i64 x), (mb m v).elem, true⟩ : LB) = mb { m with last := x } v := rfl
@[simp] theorem ld_broken : (mb m v).cells[7]? = some (.bool m.broken) := rfl
@[simp] theorem lg_broken {hl : 7 < (mb m v).cells.length} : (mb m v).cells[7]'hl = (.bool m.broken) := rfl
@[simp] theorem st_broken {x : Bool} : (⟨(mb m v).cells.set 7 (.bool x), (mb m v).elem, true⟩ : LB) = mb { m with broken := x } v := rfl
@[simp] theorem ld_bad : (mb m v).cells[8]? = some (.bool m.bad) := rfl
@[simp] theorem lg_bad {hl : 8 < (mb m v).cells.length} : (mb m v).cells[8]'hl = (.bool m.bad) := rfl
@[simp] theorem st_bad {x : Bool} : (⟨(mb m v).cells.set 8 (.bool x), (mb m v).elem, true⟩ : LB) = mb { m with bad := x } v := rfl
@[simp] theorem ld_place : (mb m v).cells[9]? = some (.int .i64 m.place) := rfl
@[simp] theorem lg_place {hl : 9 < (mb m v).cells.length} : (mb m v).cells[9]'hl = (.int .i64 m.place) := rfl
@[simp] theorem st_place {x : Int} : (⟨(mb m v).cells.set 9 (.int .i64 x), (mb m v).elem, true⟩ : LB) = mb { m with place := x } v := rfl
@[simp] theorem ld_pieces : (mb m v).cells[10]? = some (.int .i64 m.pieces) := rfl
@[simp] theorem lg_pieces {hl : 10 < (mb m v).cells.length} : (mb m v).cells[10]'hl = (.int .i64 m.pieces) := rfl
@[simp] theorem st_pieces {x : Int} : (⟨(mb m v).cells.set 10 (.int .i64 x), (mb m v).elem, true⟩ : LB) = mb { m with pieces := x } v := rfl
@[simp] theorem ld_ends : (mb m v).cells[11]? = some (.int .i64 m.ends) := rfl
@[simp] theorem lg_ends {hl : 11 < (mb m v).cells.length} : (mb m v).cells[11]'hl = (.int .i64 m.ends) := rfl
@[simp] theorem st_ends {x : Int} : (⟨(mb m v).cells.set 11 (.int .i64 x), (mb m v).elem, true⟩ : LB) = mb { m with ends := x } v := rfl
@[simp] theorem ld_seen : (mb m v).cells[12]? = some (.int .i64 m.seen) := rfl
@[simp] theorem lg_seen {hl : 12 < (mb m v).cells.length} : (mb m v).cells[12]'hl = (.int .i64 m.seen) := rfl
@[simp] theorem st_seen {x : Int} : (⟨(mb m v).cells.set 12 (.int .i64 x), (mb m v).elem, true⟩ : LB) = mb { m with seen := x } v := rfl
@[simp] theorem st_by34 : (⟨(mb m v).cells.set 3 (.int .u8 34), (mb m v).elem, true⟩ : LB) = mb { m with by_ := 34 } v := rfl
@[simp] theorem st_by39 : (⟨(mb m v).cells.set 3 (.int .u8 39), (mb m v).elem, true⟩ : LB) = mb { m with by_ := 39 } v := rfl
@[simp] theorem st_by47 : (⟨(mb m v).cells.set 3 (.int .u8 47), (mb m v).elem, true⟩ : LB) = mb { m with by_ := 47 } v := rfl
@[simp] theorem st_by96 : (⟨(mb m v).cells.set 3 (.int .u8 96), (mb m v).elem, true⟩ : LB) = mb { m with by_ := 96 } v := rfl
@[simp] theorem ld_stack : (mb m v).cells[1]? = some v := rfl
@[simp] theorem lg_stack {hl : 1 < (mb m v).cells.length} : (mb m v).cells[1]'hl = v := rfl
@[simp] theorem st_stack {x : Value} : (⟨(mb m v).cells.set 1 x, (mb m v).elem, true⟩ : LB) = mb m x := rfl
/-- a method that writes the machine's own block alone -/
theorem own {f : FuncId} {fn : Func} {c : Code} {args : List Value} {u : Value} {B B' : LB} (he : EJ f = none) (hf : Tryd.prog.funcs[f]? = some fn) (hb : fn.body = some c) (hN : args.length ≤ fn.ntmps) (hname : fn.name ≠ "runtime.NumGoroutine") (hcd : codeOk EJ.loud c = true)
    (hB : H.get p = some B) (hp : p < H.n) (hr : Runs Tryd.prog EJ fn [.code c] (enter args) H (fun r => r = (u, H.set p B'))) : LC Tryd.prog EJ f args H = some (u, H.set p B') := by
  obtain ⟨r, h, rfl⟩ := LC_runs he hf hb hN hname hcd hr
  rw [h, trunc_set hB hp]
theorem joined_l (h : H.get p = some (mb m v)) : LC Tryd.prog EJ 78 [ptr p 0] H = some (.bool m.joined, H) := by
  refine LC_pure rfl Tryd.func78 rfl (Nat.le_of_ble_eq_true rfl) (by decide) (by kernel_rfl) rfl ?_
  simp +contextual [h, M.joined]
theorem fail_l (h : H.get p = some (mb m v)) (hp : p < H.n) : LC Tryd.prog EJ 79 [ptr p 0] H = some (.tuple #[], H.set p (mb (m.fail) v)) := by
  refine own rfl Tryd.func79 rfl (Nat.le_of_ble_eq_true rfl) (by decide) (by kernel_rfl) h hp ?_
  simp (config := { maxSteps := 2000000 }) +contextual [h, hp, set_self h, M.fail, -Int.not_le, -Int.not_lt]
theorem fail_s (hp : p < H.n) : LC Tryd.prog EJ 79 [ptr p 0] (H.set p (mb m v)) = some (.tuple #[], H.set p (mb (m.fail) v)) := by
  rw [fail_l get_set hp, set_set]
theorem piece_l (h : H.get p = some (mb m v)) (hp : p < H.n) : LC Tryd.prog EJ 80 [ptr p 0] H = some (.tuple #[], H.set p (mb (m.piece) v)) := by
  refine own rfl Tryd.func80 rfl (Nat.le_of_ble_eq_true rfl) (by decide) (by kernel_rfl) h hp ?_
  simp (config := { maxSteps := 2000000 }) +contextual [h, hp, set_self h, M.piece, -Int.not_le, -Int.not_lt]
theorem piece_s (hp : p < H.n) : LC Tryd.prog EJ 80 [ptr p 0] (H.set p (mb m v)) = some (.tuple #[], H.set p (mb (m.piece) v)) := by
  rw [piece_l get_set hp, set_set]
theorem ended_l {l : Int} (h : H.get p = some (mb m v)) (hp : p < H.n) : LC Tryd.prog EJ 84 [ptr p 0, .int .i64 l] H = some (.tuple #[], H.set p (mb (m.ended l) v)) := by
  refine own rfl Tryd.func84 rfl (Nat.le_of_ble_eq_true rfl) (by decide) (by kernel_rfl) h hp ?_
  simp (config := { maxSteps := 2000000 }) +contextual [h, hp, set_self h, M.ended, -Int.not_le, -Int.not_lt]
theorem ended_s {l : Int} (hp : p < H.n) : LC Tryd.prog EJ 84 [ptr p 0, .int .i64 l] (H.set p (mb m v)) = some (.tuple #[], H.set p (mb (m.ended l) v)) := by
  rw [ended_l get_set hp, set_set]
theorem inRemark_l (h : H.get p = some (mb m v)) (hp : p < H.n) : LC Tryd.prog EJ 56 [ptr p 0, .int .u8 b.toNat] H = some (.tuple #[], H.set p (mb (m.inRemark b) v)) := by
  refine own rfl Tryd.func56 rfl (Nat.le_of_ble_eq_true rfl) (by decide) (by kernel_rfl) h hp ?_
  simp (config := { maxSteps := 2000000 }) +contextual [h, hp, set_self h, M.inRemark, feed_l, -Int.not_le, -Int.not_lt]
theorem inRemark_s (hp : p < H.n) : LC Tryd.prog EJ 56 [ptr p 0, .int .u8 b.toNat] (H.set p (mb m v)) = some (.tuple #[], H.set p (mb (m.inRemark b) v)) := by
  rw [inRemark_l get_set hp, set_set]
theorem inLess_l (h : H.get p = some (mb m v)) (hp : p < H.n) : LC Tryd.prog EJ 57 [ptr p 0, .int .u8 b.toNat] H = some (.tuple #[], H.set p (mb (m.inLess b) v)) := by
  refine own rfl Tryd.func57 rfl (Nat.le_of_ble_eq_true rfl) (by decide) (by kernel_rfl) h hp ?_
  simp (config := { maxSteps := 2000000 }) +contextual [h, hp, set_self h, M.inLess, fail_l h hp, -Int.not_le, -Int.not_lt]
theorem inLess_s (hp : p < H.n) : LC Tryd.prog EJ 57 [ptr p 0, .int .u8 b.toNat] (H.set p (mb m v)) = some (.tuple #[], H.set p (mb (m.inLess b) v)) := by
  rw [inLess_l get_set hp, set_set]
theorem inText_l (h : H.get p = some (mb m v)) (hp : p < H.n) : LC Tryd.prog EJ 58 [ptr p 0, .int .u8 b.toNat] H = some (.tuple #[], H.set p (mb (m.inText b) v)) := by
  refine own rfl Tryd.func58 rfl (Nat.le_of_ble_eq_true rfl) (by decide) (by kernel_rfl) h hp ?_
  simp (config := { maxSteps := 2000000 }) +contextual [h, hp, set_self h, M.inText, feed_l, fail_l h hp, ended_l h hp, -Int.not_le, -Int.not_lt]
theorem inText_s (hp : p < H.n) : LC Tryd.prog EJ 58 [ptr p 0, .int .u8 b.toNat] (H.set p (mb m v)) = some (.tuple #[], H.set p (mb (m.inText b) v)) := by
  rw [inText_l get_set hp, set_set]
end
end Go.Proofs.YtgnefbngkhjfcaaDoor
