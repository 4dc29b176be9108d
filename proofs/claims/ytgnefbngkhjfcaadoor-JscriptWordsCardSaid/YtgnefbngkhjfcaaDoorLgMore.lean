/-
  A logical run of Go code: more rules.
-/
import Derived.Test.YtgnefbngkhjfcaaDoorLgByte
import Derived.Test.YtgnefbngkhjfcaaDoorLgQui
set_option linter.unusedSimpArgs false
set_option linter.unusedVariables false
namespace Go.Lg
open Go.Tg Go.RowKit
section
variable {P : Program} {H : LH} {t : TypeId} {a b : Bool}
theorem pureVal_equal_b (hu : P.underlying t = some .bool) : pureVal P (Op.equal t (.bool a) (.bool b)) = some (a == b) := by
  unfold Op.equal
  show pureVal P (Op.equalIn (9999 + 1) t (.bool a) (.bool b)) = _
  unfold Op.equalIn
  simp only [pureVal_bind, pureVal_und, hu, Option.bind_some, pureVal_pure]
@[simp] theorem lbin_beq (hu : P.underlying t = some .bool) : lbin P .eql t (.bool a) (.bool b) = some (.bool (a == b)) := lbin_bb (by simp only [binOp, pureVal_bind, pureVal_equal_b hu, Option.bind_some, pureVal_pure]) rfl
@[simp] theorem lbin_bne (hu : P.underlying t = some .bool) : lbin P .neq t (.bool a) (.bool b) = some (.bool (a != b)) := lbin_bb (by simp only [binOp, pureVal_bind, pureVal_equal_b hu, Option.bind_some, pureVal_pure]; rfl) rfl
end
end Go.Lg
