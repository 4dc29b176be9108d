/-
  The library functions that layer 28 asks: strings.IndexByte, strings.Fields.
-/
import Derived.Test.YtgnefbngkhjfcaaDoorFacts
import Derived.Test.YtgnefbngkhjfcaaDoorShelf
import Derived.Test.YtgnefbngkhjfcaaDoorJsPlain
import Derived.Test.YtgnefbngkhjfcaaDoorLgRow
import Derived.Test.YtgnefbngkhjfcaaDoorLgByte
set_option linter.unusedSimpArgs false
set_option linter.unusedVariables false
namespace Go.Proofs.YtgnefbngkhjfcaaDoor
open Go.Lg Go.Tg Tg.Js

/-- the table of blanks lies in the package's variable -/
def Tab (H : LH) : Prop := 0 < H.ng ∧ Lib.TabIs Tryd.prog H.base "strings.asciiSpace" .u8 Lib.asciiSpaceTab
def specIndexByte : Lg.Spec := fun args H => match args with
  | [.string s, .int .u8 c] => some (.int .i64 (Lib.indexByte s.data.toList c.toNat.toUInt8), H)
  | _ => none
open Classical in
noncomputable def specFields : Lg.Spec := fun args H => match args with
  | [.string s] => if s.size < 4294967281 ∧ (∀ (j : Nat) b, s.data.toList[j]? = some b → b.toNat < 128) ∧ Tab H ∧ (Lib.fields s.data.toList).length ≤ maxLen then
      some (sl H.n (Lib.fields s.data.toList).length (Lib.fields s.data.toList).length, H.new ⟨(Lib.fields s.data.toList).map (fun l => .string ⟨l.toArray⟩), 9, true⟩)
    else none
  | _ => none
noncomputable def EJ : Ext := extL [(82, specIndexByte), (74, specFields)]
@[simp] theorem EJ_loud {g : FuncId} : EJ.loud g = false := rfl
theorem tab_at {P : Program} {H : LH} {ι : Ren} {w : World} (hrel : Rel P H ι w) (h : Tab H) : Lib.TabIs Tryd.prog w "strings.asciiSpace" .u8 Lib.asciiSpaceTab := by
  have h2 := h.2
  unfold Lib.TabIs World.var? at h2 ⊢
  rw [show Tryd.prog.globalNamed "strings.asciiSpace" = some 0 by kernel_rfl] at h2 ⊢
  simp only [Option.bind_some] at h2 ⊢
  rw [pin_block hrel h.1]
  exact h2
theorem extOk : ExtOk Tryd.prog EJ := by
  refine extL_ok (fun p hp => ?_)
  rcases List.mem_cons.1 hp with rfl | hp
  · intro args H v H' h
    refine ⟨⟨_, Tryd.func82, rfl, by decide⟩, ?_⟩
    unfold specIndexByte at h
    dsimp only at h
    split at h
    · simp only [Option.some.injEq, Prod.mk.injEq] at h
      obtain ⟨rfl, rfl⟩ := h
      exact callOk_flat (fun x hx => by
        rcases List.mem_cons.1 hx with rfl | hx
        · rfl
        · rcases List.mem_cons.1 hx with rfl | hx
          · rfl
          · cases hx) rfl (fun w => Tryd.strings_IndexByte _ _ w)
    · cases h
  · rcases List.mem_cons.1 hp with rfl | hp
    · intro args H v H' h
      refine ⟨⟨_, Tryd.func74, rfl, by decide⟩, ?_⟩
      unfold specFields at h
      dsimp only at h
      split at h
      · rename_i s
        split at h
        · rename_i hc
          obtain ⟨h1, h2, h3, h4⟩ := hc
          simp only [Option.some.injEq, Prod.mk.injEq] at h
          obtain ⟨rfl, rfl⟩ := h
          exact callOk_row (fun x hx => by
            rcases List.mem_cons.1 hx with rfl | hx
            · rfl
            · cases hx) (fun x hx => by
              obtain ⟨l, _, rfl⟩ := List.mem_map.1 hx
              rfl) (by kernel_rfl) (by simp) h4 (fun ι w hrel => Tryd.strings_Fields s w h1 h2 (tab_at hrel h3))
        · cases h
      · cases h
    · cases hp
theorem tOk : TOk Tryd.prog (LC Tryd.prog EJ) := LC_ok extOk mixed
section
variable {H : LH}
@[simp] theorem indexByte_l {s : List UInt8} {c : UInt8} : LC Tryd.prog EJ 82 [str s, .int .u8 c.toNat] H = some (.int .i64 (Lib.indexByte s c), H) := by
  refine LC_ext (s := specIndexByte) rfl ?_
  simp [specIndexByte, str]
def kwText : List UInt8 := w "await break case catch class const continue default delete do else export extends finally for from function get if import in instanceof let new of return set static switch throw try typeof var void while with yield async as"
theorem fields_kw : Lib.fields kwText = keywords := by decide +kernel
theorem kw_ascii : (kwText.all fun b => decide (b.toNat < 128)) = true := by decide +kernel
theorem fields_l (ht : Tab H) : LC Tryd.prog EJ 74 [str kwText] H = some (sl H.n 39 39, H.new ⟨keywords.map str, 9, true⟩) := by
  refine LC_ext (s := specFields) rfl ?_
  have e : (⟨kwText.toArray⟩ : ByteArray).data.toList = kwText := by simp
  have hl : keywords.length = 39 := by decide +kernel
  simp only [specFields, str, e, fields_kw, hl]
  have ha : ∀ (j : Nat) b, kwText[j]? = some b → b.toNat < 128 := fun j b hb => by
    have := List.all_eq_true.1 kw_ascii b (List.mem_of_getElem? hb)
    simpa using this
  rw [if_pos ⟨by rw [ba_size]; decide +kernel, ha, ht, by simp [maxLen, fields_kw, hl]⟩]
  rfl
end
end Go.Proofs.YtgnefbngkhjfcaaDoor
