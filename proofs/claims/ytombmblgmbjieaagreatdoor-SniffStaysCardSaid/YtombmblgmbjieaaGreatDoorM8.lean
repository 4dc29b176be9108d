/-
  Texts joined, part 8: DoorM.
-/
import Derived.Test.YtombmblgmbjieaaGreatDoorM7
/-
  Doors of the laws that take what is said of a body: the argument opened; the world lifted.
-/
set_option linter.unusedSimpArgs false
set_option linter.unusedVariables false
set_option maxRecDepth 100000
namespace Go.Proofs.YtombmblgmbjieaaGreatDoor.Sn
open Go.ChangeShapes Go.WideShapes Go.ChangeAt Go.RowKit Go.Tg Go.Lg
theorem cells_par : Tryz.prog.cellsOf 92 = 2 := by kernel_rfl
theorem cells_mstr : Tryz.prog.cellsOf 9 = 1 := by kernel_rfl
theorem par_of_trod {HH : Type} {enc : TypeId × Value → HH} {W : World} {base fuel : Nat} {sp : Nat → Bool} {held : Bool} {cs : List Value} {x : DataW HH × List MemPlace} (n : Nat) (hf : DataW.trod enc Tryz.prog W base sp held fuel 92 cs = some x) : ∃ a : Tg.Sn.Par, cs.map (lift1 n) = [str a.1, str a.2] := by
  cases fuel with
  | zero => simp [DataW.trod] at hf
  | succ m =>
    rw [DataW.trod_step] at hf
    unfold DataW.trodStep at hf
    simp only [Tryz.underlying92, Value.cells] at hf
    split at hf
    · rename_i hs
      rw [cells_par] at hs
      match cs, hs with
      | [c0, c1], _ =>
      simp only [Option.map_eq_some_iff] at hf
      obtain ⟨xs, hx, e1⟩ := hf
      simp only [List.mapM_cons, List.mapM_nil, bind, Option.bind_eq_some_iff, pure, Option.some.injEq, cells_mstr] at hx
      obtain ⟨y0, h0, _, ⟨y1, h1, _, rfl, rfl⟩, rfl⟩ := hx
      obtain ⟨s0, q0, _, _⟩ := DataW.trod_string Tryz.underlying9 h0
      obtain ⟨s1, q1, _, _⟩ := DataW.trod_string Tryz.underlying9 h1
      simp at q0 q1
      subst q0; subst q1
      exact ⟨(s0.data.toList, s1.data.toList), by simp only [str_ba]; rfl⟩
    · cases hf
theorem qrow_of {W : World} {g : Nat} {v : Value} {xs : List Tg.Sn.Par} (h : RowOf (LH.lift W g) 2 (fun (a : Tg.Sn.Par) cs => cs = [str a.1, str a.2]) v xs) : QRow (LH.lift W g) v xs := by
  rcases h with h | ⟨l, o, c, h1, _, h2, h3⟩
  · exact .inl h
  · refine .inr ⟨l, o, c, h1, fun hne => ?_⟩
    obtain ⟨b, h4, h5, h6⟩ := h3 hne
    refine ⟨b, h4, h2, fun i hi => ?_⟩
    have h7 := h6 i xs[i] (List.getElem?_eq_getElem hi)
    have hle : o + i * 2 + 2 ≤ b.cells.length := by
      have := Nat.mul_le_mul_right 2 (show i + 1 ≤ xs.length by omega)
      omega
    have e1 : b.cells[o + i * 2]? = ((b.cells.drop (o + i * 2)).take 2)[0]? := by rw [List.getElem?_take, if_pos (by decide), List.getElem?_drop]; rfl
    have e2 : b.cells[o + i * 2 + 1]? = ((b.cells.drop (o + i * 2)).take 2)[1]? := by rw [List.getElem?_take, if_pos (by decide), List.getElem?_drop]
    exact ⟨hle, h7, by rw [e1, h7]; rfl, by rw [e2, h7]; rfl⟩
theorem cells_said : Tryz.prog.cellsOf 38 = 6 := by kernel_rfl
theorem cells_mime : Tryz.prog.cellsOf 36 = 3 := by kernel_rfl
theorem cells_pars : Tryz.prog.cellsOf 34 = 1 := by kernel_rfl
theorem cells_mbool : Tryz.prog.cellsOf 4 = 1 := by kernel_rfl
theorem mime_of_trod {HH : Type} {enc : TypeId × Value → HH} {W : World} {base fuel : Nat} {held : Bool} {cs : List Value} {x : DataW HH × List MemPlace} (hw0 : 0 < W.heap.size) (hf : DataW.trod enc Tryz.prog W base (fun _ => true) held fuel 36 cs = some x) :
    ∃ (a b : ByteArray) (p : Value) (l : List Tg.Sn.Par), cs = [.string a, .string b, p] ∧ QRow (LH.lift W 2) (lift1 W.heap.size p) l ∧ l.length ≤ maxLen := by
  cases fuel with
  | zero => simp [DataW.trod] at hf
  | succ m =>
    rw [DataW.trod_step] at hf
    unfold DataW.trodStep at hf
    simp only [Tryz.underlying36, Value.cells] at hf
    split at hf
    · rename_i hs
      rw [cells_mime] at hs
      match cs, hs with
      | [c0, c1, c2], _ =>
      simp only [Option.map_eq_some_iff] at hf
      obtain ⟨xs, hx, e1⟩ := hf
      simp only [List.mapM_cons, List.mapM_nil, bind, Option.bind_eq_some_iff, pure, Option.some.injEq, cells_mstr, cells_pars] at hx
      obtain ⟨y0, h0, _, ⟨y1, h1, _, ⟨y2, h2, _, rfl, rfl⟩, rfl⟩, rfl⟩ := hx
      obtain ⟨s0, q0, _, _⟩ := DataW.trod_string Tryz.underlying9 h0
      obtain ⟨s1, q1, _, _⟩ := DataW.trod_string Tryz.underlying9 h1
      simp at q0 q1
      subst q0; subst q1
      obtain ⟨v, xs, hc, hr, hl⟩ := row_of_trod (El := fun (a : Tg.Sn.Par) cs => cs = [str a.1, str a.2]) (g := 2) Tryz.underlying34 cells_par (by decide) hw0 (fun fuel cs y hy => par_of_trod W.heap.size hy) h2
      simp at hc
      subst hc
      exact ⟨s0, s1, _, xs, rfl, qrow_of hr, hl⟩
    · cases hf
theorem open_said {HH : Type} {enc : TypeId × Value → HH} {W : World} {base b0 : Nat} {held : Bool} {r : Reach} {v : Value} {d : DataW HH} {ps : List MemPlace} (hw0 : 0 < W.heap.size)
    (hval : Value.okWide Tryz.prog W r b0 38 v) (hd : DataW.Trod enc Tryz.prog W base (fun _ => true) held 38 v d ps) :
    ∃ (a b : ByteArray) (p : Value) (h n g : Bool) (l : List Tg.Sn.Par), v = .agg #[.string a, .string b, p, .bool h, .bool n, .bool g] ∧ QRow (LH.lift W 2) (lift1 W.heap.size p) l ∧ l.length ≤ maxLen := by
  obtain ⟨cs, rfl, hs⟩ := okWide_struct Tryz.underlying38 hval
  rw [cells_said] at hs
  obtain ⟨l⟩ := cs
  match l, hs with
  | [c0, c1, c2, c3, c4, c5], _ =>
  obtain ⟨fuel, hf⟩ := hd
  cases fuel with
  | zero => simp [DataW.trod] at hf
  | succ n =>
    rw [DataW.trod_step] at hf
    unfold DataW.trodStep at hf
    simp only [Tryz.underlying38, Value.cells] at hf
    rw [if_pos (by rw [cells_said]; rfl)] at hf
    simp only [Option.map_eq_some_iff] at hf
    obtain ⟨xs, hx, e1⟩ := hf
    simp only [List.mapM_cons, List.mapM_nil, bind, Option.bind_eq_some_iff, pure, Option.some.injEq, cells_mime, cells_mbool] at hx
    obtain ⟨y0, h0, _, ⟨y1, h1, _, ⟨y2, h2, _, ⟨y3, h3, _, rfl, rfl⟩, rfl⟩, rfl⟩, rfl⟩ := hx
    obtain ⟨a, b, p, l, e0, hq, hl⟩ := mime_of_trod hw0 h0
    obtain ⟨k3, q3, _, _⟩ := DataW.trod_bool Tryz.underlying4 h1
    obtain ⟨k4, q4, _, _⟩ := DataW.trod_bool Tryz.underlying4 h2
    obtain ⟨k5, q5, _, _⟩ := DataW.trod_bool Tryz.underlying4 h3
    simp at e0 q3 q4 q5
    obtain ⟨rfl, rfl, rfl⟩ := e0
    subst q3; subst q4; subst q5
    exact ⟨a, b, _, k3, k4, k5, l, rfl, hq, hl⟩
theorem QRow.slice {H : LH} {v : Value} {l : List Tg.Sn.Par} (h : QRow H v l) : ∃ pa pl pc, v = .slice pa pl pc := by
  rcases h with ⟨rfl, _⟩ | ⟨k, o, c, rfl, _⟩
  · exact ⟨_, _, _, rfl⟩
  · exact ⟨_, _, _, rfl⟩
theorem lift_str {n : Nat} (s : ByteArray) : liftV n (.string s) = str s.data.toList := by
  rw [← str_ba]; rfl
theorem lift_said {n : Nat} {a b : ByteArray} {p : Value} {h k g : Bool} : liftV n (.agg #[.string a, .string b, p, .bool h, .bool k, .bool g]) = .agg #[str a.data.toList, str b.data.toList, lift1 n p, .bool h, .bool k, .bool g] := by
  have e : ∀ v : Value, atomB v = true → (match v with | .pointer (some _) => false | .slice (some _) _ _ => false | _ => true) = true → lift1 n v = v := fun v h1 h2 => by
    unfold lift1
    split
    · simp at h2
    · simp at h2
    · simp at h2
    · rw [if_pos h1]
  have h1 : lift1 n (.string a) = .string a := e _ rfl rfl
  have h2 : lift1 n (.string b) = .string b := e _ rfl rfl
  have h3 : ∀ x : Bool, lift1 n (.bool x) = .bool x := fun x => e _ rfl rfl
  show Value.agg ((#[.string a, .string b, p, .bool h, .bool k, .bool g] : Array Value).map (lift1 n)) = _
  rw [← str_ba, ← str_ba]
  simp [h1, h2, h3]
noncomputable def laidS : List (String × DataW Unit) := [("unicode/utf8.acceptRanges", Rows.laid_unicode_utf8_acceptRanges), ("unicode.White_Space", Rows.laid_unicode_White_Space), ("strings.asciiSpace", Rows.laid_strings_asciiSpace), ("unicode/utf8.first", Rows.laid_unicode_utf8_first)]
theorem gTabS : Tryz.prog.globalNamed "strings.asciiSpace" = some 0 := by kernel_rfl
theorem tab_of_laidS {W : World} (h : laidMetH Tryz.prog laidS W) : Lib.TabIs Tryz.prog W "strings.asciiSpace" .u8 Lib.asciiSpaceTab := by
  have h1 : laidMet Tryz.prog laidS W := by rwa [MakeChecks.laidMetH_plain _ _ _ (by kernel_rfl)] at h
  have h2 := h1.filter (fun x => x.1 == "strings.asciiSpace")
  have e : laidS.filter (fun x => x.1 == "strings.asciiSpace") = [("strings.asciiSpace", Lib.tabData .u8 Lib.asciiSpaceTab)] := by kernel_rfl
  rw [e] at h2
  exact Lib.tabIs_of_head (g := 0) (t := 179) (e := 5) (n := 256) gTabS (by kernel_rfl) (by kernel_rfl) (by kernel_rfl) (by kernel_rfl) (by kernel_rfl) h2
theorem tabS {W : World} (h : laidMetH Tryz.prog laidS W) : Tab (LH.lift W 2) := ⟨by show 0 < 2; decide, tab_of_laidS h⟩
theorem maxS {W : World} (h : W.ShapedOpen Tryz.prog) : MaxL (LH.lift W 2) := ⟨by show 1 < 2; decide, (maxN h).2⟩
end Go.Proofs.YtombmblgmbjieaaGreatDoor.Sn
