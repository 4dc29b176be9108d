/-
  Texts joined, part 7: DoorC, DoorO.
-/
import Derived.Test.YthgcgjpbhbikaaaGreatDoorM6
import Derived.Test.YthgcgjpbhbikaaaGreatDoorRows
import Derived.Test.YthgcgjpbhbikaaaGreatDoorM1
import Derived.ProofKit
import Derived.WideShapes
import Derived.RowKit
import Derived.ChangeArms
import Derived.LaidMore
import Derived.LaidSub
import Derived.Lib.LaidTab
import Derived.Stop.Joined
import Derived.Shelf.Vars
import Derived.HandedShaped
import Derived.Lay
import Derived.DataShut
set_option linter.unusedSimpArgs false
set_option linter.unusedVariables false
set_option maxRecDepth 100000
namespace Go.Proofs.YthgcgjpbhbikaaaGreatDoor
open Go.ChangeShapes Go.WideShapes Go.ChangeAt Go.RowKit Go.Tg Go.Lg

noncomputable def laidC : List (String × DataW Unit) := [("math/bits.deBruijn32tab", Rows.laid_math_bits_deBruijn32tab), ("math/bits.deBruijn64tab", Rows.laid_math_bits_deBruijn64tab), ("internal/strconv.uint64pow10", Rows.laid_internal_strconv_uint64pow10), ("unicode/utf8.acceptRanges", Rows.laid_unicode_utf8_acceptRanges), ("unicode.White_Space", Rows.laid_unicode_White_Space), ("strings.asciiSpace", Rows.laid_strings_asciiSpace), ("unicode/utf8.first", Rows.laid_unicode_utf8_first)]
theorem gPowC : Tryz.prog.globalNamed "internal/strconv.uint64pow10" = some 5 := by kernel_rfl
theorem gTabC : Tryz.prog.globalNamed "strings.asciiSpace" = some 0 := by kernel_rfl
theorem laid_plainC {W : World} (h : laidMetH Tryz.prog laidC W) : laidMet Tryz.prog laidC W := by rwa [MakeChecks.laidMetH_plain _ _ _ (by kernel_rfl)] at h
theorem pow_of_laidC {W : World} (h : laidMetH Tryz.prog laidC W) : Lib.TabIs Tryz.prog W "internal/strconv.uint64pow10" .u64 Lib.pow10Tab := by
  have h2 := (laid_plainC h).filter (fun x => x.1 == "internal/strconv.uint64pow10")
  have e : laidC.filter (fun x => x.1 == "internal/strconv.uint64pow10") = [("internal/strconv.uint64pow10", Lib.tabData .u64 Lib.pow10Tab)] := by kernel_rfl
  rw [e] at h2
  exact Lib.tabIs_of_head (g := 5) (t := 166) (e := 108) (n := 20) gPowC (by kernel_rfl) (by kernel_rfl) (by kernel_rfl) (by kernel_rfl) (by kernel_rfl) h2
theorem tab_of_laidC {W : World} (h : laidMetH Tryz.prog laidC W) : Lib.TabIs Tryz.prog W "strings.asciiSpace" .u8 Lib.asciiSpaceTab := by
  have h2 := (laid_plainC h).filter (fun x => x.1 == "strings.asciiSpace")
  have e : laidC.filter (fun x => x.1 == "strings.asciiSpace") = [("strings.asciiSpace", Lib.tabData .u8 Lib.asciiSpaceTab)] := by kernel_rfl
  rw [e] at h2
  exact Lib.tabIs_of_head (g := 0) (t := 118) (e := 5) (n := 256) gTabC (by kernel_rfl) (by kernel_rfl) (by kernel_rfl) (by kernel_rfl) (by kernel_rfl) h2
theorem sizeC {W : World} (h : laidMetH Tryz.prog laidC W) : 5 + 1 ≤ W.heap.size := by
  have h1 := pow_of_laidC h
  have := h1.cell gPowC 0 (by decide)
  rcases Nat.lt_or_ge 5 W.heap.size with h2 | h2
  · exact h2
  · simp [World.cell?, Array.getElem?_eq_none h2] at this
theorem tab10CL {W : World} (h : laidMetH Tryz.prog laidC W) : Tab10 (LH.lift W (5 + 1)) := ⟨by show 5 < 5 + 1; decide, pow_of_laidC h⟩
theorem tabCL {W : World} (h : laidMetH Tryz.prog laidC W) : Tab (LH.lift W (5 + 1)) := ⟨by show 0 < 5 + 1; decide, tab_of_laidC h⟩
theorem maxCL {W : World} (h : W.ShapedOpen Tryz.prog) : MaxL (LH.lift W (5 + 1)) := by
  refine ⟨by show 2 < 5 + 1; decide, ?_⟩
  exact Go.Proofs.cell_of_shapedOpen_int (P := Tryz.prog) (w := W) (zero := #[.int .i64 0]) (t := 3) (g := 2) h (of_decide_eq_true (by kernel_rfl)) (by kernel_rfl) rfl (by kernel_rfl) (by kernel_rfl) Tryz.underlying3
theorem returns_and_shaped {H : Type} {enc : TypeId × Value → H} {a : Assume} {C : Checked} {os : Os} {f : FuncId} {fn : Func} {s : ChangeSpec} {conds : List PathCond} {apart fresh handsOn again : Bool} {X : World → Array Value → Prop}
    (hX : ∀ (w w' : World) (args : Array Value), w.heap = w'.heap → X w args → X w' args)
    (own : Go.ownKnob C.prog.godebug = none) (started : os.Started) (noInit : C.prog.inits.idxOf? f = none) (hfn : C.prog.funcs[f]? = some fn)
    (witness : ∃ (w : World) (tape : Tape) (i : Input), w.os = os ∧ (w.forCall tape i).Shaped C.prog ∧ i.vars = [] ∧ Input.okWide C.prog (w.forCall tape i) .any w.heap.size f i ∧
      ((s.pre enc C.prog fn conds apart (w.forCall tape i).memory i.args ∧ X (w.forCall tape i).memory i.args) ∧ sizedMet enc C.prog fn (OpenSpec.ofChange s) apart (w.forCall tape i).memory i.args) ∧ a.holds C.prog (lone (Frame.enter C.prog f i.args .normal) [] (w.forCall tape i)))
    (contract : ∀ (W : World) (base : Nat) (args : Array Value) (ds gs : List (DataW H)) (before : List MemPlace),
      (∀ (j : Nat) t v, fn.params[j]? = some t → args[j]? = some v → Value.okWide C.prog W .any base t v) →
      DataW.Whole enc C.prog fn.params.toList s.vars apart W args.toList ds gs before →
      X W args → W.ShapedOpen C.prog →
      Calls C.prog f args W fun e W' => ∃ v, e = .returned v ∧ s.post enc C.prog fn apart fresh handsOn again W args v W') :
    ReturnsInHanded a C os f .any (fun w args => (s.pre enc C.prog fn conds apart w args ∧ X w args) ∧ sizedMet enc C.prog fn (OpenSpec.ofChange s) apart w args) (s.post enc C.prog fn apart fresh handsOn again) := by
  refine returnsInHanded_of_calls own started noInit witness ?_
  intro w tape i _ hsh _ hok hpre hholds
  obtain ⟨_, _, _, fn', hfn', _, _, _, _, hval⟩ := hok
  have e : fn' = fn := Option.some.inj (hfn'.symm.trans hfn)
  subst e
  obtain ⟨⟨⟨ds, gs, before, hw, hc⟩, hx⟩, hz⟩ := hpre
  have hw' := DataW.Whole.of_heap (w' := w.forCall tape i) (by rfl) hw
  refine (contract (w.forCall tape i) w.heap.size i.args ds gs before hval hw' (hX _ _ _ (by rfl) hx) hsh).mono fun e W' ⟨v, he, hp⟩ => ?_
  subst he
  exact ChangeSpec.post_blind hp
end Go.Proofs.YthgcgjpbhbikaaaGreatDoor

set_option linter.unusedSimpArgs false
set_option linter.unusedVariables false
set_option maxRecDepth 100000
namespace Go.Proofs.YthgcgjpbhbikaaaGreatDoor.Sc
open Go.ChangeShapes Go.WideShapes Go.ChangeAt Go.RowKit Go.Tg Go.Lg
theorem cells_hdr : Tryz.prog.cellsOf 78 = 2 := by kernel_rfl
theorem cells_hdrs : Tryz.prog.cellsOf 32 = 1 := by kernel_rfl
theorem cells_dstr : Tryz.prog.cellsOf 9 = 1 := by kernel_rfl
theorem cells_dint : Tryz.prog.cellsOf 3 = 1 := by kernel_rfl
theorem hdr_of_trod {HH : Type} {enc : TypeId × Value → HH} {W : World} {base fuel : Nat} {sp : Nat → Bool} {held : Bool} {cs : List Value} {x : DataW HH × List MemPlace} (n : Nat) (hf : DataW.trod enc Tryz.prog W base sp held fuel 78 cs = some x) : ∃ a : Tg.Hd.Hdr, cs.map (lift1 n) = [str a.1, str a.2] := by
  cases fuel with
  | zero => simp [DataW.trod] at hf
  | succ m =>
    rw [DataW.trod_step] at hf
    unfold DataW.trodStep at hf
    simp only [Tryz.underlying78, Value.cells] at hf
    split at hf
    · rename_i hs
      rw [cells_hdr] at hs
      match cs, hs with
      | [c0, c1], _ =>
      simp only [Option.map_eq_some_iff] at hf
      obtain ⟨xs, hx, e1⟩ := hf
      simp only [List.mapM_cons, List.mapM_nil, bind, Option.bind_eq_some_iff, pure, Option.some.injEq, cells_dstr] at hx
      obtain ⟨y0, h0, _, ⟨y1, h1, _, rfl, rfl⟩, rfl⟩ := hx
      obtain ⟨s0, q0, _, _⟩ := DataW.trod_string Tryz.underlying9 h0
      obtain ⟨s1, q1, _, _⟩ := DataW.trod_string Tryz.underlying9 h1
      simp at q0 q1
      subst q0; subst q1
      exact ⟨(s0.data.toList, s1.data.toList), by simp only [str_ba]; rfl⟩
    · cases hf
theorem hrow_of {W : World} {g : Nat} {v : Value} {xs : List Tg.Hd.Hdr} (h : RowOf (LH.lift W g) 2 (fun (a : Tg.Hd.Hdr) cs => cs = [str a.1, str a.2]) v xs) : HRow (LH.lift W g) v xs := by
  rcases h with h | ⟨l, o, c, h1, _, h2, h3⟩
  · exact .inl h
  · refine .inr ⟨l, o, c, h1, fun hne => ?_⟩
    obtain ⟨b, h4, h5, h6⟩ := h3 hne
    refine ⟨b, h4, h2, fun i hi => ?_⟩
    have h7 := h6 i xs[i] (List.getElem?_eq_getElem hi)
    have hle : o + i * 2 + 2 ≤ b.cells.length := by
      have := Nat.mul_le_mul_right 2 (show i + 1 ≤ xs.length by omega)
      omega
    have e1 : b.cells[o + i * 2]? = ((b.cells.drop (o + i * 2)).take 2)[0]? := by rw [List.getElem?_take, if_pos (by decide), List.getElem?_drop]; rfl
    have e2 : b.cells[o + i * 2 + 1]? = ((b.cells.drop (o + i * 2)).take 2)[1]? := by rw [List.getElem?_take, if_pos (by decide), List.getElem?_drop]
    exact ⟨hle, h7, by rw [e1, h7]; rfl, by rw [e2, h7]; rfl⟩
theorem lift_int {n : Nat} {k : IntKind} {x : Int} : lift1 n (.int k x) = .int k x := rfl
theorem lift_bool {n : Nat} {x : Bool} : lift1 n (.bool x) = .bool x := rfl
theorem lift_dstr {n : Nat} (s : ByteArray) : lift1 n (.string s) = str s.data.toList := by rw [← str_ba]; rfl
def I64 (n : Int) : Prop := -9223372036854775808 ≤ n ∧ n ≤ 9223372036854775807
theorem i64_of {n : Int} (h : (Lit.int .i64 n).wf = true) : I64 n := (Lit.wf_int_iff .i64 n).1 h
theorem lift_agg {n : Nat} {cs : Array Value} {l : List Value} (h : cs.toList.map (lift1 n) = l) : liftV n (.agg cs) = .agg ⟨l⟩ := by
  show Value.agg (cs.map (lift1 n)) = _
  congr 1
  rw [← h, ← Array.toList_map]
theorem cells_out : Tryz.prog.cellsOf 55 = 6 := by kernel_rfl
theorem open_out {HH : Type} {enc : TypeId × Value → HH} {W : World} {g base b0 : Nat} {held : Bool} {r : Reach} {v : Value} {d : DataW HH} {ps : List MemPlace} (hw0 : 0 < W.heap.size)
    (hval : Value.okWide Tryz.prog W r b0 55 v) (hd : DataW.Trod enc Tryz.prog W base (fun _ => true) held 55 v d ps) :
    ∃ (o : Tg.Sc.Out) (p : Value), liftV W.heap.size v = outv o p ∧ HRow (LH.lift W g) p o.hdrs ∧ o.hdrs.length ≤ maxLen ∧ I64 o.kind ∧ I64 o.id ∧ I64 o.status := by
  obtain ⟨cs, rfl, hs⟩ := okWide_struct Tryz.underlying55 hval
  rw [cells_out] at hs
  obtain ⟨l⟩ := cs
  match l, hs with
  | [c0, c1, c2, c3, c4, c5], _ =>
  obtain ⟨fuel, hf⟩ := hd
  cases fuel with
  | zero => simp [DataW.trod] at hf
  | succ n =>
    rw [DataW.trod_step] at hf
    unfold DataW.trodStep at hf
    simp only [Tryz.underlying55, Value.cells] at hf
    rw [if_pos (by rw [cells_out]; rfl)] at hf
    simp only [Option.map_eq_some_iff] at hf
    obtain ⟨xs, hx, e1⟩ := hf
    simp only [List.mapM_cons, List.mapM_nil, bind, Option.bind_eq_some_iff, pure, Option.some.injEq, cells_dstr, cells_dint, cells_hdrs] at hx
    obtain ⟨y0, h0, _, ⟨y1, h1, _, ⟨y2, h2, _, ⟨y3, h3, _, ⟨y4, h4, _, ⟨y5, h5, _, rfl, rfl⟩, rfl⟩, rfl⟩, rfl⟩, rfl⟩, rfl⟩ := hx
    obtain ⟨k0, e0, rfl, w0⟩ := DataW.trod_int Tryz.underlying3 h0
    obtain ⟨k1, e1', rfl, w1⟩ := DataW.trod_int Tryz.underlying3 h1
    obtain ⟨k2, e2, rfl, w2⟩ := DataW.trod_int Tryz.underlying3 h2
    obtain ⟨pv, l, hc, hr, hl⟩ := row_of_trod (El := fun (a : Tg.Hd.Hdr) cs => cs = [str a.1, str a.2]) (g := g) Tryz.underlying32 cells_hdr (by decide) hw0 (fun fuel cs y hy => hdr_of_trod W.heap.size hy) h3
    obtain ⟨s4, q4, _, _⟩ := DataW.trod_string Tryz.underlying9 h4
    obtain ⟨s5, q5, _, _⟩ := DataW.trod_string Tryz.underlying9 h5
    simp at e0 e1' e2 hc q4 q5
    subst e0; subst e1'; subst e2; subst hc; subst q4; subst q5
    exact ⟨⟨k0, k1, k2, l, s4.data.toList, s5.data.toList⟩, lift1 W.heap.size c3, lift_agg (by simp only [List.map_cons, List.map_nil, lift_int, lift_dstr]), hrow_of hr, hl, i64_of w0, i64_of w1, i64_of w2⟩
end Go.Proofs.YthgcgjpbhbikaaaGreatDoor.Sc

