/-
  Texts joined, part 6: RfEnd, Door, Rules.
-/
import Derived.Test.YtgnefbngkhjfcaaGreatDoorM5
import Derived.Test.YtgnefbngkhjfcaaGreatDoorM4
import Derived.Test.YtgnefbngkhjfcaaGreatDoorRows
import Derived.Test.YtgnefbngkhjfcaaGreatDoorM1
import Derived.ProofKit
import Derived.LaidMore
import Derived.LaidSub
import Derived.Lib.LaidTab
import Derived.Stop.Joined
import Derived.WideShapes
import Derived.RowKit
import Derived.ChangeArms
/-
  The laws LexerWhole and OrbparseOf: what they come to.
-/
set_option linter.unusedSimpArgs false
set_option linter.unusedVariables false
set_option maxRecDepth 100000
namespace Go.Proofs.YtgnefbngkhjfcaaGreatDoor.Lx
open Go.Lg Tg.Lx
section
variable {H : LH} {s : List UInt8} {D : Nat}
theorem refW_law {en : Bool} (hs : s.length ≤ 900000) : refW s D en = ((wholeP s D en).verdict, (wholeP s D en).reason, atP (wholeP s D en)) := by
  cases en
  · exact feed_law s D hs
  · exact fin_law s D hs
theorem flat_j4 {v a : Int} {r : List UInt8} : flatB (.agg ⟨[.int .i64 v, str r, .int .i64 a, .bool false]⟩) = true := flat_jv
theorem lwhole_l {b : UInt8} {en : Bool} (hd : ∀ l, H.n ≤ l → H.get l = none) (ht : Tab H) : LC Tryz.prog EJ 3 [str s, .int .u8 b.toNat, .bool en] H = some (.bool true, H) := by
  refine LC_pure rfl Tryz.func3 rfl (Nat.le_of_ble_eq_true rfl) (by decide) (by kernel_rfl) rfl ?_
  have hs := cut_l (H := H) (s := s) (k := 150) (by decide)
  have hlen : (s.take (150 : Int).toNat).length ≤ 150 := by simp; omega
  generalize s.take (150 : Int).toNat = s' at *
  have hb := b.toNat_lt
  obtain ⟨D, hD, hD2⟩ := clampN (b.toNat : Int)
  have h1 := whole_l (s := s') (en := en) hD hD2 hd ht (by omega)
  have h2 : ∀ B : LB, LC Tryz.prog EJ 8 [str s', .int .i64 (D : Int), .bool en] (H.new B).ro = some (jv (refW s' D en).1 (refW s' D en).2.1 (refW s' D en).2.2, (H.new B).ro) := fun B => ref29_l hD2 (fun l hl => by
    have hl' : H.n + 1 ≤ l := hl
    rw [get_ro, get_new_ne (by omega), hd l (by omega)]; rfl) (by omega)
  rw [refW_law (by omega)] at h2
  generalize (wholeP s' D en).verdict = v at *
  generalize (wholeP s' D en).reason = r at *
  generalize atP (wholeP s' D en) = a at *
  have e := jv_eq (v := v) (v' := v) (a := a) (a' := a) (r := r) (r' := r)
  have h7 := fun H' : LH => fun hd' ht' => lives29_l (H := H') hd' ht'
  unfold jv at h1 h2 e
  have w0 : IntKind.i64.wrap (b.toNat : Int) = (b.toNat : Int) := by rw [wrap64_in (by omega) (by omega)]
  have hcl : clamp (b.toNat : Int) = if 200 < (b.toNat : Int) then 200 else (b.toNat : Int) := by
    unfold clamp; repeat' split
    all_goals omega
  have h70 := fun (K : LH) (hd' : ∀ l, K.n ≤ l → K.get l = none) (ht' : Tab K) => lives29_l (H := K) hd' ht'
  have h7 : ∀ B : LB, LC Tryz.prog EJ 9 [] (H.new B).ro = some (.bool true, (H.new B).ro) := fun B => lives29_l (fun l hl => by
    have hl' : H.n + 1 ≤ l := hl
    rw [get_ro, get_new_ne (by omega), hd l (by omega)]; rfl) ⟨ht.1, ht.2⟩
  have hle : ∀ B : LB, H.le (H.new B) := fun B => le_refl.new
  by_cases c : 200 < (b.toNat : Int)
  · have f := eq_true c
    have eD : (D : Int) = 200 := by rw [hD, hcl, if_pos c]
    rw [eD] at h2
    simp (config := { maxSteps := 4000000, maxDischargeDepth := 9 }) [hs, h1, f, w0, splice, h2, e, h7, hle, flat_j4]
  · have f := eq_false c
    have eD : (D : Int) = (b.toNat : Int) := by rw [hD, hcl, if_neg c]
    rw [eD] at h2
    simp (config := { maxSteps := 4000000, maxDischargeDepth := 9 }) [hs, h1, f, w0, splice, h2, e, h7, hle, flat_j4]
theorem rlimit_l {l : Bool} {k d : Int} : LC Tryz.prog EJ 13 [rv l k d] H = some (.int .i64 (lim k), H) := by
  refine LC_pure rfl Tryz.func13 rfl (Nat.le_of_ble_eq_true rfl) (by decide) (by kernel_rfl) rfl ?_
  unfold lim
  by_cases c1 : k < 1445
  · have f1 := eq_true c1
    simp [rv, f1, le_refl.new]
  · have f1 := eq_false c1
    by_cases c2 : 1048576 < k
    · have f2 := eq_true c2
      simp [rv, f1, f2, le_refl.new]
    · have f2 := eq_false c2
      simp [rv, f1, f2, le_refl.new]
theorem Limit_l {l : Bool} {k d : Int} : LC Tryz.prog EJ 12 [rv l k d] H = some (.int .i64 (lim k), H) := by
  refine LC_pure rfl Tryz.func12 rfl (Nat.le_of_ble_eq_true rfl) (by decide) (by kernel_rfl) rfl ?_
  have h := fun K : LH => limit_l (H := K) (l := l) (k := k) (d := d)
  unfold rv at h
  simp [rv, h, le_refl.new]
theorem rdepth_l {l : Bool} {k d : Int} : LC Tryz.prog EJ 31 [rv l k d] H = some (.int .i64 (clamp d), H) := by
  refine LC_pure rfl Tryz.func31 rfl (Nat.le_of_ble_eq_true rfl) (by decide) (by kernel_rfl) rfl ?_
  unfold clamp
  by_cases c1 : d < 0
  · have f1 := eq_true c1
    simp [rv, f1, le_refl.new]
  · have f1 := eq_false c1
    by_cases c2 : 200 < d
    · have f2 := eq_true c2
      simp [rv, f1, f2, le_refl.new]
    · have f2 := eq_false c2
      simp [rv, f1, f2, le_refl.new]
theorem rAt_l {n : Int} : LC Tryz.prog EJ 32 [.int .i64 n] H = some (.int .i64 (snAt n), H) := by
  refine LC_pure rfl Tryz.func32 rfl (Nat.le_of_ble_eq_true rfl) (by decide) (by kernel_rfl) rfl ?_
  unfold snAt
  by_cases c1 : n < 0
  · have f1 := eq_true c1
    simp [f1]
  · have f1 := eq_false c1
    by_cases c2 : 1445 < n
    · have f2 := eq_true c2
      simp [f1, f2]
    · have f2 := eq_false c2
      simp [f1, f2]
theorem rof_l {l : Bool} {k d : Int} {en : Bool} (hD : (D : Int) = clamp d) (h2 : D ≤ 200) (hd : ∀ l, H.n ≤ l → H.get l = none) (hs : s.length ≤ 1000) :
    LC Tryz.prog EJ 11 [str s, rv l k d, .bool en] H = some ((ofP s k D en).val, H) := by
  refine LC_pure rfl Tryz.func11 rfl (Nat.le_of_ble_eq_true rfl) (by decide) (by kernel_rfl) flat_jval ?_
  obtain ⟨hk1, hk2⟩ := lim_in k
  have hlt : (s.length : Int) < lim k := by omega
  unfold ofP
  dsimp only
  have ht : s.take (if lim k < s.length then lim k else s.length).toNat = s := by rw [if_neg (by omega)]; simp
  have hen : (en && decide ((s.length : Int) < lim k)) = en := by rw [decide_eq_true hlt]; simp
  rw [ht, hen, if_neg (show ¬ lim k ≤ (s.length : Int) by omega)]
  have hl := fun K : LH => rlimit_l (H := K) (l := l) (k := k) (d := d)
  have hdp := fun K : LH => rdepth_l (H := K) (l := l) (k := k) (d := d)
  have ha := fun K : LH => rAt_l (H := K) (n := s.length)
  have hr : ∀ B B' : LB, LC Tryz.prog EJ 8 [str s, .int .i64 (D : Int), .bool en] ((H.new B).new B') = some (jv (refW s D en).1 (refW s D en).2.1 (refW s D en).2.2, ((H.new B).new B')) := fun B B' => ref29_l h2 (fun l hl => by
    have hl' : H.n + 1 + 1 ≤ l := hl
    rw [get_new_ne (by show l ≠ H.n + 1; omega), get_new_ne (by omega), hd l (by omega)]) (by omega)
  rw [refW_law (by omega)] at hr
  rw [← hD] at hdp
  generalize (wholeP s D en).verdict = v at *
  generalize (wholeP s D en).reason = r at *
  generalize atP (wholeP s D en) = a at *
  generalize lim k = K at *
  generalize snAt s.length = q at *
  have f0 : (K ≤ (s.length : Int)) = False := eq_false (by omega)
  unfold rv at hl hdp
  unfold jv at hr
  have hjb : (⟨[.int .i64 0, str [], .int .i64 0, .bool false], 24, true⟩ : LB) = jb 0 [] 0 := rfl
  by_cases c1 : v = 0
  · have f1 := eq_true c1
    rw [if_neg (Decidable.not_not.2 c1)]
    simp (config := { maxSteps := 4000000, maxDischargeDepth := 9 }) [rv, hl, f0, hdp, hr, f1, ha, splice, J.val, jv, le_refl.new, LH.le.set, LH.le.new]
  · have f1 := eq_false c1
    rw [if_pos c1]
    by_cases c2 : a < q
    · have f2 := eq_true c2
      rw [if_pos c2]
      simp (config := { maxSteps := 4000000, maxDischargeDepth := 9 }) [rv, hl, f0, hdp, hr, f1, f2, ha, splice, J.val, jv, le_refl.new, LH.le.set, LH.le.new]
    · have f2 := eq_false c2
      rw [if_neg c2]
      simp (config := { maxSteps := 4000000, maxDischargeDepth := 9 }) [rv, hl, f0, hdp, hr, f1, f2, ha, splice, J.val, jv, le_refl.new, LH.le.set, LH.le.new]
theorem oof_l {l : Bool} {k d : Int} {en : Bool} (hd : ∀ l, H.n ≤ l → H.get l = none) (ht : Tab H) : LC Tryz.prog EJ 4 [str s, rv l k d, .bool en] H = some (.bool true, H) := by
  refine LC_pure rfl Tryz.func4 rfl (Nat.le_of_ble_eq_true rfl) (by decide) (by kernel_rfl) rfl ?_
  have hs := fun K : LH => cut_l (H := K) (s := s) (k := 120) (by decide)
  have hlen : (s.take (120 : Int).toNat).length ≤ 120 := by simp; omega
  generalize s.take (120 : Int).toNat = s' at *
  obtain ⟨D, hD, hD2⟩ := clampN d
  have hdr : ∀ B : LB, ∀ l, (H.new B).ro.n ≤ l → (H.new B).ro.get l = none := fun B l hl => by
    have hl' : H.n + 1 ≤ l := hl
    rw [get_ro, get_new_ne (by omega), hd l (by omega)]; rfl
  have h1 : ∀ B : LB, _ := fun B => of_l (H := (H.new B).ro) (s := s') (l := l) (k := k) (d := d) (en := en) hD hD2 (hdr B) ⟨ht.1, ht.2⟩ (by omega)
  have h2 : ∀ B : LB, _ := fun B => rof_l (H := (H.new B).ro) (s := s') (l := l) (k := k) (d := d) (en := en) hD hD2 (hdr B) (by omega)
  have h3 : ∀ B : LB, _ := fun B => Limit_l (H := (H.new B).ro) (l := l) (k := k) (d := d)
  have h4 : ∀ B : LB, _ := fun B => rlimit_l (H := (H.new B).ro) (l := l) (k := k) (d := d)
  have h5 : ∀ B : LB, _ := fun B => lives32_l (H := (H.new B).ro) (hdr B) ⟨ht.1, ht.2⟩
  generalize ofP s' k D en = x at *
  have e := jv_eq (v := x.v) (v' := x.v) (a := x.a) (a' := x.a) (r := x.r) (r' := x.r)
  unfold rv at h1 h2 h3 h4
  unfold J.val jv at h1 h2
  unfold jv at e
  simp (config := { maxSteps := 4000000, maxDischargeDepth := 9 }) [rv, hs, h1, h2, h3, h4, h5, e, le_refl.new, flat_j4]
end
end Go.Proofs.YtgnefbngkhjfcaaGreatDoor.Lx
/-
  What the listed package variables give: the table of blanks lies in its variable.
-/
set_option linter.unusedSimpArgs false
set_option linter.unusedVariables false
set_option maxRecDepth 100000
namespace Go.Proofs.YtgnefbngkhjfcaaGreatDoor
open Go.ChangeShapes Go.WideShapes Go.ChangeAt Go.RowKit Go.Tg Go.Lg

noncomputable def laid2 : List (String × DataW Unit) := [("unicode.White_Space", Rows.laid_unicode_White_Space), ("strings.asciiSpace", Rows.laid_strings_asciiSpace)]
theorem ownKnob0 : ownKnob Tryz.prog.godebug = none := by kernel_rfl
theorem gTab : Tryz.prog.globalNamed "strings.asciiSpace" = some 1 := by kernel_rfl
theorem tab_of_laid {W : World} (h : laidMetH Tryz.prog laid2 W) : Lib.TabIs Tryz.prog W "strings.asciiSpace" .u8 Lib.asciiSpaceTab := by
  have h1 : laidMet Tryz.prog laid2 W := by rwa [MakeChecks.laidMetH_plain _ _ _ (by kernel_rfl)] at h
  have h2 := h1.filter (fun x => x.1 == "strings.asciiSpace")
  have e : laid2.filter (fun x => x.1 == "strings.asciiSpace") = [("strings.asciiSpace", Lib.tabData .u8 Lib.asciiSpaceTab)] := by kernel_rfl
  rw [e] at h2
  exact Lib.tabIs_of_head (g := 1) (t := 91) (e := 5) (n := 256) gTab (by kernel_rfl) (by kernel_rfl) (by kernel_rfl) (by kernel_rfl) (by kernel_rfl) h2
abbrev ngT : Nat := 1 + 1
theorem size_of_laid {W : World} (h : laidMetH Tryz.prog laid2 W) : ngT ≤ W.heap.size := by
  have h1 := tab_of_laid h
  have := h1.cell gTab 0 (by decide)
  rcases Nat.lt_or_ge 1 W.heap.size with h2 | h2
  · exact h2
  · simp [World.cell?, Array.getElem?_eq_none h2] at this
theorem tab_empty {W : World} (h : laidMetH Tryz.prog laid2 W) : Tab (LH.empty W ngT) := ⟨Nat.lt_succ_self _, tab_of_laid h⟩
theorem door_met (os : Os) (args : Array Value) : laidMetH Tryz.prog laid2 ((World.doorLaid Tryz.prog 4000 os).forCall (fun _ _ => 0) ⟨#[], args, []⟩).memory :=
  laidMetH_of_parts3 (fuel := 12) (laidMet_of_run' 12 (by kernel_rfl) (by kernel_rfl)) (by kernel_rfl) (by kernel_rfl)
theorem door_shaped (os : Os) (args : Array Value) : True := trivial
end Go.Proofs.YtgnefbngkhjfcaaGreatDoor
/-
  An argument of the type api.Rules: a flag and two numbers.
-/
set_option linter.unusedSimpArgs false
set_option linter.unusedVariables false
set_option maxRecDepth 100000
namespace Go.Proofs.YtgnefbngkhjfcaaGreatDoor
open Go.ChangeShapes Go.WideShapes Go.ChangeAt Go.RowKit Go.WideShapes
theorem cells_rules : Tryz.prog.cellsOf 29 = 3 := by kernel_rfl
theorem cells_rbool : Tryz.prog.cellsOf 4 = 1 := by kernel_rfl
theorem cells_rint : Tryz.prog.cellsOf 3 = 1 := by kernel_rfl
theorem open_rules {H : Type} {enc : TypeId × Value → H} {W : World} {base b0 : Nat} {sp : Nat → Bool} {held : Bool} {r : Reach} {v : Value} {d : DataW H} {ps : List MemPlace}
    (hval : Value.okWide Tryz.prog W r b0 29 v) (hd : DataW.Trod enc Tryz.prog W base sp held 29 v d ps) :
    ∃ (l : Bool) (k n : Int), v = .agg #[.bool l, .int .i64 k, .int .i64 n] ∧ (Lit.int .i64 k).wf = true ∧ (Lit.int .i64 n).wf = true := by
  obtain ⟨cs, rfl, hs⟩ := okWide_struct Tryz.underlying29 hval
  rw [cells_rules] at hs
  obtain ⟨l⟩ := cs
  match l, hs with
  | [c0, c1, c2], _ =>
  obtain ⟨fuel, hf⟩ := hd
  cases fuel with
  | zero => simp [DataW.trod] at hf
  | succ n =>
    rw [DataW.trod_step] at hf
    unfold DataW.trodStep at hf
    simp only [Tryz.underlying29, Value.cells] at hf
    rw [if_pos (by rw [cells_rules]; rfl)] at hf
    simp only [Option.map_eq_some_iff] at hf
    obtain ⟨xs, hx, e1⟩ := hf
    simp only [List.mapM_cons, List.mapM_nil, bind, Option.bind_eq_some_iff, pure, Option.some.injEq, cells_rbool, cells_rint] at hx
    obtain ⟨y0, h0, _, ⟨y1, h1, _, ⟨y2, h2, _, rfl, rfl⟩, rfl⟩, rfl⟩ := hx
    obtain ⟨l, el, rfl⟩ := DataW.trod_bool Tryz.underlying4 h0
    obtain ⟨k, ek, rfl, wk⟩ := DataW.trod_int Tryz.underlying3 h1
    obtain ⟨j, ej, rfl, wj⟩ := DataW.trod_int Tryz.underlying3 h2
    simp at el ek ej
    subst el; subst ek; subst ej
    exact ⟨l, k, j, rfl, wk, wj⟩
end Go.Proofs.YtgnefbngkhjfcaaGreatDoor
