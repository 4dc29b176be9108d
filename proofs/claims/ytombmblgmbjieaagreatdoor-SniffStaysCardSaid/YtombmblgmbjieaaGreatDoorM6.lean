/-
  Texts joined, part 6: StBase, StBld, StRows, StLib, StEnv, LgEq, UnRows, UnEnv, LgCut, UnMask, UnFind, UnTag, UnCur, UnBin, UnMp4, UnRefA, UnRefB, UnBs, UnTxt, UnTab, UnRefC, UnRefD, UnRefE.
-/
import Derived.Test.YtombmblgmbjieaaGreatDoorM5
import Derived.Test.YtombmblgmbjieaaGreatDoorM1
import Derived.Test.YtombmblgmbjieaaGreatDoorM3
import Derived.Test.YtombmblgmbjieaaGreatDoorM4
import Derived.MapKept
/-
  Library functions by their contracts: what all need.
-/
set_option linter.unusedSimpArgs false
set_option linter.unusedVariables false
namespace Go.Lg
open Go.Tg Go.RowKit
/-- of flat arguments, a flat value -/
def flatSpec (g : List Value → Option Value) : Lg.Spec := fun args H => (g args).map fun v => (v, H)
theorem specOk_flat {P : Program} {f : FuncId} {g : List Value → Option Value} (he : Entered P f)
    (h : ∀ args v, g args = some v → (∀ x ∈ args, flatB x = true) ∧ flatB v = true ∧ ∀ w, Calls P f args.toArray w fun e w' => e = .returned v ∧ Change (fun _ => False) w w') : SpecOk P f (flatSpec g) := by
  intro args H v H' hs
  unfold flatSpec at hs
  obtain ⟨u, hu, e⟩ := Option.map_eq_some_iff.1 hs
  simp only [Prod.mk.injEq] at e
  obtain ⟨rfl, rfl⟩ := e
  obtain ⟨h1, h2, h3⟩ := h args u hu
  exact .inl ⟨he, callOk_flatC h1 h2 h3⟩
theorem specOk_ext {P : Program} {f : FuncId} {g : List Value → Option Value}
    (h : ∀ args v, g args = some v → (∀ x ∈ args, flatB x = true) ∧ flatB v = true ∧ ∀ w, (callFunc f args.toArray).run P w = .ok (.value v) w) : SpecOk P f (flatSpec g) := by
  intro args H v H' hs
  unfold flatSpec at hs
  obtain ⟨u, hu, e⟩ := Option.map_eq_some_iff.1 hs
  simp only [Prod.mk.injEq] at e
  obtain ⟨rfl, rfl⟩ := e
  exact .inr ⟨rfl, h args u hu⟩
theorem change_of_below {w w' : World} (h : Below w.heap.size w w') : Change (fun _ => False) w w' := ⟨h.os, h.tape, h.output, h.size, fun k hk _ => h.block k hk⟩
theorem same_mono {P : Program} {f : FuncId} {args : Array Value} {w : World} {v : Value} (h : Calls P f args w fun e w' => e = .returned v ∧ w' = w) : Calls P f args w fun e w' => e = .returned v ∧ Change (fun _ => False) w w' :=
  h.mono fun e w' ⟨h1, h2⟩ => ⟨h1, by rw [h2]; exact Change.refl _ _⟩
theorem below_mono {P : Program} {f : FuncId} {args : Array Value} {w : World} {v : Value} (h : Calls P f args w fun e w' => e = .returned v ∧ Below w.heap.size w w') : Calls P f args w fun e w' => e = .returned v ∧ Change (fun _ => False) w w' :=
  h.mono fun e w' ⟨h1, h2⟩ => ⟨h1, change_of_below h2⟩
theorem flat2 {x y : Value} (hx : flatB x = true) (hy : flatB y = true) : ∀ z ∈ [x, y], flatB z = true := by
  intro z hz
  rcases List.mem_cons.1 hz with rfl | hz
  · exact hx
  · rcases List.mem_cons.1 hz with rfl | hz
    · exact hy
    · cases hz
theorem flat1 {x : Value} (hx : flatB x = true) : ∀ z ∈ [x], flatB z = true := by
  intro z hz
  rcases List.mem_cons.1 hz with rfl | hz
  · exact hx
  · cases hz
theorem LC_flat {P : Program} {E : Ext} {f : FuncId} {g : List Value → Option Value} {args : List Value} {v : Value} {H : LH} (he : E f = some (flatSpec g)) (hg : g args = some v) : LC P E f args H = some (v, H) := LC_ext he (by simp [flatSpec, hg])
def asc (s : ByteArray) : Prop := ∀ (j : Nat) b, s.data.toList[j]? = some b → b.toNat < 128
def ascL (s : List UInt8) : Prop := ∀ b ∈ s, b.toNat < 128
theorem asc_of {s : List UInt8} (h : ascL s) : asc ⟨s.toArray⟩ := fun j b hb => h b (List.mem_of_getElem? (by simpa using hb))
end Go.Lg
namespace Go.Proofs.YtombmblgmbjieaaGreatDoor
open Go.Lg Go.Tg
def gIndexByte : List Value → Option Value
  | [.string s, .int .u8 c] => some (.int .i64 (Lib.indexByte s.data.toList c.toNat.toUInt8))
  | _ => none
theorem ok_IndexByte : SpecOk Tryz.prog 235 (flatSpec gIndexByte) := specOk_flat ⟨_, Tryz.func235, rfl, by decide⟩ fun args v h => by
  unfold gIndexByte at h
  split at h
  · injection h with h; subst h
    exact ⟨flat2 rfl rfl, rfl, fun w => same_mono (Tryz.strings_IndexByte _ _ w)⟩
  · cases h
end Go.Proofs.YtombmblgmbjieaaGreatDoor
/-
  strings.Builder, strings.Join over the logical run.
-/
set_option linter.unusedSimpArgs false
set_option linter.unusedVariables false
set_option maxRecDepth 100000
namespace Go.Lg
open Go.Tg Go.RowKit
section
variable {P : Program} {H H' : LH} {ι : Ren} {w w' : World}
theorem Rel.cell0 (h : Rel P H ι w) {l i : Nat} {b : LB} {v : Value} (hb : H.get l = some b) (hv : b.cells[i]? = some v) : ∃ v', w.cell? ⟨(ι l).blk, (ι l).off + i, none⟩ = some v' ∧ VR H.D ι v v' := by
  obtain ⟨arr, t, f, hw, _, h1, _⟩ := h.blk l b hb
  obtain ⟨v', h2, h3⟩ := h1 i v hv
  exact ⟨v', by simp [World.cell?, hw, h2], h3⟩
theorem Rel.row (h : Rel P H ι w) {l : Nat} {b : LB} (hb : H.get l = some b) (hrw : b.rw = true) : (ι l).off = 0 := by
  obtain ⟨arr, t, f, hw, _, _, h1⟩ := h.blk l b hb
  exact (h1 hrw).1
theorem vr_row {D : Nat → Prop} {g o n c : Nat} {v' : Value} (h : VR D ι (.slice (some ⟨g, o, none⟩) n c) v') (h0 : n ≠ 0) : v' = .slice (some ⟨(ι g).blk, (ι g).off + o, none⟩) n (c + (ι g).slack) := by
  cases h with
  | flat _ hv => simp [flatB, flat1B, atomB] at hv
  | slice _ _ _ _ _ _ => rfl
  | slice0 _ _ _ _ => exact absurd rfl h0
/-- a block turns, that nobody asks any more -/
theorem out_kill (h : Rel P H ι w) {l : Nat} {b : LB} (hb : H.get l = some b) (hrw : b.rw = true) (hc : Change (fun k => k = (ι l).blk) w w') : Out P H ι w (H.kill l) ι w' := by
  have hRW : RW H ι (ι l).blk := ⟨l, b, hb, hrw, rfl⟩
  refine ⟨rel_off (rel_kill h l) hc ?_, Nat.le_refl _, fun _ h => h, fun _ _ => rfl, hc.mono (fun k _ e => by rw [e]; exact hRW), ?_, ?_, rfl⟩
  · rintro k rfl
    refine ⟨?_, fun hk => (h.pin _ hk).2.2 hRW⟩
    rintro ⟨l', b', hb', e⟩
    have hb2 : (H.kill l).get l' = some b' := hb'
    have hne : l' ≠ l := by rintro rfl; simp at hb2
    rw [get_kill_ne hne] at hb2
    exact h.sep l l' b b' hb hb2 hrw (Ne.symm hne) e.symm
  · rintro k ⟨l', b', hb', hr, e⟩
    have hb2 : (H.kill l).get l' = some b' := hb'
    have hne : l' ≠ l := by rintro rfl; simp at hb2
    rw [get_kill_ne hne] at hb2
    exact .inl ⟨l', b', hb2, hr, e⟩
  · rintro k ⟨l', b', hb', e⟩
    have hb2 : (H.kill l).get l' = some b' := hb'
    have hne : l' ≠ l := by rintro rfl; simp at hb2
    rw [get_kill_ne hne] at hb2
    exact .inl ⟨l', b', hb2, e⟩
end
end Go.Lg
namespace Go.Proofs.YtombmblgmbjieaaGreatDoor
open Go.Lg Go.Tg
/-- what stands for one pointer -/
theorem one_ptr {P : Program} {H : LH} {ι : Ren} {b : Nat} {args' : Array Value} (hl : [Value.pointer (some ⟨b, 0, none⟩)].length = args'.size) (h : ∀ (i : Nat) (x y : Value), [Value.pointer (some ⟨b, 0, none⟩)][i]? = some x → args'[i]? = some y → VR H.D ι x y) : args' = #[.pointer (some ⟨(ι b).blk, (ι b).off, none⟩)] := by
  have h1 : args'.size = 1 := hl.symm
  have hv := h 0 _ _ rfl (Array.getElem?_eq_getElem (by omega))
  obtain ⟨_, e⟩ := vr_ptr hv
  apply Array.ext
  · simp [h1]
  · intro i h2 h3
    obtain rfl : i = 0 := by omega
    rw [e]; simp
theorem size1 {args' : Array Value} {x : Value} (hl : [x].length = args'.size) : ∃ y, args' = #[y] := by
  have h1 : args'.size = 1 := hl.symm
  exact ⟨args'[0], by apply Array.ext; simp [h1]; intro i h2 h3; obtain rfl : i = 0 := by omega
                      simp⟩
def specCopy : Lg.Spec := fun args H => match args with
  | [.pointer (some ⟨b, 0, none⟩)] => match H.get b with
    | some ⟨[.pointer none, v], e, true⟩ => if e = 144 then some (.tuple #[], H.set b ⟨[ptr b 0, v], e, true⟩) else none
    | some ⟨[.pointer (some ⟨b', 0, none⟩), v], e, true⟩ => if b' = b then some (.tuple #[], H) else none
    | _ => none
  | _ => none
theorem ok_Copy : SpecOk Tryz.prog 238 specCopy := by
  intro args H v H' hs
  refine .inl ⟨⟨_, Tryz.func238, rfl, by decide⟩, ?_⟩
  unfold specCopy at hs
  split at hs
  · rename_i b
    split at hs
    · rename_i x e hg
      split at hs
      · rename_i he
        subst he
        simp only [Option.some.injEq, Prod.mk.injEq] at hs
        obtain ⟨rfl, rfl⟩ := hs
        intro ι w args' hrel hl ha
        obtain rfl := one_ptr (P := Tryz.prog) hl ha
        have hoff := hrel.row hg rfl
        rw [hoff]
        obtain ⟨arr, t, f, hw, hsz, hcells, hrw⟩ := hrel.blk b _ hg
        obtain ⟨_, hel, s, hs1, hs2, hs3⟩ := hrw rfl
        obtain ⟨rfl, rfl⟩ := ElOk.plain hel (show sz Tryz.prog 144 = some 2 by kernel_rfl)
        have hs1' : s = 2 := Option.some.inj (hs1.symm.trans (show sz Tryz.prog 144 = some 2 by kernel_rfl))
        subst hs1'
        have hc0 : w.cell? ⟨(ι b).blk, 0, none⟩ = some (.pointer none) := by
          obtain ⟨v', h1, h2⟩ := hrel.cell0 (i := 0) hg rfl
          rw [hoff] at h1
          rw [h1, flat_eq h2 rfl]
        refine (bld_fresh (ι b).blk (ι b).slack w hc0 (by simp [World.shape?, hw, hs2]) (by simp [World.frozen?, hw])).mono ?_
        rintro e w' ⟨rfl, rfl⟩
        refine ⟨ι, _, rfl, ?_, .flat _ rfl⟩
        refine rel_set hrel (b := ⟨[.pointer none, x], 144, true⟩) (b' := ⟨[ptr b 0, x], 144, true⟩) hg rfl rfl rfl rfl hw (arr' := arr.setIfInBounds 0 (.pointer (some ⟨(ι b).blk, 0, none⟩))) (by simp) ?_ ?_ ?_
        · intro i y hy
          cases i with
          | zero =>
            simp only [List.getElem?_cons_zero, Option.some.injEq] at hy
            subst hy
            refine ⟨.pointer (some ⟨(ι b).blk, 0, none⟩), ?_, ?_⟩
            · rw [Array.getElem?_setIfInBounds_self_of_lt (by rw [hs2]; simp; omega)]
            · have := VR.ptr (n := H.D) (ι := ι) b 0 (hrel.live hg)
              rw [hoff] at this; exact this
          | succ i =>
            obtain ⟨y', h1, h2⟩ := hcells (i + 1) y hy
            rw [hoff, Nat.zero_add] at h1
            exact ⟨y', by rw [Array.getElem?_setIfInBounds_ne (by omega)]; exact h1, h2⟩
        · simp [World.setCell, Array.getElem?_modify, hw]
        · refine ⟨rfl, rfl, rfl, by simp [World.setCell], fun k hk hn => ?_⟩
          simp only [World.setCell, Array.getElem?_modify]
          rw [if_neg (fun e => hn e.symm)]
      · cases hs
    · rename_i b' x e hg
      split at hs
      · rename_i he
        subst he
        simp only [Option.some.injEq, Prod.mk.injEq] at hs
        obtain ⟨rfl, rfl⟩ := hs
        intro ι w args' hrel hl ha
        obtain rfl := one_ptr (P := Tryz.prog) hl ha
        have hoff := hrel.row hg rfl
        have hc0 : w.cell? ⟨(ι b').blk, 0, none⟩ = some (.pointer (some ⟨(ι b').blk, 0, none⟩)) := by
          obtain ⟨v', h1, h2⟩ := hrel.cell0 (i := 0) hg rfl
          rw [hoff] at h1
          rw [h1, (vr_ptr h2).2, hoff]
        rw [hoff]
        refine (bld_used (ι b').blk w hc0).mono ?_
        rintro e w' ⟨rfl, rfl⟩
        exact ⟨ι, _, rfl, Out.refl hrel, .flat _ rfl⟩
      · cases hs
    · cases hs
  · cases hs
open Classical in
noncomputable def specBStr : Lg.Spec := fun args H => match args with
  | [.pointer (some ⟨b, 0, none⟩)] => match H.get b with
    | some ⟨[_, .slice none 0 0], _, true⟩ => some (str [], H)
    | some ⟨[_, .slice (some ⟨g, 0, none⟩) n c], _, true⟩ => match H.get g with
      | some ⟨cs, e, true⟩ => if ∃ l : List UInt8, l ≠ [] ∧ cs.take n = l.map bv ∧ l.length = n ∧ n ≤ c ∧ n ≤ maxLen ∧ e = 5 then (lbs (cs.take n)).map fun l => (str l, H.kill g) else none
      | _ => none
    | _ => none
  | _ => none
theorem ok_BStr : SpecOk Tryz.prog 201 specBStr := by
  intro args H v H' hs
  refine .inl ⟨⟨_, Tryz.func201, rfl, by decide⟩, ?_⟩
  unfold specBStr at hs
  split at hs
  · rename_i b
    split at hs
    · rename_i p e hg
      simp only [Option.some.injEq, Prod.mk.injEq] at hs
      obtain ⟨rfl, rfl⟩ := hs
      intro ι w args' hrel hl ha
      obtain rfl := one_ptr (P := Tryz.prog) hl ha
      have hoff := hrel.row hg rfl
      have hc1 : w.cell? ⟨(ι b).blk, 1, none⟩ = some (.slice none 0 0) := by
        obtain ⟨v', h1, h2⟩ := hrel.cell0 (i := 1) hg rfl
        rw [hoff] at h1
        rw [h1, flat_eq h2 rfl]
      rw [hoff]
      refine (bld_string_nil (ι b).blk w hc1).mono ?_
      rintro e w' ⟨rfl, hc⟩
      exact ⟨ι, _, rfl, out_change hrel hc, .flat _ rfl⟩
    · rename_i p g n c e hg
      split at hs
      · rename_i cs e2 hgg
        split at hs
        · rename_i hex
          obtain ⟨l, h0, htk, hln, hnc, hnm, rfl⟩ := hex
          rw [htk, lbs_map] at hs
          simp only [Option.map_some, Option.some.injEq, Prod.mk.injEq] at hs
          obtain ⟨rfl, rfl⟩ := hs
          intro ι w args' hrel hl ha
          obtain rfl := one_ptr (P := Tryz.prog) hl ha
          have hoff := hrel.row hg rfl
          have hoffg := hrel.row hgg rfl
          subst hln
          have hne : l.length ≠ 0 := by simpa using h0
          have hc1 : w.cell? ⟨(ι b).blk, 1, none⟩ = some (.slice (some ⟨(ι g).blk, 0, none⟩) l.length (c + (ι g).slack)) := by
            obtain ⟨v', h1, h2⟩ := hrel.cell0 (i := 1) hg rfl
            rw [hoff] at h1
            rw [h1]
            rw [vr_row h2 hne, hoffg]
          obtain ⟨arr, t, f, hw, hsz, hcells, hrw⟩ := hrel.blk g _ hgg
          obtain ⟨_, hel, s, hs1, hs2, hs3⟩ := hrw rfl
          obtain ⟨rfl, rfl⟩ := ElOk.plain hel (show sz Tryz.prog 5 = some 1 by kernel_rfl)
          have hlen : l.length ≤ cs.length := by
            have := congrArg List.length htk
            simp at this; omega
          rw [hoff]
          refine (bld_string (ι b).blk (ι g).blk (c + (ι g).slack) l arr w h0 hc1 hw (by omega) (by rw [hs2]; simp; omega) hnm (fun j x hx => ?_)).mono ?_
          · have hj : j < l.length := (List.getElem?_eq_some_iff.1 hx).1
            have h1 : cs[j]? = some (bv x) := by
              have : (cs.take l.length)[j]? = some (bv x) := by rw [htk, List.getElem?_map, hx]; rfl
              rwa [List.getElem?_take, if_pos hj] at this
            obtain ⟨y, h2, h3⟩ := hcells j _ h1
            rw [hoffg, Nat.zero_add] at h2
            rw [h2, flat_eq h3 rfl]; rfl
          · rintro e w' ⟨rfl, hc⟩
            exact ⟨ι, _, rfl, out_kill hrel hgg rfl hc, .flat _ rfl⟩
        · cases hs
      · cases hs
    · cases hs
  · cases hs
end Go.Proofs.YtombmblgmbjieaaGreatDoor
/-
  strings.Join, strings.Split, strings.Contains, strconv.Itoa over the logical run.
-/
set_option linter.unusedSimpArgs false
set_option linter.unusedVariables false
set_option maxRecDepth 100000
namespace Go.Proofs.YtombmblgmbjieaaGreatDoor
open Go.Lg Go.Tg
/-- the machine's number that the search in strings reads lies in its variable -/
def MaxL (H : LH) : Prop := 1 < H.ng ∧ ∃ m, H.base.cell? ⟨1, 0, none⟩ = some (.int .i64 m)
theorem max_at {P : Program} {H : LH} {ι : Ren} {w : World} (hrel : Rel P H ι w) (h : MaxL H) : ∃ m, w.cell? ⟨1, 0, none⟩ = some (.int .i64 m) := by
  obtain ⟨h1, m, h2⟩ := h
  refine ⟨m, ?_⟩
  unfold World.cell? at h2 ⊢
  rw [pin_block hrel h1]
  exact h2
theorem one_str {P : Program} {H : LH} {ι : Ren} {args' : Array Value} {vs : List Value} (hf : ∀ x ∈ vs, flatB x = true) (hl : vs.length = args'.size) (h : ∀ (i : Nat) (x y : Value), vs[i]? = some x → args'[i]? = some y → VR H.D ι x y) : args' = vs.toArray := by
  apply Array.ext
  · simp [hl]
  · intro i h3 h4
    have hx : vs[i]? = some (vs[i]'(by simpa using h4)) := List.getElem?_eq_getElem _
    have := flat_eq (h i _ _ hx (Array.getElem?_eq_getElem h3)) (hf _ (List.getElem_mem _))
    rw [this]; simp
open Classical in
noncomputable def specSplit : Lg.Spec := fun args H => match args with
  | [.string s, .string sep] => if s.size < 4294967281 ∧ 1 ≤ sep.size ∧ MaxL H ∧ Lib.countB s sep + 1 ≤ maxLen ∧ (Lib.splitB sep 0 (Lib.countB s sep) s).length = Lib.countB s sep + 1 then
      some (sl H.n (Lib.countB s sep + 1) (Lib.countB s sep + 1), H.new ⟨(Lib.splitB sep 0 (Lib.countB s sep) s).map Value.string, 9, true⟩)
    else none
  | _ => none
theorem ok_Split : SpecOk Tryz.prog 91 specSplit := by
  intro args H v H' h
  refine .inl ⟨⟨_, Tryz.func91, rfl, by decide⟩, ?_⟩
  unfold specSplit at h
  split at h
  · rename_i s sep
    split at h
    · rename_i hc
      obtain ⟨h1, h2, h3, h4, h5⟩ := hc
      simp only [Option.some.injEq, Prod.mk.injEq] at h
      obtain ⟨rfl, rfl⟩ := h
      exact callOk_row (flat2 rfl rfl) (fun x hx => by
          obtain ⟨l, _, rfl⟩ := List.mem_map.1 hx
          rfl) (by kernel_rfl) (by simpa using h5) h4 (fun ι w hrel => by
            obtain ⟨m, hm⟩ := max_at hrel h3
            exact Tryz.strings_Split s sep m w h1 hm h2)
    · cases h
  · cases h
open Classical in
noncomputable def specJoin : Lg.Spec := fun args H => match args with
  | [.slice none 0 0, .string sep] => some (str [], H)
  | [.slice (some ⟨l, o, none⟩) n c, .string sep] => if h : ∃ (b : LB) (xs : List (List UInt8)), H.get l = some b ∧ n ≠ 0 ∧ n ≤ c ∧ n ≤ 140737488355328 ∧ xs.length = n ∧ (b.cells.drop o).take n = xs.map str ∧ (Lib.join xs sep.data.toList).length ≤ 140737488355328 then
      some (str (Lib.join (Classical.choose (Classical.choose_spec h)) sep.data.toList), H) else none
  | _ => none
theorem str_inj {a b : List UInt8} (h : str a = str b) : a = b := by
  unfold str at h
  injection h with h
  injection h with h
  injection h
theorem map_str_inj : ∀ {xs ys : List (List UInt8)}, xs.map str = ys.map str → xs = ys
  | [], [], _ => rfl
  | [], y :: ys, h => by simp at h
  | x :: xs, [], h => by simp at h
  | x :: xs, y :: ys, h => by
    simp only [List.map_cons, List.cons.injEq] at h
    rw [str_inj h.1, map_str_inj h.2]
theorem ok_Join : SpecOk Tryz.prog 322 specJoin := by
  intro args H v H' hs
  refine .inl ⟨⟨_, Tryz.func322, rfl, by decide⟩, ?_⟩
  unfold specJoin at hs
  split at hs
  · rename_i sep
    simp only [Option.some.injEq, Prod.mk.injEq] at hs
    obtain ⟨rfl, rfl⟩ := hs
    intro ι w args' hrel hl ha
    obtain rfl := one_str (P := Tryz.prog) (flat2 (by simp) (by simp)) hl ha
    refine (Tryz.strings_Join_none none 0 sep w).mono ?_
    rintro e w' ⟨rfl, rfl⟩
    exact ⟨ι, _, rfl, Out.refl hrel, .flat _ rfl⟩
  · rename_i l o n c sep
    split at hs
    · rename_i hex
      have hspec := Classical.choose_spec (Classical.choose_spec hex)
      obtain ⟨hb, h0, hnc, hn, hxl, hcells, hlen⟩ := hspec
      generalize Classical.choose (Classical.choose_spec hex) = xs at *
      generalize Classical.choose hex = b at *
      simp only [Option.some.injEq, Prod.mk.injEq] at hs
      obtain ⟨rfl, rfl⟩ := hs
      intro ι w args' hrel hl ha
      have h2 : args'.size = 2 := hl.symm
      have v0 := ha 0 _ _ rfl (Array.getElem?_eq_getElem (show 0 < args'.size by omega))
      have v1 := ha 1 _ _ rfl (Array.getElem?_eq_getElem (show 1 < args'.size by omega))
      have e0 := vr_row v0 h0
      have e1 := flat_eq v1 rfl
      obtain rfl : args' = #[.slice (some ⟨(ι l).blk, (ι l).off + o, none⟩) n (c + (ι l).slack), .string sep] := by
        apply Array.ext
        · simp [h2]
        · intro i h3 h4
          have : i = 0 ∨ i = 1 := by omega
          rcases this with rfl | rfl
          · rw [e0]; simp
          · rw [e1]; simp
      have hmap : xs.map (fun x => (⟨x.toArray⟩ : ByteArray).data.toList) = xs := by simp
      have hj : (List.map (fun x => x.data.toList) (xs.map fun x => (⟨x.toArray⟩ : ByteArray))) = xs := by simp [Function.comp_def]
      have := Tryz.strings_Join (ι l).blk ((ι l).off + o) (c + (ι l).slack) (xs.map fun x => (⟨x.toArray⟩ : ByteArray)) sep w (fun j x hx => ?_) (rel_lt hrel hb) (by simp; omega) (by simp; omega) (by rw [hj]; exact hlen)
      · rw [hj] at this
        rw [List.length_map, hxl] at this
        refine this.mono ?_
        rintro e w' ⟨rfl, hbl⟩
        exact ⟨ι, _, rfl, out_change hrel (change_of_below hbl), .flat _ rfl⟩
      · rw [List.getElem?_map] at hx
        obtain ⟨y, hy, rfl⟩ := Option.map_eq_some_iff.1 hx
        have hjn : j < n := by rw [← hxl]; exact (List.getElem?_eq_some_iff.1 hy).1
        have hc : b.cells[o + j]? = some (str y) := by
          have : ((b.cells.drop o).take n)[j]? = some (str y) := by rw [hcells, List.getElem?_map, hy]; rfl
          rw [List.getElem?_take, if_pos hjn, List.getElem?_drop] at this
          exact this
        obtain ⟨v', g1, g2⟩ := hrel.cell0 (i := o + j) hb hc
        rw [show (ι l).off + o + j = (ι l).off + (o + j) by omega, g1, flat_eq g2 rfl]
        rfl
    · cases hs
  · cases hs
end Go.Proofs.YtombmblgmbjieaaGreatDoor
/-
  Library functions by their contracts: strings, math.
-/
set_option linter.unusedSimpArgs false
set_option linter.unusedVariables false
namespace Go.Proofs.YtombmblgmbjieaaGreatDoor
open Go.Lg Go.Tg

def gHasPrefix : List Value → Option Value
  | [.string s, .string p] => some (.bool (Lib.hasPrefix s.data.toList p.data.toList))
  | _ => none
theorem ok_HasPrefix : SpecOk Tryz.prog 117 (flatSpec gHasPrefix) := specOk_flat ⟨_, Tryz.func117, rfl, by decide⟩ fun args v h => by
  unfold gHasPrefix at h
  split at h
  · injection h with h; subst h
    exact ⟨flat2 rfl rfl, rfl, fun w => same_mono (Tryz.strings_HasPrefix _ _ w)⟩
  · cases h
def gIndex : List Value → Option Value
  | [.string s, .string ⟨⟨[c]⟩⟩] => some (.int .i64 (Lib.indexByte s.data.toList c))
  | _ => none
theorem ok_Index : SpecOk Tryz.prog 218 (flatSpec gIndex) := specOk_flat ⟨_, Tryz.func218, rfl, by decide⟩ fun args v h => by
  unfold gIndex at h
  split at h
  · injection h with h; subst h
    exact ⟨flat2 rfl rfl, rfl, fun w => same_mono (Tryz.stringslite_Index_one _ _ w)⟩
  · cases h
def gLower : List Value → Option Value
  | [.string s] => if s.size ≤ maxLen then some (.string ⟨(Tg.Lo.lower s.data.toList).toArray⟩) else none
  | _ => none
theorem ok_Lower : SpecOk Tryz.prog 327 (flatSpec gLower) := specOk_flat ⟨_, Tryz.func327, rfl, by decide⟩ fun args v h => by
  unfold gLower at h
  split at h
  · split at h
    · rename_i hs
      injection h with h; subst h
      exact ⟨flat1 rfl, rfl, fun w => lower_w _ w hs⟩
    · cases h
  · cases h
def gRepeat : List Value → Option Value
  | [.string s, .int .i64 c] => if 0 ≤ c ∧ c ≤ 9223372036854775807 ∧ s.size * c.toNat ≤ 140737488355328 then some (.string ⟨(Lib.repeatL s.data.toList c.toNat).toArray⟩) else none
  | _ => none
theorem ok_Repeat : SpecOk Tryz.prog 158 (flatSpec gRepeat) := specOk_flat ⟨_, Tryz.func158, rfl, by decide⟩ fun args v h => by
  unfold gRepeat at h
  split at h
  · rename_i s c
    split at h
    · rename_i hs
      obtain ⟨h0, h1, h2⟩ := hs
      injection h with h; subst h
      obtain ⟨k, rfl⟩ := Int.eq_ofNat_of_zero_le h0
      exact ⟨flat2 rfl rfl, rfl, fun w => below_mono (Tryz.strings_Repeat s k w (by omega) h2)⟩
    · cases h
  · cases h
def gLz8 : List Value → Option Value
  | [.int .u8 x] => if 0 ≤ x ∧ x ≤ 255 then some (.int .i64 (8 - (Lib.bitLen x.toNat : Int))) else none
  | _ => none
theorem ok_Lz8 : SpecOk Tryz.prog 187 (flatSpec gLz8) := specOk_flat ⟨_, Tryz.func187, rfl, by decide⟩ fun args v h => by
  unfold gLz8 at h
  split at h
  · split at h
    · rename_i hs
      injection h with h; subst h
      exact ⟨flat1 rfl, rfl, fun w => same_mono (Tryz.bits_LeadingZeros8 _ w hs.1 hs.2)⟩
    · cases h
  · cases h
def gWith : List Value → Option Value
  | [.int .i64 0, .string s, .string t] => if 2 ≤ s.size ∧ s.size ≤ 100 then some (.agg #[.string s, .string ⟨(List.replicate s.size (255 : UInt8)).toArray⟩, .string ⟨#[]⟩, .string t]) else none
  | _ => none
theorem ok_With : SpecOk Tryz.prog 221 (flatSpec gWith) := specOk_flat ⟨_, Tryz.func221, rfl, by decide⟩ fun args v h => by
  unfold gWith at h
  split at h
  · split at h
    · rename_i hs
      injection h with h; subst h
      exact ⟨by simp [flatB, flat1B, atomB], rfl, fun w => with_w _ _ hs.1 hs.2 w⟩
    · cases h
  · cases h
noncomputable def specsStr : List (FuncId × Lg.Spec) := [
  (221, flatSpec gWith),
  (158, flatSpec gRepeat),
  (187, flatSpec gLz8),
  (327, flatSpec gLower),
  (91, specSplit),
  (322, specJoin),
  (238, specCopy),
  (201, specBStr),
  (235, flatSpec gIndexByte),
  (117, flatSpec gHasPrefix),
  (218, flatSpec gIndex),
  ]
theorem str_ok : ∀ p ∈ specsStr, SpecOk Tryz.prog p.1 p.2 := by
  intro p hp
  unfold specsStr at hp
  rcases List.mem_cons.1 hp with rfl | hp
  · exact ok_With
  rcases List.mem_cons.1 hp with rfl | hp
  · exact ok_Repeat
  rcases List.mem_cons.1 hp with rfl | hp
  · exact ok_Lz8
  rcases List.mem_cons.1 hp with rfl | hp
  · exact ok_Lower
  rcases List.mem_cons.1 hp with rfl | hp
  · exact ok_Split
  rcases List.mem_cons.1 hp with rfl | hp
  · exact ok_Join
  rcases List.mem_cons.1 hp with rfl | hp
  · exact ok_Copy
  rcases List.mem_cons.1 hp with rfl | hp
  · exact ok_BStr
  rcases List.mem_cons.1 hp with rfl | hp
  · exact ok_IndexByte
  rcases List.mem_cons.1 hp with rfl | hp
  · exact ok_HasPrefix
  rcases List.mem_cons.1 hp with rfl | hp
  · exact ok_Index
  cases hp
end Go.Proofs.YtombmblgmbjieaaGreatDoor
/-
  The library functions of these laws, as rules.
-/
set_option linter.unusedSimpArgs false
set_option linter.unusedVariables false
namespace Go.Proofs.YtombmblgmbjieaaGreatDoor
open Go.Lg Go.Tg

noncomputable def EJ : Ext := extLL specsStr []
@[simp] theorem EJ_ch {n id k : Nat} : EJ.loud.ch n id k = chT n id k := rfl
@[simp] theorem EJ_loud {g : FuncId} : EJ.loud g = false := rfl
theorem extOk : ExtOk Tryz.prog EJ := extL_ok str_ok
theorem tOk : TOk Tryz.prog (LC Tryz.prog EJ) := LC_ok extOk mixed
section
variable {H : LH} {s t p : List UInt8}
@[simp] theorem indexByte_l {c : UInt8} : LC Tryz.prog EJ 235 [str s, .int .u8 c.toNat] H = some (.int .i64 (Lib.indexByte s c), H) := LC_flat (g := gIndexByte) rfl (by simp [gIndexByte, str])
@[simp] theorem hasPrefix_l : LC Tryz.prog EJ 117 [str s, str p] H = some (.bool (Lib.hasPrefix s p), H) := LC_flat (g := gHasPrefix) rfl (by simp [gHasPrefix, str])
@[simp] theorem index1_l {c : UInt8} : LC Tryz.prog EJ 218 [str s, str [c]] H = some (.int .i64 (Lib.indexByte s c), H) := LC_flat (g := gIndex) rfl (by simp [gIndex, str])
theorem split_l (h : s.length < 4294967281) (h1 : 1 ≤ p.length) (hm : MaxL H) (h2 : Lib.countB ⟨s.toArray⟩ ⟨p.toArray⟩ + 1 ≤ maxLen) (h3 : (Lib.splitB ⟨p.toArray⟩ 0 (Lib.countB ⟨s.toArray⟩ ⟨p.toArray⟩) ⟨s.toArray⟩).length = Lib.countB ⟨s.toArray⟩ ⟨p.toArray⟩ + 1) :
    LC Tryz.prog EJ 91 [str s, str p] H = some (sl H.n (Lib.countB ⟨s.toArray⟩ ⟨p.toArray⟩ + 1) (Lib.countB ⟨s.toArray⟩ ⟨p.toArray⟩ + 1), H.new ⟨(Lib.splitB ⟨p.toArray⟩ 0 (Lib.countB ⟨s.toArray⟩ ⟨p.toArray⟩) ⟨s.toArray⟩).map Value.string, 9, true⟩) := LC_ext (s := specSplit) rfl (by
  unfold specSplit str
  dsimp only
  rw [if_pos ⟨by rw [ba_size]; exact h, by rw [ba_size]; exact h1, hm, h2, h3⟩])
theorem join_nil : LC Tryz.prog EJ 322 [.slice none 0 0, str p] H = some (str [], H) := LC_ext (s := specJoin) rfl (by
  unfold specJoin str
  rfl)
theorem join_l {l o n c : Nat} {b : LB} {xs : List (List UInt8)} (hb : H.get l = some b) (h0 : n ≠ 0) (hc : n ≤ c) (hn : n ≤ 140737488355328) (hx : xs.length = n) (hcs : (b.cells.drop o).take n = xs.map str) (hl : (Lib.join xs p).length ≤ 140737488355328) :
    LC Tryz.prog EJ 322 [.slice (some ⟨l, o, none⟩) n c, str p] H = some (str (Lib.join xs p), H) := LC_ext (s := specJoin) rfl (by
  have hex : ∃ (b : LB) (xs : List (List UInt8)), H.get l = some b ∧ n ≠ 0 ∧ n ≤ c ∧ n ≤ 140737488355328 ∧ xs.length = n ∧ (b.cells.drop o).take n = xs.map str ∧ (Lib.join xs (⟨p.toArray⟩ : ByteArray).data.toList).length ≤ 140737488355328 := ⟨b, xs, hb, h0, hc, hn, hx, hcs, hl⟩
  have e : Classical.choose (Classical.choose_spec hex) = xs := by
    obtain ⟨g1, _, _, _, _, g6, _⟩ := Classical.choose_spec (Classical.choose_spec hex)
    have hbe := congrArg LB.cells (Option.some.inj (hb.symm.trans g1))
    exact (map_str_inj (hcs.symm.trans ((congrArg (fun z => (z.drop o).take n) hbe).trans g6))).symm
  show specJoin [.slice (some ⟨l, o, none⟩) n c, .string ⟨p.toArray⟩] H = _
  unfold specJoin
  simp only
  rw [dif_pos hex, e])
theorem lower_l (h : s.length ≤ maxLen) : LC Tryz.prog EJ 327 [str s] H = some (str (Tg.Lo.lower s), H) := LC_flat (g := gLower) rfl (by
  unfold gLower str
  dsimp only
  rw [if_pos (by rw [ba_size]; exact h)])
theorem repeat_l {c : Int} (h0 : 0 ≤ c) (h1 : c ≤ 1048576) (h2 : s.length ≤ 1048576) : LC Tryz.prog EJ 158 [str s, .int .i64 c] H = some (str (Lib.repeatL s c.toNat), H) := LC_flat (g := gRepeat) rfl (by
  unfold gRepeat str
  dsimp only
  have h3 : s.length * c.toNat ≤ 1048576 * 1048576 := Nat.mul_le_mul h2 (by omega)
  rw [if_pos ⟨h0, by omega, by rw [ba_size]; omega⟩])
theorem with_l (h2 : 2 ≤ s.length) (h8 : s.length ≤ 100) : LC Tryz.prog EJ 221 [.int .i64 0, str s, str t] H = some (.agg #[str s, str (List.replicate s.length 255), str [], str t], H) := LC_flat (g := gWith) rfl (by
  show (if 2 ≤ (⟨s.toArray⟩ : ByteArray).size ∧ (⟨s.toArray⟩ : ByteArray).size ≤ 100 then some (Value.agg #[.string ⟨s.toArray⟩, .string ⟨(List.replicate (⟨s.toArray⟩ : ByteArray).size (255 : UInt8)).toArray⟩, .string ⟨#[]⟩, .string ⟨t.toArray⟩]) else none) = _
  rw [if_pos ⟨by rw [ba_size]; exact h2, by rw [ba_size]; exact h8⟩, ba_size]
  rfl)
theorem lz8_l {c : UInt8} : LC Tryz.prog EJ 187 [.int .u8 c.toNat] H = some (.int .i64 (8 - (Lib.bitLen c.toNat : Int)), H) := LC_flat (g := gLz8) rfl (by
  have h := c.toNat_lt
  unfold gLz8
  dsimp only
  rw [if_pos ⟨by omega, by omega⟩]
  simp)
end
end Go.Proofs.YtombmblgmbjieaaGreatDoor
/-
  A logical run of Go code: structs compared, part by part.
-/
set_option linter.unusedSimpArgs false
set_option linter.unusedVariables false
set_option maxRecDepth 100000
namespace Go.Lg
theorem pureVal_map {α β : Type} {P : Program} (s : Sem α) (f : α → β) : pureVal P (f <$> s) = (pureVal P s).map f := by
  show pureVal P (s >>= fun x => pure (f x)) = _
  rw [pureVal_bind]; cases pureVal P s <;> rfl
theorem eqIn_int {P : Program} {d : Nat} {t : TypeId} {k : IntKind} {a b : Int} (hu : P.underlying t = some (.int k)) : pureVal P (Op.equalIn (d + 1) t (.int k a) (.int k b)) = some (a == b) := by
  unfold Op.equalIn
  simp only [pureVal_bind, pureVal_und, hu, Option.bind_some, pureVal_pure, if_true]
theorem eqIn_str {P : Program} {d : Nat} {t : TypeId} {a b : List UInt8} (hu : P.underlying t = some .string) : pureVal P (Op.equalIn (d + 1) t (str a) (str b)) = some (decide (a = b)) := by
  unfold Op.equalIn
  simp only [pureVal_bind, pureVal_und, hu, Option.bind_some, str]
  show some _ = _
  congr 1
  rw [Bool.eq_iff_iff, Go.MapKept.bytes_beq]; simp
theorem eqIn_bool {P : Program} {d : Nat} {t : TypeId} {a b : Bool} (hu : P.underlying t = some .bool) : pureVal P (Op.equalIn (d + 1) t (.bool a) (.bool b)) = some (a == b) := by
  unfold Op.equalIn
  simp only [pureVal_bind, pureVal_und, hu, Option.bind_some, pureVal_pure]
theorem part_cell {P : Program} {t : TypeId} {cs : Array Value} {o : Nat} {v : Value} (ha : aggB P t = some false) (h : cs[o]? = some v) : pureVal P (part t cs o) = some v := by
  unfold part
  have : pureVal P (isAgg t) = some false := by
    unfold aggB at ha
    unfold isAgg
    obtain ⟨d, hd, hf⟩ := Option.map_eq_some_iff.1 ha
    simp only [pureVal_bind, pureVal_und, hd, Option.bind_some]
    cases d <;> first | rfl | (simp [aggD] at hf)
  simp only [pureVal_bind, this, Option.bind_some, h]
  rfl
/-- two aggregates of a type that is guarded by nothing -/
theorem lbin_agg {P : Program} {t : TypeId} {xs ys : List Value} {b : Bool} (hx : flatB (.agg ⟨xs⟩) = true) (hy : flatB (.agg ⟨ys⟩) = true) (hg : P.eqGuardType P.depth t = false)
    (he : pureVal P (Op.equalIn Op.maxDepth t (.agg ⟨xs⟩) (.agg ⟨ys⟩)) = some b) : lbin P .eql t (.agg ⟨xs⟩) (.agg ⟨ys⟩) = some (.bool b) := by
  unfold lbin
  simp only
  rw [if_pos (by rw [hx, hy]; rfl)]
  unfold pureFlat eqGuard
  simp only [binOp, Op.equal, pureVal_bind]
  have e1 : ∀ X Y : Value, pureVal P (if (!true) = true then (pure () : Sem Unit) else do
      let __do_lift ← program
      let __do_lift_1 ← program
      if (!__do_lift.eqGuardType __do_lift_1.depth t) = true then pure ()
      else do
        let __do_lift ← Op.eqGuardIn Op.maxDepth t X Y
        if __do_lift = true then unsupported (Unsupported.noEntry "binop/eql: two nil values of an interface type with methods, in a part of a struct or an array") else pure ()) = some () := by
    intro X Y
    rw [if_neg (by decide)]
    simp only [pureVal_bind, pureVal_program, Option.bind_some, hg, Bool.not_false, if_true, pureVal_pure]
  rw [e1, he]
  rfl
end Go.Lg
/-
  Layer 20 (unknown): rows of patterns, rows of strings.
-/
set_option linter.unusedSimpArgs false
set_option linter.unusedVariables false
set_option maxRecDepth 100000
namespace Tg.Un
open Go
def pcells : List Pat → List Value
  | [] => []
  | p :: l => Go.Lg.str p.b :: Go.Lg.str p.m :: Go.Lg.str p.s :: Go.Lg.str p.t :: pcells l
theorem pcells_len : ∀ l : List Pat, (pcells l).length = l.length * 4
  | [] => rfl
  | p :: l => by simp [pcells, pcells_len l]; omega
theorem pcells_at : ∀ {l : List Pat} {i : Nat} (h : i < l.length) (rest : List Value), ((pcells l ++ rest).drop (i * 4)).take 4 = [Go.Lg.str l[i].b, Go.Lg.str l[i].m, Go.Lg.str l[i].s, Go.Lg.str l[i].t]
  | p :: l, 0, h, rest => by simp [pcells]
  | p :: l, i + 1, h, rest => by
    have := pcells_at (l := l) (i := i) (by simpa using h) rest
    rw [Nat.succ_mul]
    simpa [pcells] using this
end Tg.Un
namespace Go.Proofs.YtombmblgmbjieaaGreatDoor
open Go.Lg Go.Tg
@[simp ↓] theorem loud_makeSlice {L : Loud} {t : TypeId} {x y : Operand} : loudOp L (.makeSlice t x y) = false := rfl
theorem wrapI {x : Int} (h1 : -9223372036854775808 ≤ x) (h2 : x ≤ 9223372036854775807) : IntKind.i64.wrap x = x := wrap64_in h1 h2
theorem at_in {s : List UInt8} {i : Nat} (h : i < s.length) : at_ s (i : Int) = s[i] := by
  unfold at_
  rw [show ((i : Nat) : Int).toNat = i by omega, List.getD_eq_getElem?_getD, List.getElem?_eq_getElem h]; rfl
theorem idx_lt (l : List UInt8) (c : UInt8) : l.contains c = !decide (Lib.indexByte l c < 0) := by
  induction l with
  | nil => rfl
  | cons x l ih =>
    have hge := Lib.indexByte_ge l c
    rw [List.contains_cons]
    unfold Lib.indexByte
    by_cases hx : x = c
    · subst hx; simp
    · have hx1 : (x == c) = false := by simp [hx]
      have hx2 : (c == x) = false := by simp; exact fun e => hx e.symm
      rw [hx1, hx2, ih]
      simp only [Bool.false_or, Bool.false_eq_true, if_false]
      by_cases h1 : Lib.indexByte l c = -1
      · simp [h1]
      · have : (Lib.indexByte l c == -1) = false := by simp [h1]
        rw [this]
        simp only [Bool.false_eq_true, if_false]
        congr 2
        rw [eq_iff_iff]; omega
theorem idxU (l : List UInt8) (c : UInt8) : l.contains c = decide (0 ≤ Lib.indexByte l c) := by
  rw [idx_lt]
  by_cases h : Lib.indexByte l c < 0
  · rw [decide_eq_true h, decide_eq_false (by omega)]; rfl
  · rw [decide_eq_false h, decide_eq_true (by omega)]; rfl
theorem tn_ne {c b : UInt8} (h : ¬ c = b) : ((c.toNat : Int) = (b.toNat : Int)) = False := eq_false (fun e => h (UInt8.toNat_inj.mp (by omega)))
theorem lfill_p4 {a b c d : List UInt8} : lfill Tryz.prog 66 [str [], str [], str [], str []] [(0, str a), (1, str b), (2, str c), (3, str d)] = some [str a, str b, str c, str d] := by
  rw [lfill_cell (o := 0) (n := 1) (g := false) (by simp) rfl (by simp) (by simp), lfill_cell (o := 1) (n := 1) (g := false) (by simp) rfl (by simp) (by simp), lfill_cell (o := 2) (n := 1) (g := false) (by simp) rfl (by simp) (by simp), lfill_cell (o := 3) (n := 1) (g := false) (by simp) rfl (by simp) (by simp)]
  simp
theorem lfill_p3 {a b d : List UInt8} : lfill Tryz.prog 66 [str [], str [], str [], str []] [(0, str a), (1, str b), (3, str d)] = some [str a, str b, str [], str d] := by
  rw [lfill_cell (o := 0) (n := 1) (g := false) (by simp) rfl (by simp) (by simp), lfill_cell (o := 1) (n := 1) (g := false) (by simp) rfl (by simp) (by simp), lfill_cell (o := 3) (n := 1) (g := false) (by simp) rfl (by simp) (by simp)]
  simp
/-- a pattern as a value -/
abbrev pv (p : Tg.Un.Pat) : Value := .agg #[str p.b, str p.m, str p.s, str p.t]
/-- v holds the patterns l, wherever they lie -/
def PRow (H : LH) (v : Value) (l : List Tg.Un.Pat) : Prop :=
  (v = .slice none 0 0 ∧ l = []) ∨ ∃ (k o c : Nat), v = .slice (some ⟨k, o, none⟩) l.length c ∧ (l ≠ [] → ∃ b : LB, H.get k = some b ∧ k < H.n ∧ ∀ (i : Nat) (h : i < l.length), o + i * 4 + 4 ≤ b.cells.length ∧ (b.cells.drop (o + i * 4)).take 4 = [str l[i].b, str l[i].m, str l[i].s, str l[i].t])
/-- v holds the strings l, wherever they lie -/
def SRow (H : LH) (v : Value) (l : List (List UInt8)) : Prop :=
  (v = .slice none 0 0 ∧ l = []) ∨ ∃ (k o c : Nat), v = .slice (some ⟨k, o, none⟩) l.length c ∧ (l ≠ [] → ∃ b : LB, H.get k = some b ∧ k < H.n ∧ ∀ (i : Nat) (h : i < l.length), b.cells[o + i]? = some (str l[i]))
/-- v holds the numbers l, wherever they lie -/
def IRow (H : LH) (v : Value) (l : List Int) : Prop :=
  (v = .slice none 0 0 ∧ l = []) ∨ ∃ (k o c : Nat), v = .slice (some ⟨k, o, none⟩) l.length c ∧ (l ≠ [] → ∃ b : LB, H.get k = some b ∧ k < H.n ∧ ∀ (i : Nat) (h : i < l.length), b.cells[o + i]? = some (.int .i64 l[i]))
section
variable {H H' : LH} {v : Value} {l : List Tg.Un.Pat} {xs : List (List UInt8)} {ns : List Int}
theorem PRow.keep (h : PRow H v l) (hn : H.n ≤ H'.n) (hk : ∀ k, k < H.n → H'.get k = H.get k) : PRow H' v l := by
  rcases h with h | ⟨k, o, c, h1, h2⟩
  · exact .inl h
  · refine .inr ⟨k, o, c, h1, fun hne => ?_⟩
    obtain ⟨b, h2, h3, h4⟩ := h2 hne
    exact ⟨b, by rw [hk k h3]; exact h2, by omega, h4⟩
theorem SRow.keep (h : SRow H v xs) (hn : H.n ≤ H'.n) (hk : ∀ k, k < H.n → H'.get k = H.get k) : SRow H' v xs := by
  rcases h with h | ⟨k, o, c, h1, h2⟩
  · exact .inl h
  · refine .inr ⟨k, o, c, h1, fun hne => ?_⟩
    obtain ⟨b, h2, h3, h4⟩ := h2 hne
    exact ⟨b, by rw [hk k h3]; exact h2, by omega, h4⟩
theorem IRow.keep (h : IRow H v ns) (hn : H.n ≤ H'.n) (hk : ∀ k, k < H.n → H'.get k = H.get k) : IRow H' v ns := by
  rcases h with h | ⟨k, o, c, h1, h2⟩
  · exact .inl h
  · refine .inr ⟨k, o, c, h1, fun hne => ?_⟩
    obtain ⟨b, h2, h3, h4⟩ := h2 hne
    exact ⟨b, by rw [hk k h3]; exact h2, by omega, h4⟩
theorem PRow.of {k c : Nat} {rest : List Value} {e : TypeId} {rw_ : Bool} (h : H.get k = some ⟨Tg.Un.pcells l ++ rest, e, rw_⟩) (hk : k < H.n) : PRow H (.slice (some ⟨k, 0, none⟩) l.length c) l := by
  refine .inr ⟨k, 0, c, rfl, fun _ => ⟨_, h, hk, fun i hi => ?_⟩⟩
  have g := Tg.Un.pcells_at hi rest
  have hl := Tg.Un.pcells_len l
  simp only [Nat.zero_add]
  refine ⟨?_, g⟩
  rw [List.length_append, hl]; omega
theorem SRow.of {k c : Nat} {rest : List Value} {e : TypeId} {rw_ : Bool} (h : H.get k = some ⟨xs.map str ++ rest, e, rw_⟩) (hk : k < H.n) : SRow H (.slice (some ⟨k, 0, none⟩) xs.length c) xs := by
  refine .inr ⟨k, 0, c, rfl, fun _ => ⟨_, h, hk, fun i hi => ?_⟩⟩
  simp only [Nat.zero_add]
  rw [List.getElem?_append_left (by simpa using hi), List.getElem?_map, List.getElem?_eq_getElem hi]; rfl
theorem IRow.of {k c : Nat} {rest : List Value} {e : TypeId} {rw_ : Bool} (h : H.get k = some ⟨ns.map (Value.int .i64) ++ rest, e, rw_⟩) (hk : k < H.n) : IRow H (.slice (some ⟨k, 0, none⟩) ns.length c) ns := by
  refine .inr ⟨k, 0, c, rfl, fun _ => ⟨_, h, hk, fun i hi => ?_⟩⟩
  simp only [Nat.zero_add]
  rw [List.getElem?_append_left (by simpa using hi), List.getElem?_map, List.getElem?_eq_getElem hi]; rfl
theorem PRow.len (h : PRow H v l) : lbuiltin Tryz.prog .len [31] [v] H' = some (.int .i64 l.length, H') := by
  rcases h with ⟨rfl, rfl⟩ | ⟨k, o, c, rfl, h2⟩
  · simp
  · simp
theorem SRow.len (h : SRow H v xs) : lbuiltin Tryz.prog .len [27] [v] H' = some (.int .i64 xs.length, H') := by
  rcases h with ⟨rfl, rfl⟩ | ⟨k, o, c, rfl, h2⟩
  · simp
  · simp
theorem IRow.len (h : IRow H v ns) : lbuiltin Tryz.prog .len [135] [v] H' = some (.int .i64 ns.length, H') := by
  rcases h with ⟨rfl, rfl⟩ | ⟨k, o, c, rfl, h2⟩
  · simp
  · simp
theorem PRow.at (h : PRow H v l) {i : Nat} (hi : i < l.length) : ∃ k o, (∀ H' : LH, lixa Tryz.prog 31 v (.int .i64 i) H' = some (ptr k o, H')) ∧ k < H.n ∧ ∀ H' : LH, H'.get k = H.get k →
    lld Tryz.prog 66 (ptr k o) H' = some (pv l[i]) ∧ lld Tryz.prog 9 (ptr k o) H' = some (str l[i].b) ∧ lld Tryz.prog 9 (ptr k (o + 1)) H' = some (str l[i].m) ∧ lld Tryz.prog 9 (ptr k (o + 2)) H' = some (str l[i].s) ∧ lld Tryz.prog 9 (ptr k (o + 3)) H' = some (str l[i].t) := by
  rcases h with ⟨rfl, rfl⟩ | ⟨k, o, c, rfl, h2⟩
  · simp at hi
  · obtain ⟨b, h2, h3, h4⟩ := h2 (fun e => by rw [e] at hi; simp at hi)
    obtain ⟨g1, g2⟩ := h4 i hi
    refine ⟨k, o + i * 4, fun H' => ?_, h3, fun H' e => ?_⟩
    · have q := eq_true (show (i : Int) < (l.length : Int) by omega)
      simp [q]
    · rw [h2] at e
      have key : ∀ j, j < 4 → b.cells[o + i * 4 + j]? = [str l[i].b, str l[i].m, str l[i].s, str l[i].t][j]? := fun j hj => by
        rw [← g2, List.getElem?_take, if_pos hj, List.getElem?_drop]
      have k0 := key 0 (by decide)
      have k1 := key 1 (by decide)
      have k2 := key 2 (by decide)
      have k3 := key 3 (by decide)
      simp only [List.getElem?_cons_zero, List.getElem?_cons_succ, Nat.add_zero] at k0 k1 k2 k3
      have l0 : o + i * 4 < b.cells.length := by omega
      have l1 : o + i * 4 + 1 < b.cells.length := by omega
      have l2 : o + i * 4 + 2 < b.cells.length := by omega
      have l3 : o + i * 4 + 3 < b.cells.length := by omega
      rw [List.getElem?_eq_getElem l0] at k0
      rw [List.getElem?_eq_getElem l1] at k1
      rw [List.getElem?_eq_getElem l2] at k2
      rw [List.getElem?_eq_getElem l3] at k3
      injection k0 with k0
      injection k1 with k1
      injection k2 with k2
      injection k3 with k3
      simp [e, g1, g2, k0, k1, k2, k3, l0, l1, l2, l3]
theorem SRow.at (h : SRow H v xs) {i : Nat} (hi : i < xs.length) : ∃ k o, (∀ H' : LH, lixa Tryz.prog 27 v (.int .i64 i) H' = some (ptr k o, H')) ∧ k < H.n ∧ ∀ H' : LH, H'.get k = H.get k → lld Tryz.prog 9 (ptr k o) H' = some (str xs[i]) := by
  rcases h with ⟨rfl, rfl⟩ | ⟨k, o, c, rfl, h2⟩
  · simp at hi
  · obtain ⟨b, h2, h3, h4⟩ := h2 (fun e => by rw [e] at hi; simp at hi)
    have g1 := h4 i hi
    refine ⟨k, o + i, fun H' => ?_, h3, fun H' e => ?_⟩
    · have q := eq_true (show (i : Int) < (xs.length : Int) by omega)
      simp [q]
    · rw [h2] at e
      have l0 : o + i < b.cells.length := (List.getElem?_eq_some_iff.1 g1).1
      rw [List.getElem?_eq_getElem l0] at g1
      injection g1 with g1
      simp [e, g1, l0]
theorem IRow.at (h : IRow H v ns) {i : Nat} (hi : i < ns.length) : ∃ k o, (∀ H' : LH, lixa Tryz.prog 135 v (.int .i64 i) H' = some (ptr k o, H')) ∧ k < H.n ∧ ∀ H' : LH, H'.get k = H.get k → lld Tryz.prog 3 (ptr k o) H' = some (.int .i64 ns[i]) := by
  rcases h with ⟨rfl, rfl⟩ | ⟨k, o, c, rfl, h2⟩
  · simp at hi
  · obtain ⟨b, h2, h3, h4⟩ := h2 (fun e => by rw [e] at hi; simp at hi)
    have g1 := h4 i hi
    refine ⟨k, o + i, fun H' => ?_, h3, fun H' e => ?_⟩
    · have q := eq_true (show (i : Int) < (ns.length : Int) by omega)
      simp [q]
    · rw [h2] at e
      have l0 : o + i < b.cells.length := (List.getElem?_eq_some_iff.1 g1).1
      rw [List.getElem?_eq_getElem l0] at g1
      injection g1 with g1
      simp [e, g1, l0]
end
end Go.Proofs.YtombmblgmbjieaaGreatDoor
/-
  Layer 20 (unknown): the run with throws: its functions, and that the model does so.
-/
set_option linter.unusedSimpArgs false
set_option linter.unusedVariables false
set_option maxRecDepth 100000
namespace Go.Proofs.YtombmblgmbjieaaGreatDoor
open Go.Lg Go.Tg
def specThrow : PSpec := fun args H r H' => ∃ x y : Int, args = [.int .i64 x, .int .i64 y] ∧ r = .pan (.agg #[.int .i64 x, .int .i64 (if y = 0 then 1 else y)]) ∧ H' = H
theorem throw_ok {args : List Value} {H H' : LH} {r : Res} (h : specThrow args H r H') : Entered Tryz.prog 311 ∧ CallOkR Tryz.prog 166 311 args H r H' := by
  obtain ⟨x, y, rfl, rfl, rfl⟩ := h
  refine ⟨⟨_, Tryz.func311, rfl, by decide⟩, fun ι w args' hrel h1 h2 => ?_⟩
  have e : args' = #[.int .i64 x, .int .i64 y] := by
    obtain ⟨l⟩ := args'
    match l, h1 with
    | [u, v], _ =>
      have e1 : u = .int .i64 x := flat_eq (h2 0 _ _ rfl rfl) rfl
      have e2 : v = .int .i64 y := flat_eq (h2 1 _ _ rfl rfl) rfl
      rw [e1, e2]
  subst e
  refine (throw_w x y w).mono ?_
  rintro e w' ⟨rfl, rfl⟩
  exact ⟨ι, ⟨_, rfl, .flat _ rfl⟩, Out.refl hrel⟩
noncomputable def EPu : PEnv := { E := EJ, pl := EJ.loud, px := (fun f => if f = 311 then some specThrow else none), cat := some 263, tF := 166, ps := (fun f => [311, 290, 263, 227, 264, 265, 229, 186, 185, 141, 101, 102, 140, 100, 64, 17, 56, 14, 16].contains f) }
@[simp] theorem EPu_E : EPu.E = EJ := rfl
@[simp] theorem EPu_pl : EPu.pl = EJ.loud := rfl
@[simp] theorem EPu_ps {f : FuncId} : EPu.ps f = [311, 290, 263, 227, 264, 265, 229, 186, 185, 141, 101, 102, 140, 100, 64, 17, 56, 14, 16].contains f := rfl
theorem soundU {j : J} (h : R Tryz.prog EPu j) : Sound Tryz.prog EPu j := by
  refine sound tOk mixed (fun f s hs args H r H' hr => ?_) (fun f hf => ?_) h
  · unfold EPu at hs
    simp only at hs
    split at hs
    · rename_i e; injection hs with hs; subst hs; subst e; exact throw_ok hr
    · cases hs
  · have e : 263 = f := Option.some.inj hf
    subst e; exact cat_ok
section
variable {H : LH} {s : List UInt8} {l : Nat}
theorem throw_r {x y : Int} : R Tryz.prog EPu (.call 311 [.int .i64 x, .int .i64 y] H (.pan (.agg #[.int .i64 x, .int .i64 (if y = 0 then 1 else y)])) H) :=
  .px (s := specThrow) (by unfold EPu; simp) ⟨x, y, rfl, rfl, rfl⟩
theorem check_ok {x y : Int} : R Tryz.prog EPu (.call 290 [.bool true, .int .i64 x, .int .i64 y] H (.ret (.tuple #[])) H) := by
  refine pcall_flat Tryz.func290 rfl (Nat.le_of_ble_eq_true rfl) (by decide) (by kernel_rfl) rfl ?_
  simp
theorem check_bad {x y : Int} (hy : y ≠ 0) : R Tryz.prog EPu (.call 290 [.bool false, .int .i64 x, .int .i64 y] H (.pan (.agg #[.int .i64 x, .int .i64 y])) H) := by
  have ht := throw_r (H := H) (x := x) (y := y)
  rw [if_neg hy] at ht
  refine pcall_flat Tryz.func290 rfl (Nat.le_of_ble_eq_true rfl) (by decide) (by kernel_rfl) rfl ?_
  simp
  refine hand_call_pan (g := 311) (first := #[]) (caps := #[]) (H1 := H) rfl rfl rfl (by simp) (by simpa using ht) ?_
  simp
end
end Go.Proofs.YtombmblgmbjieaaGreatDoor
/-
  A logical run of Go code: a run cut at a point of a row of statements.
-/
set_option linter.unusedSimpArgs false
set_option linter.unusedVariables false
namespace Go.Lg
open Go.Tg Go.RowKit
/-- what stands behind the first n statements -/
def seqDrop : Nat → Code → Code
  | 0, c => c
  | n + 1, .seq _ b => seqDrop n b
  | _ + 1, c => c
/-- the first n statements, with another rest -/
def seqPre : Nat → Code → Code → Code
  | 0, _, K => K
  | n + 1, .seq a b, K => .seq a (seqPre n b K)
  | _ + 1, c, _ => c
@[simp ↓] theorem seqDrop_zero {c : Code} : seqDrop 0 c = c := by cases c <;> rfl
@[simp ↓] theorem seqDrop_succ {n : Nat} {a b : Code} : seqDrop (n + 1) (.seq a b) = seqDrop n b := rfl
@[simp ↓] theorem seqPre_zero {c K : Code} : seqPre 0 c K = K := by cases c <;> rfl
@[simp ↓] theorem seqPre_succ {n : Nat} {a b K : Code} : seqPre (n + 1) (.seq a b) K = .seq a (seqPre n b K) := rfl
@[simp] theorem splice_all {cs vs : List Value} (h : cs.length = vs.length) : splice cs 0 vs = vs := by
  unfold splice; simp [h]
/-! numbers beside written ones, among the natural numbers -/
section
variable {n m : Nat}
theorem lit_le : (@OfNat.ofNat Int n _ ≤ (m : Int)) ↔ (@OfNat.ofNat Nat n _ ≤ m) := by show ((n : Int) ≤ m) ↔ n ≤ m; omega
theorem le_lit : ((m : Int) ≤ @OfNat.ofNat Int n _) ↔ (m ≤ @OfNat.ofNat Nat n _) := by show ((m : Int) ≤ n) ↔ m ≤ n; omega
theorem lit_lt : (@OfNat.ofNat Int n _ < (m : Int)) ↔ (@OfNat.ofNat Nat n _ < m) := by show ((n : Int) < m) ↔ n < m; omega
theorem lt_lit : ((m : Int) < @OfNat.ofNat Int n _) ↔ (m < @OfNat.ofNat Nat n _) := by show ((m : Int) < n) ↔ m < n; omega
theorem eq_lit : ((m : Int) = @OfNat.ofNat Int n _) ↔ (m = @OfNat.ofNat Nat n _) := by show ((m : Int) = n) ↔ m = n; omega
theorem lit_eq : (@OfNat.ofNat Int n _ = (m : Int)) ↔ (@OfNat.ofNat Nat n _ = m) := by show ((n : Int) = m) ↔ n = m; omega
end
theorem lbin_fn_ne {P : Program} {t : TypeId} {g : FuncId} {f cp : Array Value} {a b c : _} (hu : P.underlying t = some (.func a b c)) : lbin P .neq t (.func (.func g) f cp) .nilFunc = some (.bool true) := by
  simp [lbin, hu]
theorem lbin_fn_eq {P : Program} {t : TypeId} {g : FuncId} {f cp : Array Value} {a b c : _} (hu : P.underlying t = some (.func a b c)) : lbin P .eql t (.func (.func g) f cp) .nilFunc = some (.bool false) := by
  simp [lbin, hu]
attribute [simp] lbin_fn_eq
attribute [simp] lbin_fn_ne
@[simp ↓] theorem ev_nilIface {fr : Fr} : ev fr (.const .nilIface) = .nilIface := rfl
@[simp ↓] theorem ev_nilFunc {fr : Fr} : ev fr (.const .nilFunc) = .nilFunc := rfl
@[simp] theorem flat_nilIface : flatB .nilIface = true := by simp only [flatB, flat1B, atomB]
@[simp] theorem cell_nilIface : cellB .nilIface = true := by simp only [cellB]
@[simp] theorem cell_nilFunc : cellB .nilFunc = true := by simp only [cellB]
@[simp] theorem atom_str {l : List UInt8} : atomB (str l) = true := by simp only [atomB, str]
@[simp] theorem atom_int {k : IntKind} {n : Int} : atomB (.int k n) = true := by simp only [atomB]
@[simp] theorem atom_bool {b : Bool} : atomB (.bool b) = true := by simp only [atomB]
@[simp] theorem atom_nil : atomB (.pointer none) = true := by simp only [atomB]
@[simp] theorem atom_nilslice : atomB (.slice none 0 0) = true := by simp [atomB]
@[simp] theorem lbE_nil {P : Program} {t : TypeId} {z : List Value} (hp : plcB P t = true) (hz : z.all atomB = true) : lbE P t (some (.agg ⟨z⟩)) [] = some (.agg ⟨z⟩) := by
  rw [lbE_agg (by simp only [knownL]) hz, lfill_nil hp]; rfl
section
variable {H H' : LH} {b : LB} {l : Nat}
@[simp] theorem le_new_iff (h : H.n ≤ H'.n) : H.le (H'.new b) ↔ H.le H' := by
  constructor
  · intro hl; exact ⟨h, fun k hk => by rw [← hl.2 k hk, get_new_ne (by omega)]⟩
  · intro hl; exact hl.new
@[simp] theorem le_set_iff (h : H.n ≤ l) : H.le (H'.set l b) ↔ H.le H' := by
  constructor
  · intro hl; exact ⟨hl.1, fun k hk => by rw [← hl.2 k hk, get_set_ne (by omega)]⟩
  · intro hl; exact hl.set h
@[simp] theorem le_kill_iff (h : H.n ≤ l) : H.le (H'.kill l) ↔ H.le H' := by
  constructor
  · intro hl; exact ⟨hl.1, fun k hk => by rw [← hl.2 k hk, get_kill_ne (by omega)]⟩
  · intro hl; exact hl.kill h
end
section
variable {P : Program} {E : Ext} {fn : Func} {k : List Item} {fr : Fr} {H : LH} {Q : Value × LH → Prop} {c : Code}
theorem runs_cut (n : Nat) (Inv : Fr → LH → Prop) (h1 : ∀ fr H, Inv fr H → Runs P E fn (.code (seqDrop n c) :: k) fr H Q)
    (h2 : ∀ K, (∀ fr H, Inv fr H → Runs P E fn (.code K :: k) fr H Q) → Runs P E fn (.code (seqPre n c K) :: k) fr H Q) (hc : seqPre n c (seqDrop n c) = c) : Runs P E fn (.code c :: k) fr H Q := by
  have := h2 (seqDrop n c) h1
  rw [hc] at this
  exact this
/-- a way to a place in a code: behind n statements; what stands ahead in a pair; what is done if so, if not; a block's body -/
inductive Dir where
  | d (n : Nat)
  | l
  | t
  | e
  | b
def cAt : List Dir → Code → Code
  | [], c => c
  | .d n :: p, c => cAt p (seqDrop n c)
  | .l :: p, .seq a _ => cAt p a
  | .t :: p, .cond _ a _ => cAt p a
  | .e :: p, .cond _ _ a => cAt p a
  | .b :: p, .block _ a => cAt p a
  | _ :: _, c => c
def cPut : List Dir → Code → Code → Code
  | [], _, K => K
  | .d n :: p, c, K => seqPre n c (cPut p (seqDrop n c) K)
  | .l :: p, .seq a b, K => .seq (cPut p a K) b
  | .t :: p, .cond x a b, K => .cond x (cPut p a K) b
  | .e :: p, .cond x a b, K => .cond x a (cPut p b K)
  | .b :: p, .block i a, K => .block i (cPut p a K)
  | _ :: _, c, _ => c
/-- what is still to be done behind that place -/
def cK : List Dir → Code → List Item → List Item
  | [], _, k => k
  | .d n :: p, c, k => cK p (seqDrop n c) k
  | .l :: p, .seq a b, k => cK p a (.code b :: k)
  | .t :: p, .cond _ a _, k => cK p a k
  | .e :: p, .cond _ _ a, k => cK p a k
  | .b :: p, .block i a, k => cK p a (.inBlock i :: k)
  | _ :: _, _, k => k
section
variable {p : List Dir} {n i : Nat} {a b K : Code} {x : Operand}
@[simp ↓] theorem cAt_nil : cAt [] c = c := by cases c <;> rfl
@[simp ↓] theorem cAt_d : cAt (.d n :: p) c = cAt p (seqDrop n c) := by cases c <;> rfl
@[simp ↓] theorem cAt_l : cAt (.l :: p) (.seq a b) = cAt p a := rfl
@[simp ↓] theorem cAt_t : cAt (.t :: p) (.cond x a b) = cAt p a := rfl
@[simp ↓] theorem cAt_e : cAt (.e :: p) (.cond x a b) = cAt p b := rfl
@[simp ↓] theorem cAt_b : cAt (.b :: p) (.block i a) = cAt p a := rfl
@[simp ↓] theorem cPut_nil : cPut [] c K = K := by cases c <;> rfl
@[simp ↓] theorem cPut_d : cPut (.d n :: p) c K = seqPre n c (cPut p (seqDrop n c) K) := by cases c <;> rfl
@[simp ↓] theorem cPut_l : cPut (.l :: p) (.seq a b) K = .seq (cPut p a K) b := rfl
@[simp ↓] theorem cPut_t : cPut (.t :: p) (.cond x a b) K = .cond x (cPut p a K) b := rfl
@[simp ↓] theorem cPut_e : cPut (.e :: p) (.cond x a b) K = .cond x a (cPut p b K) := rfl
@[simp ↓] theorem cPut_b : cPut (.b :: p) (.block i a) K = .block i (cPut p a K) := rfl
@[simp ↓] theorem cK_nil : cK [] c k = k := by cases c <;> rfl
@[simp ↓] theorem cK_d : cK (.d n :: p) c k = cK p (seqDrop n c) k := by cases c <;> rfl
@[simp ↓] theorem cK_l : cK (.l :: p) (.seq a b) k = cK p a (.code b :: k) := rfl
@[simp ↓] theorem cK_t : cK (.t :: p) (.cond x a b) k = cK p a k := rfl
@[simp ↓] theorem cK_e : cK (.e :: p) (.cond x a b) k = cK p b k := rfl
@[simp ↓] theorem cK_b : cK (.b :: p) (.block i a) k = cK p a (.inBlock i :: k) := rfl
end
theorem runs_at (p : List Dir) (Inv : Fr → LH → Prop) (h1 : ∀ fr H, Inv fr H → Runs P E fn (.code (cAt p c) :: cK p c k) fr H Q)
    (h2 : ∀ K, (∀ fr H, Inv fr H → Runs P E fn (.code K :: cK p c k) fr H Q) → Runs P E fn (.code (cPut p c K) :: k) fr H Q) (hc : cPut p c (cAt p c) = c) : Runs P E fn (.code c :: k) fr H Q := by
  have := h2 (cAt p c) h1
  rw [hc] at this
  exact this
end
end Go.Lg
/-
  Layer 20 (unknown): patterns of bytes, by the code.
-/
set_option linter.unusedSimpArgs false
set_option linter.unusedVariables false
set_option maxRecDepth 100000
namespace Go.Proofs.YtombmblgmbjieaaGreatDoor
open Go.Lg Go.Tg
section
variable {H : LH} {s t : List UInt8} {c : UInt8} {p : Tg.Un.Pat}
theorem usmall_cl : LC Tryz.prog EJ 233 [.int .u8 c.toNat] H = some (.bool (decide ((97 : Int) ≤ c.toNat) && decide ((c.toNat : Int) ≤ 122)), H) := by
  refine LC_pure rfl Tryz.func233 rfl (Nat.le_of_ble_eq_true rfl) (by decide) (by kernel_rfl) rfl ?_
  by_cases h1 : (97 : Int) ≤ c.toNat <;> by_cases h2 : (c.toNat : Int) ≤ 122 <;> simp [h1, h2]
theorem ugreat_cl : LC Tryz.prog EJ 234 [.int .u8 c.toNat] H = some (.bool (decide ((65 : Int) ≤ c.toNat) && decide ((c.toNat : Int) ≤ 90)), H) := by
  refine LC_pure rfl Tryz.func234 rfl (Nat.le_of_ble_eq_true rfl) (by decide) (by kernel_rfl) rfl ?_
  by_cases h1 : (65 : Int) ≤ c.toNat <;> by_cases h2 : (c.toNat : Int) ≤ 90 <;> simp [h1, h2]
theorem uletter_cl : LC Tryz.prog EJ 195 [.int .u8 c.toNat] H = some (.bool (Tg.Un.letter c), H) := by
  refine LC_pure rfl Tryz.func195 rfl (Nat.le_of_ble_eq_true rfl) (by decide) (by kernel_rfl) rfl ?_
  have h1 := fun H : LH => usmall_cl (H := H) (c := c)
  have h2 := fun H : LH => ugreat_cl (H := H) (c := c)
  unfold Tg.Un.letter
  cases e1 : (decide ((97 : Int) ≤ c.toNat) && decide ((c.toNat : Int) ≤ 122)) <;> rw [e1] at h1 <;>
  cases e2 : (decide ((65 : Int) ≤ c.toNat) && decide ((c.toNat : Int) ≤ 90)) <;> rw [e2] at h2 <;> simp [h1, h2]
theorem Letter_cl : LC Tryz.prog EJ 154 [.int .u8 c.toNat] H = some (.bool (Tg.Un.letter c), H) := by
  refine LC_pure rfl Tryz.func154 rfl (Nat.le_of_ble_eq_true rfl) (by decide) (by kernel_rfl) rfl ?_
  have h1 := fun H : LH => uletter_cl (H := H) (c := c)
  simp [h1]
theorem good_cl : LC Tryz.prog EJ 193 [pv p] H = some (.bool (Tg.Un.good p), H) := by
  refine LC_pure rfl Tryz.func193 rfl (Nat.le_of_ble_eq_true rfl) (by decide) (by kernel_rfl) rfl ?_
  unfold Tg.Un.good
  by_cases h1 : 1 ≤ p.b.length
  · have q1 := eq_true (show (1 : Int) ≤ (p.b.length : Int) by omega)
    by_cases h2 : p.b.length ≤ 64
    · have q2 := eq_true (show (p.b.length : Int) ≤ 64 by omega)
      by_cases h3 : p.m.length = p.b.length
      · have q3 := eq_true (show (p.m.length : Int) = (p.b.length : Int) by omega)
        simp [h1, h2, h3, q1, q2, q3]
      · have q3 := eq_false (show ¬ (p.m.length : Int) = (p.b.length : Int) by omega)
        simp [h1, h2, h3, q1, q2, q3]
    · have q2 := eq_false (show ¬ (p.b.length : Int) ≤ 64 by omega)
      simp [h1, h2, q1, q2]
  · have q1 := eq_false (show ¬ (1 : Int) ≤ (p.b.length : Int) by omega)
    simp [h1, q1]
theorem begins_cl (hs : s.length ≤ 1048576) : LC Tryz.prog EJ 196 [str s, pv p] H = some (.int .i64 (Tg.Un.begins p.s s), H) := by
  refine LC_pure rfl Tryz.func196 rfl (Nat.le_of_ble_eq_true rfl) (by decide) (by kernel_rfl) rfl ?_
  obtain ⟨x, hx⟩ : ∃ x, x = Tg.Un.begins p.s s := ⟨_, rfl⟩
  rw [← hx]
  simp
  refine loop_ind (fun (i : Nat) fr' H' => fr' 0 = str s ∧ fr' 3 = ptr H.n 0 ∧ fr' 5 = .int .i64 i ∧ i ≤ s.length ∧ x = i + Tg.Un.begins p.s (s.drop i) ∧ H' = H.new ⟨[str p.b, str p.m, str p.s, str p.t], 66, true⟩) (fun i => s.length - i) 0 ⟨by simp, by simp, by simp, Nat.zero_le _, by rw [hx]; simp, by simp⟩ ?_
  rintro i fr' H' ⟨h0, h3, h5, hi, hc, rfl⟩ ih
  by_cases hlt : i < s.length
  · have q := eq_true (show (i : Int) < (s.length : Int) by omega)
    have hat : at_ s (i : Int) = s[i] := at_in hlt
    have hw : IntKind.i64.wrap ((i : Int) + 1) = ((i + 1 : Nat) : Int) := by rw [wrapI (by omega) (by omega)]; omega
    rw [List.drop_eq_getElem_cons hlt] at hc
    have hix := idxU p.s s[i]
    unfold Tg.Un.begins at hc
    generalize s[i] = b at *
    cases hb : p.s.contains b with
    | true =>
      rw [hb, if_pos rfl] at hc
      rw [hb] at hix
      have qq := eq_true (of_decide_eq_true hix.symm)
      simp [h0, h3, h5, q, hat, qq]
      refine ih (i + 1) _ _ (by omega) ⟨?_, ?_, ?_, by omega, by omega, rfl⟩
      all_goals simp [h0, h3, hw]
    | false =>
      rw [hb, if_neg (by decide)] at hc
      rw [hb] at hix
      have qq := eq_false (of_decide_eq_false hix.symm)
      simp [h0, h3, h5, q, hat, qq, hc]
  · have q := eq_false (show ¬ (i : Int) < (s.length : Int) by omega)
    rw [List.drop_of_length_le (by omega)] at hc
    have hc : x = i := by rw [hc]; simp [Tg.Un.begins]
    simp [h0, h3, h5, q, hc]
theorem bAnd8 {a b : UInt8} : bAnd .u8 (a.toNat : Int) (b.toNat : Int) = ((a &&& b).toNat : Int) := by
  have h1 := a.toNat_lt
  have h2 := b.toNat_lt
  unfold bAnd
  rw [BitVec.toNat_and, show IntKind.u8.bits = 8 from rfl, ofInt_nat, ofInt_nat, Nat.mod_eq_of_lt (by omega), Nat.mod_eq_of_lt (by omega), UInt8.toNat_and]
  have := Nat.and_le_left (n := a.toNat) (m := b.toNat)
  rw [show IntKind.u8.wrap ((a.toNat &&& b.toNat : Nat) : Int) = ((a.toNat &&& b.toNat : Nat) : Int) % 256 from IntKind.wrap_u8 _]; omega
theorem fits_cl (hs : s.length ≤ 1048576) (hb : p.b.length ≤ 1048576) (hm : p.m.length = p.b.length) : LC Tryz.prog EJ 194 [str s, pv p] H = some (.tuple #[.int .i64 (Tg.Un.fitN (Tg.Un.rest p s) p.b p.m).1, .bool (Tg.Un.fitN (Tg.Un.rest p s) p.b p.m).2], H) := by
  refine LC_pure rfl Tryz.func194 rfl (Nat.le_of_ble_eq_true rfl) (by decide) (by kernel_rfl) rfl ?_
  have hbl := Tg.Un.begins_le p.s s
  have h1 := fun H : LH => begins_cl (H := H) (s := s) (p := p) hs
  obtain ⟨r, hr⟩ : ∃ r, r = Tg.Un.rest p s := ⟨_, rfl⟩
  have hr2 : s.drop (Tg.Un.begins p.s s) = r := hr.symm
  have hrl : r.length ≤ 1048576 := by rw [hr]; unfold Tg.Un.rest; simp; omega
  rw [← hr]
  obtain ⟨x, hx⟩ : ∃ x, x = Tg.Un.fitN r p.b p.m := ⟨_, rfl⟩
  rw [← hx]
  have q0 := eq_true (show (Tg.Un.begins p.s s : Int) ≤ (s.length : Int) by omega)
  obtain ⟨n, hn⟩ : ∃ n, n = min r.length p.b.length := ⟨_, rfl⟩
  have hmin : (if (p.b.length : Int) < (r.length : Int) then (p.b.length : Int) else (r.length : Int)) = (n : Int) := by split <;> omega
  have hmin2 : (if p.b.length < r.length then (p.b.length : Int) else (r.length : Int)) = (n : Int) := by split <;> omega
  simp [h1, q0, hr2, hmin, hmin2]
  refine loop_ind (fun (i : Nat) fr' H' => fr' 0 = str r ∧ fr' 3 = ptr H.n 0 ∧ fr' 6 = .int .i64 n ∧ fr' 19 = .int .i64 n ∧ fr' 20 = .int .i64 i ∧ i ≤ n ∧ x = (i + (Tg.Un.fitN (r.drop i) (p.b.drop i) (p.m.drop i)).1, (Tg.Un.fitN (r.drop i) (p.b.drop i) (p.m.drop i)).2) ∧ H' = H.new ⟨[str p.b, str p.m, str p.s, str p.t], 66, true⟩) (fun i => n - i) 0 ⟨by simp, by simp, by simp, by simp, by simp, Nat.zero_le _, by rw [hx]; simp, by simp⟩ ?_
  rintro i fr' H' ⟨g0, g3, g6, g19, g20, hi, hc, rfl⟩ ih
  by_cases hlt : i < n
  · have q := eq_true (show (i : Int) < (n : Int) by omega)
    have l1 : i < r.length := by omega
    have l2 : i < p.b.length := by omega
    have l3 : i < p.m.length := by omega
    have hat : at_ r (i : Int) = r[i] := at_in l1
    have hat2 : at_ p.b (i : Int) = p.b[i] := at_in l2
    have hat3 : at_ p.m (i : Int) = p.m[i] := at_in l3
    have q1 := eq_true (show (i : Int) < (r.length : Int) by omega)
    have q2 := eq_true (show (i : Int) < (p.b.length : Int) by omega)
    have q3 := eq_true (show (i : Int) < (p.m.length : Int) by omega)
    have hw : IntKind.i64.wrap ((i : Int) + 1) = ((i + 1 : Nat) : Int) := by rw [wrapI (by omega) (by omega)]; omega
    rw [List.drop_eq_getElem_cons l1, List.drop_eq_getElem_cons l2, List.drop_eq_getElem_cons l3] at hc
    generalize r[i] = c at *
    generalize p.b[i] = b at *
    generalize p.m[i] = m at *
    unfold Tg.Un.fitN at hc
    by_cases hcb : c &&& m = b
    · rw [if_pos hcb] at hc
      simp [g0, g3, g6, g19, g20, q, hat, hat2, hat3, q1, q2, q3, bAnd8, hcb]
      refine ih (i + 1) _ _ (by omega) ⟨?_, ?_, ?_, ?_, ?_, by omega, by rw [hc]; simp only [Prod.mk.injEq]; exact ⟨by omega, trivial⟩, rfl⟩
      all_goals simp [g0, g3, g6, g19, g20, hw]
    · rw [if_neg hcb] at hc
      have hne := tn_ne hcb
      simp only [UInt8.toNat_and] at hne
      simp [g0, g3, g6, g19, g20, q, hat, hat2, hat3, q1, q2, q3, bAnd8, hne, hc]
  · have q := eq_false (show ¬ (i : Int) < (n : Int) by omega)
    have hin : i = n := by omega
    have he : Tg.Un.fitN (r.drop i) (p.b.drop i) (p.m.drop i) = (0, true) := by
      by_cases h : r.length ≤ i
      · rw [List.drop_of_length_le h]; unfold Tg.Un.fitN; rfl
      · rw [show p.b.drop i = [] from List.drop_of_length_le (by omega)]; unfold Tg.Un.fitN; split <;> simp_all
    rw [he] at hc
    subst hin
    simp [g0, g3, g6, g19, g20, q, hc]
theorem match_cl (hs : s.length ≤ 1048576) : LC Tryz.prog EJ 153 [str s, pv p] H = some (.bool (Tg.Un.hits p s), H) := by
  refine LC_pure rfl Tryz.func153 rfl (Nat.le_of_ble_eq_true rfl) (by decide) (by kernel_rfl) rfl ?_
  have h1 := fun H : LH => good_cl (H := H) (p := p)
  unfold Tg.Un.hits
  cases hg : Tg.Un.good p with
  | false => rw [hg] at h1; simp [h1]
  | true =>
    rw [hg] at h1
    obtain ⟨⟨g1, g2⟩, g3⟩ : (1 ≤ p.b.length ∧ p.b.length ≤ 64) ∧ p.m.length = p.b.length := by simpa [Tg.Un.good] using hg
    have h2 := fun H : LH => fits_cl (H := H) (s := s) (p := p) hs (by omega) g3
    have e2 := Tg.Un.fitN_2 (Tg.Un.rest p s) p.b p.m
    have e1 := Tg.Un.fitN_1 (Tg.Un.rest p s) p.b p.m g3
    generalize Tg.Un.fitN (Tg.Un.rest p s) p.b p.m = x at *
    obtain ⟨k, f⟩ := x
    simp only at e1 e2
    subst e2
    cases hf : Tg.Un.fit (Tg.Un.rest p s) p.b p.m with
    | false => rw [hf] at h2; simp [h1, h2]
    | true =>
      rw [hf] at h2
      have e1 := e1 hf
      subst e1
      by_cases hl : p.b.length ≤ (Tg.Un.rest p s).length
      · have q := eq_true (show ((min (Tg.Un.rest p s).length p.b.length : Nat) : Int) = (p.b.length : Int) by omega)
        simp [h1, h2, q, hl]
      · have q := eq_false (show ¬ ((min (Tg.Un.rest p s).length p.b.length : Nat) : Int) = (p.b.length : Int) by omega)
        simp [h1, h2, q, hl]
theorem Match_cl (hs : s.length ≤ 1048576) : LC Tryz.prog EJ 110 [str s, pv p] H = some (.bool (Tg.Un.hits p s), H) := by
  refine LC_pure rfl Tryz.func110 rfl (Nat.le_of_ble_eq_true rfl) (by decide) (by kernel_rfl) rfl ?_
  have h1 := fun H : LH => match_cl (H := H) (s := s) (p := p) hs
  simp [h1]
theorem Begins_cl (hs : s.length ≤ 1048576) : LC Tryz.prog EJ 157 [str s, pv p] H = some (.int .i64 (Tg.Un.begins p.s s), H) := by
  refine LC_pure rfl Tryz.func157 rfl (Nat.le_of_ble_eq_true rfl) (by decide) (by kernel_rfl) rfl ?_
  have h1 := fun H : LH => begins_cl (H := H) (s := s) (p := p) hs
  simp [h1]
end
end Go.Proofs.YtombmblgmbjieaaGreatDoor
/-
  Layer 20 (unknown): the first pattern that matches; lists of strings; by the code.
-/
set_option linter.unusedSimpArgs false
set_option linter.unusedVariables false
set_option maxRecDepth 100000
namespace Tg.Un
/-- where a list's first element stands of which something holds -/
def idx {α : Type} (q : α → Bool) : List α → Nat → Int
  | [], _ => -1
  | x :: l, i => if q x = true then i else idx q l (i + 1)
theorem idx_any {α : Type} (q : α → Bool) : ∀ (l : List α) (i : Nat), decide (0 ≤ idx q l i) = l.any q
  | [], i => by simp [idx]
  | x :: l, i => by
    unfold idx
    cases h : q x with
    | true => rw [if_pos rfl]; simp [h]
    | false => rw [if_neg (by decide), idx_any q l (i + 1)]; simp [h]
/-- the first text that is not empty -/
def or_ : List (List UInt8) → List UInt8
  | [] => []
  | s :: l => if s = [] then or_ l else s
end Tg.Un
namespace Go.Proofs.YtombmblgmbjieaaGreatDoor
open Go.Lg Go.Tg
section
variable {H : LH} {s t : List UInt8} {c : UInt8} {p : Tg.Un.Pat} {v : Value} {l : List Tg.Un.Pat} {xs : List (List UInt8)}
theorem find1_cl {k : Nat} {e : TypeId} (hs : s.length ≤ 1048576) (hk : H.get k = some ⟨[str s], e, true⟩) (hkn : k < H.n) : LC Tryz.prog EJ 179 [pv p, ptr k 0] H = some (.bool (Tg.Un.hits p s), H) := by
  refine LC_pure rfl Tryz.func179 rfl (Nat.le_of_ble_eq_true rfl) (by decide) (by kernel_rfl) rfl ?_
  have h1 := fun H : LH => match_cl (H := H) (s := s) (p := p) hs
  have hkn' : k ≠ H.n := by omega
  simp [h1, hk, get_new_ne, hkn']
theorem indexP_cl {k : Nat} {e : TypeId} (hr : PRow H v l) (hl : l.length ≤ 1000000) (hs : s.length ≤ 1048576) (hk : H.get k = some ⟨[str s], e, true⟩) (hkn : k < H.n) :
    LC Tryz.prog EJ 178 [v, .func (.func 179) #[] #[ptr k 0]] H = some (.int .i64 (Tg.Un.at_ s l 0), H) := by
  refine LC_pure rfl Tryz.func178 rfl (Nat.le_of_ble_eq_true rfl) (by decide) (by kernel_rfl) rfl ?_
  obtain ⟨x, hx⟩ : ∃ x, x = Tg.Un.at_ s l 0 := ⟨_, rfl⟩
  rw [← hx]
  simp [hr.len]
  refine loop_ind (fun (i : Nat) fr' H' => fr' 0 = v ∧ fr' 1 = .func (.func 179) #[] #[ptr k 0] ∧ fr' 7 = .int .i64 l.length ∧ fr' 8 = .int .i64 i ∧ i ≤ l.length ∧ x = Tg.Un.at_ s (l.drop i) i ∧ H' = H) (fun i => l.length - i) 0 ⟨by simp, by simp, by simp, by simp, Nat.zero_le _, hx, rfl⟩ ?_
  rintro i fr' H' ⟨h0, h1, h7, h8, hi, hc, rfl⟩ ih
  by_cases hlt : i < l.length
  · have q := eq_true (show (i : Int) < (l.length : Int) by omega)
    have hw : IntKind.i64.wrap ((i : Int) + 1) = ((i + 1 : Nat) : Int) := by rw [wrapI (by omega) (by omega)]; omega
    obtain ⟨k2, o, g1, g2, g3⟩ := hr.at hlt
    obtain ⟨g4, _⟩ := g3 H' rfl
    have ho := find1_cl (H := H') (p := l[i]) hs hk hkn
    rw [List.drop_eq_getElem_cons hlt] at hc
    generalize l[i] = a at *
    unfold Tg.Un.at_ at hc
    cases hf : Tg.Un.hits a s with
    | true =>
      rw [hf, if_pos rfl] at hc
      rw [hf] at ho
      subst hc
      simp [h0, h1, h7, h8, q, hlt, g1, g4, ho]
    | false =>
      rw [hf, if_neg (by decide)] at hc
      rw [hf] at ho
      simp [h0, h1, h7, h8, q, hlt, g1, g4, ho]
      refine ih (i + 1) _ _ (by omega) ⟨?_, ?_, ?_, ?_, by omega, hc, rfl⟩
      all_goals simp [h0, h1, h7, hw]
  · have q := eq_false (show ¬ (i : Int) < (l.length : Int) by omega)
    rw [List.drop_of_length_le (by omega)] at hc
    have hc : x = -1 := hc
    subst hc
    simp [h0, h1, h7, h8, q, hlt]
theorem find_cl (hr : PRow H v l) (hl : l.length ≤ 1000000) (hs : s.length ≤ 1048576) : LC Tryz.prog EJ 136 [str s, v] H = some (.int .i64 (Tg.Un.at_ s l 0), H) := by
  refine LC_pure rfl Tryz.func136 rfl (Nat.le_of_ble_eq_true rfl) (by decide) (by kernel_rfl) rfl ?_
  have hr' : PRow (H.new ⟨[str s], 9, true⟩) v l := hr.keep (Nat.le_succ _) (fun k hk => get_new_ne (by omega))
  have h1 := indexP_cl (k := H.n) (e := 9) hr' hl hs (by simp) (by simp)
  simp [h1]
theorem mtype_cl (hr : PRow H v l) (hl : l.length ≤ 1000000) (hs : s.length ≤ 1048576) : LC Tryz.prog EJ 95 [str s, v] H = some (str (Tg.Un.typeOf s l), H) := by
  refine LC_pure rfl Tryz.func95 rfl (Nat.le_of_ble_eq_true rfl) (by decide) (by kernel_rfl) rfl ?_
  have h1 := find_cl hr hl hs
  by_cases hx : Tg.Un.at_ s l 0 < 0
  · rw [Tg.Un.at_none hx]
    simp [h1, hx]
  · obtain ⟨k, hk, e1, e2⟩ := Tg.Un.at_some (s := s) (l := l) (i := 0) (by omega)
    rw [e2]
    rw [e1] at h1
    obtain ⟨k2, o, g1, g2, g3⟩ := hr.at hk
    obtain ⟨_, _, _, _, g4⟩ := g3 H rfl
    have q := eq_false (show ¬ ((0 + k : Nat) : Int) < 0 by omega)
    rw [Nat.zero_add] at h1 q
    simp [h1, q, g1, g4]
/-! ### strings -/
theorem indexS_cl {g : FuncId} {caps : List Value} {q : List UInt8 → Bool} (hr : SRow H v xs) (hl : xs.length ≤ 1000000) (hg : ∀ x ∈ xs, LC Tryz.prog EJ g (str x :: caps) H = some (.bool (q x), H)) :
    LC Tryz.prog EJ 155 [v, .func (.func g) #[] ⟨caps⟩] H = some (.int .i64 (Tg.Un.idx q xs 0), H) := by
  refine LC_pure rfl Tryz.func155 rfl (Nat.le_of_ble_eq_true rfl) (by decide) (by kernel_rfl) rfl ?_
  obtain ⟨x, hx⟩ : ∃ x, x = Tg.Un.idx q xs 0 := ⟨_, rfl⟩
  rw [← hx]
  simp [hr.len]
  refine loop_ind (fun (i : Nat) fr' H' => fr' 0 = v ∧ fr' 1 = .func (.func g) #[] ⟨caps⟩ ∧ fr' 7 = .int .i64 xs.length ∧ fr' 8 = .int .i64 i ∧ i ≤ xs.length ∧ x = Tg.Un.idx q (xs.drop i) i ∧ H' = H) (fun i => xs.length - i) 0 ⟨by simp, by simp, by simp, by simp, Nat.zero_le _, hx, rfl⟩ ?_
  rintro i fr' H' ⟨h0, h1, h7, h8, hi, hc, rfl⟩ ih
  have hcal : ∀ a H2, lcallee Tryz.prog (LC Tryz.prog EJ) (.func (.func g) #[] ⟨caps⟩) [a] H2 = LC Tryz.prog EJ g (a :: caps) H2 := fun a H2 => rfl
  by_cases hlt : i < xs.length
  · have qq := eq_true (show (i : Int) < (xs.length : Int) by omega)
    have hw : IntKind.i64.wrap ((i : Int) + 1) = ((i + 1 : Nat) : Int) := by rw [wrapI (by omega) (by omega)]; omega
    obtain ⟨k2, o, g1, g2, g3⟩ := hr.at hlt
    have g4 := g3 H' rfl
    have ho := hg xs[i] (List.getElem_mem hlt)
    rw [List.drop_eq_getElem_cons hlt] at hc
    generalize xs[i] = a at *
    unfold Tg.Un.idx at hc
    cases hf : q a with
    | true =>
      rw [hf, if_pos rfl] at hc
      rw [hf] at ho
      subst hc
      simp [h0, h1, h7, h8, qq, hlt, g1, g4, hcal, ho]
    | false =>
      rw [hf, if_neg (by decide)] at hc
      rw [hf] at ho
      simp [h0, h1, h7, h8, qq, hlt, g1, g4, hcal, ho]
      refine ih (i + 1) _ _ (by omega) ⟨?_, ?_, ?_, ?_, by omega, hc, rfl⟩
      all_goals simp [h0, h1, h7, hw]
  · have qq := eq_false (show ¬ (i : Int) < (xs.length : Int) by omega)
    rw [List.drop_of_length_le (by omega)] at hc
    have hc : x = -1 := hc
    subst hc
    simp [h0, h1, h7, h8, qq, hlt]
theorem containsS_cl {g : FuncId} {caps : List Value} {q : List UInt8 → Bool} (hr : SRow H v xs) (hl : xs.length ≤ 1000000) (hg : ∀ x ∈ xs, LC Tryz.prog EJ g (str x :: caps) H = some (.bool (q x), H)) :
    LC Tryz.prog EJ 112 [v, .func (.func g) #[] ⟨caps⟩] H = some (.bool (xs.any q), H) := by
  refine LC_pure rfl Tryz.func112 rfl (Nat.le_of_ble_eq_true rfl) (by decide) (by kernel_rfl) rfl ?_
  have h1 := indexS_cl hr hl hg
  have h2 := Tg.Un.idx_any q xs 0
  rw [← h2]
  simp [h1]
theorem or_cl (hr : SRow H v xs) (hl : xs.length ≤ 1000000) : LC Tryz.prog EJ 92 [v] H = some (str (Tg.Un.or_ xs), H) := by
  refine LC_pure rfl Tryz.func92 rfl (Nat.le_of_ble_eq_true rfl) (by decide) (by kernel_rfl) rfl ?_
  obtain ⟨x, hx⟩ : ∃ x, x = Tg.Un.or_ xs := ⟨_, rfl⟩
  rw [← hx]
  simp [hr.len]
  refine loop_ind (fun (i : Nat) fr' H' => fr' 0 = v ∧ fr' 3 = str [] ∧ fr' 6 = v ∧ fr' 7 = .int .i64 xs.length ∧ fr' 8 = .int .i64 i ∧ i ≤ xs.length ∧ x = Tg.Un.or_ (xs.drop i) ∧ H' = H) (fun i => xs.length - i) 0 ⟨by simp, by simp, by simp, by simp, by simp, Nat.zero_le _, hx, rfl⟩ ?_
  rintro i fr' H' ⟨h0, h3, h6, h7, h8, hi, hc, rfl⟩ ih
  by_cases hlt : i < xs.length
  · have qq := eq_true (show (i : Int) < (xs.length : Int) by omega)
    have hw : IntKind.i64.wrap ((i : Int) + 1) = ((i + 1 : Nat) : Int) := by rw [wrapI (by omega) (by omega)]; omega
    obtain ⟨k2, o, g1, g2, g3⟩ := hr.at hlt
    have g4 := g3 H' rfl
    rw [List.drop_eq_getElem_cons hlt] at hc
    generalize xs[i] = a at *
    unfold Tg.Un.or_ at hc
    by_cases hf : a = []
    · subst hf
      rw [if_pos rfl] at hc
      simp [h0, h3, h6, h7, h8, qq, hlt, g1, g4]
      refine ih (i + 1) _ _ (by omega) ⟨?_, ?_, ?_, ?_, ?_, by omega, hc, rfl⟩
      all_goals simp [h0, h3, h6, h7, hw]
    · rw [if_neg hf] at hc
      subst hc
      simp [h0, h3, h6, h7, h8, qq, hlt, g1, g4, hf]
  · have qq := eq_false (show ¬ (i : Int) < (xs.length : Int) by omega)
    rw [List.drop_of_length_le (by omega)] at hc
    have hc : x = [] := hc
    subst hc
    simp [h0, h3, h6, h7, h8, qq, hlt]
end
end Go.Proofs.YtombmblgmbjieaaGreatDoor
/-
  Layer 20 (unknown): tags, by the code.
-/
set_option linter.unusedSimpArgs false
set_option linter.unusedVariables false
set_option maxRecDepth 100000
namespace Go.Proofs.YtombmblgmbjieaaGreatDoor
open Go.Lg Go.Tg
def u8c (l : List UInt8) : List Value := l.map fun b => Value.int .u8 b.toNat
theorem u8c_len (l : List UInt8) : (u8c l).length = l.length := by simp [u8c]
theorem lst_u8 {H : LH} {k i : Nat} {l : List UInt8} {e : TypeId} (hk : H.get k = some ⟨u8c l, e, true⟩) (hi : i < l.length) (b : UInt8) : lst Tryz.prog 5 (ptr k i) (.int .u8 b.toNat) H = some (undef, H.set k ⟨u8c (l.set i b), e, true⟩) := by
  rw [lst_cell hk rfl (by kernel_rfl) rfl (by rw [u8c_len]; exact hi)]
  simp [u8c, List.map_set]
theorem lld_u8 {H : LH} {k i : Nat} {l : List UInt8} {e : TypeId} {r : Bool} (hk : H.get k = some ⟨u8c l, e, r⟩) (hi : i < l.length) : lld Tryz.prog 5 (ptr k i) H = some (.int .u8 l[i].toNat) := by
  rw [lld_ptr hk, show aggB Tryz.prog 5 = some false by kernel_rfl, lldb_cell]
  simp [u8c, hi]
theorem part_set {f : UInt8 → UInt8} {s r : List UInt8} {i : Nat} (hr : r.length = s.length) (hi : i < s.length) : ((s.take i).map f ++ r.drop i).set i (f s[i]) = (s.take (i + 1)).map f ++ r.drop (i + 1) := by
  have h1 : ((s.take i).map f).length = i := by simp; omega
  rw [List.set_append_right _ _ (by omega), h1, Nat.sub_self, List.drop_eq_getElem_cons (by omega : i < r.length), List.set_cons_zero, List.take_add_one, List.getElem?_eq_getElem hi, List.map_append, List.append_assoc]
  rfl
theorem part_at {f : UInt8 → UInt8} {s r : List UInt8} {i : Nat} (hr : r.length = s.length) (hi : i < s.length) : ((s.take i).map f ++ r.drop i)[i]'(by simp; omega) = r[i] := by
  rw [List.getElem_append_right (by simp; omega)]
  simp [Nat.min_eq_left (Nat.le_of_lt hi)]
theorem lbs_u8c : ∀ l : List UInt8, lbs (u8c l) = some l
  | [] => rfl
  | b :: l => by
    show (lbyte (.int .u8 b.toNat)).bind _ = _
    have : lbyte (.int .u8 (b.toNat : Int)) = some b := by simp [lbyte]
    rw [this]
    show (lbs (u8c l)).map (b :: ·) = _
    rw [lbs_u8c l]; rfl
theorem lconv_u8 {H : LH} {k c : Nat} {l : List UInt8} {e : TypeId} {r : Bool} (hk : H.get k = some ⟨u8c l, e, r⟩) : lconv Tryz.prog 57 9 (.slice (some ⟨k, 0, none⟩) l.length c) H = some (str l) :=
  lconv_bs (b := ⟨u8c l, e, r⟩) Tryz.underlying57 Tryz.underlying9 Tryz.underlying5 hk (by rw [u8c_len]; omega) (by
    show lbs (((u8c l).drop 0).take l.length) = some l
    rw [List.drop_zero, List.take_of_length_le (by rw [u8c_len]; exact Nat.le_refl _), lbs_u8c])
structure TagAt (H : LH) (s : List UInt8) (i : Nat) (H' : LH) : Prop where
  n : H'.n = H.n + 3
  z : H'.get H.n = some ⟨[str [], str [], str [], str []], 66, true⟩
  b : H'.get (H.n + 1) = some ⟨u8c ((s.take i).map Tg.Un.up ++ s.drop i), MK Tryz.prog 5, true⟩
  m : H'.get (H.n + 2) = some ⟨u8c ((s.take i).map Tg.Un.msk ++ (List.replicate s.length 0).drop i), 5, true⟩
  old : ∀ l, l < H.n → H'.get l = H.get l
section
variable {H : LH} {s t : List UInt8}
theorem tag_cl (hs : s.length ≤ 1000000) : LC Tryz.prog EJ 111 [str s, str t] H = some (pv (Tg.Un.tag s t), H) := by
  refine LC_pure rfl Tryz.func111 rfl (Nat.le_of_ble_eq_true rfl) (by decide) (by kernel_rfl) rfl ?_
  have qm := eq_true (show s.length ≤ maxLen by unfold maxLen; omega)
  have q0 := eq_true (show (0 : Int) ≤ (s.length : Int) by omega)
  have q1 := eq_true (show s.length ≤ 1048576 by omega)
  have q2 := eq_true (show (s.length : Int) ≤ 1048576 by omega)
  simp [qm, q0, q1, q2]
  refine loop_ind (fun (i : Nat) fr' H' => fr' 0 = str s ∧ fr' 1 = str t ∧ fr' 4 = ptr H.n 0 ∧ fr' 5 = sl (H.n + 1) s.length s.length ∧ fr' 6 = sl (H.n + 2) s.length s.length ∧ fr' 14 = .int .i64 s.length ∧ fr' 15 = .int .i64 i ∧ i ≤ s.length ∧ TagAt H s i H') (fun i => s.length - i) 0 ⟨by simp, by simp, by simp, by simp, by simp, by simp, by simp, Nat.zero_le _, ⟨by simp, ?_, ?_, ?_, fun l hl => ?_⟩⟩ ?_
  · rw [get_new_ne (by simp; omega), get_new_ne (by simp), get_new]
  · rw [get_new_ne (by simp), show H.n + 1 = (H.new ⟨[str [], str [], str [], str []], 66, true⟩).n from rfl, get_new]; simp [u8c]
  · rw [show H.n + 2 = ((H.new ⟨[str [], str [], str [], str []], 66, true⟩).new ⟨s.map fun b => Value.int .u8 b.toNat, MK Tryz.prog 5, true⟩).n from rfl, get_new]; simp [u8c]
  · rw [get_new_ne (by simp; omega), get_new_ne (by simp; omega), get_new_ne (by omega)]
  rintro i fr' H' ⟨g0, g1, g4, g5, g6, g14, g15, hi, hT⟩ ih
  obtain ⟨hn, hz, hb, hm, ho⟩ := hT
  by_cases hlt : i < s.length
  · have q := eq_true (show (i : Int) < (s.length : Int) by omega)
    have hw : IntKind.i64.wrap ((i : Int) + 1) = ((i + 1 : Nat) : Int) := by rw [wrapI (by omega) (by omega)]; omega
    have hL := fun H : LH => Letter_cl (H := H) (c := s[i])
    have lm : i < ((s.take i).map Tg.Un.msk ++ (List.replicate s.length (0 : UInt8)).drop i).length := by simp; omega
    have lb : i < ((s.take i).map Tg.Un.up ++ s.drop i).length := by simp; omega
    obtain ⟨M, hM⟩ : ∃ M, M = (s.take i).map Tg.Un.msk ++ (List.replicate s.length (0 : UInt8)).drop i := ⟨_, rfl⟩
    have s1 : lst Tryz.prog 5 (ptr (H.n + 2) i) (.int .u8 255) H' = some (undef, H'.set (H.n + 2) ⟨u8c (((s.take i).map Tg.Un.msk ++ (List.replicate s.length (0 : UInt8)).drop i).set i 255), 5, true⟩) := lst_u8 (H := H') hm lm 255
    have e1 : (H'.set (H.n + 2) ⟨u8c (((s.take i).map Tg.Un.msk ++ (List.replicate s.length (0 : UInt8)).drop i).set i 255), 5, true⟩).get (H.n + 1) = some ⟨u8c ((s.take i).map Tg.Un.up ++ s.drop i), MK Tryz.prog 5, true⟩ := by rw [get_set_ne (by omega)]; exact hb
    have s2 := lld_u8 (i := i) e1 lb
    rw [part_at rfl hlt] at s2
    have hmk := part_set (f := Tg.Un.msk) (s := s) (r := List.replicate s.length (0 : UInt8)) (by simp) hlt
    have hup := part_set (f := Tg.Un.up) (s := s) (r := s) rfl hlt
    cases hc : Tg.Un.letter s[i] with
    | false =>
      rw [hc] at hL
      have u1 : Tg.Un.up s[i] = s[i] := by unfold Tg.Un.up; rw [hc]; rfl
      have u2 : Tg.Un.msk s[i] = 255 := by unfold Tg.Un.msk; rw [hc]; rfl
      rw [u2] at hmk
      rw [hmk] at s1 e1 s2
      generalize hB : (s.take (i + 1)).map Tg.Un.msk ++ (List.replicate s.length (0 : UInt8)).drop (i + 1) = M' at *
      simp [g0, g1, g4, g5, g6, g14, g15, q, s1, s2, hL]
      refine ih (i + 1) _ _ (by omega) ⟨?_, ?_, ?_, ?_, ?_, ?_, ?_, by omega, ⟨?_, ?_, ?_, ?_, fun l hl => ?_⟩⟩
      · simp [g0]
      · simp [g1]
      · simp [g4]
      · simp [g5]
      · simp [g6]
      · simp [g14]
      · simp [hw]
      · simp [hn]
      · rw [get_set_ne (by omega)]; exact hz
      · rw [get_set_ne (by omega), hb, ← hup, u1]
        rw [← part_at (f := Tg.Un.up) rfl hlt, List.set_getElem_self]
      · rw [get_set, hB]
      · rw [get_set_ne (by omega)]; exact ho l hl
    | true =>
      rw [hc] at hL
      have u1 : Tg.Un.up s[i] = s[i] &&& 223 := by unfold Tg.Un.up; rw [hc]; rfl
      have u2 : Tg.Un.msk s[i] = 223 := by unfold Tg.Un.msk; rw [hc]; rfl
      rw [u1] at hup
      rw [u2] at hmk
      have hb8 : bAnd .u8 (s[i].toNat : Int) 223 = ((s[i] &&& 223).toNat : Int) := bAnd8 (a := s[i]) (b := 223)
      have s3 := lst_u8 e1 lb (s[i] &&& 223)
      rw [hup] at s3
      generalize hH1 : H'.set (H.n + 2) ⟨u8c (((s.take i).map Tg.Un.msk ++ (List.replicate s.length (0 : UInt8)).drop i).set i 255), 5, true⟩ = H1 at *
      have e2 : (H1.set (H.n + 1) ⟨u8c ((s.take (i + 1)).map Tg.Un.up ++ s.drop (i + 1)), MK Tryz.prog 5, true⟩).get (H.n + 2) = some ⟨u8c (((s.take i).map Tg.Un.msk ++ (List.replicate s.length (0 : UInt8)).drop i).set i 255), 5, true⟩ := by
        rw [get_set_ne (by omega), ← hH1, get_set]
      have s4 : lst Tryz.prog 5 (ptr (H.n + 2) i) (.int .u8 223) (H1.set (H.n + 1) ⟨u8c ((s.take (i + 1)).map Tg.Un.up ++ s.drop (i + 1)), MK Tryz.prog 5, true⟩) = some (undef, _) := lst_u8 e2 (by rw [List.length_set]; exact lm) 223
      rw [List.set_set, hmk] at s4
      have hn1 : H1.n = H.n + 3 := by rw [← hH1]; exact hn
      have hg1 : ∀ l, l < H.n + 1 → H1.get l = H'.get l := fun l hl => by rw [← hH1, get_set_ne (by omega)]
      simp only [UInt8.toNat_and, show UInt8.toNat 223 = 223 from rfl] at hb8 s3
      generalize hB1 : (s.take (i + 1)).map Tg.Un.up ++ s.drop (i + 1) = B' at *
      generalize hB2 : (s.take (i + 1)).map Tg.Un.msk ++ (List.replicate s.length (0 : UInt8)).drop (i + 1) = M' at *
      generalize hB3 : ((s.take i).map Tg.Un.msk ++ (List.replicate s.length (0 : UInt8)).drop i).set i 255 = M2 at *
      simp [g0, g1, g4, g5, g6, g14, g15, q, s1, s2, hL, hb8, s3, s4]
      refine ih (i + 1) _ _ (by omega) ⟨?_, ?_, ?_, ?_, ?_, ?_, ?_, by omega, ⟨?_, ?_, ?_, ?_, fun l hl => ?_⟩⟩
      · simp [g0]
      · simp [g1]
      · simp [g4]
      · simp [g5]
      · simp [g6]
      · simp [g14]
      · simp [hw]
      · simp [hn1]
      · rw [get_set_ne (by omega), get_set_ne (by omega), hg1 _ (by omega)]; exact hz
      · rw [get_set_ne (by omega), get_set, hB1]
      · rw [get_set, hB2]
      · rw [get_set_ne (by omega), get_set_ne (by omega), hg1 _ (by omega)]; exact ho l hl
  · have q := eq_false (show ¬ (i : Int) < (s.length : Int) by omega)
    obtain rfl : i = s.length := by omega
    rw [List.take_length, List.drop_length, List.append_nil] at hb
    rw [List.take_length, List.drop_of_length_le (by simp), List.append_nil] at hm
    have c1 := fun (c : Nat) => lconv_u8 (c := c) hb
    have c2 := fun (c : Nat) => lconv_u8 (c := c) hm
    rw [List.length_map] at c1 c2
    have hw : Tg.Un.white = [9, 10, 12, 13, 32] := rfl
    simp [g0, g1, g4, g5, g6, g14, g15, q, hz, hn, c1, c2, Tg.Un.tag, hw, lfill_p4]
    exact ⟨by omega, fun l hl => ho l hl⟩
end
end Go.Proofs.YtombmblgmbjieaaGreatDoor
/-
  Layer 20 (unknown): four bytes of a cursor, and what is caught.
-/
set_option linter.unusedSimpArgs false
set_option linter.unusedVariables false
set_option maxRecDepth 100000
namespace Tg.Un
open Go
def numL : List UInt8 → Nat → Nat
  | [], n => n
  | c :: s, n => numL s (n * 256 + c.toNat)
theorem num4_l (s : List UInt8) (h : 4 ≤ s.length) : numL (s.take 4) 0 = num4 s := by
  match s, h with
  | a :: b :: c :: d :: r, _ => simp [numL, num4]
  | [], h => simp at h
  | [_], h => simp at h
  | [_, _], h => simp at h
  | [_, _, _], h => simp at h
theorem or_add {m n : Nat} (hn : n < 256) : m * 256 ||| n = m * 256 + n := by
  have := Nat.shiftLeft_add_eq_or_of_lt (i := 8) (b := n) (by omega) m
  rw [Nat.shiftLeft_eq] at this
  exact this.symm
theorem step32 {n : Nat} (h : n < 16777216) (c : UInt8) : Go.Lg.bOr .u32 (IntKind.u32.wrap ((n : Int) * 2 ^ min 8 IntKind.u32.bits)) (IntKind.u32.wrap (c.toNat : Int)) = ((n * 256 + c.toNat : Nat) : Int) := by
  have hc := c.toNat_lt
  have w1 : IntKind.u32.wrap ((n : Int) * 2 ^ min 8 IntKind.u32.bits) = ((n * 256 : Nat) : Int) := by
    rw [show (2 : Int) ^ min 8 IntKind.u32.bits = 256 from rfl, IntKind.wrap_u32]; omega
  have w2 : IntKind.u32.wrap (c.toNat : Int) = (c.toNat : Int) := by rw [IntKind.wrap_u32]; omega
  rw [w1, w2]
  unfold Go.Lg.bOr
  rw [BitVec.toNat_or, show IntKind.u32.bits = 32 from rfl, Go.Lg.ofInt_nat, Go.Lg.ofInt_nat, Nat.mod_eq_of_lt (by omega), Nat.mod_eq_of_lt (by omega), or_add (by omega), IntKind.wrap_u32]
  omega
end Tg.Un
namespace Go.Proofs.YtombmblgmbjieaaGreatDoor
open Go.Lg Go.Tg
abbrev cb (s : List UInt8) (i : Int) : LB := ⟨[str s, .int .i64 i], 190, true⟩
section
variable {H : LH} {s : List UInt8} {l : Nat}
theorem rest_cl (hk : H.get l = some (cb s 0)) : LC Tryz.prog EJ 289 [ptr l 0] H = some (str s, H) := by
  refine LC_pure rfl Tryz.func289 rfl (Nat.le_of_ble_eq_true rfl) (by decide) (by kernel_rfl) rfl ?_
  simp [hk]
theorem take_ok (hk : H.get l = some (cb s 0)) (h4 : 4 ≤ s.length) : R Tryz.prog EPu (.call 265 [ptr l 0, .int .i64 4] H (.ret (str (s.take 4))) (H.set l (cb s 4))) := by
  have h1 := rest_cl hk
  have q := eq_true (show (4 : Int) ≤ (s.length : Int) by omega)
  refine pcall_is Tryz.func265 rfl (Nat.le_of_ble_eq_true rfl) (by decide) (by kernel_rfl) ?_
  have hC := fun (x y : Int) => check_ok (H := H) (x := x) (y := y)
  simp [h1]
  refine hand_call_ret (g := 290) (first := #[]) (caps := #[]) (H1 := H) rfl rfl rfl (by simp) (by simpa using hC 0 8) rfl ?_
  simp [hk]
  refine hand_call_ret (g := 290) (first := #[]) (caps := #[]) (H1 := H) rfl rfl rfl (by simp) (by simpa using hC 0 9) rfl ?_
  simp [hk, q]
  refine hand_call_ret (g := 290) (first := #[]) (caps := #[]) (H1 := H) rfl rfl rfl (by simp) (by simpa using hC 0 8) rfl ?_
  simp [hk, q]
theorem take_bad (hk : H.get l = some (cb s 0)) (h4 : s.length < 4) : R Tryz.prog EPu (.call 265 [ptr l 0, .int .i64 4] H (.pan (.agg #[.int .i64 0, .int .i64 8])) H) := by
  have h1 := rest_cl hk
  have q := eq_false (show ¬ (4 : Int) ≤ (s.length : Int) by omega)
  refine pcall_is Tryz.func265 rfl (Nat.le_of_ble_eq_true rfl) (by decide) (by kernel_rfl) ?_
  have hC := fun (x y : Int) => check_ok (H := H) (x := x) (y := y)
  have hB := check_bad (H := H) (x := 0) (y := 8) (by decide)
  simp [h1]
  refine hand_call_ret (g := 290) (first := #[]) (caps := #[]) (H1 := H) rfl rfl rfl (by simp) (by simpa using hC 0 8) rfl ?_
  simp [hk]
  refine hand_call_ret (g := 290) (first := #[]) (caps := #[]) (H1 := H) rfl rfl rfl (by simp) (by simpa using hC 0 9) rfl ?_
  simp [hk, q]
  refine hand_call_pan (g := 290) (first := #[]) (caps := #[]) (H1 := H) rfl rfl rfl (by simp) (by simpa using hB) ?_
  simp
theorem u32_bad (hk : H.get l = some (cb s 0)) (h4 : s.length < 4) : R Tryz.prog EPu (.call 229 [ptr l 0] H (.pan (.agg #[.int .i64 0, .int .i64 8])) H) := by
  have ht := take_bad hk h4
  refine pcall_is Tryz.func229 rfl (Nat.le_of_ble_eq_true rfl) (by decide) (by kernel_rfl) ?_
  simp
  refine hand_call_pan (g := 265) (first := #[]) (caps := #[]) (H1 := H) rfl rfl rfl (by simp) (by simpa using ht) ?_
  simp
theorem u32_ok (hk : H.get l = some (cb s 0)) (h4 : 4 ≤ s.length) (hl : l < H.n) : ∃ H1, R Tryz.prog EPu (.call 229 [ptr l 0] H (.ret (.int .u32 (Tg.Un.num4 s))) H1) ∧ H.n ≤ H1.n ∧ ∀ k, k < H.n → k ≠ l → H1.get k = H.get k := by
  have key : ∃ r H1, R Tryz.prog EPu (.call 229 [ptr l 0] H r H1) ∧ (r = .ret (.int .u32 (Tg.Un.num4 s)) ∧ H.n ≤ H1.n ∧ ∀ k, k < H.n → k ≠ l → H1.get k = H.get k) := by
    have ht := take_ok hk h4
    have hnum := Tg.Un.num4_l s h4
    have hlen : (s.take 4).length = 4 := by rw [List.length_take]; omega
    refine pcall Tryz.func229 rfl (Nat.le_of_ble_eq_true rfl) (by decide) (by kernel_rfl) (Q := fun r H1 => r = .ret (.int .u32 (Tg.Un.num4 s)) ∧ H.n ≤ H1.n ∧ ∀ k, k < H.n → k ≠ l → H1.get k = H.get k) ?_
    rw [← hnum]
    generalize s.take 4 = L at *
    have q0 := eq_true (show L.length ≤ maxLen by rw [hlen]; decide)
    simp
    refine hand_call_ret (g := 265) (first := #[]) (caps := #[]) (H1 := H.set l (cb s 4)) rfl rfl rfl (by simp) (by simpa using ht) rfl ?_
    simp [q0, hlen]
    refine ploop_ind (fun (i : Nat) fr' H' p' => fr' 8 = sl H.n 4 4 ∧ fr' 9 = .int .i64 4 ∧ fr' 10 = .int .i64 i ∧ i ≤ 4 ∧ (∃ n : Nat, fr' 3 = .int .u32 n ∧ n < 256 ^ i ∧ Tg.Un.numL (L.drop i) n = Tg.Un.numL L 0) ∧ H' = (H.set l (cb s 4)).new ⟨u8c L, MK Tryz.prog 5, true⟩ ∧ p' = none) (fun i => 4 - i) 0 ⟨by simp, by simp, by simp, Nat.zero_le _, ⟨0, by simp, by decide, rfl⟩, by simp [u8c, show 4 ≤ maxLen by decide], rfl⟩ ?_
    rintro i fr' H' p' ⟨g8, g9, g10, hi, ⟨n, g3, hn, he⟩, rfl, rfl⟩ ih
    by_cases hlt : i < 4
    · have q := eq_true (show (i : Int) < 4 by omega)
      have hw : IntKind.i64.wrap ((i : Int) + 1) = ((i + 1 : Nat) : Int) := by rw [wrapI (by omega) (by omega)]; omega
      have hil : i < L.length := by omega
      have hb := lld_u8 (H := (H.set l (cb s 4)).new ⟨u8c L, MK Tryz.prog 5, true⟩) (k := H.n) (i := i) (r := true) (e := MK Tryz.prog 5) (l := L) (by rw [show H.n = (H.set l (cb s 4)).n from rfl, get_new]) hil
      rw [List.drop_eq_getElem_cons hil] at he
      generalize L[i] = c at *
      have hp : 256 ^ i ≤ 256 ^ 3 := Nat.pow_le_pow_right (by decide) (by omega)
      have hs := Tg.Un.step32 (n := n) (by omega) c
      simp [g3, g8, g9, g10, q, hb, hs]
      refine ih (i + 1) _ _ _ (by omega) ⟨?_, ?_, ?_, by omega, ⟨n * 256 + c.toNat, ?_, ?_, he⟩, rfl, rfl⟩
      · simp [g8]
      · simp [g9]
      · simp [hw]
      · simp
      · have := c.toNat_lt; rw [Nat.pow_succ]; omega
    · have q := eq_false (show ¬ (i : Int) < 4 by omega)
      rw [List.drop_of_length_le (by omega)] at he
      have he : n = Tg.Un.numL L 0 := he
      subst he
      simp [g3, g8, g9, g10, q]
      intro k hk hkl
      rw [get_new_ne (by rw [n_set]; omega), get_set_ne hkl]
  obtain ⟨r, H1, h1, rfl, h2, h3⟩ := key
  exact ⟨H1, h1, h2, h3⟩
abbrev fU (l : Nat) : Value := .func (.func 229) #[ptr l 0] #[]
@[simp] theorem agg_fn : aggB Tryz.prog 169 = some false := by kernel_rfl
@[simp] theorem sz_fn : sz Tryz.prog 169 = some 1 := by kernel_rfl
/-- the closure of trap.Value -/
theorem v1_ok {f v : Nat} {e : TypeId} {b : Bool} {x : Int} (hk : H.get l = some (cb s 0)) (h4 : 4 ≤ s.length) (hl : l < H.n) (hf : H.get f = some ⟨[fU l], e, b⟩) (hv : H.get v = some ⟨[.int .u32 x], 164, true⟩) (hvn : v < H.n) (hvl : v ≠ l) :
    ∃ H1 u, R Tryz.prog EPu (.call 264 [ptr f 0, ptr v 0] H (.ret u) H1) ∧ H.n ≤ H1.n ∧ H1.get v = some ⟨[.int .u32 (Tg.Un.num4 s)], 164, true⟩ ∧ ∀ k, k < H.n → k ≠ l → k ≠ v → H1.get k = H.get k := by
  obtain ⟨H1, hu, hn, ho⟩ := u32_ok hk h4 hl
  have key : ∃ r H2, R Tryz.prog EPu (.call 264 [ptr f 0, ptr v 0] H r H2) ∧ ((∃ u, r = .ret u) ∧ H2 = H1.set v ⟨[.int .u32 (Tg.Un.num4 s)], 164, true⟩) := by
    refine pcall Tryz.func264 rfl (Nat.le_of_ble_eq_true rfl) (by decide) (by kernel_rfl) (Q := fun r H2 => (∃ u, r = .ret u) ∧ H2 = H1.set v ⟨[.int .u32 (Tg.Un.num4 s)], 164, true⟩) ?_
    have hv1 := ho v hvn hvl
    rw [hv] at hv1
    simp [hf]
    refine hand_call_ret (g := 229) (first := #[ptr l 0]) (caps := #[]) (H1 := H1) rfl rfl rfl (by simp) (by simpa using hu) rfl ?_
    simp [hv1]
  obtain ⟨r, H2, h1, ⟨u, rfl⟩, rfl⟩ := key
  exact ⟨_, u, h1, by rw [n_set]; exact hn, get_set, fun k hk hkl hkv => by rw [get_set_ne hkv, ho k hk hkl]⟩
theorem v1_bad {f v : Nat} {e : TypeId} {b : Bool} (hk : H.get l = some (cb s 0)) (h4 : s.length < 4) (hf : H.get f = some ⟨[fU l], e, b⟩) :
    R Tryz.prog EPu (.call 264 [ptr f 0, ptr v 0] H (.pan (.agg #[.int .i64 0, .int .i64 8])) H) := by
  have hu := u32_bad hk h4
  refine pcall_is Tryz.func264 rfl (Nat.le_of_ble_eq_true rfl) (by decide) (by kernel_rfl) ?_
  simp [hf]
  refine hand_call_pan (g := 229) (first := #[ptr l 0]) (caps := #[]) (H1 := H) rfl rfl rfl (by simp) (by simpa using hu) ?_
  simp
theorem value_ok (hk : H.get l = some (cb s 0)) (h4 : 4 ≤ s.length) (hl : l < H.n) : ∃ H1, R Tryz.prog EPu (.call 227 [fU l] H (.ret (.tuple #[.int .u32 (Tg.Un.num4 s), fault0])) H1) ∧ H.n ≤ H1.n ∧ ∀ k, k < H.n → k ≠ l → H1.get k = H.get k := by
  have key : ∃ r H1, R Tryz.prog EPu (.call 227 [fU l] H r H1) ∧ (r = .ret (.tuple #[.int .u32 (Tg.Un.num4 s), fault0]) ∧ H.n ≤ H1.n ∧ ∀ k, k < H.n → k ≠ l → H1.get k = H.get k) := by
    refine pcall Tryz.func227 rfl (Nat.le_of_ble_eq_true rfl) (by decide) (by kernel_rfl) (Q := fun r H1 => r = .ret (.tuple #[.int .u32 (Tg.Un.num4 s), fault0]) ∧ H.n ≤ H1.n ∧ ∀ k, k < H.n → k ≠ l → H1.get k = H.get k) ?_
    have g0 : ∀ a b c : LB, (((H.new a).new b).new c).get H.n = some a := fun a b c => by rw [get_new_ne (by simp only [n_new]; omega), get_new_ne (by simp only [n_new]; omega), get_new]
    have g1 : ∀ a b c : LB, (((H.new a).new b).new c).get (H.n + 1 + 1) = some c := fun a b c => by rw [show H.n + 1 + 1 = ((H.new a).new b).n from rfl, get_new]
    have go : ∀ (a b c : LB) k, k < H.n → (((H.new a).new b).new c).get k = H.get k := fun a b c k hk => by rw [get_new_ne (by simp only [n_new]; omega), get_new_ne (by simp only [n_new]; omega), get_new_ne (by omega)]
    have hq : lbin Tryz.prog .eql 169 (fU l) .nilFunc = some (.bool false) := lbin_fn_eq Tryz.underlying169
    obtain ⟨H1, u, r1, n1, e1, o1⟩ := v1_ok (H := ((H.new ⟨[fU l], 169, true⟩).new ⟨[.int .i64 0, .int .i64 0], 166, true⟩).new ⟨[.int .u32 0], 164, true⟩) (l := l) (f := H.n) (v := H.n + 1 + 1) (x := 0) (by rw [go _ _ _ _ hl]; exact hk) h4 (by simp only [n_new]; omega) (g0 _ _ _) (g1 _ _ _) (by simp only [n_new]; omega) (by omega)
    have hcat : R Tryz.prog EPu (.call 263 [.func (.func 264) #[] #[ptr H.n 0, ptr (H.n + 1 + 1) 0]] _ (.ret (.tuple #[fault0, .bool false])) H1) := R.cat (E := EPu) rfl (by simpa using r1)
    have n2 : H.n + 3 ≤ H1.n := by simp only [n_new] at n1; omega
    have c2 : H1.get (H.n + 1) = some ⟨[.int .i64 0, .int .i64 0], 166, true⟩ := by
      rw [o1 _ (by simp only [n_new]; omega) (by omega) (by omega), get_new_ne (by simp only [n_new]; omega), show H.n + 1 = (H.new ⟨[fU l], 169, true⟩).n from rfl, get_new]
    have d1 : (H.n + 1 = H1.n) = False := eq_false (by omega)
    have d2 : (H.n + 1 + 1 = H1.n) = False := eq_false (by omega)
    have oo : ∀ k, k < H.n → k ≠ l → H1.get k = H.get k := fun k hk hkl => by rw [o1 k (by simp only [n_new]; omega) hkl (by omega), go _ _ _ k hk]
    simp [g0, hq]
    refine hand_call_ret (g := 263) (first := #[]) (caps := #[]) (H1 := H1) rfl rfl rfl (by simp) (by simpa using hcat) rfl ?_
    simp [fault0, e1, c2, d1, d2]
    exact ⟨by omega, fun k hk hkl => by rw [get_set_ne (by omega), get_new_ne (by omega)]; exact oo k hk hkl⟩
  obtain ⟨r, H1, h1, rfl, h2, h3⟩ := key
  exact ⟨H1, h1, h2, h3⟩
theorem value_bad (hk : H.get l = some (cb s 0)) (h4 : s.length < 4) (hl : l < H.n) : ∃ H1, R Tryz.prog EPu (.call 227 [fU l] H (.ret (.tuple #[.int .u32 0, .agg #[.int .i64 0, .int .i64 8]])) H1) ∧ H.n ≤ H1.n ∧ ∀ k, k < H.n → H1.get k = H.get k := by
  have key : ∃ r H1, R Tryz.prog EPu (.call 227 [fU l] H r H1) ∧ (r = .ret (.tuple #[.int .u32 0, .agg #[.int .i64 0, .int .i64 8]]) ∧ H.n ≤ H1.n ∧ ∀ k, k < H.n → H1.get k = H.get k) := by
    refine pcall Tryz.func227 rfl (Nat.le_of_ble_eq_true rfl) (by decide) (by kernel_rfl) (Q := fun r H1 => r = .ret (.tuple #[.int .u32 0, .agg #[.int .i64 0, .int .i64 8]]) ∧ H.n ≤ H1.n ∧ ∀ k, k < H.n → H1.get k = H.get k) ?_
    have g0 : ∀ a b c : LB, (((H.new a).new b).new c).get H.n = some a := fun a b c => by rw [get_new_ne (by simp only [n_new]; omega), get_new_ne (by simp only [n_new]; omega), get_new]
    have go : ∀ (a b c : LB) k, k < H.n → (((H.new a).new b).new c).get k = H.get k := fun a b c k hk => by rw [get_new_ne (by simp only [n_new]; omega), get_new_ne (by simp only [n_new]; omega), get_new_ne (by omega)]
    have hq : lbin Tryz.prog .eql 169 (fU l) .nilFunc = some (.bool false) := lbin_fn_eq Tryz.underlying169
    have r1 := v1_bad (H := ((H.new ⟨[fU l], 169, true⟩).new ⟨[.int .i64 0, .int .i64 0], 166, true⟩).new ⟨[.int .u32 0], 164, true⟩) (l := l) (f := H.n) (v := H.n + 1 + 1) (by rw [go _ _ _ _ hl]; exact hk) h4 (g0 _ _ _)
    have hcat : R Tryz.prog EPu (.call 263 [.func (.func 264) #[] #[ptr H.n 0, ptr (H.n + 1 + 1) 0]] _ (.ret (.tuple #[.agg #[.int .i64 0, .int .i64 8], .bool true])) _) := R.catp (E := EPu) rfl (by simpa using r1)
    have c2 : ∀ (a b c d : LB), ((((H.new a).new b).new c).new d).get (H.n + 1) = some b := fun a b c d => by rw [get_new_ne (by simp only [n_new]; omega), get_new_ne (by simp only [n_new]; omega), show H.n + 1 = (H.new a).n from rfl, get_new]
    have d3 : (H.n + 1 = H.n + 1 + 1 + 1) = False := eq_false (by omega)
    have d4 : (H.n + 1 + 1 + 1 = H.n + 1) = False := eq_false (by omega)
    simp [g0, hq]
    refine hand_call_ret (g := 263) (first := #[]) (caps := #[]) rfl rfl rfl (by simp) (by simpa using hcat) rfl ?_
    simp [c2, d3, d4]
    exact ⟨by omega, fun k hk => by rw [get_set_ne (by omega), get_new_ne (by simp only [n_new]; omega), go _ _ _ k hk]⟩
  obtain ⟨r, H1, h1, rfl, h2, h3⟩ := key
  exact ⟨H1, h1, h2, h3⟩
theorem New_l : LC Tryz.prog EJ 228 [str s] H = some (ptr H.n 0, H.new (cb s 0)) := by
  obtain ⟨r, h, e⟩ : ∃ r, LC Tryz.prog EJ 228 [str s] H = some (Lg.trunc H r) ∧ r = (ptr H.n 0, H.new (cb s 0)) := by
    refine LC_runs (P := Tryz.prog) (E := EJ) (f := 228) rfl Tryz.func228 rfl (Nat.le_of_ble_eq_true rfl) (by decide) (by kernel_rfl) ?_
    have hf : lfill Tryz.prog 190 [str [], .int .i64 0] [(0, str s)] = some [str s, .int .i64 0] := by
      rw [lfill_cell (o := 0) (n := 1) (g := false) (by simp) rfl (by simp) (by simp)]; simp
    simp [hf]
  rw [h, e, trunc_no (by simp [flatB, flat1B, atomB])]
theorem num4_lt (s : List UInt8) : Tg.Un.num4 s < 4294967296 := by
  unfold Tg.Un.num4
  split
  · rename_i a b c d r
    have h1 := a.toNat_lt
    have h2 := b.toNat_lt
    have h3 := c.toNat_lt
    have h4 := d.toNat_lt
    omega
  · decide
theorem size_ok (h4 : 4 ≤ s.length) : R Tryz.prog EPu (.call 186 [str s] H (.ret (.tuple #[.int .i64 (Tg.Un.num4 s), .bool true])) H) := by
  have hN := New_l (H := H) (s := s)
  obtain ⟨H1, r1, n1, o1⟩ := value_ok (H := H.new (cb s 0)) (l := H.n) (by rw [get_new]) h4 (Nat.lt_succ_self _)
  have hlt := num4_lt s
  have hw : IntKind.i64.wrap (Tg.Un.num4 s : Int) = (Tg.Un.num4 s : Int) := wrapI (by omega) (by omega)
  refine pcall_flat Tryz.func186 rfl (Nat.le_of_ble_eq_true rfl) (by decide) (by kernel_rfl) rfl ?_
  simp [hN]
  refine hand_mkf (g := 229) rfl rfl (by decide) rfl ?_
  simp
  refine hand_call_ret (g := 227) (first := #[]) (caps := #[]) (H1 := H1) rfl rfl rfl (by simp) (by simpa using r1) rfl ?_
  simp [fault0, hw]
  simp only [n_new] at n1
  exact ⟨by show H.n ≤ H1.n + 1; omega, fun k hk => by rw [get_new_ne (by omega), o1 k (by simp only [n_new]; omega) (by omega), get_new_ne (by omega)]⟩
theorem size_bad (h4 : s.length < 4) : R Tryz.prog EPu (.call 186 [str s] H (.ret (.tuple #[.int .i64 0, .bool false])) H) := by
  have hN := New_l (H := H) (s := s)
  obtain ⟨H1, r1, n1, o1⟩ := value_bad (H := H.new (cb s 0)) (l := H.n) (by rw [get_new]) h4 (Nat.lt_succ_self _)
  refine pcall_flat Tryz.func186 rfl (Nat.le_of_ble_eq_true rfl) (by decide) (by kernel_rfl) rfl ?_
  simp [hN]
  refine hand_mkf (g := 229) rfl rfl (by decide) rfl ?_
  simp
  refine hand_call_ret (g := 227) (first := #[]) (caps := #[]) (H1 := H1) rfl rfl rfl (by simp) (by simpa using r1) rfl ?_
  simp
  simp only [n_new] at n1
  exact ⟨by show H.n ≤ H1.n + 1; omega, fun k hk => by rw [get_new_ne (by omega), o1 k (by simp only [n_new]; omega), get_new_ne (by omega)]⟩
end
end Go.Proofs.YtombmblgmbjieaaGreatDoor
/-
  Layer 20 (unknown): texts or not, films of elements, by the code.
-/
set_option linter.unusedSimpArgs false
set_option linter.unusedVariables false
set_option maxRecDepth 100000
namespace Tg.Un
open Go
theorem odd_lit : ∀ k : Fin 32, Go.Lg.bAnd .i64 ((4160735743 : Int).fdiv (2 ^ k.1)) 1 = if odd (UInt8.ofNat k.1) = true then 1 else 0 := by decide +kernel
theorem odd_big : ∀ c : UInt8, 32 ≤ c.toNat → odd c = false := by
  intro c h
  unfold odd
  simp
  omega
theorem odd_small {c : UInt8} (h : c.toNat < 32) : Go.Lg.bAnd .i64 ((4160735743 : Int).fdiv (2 ^ c.toNat)) 1 = if odd c = true then 1 else 0 := by
  have := odd_lit ⟨c.toNat, h⟩
  simpa using this
theorem width_lit : ∀ k : Fin 256, (width (UInt8.ofNat k.1) : Int) = if 8 < 8 - (Go.Lib.bitLen k.1 : Int) + 1 then 8 else 8 - (Go.Lib.bitLen k.1 : Int) + 1 := by decide +kernel
theorem width_eq (c : UInt8) : (width c : Int) = if 8 < 8 - (Go.Lib.bitLen c.toNat : Int) + 1 then 8 else 8 - (Go.Lib.bitLen c.toNat : Int) + 1 := by
  have := width_lit ⟨c.toNat, c.toNat_lt⟩
  simpa using this
theorem pre_eq : ∀ s p : List UInt8, Go.Lib.hasPrefix s p = pre s p
  | _, [] => by unfold pre; simp [Go.Lib.hasPrefix]
  | [], _ :: _ => by unfold pre; simp [Go.Lib.hasPrefix]
  | c :: s, d :: p => by
    have := pre_eq s p
    unfold Go.Lib.hasPrefix at this ⊢
    unfold pre
    rw [← this]
    by_cases h : c = d
    · subst h; simp
    · have h2 : ¬ d = c := fun e => h e.symm
      have h3 : (c == d) = false := by simp [h]
      have h4 : (d == c) = false := by simp [h2]
      simp [List.isPrefixOf, h3, h4]
theorem pre_take : ∀ s p : List UInt8, pre s p = decide (s.take p.length = p)
  | _, [] => by unfold pre; simp
  | [], _ :: _ => by unfold pre; simp
  | c :: s, d :: p => by
    unfold pre
    rw [pre_take s p]
    by_cases h : c = d
    · subst h; simp
    · have h3 : (c == d) = false := by simp [h]
      simp [h]
end Tg.Un
namespace Go.Proofs.YtombmblgmbjieaaGreatDoor
open Go.Lg Go.Tg
section
variable {H : LH} {s t : List UInt8} {c : UInt8}
theorem odd_cl : LC Tryz.prog EJ 177 [.int .u8 c.toNat] H = some (.bool (Tg.Un.odd c), H) := by
  refine LC_pure rfl Tryz.func177 rfl (Nat.le_of_ble_eq_true rfl) (by decide) (by kernel_rfl) rfl ?_
  by_cases h : c.toNat < 32
  · have q := eq_true (show (c.toNat : Int) < 32 by omega)
    have hm : min c.toNat IntKind.i64.bits = c.toNat := by show min c.toNat 64 = _; omega
    have h1 := Tg.Un.odd_small h
    cases ho : Tg.Un.odd c <;> rw [ho] at h1 <;> simp at h1 <;> simp [q, hm, h1]
  · have q := eq_false (show ¬ (c.toNat : Int) < 32 by omega)
    rw [Tg.Un.odd_big c (by omega)]
    simp [q]
theorem seek_cl (hs : s.length ≤ 1048576) : LC Tryz.prog EJ 135 [str s] H = some (.int .i64 (Tg.Un.seek s 0), H) := by
  refine LC_pure rfl Tryz.func135 rfl (Nat.le_of_ble_eq_true rfl) (by decide) (by kernel_rfl) rfl ?_
  obtain ⟨x, hx⟩ : ∃ x, x = Tg.Un.seek s 0 := ⟨_, rfl⟩
  rw [← hx]
  simp
  refine loop_ind (fun (i : Nat) fr' H' => fr' 0 = str s ∧ fr' 5 = .int .i64 s.length ∧ fr' 6 = .int .i64 i ∧ i ≤ s.length ∧ x = Tg.Un.seek (s.drop i) i ∧ H' = H) (fun i => s.length - i) 0 ⟨by simp, by simp, by simp, Nat.zero_le _, hx, rfl⟩ ?_
  rintro i fr' H' ⟨h0, h5, h6, hi, hc, rfl⟩ ih
  by_cases hlt : i < s.length
  · have q := eq_true (show (i : Int) < (s.length : Int) by omega)
    have hat : at_ s (i : Int) = s[i] := at_in hlt
    have hw : IntKind.i64.wrap ((i : Int) + 1) = ((i + 1 : Nat) : Int) := by rw [wrapI (by omega) (by omega)]; omega
    have ho := fun H : LH => odd_cl (H := H) (c := s[i])
    rw [List.drop_eq_getElem_cons hlt] at hc
    generalize s[i] = a at *
    unfold Tg.Un.seek at hc
    cases hf : Tg.Un.odd a with
    | true =>
      rw [hf, if_pos rfl] at hc
      rw [hf] at ho
      subst hc
      simp [h0, h5, h6, q, hat, ho]
    | false =>
      rw [hf, if_neg (by decide)] at hc
      rw [hf] at ho
      simp [h0, h5, h6, q, hat, ho]
      refine ih (i + 1) _ _ (by omega) ⟨?_, ?_, ?_, by omega, hc, rfl⟩
      all_goals simp [h0, h5, hw]
  · have q := eq_false (show ¬ (i : Int) < (s.length : Int) by omega)
    rw [List.drop_of_length_le (by omega)] at hc
    have hc : x = -1 := hc
    subst hc
    simp [h0, h5, h6, q]
theorem First_cl (hs : s.length ≤ 1048576) : LC Tryz.prog EJ 94 [str s] H = some (.tuple #[.int .i64 (if Tg.Un.seek s 0 < 0 then 0 else Tg.Un.seek s 0), .bool (decide (0 ≤ Tg.Un.seek s 0))], H) := by
  refine LC_pure rfl Tryz.func94 rfl (Nat.le_of_ble_eq_true rfl) (by decide) (by kernel_rfl) rfl ?_
  have h1 := fun H : LH => seek_cl (H := H) (s := s) hs
  generalize Tg.Un.seek s 0 = x at *
  by_cases hx : x < 0
  · have q := eq_false (show ¬ 0 ≤ x by omega)
    simp [h1, hx, q]
  · have q := eq_true (show 0 ≤ x by omega)
    simp [h1, hx, q]
theorem bcut_cl : LC Tryz.prog EJ 57 [str s] H = some (str (s.take 1445), H) := by
  refine LC_pure rfl Tryz.func57 rfl (Nat.le_of_ble_eq_true rfl) (by decide) (by kernel_rfl) rfl ?_
  by_cases h : s.length ≤ 1445
  · have q := eq_false (show ¬ (1445 : Int) < (s.length : Int) by omega)
    simp [q, List.take_of_length_le h]
    try exact List.take_of_length_le h
  · have q := eq_true (show (1445 : Int) < (s.length : Int) by omega)
    have q2 := eq_true (show (1445 : Int) ≤ (s.length : Int) by omega)
    simp [q, q2]
theorem named_cl {b : Bool} : LC Tryz.prog EJ 93 [str s, .bool b] H = some (str (if b = true then s else []), H) := by
  refine LC_pure rfl Tryz.func93 rfl (Nat.le_of_ble_eq_true rfl) (by decide) (by kernel_rfl) rfl ?_
  cases b <;> simp
theorem width_cl : LC Tryz.prog EJ 144 [.int .u8 c.toNat] H = some (.int .i64 (Tg.Un.width c), H) := by
  refine LC_pure rfl Tryz.func144 rfl (Nat.le_of_ble_eq_true rfl) (by decide) (by kernel_rfl) rfl ?_
  have h1 := fun H : LH => lz8_l (H := H) (c := c)
  rw [Tg.Un.width_eq c]
  have h2 : (Go.Lib.bitLen c.toNat : Int) ≤ 8 := by
    have := Tg.Un.width_eq c
    have : 0 < Tg.Un.width c := by unfold Tg.Un.width; repeat (split; omega); 
                                   omega
    split at * <;> omega
  have h3 : (0 : Int) ≤ (Go.Lib.bitLen c.toNat : Int) := Int.natCast_nonneg _
  generalize (Go.Lib.bitLen c.toNat : Int) = x at *
  have hw : IntKind.i64.wrap (8 - x + 1) = 8 - x + 1 := wrapI (by omega) (by omega)
  simp [h1, hw]
theorem pad_cl (hs : s.length ≤ 1048576) : LC Tryz.prog EJ 145 [str s, str [119, 101, 98, 109]] H = some (.bool (Tg.Un.padded s), H) := by
  refine LC_pure rfl Tryz.func145 rfl (Nat.le_of_ble_eq_true rfl) (by decide) (by kernel_rfl) rfl ?_
  obtain ⟨x, hx⟩ : ∃ x, x = Tg.Un.padded s := ⟨_, rfl⟩
  rw [← hx]
  simp
  refine loop_ind (fun (t : List UInt8) fr' H' => fr' 0 = str t ∧ fr' 1 = str [119, 101, 98, 109] ∧ x = Tg.Un.padded t ∧ H' = H) (fun t => t.length) s ⟨by simp, by simp, hx, rfl⟩ ?_
  rintro t fr' H' ⟨h0, h1, hc, rfl⟩ ih
  cases t with
  | nil =>
    have hp : Go.Lib.hasPrefix ([] : List UInt8) [119, 101, 98, 109] = false := rfl
    have hc : x = false := hc
    simp [h0, h1, hp, hc]
  | cons a t =>
    have hat : at_ (a :: t) 0 = a := rfl
    have q1 := eq_true (show (1 : Int) ≤ (t.length : Int) + 1 by omega)
    have hp := Tg.Un.pre_eq (a :: t) [119, 101, 98, 109]
    unfold Tg.Un.padded at hc
    by_cases ha : a = 0
    · subst ha
      rw [if_pos rfl] at hc
      have hp2 : Go.Lib.hasPrefix ((0 : UInt8) :: t) [119, 101, 98, 109] = false := by rw [hp]; rfl
      simp [h0, h1, hat, hp2, q1]
      refine ih t _ _ (by simp) ⟨?_, ?_, hc, rfl⟩
      all_goals simp [h1]
    · rw [if_neg ha] at hc
      have q := tn_ne ha
      rw [show ((0 : UInt8).toNat : Int) = 0 from rfl] at q
      have q2 : (a.toNat = 0) = False := eq_false (fun e => ha (UInt8.toNat_inj.mp (by rw [e]; rfl)))
      rw [show Tg.Un.webmS = [119, 101, 98, 109] from rfl, ← hp] at hc
      simp [h0, h1, hat, q, q2, hc]
theorem wbegins_cl : LC Tryz.prog EJ 143 [str s] H = some (.bool (Tg.Un.pre s Tg.Un.mark), H) := by
  refine LC_pure rfl Tryz.func143 rfl (Nat.le_of_ble_eq_true rfl) (by decide) (by kernel_rfl) rfl ?_
  have hp := Tg.Un.pre_eq s [26, 69, 223, 163]
  rw [show Tg.Un.mark = [26, 69, 223, 163] from rfl, ← hp]
  simp
end
end Go.Proofs.YtombmblgmbjieaaGreatDoor
/-
  Layer 20 (unknown): films of boxes, by the run with throws.
-/
set_option linter.unusedSimpArgs false
set_option linter.unusedVariables false
set_option maxRecDepth 100000
namespace Go.Proofs.YtombmblgmbjieaaGreatDoor
open Go.Lg Go.Tg
section
variable {H : LH} {s : List UInt8} {l : Nat}
theorem sub48 : sub s 4 8 = (s.drop 4).take 4 := by unfold sub; exact List.drop_take
theorem subn {i j : Nat} (h : i ≤ j) : sub s (i : Int) (j : Int) = (s.drop i).take (j - i) := by unfold sub; exact List.drop_take
theorem str_app {v : Value} {N : Nat} {l : List (List UInt8)} {x : List UInt8} (h : RowN N H 9 1 v l.length (l.map str)) (hN : N ≤ H.n) (hl : l.length ≤ 1000000) :
    ∃ v' H2, lapp Tryz.prog 27 v (some (1, [str x])) (H.new ⟨[str x], 9, true⟩) = some (v', H2) ∧ RowN N H2 9 1 v' (l ++ [x]).length ((l ++ [x]).map str) ∧ N ≤ H2.n ∧ ∀ k, k < N → H2.get k = H.get k := by
  have h2 : RowN N (H.new ⟨[str x], 9, true⟩) 9 1 v l.length (l.map str) := h.keep (Nat.le_succ _) (fun k _ _ hk => get_new_ne (by omega))
  obtain ⟨v', H2, ha, hr, hk, _⟩ := h2.app (t := 27) (new := [x].map str) (m := 1) Tryz.underlying27 (by kernel_rfl) (by simp) (by simp) (by unfold maxElems; omega) (by rw [n_new]; omega) (.inl (Nat.le_refl 1))
  refine ⟨v', H2, ha, by rw [List.length_append, List.map_append]; exact hr, Nat.le_trans (by rw [n_new]; omega) hk.le, fun k hkn => ?_⟩
  rw [hk.get k (by rw [n_new]; omega) (h.off_lt hkn), get_new_ne (by omega)]
theorem srow_n {N : Nat} {v : Value} {xs : List (List UInt8)} (h : RowN N H 9 1 v xs.length (xs.map str)) : SRow H v xs := by
  rcases h.2 with ⟨e, h0⟩ | ⟨k, c, rest, rfl, _, h1, h2, _⟩
  · exact .inl ⟨e, List.eq_nil_of_length_eq_zero h0⟩
  · exact SRow.of h2 h1
theorem bs1s {x : List UInt8} : lbuildSlice Tryz.prog 27 1 [(0, str x)] H = some (sl H.n 1 1, H.new ⟨[str x], 9, true⟩) := lbs_dense (z := str []) Tryz.underlying27 (by kernel_rfl) (by kernel_rfl) rfl rfl rfl (by decide) rfl
/-- the names behind the first one -/
def piece (s : List UInt8) (i : Nat) : List UInt8 := (s.drop (16 + 4 * i)).take 4
theorem begins_r : R Tryz.prog EPu (.call 185 [str s] H (.ret (.bool (Tg.Un.mp4h s))) H) := by
  refine pcall_flat Tryz.func185 rfl (Nat.le_of_ble_eq_true rfl) (by decide) (by kernel_rfl) rfl ?_
  unfold Tg.Un.mp4h
  by_cases h4 : s.length < 4
  · have hs := size_bad (H := H) h4
    have e : decide (12 ≤ s.length) = false := decide_eq_false (by omega)
    rw [e]
    simp
    refine hand_call_ret (g := 186) (first := #[]) (caps := #[]) (H1 := H) rfl rfl rfl (by simp) (by simpa using hs) rfl ?_
    simp
  · have hs := size_ok (H := H) (s := s) (by omega)
    simp
    refine hand_call_ret (g := 186) (first := #[]) (caps := #[]) (H1 := H) rfl rfl rfl (by simp) (by simpa using hs) rfl ?_
    have tm : (Tg.Un.num4 s : Int).tmod 4 = ((Tg.Un.num4 s % 4 : Nat) : Int) := by rw [Int.tmod_eq_emod_of_nonneg (by omega)]; rfl
    generalize Tg.Un.num4 s = n at *
    by_cases a1 : 12 ≤ s.length
    · have q1 := eq_true (show (12 : Int) ≤ (s.length : Int) by omega)
      by_cases a2 : n ≤ s.length
      · have q2 := eq_true (show (n : Int) ≤ (s.length : Int) by omega)
        by_cases a3 : n % 4 = 0
        · rw [a3] at tm
          have q8 := eq_true (show (8 : Int) ≤ (s.length : Int) by omega)
          by_cases a4 : (s.drop 4).take 4 = Tg.Un.ftyp
          · simp [q1, q2, q8, tm, a1, a2, a3, a4]
            rw [sub48]; exact a4
          · simp [q1, q2, q8, tm, a1, a2, a3, a4]
            rw [sub48]
            exact (decide_eq_false a4).trans (beq_eq_false_iff_ne.2 a4).symm
        · have q3 := eq_false (show ¬ ((n % 4 : Nat) : Int) = 0 by omega)
          have q4 := eq_false (show ¬ (n : Int) % 4 = 0 by omega)
          simp [q1, q2, tm, q3, q4, a1, a2, a3]
      · have q2 := eq_false (show ¬ (n : Int) ≤ (s.length : Int) by omega)
        simp [q1, q2, a1, a2]
    · have q1 := eq_false (show ¬ (12 : Int) ≤ (s.length : Int) by omega)
      simp [q1, a1]
theorem brands_r (hs : s.length ≤ 1000000) : ∃ v H1, R Tryz.prog EPu (.call 141 [str s] H (.ret v) H1) ∧ SRow H1 v (if Tg.Un.mp4h s = true then Tg.Un.brands s else []) ∧ H.n ≤ H1.n ∧ ∀ k, k < H.n → H1.get k = H.get k := by
  have key : ∃ r H1, R Tryz.prog EPu (.call 141 [str s] H r H1) ∧ ∃ v, r = .ret v ∧ SRow H1 v (if Tg.Un.mp4h s = true then Tg.Un.brands s else []) ∧ H.n ≤ H1.n ∧ ∀ k, k < H.n → H1.get k = H.get k := by
    refine pcall Tryz.func141 rfl (Nat.le_of_ble_eq_true rfl) (by decide) (by kernel_rfl) (Q := fun r H1 => ∃ v, r = .ret v ∧ SRow H1 v (if Tg.Un.mp4h s = true then Tg.Un.brands s else []) ∧ H.n ≤ H1.n ∧ ∀ k, k < H.n → H1.get k = H.get k) ?_
    have hb := begins_r (H := H) (s := s)
    cases hm : Tg.Un.mp4h s with
    | false =>
      rw [hm] at hb
      simp
      refine hand_call_ret (g := 185) (first := #[]) (caps := #[]) (H1 := H) rfl rfl rfl (by simp) (by simpa using hb) rfl ?_
      simp
      exact .inl ⟨rfl, rfl⟩
    | true =>
      rw [hm] at hb
      obtain ⟨a1, a2, a3, _⟩ : 12 ≤ s.length ∧ Tg.Un.num4 s ≤ s.length ∧ Tg.Un.num4 s % 4 = 0 ∧ (s.drop 4).take 4 = Tg.Un.ftyp := by
        unfold Tg.Un.mp4h at hm; simpa using hm
      have hz := size_ok (H := H) (s := s) (by omega)
      unfold Tg.Un.brands
      generalize Tg.Un.num4 s = n at *
      have q1 := eq_true (show (12 : Int) ≤ (s.length : Int) by omega)
      have e8 : sub s 8 12 = (s.drop 8).take 4 := List.drop_take
      simp
      refine hand_call_ret (g := 185) (first := #[]) (caps := #[]) (H1 := H) rfl rfl rfl (by simp) (by simpa using hb) rfl ?_
      simp
      refine hand_call_ret (g := 186) (first := #[]) (caps := #[]) (H1 := H) rfl rfl rfl (by simp) (by simpa using hz) rfl ?_
      simp [q1, bs1s, e8]
      refine ploop_ind (fun (i : Nat) fr' H' p' => fr' 0 = str s ∧ fr' 3 = .int .i64 n ∧ fr' 6 = .int .i64 ((16 + 4 * i : Nat) : Int) ∧ i ≤ (n - 16) / 4 ∧ (∃ v, fr' 5 = v ∧ RowN H.n H' 9 1 v ((s.drop 8).take 4 :: (List.range i).map (piece s)).length (((s.drop 8).take 4 :: (List.range i).map (piece s)).map str)) ∧ H.n ≤ H'.n ∧ (∀ k, k < H.n → H'.get k = H.get k) ∧ p' = none) (fun i => (n - 16) / 4 - i) 0 ⟨by simp, by simp, by simp, Nat.zero_le _, ⟨sl H.n 1 1, by simp, ?_⟩, by simp, fun k hk => get_new_ne (by omega), rfl⟩ ?_
      · exact ⟨by simp, .inr ⟨H.n, 1, [], rfl, Nat.le_refl _, by simp, by simp, Nat.le_refl _, by simp⟩⟩
      rintro i fr' H' p' ⟨g0, g3, g6, hi, ⟨v, g5, hr⟩, hn, ho, rfl⟩ ih
      by_cases hlt : i < (n - 16) / 4
      · have q := eq_true (show ((16 + 4 * i : Nat) : Int) < (n : Int) by omega)
        have w1 : IntKind.i64.wrap (((16 + 4 * i : Nat) : Int) + 4) = ((16 + 4 * (i + 1) : Nat) : Int) := by rw [wrapI (by omega) (by omega)]; omega
        have q2 := eq_true (show ((16 + 4 * i : Nat) : Int) ≤ ((16 + 4 * (i + 1) : Nat) : Int) by omega)
        have q3 := eq_true (show ((16 + 4 * (i + 1) : Nat) : Int) ≤ (s.length : Int) by omega)
        have hp : sub s ((16 + 4 * i : Nat) : Int) ((16 + 4 * (i + 1) : Nat) : Int) = piece s i := by
          rw [subn (by omega), show 16 + 4 * (i + 1) - (16 + 4 * i) = 4 by omega]; rfl
        have hn0 := eq_true (show (0 : Int) ≤ ((16 + 4 * i : Nat) : Int) by omega)
        obtain ⟨v2, H2, b1, b2, b3, b4⟩ := str_app (x := piece s i) hr hn (by simp; omega)
        have hnew : ((s.drop 8).take 4 :: (List.range i).map (piece s)) ++ [piece s i] = (s.drop 8).take 4 :: (List.range (i + 1)).map (piece s) := by
          rw [List.range_succ, List.map_append]; rfl
        rw [hnew] at b2
        have hcv := b2.cell
        generalize ((16 + 4 * i : Nat) : Int) = A at *
        generalize hB : ((16 + 4 * (i + 1) : Nat) : Int) = B at *
        simp [g0, g3, g6, q, w1, q2, q3, hn0, g5, hp, bs1s, b1, hcv]
        refine ih (i + 1) _ _ _ (by omega) ⟨?_, ?_, ?_, by omega, ⟨v2, ?_, b2⟩, b3, fun k hk => by rw [b4 k hk, ho k hk], rfl⟩
        · simp [g0]
        · simp [g3]
        · simp [w1, hB]
        · simp
      · have q := eq_false (show ¬ ((16 + 4 * i : Nat) : Int) < (n : Int) by omega)
        obtain rfl : i = (n - 16) / 4 := by omega
        have hsr := srow_n hr
        generalize ((16 + 4 * ((n - 16) / 4) : Nat) : Int) = A at *
        simp [g0, g3, g6, q, g5]
        exact ⟨hsr, hn, ho⟩
  obtain ⟨r, H1, h1, v, rfl, h2, h3⟩ := key
  exact ⟨v, H1, h1, h2, h3⟩
theorem is1_cl : LC Tryz.prog EJ 142 [str s] H = some (.bool (s.take 3 == [109, 112, 52]), H) := by
  refine LC_pure rfl Tryz.func142 rfl (Nat.le_of_ble_eq_true rfl) (by decide) (by kernel_rfl) rfl ?_
  have hp : Lib.hasPrefix s [109, 112, 52] = (s.take 3 == [109, 112, 52]) := by
    rw [Tg.Un.pre_eq, Tg.Un.pre_take]
    by_cases h : s.take 3 = [109, 112, 52]
    · exact (decide_eq_true h).trans (beq_iff_eq.2 h).symm
    · exact (decide_eq_false h).trans (beq_eq_false_iff_ne.2 h).symm
  rw [← hp]
  simp
theorem mp4_r (hs : s.length ≤ 1000000) : R Tryz.prog EPu (.call 101 [str s] H (.ret (.bool (Tg.Un.mp4 s))) H) := by
  obtain ⟨v, H1, r1, sr, n1, o1⟩ := brands_r (H := H) hs
  refine pcall_flat Tryz.func101 rfl (Nat.le_of_ble_eq_true rfl) (by decide) (by kernel_rfl) rfl ?_
  have hlen : (if Tg.Un.mp4h s = true then Tg.Un.brands s else []).length ≤ 1000000 := by
    cases hm : Tg.Un.mp4h s with
    | false => simp
    | true =>
      rw [if_pos rfl]
      have : Tg.Un.num4 s ≤ s.length := by
        unfold Tg.Un.mp4h at hm
        simp at hm; exact hm.2.1
      simp [Tg.Un.brands]; omega
  have h2 := containsS_cl (g := 142) (caps := []) (q := fun b => b.take 3 == [109, 112, 52]) sr hlen (fun x _ => is1_cl)
  have he : (if Tg.Un.mp4h s = true then Tg.Un.brands s else []).any (fun b => b.take 3 == [109, 112, 52]) = Tg.Un.mp4 s := by
    unfold Tg.Un.mp4
    cases Tg.Un.mp4h s <;> simp
  rw [he] at h2
  have hc := fun H : LH => sr.len (H' := H)
  simp
  refine hand_call_ret (g := 141) (first := #[]) (caps := #[]) (H1 := H1) rfl rfl rfl (by simp) (by simpa using r1) rfl ?_
  simp [h2]
  exact ⟨n1, fun k hk => o1 k hk⟩
end
end Go.Proofs.YtombmblgmbjieaaGreatDoor
/-
  Layer 20 (unknown): what the reference's small functions come to: bytes, patterns.
-/
set_option linter.unusedSimpArgs false
set_option linter.unusedVariables false
set_option maxRecDepth 100000
namespace Go.Proofs.YtombmblgmbjieaaGreatDoor
open Go.Lg Go.Tg
section
variable {H : LH} {b : UInt8} {s p t : List UInt8}
theorem rhas_cl (hs : s.length ≤ 1048576) : LC Tryz.prog EJ 115 [str s, .int .u8 b.toNat] H = some (.bool (s.contains b), H) := by
  refine LC_pure rfl Tryz.func115 rfl (Nat.le_of_ble_eq_true rfl) (by decide) (by kernel_rfl) rfl ?_
  obtain ⟨x, hx⟩ : ∃ x, x = s.contains b := ⟨_, rfl⟩
  rw [← hx]
  simp
  refine loop_ind (fun (i : Nat) fr' H' => fr' 0 = str s ∧ fr' 1 = .int .u8 b.toNat ∧ fr' 5 = .int .i64 i ∧ i ≤ s.length ∧ x = (s.drop i).contains b ∧ H' = H) (fun i => s.length - i) 0 ⟨by simp, by simp, by simp, Nat.zero_le _, hx, rfl⟩ ?_
  rintro i fr' H' ⟨h0, h1, h5, hi, hc, rfl⟩ ih
  by_cases hlt : i < s.length
  · have q := eq_true (show (i : Int) < (s.length : Int) by omega)
    have hat : at_ s (i : Int) = s[i] := at_in hlt
    have hw : IntKind.i64.wrap ((i : Int) + 1) = ((i + 1 : Nat) : Int) := by rw [wrapI (by omega) (by omega)]; omega
    rw [List.drop_eq_getElem_cons hlt, List.contains_cons] at hc
    generalize s[i] = c at *
    by_cases hcb : c = b
    · subst hcb
      have hc : x = true := by rw [hc]; simp
      subst hc
      simp [h0, h1, h5, q, hat]
    · have hne := tn_ne hcb
      have hcb2 : (b == c) = false := by simp; exact fun e => hcb e.symm
      rw [hcb2, Bool.false_or] at hc
      simp [h0, h1, h5, q, hat, hne]
      refine ih (i + 1) _ _ (by omega) ⟨?_, ?_, ?_, by omega, hc, rfl⟩
      all_goals simp [h0, h1, hw]
  · have q := eq_false (show ¬ (i : Int) < (s.length : Int) by omega)
    rw [List.drop_of_length_le (by omega)] at hc
    have hc : x = false := by rw [hc]; rfl
    subst hc
    simp [h0, h1, h5, q]
theorem rprefix_cl : LC Tryz.prog EJ 59 [str s, str p] H = some (.bool (Tg.Un.pre s p), H) := by
  refine LC_pure rfl Tryz.func59 rfl (Nat.le_of_ble_eq_true rfl) (by decide) (by kernel_rfl) rfl ?_
  rw [Tg.Un.pre_take]
  by_cases h : p.length ≤ s.length
  · have q := eq_true (show (p.length : Int) ≤ (s.length : Int) by omega)
    have q0 := eq_true (show (0 : Int) ≤ (p.length : Int) by omega)
    by_cases h2 : s.take p.length = p
    · simp [q, q0, h, h2]
    · simp [q, q0, h, h2]
  · have q := eq_false (show ¬ (p.length : Int) ≤ (s.length : Int) by omega)
    have h2 : ¬ s.take p.length = p := fun e => by
      have := congrArg List.length e
      rw [List.length_take] at this; omega
    simp [q, h, h2]
theorem tcut_cl {k : Int} (h0 : 0 ≤ k) : LC Tryz.prog EJ 13 [str s, .int .i64 k] H = some (str (s.take k.toNat), H) := by
  refine LC_pure rfl Tryz.func13 rfl (Nat.le_of_ble_eq_true rfl) (by decide) (by kernel_rfl) (by simp) ?_
  by_cases hc : k < s.length
  · have f := eq_true hc
    have f2 := eq_true (show k ≤ s.length by omega)
    have f3 := eq_true h0
    simp [f, f2, f3]
  · have f := eq_false hc
    have e : s.take k.toNat = s := List.take_of_length_le (by omega)
    simp [f, e]
theorem rskip_cl (hs : s.length ≤ 1048576) : LC Tryz.prog EJ 70 [str s] H = some (str (s.drop (Tg.Un.begins Tg.Un.white s)), H) := by
  refine LC_pure rfl Tryz.func70 rfl (Nat.le_of_ble_eq_true rfl) (by decide) (by kernel_rfl) rfl ?_
  obtain ⟨x, hx⟩ : ∃ x, x = s.drop (Tg.Un.begins Tg.Un.white s) := ⟨_, rfl⟩
  rw [← hx]
  simp
  refine loop_ind (fun (t : List UInt8) fr' H' => fr' 0 = str t ∧ x = t.drop (Tg.Un.begins Tg.Un.white t) ∧ H' = H) (fun t => t.length) s ⟨by simp, hx, rfl⟩ ?_
  rintro t fr' H' ⟨h0, hc, rfl⟩ ih
  cases t with
  | nil =>
    have hc : x = [] := hc
    simp [h0, hc]
  | cons a t =>
    have hat : at_ (a :: t) 0 = a := rfl
    have q0 := eq_true (show (0 : Int) < (t.length : Int) + 1 by omega)
    have q1 := eq_true (show (1 : Int) ≤ (t.length : Int) + 1 by omega)
    have hh : ∀ H : LH, LC Tryz.prog EJ 115 [str [9, 10, 12, 13, 32], .int .u8 a.toNat] H = some (.bool (Tg.Un.white.contains a), H) := fun H => rhas_cl (by decide)
    unfold Tg.Un.begins at hc
    cases hw : Tg.Un.white.contains a with
    | true =>
      rw [hw] at hh
      rw [hw, if_pos rfl] at hc
      simp [h0, hat, q0, q1, hh]
      refine ih t _ _ (by simp) ⟨?_, by rw [hc]; rfl, rfl⟩
      simp
    | false =>
      rw [hw] at hh
      rw [hw, if_neg (by decide)] at hc
      have hc : x = a :: t := hc
      simp [h0, hat, q0, q1, hh, hc]
end
section
variable {H : LH} {s : List UInt8} {p : Tg.Un.Pat} {v : Value} {l : List Tg.Un.Pat} {a c : UInt8}
theorem rgood_cl : LC Tryz.prog EJ 182 [pv p] H = some (.bool (Tg.Un.good p), H) := by
  refine LC_pure rfl Tryz.func182 rfl (Nat.le_of_ble_eq_true rfl) (by decide) (by kernel_rfl) rfl ?_
  unfold Tg.Un.good
  by_cases h1 : 1 ≤ p.b.length
  · have q1 := eq_true (show (0 : Int) < (p.b.length : Int) by omega)
    have q1' := eq_true (show 0 < p.b.length by omega)
    by_cases h2 : p.b.length ≤ 64
    · have q2 := eq_true (show (p.b.length : Int) < 65 by omega)
      by_cases h3 : p.m.length = p.b.length
      · have q3 := eq_true (show (p.b.length : Int) = (p.m.length : Int) by omega)
        have q3' := eq_true (show p.b.length = p.m.length by omega)
        simp [h1, h2, h3, q1, q1', q2, q3, q3']
      · have q3 := eq_false (show ¬ (p.b.length : Int) = (p.m.length : Int) by omega)
        have q3' := eq_false (show ¬ p.b.length = p.m.length by omega)
        simp [h1, h2, h3, q1, q1', q2, q3, q3']
    · have q2 := eq_false (show ¬ (p.b.length : Int) < 65 by omega)
      simp [h1, h2, q1, q1', q2]
  · have q1 := eq_false (show ¬ (0 : Int) < (p.b.length : Int) by omega)
    have q1' := eq_false (show ¬ 0 < p.b.length by omega)
    simp [h1, q1, q1']
theorem rbegins_cl (hs : s.length ≤ 1048576) (hp : p.s.length ≤ 1048576) : LC Tryz.prog EJ 222 [str s, pv p] H = some (.int .i64 (Tg.Un.begins p.s s), H) := by
  refine LC_pure rfl Tryz.func222 rfl (Nat.le_of_ble_eq_true rfl) (by decide) (by kernel_rfl) rfl ?_
  obtain ⟨x, hx⟩ : ∃ x, x = Tg.Un.begins p.s s := ⟨_, rfl⟩
  rw [← hx]
  have hh := fun (H : LH) (c : UInt8) => rhas_cl (H := H) (s := p.s) (b := c) hp
  simp
  refine loop_ind (fun (i : Nat) fr' H' => fr' 0 = str s ∧ fr' 3 = ptr H.n 0 ∧ fr' 5 = .int .i64 i ∧ i ≤ s.length ∧ x = i + Tg.Un.begins p.s (s.drop i) ∧ H' = H.new ⟨[str p.b, str p.m, str p.s, str p.t], 66, true⟩) (fun i => s.length - i) 0 ⟨by simp, by simp, by simp, Nat.zero_le _, by rw [hx]; simp, by simp⟩ ?_
  rintro i fr' H' ⟨h0, h3, h5, hi, hc, rfl⟩ ih
  by_cases hlt : i < s.length
  · have q := eq_true (show (i : Int) < (s.length : Int) by omega)
    have hat : at_ s (i : Int) = s[i] := at_in hlt
    have hw : IntKind.i64.wrap ((i : Int) + 1) = ((i + 1 : Nat) : Int) := by rw [wrapI (by omega) (by omega)]; omega
    rw [List.drop_eq_getElem_cons hlt] at hc
    unfold Tg.Un.begins at hc
    have hhc := fun H : LH => hh H s[i]
    generalize s[i] = b at *
    cases hb : p.s.contains b with
    | true =>
      rw [hb, if_pos rfl] at hc
      rw [hb] at hhc
      simp [h0, h3, h5, q, hat, hhc]
      refine ih (i + 1) _ _ (by omega) ⟨?_, ?_, ?_, by omega, by omega, rfl⟩
      all_goals simp [h0, h3, hw]
    | false =>
      rw [hb, if_neg (by decide)] at hc
      rw [hb] at hhc
      have hc : x = i := by omega
      simp [h0, h3, h5, q, hat, hhc, hc]
  · have q := eq_false (show ¬ (i : Int) < (s.length : Int) by omega)
    rw [List.drop_of_length_le (by omega)] at hc
    have hc : x = i := by rw [hc]; simp [Tg.Un.begins]
    have hc : x = s.length := by omega
    simp [h0, h3, h5, q, hc]
end
end Go.Proofs.YtombmblgmbjieaaGreatDoor
/-
  Layer 20 (unknown): what the reference's patterns come to.
-/
set_option linter.unusedSimpArgs false
set_option linter.unusedVariables false
set_option maxRecDepth 100000
namespace Go.Proofs.YtombmblgmbjieaaGreatDoor
open Go.Lg Go.Tg
section
variable {H : LH} {s t : List UInt8} {p : Tg.Un.Pat} {v : Value} {l : List Tg.Un.Pat} {a c : UInt8}
theorem tdivn (n m : Nat) : (n : Int).tdiv (m : Int) = ((n / m : Nat) : Int) := by rw [Int.tdiv_eq_ediv_of_nonneg (by omega)]; rfl
theorem tmodn (n m : Nat) : (n : Int).tmod (m : Int) = ((n % m : Nat) : Int) := by rw [Int.tmod_eq_emod_of_nonneg (by omega)]; rfl
theorem rand_cl : LC Tryz.prog EJ 223 [.int .u8 a.toNat, .int .u8 c.toNat] H = some (.int .u8 (a &&& c).toNat, H) := by
  refine LC_pure rfl Tryz.func223 rfl (Nat.le_of_ble_eq_true rfl) (by decide) (by kernel_rfl) rfl ?_
  have ha := a.toNat_lt
  have hc := c.toNat_lt
  have hwa : IntKind.i64.wrap (a.toNat : Int) = (a.toNat : Int) := wrapI (by omega) (by omega)
  have hwc : IntKind.i64.wrap (c.toNat : Int) = (c.toNat : Int) := wrapI (by omega) (by omega)
  obtain ⟨z, hz⟩ : ∃ z, z = (a &&& c).toNat := ⟨_, rfl⟩
  have hzl : z < 256 := by rw [hz]; exact (a &&& c).toNat_lt
  rw [← hz]
  have hR := Tg.Un.andR_byte a c
  rw [← hz] at hR
  simp
  refine loop_ind (fun (i : Nat) fr' H' => fr' 0 = .int .u8 a.toNat ∧ fr' 1 = .int .u8 c.toNat ∧ (∃ o : Nat, fr' 5 = .int .i64 o ∧ o < 2 ^ i ∧ Tg.Un.andR (8 - i) a.toNat c.toNat (2 ^ i) o = z) ∧ fr' 6 = .int .i64 ((2 ^ i : Nat) : Int) ∧ fr' 7 = .int .i64 i ∧ i ≤ 8 ∧ H' = H) (fun i => 8 - i) 0 ⟨by simp, by simp, ⟨0, by simp, by decide, hR⟩, by simp, by simp, by decide, rfl⟩ ?_
  rintro i fr' H' ⟨g0, g1, ⟨o, g5, ho, hA⟩, g6, g7, hi, rfl⟩ ih
  by_cases hlt : i < 8
  · have q := eq_true (show (i : Int) < 8 by omega)
    have hw : IntKind.i64.wrap ((i : Int) + 1) = ((i + 1 : Nat) : Int) := by rw [wrapI (by omega) (by omega)]; omega
    have hm0 : 0 < 2 ^ i := Nat.two_pow_pos i
    have hm1 : 2 ^ i ≤ 2 ^ 7 := Nat.pow_le_pow_right (by decide) (by omega)
    have hm2 : 2 ^ (i + 1) = 2 * 2 ^ i := by rw [Nat.pow_succ, Nat.mul_comm]
    rw [show 8 - i = (8 - (i + 1)) + 1 by omega] at hA
    unfold Tg.Un.andR at hA
    rw [← hm2] at hA
    have hgo := fun (fr2 : Fr) (o2 : Nat) (e0 : fr2 0 = .int .u8 a.toNat) (e1 : fr2 1 = .int .u8 c.toNat) (e5 : fr2 5 = .int .i64 o2) (e6 : fr2 6 = .int .i64 ((2 ^ (i + 1) : Nat) : Int)) (e7 : fr2 7 = .int .i64 ((i + 1 : Nat) : Int)) (hl : o2 < 2 ^ (i + 1)) (hx : Tg.Un.andR (8 - (i + 1)) a.toNat c.toNat (2 ^ (i + 1)) o2 = z) => ih (i + 1) fr2 H' (by omega) ⟨e0, e1, ⟨o2, e5, hl, hx⟩, e6, e7, by omega, rfl⟩
    clear ih
    rw [hm2] at hgo hA
    generalize 2 ^ i = m at *
    have d1 := tdivn a.toNat m
    have d2 := tdivn c.toNat m
    have x1 : a.toNat / m ≤ a.toNat := Nat.div_le_self _ _
    have x2 : c.toNat / m ≤ c.toNat := Nat.div_le_self _ _
    generalize a.toNat / m = x at *
    generalize c.toNat / m = y at *
    have wx : IntKind.i64.wrap (x : Int) = (x : Int) := wrapI (by omega) (by omega)
    have wy : IntKind.i64.wrap (y : Int) = (y : Int) := wrapI (by omega) (by omega)
    have e1 : (x : Int).tmod 2 = ((x % 2 : Nat) : Int) := tmodn x 2
    have e2 : (y : Int).tmod 2 = ((y % 2 : Nat) : Int) := tmodn y 2
    have wm : IntKind.i64.wrap (2 * (m : Int)) = ((2 * m : Nat) : Int) := by rw [wrapI (by omega) (by omega)]; omega
    have wo : IntKind.i64.wrap ((o : Int) + (m : Int)) = ((o + m : Nat) : Int) := by rw [wrapI (by omega) (by omega)]; omega
    have nz := eq_false (show ¬ m = 0 by omega)
    have nz2 := eq_false (show ¬ (m : Int) = 0 by omega)
    have l1 : x % 2 < 2 := Nat.mod_lt _ (by decide)
    have l2 : y % 2 < 2 := Nat.mod_lt _ (by decide)
    generalize x % 2 = x' at *
    generalize y % 2 = y' at *
    by_cases c1 : x' = 1
    · have p1 := eq_true (show (x' : Int) = 1 by omega)
      by_cases c2 : y' = 1
      · have p2 := eq_true (show (y' : Int) = 1 by omega)
        rw [if_pos ⟨c1, c2⟩] at hA
        simp [g0, g1, g5, g6, g7, q, hwa, hwc, d1, d2, wx, wy, e1, e2, wm, wo, nz, nz2, p1, p2]
        refine hgo _ (o + m) ?_ ?_ ?_ ?_ ?_ (by omega) hA
        all_goals simp [g0, g1, hw, wm, wo]
      · have p2 := eq_false (show ¬ (y' : Int) = 1 by omega)
        rw [if_neg (fun h => c2 h.2)] at hA
        simp [g0, g1, g5, g6, g7, q, hwa, hwc, d1, d2, wx, wy, e1, e2, wm, wo, nz, nz2, p1, p2]
        refine hgo _ o ?_ ?_ ?_ ?_ ?_ (by omega) hA
        all_goals simp [g0, g1, g5, hw, wm]
    · have p1 := eq_false (show ¬ (x' : Int) = 1 by omega)
      rw [if_neg (fun h => c1 h.1)] at hA
      simp [g0, g1, g5, g6, g7, q, hwa, hwc, d1, d2, wx, wy, e1, e2, wm, wo, nz, nz2, p1]
      refine hgo _ o ?_ ?_ ?_ ?_ ?_ (by omega) hA
      all_goals simp [g0, g1, g5, hw, wm]
  · have q := eq_false (show ¬ (i : Int) < 8 by omega)
    obtain rfl : i = 8 := by omega
    have hA : o = z := hA
    subst hA
    have w8 : IntKind.u8.wrap (o : Int) = (o : Int) := by rw [IntKind.wrap_u8]; omega
    simp [g0, g1, g5, g6, g7, w8]
theorem ris_cl (hs : s.length ≤ 1048576) (hp : p.s.length ≤ 1048576) (hb : p.b.length ≤ 1000) (hm : p.m.length = p.b.length) : LC Tryz.prog EJ 183 [str s, pv p] H = some (.tuple #[.bool (Tg.Un.fit (Tg.Un.rest p s) p.b p.m), .bool (Tg.Un.fit (Tg.Un.rest p s) p.b p.m && decide (p.b.length ≤ (Tg.Un.rest p s).length))], H) := by
  refine LC_pure rfl Tryz.func183 rfl (Nat.le_of_ble_eq_true rfl) (by decide) (by kernel_rfl) rfl ?_
  have hbg := fun H : LH => rbegins_cl (H := H) (s := s) (p := p) hs hp
  have hbl := Tg.Un.begins_le p.s s
  have q0 := eq_true (show (Tg.Un.begins p.s s : Int) ≤ (s.length : Int) by omega)
  have q0' := eq_true (show (0 : Int) ≤ (Tg.Un.begins p.s s : Int) by omega)
  obtain ⟨r, hr⟩ : ∃ r, r = Tg.Un.rest p s := ⟨_, rfl⟩
  have hr2 : s.drop (Tg.Un.begins p.s s) = r := hr.symm
  have hrl : r.length ≤ 1048576 := by rw [hr]; unfold Tg.Un.rest; simp; omega
  rw [← hr]
  obtain ⟨x, hx⟩ : ∃ x, x = Tg.Un.fit r p.b p.m := ⟨_, rfl⟩
  rw [← hx]
  simp [hbg, q0, q0', hr2]
  refine loop_ind (fun (i : Nat) fr' H' => fr' 0 = str r ∧ fr' 3 = ptr H.n 0 ∧ fr' 6 = .int .i64 i ∧ i ≤ p.b.length ∧ i ≤ r.length ∧ x = Tg.Un.fit (r.drop i) (p.b.drop i) (p.m.drop i) ∧ H' = H.new ⟨[str p.b, str p.m, str p.s, str p.t], 66, true⟩) (fun i => p.b.length - i) 0 ⟨by simp, by simp, by simp, Nat.zero_le _, Nat.zero_le _, by rw [hx]; simp, by simp⟩ ?_
  rintro i fr' H' ⟨g0, g3, g6, hi, hi2, hc, rfl⟩ ih
  by_cases h1 : i < p.b.length
  · have q1 := eq_true (show (i : Int) < (p.b.length : Int) by omega)
    by_cases h2 : i < r.length
    · have q2 := eq_true (show (i : Int) < (r.length : Int) by omega)
      have h3 : i < p.m.length := by omega
      have q3 := eq_true (show (i : Int) < (p.m.length : Int) by omega)
      have a1 : at_ r (i : Int) = r[i] := at_in h2
      have a2 : at_ p.b (i : Int) = p.b[i] := at_in h1
      have a3 : at_ p.m (i : Int) = p.m[i] := at_in h3
      have hw : IntKind.i64.wrap ((i : Int) + 1) = ((i + 1 : Nat) : Int) := by rw [wrapI (by omega) (by omega)]; omega
      have hand := fun H : LH => rand_cl (H := H) (a := r[i]) (c := p.m[i])
      rw [List.drop_eq_getElem_cons h2, List.drop_eq_getElem_cons h1, List.drop_eq_getElem_cons h3] at hc
      generalize r[i] = c at *
      generalize p.b[i] = b at *
      generalize p.m[i] = m at *
      unfold Tg.Un.fit at hc
      by_cases hcb : c &&& m = b
      · have hc : x = Tg.Un.fit (r.drop (i + 1)) (p.b.drop (i + 1)) (p.m.drop (i + 1)) := by rw [hc, hcb]; simp
        rw [hcb] at hand
        simp [g0, g3, g6, q1, q2, q3, a1, a2, a3, hand]
        refine ih (i + 1) _ _ (by omega) ⟨?_, ?_, ?_, by omega, by omega, hc, rfl⟩
        all_goals simp [g0, g3, hw]
      · have hc2 : x = false := by rw [hc, beq_eq_false_iff_ne.2 hcb]; rfl
        clear hc
        have hne := tn_ne hcb
        generalize c &&& m = e at *
        simp [g0, g3, g6, q1, q2, q3, a1, a2, a3, hand, hne, hc2]
    · have q2 := eq_false (show ¬ (i : Int) < (r.length : Int) by omega)
      have hc : x = true := by
        rw [hc, List.drop_of_length_le (by omega)]; unfold Tg.Un.fit; rfl
      have q4 := eq_false (show ¬ (p.b.length : Int) ≤ (r.length : Int) by omega)
      have q5 := eq_false (show ¬ p.b.length ≤ r.length by omega)
      simp [g0, g3, g6, q1, q2, hc, q4, q5]
  · have q1 := eq_false (show ¬ (i : Int) < (p.b.length : Int) by omega)
    have hc : x = true := by
      rw [hc, show p.b.drop i = [] from List.drop_of_length_le (by omega)]; unfold Tg.Un.fit; split <;> simp_all
    have q4 := eq_true (show (p.b.length : Int) ≤ (r.length : Int) by omega)
    have q5 := eq_true (show p.b.length ≤ r.length by omega)
    simp [g0, g3, g6, q1, hc, q4, q5]
theorem rmatch_cl (hs : s.length ≤ 1048576) (hp : p.s.length ≤ 1048576) : LC Tryz.prog EJ 139 [str s, pv p] H = some (.bool (Tg.Un.hits p s), H) := by
  refine LC_pure rfl Tryz.func139 rfl (Nat.le_of_ble_eq_true rfl) (by decide) (by kernel_rfl) rfl ?_
  have h1 := fun H : LH => rgood_cl (H := H) (p := p)
  unfold Tg.Un.hits
  cases hg : Tg.Un.good p with
  | false => rw [hg] at h1; simp [h1]
  | true =>
    rw [hg] at h1
    obtain ⟨⟨g1, g2⟩, g3⟩ : (1 ≤ p.b.length ∧ p.b.length ≤ 64) ∧ p.m.length = p.b.length := by simpa [Tg.Un.good] using hg
    have h2 := fun H : LH => ris_cl (H := H) (s := s) (p := p) hs hp (by omega) g3
    generalize Tg.Un.fit (Tg.Un.rest p s) p.b p.m = f at *
    cases f with
    | false => simp [h1, h2]
    | true => simp [h1, h2]
theorem rfirst_cl (hr : PRow H v l) (hl : l.length ≤ 1000000) (hs : s.length ≤ 1048576) (hp : ∀ p ∈ l, p.s.length ≤ 1048576) : LC Tryz.prog EJ 98 [str s, v] H = some (.int .i64 (Tg.Un.at_ s l 0), H) := by
  refine LC_pure rfl Tryz.func98 rfl (Nat.le_of_ble_eq_true rfl) (by decide) (by kernel_rfl) rfl ?_
  obtain ⟨x, hx⟩ : ∃ x, x = Tg.Un.at_ s l 0 := ⟨_, rfl⟩
  rw [← hx]
  simp [hr.len]
  refine loop_ind (fun (i : Nat) fr' H' => fr' 0 = str s ∧ fr' 1 = v ∧ fr' 5 = .int .i64 i ∧ i ≤ l.length ∧ x = Tg.Un.at_ s (l.drop i) i ∧ H' = H) (fun i => l.length - i) 0 ⟨by simp, by simp, by simp, Nat.zero_le _, hx, rfl⟩ ?_
  rintro i fr' H' ⟨h0, h1, h5, hi, hc, rfl⟩ ih
  by_cases hlt : i < l.length
  · have q := eq_true (show (i : Int) < (l.length : Int) by omega)
    have hw : IntKind.i64.wrap ((i : Int) + 1) = ((i + 1 : Nat) : Int) := by rw [wrapI (by omega) (by omega)]; omega
    obtain ⟨k2, o, g1, g2, g3⟩ := hr.at hlt
    obtain ⟨g4, _⟩ := g3 H' rfl
    have ho := fun H : LH => rmatch_cl (H := H) (s := s) (p := l[i]) hs (hp _ (List.getElem_mem hlt))
    rw [List.drop_eq_getElem_cons hlt] at hc
    generalize l[i] = a at *
    unfold Tg.Un.at_ at hc
    cases hf : Tg.Un.hits a s with
    | true =>
      rw [hf, if_pos rfl] at hc
      rw [hf] at ho
      subst hc
      simp [h0, h1, h5, q, hlt, g1, g4, ho, hr.len]
    | false =>
      rw [hf, if_neg (by decide)] at hc
      rw [hf] at ho
      simp [h0, h1, h5, q, hlt, g1, g4, ho, hr.len]
      refine ih (i + 1) _ _ (by omega) ⟨?_, ?_, ?_, by omega, hc, rfl⟩
      all_goals simp [h0, h1, hw]
  · have q := eq_false (show ¬ (i : Int) < (l.length : Int) by omega)
    rw [List.drop_of_length_le (by omega)] at hc
    have hc : x = -1 := hc
    subst hc
    simp [h0, h1, h5, q, hlt, hr.len]
theorem rtype_cl (hr : PRow H v l) (hl : l.length ≤ 1000000) (hs : s.length ≤ 1048576) (hp : ∀ p ∈ l, p.s.length ≤ 1048576) : LC Tryz.prog EJ 60 [str s, v] H = some (str (Tg.Un.typeOf s l), H) := by
  refine LC_pure rfl Tryz.func60 rfl (Nat.le_of_ble_eq_true rfl) (by decide) (by kernel_rfl) rfl ?_
  have h1 := rfirst_cl hr hl hs hp
  by_cases hx : Tg.Un.at_ s l 0 < 0
  · rw [Tg.Un.at_none hx]
    simp [h1, hx]
  · obtain ⟨k, hk, e1, e2⟩ := Tg.Un.at_some (s := s) (l := l) (i := 0) (by omega)
    rw [e2]
    rw [e1] at h1
    obtain ⟨k2, o, g1, g2, g3⟩ := hr.at hk
    obtain ⟨_, _, _, _, g4⟩ := g3 H rfl
    have q := eq_false (show ¬ ((0 + k : Nat) : Int) < 0 by omega)
    rw [Nat.zero_add] at h1 q
    simp [h1, q, g1, g4]
end
end Go.Proofs.YtombmblgmbjieaaGreatDoor
/-
  Layer 20 (unknown): rows of patterns are built. Printed by gen_bs.py.
-/
set_option linter.unusedSimpArgs false
set_option linter.unusedVariables false
set_option maxRecDepth 100000
namespace Go.Proofs.YtombmblgmbjieaaGreatDoor
open Go.Lg Go.Tg
theorem bsP3 {H : LH} {a0 b0 c0 d0 a1 b1 c1 d1 a2 b2 c2 d2 : List UInt8} : lbuildSlice Tryz.prog 31 3 [(0, .agg #[str a0, str b0, str c0, str d0]), (1, .agg #[str a1, str b1, str c1, str d1]), (2, .agg #[str a2, str b2, str c2, str d2])] H = some (sl H.n 3 3, H.new ⟨[str a0, str b0, str c0, str d0, str a1, str b1, str c1, str d1, str a2, str b2, str c2, str d2], 66, true⟩) := by
  unfold lbuildSlice
  simp [Instr.fill, Value.cells, Array.range]
  rfl
theorem bsP4 {H : LH} {a0 b0 c0 d0 a1 b1 c1 d1 a2 b2 c2 d2 a3 b3 c3 d3 : List UInt8} : lbuildSlice Tryz.prog 31 4 [(0, .agg #[str a0, str b0, str c0, str d0]), (1, .agg #[str a1, str b1, str c1, str d1]), (2, .agg #[str a2, str b2, str c2, str d2]), (3, .agg #[str a3, str b3, str c3, str d3])] H = some (sl H.n 4 4, H.new ⟨[str a0, str b0, str c0, str d0, str a1, str b1, str c1, str d1, str a2, str b2, str c2, str d2, str a3, str b3, str c3, str d3], 66, true⟩) := by
  unfold lbuildSlice
  simp [Instr.fill, Value.cells, Array.range]
  rfl
theorem bsP6 {H : LH} {a0 b0 c0 d0 a1 b1 c1 d1 a2 b2 c2 d2 a3 b3 c3 d3 a4 b4 c4 d4 a5 b5 c5 d5 : List UInt8} : lbuildSlice Tryz.prog 31 6 [(0, .agg #[str a0, str b0, str c0, str d0]), (1, .agg #[str a1, str b1, str c1, str d1]), (2, .agg #[str a2, str b2, str c2, str d2]), (3, .agg #[str a3, str b3, str c3, str d3]), (4, .agg #[str a4, str b4, str c4, str d4]), (5, .agg #[str a5, str b5, str c5, str d5])] H = some (sl H.n 6 6, H.new ⟨[str a0, str b0, str c0, str d0, str a1, str b1, str c1, str d1, str a2, str b2, str c2, str d2, str a3, str b3, str c3, str d3, str a4, str b4, str c4, str d4, str a5, str b5, str c5, str d5], 66, true⟩) := by
  unfold lbuildSlice
  simp [Instr.fill, Value.cells, Array.range]
  rfl
theorem bsP8 {H : LH} {a0 b0 c0 d0 a1 b1 c1 d1 a2 b2 c2 d2 a3 b3 c3 d3 a4 b4 c4 d4 a5 b5 c5 d5 a6 b6 c6 d6 a7 b7 c7 d7 : List UInt8} : lbuildSlice Tryz.prog 31 8 [(0, .agg #[str a0, str b0, str c0, str d0]), (1, .agg #[str a1, str b1, str c1, str d1]), (2, .agg #[str a2, str b2, str c2, str d2]), (3, .agg #[str a3, str b3, str c3, str d3]), (4, .agg #[str a4, str b4, str c4, str d4]), (5, .agg #[str a5, str b5, str c5, str d5]), (6, .agg #[str a6, str b6, str c6, str d6]), (7, .agg #[str a7, str b7, str c7, str d7])] H = some (sl H.n 8 8, H.new ⟨[str a0, str b0, str c0, str d0, str a1, str b1, str c1, str d1, str a2, str b2, str c2, str d2, str a3, str b3, str c3, str d3, str a4, str b4, str c4, str d4, str a5, str b5, str c5, str d5, str a6, str b6, str c6, str d6, str a7, str b7, str c7, str d7], 66, true⟩) := by
  unfold lbuildSlice
  simp [Instr.fill, Value.cells, Array.range]
  rfl
end Go.Proofs.YtombmblgmbjieaaGreatDoor
/-
  Layer 20 (unknown): HTML, XML, PDF, by the code.
-/
set_option linter.unusedSimpArgs false
set_option linter.unusedVariables false
set_option maxRecDepth 100000
namespace Go.Proofs.YtombmblgmbjieaaGreatDoor
open Go.Lg Go.Tg
section
variable {H : LH} {s t : List UInt8} {c : UInt8}
theorem ends_cl {n : Nat} (hs : s.length ≤ 1048576) (hn : n ≤ 1048576 + 1048576) : LC Tryz.prog EJ 156 [str s, .int .i64 n] H = some (.bool (Tg.Un.ends (s.drop n)), H) := by
  refine LC_pure rfl Tryz.func156 rfl (Nat.le_of_ble_eq_true rfl) (by decide) (by kernel_rfl) rfl ?_
  have q0 := eq_true (show (0 : Int) ≤ (n : Int) by omega)
  by_cases hlt : n < s.length
  · have q := eq_true (show (n : Int) < (s.length : Int) by omega)
    have hat : at_ s (n : Int) = s[n] := at_in hlt
    rw [List.drop_eq_getElem_cons hlt]
    generalize s[n] = a at *
    unfold Tg.Un.ends
    by_cases h1 : a.toNat = 32
    · have e1 := eq_true (show (a.toNat : Int) = 32 by omega)
      simp [q, q0, hat, e1, h1]
    · have e1 := eq_false (show ¬ (a.toNat : Int) = 32 by omega)
      by_cases h2 : a.toNat = 62
      · have e2 := eq_true (show (a.toNat : Int) = 62 by omega)
        simp [q, q0, hat, e1, h1, e2, h2]
      · have e2 := eq_false (show ¬ (a.toNat : Int) = 62 by omega)
        simp [q, q0, hat, e1, h1, e2, h2]
  · have q := eq_false (show ¬ (n : Int) < (s.length : Int) by omega)
    rw [List.drop_of_length_le (by omega)]
    unfold Tg.Un.ends
    simp [q, q0]
theorem tagged_cl (hs : s.length ≤ 1000000) (ht : t.length ≤ 100000) : LC Tryz.prog EJ 114 [str s, str t] H = some (.bool (Tg.Un.tagged s t), H) := by
  refine LC_pure rfl Tryz.func114 rfl (Nat.le_of_ble_eq_true rfl) (by decide) (by kernel_rfl) rfl ?_
  have h1 := fun H : LH => tag_cl (H := H) (s := 60 :: t) (t := [116, 101, 120, 116, 47, 104, 116, 109, 108]) (by simp; omega)
  unfold Tg.Un.tagged
  rw [show Tg.Un.htmlT = [116, 101, 120, 116, 47, 104, 116, 109, 108] from rfl]
  have e1 : (Tg.Un.tag (60 :: t) [116, 101, 120, 116, 47, 104, 116, 109, 108]).b.length = t.length + 1 := by simp [Tg.Un.tag]
  have e2 : (Tg.Un.tag (60 :: t) [116, 101, 120, 116, 47, 104, 116, 109, 108]).s = Tg.Un.white := rfl
  generalize Tg.Un.tag (60 :: t) [116, 101, 120, 116, 47, 104, 116, 109, 108] = p at *
  have h2 := fun H : LH => Match_cl (H := H) (s := s) (p := p) (by omega)
  have h3 := fun H : LH => Begins_cl (H := H) (s := s) (p := p) (by omega)
  have hb := Tg.Un.begins_le Tg.Un.white s
  rw [e2] at h3
  have h4 := fun H : LH => ends_cl (H := H) (s := s) (n := Tg.Un.begins Tg.Un.white s + (t.length + 1)) (by omega) (by omega)
  generalize Tg.Un.begins Tg.Un.white s = n at *
  have h4' := h4
  simp only [Int.natCast_add, Int.natCast_one] at h4'
  have q7 := eq_true (show t.length + 1 ≤ 9223372036854775807 by omega)
  have q8 := eq_true (show 1 + t.length ≤ 9223372036854775807 by omega)
  have hw : IntKind.i64.wrap ((n : Int) + (p.b.length : Int)) = ((n + (t.length + 1) : Nat) : Int) := by rw [wrapI (by omega) (by omega)]; omega
  cases hh : Tg.Un.hits p s with
  | false => rw [hh] at h2; simp [h1, h2, h3, q7, q8]
  | true => rw [hh] at h2; simp [h1, h2, h3, hw, h4, h4', q7, q8]
theorem tags_l (hm : MaxL H) : LC Tryz.prog EJ 74 [] H = some (sl H.n 16 16, H.new ⟨Tg.Un.tagsL.map str, 9, true⟩) := by
  obtain ⟨r, h, e⟩ : ∃ r, LC Tryz.prog EJ 74 [] H = some (Lg.trunc H r) ∧ r = (sl H.n 16 16, H.new ⟨Tg.Un.tagsL.map str, 9, true⟩) := by
    refine LC_runs (P := Tryz.prog) (E := EJ) (f := 74) rfl Tryz.func74 rfl (Nat.le_of_ble_eq_true rfl) (by decide) (by kernel_rfl) ?_
    have hc : Lib.countB ⟨Tg.Un.tagsS.toArray⟩ ⟨([44] : List UInt8).toArray⟩ = 15 := by decide +kernel
    have h1 := split_l (H := H) (s := Tg.Un.tagsS) (p := [44]) (by decide) (by decide) hm (by rw [hc]; decide) (by rw [hc]; decide +kernel)
    have hl : (Lib.splitB ⟨([44] : List UInt8).toArray⟩ 0 15 ⟨Tg.Un.tagsS.toArray⟩).map Value.string = Tg.Un.tagsL.map str := by
      have : Lib.splitB ⟨([44] : List UInt8).toArray⟩ 0 15 ⟨Tg.Un.tagsS.toArray⟩ = Tg.Un.tagsL.map fun l => (⟨l.toArray⟩ : ByteArray) := by decide +kernel
      rw [this, List.map_map]; rfl
    rw [hc, hl] at h1
    unfold Tg.Un.tagsS at h1
    simp [h1]
  rw [h, e, trunc_no (by simp [flatB, flat1B, atomB])]
theorem Tags_l (hm : MaxL H) : LC Tryz.prog EJ 24 [] H = some (sl H.n 16 16, H.new ⟨Tg.Un.tagsL.map str, 9, true⟩) := by
  obtain ⟨r, h, e⟩ : ∃ r, LC Tryz.prog EJ 24 [] H = some (Lg.trunc H r) ∧ r = (sl H.n 16 16, H.new ⟨Tg.Un.tagsL.map str, 9, true⟩) := by
    refine LC_runs (P := Tryz.prog) (E := EJ) (f := 24) rfl Tryz.func24 rfl (Nat.le_of_ble_eq_true rfl) (by decide) (by kernel_rfl) ?_
    have h1 := tags_l hm
    simp [h1]
  rw [h, e, trunc_no (by simp [flatB, flat1B, atomB])]
theorem html1_cl {k : Nat} {e : TypeId} {r : Bool} (hs : s.length ≤ 1000000) (ht : t.length ≤ 100000) (hk : H.get k = some ⟨[str s], e, r⟩) : LC Tryz.prog EJ 113 [str t, ptr k 0] H = some (.bool (Tg.Un.tagged s t), H) := by
  refine LC_pure rfl Tryz.func113 rfl (Nat.le_of_ble_eq_true rfl) (by decide) (by kernel_rfl) rfl ?_
  have h1 := fun H : LH => tagged_cl (H := H) (s := s) (t := t) hs ht
  simp [h1, hk]
theorem isHtml_cl (hs : s.length ≤ 1000000) (hm : MaxL H) : LC Tryz.prog EJ 69 [str s] H = some (.bool (Tg.Un.html s), H) := by
  refine LC_pure rfl Tryz.func69 rfl (Nat.le_of_ble_eq_true rfl) (by decide) (by kernel_rfl) rfl ?_
  have h1 := fun H : LH => tag_cl (H := H) (s := [60, 33, 45, 45]) (t := [116, 101, 120, 116, 47, 104, 116, 109, 108]) (by decide)
  unfold Tg.Un.html
  rw [show Tg.Un.htmlT = [116, 101, 120, 116, 47, 104, 116, 109, 108] from rfl]
  generalize Tg.Un.tag [60, 33, 45, 45] [116, 101, 120, 116, 47, 104, 116, 109, 108] = p at *
  have h2 := fun H : LH => Match_cl (H := H) (s := s) (p := p) (by omega)
  cases hh : Tg.Un.hits p s with
  | true => rw [hh] at h2; simp [h1, h2]
  | false =>
    rw [hh] at h2
    have ht := tags_l (H := H.new ⟨[str s], 9, true⟩) (show MaxL (H.new _) from hm)
    have hr : SRow ((H.new ⟨[str s], 9, true⟩).new ⟨Tg.Un.tagsL.map str, 9, true⟩) (sl (H.new ⟨[str s], 9, true⟩).n 16 16) Tg.Un.tagsL := SRow.of (k := (H.new ⟨[str s], 9, true⟩).n) (c := 16) (rest := []) (by rw [get_new, List.append_nil]) (Nat.lt_succ_self _)
    have hl : ∀ x ∈ Tg.Un.tagsL, x.length ≤ 100 := by decide
    have h3 := containsS_cl (g := 113) (caps := [ptr H.n 0]) (q := Tg.Un.tagged s) hr (by decide) (fun x hx => html1_cl (e := 9) (r := true) hs (by have := hl x hx; omega) (by rw [get_new_ne (by simp), get_new]))
    simp only [n_new] at ht h3
    simp [h1, h2, ht, h3]
end
end Go.Proofs.YtombmblgmbjieaaGreatDoor
/-
  Layer 20 (unknown): the tables, by the code. Printed by gen_tab.py.
-/
set_option linter.unusedSimpArgs false
set_option linter.unusedVariables false
set_option maxRecDepth 100000
namespace Tg.Un
def iexP (b t : List UInt8) : Pat := ⟨b, List.replicate b.length 255, [], t⟩
end Tg.Un
namespace Go.Proofs.YtombmblgmbjieaaGreatDoor
open Go.Lg Go.Tg
section
variable {H : LH} {s t : List UInt8}
theorem repeat1 (c : UInt8) : ∀ n : Nat, Lib.repeatL [c] n = List.replicate n c
  | 0 => rfl
  | n + 1 => by
    show [c] ++ Lib.repeatL [c] n = _
    rw [repeat1 c n, List.replicate_succ]; rfl
theorem exact_cl {k : Nat} (hs : s.length ≤ 1000) (hk : k ≤ 1000) : LC Tryz.prog EJ 116 [str s, .int .i64 k, str t] H = some (pv (Tg.Un.exactP s k t), H) := by
  refine LC_pure rfl Tryz.func116 rfl (Nat.le_of_ble_eq_true rfl) (by decide) (by kernel_rfl) rfl ?_
  have h1 := fun H : LH => repeat_l (H := H) (s := [0]) (c := k) (by omega) (by omega) (by decide)
  have h2 := fun H : LH => repeat_l (H := H) (s := [255]) (c := s.length) (by omega) (by omega) (by decide)
  rw [Int.toNat_natCast, repeat1] at h1
  rw [Int.toNat_natCast, repeat1] at h2
  have q1 := eq_true (show s.length + k ≤ 9223372036854775807 by omega)
  simp [h1, h2, q1, lfill_p3, Tg.Un.exactP]
theorem isXml_cl (hs : s.length ≤ 1000000) : LC Tryz.prog EJ 72 [str s] H = some (.bool (Tg.Un.xml s), H) := by
  refine LC_pure rfl Tryz.func72 rfl (Nat.le_of_ble_eq_true rfl) (by decide) (by kernel_rfl) rfl ?_
  have h1 : ∀ H : LH, LC Tryz.prog EJ 116 [str [60, 63, 120, 109, 108], .int .i64 0, str [116, 101, 120, 116, 47, 120, 109, 108]] H = some (pv ⟨[60, 63, 120, 109, 108], [255, 255, 255, 255, 255], [], [116, 101, 120, 116, 47, 120, 109, 108]⟩, H) := fun H => exact_cl (k := 0) (by decide) (by decide)
  have h2 : ∀ H : LH, LC Tryz.prog EJ 111 [str [60], str [116, 101, 120, 116, 47, 104, 116, 109, 108]] H = some (pv ⟨[60], [255], [9, 10, 12, 13, 32], [116, 101, 120, 116, 47, 104, 116, 109, 108]⟩, H) := fun H => tag_cl (by decide)
  have h3 : ∀ H : LH, LC Tryz.prog EJ 110 [str s, pv ⟨[60, 63, 120, 109, 108], [255, 255, 255, 255, 255], [9, 10, 12, 13, 32], [116, 101, 120, 116, 47, 120, 109, 108]⟩] H = some (.bool (Tg.Un.xml s), H) := fun H => Match_cl (by omega)
  simp [h1, h2, h3]
theorem isPdf_cl : LC Tryz.prog EJ 73 [str s] H = some (.bool (Tg.Un.pdf s), H) := by
  refine LC_pure rfl Tryz.func73 rfl (Nat.le_of_ble_eq_true rfl) (by decide) (by kernel_rfl) rfl ?_
  have hp := Tg.Un.pre_eq s [37, 80, 68, 70, 45]
  unfold Tg.Un.pdf
  rw [← hp]
  simp
theorem Html_cl (hs : s.length ≤ 1000000) (hm : MaxL H) : LC Tryz.prog EJ 19 [str s] H = some (.bool (Tg.Un.html s), H) := by
  refine LC_pure rfl Tryz.func19 rfl (Nat.le_of_ble_eq_true rfl) (by decide) (by kernel_rfl) rfl ?_
  have h1 := isHtml_cl (H := H) hs hm
  simp [h1]
theorem Xml_cl (hs : s.length ≤ 1000000) : LC Tryz.prog EJ 21 [str s] H = some (.bool (Tg.Un.xml s), H) := by
  refine LC_pure rfl Tryz.func21 rfl (Nat.le_of_ble_eq_true rfl) (by decide) (by kernel_rfl) rfl ?_
  have h1 := fun H : LH => isXml_cl (H := H) (s := s) hs
  simp [h1]
theorem Pdf_cl : LC Tryz.prog EJ 23 [str s] H = some (.bool (Tg.Un.pdf s), H) := by
  refine LC_pure rfl Tryz.func23 rfl (Nat.le_of_ble_eq_true rfl) (by decide) (by kernel_rfl) rfl ?_
  have h1 := fun H : LH => isPdf_cl (H := H) (s := s)
  simp [h1]
theorem signs_l : LC Tryz.prog EJ 75 [] H = some (sl H.n 4 4, H.new ⟨Tg.Un.pcells Tg.Un.signsL, 66, true⟩) := by
  obtain ⟨r, h, e⟩ : ∃ r, LC Tryz.prog EJ 75 [] H = some (Lg.trunc H r) ∧ r = (sl H.n 4 4, H.new ⟨Tg.Un.pcells Tg.Un.signsL, 66, true⟩) := by
    refine LC_runs (P := Tryz.prog) (E := EJ) (f := 75) rfl Tryz.func75 rfl (Nat.le_of_ble_eq_true rfl) (by decide) (by kernel_rfl) ?_
    have h0 : ∀ H : LH, LC Tryz.prog EJ 116 [str [37, 33, 80, 83, 45, 65, 100, 111, 98, 101, 45], .int .i64 0, str [97, 112, 112, 108, 105, 99, 97, 116, 105, 111, 110, 47, 112, 111, 115, 116, 115, 99, 114, 105, 112, 116]] H = some (pv ⟨[37, 33, 80, 83, 45, 65, 100, 111, 98, 101, 45], [255, 255, 255, 255, 255, 255, 255, 255, 255, 255, 255], [], [97, 112, 112, 108, 105, 99, 97, 116, 105, 111, 110, 47, 112, 111, 115, 116, 115, 99, 114, 105, 112, 116]⟩, H) := fun H => exact_cl (k := 0) (by decide) (by decide)
    have h1 : ∀ H : LH, LC Tryz.prog EJ 116 [str [254, 255], .int .i64 2, str [116, 101, 120, 116, 47, 112, 108, 97, 105, 110]] H = some (pv ⟨[254, 255, 0, 0], [255, 255, 0, 0], [], [116, 101, 120, 116, 47, 112, 108, 97, 105, 110]⟩, H) := fun H => exact_cl (k := 2) (by decide) (by decide)
    have h2 : ∀ H : LH, LC Tryz.prog EJ 116 [str [255, 254], .int .i64 2, str [116, 101, 120, 116, 47, 112, 108, 97, 105, 110]] H = some (pv ⟨[255, 254, 0, 0], [255, 255, 0, 0], [], [116, 101, 120, 116, 47, 112, 108, 97, 105, 110]⟩, H) := fun H => exact_cl (k := 2) (by decide) (by decide)
    have h3 : ∀ H : LH, LC Tryz.prog EJ 116 [str [239, 187, 191], .int .i64 1, str [116, 101, 120, 116, 47, 112, 108, 97, 105, 110]] H = some (pv ⟨[239, 187, 191, 0], [255, 255, 255, 0], [], [116, 101, 120, 116, 47, 112, 108, 97, 105, 110]⟩, H) := fun H => exact_cl (k := 1) (by decide) (by decide)
    simp [h0, h1, h2, h3, bsP4]
    rfl
  rw [h, e, trunc_no (by simp [flatB, flat1B, atomB])]
theorem Signs_l : LC Tryz.prog EJ 28 [] H = some (sl H.n 4 4, H.new ⟨Tg.Un.pcells Tg.Un.signsL, 66, true⟩) := by
  obtain ⟨r, h, e⟩ : ∃ r, LC Tryz.prog EJ 28 [] H = some (Lg.trunc H r) ∧ r = (sl H.n 4 4, H.new ⟨Tg.Un.pcells Tg.Un.signsL, 66, true⟩) := by
    refine LC_runs (P := Tryz.prog) (E := EJ) (f := 28) rfl Tryz.func28 rfl (Nat.le_of_ble_eq_true rfl) (by decide) (by kernel_rfl) ?_
    have h1 := fun H : LH => signs_l (H := H)
    simp [h1]
  rw [h, e, trunc_no (by simp [flatB, flat1B, atomB])]
theorem iexact_cl (hs : s.length ≤ 1000) : LC Tryz.prog EJ 219 [str s, str t] H = some (pv (Tg.Un.iexP s t), H) := by
  refine LC_pure rfl Tryz.func219 rfl (Nat.le_of_ble_eq_true rfl) (by decide) (by kernel_rfl) rfl ?_
  have h2 := fun H : LH => repeat_l (H := H) (s := [255]) (c := s.length) (by omega) (by omega) (by decide)
  rw [Int.toNat_natCast, repeat1] at h2
  simp [h2, lfill_p3, Tg.Un.iexP]
theorem riff_cl : LC Tryz.prog EJ 220 [str [82, 73, 70, 70], str [87, 69, 66, 80, 86, 80], str [105, 109, 97, 103, 101, 47, 119, 101, 98, 112]] H = some (pv ⟨[82, 73, 70, 70, 0, 0, 0, 0, 87, 69, 66, 80, 86, 80], [255, 255, 255, 255, 0, 0, 0, 0, 255, 255, 255, 255, 255, 255], [], [105, 109, 97, 103, 101, 47, 119, 101, 98, 112]⟩, H) := by
  refine LC_pure rfl Tryz.func220 rfl (Nat.le_of_ble_eq_true rfl) (by decide) (by kernel_rfl) rfl ?_
  have h1 : ∀ H : LH, LC Tryz.prog EJ 219 [str [82, 73, 70, 70, 0, 0, 0, 0, 87, 69, 66, 80, 86, 80], str [105, 109, 97, 103, 101, 47, 119, 101, 98, 112]] H = some (pv ⟨[82, 73, 70, 70, 0, 0, 0, 0, 87, 69, 66, 80, 86, 80], [255, 255, 255, 255, 255, 255, 255, 255, 255, 255, 255, 255, 255, 255], [], [105, 109, 97, 103, 101, 47, 119, 101, 98, 112]⟩, H) := fun H => iexact_cl (by decide)
  simp [h1]
theorem image_l : LC Tryz.prog EJ 180 [] H = some (sl H.n 8 8, H.new ⟨Tg.Un.pcells Tg.Un.imageL, 66, true⟩) := by
  obtain ⟨r, h, e⟩ : ∃ r, LC Tryz.prog EJ 180 [] H = some (Lg.trunc H r) ∧ r = (sl H.n 8 8, H.new ⟨Tg.Un.pcells Tg.Un.imageL, 66, true⟩) := by
    refine LC_runs (P := Tryz.prog) (E := EJ) (f := 180) rfl Tryz.func180 rfl (Nat.le_of_ble_eq_true rfl) (by decide) (by kernel_rfl) ?_
    have h0 : ∀ H : LH, LC Tryz.prog EJ 219 [str [0, 0, 1, 0], str [105, 109, 97, 103, 101, 47, 120, 45, 105, 99, 111, 110]] H = some (pv ⟨[0, 0, 1, 0], [255, 255, 255, 255], [], [105, 109, 97, 103, 101, 47, 120, 45, 105, 99, 111, 110]⟩, H) := fun H => iexact_cl (by decide)
    have h1 : ∀ H : LH, LC Tryz.prog EJ 219 [str [0, 0, 2, 0], str [105, 109, 97, 103, 101, 47, 120, 45, 105, 99, 111, 110]] H = some (pv ⟨[0, 0, 2, 0], [255, 255, 255, 255], [], [105, 109, 97, 103, 101, 47, 120, 45, 105, 99, 111, 110]⟩, H) := fun H => iexact_cl (by decide)
    have h2 : ∀ H : LH, LC Tryz.prog EJ 219 [str [66, 77], str [105, 109, 97, 103, 101, 47, 98, 109, 112]] H = some (pv ⟨[66, 77], [255, 255], [], [105, 109, 97, 103, 101, 47, 98, 109, 112]⟩, H) := fun H => iexact_cl (by decide)
    have h3 : ∀ H : LH, LC Tryz.prog EJ 219 [str [71, 73, 70, 56, 55, 97], str [105, 109, 97, 103, 101, 47, 103, 105, 102]] H = some (pv ⟨[71, 73, 70, 56, 55, 97], [255, 255, 255, 255, 255, 255], [], [105, 109, 97, 103, 101, 47, 103, 105, 102]⟩, H) := fun H => iexact_cl (by decide)
    have h4 : ∀ H : LH, LC Tryz.prog EJ 219 [str [71, 73, 70, 56, 57, 97], str [105, 109, 97, 103, 101, 47, 103, 105, 102]] H = some (pv ⟨[71, 73, 70, 56, 57, 97], [255, 255, 255, 255, 255, 255], [], [105, 109, 97, 103, 101, 47, 103, 105, 102]⟩, H) := fun H => iexact_cl (by decide)
    have h5 := fun H : LH => riff_cl (H := H)
    have h6 : ∀ H : LH, LC Tryz.prog EJ 219 [str [137, 80, 78, 71, 13, 10, 26, 10], str [105, 109, 97, 103, 101, 47, 112, 110, 103]] H = some (pv ⟨[137, 80, 78, 71, 13, 10, 26, 10], [255, 255, 255, 255, 255, 255, 255, 255], [], [105, 109, 97, 103, 101, 47, 112, 110, 103]⟩, H) := fun H => iexact_cl (by decide)
    have h7 : ∀ H : LH, LC Tryz.prog EJ 219 [str [255, 216, 255], str [105, 109, 97, 103, 101, 47, 106, 112, 101, 103]] H = some (pv ⟨[255, 216, 255], [255, 255, 255], [], [105, 109, 97, 103, 101, 47, 106, 112, 101, 103]⟩, H) := fun H => iexact_cl (by decide)
    simp [h0, h1, h2, h3, h4, h5, h6, h7, bsP8]
    rfl
  rw [h, e, trunc_no (by simp [flatB, flat1B, atomB])]
theorem arch_l : LC Tryz.prog EJ 181 [] H = some (sl H.n 3 3, H.new ⟨Tg.Un.pcells Tg.Un.archL, 66, true⟩) := by
  obtain ⟨r, h, e⟩ : ∃ r, LC Tryz.prog EJ 181 [] H = some (Lg.trunc H r) ∧ r = (sl H.n 3 3, H.new ⟨Tg.Un.pcells Tg.Un.archL, 66, true⟩) := by
    refine LC_runs (P := Tryz.prog) (E := EJ) (f := 181) rfl Tryz.func181 rfl (Nat.le_of_ble_eq_true rfl) (by decide) (by kernel_rfl) ?_
    have h0 : ∀ H : LH, LC Tryz.prog EJ 221 [.int .i64 0, str [31, 139, 8], str [97, 112, 112, 108, 105, 99, 97, 116, 105, 111, 110, 47, 120, 45, 103, 122, 105, 112]] H = some (pv ⟨[31, 139, 8], [255, 255, 255], [], [97, 112, 112, 108, 105, 99, 97, 116, 105, 111, 110, 47, 120, 45, 103, 122, 105, 112]⟩, H) := fun H => with_l (by decide) (by decide)
    have h1 : ∀ H : LH, LC Tryz.prog EJ 221 [.int .i64 0, str [80, 75, 3, 4], str [97, 112, 112, 108, 105, 99, 97, 116, 105, 111, 110, 47, 122, 105, 112]] H = some (pv ⟨[80, 75, 3, 4], [255, 255, 255, 255], [], [97, 112, 112, 108, 105, 99, 97, 116, 105, 111, 110, 47, 122, 105, 112]⟩, H) := fun H => with_l (by decide) (by decide)
    have h2 : ∀ H : LH, LC Tryz.prog EJ 221 [.int .i64 0, str [82, 97, 114, 32, 26, 7, 0], str [97, 112, 112, 108, 105, 99, 97, 116, 105, 111, 110, 47, 120, 45, 114, 97, 114, 45, 99, 111, 109, 112, 114, 101, 115, 115, 101, 100]] H = some (pv ⟨[82, 97, 114, 32, 26, 7, 0], [255, 255, 255, 255, 255, 255, 255], [], [97, 112, 112, 108, 105, 99, 97, 116, 105, 111, 110, 47, 120, 45, 114, 97, 114, 45, 99, 111, 109, 112, 114, 101, 115, 115, 101, 100]⟩, H) := fun H => with_l (by decide) (by decide)
    simp [h0, h1, h2, bsP3]
    rfl
  rw [h, e, trunc_no (by simp [flatB, flat1B, atomB])]
theorem prow_l {l : List Tg.Un.Pat} {n : Nat} (hn : n = l.length) : PRow (H.new ⟨Tg.Un.pcells l, 66, true⟩) (sl H.n n n) l := by
  subst hn
  exact PRow.of (k := H.n) (c := l.length) (rest := []) (by rw [get_new, List.append_nil]) (Nat.lt_succ_self _)
theorem ikind_cl (hs : s.length ≤ 1000000) : LC Tryz.prog EJ 137 [str s] H = some (str (Tg.Un.typeOf s Tg.Un.imageL), H) := by
  refine LC_pure rfl Tryz.func137 rfl (Nat.le_of_ble_eq_true rfl) (by decide) (by kernel_rfl) rfl ?_
  have h1 := fun H : LH => image_l (H := H)
  have h2 := mtype_cl (s := s) (prow_l (H := H) (l := Tg.Un.imageL) (n := 8) rfl) (by decide) (by omega)
  simp [h1, h2]
theorem archive_cl (hs : s.length ≤ 1000000) : LC Tryz.prog EJ 138 [str s] H = some (str (Tg.Un.typeOf s Tg.Un.archL), H) := by
  refine LC_pure rfl Tryz.func138 rfl (Nat.le_of_ble_eq_true rfl) (by decide) (by kernel_rfl) rfl ?_
  have h1 := fun H : LH => arch_l (H := H)
  have h2 := mtype_cl (s := s) (prow_l (H := H) (l := Tg.Un.archL) (n := 3) rfl) (by decide) (by omega)
  simp [h1, h2]
theorem itype_cl (hs : s.length ≤ 1000000) : LC Tryz.prog EJ 96 [str s] H = some (str (Tg.Un.typeOf s Tg.Un.imageL), H) := by
  refine LC_pure rfl Tryz.func96 rfl (Nat.le_of_ble_eq_true rfl) (by decide) (by kernel_rfl) rfl ?_
  have h1 := fun H : LH => ikind_cl (H := H) (s := s) hs
  simp [h1]
theorem Archive_cl (hs : s.length ≤ 1000000) : LC Tryz.prog EJ 97 [str s] H = some (str (Tg.Un.typeOf s Tg.Un.archL), H) := by
  refine LC_pure rfl Tryz.func97 rfl (Nat.le_of_ble_eq_true rfl) (by decide) (by kernel_rfl) rfl ?_
  have h1 := fun H : LH => archive_cl (H := H) (s := s) hs
  simp [h1]
end
end Go.Proofs.YtombmblgmbjieaaGreatDoor
/-
  Layer 20 (unknown): what the reference's tables come to. Printed by gen_refc.py.
-/
set_option linter.unusedSimpArgs false
set_option linter.unusedVariables false
set_option maxRecDepth 100000
namespace Tg.Un
def gapM (lo hi : Nat) (i : Nat) : UInt8 := if lo ≤ i ∧ i < hi then 0 else 255
theorem gapP_m (b : List UInt8) (lo hi : Nat) (k : List UInt8) : (gapP b lo hi k).m = (List.range b.length).map (gapM lo hi) := rfl
end Tg.Un
namespace Go.Proofs.YtombmblgmbjieaaGreatDoor
open Go.Lg Go.Tg
section
variable {H : LH} {s t l : List UInt8}
theorem ubv_cells (l : List UInt8) : (l.map bv).all cellB = true := by simp [bv]
theorem urow_str {N : Nat} {v : Value} {l : List UInt8} (h : RowN N H 5 1 v l.length (l.map bv)) (hv : v ≠ .slice none 0 0) : ∃ k c, v = sl k l.length c ∧ lconv Tryz.prog 57 9 (sl k l.length c) H = some (str l) := by
  rcases h.2 with ⟨e, h0⟩ | ⟨k, c, rest, e, g1, g2, g3, g4, g5⟩
  · exact absurd e hv
  · refine ⟨k, c, e, lconv_bs (e := 5) Tryz.underlying57 Tryz.underlying9 Tryz.underlying5 g3 (by simp) ?_⟩
    have : ((l.map bv ++ rest).drop 0).take l.length = l.map bv := by simp
    rw [this]; exact lbs_map l
theorem ubyte_app {v : Value} {N : Nat} {l : List UInt8} {x : UInt8} (h : RowN N H 5 1 v l.length (l.map bv)) (hN : N ≤ H.n) (hl : l.length ≤ 1000000) :
    ∃ v' H2, lapp Tryz.prog 57 v (some (1, [.int .u8 x.toNat])) (H.new ⟨[.int .u8 x.toNat], 5, true⟩) = some (v', H2) ∧ RowN N H2 5 1 v' (l ++ [x]).length ((l ++ [x]).map bv) ∧ N ≤ H2.n ∧ ∀ k, k < N → H2.get k = H.get k := by
  have h2 : RowN N (H.new ⟨[.int .u8 x.toNat], 5, true⟩) 5 1 v l.length (l.map bv) := h.keep (Nat.le_succ _) (fun k _ _ hk => get_new_ne (by omega))
  obtain ⟨v', H2, ha, hr, hk, _⟩ := h2.app (t := 57) (new := [x].map bv) (m := 1) Tryz.underlying57 (by kernel_rfl) (ubv_cells [x]) (by simp) (by unfold maxElems; omega) (by rw [n_new]; omega) (.inl (Nat.le_refl 1))
  refine ⟨v', H2, ha, by rw [List.length_append, List.map_append]; exact hr, Nat.le_trans (by rw [n_new]; omega) hk.le, fun k hkn => ?_⟩
  rw [hk.get k (by rw [n_new]; omega) (h.off_lt hkn), get_new_ne (by omega)]
theorem ubs0 : lbuildSlice Tryz.prog 57 0 [] H = some (sl H.n 0 0, H.new ⟨[], 5, true⟩) := lbs_dense (z := .int .u8 0) Tryz.underlying57 (by kernel_rfl) (by kernel_rfl) rfl rfl rfl (by decide) rfl
theorem urow_ne {N : Nat} {v : Value} {l : List UInt8} {x : UInt8} (h : RowN N H 5 1 v (l ++ [x]).length ((l ++ [x]).map bv)) : v ≠ .slice none 0 0 := by
  rcases h.2 with ⟨_, e⟩ | ⟨k, c2, rest, e, _⟩
  · simp at e
  · rw [e]; intro e2; cases e2
theorem rexact_cl {lo hi : Nat} (hs : s.length ≤ 100000) : LC Tryz.prog EJ 76 [str s, str t, .int .i64 lo, .int .i64 hi] H = some (pv (Tg.Un.gapP s lo hi t), H) := by
  refine LC_pure rfl Tryz.func76 rfl (Nat.le_of_ble_eq_true rfl) (by decide) (by kernel_rfl) rfl ?_
  have hm := Tg.Un.gapP_m s lo hi t
  have hb : (Tg.Un.gapP s lo hi t).b = s := rfl
  have h2 : (Tg.Un.gapP s lo hi t).s = [] := rfl
  have ht : (Tg.Un.gapP s lo hi t).t = t := rfl
  generalize Tg.Un.gapP s lo hi t = P at *
  simp [ubs0]
  refine loop_ind (fun (i : Nat) fr' H' => fr' 0 = str s ∧ fr' 1 = str t ∧ fr' 2 = .int .i64 lo ∧ fr' 3 = .int .i64 hi ∧ fr' 8 = ptr H.n 0 ∧ fr' 10 = .int .i64 i ∧ i ≤ s.length ∧ (∃ v, fr' 9 = v ∧ v ≠ .slice none 0 0 ∧ RowN (H.n + 1) H' 5 1 v ((List.range i).map (Tg.Un.gapM lo hi)).length (((List.range i).map (Tg.Un.gapM lo hi)).map bv)) ∧ H.n + 1 ≤ H'.n ∧ H'.get H.n = some ⟨[str [], str [], str [], str []], 66, true⟩ ∧ ∀ k, k < H.n → H'.get k = H.get k) (fun i => s.length - i) 0 ⟨by simp, by simp, by simp, by simp, by simp, by simp, Nat.zero_le _, ⟨sl (H.n + 1) 0 0, by simp, (by intro e; cases e), ?_⟩, by simp, ?_, fun k hk => ?_⟩ ?_
  · exact ⟨by simp, .inr ⟨H.n + 1, 0, [], by simp, Nat.le_refl _, by simp, by simp, by simp, by simp⟩⟩
  · rw [get_new_ne (by simp), get_new]
  · rw [get_new_ne (by simp only [n_new]; omega), get_new_ne (by omega)]
  rintro i fr' H' ⟨h0, h1, h2', h3, h8, h10, hi', ⟨v, h9, hne, hr⟩, hn, hz, hk⟩ ih
  by_cases hlt : i < s.length
  · have q := eq_true (show (i : Int) < (s.length : Int) by omega)
    have hw : IntKind.i64.wrap ((i : Int) + 1) = ((i + 1 : Nat) : Int) := by rw [wrapI (by omega) (by omega)]; omega
    obtain ⟨v2, H2, a1, a2, a3, a4⟩ := ubyte_app (x := Tg.Un.gapM lo hi i) hr hn (by simp; omega)
    have hne2 := urow_ne a2
    have hnew : (List.range i).map (Tg.Un.gapM lo hi) ++ [Tg.Un.gapM lo hi i] = (List.range (i + 1)).map (Tg.Un.gapM lo hi) := by rw [List.range_succ, List.map_append]; rfl
    rw [hnew] at a2
    have hfin := fun (fr2 : Fr) (e0 : fr2 0 = str s) (e1 : fr2 1 = str t) (e2 : fr2 2 = .int .i64 lo) (e3 : fr2 3 = .int .i64 hi) (e8 : fr2 8 = ptr H.n 0) (e10 : fr2 10 = .int .i64 ((i + 1 : Nat) : Int)) (e9 : fr2 9 = v2) => ih (i + 1) fr2 H2 (by omega) ⟨e0, e1, e2, e3, e8, e10, by omega, ⟨v2, e9, hne2, a2⟩, a3, by rw [a4 _ (by omega)]; exact hz, fun k hk2 => by rw [a4 k (by omega), hk k hk2]⟩
    clear ih
    unfold Tg.Un.gapM at a1
    by_cases c1 : lo ≤ i
    · have p1 := eq_true (show (lo : Int) ≤ (i : Int) by omega)
      by_cases c2 : i < hi
      · have p2 := eq_true (show (i : Int) < (hi : Int) by omega)
        rw [if_pos ⟨c1, c2⟩] at a1
        simp at a1
        simp [h0, h1, h2', h3, h8, h9, h10, q, p1, p2, a1]
        refine hfin _ ?_ ?_ ?_ ?_ ?_ ?_ ?_
        all_goals simp [h0, h1, h2', h3, h8, hw]
      · have p2 := eq_false (show ¬ (i : Int) < (hi : Int) by omega)
        rw [if_neg (fun h => c2 h.2)] at a1
        simp at a1
        simp [h0, h1, h2', h3, h8, h9, h10, q, p1, p2, a1]
        refine hfin _ ?_ ?_ ?_ ?_ ?_ ?_ ?_
        all_goals simp [h0, h1, h2', h3, h8, hw]
    · have p1 := eq_false (show ¬ (lo : Int) ≤ (i : Int) by omega)
      rw [if_neg (fun h => c1 h.1)] at a1
      simp at a1
      simp [h0, h1, h2', h3, h8, h9, h10, q, p1, a1]
      refine hfin _ ?_ ?_ ?_ ?_ ?_ ?_ ?_
      all_goals simp [h0, h1, h2', h3, h8, hw]
  · have q := eq_false (show ¬ (i : Int) < (s.length : Int) by omega)
    obtain rfl : i = s.length := by omega
    obtain ⟨k, c, hv, hc⟩ := urow_str hr hne
    rw [← hm] at hc hv
    subst hv
    simp [h0, h1, h2', h3, h8, h9, h10, q, hc, lfill_p3, hb, h2, ht, hz]
    exact ⟨by omega, fun k hk2 => hk k hk2⟩
theorem rimage_l : LC Tryz.prog EJ 61 [] H = some (sl H.n 8 8, H.new ⟨Tg.Un.pcells Tg.Un.imageL, 66, true⟩) := by
  obtain ⟨r, h, e⟩ : ∃ r, LC Tryz.prog EJ 61 [] H = some (Lg.trunc H r) ∧ r = (sl H.n 8 8, H.new ⟨Tg.Un.pcells Tg.Un.imageL, 66, true⟩) := by
    refine LC_runs (P := Tryz.prog) (E := EJ) (f := 61) rfl Tryz.func61 rfl (Nat.le_of_ble_eq_true rfl) (by decide) (by kernel_rfl) ?_
    have h0 : ∀ H : LH, LC Tryz.prog EJ 76 [str [0, 0, 1, 0], str [105, 109, 97, 103, 101, 47, 120, 45, 105, 99, 111, 110], .int .i64 0, .int .i64 0] H = some (pv ⟨[0, 0, 1, 0], [255, 255, 255, 255], [], [105, 109, 97, 103, 101, 47, 120, 45, 105, 99, 111, 110]⟩, H) := fun H => rexact_cl (lo := 0) (hi := 0) (by decide)
    have h1 : ∀ H : LH, LC Tryz.prog EJ 76 [str [0, 0, 2, 0], str [105, 109, 97, 103, 101, 47, 120, 45, 105, 99, 111, 110], .int .i64 0, .int .i64 0] H = some (pv ⟨[0, 0, 2, 0], [255, 255, 255, 255], [], [105, 109, 97, 103, 101, 47, 120, 45, 105, 99, 111, 110]⟩, H) := fun H => rexact_cl (lo := 0) (hi := 0) (by decide)
    have h2 : ∀ H : LH, LC Tryz.prog EJ 76 [str [66, 77], str [105, 109, 97, 103, 101, 47, 98, 109, 112], .int .i64 0, .int .i64 0] H = some (pv ⟨[66, 77], [255, 255], [], [105, 109, 97, 103, 101, 47, 98, 109, 112]⟩, H) := fun H => rexact_cl (lo := 0) (hi := 0) (by decide)
    have h3 : ∀ H : LH, LC Tryz.prog EJ 76 [str [71, 73, 70, 56, 55, 97], str [105, 109, 97, 103, 101, 47, 103, 105, 102], .int .i64 0, .int .i64 0] H = some (pv ⟨[71, 73, 70, 56, 55, 97], [255, 255, 255, 255, 255, 255], [], [105, 109, 97, 103, 101, 47, 103, 105, 102]⟩, H) := fun H => rexact_cl (lo := 0) (hi := 0) (by decide)
    have h4 : ∀ H : LH, LC Tryz.prog EJ 76 [str [71, 73, 70, 56, 57, 97], str [105, 109, 97, 103, 101, 47, 103, 105, 102], .int .i64 0, .int .i64 0] H = some (pv ⟨[71, 73, 70, 56, 57, 97], [255, 255, 255, 255, 255, 255], [], [105, 109, 97, 103, 101, 47, 103, 105, 102]⟩, H) := fun H => rexact_cl (lo := 0) (hi := 0) (by decide)
    have h5 : ∀ H : LH, LC Tryz.prog EJ 76 [str [82, 73, 70, 70, 0, 0, 0, 0, 87, 69, 66, 80, 86, 80], str [105, 109, 97, 103, 101, 47, 119, 101, 98, 112], .int .i64 4, .int .i64 8] H = some (pv ⟨[82, 73, 70, 70, 0, 0, 0, 0, 87, 69, 66, 80, 86, 80], [255, 255, 255, 255, 0, 0, 0, 0, 255, 255, 255, 255, 255, 255], [], [105, 109, 97, 103, 101, 47, 119, 101, 98, 112]⟩, H) := fun H => rexact_cl (lo := 4) (hi := 8) (by decide)
    have h6 : ∀ H : LH, LC Tryz.prog EJ 76 [str [137, 80, 78, 71, 13, 10, 26, 10], str [105, 109, 97, 103, 101, 47, 112, 110, 103], .int .i64 0, .int .i64 0] H = some (pv ⟨[137, 80, 78, 71, 13, 10, 26, 10], [255, 255, 255, 255, 255, 255, 255, 255], [], [105, 109, 97, 103, 101, 47, 112, 110, 103]⟩, H) := fun H => rexact_cl (lo := 0) (hi := 0) (by decide)
    have h7 : ∀ H : LH, LC Tryz.prog EJ 76 [str [255, 216, 255], str [105, 109, 97, 103, 101, 47, 106, 112, 101, 103], .int .i64 0, .int .i64 0] H = some (pv ⟨[255, 216, 255], [255, 255, 255], [], [105, 109, 97, 103, 101, 47, 106, 112, 101, 103]⟩, H) := fun H => rexact_cl (lo := 0) (hi := 0) (by decide)
    simp [h0, h1, h2, h3, h4, h5, h6, h7, bsP8]
    rfl
  rw [h, e, trunc_no (by simp [flatB, flat1B, atomB])]
theorem rmedia_l : LC Tryz.prog EJ 65 [] H = some (sl H.n 6 6, H.new ⟨Tg.Un.pcells Tg.Un.mediaL, 66, true⟩) := by
  obtain ⟨r, h, e⟩ : ∃ r, LC Tryz.prog EJ 65 [] H = some (Lg.trunc H r) ∧ r = (sl H.n 6 6, H.new ⟨Tg.Un.pcells Tg.Un.mediaL, 66, true⟩) := by
    refine LC_runs (P := Tryz.prog) (E := EJ) (f := 65) rfl Tryz.func65 rfl (Nat.le_of_ble_eq_true rfl) (by decide) (by kernel_rfl) ?_
    have h0 : ∀ H : LH, LC Tryz.prog EJ 76 [str [70, 79, 82, 77, 0, 0, 0, 0, 65, 73, 70, 70], str [97, 117, 100, 105, 111, 47, 97, 105, 102, 102], .int .i64 4, .int .i64 8] H = some (pv ⟨[70, 79, 82, 77, 0, 0, 0, 0, 65, 73, 70, 70], [255, 255, 255, 255, 0, 0, 0, 0, 255, 255, 255, 255], [], [97, 117, 100, 105, 111, 47, 97, 105, 102, 102]⟩, H) := fun H => rexact_cl (lo := 4) (hi := 8) (by decide)
    have h1 : ∀ H : LH, LC Tryz.prog EJ 76 [str [73, 68, 51], str [97, 117, 100, 105, 111, 47, 109, 112, 101, 103], .int .i64 0, .int .i64 0] H = some (pv ⟨[73, 68, 51], [255, 255, 255], [], [97, 117, 100, 105, 111, 47, 109, 112, 101, 103]⟩, H) := fun H => rexact_cl (lo := 0) (hi := 0) (by decide)
    have h2 : ∀ H : LH, LC Tryz.prog EJ 76 [str [79, 103, 103, 83, 0], str [97, 112, 112, 108, 105, 99, 97, 116, 105, 111, 110, 47, 111, 103, 103], .int .i64 0, .int .i64 0] H = some (pv ⟨[79, 103, 103, 83, 0], [255, 255, 255, 255, 255], [], [97, 112, 112, 108, 105, 99, 97, 116, 105, 111, 110, 47, 111, 103, 103]⟩, H) := fun H => rexact_cl (lo := 0) (hi := 0) (by decide)
    have h3 : ∀ H : LH, LC Tryz.prog EJ 76 [str [77, 84, 104, 100, 0, 0, 0, 6], str [97, 117, 100, 105, 111, 47, 109, 105, 100, 105], .int .i64 0, .int .i64 0] H = some (pv ⟨[77, 84, 104, 100, 0, 0, 0, 6], [255, 255, 255, 255, 255, 255, 255, 255], [], [97, 117, 100, 105, 111, 47, 109, 105, 100, 105]⟩, H) := fun H => rexact_cl (lo := 0) (hi := 0) (by decide)
    have h4 : ∀ H : LH, LC Tryz.prog EJ 76 [str [82, 73, 70, 70, 0, 0, 0, 0, 65, 86, 73, 32], str [118, 105, 100, 101, 111, 47, 97, 118, 105], .int .i64 4, .int .i64 8] H = some (pv ⟨[82, 73, 70, 70, 0, 0, 0, 0, 65, 86, 73, 32], [255, 255, 255, 255, 0, 0, 0, 0, 255, 255, 255, 255], [], [118, 105, 100, 101, 111, 47, 97, 118, 105]⟩, H) := fun H => rexact_cl (lo := 4) (hi := 8) (by decide)
    have h5 : ∀ H : LH, LC Tryz.prog EJ 76 [str [82, 73, 70, 70, 0, 0, 0, 0, 87, 65, 86, 69], str [97, 117, 100, 105, 111, 47, 119, 97, 118, 101], .int .i64 4, .int .i64 8] H = some (pv ⟨[82, 73, 70, 70, 0, 0, 0, 0, 87, 65, 86, 69], [255, 255, 255, 255, 0, 0, 0, 0, 255, 255, 255, 255], [], [97, 117, 100, 105, 111, 47, 119, 97, 118, 101]⟩, H) := fun H => rexact_cl (lo := 4) (hi := 8) (by decide)
    simp [h0, h1, h2, h3, h4, h5, bsP6]
    rfl
  rw [h, e, trunc_no (by simp [flatB, flat1B, atomB])]
theorem rarch_l : LC Tryz.prog EJ 62 [] H = some (sl H.n 3 3, H.new ⟨Tg.Un.pcells Tg.Un.archL, 66, true⟩) := by
  obtain ⟨r, h, e⟩ : ∃ r, LC Tryz.prog EJ 62 [] H = some (Lg.trunc H r) ∧ r = (sl H.n 3 3, H.new ⟨Tg.Un.pcells Tg.Un.archL, 66, true⟩) := by
    refine LC_runs (P := Tryz.prog) (E := EJ) (f := 62) rfl Tryz.func62 rfl (Nat.le_of_ble_eq_true rfl) (by decide) (by kernel_rfl) ?_
    have h0 : ∀ H : LH, LC Tryz.prog EJ 76 [str [31, 139, 8], str [97, 112, 112, 108, 105, 99, 97, 116, 105, 111, 110, 47, 120, 45, 103, 122, 105, 112], .int .i64 0, .int .i64 0] H = some (pv ⟨[31, 139, 8], [255, 255, 255], [], [97, 112, 112, 108, 105, 99, 97, 116, 105, 111, 110, 47, 120, 45, 103, 122, 105, 112]⟩, H) := fun H => rexact_cl (lo := 0) (hi := 0) (by decide)
    have h1 : ∀ H : LH, LC Tryz.prog EJ 76 [str [80, 75, 3, 4], str [97, 112, 112, 108, 105, 99, 97, 116, 105, 111, 110, 47, 122, 105, 112], .int .i64 0, .int .i64 0] H = some (pv ⟨[80, 75, 3, 4], [255, 255, 255, 255], [], [97, 112, 112, 108, 105, 99, 97, 116, 105, 111, 110, 47, 122, 105, 112]⟩, H) := fun H => rexact_cl (lo := 0) (hi := 0) (by decide)
    have h2 : ∀ H : LH, LC Tryz.prog EJ 76 [str [82, 97, 114, 32, 26, 7, 0], str [97, 112, 112, 108, 105, 99, 97, 116, 105, 111, 110, 47, 120, 45, 114, 97, 114, 45, 99, 111, 109, 112, 114, 101, 115, 115, 101, 100], .int .i64 0, .int .i64 0] H = some (pv ⟨[82, 97, 114, 32, 26, 7, 0], [255, 255, 255, 255, 255, 255, 255], [], [97, 112, 112, 108, 105, 99, 97, 116, 105, 111, 110, 47, 120, 45, 114, 97, 114, 45, 99, 111, 109, 112, 114, 101, 115, 115, 101, 100]⟩, H) := fun H => rexact_cl (lo := 0) (hi := 0) (by decide)
    simp [h0, h1, h2, bsP3]
    rfl
  rw [h, e, trunc_no (by simp [flatB, flat1B, atomB])]
theorem rsigns_l : LC Tryz.prog EJ 29 [] H = some (sl H.n 4 4, H.new ⟨Tg.Un.pcells Tg.Un.signsL, 66, true⟩) := by
  obtain ⟨r, h, e⟩ : ∃ r, LC Tryz.prog EJ 29 [] H = some (Lg.trunc H r) ∧ r = (sl H.n 4 4, H.new ⟨Tg.Un.pcells Tg.Un.signsL, 66, true⟩) := by
    refine LC_runs (P := Tryz.prog) (E := EJ) (f := 29) rfl Tryz.func29 rfl (Nat.le_of_ble_eq_true rfl) (by decide) (by kernel_rfl) ?_
    have h0 : ∀ H : LH, LC Tryz.prog EJ 76 [str [37, 33, 80, 83, 45, 65, 100, 111, 98, 101, 45], str [97, 112, 112, 108, 105, 99, 97, 116, 105, 111, 110, 47, 112, 111, 115, 116, 115, 99, 114, 105, 112, 116], .int .i64 0, .int .i64 0] H = some (pv ⟨[37, 33, 80, 83, 45, 65, 100, 111, 98, 101, 45], [255, 255, 255, 255, 255, 255, 255, 255, 255, 255, 255], [], [97, 112, 112, 108, 105, 99, 97, 116, 105, 111, 110, 47, 112, 111, 115, 116, 115, 99, 114, 105, 112, 116]⟩, H) := fun H => rexact_cl (lo := 0) (hi := 0) (by decide)
    have h1 : ∀ H : LH, LC Tryz.prog EJ 76 [str [254, 255, 0, 0], str [116, 101, 120, 116, 47, 112, 108, 97, 105, 110], .int .i64 2, .int .i64 4] H = some (pv ⟨[254, 255, 0, 0], [255, 255, 0, 0], [], [116, 101, 120, 116, 47, 112, 108, 97, 105, 110]⟩, H) := fun H => rexact_cl (lo := 2) (hi := 4) (by decide)
    have h2 : ∀ H : LH, LC Tryz.prog EJ 76 [str [255, 254, 0, 0], str [116, 101, 120, 116, 47, 112, 108, 97, 105, 110], .int .i64 2, .int .i64 4] H = some (pv ⟨[255, 254, 0, 0], [255, 255, 0, 0], [], [116, 101, 120, 116, 47, 112, 108, 97, 105, 110]⟩, H) := fun H => rexact_cl (lo := 2) (hi := 4) (by decide)
    have h3 : ∀ H : LH, LC Tryz.prog EJ 76 [str [239, 187, 191, 0], str [116, 101, 120, 116, 47, 112, 108, 97, 105, 110], .int .i64 3, .int .i64 4] H = some (pv ⟨[239, 187, 191, 0], [255, 255, 255, 0], [], [116, 101, 120, 116, 47, 112, 108, 97, 105, 110]⟩, H) := fun H => rexact_cl (lo := 3) (hi := 4) (by decide)
    simp [h0, h1, h2, h3, bsP4]
    rfl
  rw [h, e, trunc_no (by simp [flatB, flat1B, atomB])]
end
end Go.Proofs.YtombmblgmbjieaaGreatDoor
/-
  Layer 20 (unknown): what the reference's films and texts come to.
-/
set_option linter.unusedSimpArgs false
set_option linter.unusedVariables false
set_option maxRecDepth 100000
namespace Tg.Un
theorem rodd_lit : ∀ k : Fin 256, odd (UInt8.ofNat k.1) = (decide ((k.1 : Int) ≤ 8) || (decide ((k.1 : Int) = 11) || ((decide ((14 : Int) ≤ k.1) && decide ((k.1 : Int) ≤ 26)) || (decide ((28 : Int) ≤ k.1) && decide ((k.1 : Int) ≤ 31))))) := by decide +kernel
def numI (s : List UInt8) : Int := if s.length < 4 then -1 else num4 s
theorem rwidth_lit : ∀ k : Fin 256, width (UInt8.ofNat k.1) = if 128 ≤ k.1 then 1 else if 64 ≤ k.1 then 2 else if 32 ≤ k.1 then 3 else if 16 ≤ k.1 then 4 else if 8 ≤ k.1 then 5 else if 4 ≤ k.1 then 6 else if 2 ≤ k.1 then 7 else 8 := by decide +kernel
end Tg.Un
namespace Go.Proofs.YtombmblgmbjieaaGreatDoor
open Go.Lg Go.Tg
section
variable {H : LH} {c : UInt8} {s p t : List UInt8}
theorem rbyte_cl : LC Tryz.prog EJ 99 [.int .u8 c.toNat] H = some (.bool (Tg.Un.odd c), H) := by
  refine LC_pure rfl Tryz.func99 rfl (Nat.le_of_ble_eq_true rfl) (by decide) (by kernel_rfl) rfl ?_
  have h := Tg.Un.rodd_lit ⟨c.toNat, c.toNat_lt⟩
  simp only [UInt8.ofNat_toNat] at h
  rw [h]
  by_cases h1 : (c.toNat : Int) ≤ 8
  · simp [h1]
  · by_cases h2 : (c.toNat : Int) = 11
    · simp [h1, h2]
    · by_cases h3 : (14 : Int) ≤ c.toNat
      · by_cases h4 : (c.toNat : Int) ≤ 26
        · simp [h1, h2, h3, h4]
        · by_cases h5 : (28 : Int) ≤ c.toNat
          · by_cases h6 : (c.toNat : Int) ≤ 31 <;> simp [h1, h2, h3, h4, h5, h6]
          · simp [h1, h2, h3, h4, h5]
      · have h5 : ¬ (28 : Int) ≤ c.toNat := by omega
        simp [h1, h2, h3, h5]
theorem rfirst19_cl (hs : s.length ≤ 1048576) : LC Tryz.prog EJ 63 [str s] H = some (.int .i64 (Tg.Un.seek s 0), H) := by
  refine LC_pure rfl Tryz.func63 rfl (Nat.le_of_ble_eq_true rfl) (by decide) (by kernel_rfl) rfl ?_
  obtain ⟨x, hx⟩ : ∃ x, x = Tg.Un.seek s 0 := ⟨_, rfl⟩
  rw [← hx]
  simp
  refine loop_ind (fun (i : Nat) fr' H' => fr' 0 = str s ∧ fr' 3 = .int .i64 i ∧ i ≤ s.length ∧ x = Tg.Un.seek (s.drop i) i ∧ H' = H) (fun i => s.length - i) 0 ⟨by simp, by simp, Nat.zero_le _, hx, rfl⟩ ?_
  rintro i fr' H' ⟨h0, h3, hi, hc, rfl⟩ ih
  by_cases hlt : i < s.length
  · have q := eq_true (show (i : Int) < (s.length : Int) by omega)
    have hat : at_ s (i : Int) = s[i] := at_in hlt
    have hw : IntKind.i64.wrap ((i : Int) + 1) = ((i + 1 : Nat) : Int) := by rw [wrapI (by omega) (by omega)]; omega
    have ho := fun H : LH => rbyte_cl (H := H) (c := s[i])
    rw [List.drop_eq_getElem_cons hlt] at hc
    generalize s[i] = a at *
    unfold Tg.Un.seek at hc
    cases hf : Tg.Un.odd a with
    | true =>
      rw [hf, if_pos rfl] at hc
      rw [hf] at ho
      subst hc
      simp [h0, h3, q, hat, ho]
    | false =>
      rw [hf, if_neg (by decide)] at hc
      rw [hf] at ho
      simp [h0, h3, q, hat, ho]
      refine ih (i + 1) _ _ (by omega) ⟨?_, ?_, by omega, hc, rfl⟩
      all_goals simp [h0, hw]
  · have q := eq_false (show ¬ (i : Int) < (s.length : Int) by omega)
    rw [List.drop_of_length_le (by omega)] at hc
    have hc : x = -1 := hc
    subst hc
    simp [h0, h3, q]
theorem rcut19_cl : LC Tryz.prog EJ 58 [str s] H = some (str (s.take 1445), H) := by
  refine LC_pure rfl Tryz.func58 rfl (Nat.le_of_ble_eq_true rfl) (by decide) (by kernel_rfl) rfl ?_
  by_cases h : s.length ≤ 1445
  · have q := eq_false (show ¬ (1445 : Int) < (s.length : Int) by omega)
    rw [List.take_of_length_le h]
    simp [q]
  · have q := eq_true (show (1445 : Int) < (s.length : Int) by omega)
    have q2 := eq_true (show (1445 : Int) ≤ (s.length : Int) by omega)
    simp [q, q2]
/-! ### boxes -/
theorem rsize_cl : LC Tryz.prog EJ 149 [str s] H = some (.int .i64 (Tg.Un.numI s), H) := by
  refine LC_pure rfl Tryz.func149 rfl (Nat.le_of_ble_eq_true rfl) (by decide) (by kernel_rfl) rfl ?_
  unfold Tg.Un.numI
  by_cases h : s.length < 4
  · have q := eq_true (show (s.length : Int) < 4 by omega)
    rw [if_pos h]
    simp [q]
  · rw [if_neg h]
    match s, h with
    | A :: B :: C :: D :: r, _ =>
      have q := eq_false (show ¬ (r.length : Int) + 1 + 1 + 1 + 1 < 4 by omega)
      have a0 : at_ (A :: B :: C :: D :: r) 0 = A := rfl
      have a1 : at_ (A :: B :: C :: D :: r) 1 = B := rfl
      have a2 : at_ (A :: B :: C :: D :: r) 2 = C := rfl
      have a3 : at_ (A :: B :: C :: D :: r) 3 = D := rfl
      have p0 := eq_true (show (0 : Int) < (r.length : Int) + 1 + 1 + 1 + 1 by omega)
      have p1 := eq_true (show (1 : Int) < (r.length : Int) + 1 + 1 + 1 + 1 by omega)
      have p2 := eq_true (show (2 : Int) < (r.length : Int) + 1 + 1 + 1 + 1 by omega)
      have p3 := eq_true (show (3 : Int) < (r.length : Int) + 1 + 1 + 1 + 1 by omega)
      have hA := A.toNat_lt
      have hB := B.toNat_lt
      have hC := C.toNat_lt
      have hD := D.toNat_lt
      have hn : ((Tg.Un.num4 (A :: B :: C :: D :: r) : Nat) : Int) = (((A.toNat : Int) * 256 + B.toNat) * 256 + C.toNat) * 256 + D.toNat := by
        show ((((A.toNat * 256 + B.toNat) * 256 + C.toNat) * 256 + D.toNat : Nat) : Int) = _
        omega
      rw [hn]
      have wA : IntKind.i64.wrap (A.toNat : Int) = (A.toNat : Int) := wrapI (by omega) (by omega)
      have wB : IntKind.i64.wrap (B.toNat : Int) = (B.toNat : Int) := wrapI (by omega) (by omega)
      have wC : IntKind.i64.wrap (C.toNat : Int) = (C.toNat : Int) := wrapI (by omega) (by omega)
      have wD : IntKind.i64.wrap (D.toNat : Int) = (D.toNat : Int) := wrapI (by omega) (by omega)
      have e1 : IntKind.i64.wrap ((A.toNat : Int) * 256) = (A.toNat : Int) * 256 := wrapI (by omega) (by omega)
      have e2 : IntKind.i64.wrap ((A.toNat : Int) * 256 + B.toNat) = (A.toNat : Int) * 256 + B.toNat := wrapI (by omega) (by omega)
      have e3 : IntKind.i64.wrap (((A.toNat : Int) * 256 + B.toNat) * 256) = ((A.toNat : Int) * 256 + B.toNat) * 256 := wrapI (by omega) (by omega)
      have e4 : IntKind.i64.wrap (((A.toNat : Int) * 256 + B.toNat) * 256 + C.toNat) = ((A.toNat : Int) * 256 + B.toNat) * 256 + C.toNat := wrapI (by omega) (by omega)
      have e5 : IntKind.i64.wrap ((((A.toNat : Int) * 256 + B.toNat) * 256 + C.toNat) * 256) = (((A.toNat : Int) * 256 + B.toNat) * 256 + C.toNat) * 256 := wrapI (by omega) (by omega)
      have e6 : IntKind.i64.wrap ((((A.toNat : Int) * 256 + B.toNat) * 256 + C.toNat) * 256 + D.toNat) = (((A.toNat : Int) * 256 + B.toNat) * 256 + C.toNat) * 256 + D.toNat := wrapI (by omega) (by omega)
      simp [q, a0, a1, a2, a3, p0, p1, p2, p3, wA, wB, wC, wD, e1, e2, e3, e4, e5, e6]
    | [], h => exact absurd (by simp) h
    | [_], h => exact absurd (by simp) h
    | [_, _], h => exact absurd (by simp) h
    | [_, _, _], h => exact absurd (by simp) h
theorem rhead16_cl : LC Tryz.prog EJ 148 [str s] H = some (.bool (Tg.Un.mp4h s), H) := by
  refine LC_pure rfl Tryz.func148 rfl (Nat.le_of_ble_eq_true rfl) (by decide) (by kernel_rfl) rfl ?_
  have hz := fun H : LH => rsize_cl (H := H) (s := s)
  unfold Tg.Un.mp4h
  by_cases a1 : 12 ≤ s.length
  · have hI : Tg.Un.numI s = (Tg.Un.num4 s : Int) := by unfold Tg.Un.numI; rw [if_neg (by omega)]
    rw [hI] at hz
    have tm : (Tg.Un.num4 s : Int).tmod 4 = ((Tg.Un.num4 s % 4 : Nat) : Int) := by rw [Int.tmod_eq_emod_of_nonneg (by omega)]; rfl
    generalize Tg.Un.num4 s = n at *
    have q1 := eq_true (show (11 : Int) < (s.length : Int) by omega)
    by_cases a2 : n ≤ s.length
    · have q2 := eq_true (show (n : Int) ≤ (s.length : Int) by omega)
      by_cases a3 : n % 4 = 0
      · rw [a3] at tm
        have q8 := eq_true (show (8 : Int) ≤ (s.length : Int) by omega)
        have h48 := sub48 (s := s)
        by_cases a4 : (s.drop 4).take 4 = Tg.Un.ftyp
        · rw [a4] at h48
          unfold Tg.Un.ftyp at h48
          simp [hz, q1, q2, q8, tm, a1, a2, a3, a4, h48]
        · have a5 : ¬ sub s 4 8 = [102, 116, 121, 112] := fun e => a4 (by rw [← h48, e]; rfl)
          rw [beq_eq_false_iff_ne.2 a4]
          simp [hz, q1, q2, q8, tm, a1, a2, a3, a5]
      · have q3 := eq_false (show ¬ ((n % 4 : Nat) : Int) = 0 by omega)
        have q4 := eq_false (show ¬ (n : Int) % 4 = 0 by omega)
        simp [hz, q1, q2, tm, q3, q4, a1, a2, a3]
    · have q2 := eq_false (show ¬ (n : Int) ≤ (s.length : Int) by omega)
      simp [hz, q1, q2, a1, a2]
  · have q1 := eq_false (show ¬ (11 : Int) < (s.length : Int) by omega)
    simp [hz, q1, a1]
theorem bs0s : lbuildSlice Tryz.prog 27 0 [] H = some (sl H.n 0 0, H.new ⟨[], 9, true⟩) := lbs_dense (z := str []) Tryz.underlying27 (by kernel_rfl) (by kernel_rfl) rfl rfl rfl (by decide) rfl
theorem rbrands_ex (hs : s.length ≤ 1000000) : ∃ v H1, LC Tryz.prog EJ 104 [str s] H = some (v, H1) ∧ SRow H1 v (if Tg.Un.mp4h s = true then Tg.Un.brands s else []) ∧ H.n ≤ H1.n ∧ ∀ k, k < H.n → H1.get k = H.get k := by
  have key : ∃ r, LC Tryz.prog EJ 104 [str s] H = some (Lg.trunc H r) ∧ (flatB r.1 = false ∧ SRow r.2 r.1 (if Tg.Un.mp4h s = true then Tg.Un.brands s else []) ∧ H.n ≤ r.2.n ∧ ∀ k, k < H.n → r.2.get k = H.get k) := by
    refine LC_runs (P := Tryz.prog) (E := EJ) (f := 104) rfl Tryz.func104 rfl (Nat.le_of_ble_eq_true rfl) (by decide) (by kernel_rfl) ?_
    have hb := fun H : LH => rhead16_cl (H := H) (s := s)
    have hz := fun H : LH => rsize_cl (H := H) (s := s)
    cases hm : Tg.Un.mp4h s with
    | false =>
      rw [hm] at hb
      simp [bs0s, hb]
      refine ⟨by simp [flatB, flat1B, atomB], ?_, fun k hk => get_new_ne (by omega)⟩
      exact .inr ⟨H.n, 0, 0, rfl, fun h => absurd rfl h⟩
    | true =>
      rw [hm] at hb
      obtain ⟨a1, a2, a3, _⟩ : 12 ≤ s.length ∧ Tg.Un.num4 s ≤ s.length ∧ Tg.Un.num4 s % 4 = 0 ∧ (s.drop 4).take 4 = Tg.Un.ftyp := by
        unfold Tg.Un.mp4h at hm; simpa using hm
      have hI : Tg.Un.numI s = (Tg.Un.num4 s : Int) := by unfold Tg.Un.numI; rw [if_neg (by omega)]
      rw [hI] at hz
      unfold Tg.Un.brands
      generalize Tg.Un.num4 s = n at *
      have q1 := eq_true (show (12 : Int) ≤ (s.length : Int) by omega)
      have e8 : sub s 8 12 = (s.drop 8).take 4 := List.drop_take
      have r0 : RowN H.n (H.new ⟨[], 9, true⟩) 9 1 (sl H.n 0 0) ([] : List (List UInt8)).length (([] : List (List UInt8)).map str) := ⟨by simp, .inr ⟨H.n, 0, [], rfl, Nat.le_refl _, by simp, by simp, by simp, by simp⟩⟩
      obtain ⟨v1, H1, b1, b2, b3, b4⟩ := str_app (x := (s.drop 8).take 4) r0 (by simp) (by simp)
      have hcv1 := b2.cell
      simp [bs0s, hb, q1, bs1s, e8, b1, hcv1]
      refine loop_ind (fun (i : Nat) fr' H' => fr' 0 = str s ∧ fr' 4 = .int .i64 ((16 + 4 * i : Nat) : Int) ∧ i ≤ (n - 16) / 4 ∧ (∃ v, fr' 3 = v ∧ RowN H.n H' 9 1 v ((s.drop 8).take 4 :: (List.range i).map (piece s)).length (((s.drop 8).take 4 :: (List.range i).map (piece s)).map str)) ∧ H.n ≤ H'.n ∧ (∀ k, k < H.n → H'.get k = H.get k)) (fun i => (n - 16) / 4 - i) 0 ⟨by simp, by simp, Nat.zero_le _, ⟨v1, by simp, b2⟩, b3, fun k hk => by rw [b4 k hk, get_new_ne (by omega)]⟩ ?_
      rintro i fr' H' ⟨g0, g4, hi, ⟨v, g3, hr⟩, hn, ho⟩ ih
      by_cases hlt : i < (n - 16) / 4
      · have q := eq_true (show ((16 + 4 * i : Nat) : Int) < (n : Int) by omega)
        have w1 : IntKind.i64.wrap (((16 + 4 * i : Nat) : Int) + 4) = ((16 + 4 * (i + 1) : Nat) : Int) := by rw [wrapI (by omega) (by omega)]; omega
        have q2 := eq_true (show ((16 + 4 * i : Nat) : Int) ≤ ((16 + 4 * (i + 1) : Nat) : Int) by omega)
        have q3 := eq_true (show ((16 + 4 * (i + 1) : Nat) : Int) ≤ (s.length : Int) by omega)
        have hp : sub s ((16 + 4 * i : Nat) : Int) ((16 + 4 * (i + 1) : Nat) : Int) = piece s i := by
          rw [subn (by omega), show 16 + 4 * (i + 1) - (16 + 4 * i) = 4 by omega]; rfl
        have hn0 := eq_true (show (0 : Int) ≤ ((16 + 4 * i : Nat) : Int) by omega)
        obtain ⟨v2, H2, b1, b2, b3, b4⟩ := str_app (x := piece s i) hr hn (by simp; omega)
        have hnew : ((s.drop 8).take 4 :: (List.range i).map (piece s)) ++ [piece s i] = (s.drop 8).take 4 :: (List.range (i + 1)).map (piece s) := by
          rw [List.range_succ, List.map_append]; rfl
        rw [hnew] at b2
        have hcv := b2.cell
        generalize ((16 + 4 * i : Nat) : Int) = A at *
        generalize hB : ((16 + 4 * (i + 1) : Nat) : Int) = B at *
        simp [g0, g3, g4, hz, q, w1, q2, q3, hn0, hp, bs1s, b1, hcv]
        refine ih (i + 1) _ _ (by omega) ⟨?_, ?_, by omega, ⟨v2, ?_, b2⟩, b3, fun k hk => by rw [b4 k hk, ho k hk]⟩
        · simp [g0]
        · simp [w1, hB]
        · simp
      · have q := eq_false (show ¬ ((16 + 4 * i : Nat) : Int) < (n : Int) by omega)
        obtain rfl : i = (n - 16) / 4 := by omega
        have hsr := srow_n hr
        have hfl : flatB v = false := by
          rcases hr.2 with ⟨_, e⟩ | ⟨k, c, rest, rfl, _⟩
          · simp at e
          · simp [flatB, flat1B, atomB]
        generalize ((16 + 4 * ((n - 16) / 4) : Nat) : Int) = A at *
        simp [g0, g3, g4, hz, q]
        exact ⟨hfl, hsr, hn, ho⟩
  obtain ⟨⟨v, H1⟩, h1, h2, h3⟩ := key
  exact ⟨v, H1, by rw [h1, trunc_no h2], h3⟩
theorem ris16_cl (hs : s.length ≤ 1000000) : LC Tryz.prog EJ 66 [str s] H = some (.bool (Tg.Un.mp4 s), H) := by
  refine LC_pure rfl Tryz.func66 rfl (Nat.le_of_ble_eq_true rfl) (by decide) (by kernel_rfl) rfl ?_
  obtain ⟨v, H1, h1, sr, n1, o1⟩ := rbrands_ex (H := H) hs
  obtain ⟨l, hl⟩ : ∃ l, l = if Tg.Un.mp4h s = true then Tg.Un.brands s else [] := ⟨_, rfl⟩
  have he : l.any (fun b => b.take 3 == [109, 112, 52]) = Tg.Un.mp4 s := by
    rw [hl]; unfold Tg.Un.mp4
    cases Tg.Un.mp4h s <;> simp
  have hlen : ∀ x ∈ l, 3 ≤ x.length := by
    intro x hx
    rw [hl] at hx
    split at hx
    · rename_i hm
      obtain ⟨a1, a2, a3, _⟩ : 12 ≤ s.length ∧ Tg.Un.num4 s ≤ s.length ∧ Tg.Un.num4 s % 4 = 0 ∧ (s.drop 4).take 4 = Tg.Un.ftyp := by
        unfold Tg.Un.mp4h at hm; simpa using hm
      unfold Tg.Un.brands at hx
      rcases List.mem_cons.1 hx with rfl | hx
      · simp; omega
      · obtain ⟨i, hi, rfl⟩ := List.mem_map.1 hx
        rw [List.mem_range] at hi
        simp; omega
    · cases hx
  have hll : l.length ≤ 1000000 := by
    rw [hl]
    split
    · rename_i hm
      obtain ⟨a1, a2, a3, _⟩ : 12 ≤ s.length ∧ Tg.Un.num4 s ≤ s.length ∧ Tg.Un.num4 s % 4 = 0 ∧ (s.drop 4).take 4 = Tg.Un.ftyp := by
        unfold Tg.Un.mp4h at hm; simpa using hm
      simp [Tg.Un.brands]; omega
    · simp
  rw [← hl] at sr
  clear hl
  obtain ⟨x, hx⟩ : ∃ x, x = l.any (fun b => b.take 3 == [109, 112, 52]) := ⟨_, rfl⟩
  rw [← he, ← hx]
  clear he
  simp [h1]
  refine loop_ind (fun (i : Nat) fr' H' => fr' 3 = v ∧ fr' 4 = .int .i64 i ∧ i ≤ l.length ∧ x = (l.drop i).any (fun b => b.take 3 == [109, 112, 52]) ∧ H' = H1) (fun i => l.length - i) 0 ⟨by simp, by simp, Nat.zero_le _, hx, rfl⟩ ?_
  rintro i fr' H' ⟨g3, g4, hi, hc, rfl⟩ ih
  by_cases hlt : i < l.length
  · have q := eq_true (show (i : Int) < (l.length : Int) by omega)
    have hw : IntKind.i64.wrap ((i : Int) + 1) = ((i + 1 : Nat) : Int) := by rw [wrapI (by omega) (by omega)]; omega
    obtain ⟨k2, o, e1, e2, e3⟩ := sr.at hlt
    have e4 := e3 H' rfl
    have hl3 := hlen l[i] (List.getElem_mem hlt)
    rw [List.drop_eq_getElem_cons hlt, List.any_cons] at hc
    generalize l[i] = a at *
    have q3 := eq_true (show (3 : Int) ≤ (a.length : Int) by omega)
    by_cases hf : a.take 3 = [109, 112, 52]
    · have hc : x = true := by rw [hc, hf]; rfl
      subst hc
      simp [g3, g4, q, hlt, e1, e4, q3, hf, sr.len]
      exact ⟨n1, fun k hk => o1 k hk⟩
    · have hc : x = (l.drop (i + 1)).any (fun b => b.take 3 == [109, 112, 52]) := by rw [hc, beq_eq_false_iff_ne.2 hf]; rfl
      simp [g3, g4, q, hlt, e1, e4, q3, hf, sr.len]
      refine ih (i + 1) _ _ (by omega) ⟨?_, ?_, by omega, hc, rfl⟩
      all_goals simp [g3, hw]
  · have q := eq_false (show ¬ (i : Int) < (l.length : Int) by omega)
    rw [List.drop_of_length_le (by omega)] at hc
    have hc : x = false := hc
    subst hc
    simp [g3, g4, q, hlt, sr.len]
    exact ⟨n1, fun k hk => o1 k hk⟩
end
end Go.Proofs.YtombmblgmbjieaaGreatDoor
/-
  Layer 20 (unknown): what the reference's films of elements come to.
-/
set_option linter.unusedSimpArgs false
set_option linter.unusedVariables false
set_option maxRecDepth 100000
namespace Tg.Un
theorem pad_pre : ∀ {t : List UInt8}, pre t webmS = true → padded t = true
  | [], h => by simp [pre, webmS] at h
  | c :: t, h => by
    unfold padded
    by_cases hc : c = 0
    · subst hc; simp [pre, webmS] at h
    · rw [if_neg hc]; exact h
theorem width_of {c : UInt8} {n : Nat} (h1 : 1 ≤ n) (h8 : n ≤ 8) (hlo : n = 8 ∨ 2 ^ (8 - n) ≤ c.toNat) (hhi : n = 1 ∨ c.toNat < 2 ^ (9 - n)) : width c = n := by
  have hc := c.toNat_lt
  rcases (by omega : n = 1 ∨ n = 2 ∨ n = 3 ∨ n = 4 ∨ n = 5 ∨ n = 6 ∨ n = 7 ∨ n = 8) with rfl | rfl | rfl | rfl | rfl | rfl | rfl | rfl
  all_goals
    simp at hlo hhi
    unfold width
    repeat (first | omega | split)
end Tg.Un
namespace Go.Proofs.YtombmblgmbjieaaGreatDoor
open Go.Lg Go.Tg
section
variable {H : LH} {c : UInt8} {s p t : List UInt8}
theorem rwb_cl : LC Tryz.prog EJ 105 [str s, str p] H = some (.bool (Tg.Un.pre s p), H) := by
  refine LC_pure rfl Tryz.func105 rfl (Nat.le_of_ble_eq_true rfl) (by decide) (by kernel_rfl) rfl ?_
  rw [Tg.Un.pre_take]
  by_cases h : p.length ≤ s.length
  · have q := eq_true (show (p.length : Int) ≤ (s.length : Int) by omega)
    have q0 := eq_true (show (0 : Int) ≤ (p.length : Int) by omega)
    by_cases h2 : s.take p.length = p
    · simp [q, q0, h, h2]
    · simp [q, q0, h, h2]
  · have q := eq_false (show ¬ (p.length : Int) ≤ (s.length : Int) by omega)
    have h2 : ¬ s.take p.length = p := fun e => by
      have := congrArg List.length e
      rw [List.length_take] at this; omega
    simp [q, h, h2]
theorem rwidth_cl : LC Tryz.prog EJ 106 [.int .u8 c.toNat] H = some (.int .i64 (Tg.Un.width c), H) := by
  refine LC_pure rfl Tryz.func106 rfl (Nat.le_of_ble_eq_true rfl) (by decide) (by kernel_rfl) rfl ?_
  have hc := c.toNat_lt
  have hwc : IntKind.i64.wrap (c.toNat : Int) = (c.toNat : Int) := wrapI (by omega) (by omega)
  simp
  refine loop_ind (fun (n : Nat) fr' H' => fr' 0 = .int .u8 c.toNat ∧ fr' 3 = .int .i64 n ∧ fr' 4 = .int .i64 ((2 ^ (8 - n) : Nat) : Int) ∧ 1 ≤ n ∧ n ≤ 8 ∧ (n = 1 ∨ c.toNat < 2 ^ (9 - n)) ∧ H' = H) (fun n => 8 - n) 1 ⟨by simp, by simp, by simp, by decide, by decide, .inl rfl, rfl⟩ ?_
  rintro n fr' H' ⟨h0, h3, h4, h1, h8, hh, rfl⟩ ih
  by_cases c1 : n < 8
  · have q1 := eq_true (show (n : Int) < 8 by omega)
    have e1 : 2 ^ (8 - n) = 2 * 2 ^ (8 - (n + 1)) := by
      rw [show 8 - n = (8 - (n + 1)) + 1 by omega, Nat.pow_succ, Nat.mul_comm]
    by_cases c2 : c.toNat < 2 ^ (8 - n)
    · have q2 := eq_true (show (c.toNat : Int) < ((2 ^ (8 - n) : Nat) : Int) by omega)
      have w1 : IntKind.i64.wrap ((n : Int) + 1) = ((n + 1 : Nat) : Int) := by rw [wrapI (by omega) (by omega)]; omega
      have hb : 2 ^ (8 - (n + 1)) ≤ 2 ^ 8 := Nat.pow_le_pow_right (by decide) (by omega)
      have d1 : ((2 ^ (8 - n) : Nat) : Int).tdiv 2 = ((2 ^ (8 - (n + 1)) : Nat) : Int) := by
        rw [Int.tdiv_eq_ediv_of_nonneg (by omega), e1]; omega
      have w2 : IntKind.i64.wrap ((2 ^ (8 - (n + 1)) : Nat) : Int) = ((2 ^ (8 - (n + 1)) : Nat) : Int) := wrapI (by omega) (by omega)
      have hnx : c.toNat < 2 ^ (9 - (n + 1)) := by rw [show 9 - (n + 1) = 8 - n by omega]; exact c2
      generalize hA : ((2 ^ (8 - n) : Nat) : Int) = A at *
      generalize hB : ((2 ^ (8 - (n + 1)) : Nat) : Int) = B at *
      simp [h0, h3, h4, hwc, q1, q2, w1, d1, w2]
      refine ih (n + 1) _ _ (by omega) ⟨?_, ?_, ?_, by omega, by omega, .inr hnx, rfl⟩
      · simp [h0]
      · simp [w1]
      · rw [hB]; simp [w2]
    · have q2 := eq_false (show ¬ (c.toNat : Int) < ((2 ^ (8 - n) : Nat) : Int) by omega)
      have he := Tg.Un.width_of h1 h8 (.inr (by omega)) hh
      generalize hA : ((2 ^ (8 - n) : Nat) : Int) = A at *
      simp [h0, h3, h4, hwc, q1, q2, he]
  · have q1 := eq_false (show ¬ (n : Int) < 8 by omega)
    have he := Tg.Un.width_of h1 h8 (.inl (by omega)) hh
    generalize hA : ((2 ^ (8 - n) : Nat) : Int) = A at *
    simp [h0, h3, h4, hwc, q1, he]
theorem rpad_cl (hs : s.length ≤ 1048576) : LC Tryz.prog EJ 107 [str s, str [119, 101, 98, 109]] H = some (.bool (Tg.Un.padded s), H) := by
  refine LC_pure rfl Tryz.func107 rfl (Nat.le_of_ble_eq_true rfl) (by decide) (by kernel_rfl) rfl ?_
  obtain ⟨x, hx⟩ : ∃ x, x = Tg.Un.padded s := ⟨_, rfl⟩
  rw [← hx]
  simp
  refine loop_ind (fun (i : Nat) fr' H' => fr' 0 = str s ∧ fr' 1 = str [119, 101, 98, 109] ∧ fr' 5 = .int .i64 i ∧ i ≤ s.length + 1 ∧ x = Tg.Un.padded (s.drop i) ∧ H' = H) (fun i => s.length + 1 - i) 0 ⟨by simp, by simp, by simp, Nat.zero_le _, hx, rfl⟩ ?_
  rintro i fr' H' ⟨h0, h1, h5, hi, hc, rfl⟩ ih
  by_cases hle : i ≤ s.length
  · have q := eq_true (show (i : Int) ≤ (s.length : Int) by omega)
    have q' := eq_true (show (0 : Int) ≤ (i : Int) by omega)
    have hw : IntKind.i64.wrap ((i : Int) + 1) = ((i + 1 : Nat) : Int) := by rw [wrapI (by omega) (by omega)]; omega
    have hb : ∀ H : LH, LC Tryz.prog EJ 105 [str (s.drop i), str [119, 101, 98, 109]] H = some (.bool (Tg.Un.pre (s.drop i) Tg.Un.webmS), H) := fun H => rwb_cl
    cases hp : Tg.Un.pre (s.drop i) Tg.Un.webmS with
    | true =>
      rw [hp] at hb
      rw [Tg.Un.pad_pre hp] at hc
      simp [h0, h1, h5, q, q', hb, hc]
    | false =>
      rw [hp] at hb
      by_cases hlt : i < s.length
      · have q2 := eq_true (show (i : Int) < (s.length : Int) by omega)
        have hat : at_ s (i : Int) = s[i] := at_in hlt
        rw [List.drop_eq_getElem_cons hlt] at hc hp
        unfold Tg.Un.padded at hc
        generalize s[i] = a at *
        by_cases ha : a = 0
        · subst ha
          rw [if_pos rfl] at hc
          simp [h0, h1, h5, q, q', q2, hb, hat]
          refine ih (i + 1) _ _ (by omega) ⟨?_, ?_, ?_, by omega, hc, rfl⟩
          all_goals simp [h0, h1, hw]
        · rw [if_neg ha] at hc
          rw [hp] at hc
          have q3 := tn_ne ha
          rw [show ((0 : UInt8).toNat : Int) = 0 from rfl] at q3
          have q4 : (a.toNat = 0) = False := eq_false (fun e => ha (UInt8.toNat_inj.mp (by rw [e]; rfl)))
          simp [h0, h1, h5, q, q', q2, hb, hat, q3, q4, hc]
      · have q2 := eq_false (show ¬ (i : Int) < (s.length : Int) by omega)
        rw [List.drop_of_length_le (by omega)] at hc
        have hc : x = false := hc
        simp [h0, h1, h5, q, q', q2, hb]
        refine ih (i + 1) _ _ (by omega) ⟨?_, ?_, ?_, by omega, by rw [hc, List.drop_of_length_le (by omega)]; rfl, rfl⟩
        all_goals simp [h0, h1, hw]
  · have q := eq_false (show ¬ (i : Int) ≤ (s.length : Int) by omega)
    rw [List.drop_of_length_le (by omega)] at hc
    have hc : x = false := hc
    simp [h0, h1, h5, q, hc]
theorem ris17_cl (hs : s.length ≤ 1000000) : LC Tryz.prog EJ 67 [str s] H = some (.bool (Tg.Un.webm s), H) := by
  refine LC_pure rfl Tryz.func67 rfl (Nat.le_of_ble_eq_true rfl) (by decide) (by kernel_rfl) rfl ?_
  have hb : ∀ H : LH, LC Tryz.prog EJ 105 [str s, str [26, 69, 223, 163]] H = some (.bool (Tg.Un.pre s Tg.Un.mark), H) := fun H => rwb_cl
  unfold Tg.Un.webm
  cases h : Tg.Un.pre s Tg.Un.mark with
  | false => rw [h] at hb; simp [hb]
  | true =>
    rw [h] at hb
    obtain ⟨x, hx⟩ : ∃ x, x = Tg.Un.webmAt s 38 4 := ⟨_, rfl⟩
    rw [← hx]
    simp [hb]
    refine loop_ind (fun (st : Nat × Nat) fr' H' => fr' 0 = str s ∧ fr' 3 = .int .i64 st.1 ∧ H' = H ∧ x = Tg.Un.webmAt s st.2 st.1 ∧ 38 ≤ st.1 + st.2) (fun st => 38 - st.1) (4, 38) ⟨by simp, by simp, rfl, hx, by decide⟩ ?_
    rintro ⟨a, n⟩ fr' H' ⟨g0, g3, rfl, he, hf⟩ ih
    simp only at g3 he hf ih
    by_cases c1 : s.length ≤ a ∨ 38 ≤ a
    · have he : x = false := by
        rw [he]
        cases n with
        | zero => rfl
        | succ n => unfold Tg.Un.webmAt; rw [if_pos c1]
      subst he
      by_cases c2 : s.length ≤ a
      · have q1 := eq_false (show ¬ (a : Int) < (s.length : Int) by omega)
        simp [g0, g3, q1]
      · have q1 := eq_true (show (a : Int) < (s.length : Int) by omega)
        have q2 := eq_false (show ¬ (a : Int) < 38 by omega)
        simp [g0, g3, q1, q2]
    · obtain ⟨n, rfl⟩ : ∃ m, n = m + 1 := ⟨n - 1, by omega⟩
      unfold Tg.Un.webmAt at he
      rw [if_neg c1] at he
      have q1 := eq_true (show (a : Int) < (s.length : Int) by omega)
      have q2 := eq_true (show (a : Int) < 38 by omega)
      have q3 := eq_true (show (a : Int) ≤ (s.length : Int) by omega)
      have q4 := eq_true (show (0 : Int) ≤ (a : Int) by omega)
      have hp : ∀ H : LH, LC Tryz.prog EJ 105 [str (s.drop a), str [66, 130]] H = some (.bool (Tg.Un.pre (s.drop a) [66, 130]), H) := fun H => rwb_cl
      have w1 : IntKind.i64.wrap ((a : Int) + 1) = ((a + 1 : Nat) : Int) := by rw [wrapI (by omega) (by omega)]; omega
      cases hpre : Tg.Un.pre (s.drop a) [66, 130] with
      | false =>
        rw [hpre] at hp he
        rw [if_neg (by simp)] at he
        simp [g0, g3, q1, q2, q3, q4, hp]
        refine ih (a + 1, n) _ _ (by simp only; omega) ⟨?_, ?_, rfl, he, by simp only; omega⟩
        · simp [g0]
        · simp [w1]
      | true =>
        rw [hpre] at hp he
        rw [if_pos rfl] at he
        have w2 : IntKind.i64.wrap ((a : Int) + 2) = ((a + 2 : Nat) : Int) := by rw [wrapI (by omega) (by omega)]; omega
        by_cases c3 : s.length ≤ a + 2
        · rw [if_pos c3] at he
          have q5 := eq_true (show (s.length : Int) ≤ ((a + 2 : Nat) : Int) by omega)
          generalize ((a + 2 : Nat) : Int) = A2 at *
          simp [g0, g3, q1, q2, q3, q4, hp, w2, q5, he]
        · rw [if_neg c3] at he
          have hlt : a + 2 < s.length := by omega
          have hat : at_ s ((a + 2 : Nat) : Int) = s[a + 2] := at_in hlt
          have hgd : s.getD (a + 2) 0 = s[a + 2] := by rw [List.getD_eq_getElem?_getD, List.getElem?_eq_getElem hlt]; rfl
          rw [hgd] at he
          have hW := fun H : LH => rwidth_cl (H := H) (c := s[a + 2])
          have hw8 : Tg.Un.width s[a + 2] ≤ 8 := by
            unfold Tg.Un.width
            repeat (first | omega | split)
          generalize s[a + 2] = c at *
          generalize Tg.Un.width c = w at *
          have q5 := eq_false (show ¬ (s.length : Int) ≤ ((a + 2 : Nat) : Int) by omega)
          have q6 := eq_true (show ((a + 2 : Nat) : Int) < (s.length : Int) by omega)
          have q7 := eq_true (show (0 : Int) ≤ ((a + 2 : Nat) : Int) by omega)
          have w3 : IntKind.i64.wrap (((a + 2 : Nat) : Int) + (w : Int)) = ((a + 2 + w : Nat) : Int) := by rw [wrapI (by omega) (by omega)]; omega
          have w4 : IntKind.i64.wrap ((s.length : Int) - 4) = (s.length : Int) - 4 := wrapI (by omega) (by omega)
          by_cases c4 : s.length ≤ a + 2 + w + 4
          · rw [if_pos c4] at he
            have q8 := eq_true (show (s.length : Int) - 4 ≤ ((a + 2 + w : Nat) : Int) by omega)
            generalize ((a + 2 + w : Nat) : Int) = A3 at *
            generalize ((a + 2 : Nat) : Int) = A2 at *
            simp [g0, g3, q1, q2, q3, q4, hp, w2, q5, q6, q7, hat, hW, w3, w4, q8, he]
          · rw [if_neg c4] at he
            have q8 := eq_false (show ¬ (s.length : Int) - 4 ≤ ((a + 2 + w : Nat) : Int) by omega)
            have q9 := eq_true (show ((a + 2 + w : Nat) : Int) ≤ (s.length : Int) by omega)
            have q10 := eq_true (show (0 : Int) ≤ ((a + 2 + w : Nat) : Int) by omega)
            have hd : s.drop (((a + 2 + w : Nat) : Int)).toNat = s.drop (a + 2 + w) := by rw [Int.toNat_natCast]
            have hP := fun H : LH => rpad_cl (H := H) (s := s.drop (a + 2 + w)) (by rw [List.length_drop]; omega)
            have w5 : IntKind.i64.wrap (((a + 2 + w : Nat) : Int) + 1) = ((a + 2 + w + 1 : Nat) : Int) := by rw [wrapI (by omega) (by omega)]; omega
            cases hpd : Tg.Un.padded (s.drop (a + 2 + w)) with
            | true =>
              rw [hpd] at hP he
              rw [if_pos rfl] at he
              generalize ((a + 2 + w : Nat) : Int) = A3 at *
              generalize ((a + 2 : Nat) : Int) = A2 at *
              simp [g0, g3, q1, q2, q3, q4, hp, w2, q5, q6, q7, hat, hW, w3, w4, q8, q9, q10, hd, hP, he]
            | false =>
              rw [hpd] at hP he
              rw [if_neg (by simp)] at he
              generalize ((a + 2 + w : Nat) : Int) = A3 at *
              generalize ((a + 2 : Nat) : Int) = A2 at *
              simp [g0, g3, q1, q2, q3, q4, hp, w2, q5, q6, q7, hat, hW, w3, w4, q8, q9, q10, hd, hP]
              refine ih (a + 2 + w + 1, n) _ _ (by simp only; omega) ⟨?_, ?_, rfl, he, by simp only; omega⟩
              · simp [g0]
              · simp [w5]
end
end Go.Proofs.YtombmblgmbjieaaGreatDoor
