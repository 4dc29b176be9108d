/-
  Texts joined, part 2: LgQ, LgC, LgMix, LgMixB, LgRun, LgCall, LgSimp, LgEv, LgEvB.
-/
import Derived.Test.YtgnefbngkhjfcaaDoorM1
import Derived.Deep.Quiet
import Derived.StillTail
/-
  A logical run of Go code: slices, literals, append, calls.
-/
set_option linter.unusedSimpArgs false
set_option linter.unusedVariables false
namespace Go.Lg
open Go.Tg Go.RowKit

section
variable {P : Program} {T : Callee} {H H' : LH} {ι : Ren} {o : Oper} {a : Act} {w : World} {v v' : Value} {N : Nat} {fr : Fr}

theorem run_bound (hfr : FrR H.D ι N fr a.tmps) {d k y : Nat} {x : Option Operand} {code : BoundsCode} (hb : lbound fr d x = some k) (hk : k ≤ y) :
    (match x.map a.eval with | some v => Instr.sliceBound v y code | none => pure d : Sem Nat).run P w = .ok k w := by
  unfold lbound at hb
  cases x with
  | none => simp only [Option.some.injEq] at hb; subst hb; rfl
  | some x =>
    simp only [Option.map_some] at hb ⊢
    split at hb
    · rename_i kd i e
      split at hb
      · injection hb with hb
        have h1 := hfr.ev x
        rw [e] at h1
        rw [vr_int h1]
        simp only [Instr.sliceBound, asIntOf, Sem.run_bind, Sem.run_pure, Result.andThen_ok]
        rw [if_pos (by omega), hb]; rfl
      · cases hb
    · cases hb
theorem run_bounds (hfr : FrR H.D ι N fr a.tmps) {i j n c : Nat} {lo hi : Option Operand} {sl : Bool} (h1 : lbound fr 0 lo = some i) (h2 : lbound fr n hi = some j) (hij : i ≤ j) (hjc : j ≤ c) :
    (Instr.sliceBounds sl n c (lo.map a.eval) (hi.map a.eval) none).run P w = .ok (i, j, c) w := by
  unfold Instr.sliceBounds
  have r2 := fun code => run_bound (P := P) (w := w) (code := code) hfr h2 hjc
  have r1 := fun code => run_bound (P := P) (w := w) (code := code) hfr h1 hij
  cases hi with
  | none =>
    have e2 : n = j := by simpa [lbound] using h2
    cases lo with
    | none =>
      have e1 : 0 = i := by simpa [lbound] using h1
      subst e1 e2
      simp [Sem.run_bind]
    | some x =>
      simp only [Option.map_some] at r1
      subst e2
      simp [Sem.run_bind, r1]
  | some y =>
    simp only [Option.map_some] at r2
    cases lo with
    | none =>
      have e1 : 0 = i := by simpa [lbound] using h1
      subst e1
      simp [Sem.run_bind, r2]
    | some x =>
      simp only [Option.map_some] at r1
      simp [Sem.run_bind, r2, r1]
theorem slice_ok (hfr : FrR H.D ι N fr a.tmps) {t : TypeId} {x : Operand} {lo hi : Option Operand} (ho : o.op = .slice t x lo hi none) (hv : lslice P t (ev fr x) fr lo hi = some v) : PureOk P H.D ι o a v := by
  have hx := hfr.ev x
  unfold lslice at hv
  split at hv
  · rename_i s hu e
    rw [e] at hx
    have hx' := flat_eq hx rfl
    split at hv
    · rename_i i j hi1 hj1
      split at hv
      · rename_i hij
        injection hv with hv
        subst hv
        refine pureok (v' := .string (s.extract i j)) (fun w => ?_) (.flat _ rfl)
        unfold execOp; simp only [ho, hx', Instr.sliceAt, Instr.slice, Sem.run_bind, run_underlying hu, Result.andThen_ok, Sem.run_pure, Option.map_none, Option.isSome_none, Bool.false_eq_true, if_false, run_bounds hfr hi1 hj1 hij.1 hij.2]
      · cases hv
    · cases hv
  · rename_i e ad n c hu ex
    rw [ex] at hx
    split at hv
    · rename_i i j s hi1 hj1 hs
      split at hv
      · rename_i hij
        generalize hy : a.eval x = y at hx
        have hrun : ∀ (w : World) (ad' : Option Addr) (c' : Nat), y = .slice ad' n c' → n ≤ c' → (execOp a.eval o).run P w = .ok (.value (.slice (if c' = i then ad' else ad'.map (·.add (i * s))) (j - i) (c' - i))) w := by
          intro w ad' c' e hc
          unfold execOp; simp only [ho, hy, e, Instr.sliceAt, Instr.slice, Sem.run_bind, run_underlying hu, Result.andThen_ok, Sem.run_pure, Option.map_none, run_bounds hfr hi1 hj1 hij.1 (Nat.le_trans hij.2 hc), run_sizeOf' hs]
        split at hv
        · rename_i l off
          injection hv with hv
          subst hv
          cases hx with
          | flat _ hf => simp [flatB, flat1B, atomB] at hf
          | slice _ _ _ _ hl hc =>
            refine pureok (fun w => hrun w _ _ rfl (by omega)) ?_
            by_cases he : c + (ι l).slack = i
            · have e1 : j - i = 0 := by omega
              have e2 : c - i = 0 := by omega
              have e3 : c + (ι l).slack - i = 0 := by omega
              rw [if_pos he, e1, e2, e3]
              exact .slice0 l _ _ hl
            · rw [if_neg he, Option.map_some, addr_add, Nat.add_assoc, show c + (ι l).slack - i = (c - i) + (ι l).slack by omega]
              exact .slice l _ _ _ hl (by omega)
          | slice0 _ _ ad hl =>
            refine pureok (fun w => hrun w _ _ rfl (Nat.le_refl _)) ?_
            have e1 : i = 0 := by omega
            have e2 : j = 0 := by omega
            subst e1 e2
            rw [if_pos rfl]
            exact .slice0 l _ _ hl
        · injection hv with hv
          subst hv
          have hf : n = 0 ∧ c = 0 ∧ y = .slice none 0 0 := by
            cases hx with
            | flat _ hf =>
              simp only [flatB, flat1B, atomB, Bool.and_eq_true, beq_iff_eq] at hf
              exact ⟨hf.1, hf.2, by rw [hf.1, hf.2]⟩
          obtain ⟨rfl, rfl, rfl⟩ := hf
          refine pureok (fun w => hrun w none 0 rfl (Nat.le_refl _)) ?_
          have e1 : i = 0 := by omega
          have e2 : j = 0 := by omega
          subst e1 e2
          exact .flat _ rfl
        · cases hv
      · cases hv
    · cases hv
  · cases hv

/-- arrays of cells -/
def ArrR (n : Nat → Prop) (ι : Ren) (xs ys : Array Value) : Prop := xs.size = ys.size ∧ ∀ (i : Nat) (x y : Value), xs[i]? = some x → ys[i]? = some y → VR n ι x y
theorem ArrR.set {n : Nat → Prop} {xs ys : Array Value} (h : ArrR n ι xs ys) {k : Nat} {x y : Value} (hv : VR n ι x y) : ArrR n ι (xs.setIfInBounds k x) (ys.setIfInBounds k y) := by
  refine ⟨by simp [h.1], fun i p q hp hq => ?_⟩
  rw [Array.getElem?_setIfInBounds] at hp hq
  split at hp
  · rename_i e
    rw [if_pos e] at hq
    split at hp
    · split at hq
      · injection hp with hp; injection hq with hq; rw [← hp, ← hq]; exact hv
      · cases hq
    · cases hp
  · rename_i e
    rw [if_neg e] at hq
    exact h.2 i p q hp hq
theorem fold_rel {n : Nat → Prop} (off : Nat) : ∀ (us vs : List Value) (k : Nat) (xs ys : Array Value), us.length = vs.length → (∀ (i : Nat) (x y : Value), us[i]? = some x → vs[i]? = some y → VR n ι x y) → ArrR n ι xs ys →
    ArrR n ι ((us.zipIdx k).foldl (fun cs (p : Value × Nat) => cs.setIfInBounds (off + p.2) p.1) xs) ((vs.zipIdx k).foldl (fun cs (p : Value × Nat) => cs.setIfInBounds (off + p.2) p.1) ys)
  | [], [], _, _, _, _, _, h => h
  | [], _ :: _, _, _, _, hl, _, _ => by simp at hl
  | _ :: _, [], _, _, _, hl, _, _ => by simp at hl
  | u :: us, v :: vs, k, xs, ys, hl, hv, h => by
    simp only [List.zipIdx_cons, List.foldl_cons]
    exact fold_rel off us vs (k + 1) _ _ (by simpa using hl) (fun i x y hx hy => hv (i + 1) x y (by simpa using hx) (by simpa using hy)) (h.set (hv 0 u v rfl rfl))
theorem fill_rel {n : Nat → Prop} {place : Nat → Option (Nat × Nat)} : ∀ (ps qs : List (Nat × Value)) (xs ys cs : Array Value), ps.length = qs.length → (∀ (i : Nat) (p q : Nat × Value), ps[i]? = some p → qs[i]? = some q → p.1 = q.1 ∧ VR n ι p.2 q.2 ∧ knownB p.2 = true) →
    ArrR n ι xs ys → Instr.fill place xs ps = some cs → ∃ ds, Instr.fill place ys qs = some ds ∧ ArrR n ι cs ds
  | [], [], xs, ys, cs, _, _, h, hf => by
    simp only [Instr.fill, Option.some.injEq] at hf ⊢; subst hf; exact ⟨ys, rfl, h⟩
  | [], _ :: _, _, _, _, hl, _, _, _ => by simp at hl
  | _ :: _, [], _, _, _, hl, _, _, _ => by simp at hl
  | (i, u) :: ps, (j, x) :: qs, xs, ys, cs, hl, hv, h, hf => by
    obtain ⟨e, hvr, hk⟩ := hv 0 _ _ rfl rfl
    simp only at e hvr hk
    subst e
    obtain ⟨k1, k2⟩ := vr_cells hvr hk
    simp only [Instr.fill] at hf ⊢
    cases hp : place i with
    | none => simp [hp] at hf
    | some pl =>
      obtain ⟨off, size⟩ := pl
      simp only [hp] at hf ⊢
      rw [← k1, ← h.1]
      split at hf
      · cases hf
      · rename_i hc
        rw [if_neg hc]
        refine fill_rel ps qs _ _ cs (by simpa using hl) (fun i p q hp hq => hv (i + 1) p q (by simpa using hp) (by simpa using hq)) ?_ hf
        have := fold_rel (n := n) (ι := ι) off u.cells.toList x.cells.toList 0 xs ys (by simp [k1]) (fun i p q hp hq => k2 i p q (by simpa using hp) (by simpa using hq)) h
        rw [← Array.foldl_toList, ← Array.foldl_toList, Array.toList_zipIdx, Array.toList_zipIdx]
        exact this
theorem parts_rel (hfr : FrR H.D ι N fr a.tmps) {parts : Array (Nat × Operand)} (hk : (parts.toList.map fun p => (p.1, ev fr p.2)).all (fun p => knownB p.2) = true) :
    ∀ (i : Nat) (p q : Nat × Value), (parts.toList.map fun p => (p.1, ev fr p.2))[i]? = some p → (parts.map fun (i, x) => (i, a.eval x)).toList[i]? = some q → p.1 = q.1 ∧ VR H.D ι p.2 q.2 ∧ knownB p.2 = true := by
  intro i p q hp hq
  have hk' := (List.all_eq_true.1 hk) p (List.mem_of_getElem? hp)
  rw [Array.toList_map] at hq
  rw [List.getElem?_map] at hp hq
  cases hx : parts.toList[i]? with
  | none => simp [hx] at hp
  | some y =>
    simp only [hx, Option.map_some, Option.some.injEq] at hp hq
    rw [← hp] at hk' ⊢
    rw [← hq]
    exact ⟨rfl, hfr.ev y.2, hk'⟩
theorem build_ok (hfr : FrR H.D ι N fr a.tmps) {t : TypeId} {parts : Array (Nat × Operand)} (ho : o.op = .build t parts) (hv : lbuild P t (parts.toList.map fun p => (p.1, ev fr p.2)) = some v) : PureOk P H.D ι o a v := by
  unfold lbuild at hv
  split at hv
  · rename_i hc
    rw [Bool.and_eq_true] at hc
    obtain ⟨hk, hz⟩ := hc
    split at hv
    · rename_i fs hu
      obtain ⟨cs, hcs, rfl⟩ := Option.map_eq_some_iff.1 hv
      unfold Program.built at hcs
      unfold zr at hz
      cases hi : P.info? t with
      | none => simp [hi] at hcs
      | some it =>
        simp only [hi, hu, Option.bind_some] at hcs hz
        split at hcs
        · rename_i z places hz1 hpl
          rw [hz1] at hz
          simp only [Option.any_some] at hz
          obtain ⟨ds, hds, hr⟩ := fill_rel (ι := ι) (n := H.D) _ (parts.map fun (i, x) => (i, a.eval x)).toList z.cells z.cells cs (by simp) (parts_rel hfr hk)
            ⟨rfl, fun i x y hx hy => by rw [hx] at hy; injection hy with hy; rw [← hy]; exact flat_cells hz _ _ (flat_known hz) hx⟩ hcs
          refine pureok (v' := .agg ds) (fun w => ?_) (.agg _ _ hr.1 hr.2)
          have hb : P.built t (parts.map fun (i, x) => (i, a.eval x)).toList = some ds := by
            unfold Program.built; simp only [hi, hu, hz1, hpl]; exact hds
          unfold execOp; simp only [ho, Sem.run_bind, run_build w t _ ds hb, Sem.run_pure, Result.andThen_ok]
        · cases hcs
    · cases hv
  · cases hv
theorem buildSlice_ok (hrel : Rel P H ι w) (hfr : FrR H.D ι N fr a.tmps) {t : TypeId} {len : Nat} {parts : Array (Nat × Operand)} (ho : o.op = .buildSlice t len parts) (hv : lbuildSlice P t len (parts.toList.map fun p => (p.1, ev fr p.2)) H = some (v, H')) : OpOk P H ι o a w v H' := by
  unfold lbuildSlice at hv
  split at hv
  · rename_i e hu
    split at hv
    · rename_i s z hs hz
      split at hv
      · rename_i hc
        simp only [Bool.and_eq_true, decide_eq_true_eq, beq_iff_eq] at hc
        obtain ⟨⟨⟨⟨hf, hs0⟩, hlen⟩, hzs⟩, hk⟩ := hc
        split at hv
        · rename_i cs hcs
          split at hv
          · rename_i hsize
            simp only [Option.some.injEq, Prod.mk.injEq] at hv
            obtain ⟨rfl, rfl⟩ := hv
            have hz0 : ∀ (i : Nat) (x y : Value), ((Array.range (len * s)).map fun j => z.cells[j % z.cells.size]!)[i]? = some x → ((Array.range (len * s)).map fun j => z.cells[j % z.cells.size]!)[i]? = some y → VR H.D ι x y := by
              intro i x y hx hy
              rw [hx] at hy; injection hy with hy; rw [← hy]
              rw [Array.getElem?_map] at hx
              cases hr : (Array.range (len * s))[i]? with
              | none => simp [hr] at hx
              | some j =>
                simp only [hr, Option.map_some, Option.some.injEq] at hx
                have hm : j % z.cells.size < z.cells.size := Nat.mod_lt _ (by omega)
                rw [getElem!_pos z.cells _ hm] at hx
                exact flat_cells hf _ _ (flat_known hf) (i := j % z.cells.size) (by rw [Array.getElem?_eq_getElem hm, hx])
            obtain ⟨ds, hds, hr⟩ := fill_rel (ι := ι) (n := H.D) _ (parts.map fun (i, x) => (i, a.eval x)).toList _ _ cs (by simp) (parts_rel hfr hk) ⟨rfl, hz0⟩ hcs
            have hout := rel_new (slack := 0) (arr := ds) (b := ⟨cs.toList, e, true⟩) hrel rfl hs (by simp [hr.1])
              (fun n h0 h1 => by
                have h1' : len * s = n * s := by rw [← hsize]; simpa using h1
                have : len = n := Nat.eq_of_mul_eq_mul_right hs0 h1'
                have hle : len * 1 ≤ len * s := Nat.mul_le_mul_left _ hs0
                simp only [maxLen]; omega)
              (fun i x hx => by
                have hx' : cs[i]? = some x := by simpa using hx
                have hlt : i < ds.size := by rw [← hr.1]; exact (Array.getElem?_eq_some_iff.1 hx').1
                exact ⟨_, Array.getElem?_eq_getElem hlt, hr.2 i _ _ hx' (Array.getElem?_eq_getElem hlt)⟩)
            refine opok_world (v' := .slice (some ⟨w.heap.size, 0, none⟩) len len) ?_ hout ?_
            · unfold execOp
              simp only [ho, Instr.buildSlice, Sem.run_bind, run_underlying hu, Result.andThen_ok, run_sizeOf' hs]
              rw [if_neg (by omega)]
              by_cases h0 : len * s = 0
              · have : ((Array.range (len * s)).map fun j => z.cells[j % z.cells.size]!) = ((Array.range (len * s)).map fun j => (#[] : Array Value)[j % (#[] : Array Value).size]!) := by rw [h0]; simp
                rw [this] at hds
                simp only [h0, if_true, Sem.run_bind, Sem.run_pure, Result.andThen_ok] at hds ⊢
                rw [hds]
                simp only [newRow, newObj, Sem.run_bind, Result.andThen_ok, Sem.run_pure]; rfl
              · simp only [if_neg h0, Sem.run_bind, run_zero hz, Sem.run_pure, Result.andThen_ok]
                rw [hds]
                simp only [newRow, newObj, Sem.run_bind, Result.andThen_ok, Sem.run_pure]; rfl
            · have := VR.slice (n := (H.new ⟨cs.toList, e, true⟩).D) (ι := ι.add H.n ⟨w.heap.size, 0, 0⟩) H.n 0 len len ((D_new hrel H.n).2 (.inr rfl)) (Nat.le_refl _)
              simpa [Ren.add] using this
          · cases hv
        · cases hv
      · cases hv
    · cases hv
  · cases hv
theorem make_ok (hrel : Rel P H ι w) (hfr : FrR H.D ι N fr a.tmps) {t : TypeId} {x y : Operand} (ho : o.op = .makeSlice t x y) (hv : lmake P t (ev fr x) (ev fr y) H = some (v, H')) : OpOk P H ι o a w v H' := by
  unfold lmake at hv
  split at hv
  · rename_i e k1 l k2 c hu hx hy
    split at hv
    · rename_i it hi
      split at hv
      · rename_i z hz
        split at hv
        · rename_i hc
          simp only [Bool.and_eq_true, decide_eq_true_eq, beq_iff_eq] at hc
          obtain ⟨⟨⟨⟨⟨⟨hf, hs0⟩, hl0⟩, hlc⟩, hcs⟩, hby⟩, hzs⟩ := hc
          simp only [Option.some.injEq, Prod.mk.injEq] at hv
          obtain ⟨rfl, rfl⟩ := hv
          have hs : sz P e = some it.size := by unfold sz; rw [hi]; rfl
          have hzr : zr P e = some z := by unfold zr; rw [hi]; exact hz
          have ex : a.eval x = .int k1 l := by
            have := flatEv hfr (x := x) (by rw [hx]; rfl)
            rw [this, hx]
          have ey : a.eval y = .int k2 c := by
            have := flatEv hfr (x := y) (by rw [hy]; rfl)
            rw [this, hy]
          have hcm : c.toNat ≤ 1048576 := Nat.le_trans (Nat.le_mul_of_pos_right _ hs0) hcs
          have hout := rel_new (slack := 0) (arr := (Array.range (c.toNat * it.size)).map fun j => z.cells[j % z.cells.size]!) (b := ⟨((Array.range (c.toNat * it.size)).map fun j => z.cells[j % z.cells.size]!).toList, e, true⟩) hrel rfl hs (by simp)
            (fun n h0 h1 => by
              have h1' : c.toNat * it.size = n * it.size := by simpa using h1
              have : c.toNat = n := Nat.eq_of_mul_eq_mul_right hs0 h1'
              simp only [maxLen]; omega)
            (fun i x hx => by
              have hx' : ((Array.range (c.toNat * it.size)).map fun j => z.cells[j % z.cells.size]!)[i]? = some x := by rw [← Array.getElem?_toList]; exact hx
              refine ⟨x, hx', ?_⟩
              rw [Array.getElem?_map] at hx'
              cases hr : (Array.range (c.toNat * it.size))[i]? with
              | none => simp [hr] at hx'
              | some j =>
                simp only [hr, Option.map_some, Option.some.injEq] at hx'
                have hm : j % z.cells.size < z.cells.size := Nat.mod_lt _ (by omega)
                rw [getElem!_pos z.cells _ hm] at hx'
                exact flat_cells hf _ _ (flat_known hf) (i := j % z.cells.size) (by rw [Array.getElem?_eq_getElem hm, hx']))
          refine opok_world (v' := .slice (some ⟨w.heap.size, 0, none⟩) l.toNat c.toNat) ?_ hout ?_
          · unfold execOp
            have w1 : IntKind.i64.wrap l = l := IntWalk.i64_in _ ⟨by omega, by omega⟩
            have w2 : IntKind.i64.wrap c = c := IntWalk.i64_in _ ⟨by omega, by omega⟩
            have hbc : c.toNat * it.bytes ≤ 1048576 * 1048576 := Nat.mul_le_mul hcm hby
            have hbc' : (it.bytes : Int) * c ≤ 2 ^ 48 := by
              have e1 : (it.bytes : Int) * c = ((c.toNat * it.bytes : Nat) : Int) := by rw [Int.natCast_mul, Int.toNat_of_nonneg (by omega), Int.mul_comm]
              rw [e1]
              have : ((c.toNat * it.bytes : Nat) : Int) ≤ ((1048576 * 1048576 : Nat) : Int) := Int.ofNat_le.2 hbc
              omega
            have hroom : ¬ (c.toNat * it.bytes > roomBytes) := by unfold roomBytes; omega
            have h1 : ¬ (c < 0) := by omega
            have h2 : ¬ (l < 0) := by omega
            have h3 : ¬ (c < l) := by omega
            have h4 : ¬ (281474976710656 < (it.bytes : Int) * c) := by omega
            by_cases h0 : c.toNat * it.size = 0
            · simp [ho, ex, ey, Instr.makeSlice, Sem.run_bind, run_underlying hu, asInt, asIntOf, typeInfo, hi, w1, w2, h1, h2, h3, h4, askRoom, hroom, run_sizeOf' hs, h0, newRow, newObj, show Array.range 0 = #[] from rfl]
              rfl
            · simp [ho, ex, ey, Instr.makeSlice, Sem.run_bind, run_underlying hu, asInt, asIntOf, typeInfo, hi, w1, w2, h1, h2, h3, h4, askRoom, hroom, run_sizeOf' hs, h0, run_zero hzr, newRow, newObj]
              rfl
          · have := VR.slice (n := (H.new ⟨((Array.range (c.toNat * it.size)).map fun j => z.cells[j % z.cells.size]!).toList, e, true⟩).D) (ι := ι.add H.n ⟨w.heap.size, 0, 0⟩) H.n 0 l.toNat c.toNat ((D_new hrel H.n).2 (.inr rfl)) (by omega)
            simpa [Ren.add] using this
        · cases hv
      · cases hv
    · cases hv
  · cases hv

theorem rel_kill (h : Rel P H ι w) (l : Nat) : Rel P (H.kill l) ι w := by
  have hrwk : ∀ k, RW (H.kill l) ι k → RW H ι k ∨ w.heap.size ≤ k := by
    rintro k ⟨m, b, hk, hb, rfl⟩
    change (if m = l then none else H.get m) = some b at hk
    split at hk
    · cases hk
    · exact .inl ⟨m, b, hk, hb, rfl⟩
  refine ⟨fun k hk => ?_, fun k hk => ⟨(h.hol k hk).1, ?_⟩, fun k b hb => ?_, fun k k' b b' h1 h2 => ?_, pin_step h (Change.refl _ _) hrwk rfl rfl⟩
  · show (if k = l then none else H.get k) = none
    split
    · rfl
    · exact h.dom k hk
  · show (if k = l then none else H.get k) = none
    split
    · rfl
    · exact (h.hol k hk).2
  · change (if k = l then none else H.get k) = some b at hb
    split at hb
    · cases hb
    · exact h.blk k b hb
  · change (if k = l then none else H.get k) = some b at h1
    change (if k' = l then none else H.get k') = some b' at h2
    split at h1
    · cases h1
    · split at h2
      · cases h2
      · exact h.sep k k' b b' h1 h2
/-- a row that has grown, in its old block or in a new one -/
theorem rel_grow (h : Rel P H ι w) {b : LB} {arr : Array Value} {g slack s : Nat} {w' : World} {row : Option Nat} (hrw : b.rw = true) (hs : sz P b.elem = some s) (hg : w'.heap[g]? = some (.cells arr b.elem (0, 0)))
    (hsz : arr.size = b.cells.length + slack * s) (hm : ∀ n, s ≠ 0 → b.cells.length = n * s → n + slack ≤ maxLen) (hc : ∀ (i : Nat) x, b.cells[i]? = some x → ∃ y, arr[i]? = some y ∧ VR H.D ι x y)
    (hgr : w.grownBy w' row) (hrow : ∀ l b', H.get l = some b' → row ≠ some (ι l).blk) (hpin : ∀ g, g < H.ng → row ≠ some g) (hgn : row = some g ∨ g = w.heap.size) :
    Rel P (H.new b) (ι.add H.n ⟨g, 0, slack⟩) w' := by
  obtain ⟨d1, d2, d3⟩ := dom_new h (b := b)
  have hsub : ∀ l, H.D l → (H.new b).D l := fun l hl => (D_new h l).2 (.inl hl)
  have hsame : ∀ l, H.D l → (ι.add H.n ⟨g, 0, slack⟩) l = ι l := fun l hl => by unfold Ren.add; rw [if_neg (fun e => d3 (by rw [← e]; exact hl))]
  have hold : ∀ l b', H.get l = some b' → (ι l).blk < w.heap.size := fun l b' hb => by
    obtain ⟨arr', t, f, hw, _⟩ := h.blk l b' hb
    exact lt_of_block hw
  have hne : ∀ l b', H.get l = some b' → (ι l).blk ≠ g := fun l b' hb e => by
    rcases hgn with h1 | h1
    · exact hrow l b' hb (by rw [h1, e])
    · have := hold l b' hb; omega
  have hpins : ∀ g', g' < H.ng → w'.heap[g']? = H.base.heap[g']? ∧ g' < w'.heap.size ∧ ¬ RW (H.new b) (ι.add H.n ⟨g, 0, slack⟩) g' := by
    intro g' hg'
    obtain ⟨e1, e2, e3⟩ := h.pin g' hg'
    refine ⟨by rw [hgr.block g' e2 (fun e => hpin g' hg' e.symm)]; exact e1, Nat.lt_of_lt_of_le e2 hgr.size, ?_⟩
    rintro ⟨l, b', hb', hrw', e⟩
    change (if l = H.n then some b else H.get l) = some b' at hb'
    split at hb'
    · rename_i e0
      subst e0
      simp only [Ren.add, if_true] at e
      rcases hgn with h1 | h1
      · exact hpin g' hg' (by rw [h1, e])
      · omega
    · rw [hsame l (h.live hb')] at e
      exact e3 ⟨l, b', hb', hrw', e⟩
  refine ⟨d1, d2, fun l b' hb' => ?_, fun l l' b1 b2 h1 h2 hrw1 hne1 => ?_, hpins⟩
  · change (if l = H.n then some b else H.get l) = some b' at hb'
    split at hb'
    · rename_i e
      subst e
      injection hb' with hb'
      subst hb'
      have e : (ι.add H.n ⟨g, 0, slack⟩) H.n = ⟨g, 0, slack⟩ := by simp [Ren.add]
      rw [e]
      refine ⟨arr, b.elem, (0, 0), hg, by simp; omega, fun i x hx => ?_, fun _ => ⟨rfl, rfl, rfl, s, hs, hsz, hm⟩⟩
      obtain ⟨y, hy, hv⟩ := hc i x hx
      exact ⟨y, by simpa using hy, hv.mono hsub hsame⟩
    · rw [hsame l (h.live hb')]
      obtain ⟨arr', t, f, hw, h1, h2, h3⟩ := h.blk l b' hb'
      refine ⟨arr', t, f, by rw [hgr.block _ (hold l b' hb') (fun e => hrow l b' hb' e.symm)]; exact hw, h1, fun i x hx => ?_, h3⟩
      obtain ⟨y, hy, hv⟩ := h2 i x hx
      exact ⟨y, hy, hv.mono hsub hsame⟩
  · change (if l = H.n then some b else H.get l) = some b1 at h1
    change (if l' = H.n then some b else H.get l') = some b2 at h2
    split at h1 <;> split at h2
    · omega
    · rename_i e1 e2
      rw [hsame l' (h.live h2), e1]
      have := hne l' b2 h2
      simp only [Ren.add, if_true]; exact fun e => this e.symm
    · rename_i e1 e2
      rw [hsame l (h.live h1), e2]
      have := hne l b1 h1
      simp only [Ren.add, if_true]; exact this
    · rw [hsame l (h.live h1), hsame l' (h.live h2)]
      exact h.sep l l' b1 b2 h1 h2 hrw1 hne1
theorem lesz_spec {e : TypeId} {s : Nat} (h : lesz P e = some s) : ∃ i z, P.info? e = some i ∧ i.zero = some z ∧ i.size = s ∧ z.cells.size = s ∧ 0 < s ∧ i.bytes ≤ 1048576 ∧ sz P e = some s := by
  unfold lesz at h
  cases hi : P.info? e with
  | none => simp [hi] at h
  | some i =>
    simp only [hi] at h
    cases hz : i.zero with
    | none => simp [hz] at h
    | some z =>
      simp only [hz] at h
      split at h
      · rename_i hc
        injection h with h
        subst h
        exact ⟨i, z, rfl, hz, rfl, hc.1, hc.2.1, hc.2.2, by simp [sz, hi]⟩
      · cases h
/-- what is appended, as it lies in the world -/
theorem src_sound (hrel : Rel P H ι w) {y y' : Value} {s m : Nat} {new : List Value} (hs0 : 0 < s) (hy : VR H.D ι y y') (h : lsrc s y H = some (m, new)) :
    (m = 0 ∧ new = [] ∧ ∃ b c, y' = .slice b 0 c) ∨ (0 < m ∧ new.length = m * s ∧ ∃ (ad : Addr) (c : Nat) (us : List Value), y' = .slice (some ad) m c ∧ us.length = m * s ∧ (∀ (j : Nat) (u : Value), us[j]? = some u → w.cell? (ad.add j) = some u) ∧
      ∀ (j : Nat) (x u : Value), new[j]? = some x → us[j]? = some u → VR H.D ι x u) := by
  unfold lsrc at h
  split at h
  · simp only [Option.some.injEq, Prod.mk.injEq] at h
    obtain ⟨rfl, rfl⟩ := h
    exact .inl ⟨rfl, rfl, none, 0, flat_eq hy rfl⟩
  · rename_i l off k c
    split at h
    · rename_i b hb
      simp only [lcells, Option.map_eq_some_iff, Prod.mk.injEq] at h
      obtain ⟨cs, hcs, rfl, rfl⟩ := h
      split at hcs
      · rename_i hle
        simp only [Option.some.injEq] at hcs
        have hlen : cs.length = k * s := by rw [← hcs]; simp; omega
        rcases Nat.eq_zero_or_pos k with h0 | h0
        · subst h0
          left
          refine ⟨rfl, List.eq_nil_of_length_eq_zero (by simpa using hlen), ?_⟩
          obtain ⟨b', c', e, _⟩ := vr_slice hy
          exact ⟨b', c', e⟩
        · right
          refine ⟨h0, hlen, ?_⟩
          cases hy with
          | flat _ hf => simp [flatB, flat1B, atomB] at hf
          | slice0 => omega
          | slice _ _ _ _ hl hc =>
            have hget : ∀ (j : Nat) x, cs[j]? = some x → b.cells[off + j]? = some x := by
              intro j x hx
              rw [← hcs, List.getElem?_take] at hx
              split at hx
              · rw [List.getElem?_drop] at hx; exact hx
              · cases hx
            have hall : ∀ j, j < k * s → ∃ y, w.cell? ⟨(ι l).blk, (ι l).off + off + j, none⟩ = some y ∧ ∀ x, cs[j]? = some x → VR H.D ι x y := by
              intro j hj
              have hx : cs[j]? = some (cs[j]'(by omega)) := List.getElem?_eq_getElem (by omega)
              obtain ⟨y, hy, hv⟩ := hrel.cell hb (hget j _ hx)
              exact ⟨y, by rw [Nat.add_assoc]; exact hy, fun x hx' => by rw [hx] at hx'; injection hx' with hx'; rw [← hx']; exact hv⟩
            obtain ⟨f, hf⟩ : ∃ f : Nat → Value, ∀ j, j < k * s → w.cell? ⟨(ι l).blk, (ι l).off + off + j, none⟩ = some (f j) ∧ ∀ x, cs[j]? = some x → VR H.D ι x (f j) := by
              classical
              refine ⟨fun j => if hj : j < k * s then Classical.choose (hall j hj) else undef, fun j hj => ?_⟩
              simp only [dif_pos hj]
              exact Classical.choose_spec (hall j hj)
            refine ⟨_, _, (List.range (k * s)).map f, rfl, by simp, fun j u hu => ?_, fun j x u hx hu => ?_⟩
            · rw [List.getElem?_map] at hu
              rcases Nat.lt_or_ge j (k * s) with hj | hj
              · rw [List.getElem?_range hj] at hu
                simp only [Option.map_some, Option.some.injEq] at hu
                rw [addr_add, ← hu]; exact (hf j hj).1
              · rw [List.getElem?_eq_none (by simpa using hj)] at hu; simp at hu
            · rw [List.getElem?_map] at hu
              rcases Nat.lt_or_ge j (k * s) with hj | hj
              · rw [List.getElem?_range hj] at hu
                simp only [Option.map_some, Option.some.injEq] at hu
                rw [← hu]; exact (hf j hj).2 x hx
              · rw [List.getElem?_eq_none (by simpa using hj)] at hu; simp at hu
      · cases hcs
    · cases h
  · cases h
theorem append_zero {t ty e : TypeId} {i : TypeInfo} (hu : P.underlying t = some (.slice e)) (hi : P.info? e = some i) {ad b : Option Addr} {n c c' : Nat} (hn : n ≤ c) :
    (Builtin.append_ #[t, t] ty #[.slice ad n c, .slice b 0 c']).run P w = .ok (.slice ad n c) w := by
  have hl : ∀ ad : Addr, (loadCells ad 0).run P w = .ok #[] w := fun _ => rfl
  cases b <;> cases ad <;> simp [Builtin.append_, run_underlying hu, sizeOf, typeInfo, hi, Builtin.lenOf, Builtin.firstCells, hn, storeCells, hl]
/-- append, where it must grow beyond what the row holds: to nil, to an empty slice, to a whole row -/
theorem grow_out {H0 : LH} (hrel : Rel P H0 ι w) {e : TypeId} {s k cap g : Nat} {olds news xs us : List Value} {w' : World} {row : Option Nat} (hs : sz P e = some s) (hs0 : 0 < s)
    (hol : olds.length + news.length = k * s) (hxl : xs.length = olds.length) (hul : us.length = news.length)
    (hxs : ∀ (j : Nat) (x u : Value), olds[j]? = some x → xs[j]? = some u → VR H0.D ι x u) (hus : ∀ (j : Nat) (x u : Value), news[j]? = some x → us[j]? = some u → VR H0.D ι x u)
    (hown : w'.ownsRow 0 e s (.slice (some ⟨g, 0, none⟩) k cap) k (xs ++ us)) (hgr : w.grownBy w' row) (hrow : ∀ l b', H0.get l = some b' → row ≠ some (ι l).blk) (hpin : ∀ g, g < H0.ng → row ≠ some g) (hgn : row = some g ∨ g = w.heap.size) :
    Rel P (H0.new ⟨olds ++ news, e, true⟩) (ι.add H0.n ⟨g, 0, cap - k⟩) w' ∧ VR (H0.new ⟨olds ++ news, e, true⟩).D (ι.add H0.n ⟨g, 0, cap - k⟩) (.slice (some ⟨H0.n, 0, none⟩) k k) (.slice (some ⟨g, 0, none⟩) k cap) := by
  rcases hown.2 with ⟨hx0, _⟩ | ⟨g', cap', cur, hx0, _, hh, hnc, hcm, hcs, htake⟩
  · cases hx0
  · simp only [Value.slice.injEq, Option.some.injEq, Addr.mk.injEq] at hx0
    obtain ⟨⟨rfl, _⟩, _, rfl⟩ := hx0
    refine ⟨rel_grow (b := ⟨olds ++ news, e, true⟩) (arr := cur) (g := g) (slack := cap - k) (s := s) hrel rfl hs hh ?_ ?_ ?_ hgr hrow hpin hgn, ?_⟩
    · rw [hcs]; show cap * s = (olds ++ news).length + (cap - k) * s
      rw [List.length_append, hol, ← Nat.add_mul]; congr 1; omega
    · intro n _ hn
      have hn' : k * s = n * s := by rw [← hol, ← List.length_append]; exact hn
      have := Nat.eq_of_mul_eq_mul_right hs0 hn'
      omega
    · intro j x hx
      have hx' : (olds ++ news)[j]? = some x := hx
      have hlt : j < k * s := by rw [← hol, ← List.length_append]; exact (List.getElem?_eq_some_iff.1 hx').1
      have hlt2 : j < (xs ++ us).length := by rw [List.length_append, hxl, hul, hol]; exact hlt
      have h1 : (cur.toList.take (k * s))[j]? = some (xs ++ us)[j] := by rw [htake]; exact List.getElem?_eq_getElem hlt2
      rw [List.getElem?_take, if_pos hlt] at h1
      refine ⟨(xs ++ us)[j], by simpa using h1, ?_⟩
      have h2 : (xs ++ us)[j]? = some (xs ++ us)[j] := List.getElem?_eq_getElem hlt2
      rw [List.getElem?_append] at hx' h2
      rw [hxl] at h2
      split at hx'
      · rw [if_pos ‹_›] at h2; exact hxs j _ _ hx' h2
      · rw [if_neg ‹_›] at h2; exact hus _ _ _ hx' h2
    · have := VR.slice (n := (H0.new ⟨olds ++ news, e, true⟩).D) (ι := ι.add H0.n ⟨g, 0, cap - k⟩) H0.n 0 k k ((D_new hrel H0.n).2 (.inr rfl)) (Nat.le_refl _)
      have hcc : k + (cap - k) = cap := by omega
      simpa [Ren.add, hcc] using this
theorem grow_whole {H0 : LH} (hrel0 : Rel P H0 ι w) (hsub : ∀ l b, H0.get l = some b → H.get l = some b) (hn : H0.n = H.n) (hh : H0.hole = H.hole) {b0 : LB} {g : Nat} {im : Im} {w' : World} {row : Option Nat} (hrel : Rel P (H0.new b0) (ι.add H0.n im) w') (him : im.blk = g)
    (hgr : w.grownBy w' row) (hrow : ∀ k, row = some k → RW H ι k) (hgn : row = some g ∨ g = w.heap.size) : Out P H ι w (H0.new b0) (ι.add H0.n im) w' := by
  have hD : ∀ l, H.D l → H0.D l := fun l hl => by unfold LH.D at hl ⊢; rw [hn, hh]; exact hl
  refine ⟨hrel, by show H.n ≤ H0.n + 1; omega, fun l hl => (D_new hrel0 l).2 (.inl (hD l hl)), fun l hl => by unfold Ren.add; rw [if_neg (fun e => by have := (hD l hl).1; omega)], ⟨hgr.os, hgr.tape, hgr.output, hgr.size, fun k hk hne => hgr.block k hk (fun e => hne (hrow k e.symm))⟩, ?_⟩
  rintro k ⟨l, b', hb', hrw', rfl⟩
  change (if l = H0.n then some b0 else H0.get l) = some b' at hb'
  split at hb'
  · rename_i e2; subst e2
    simp only [Ren.add, if_true, him]
    rcases hgn with hg | hg
    · exact .inl (hrow g hg)
    · exact .inr (by omega)
  · rename_i hne; left
    refine ⟨l, b', hsub l b' hb', hrw', ?_⟩
    unfold Ren.add; rw [if_neg hne]
theorem run_append_empty {t ty e : TypeId} {i : TypeInfo} {z : Value} (hu : P.underlying t = some (.slice e)) (hi : P.info? e = some i) (hz : i.zero = some z) (b : Addr)
    (ad : Addr) (m c : Nat) (us : List Value) (hl : us.length = m * i.size) (hc : ∀ (j : Nat) (v : Value), us[j]? = some v → w.cell? (ad.add j) = some v) (h0 : 0 < m) (hm : m ≤ 1048576) (hb : i.bytes ≤ 1048576) :
    (Builtin.append_ #[t, t] ty #[.slice (some b) 0 0, .slice (some ad) m c]).run P w = (Builtin.append_ #[t, t] ty #[.slice none 0 0, .slice (some ad) m c]).run P w := by
  have hmb := Nat.mul_le_mul hm hb
  have hf : Builtin.nextslicecap (0 + m) 0 * i.bytes ≤ 281474976710656 := growslice_fits (by omega) (by rw [Nat.zero_add]; omega)
  rw [run_append_grow (P := P) w t ty e i z hu hi hz b 0 0 [] (by simp) (by simp) ad m c us hl hc (by omega) (by omega) hf, run_append_nil (P := P) w t ty e i z hu hi hz ad m c us hl hc h0 (by omega) (by omega)]
  simp
theorem append_sound (hrel : Rel P H ι w) {t ty : TypeId} {x y x' y' : Value} (hx : VR H.D ι x x') (hy : VR H.D ι y y') (h : lappend P t x y H = some (v, H')) :
    ∃ v' w' ι', (Builtin.append_ #[t, t] ty #[x', y']).run P w = .ok v' w' ∧ Out P H ι w H' ι' w' ∧ VR H'.D ι' v v' := by
  unfold lappend at h
  split at h
  case h_2 => cases h
  rename_i e hu
  split at h
  case h_2 => cases h
  rename_i s hs
  obtain ⟨i, z, hi, hz, e1, hzs, hs0, hbytes, hsz⟩ := lesz_spec hs
  split at h
  case h_2 => cases h
  rename_i m new hsrc
  have hS := src_sound hrel hs0 hy hsrc
  split at h
  case isFalse => cases h
  rename_i hcell
  have hone : ∀ us : List Value, us.length = m * s → new.length = m * s → (∀ (j : Nat) (x u : Value), new[j]? = some x → us[j]? = some u → VR H.D ι x u) → ∀ u ∈ us, u.oneCell' = true := fun us hul hlen huv u hu' => by
    obtain ⟨j, hj⟩ := List.getElem?_of_mem hu'
    have hlt : j < new.length := by rw [hlen, ← hul]; exact (List.getElem?_eq_some_iff.1 hj).1
    exact cell_one (huv j _ u (List.getElem?_eq_getElem hlt) hj) ((List.all_eq_true.1 hcell) _ (List.getElem_mem hlt))
  split at h
  · have hx' := flat_eq hx rfl
    subst hx'
    split at h
    · rename_i hm
      subst hm
      simp only [Option.some.injEq, Prod.mk.injEq] at h
      obtain ⟨rfl, rfl⟩ := h
      rcases hS with ⟨_, _, b, c, rfl⟩ | ⟨h0, _⟩
      · exact ⟨_, w, ι, append_zero hu hi (Nat.le_refl _), Out.refl hrel, .flat _ rfl⟩
      · omega
    · rename_i hm
      split at h
      case isFalse => cases h
      rename_i hmx
      simp only [Option.some.injEq, Prod.mk.injEq] at h
      obtain ⟨rfl, rfl⟩ := h
      rcases hS with ⟨h0, _⟩ | ⟨_, hlen, ad, c, us, rfl, hul, hcells, huv⟩
      · omega
      unfold maxElems at hmx
      have hb2 : (0 + m) * i.bytes ≤ 140737488355328 := by
        have := Nat.mul_le_mul (show 0 + m ≤ 1048576 by omega) hbytes
        omega
      obtain ⟨g, cap, w', hr, hown, hgr, hg⟩ := run_append2 (P := P) w t ty e i z s i.bytes hu hi hz e1 rfl hzs hs0 (.slice none 0 0) 0 [] (World.ownsRow_nil w 0 e s) ad m c us hul hcells (hone us hul hlen huv) (by omega) (by simp only [maxLen]; omega) hb2
      simp only [Nat.zero_add] at hr hown
      have hg' : (none : Option Nat) = some g ∨ g = w.heap.size := by simpa [Value.ownBlock] using hg
      obtain ⟨h1, h2⟩ := grow_out (olds := []) (xs := []) (row := none) hrel hsz hs0 (by simpa using hlen) rfl (by rw [hul, hlen]) (by simp) huv hown hgr (fun _ _ _ h => by cases h) (fun _ _ h => by cases h) hg'
      exact ⟨_, w', _, hr, grow_whole (H0 := H) hrel (fun _ _ h => h) rfl rfl h1 rfl hgr (fun _ h => by cases h) hg', h2⟩
  · rename_i l off n c
    split at h
    case h_2 => cases h
    rename_i b hb
    split at h
    case isFalse => cases h
    rename_i hcond
    obtain ⟨hrw, rfl, rfl, hclen, hnc⟩ := hcond
    obtain ⟨arr, t0, f0, hw0, hsz0, hcell0, hrwf⟩ := hrel.blk l b hb
    obtain ⟨g1, rfl, rfl, s', g4, g5, g6⟩ := hrwf hrw
    have es : s' = s := by rw [hsz] at g4; injection g4 with g4; exact g4.symm
    subst es
    have hlt : H.D l := hrel.live hb
    have hX : x' = .slice (some ⟨(ι l).blk, 0, none⟩) n (c + (ι l).slack) ∨ (n = 0 ∧ c = 0 ∧ ∃ ad, x' = .slice (some ad) 0 0) := by
      cases hx with
      | flat _ hf => simp [flatB, flat1B, atomB] at hf
      | slice _ _ _ _ _ _ => left; rw [g1]
      | slice0 _ _ ad _ => right; exact ⟨rfl, rfl, ad, rfl⟩
    split at h
    · rename_i hm
      subst hm
      simp only [Option.some.injEq, Prod.mk.injEq] at h
      obtain ⟨rfl, rfl⟩ := h
      rcases hS with ⟨_, _, b2, c2, rfl⟩ | ⟨h0, _⟩
      · rcases hX with rfl | ⟨rfl, rfl, ad, rfl⟩
        · exact ⟨_, w, ι, append_zero hu hi (by omega), Out.refl hrel, hx⟩
        · exact ⟨_, w, ι, append_zero hu hi (Nat.le_refl _), Out.refl hrel, hx⟩
      · omega
    rename_i hm
    rcases hS with ⟨h0, _⟩ | ⟨hm0, hlen, ad2, c2, us, rfl, hul, hcells, huv⟩
    · omega
    have hone' := hone us hul hlen huv
    split at h
    · rename_i hroom
      simp only [Option.some.injEq, Prod.mk.injEq] at h
      obtain ⟨rfl, rfl⟩ := h
      rcases hX with rfl | ⟨rfl, rfl, ad, rfl⟩
      · have hns : (n + m) * s' ≤ c * s' := Nat.mul_le_mul_right _ hroom
        rw [Nat.add_mul] at hns
        have hin : n * s' + us.length ≤ arr.size := by rw [hul]; omega
        have hr := run_append_room (P := P) w t ty b.elem i hu hi (ι l).blk n (c + (ι l).slack) arr hw0 ad2 m c2 us (by rw [e1]; exact hul) hcells hone' (by omega) (by rw [e1]; exact hin)
        have ho := row_out (vs := new) (us := us) (o := n * s') hrel hb hrw (by rw [hlen]; omega) (by rw [hul, hlen]) huv hw0 hin
        rw [e1] at hr
        refine ⟨_, _, ι, hr, ho, ?_⟩
        have := VR.slice (n := H.D) (ι := ι) l 0 (n + m) c hlt hroom
        rw [g1] at this
        exact this
      · omega
    · rename_i hroom
      split at h
      case isFalse => cases h
      rename_i hgrow
      obtain ⟨rfl, hmx⟩ := hgrow
      simp only [Option.some.injEq, Prod.mk.injEq] at h
      obtain ⟨rfl, rfl⟩ := h
      unfold maxElems at hmx
      have hb2 : (n + m) * i.bytes ≤ 140737488355328 := by
        have := Nat.mul_le_mul hmx hbytes
        omega
      have hsub : ∀ k b', (H.kill l).get k = some b' → k ≠ l ∧ H.get k = some b' := fun k b' hk => by
        change (if k = l then none else H.get k) = some b' at hk
        split at hk
        · cases hk
        · exact ⟨‹_›, hk⟩
      rcases hX with rfl | ⟨rfl, _, ad, rfl⟩
      · have hcapm : n + (ι l).slack ≤ maxLen := g6 n (by omega) hclen
        have hown : w.ownsRow 0 b.elem s' (.slice (some ⟨(ι l).blk, 0, none⟩) n (n + (ι l).slack)) n (arr.toList.take (n * s')) :=
          ⟨by simp; omega, .inr ⟨(ι l).blk, _, arr, rfl, Nat.zero_le _, hw0, by omega, hcapm, by rw [g5, hclen, Nat.add_mul], rfl⟩⟩
        obtain ⟨g, cap, w', hr, hown', hgr, hg⟩ := run_append2 (P := P) w t ty b.elem i z s' i.bytes hu hi hz e1 rfl hzs hs0 _ n _ hown ad2 m c2 us hul hcells hone' (by omega) (by simp only [maxLen]; omega) hb2
        have hg' : some (ι l).blk = some g ∨ g = w.heap.size := by simpa [Value.ownBlock] using hg
        have hgr' : w.grownBy w' (some (ι l).blk) := by simpa [Value.ownBlock] using hgr
        obtain ⟨h1, h2⟩ := grow_out (H0 := H.kill l) (olds := b.cells) (news := new) (row := some (ι l).blk) (rel_kill hrel l) hsz hs0 (by rw [hclen, hlen, Nat.add_mul]) (by rw [List.length_take, Array.length_toList]; omega) (by rw [hul, hlen])
          (fun j x u hx hu' => by
            rw [List.getElem?_take] at hu'
            split at hu'
            · obtain ⟨y, hy, hv⟩ := hcell0 j x hx
              rw [g1, Nat.zero_add] at hy
              rw [Array.getElem?_toList, hy] at hu'
              injection hu' with hu'
              rw [← hu']; exact hv
            · cases hu') huv hown' hgr' (fun k b' hk e => by
              obtain ⟨hne, hk'⟩ := hsub k b' hk
              injection e with e
              exact hrel.sep l k b b' hb hk' hrw (fun e => hne e.symm) e) (fun g0 hg0 e => by
              injection e with e
              exact (hrel.pin g0 hg0).2.2 ⟨l, b, hb, hrw, e⟩) hg'
        exact ⟨_, w', _, hr, grow_whole (H0 := H.kill l) (rel_kill hrel l) (fun k b' hk => (hsub k b' hk).2) rfl rfl h1 rfl hgr' (fun k e => by injection e with e; exact ⟨l, b, hb, hrw, e⟩) hg', h2⟩
      · obtain ⟨g, cap, w', hr, hown, hgr, hg⟩ := run_append2 (P := P) w t ty b.elem i z s' i.bytes hu hi hz e1 rfl hzs hs0 (.slice none 0 0) 0 [] (World.ownsRow_nil w 0 b.elem s') ad2 m c2 us hul hcells hone' (by omega) (by simp only [maxLen]; omega) hb2
        rw [← run_append_empty hu hi hz ad ad2 m c2 us (by rw [e1]; exact hul) hcells hm0 (by omega) hbytes] at hr
        have hg' : (none : Option Nat) = some g ∨ g = w.heap.size := by simpa [Value.ownBlock] using hg
        have hb0 : b.cells = [] := List.eq_nil_of_length_eq_zero (by rw [hclen]; simp)
        obtain ⟨h1, h2⟩ := grow_out (H0 := H.kill l) (olds := b.cells) (news := new) (xs := []) (row := none) (rel_kill hrel l) hsz hs0 (by rw [hclen, hlen, Nat.add_mul]) (by rw [hb0]) (by rw [hul, hlen]) (by simp) huv hown hgr (fun _ _ _ h => by cases h) (fun _ _ h => by cases h) hg'
        exact ⟨_, w', _, hr, grow_whole (H0 := H.kill l) (rel_kill hrel l) (fun k b' hk => (hsub k b' hk).2) rfl rfl h1 rfl hgr (fun _ h => by cases h) hg', h2⟩
  · cases h
end
end Go.Lg
/-
  A logical run of Go code: regions, code, calls.
-/
set_option linter.unusedSimpArgs false
set_option linter.unusedVariables false
namespace Go.Lg
open Go.Tg Go.RowKit

section
variable {P : Program} {T : Callee} {H H' H1 : LH} {ι : Ren} {o : Oper} {a : Act} {w : World} {v v' : Value} {N : Nat} {fr fr' : Fr}

theorem args_rel (hfr : FrR H.D ι N fr a.tmps) (args : Array Operand) : (args.toList.map (ev fr)).length = (args.map a.eval).size ∧ ∀ (i : Nat) (x y : Value), (args.toList.map (ev fr))[i]? = some x → (args.map a.eval)[i]? = some y → VR H.D ι x y := by
  refine ⟨by simp, fun i x y hx hy => ?_⟩
  rw [List.getElem?_map, Array.getElem?_toList] at hx
  rw [Array.getElem?_map] at hy
  cases h : args[i]? with
  | none => simp [h] at hx
  | some z =>
    simp only [h, Option.map_some, Option.some.injEq] at hx hy
    rw [← hx, ← hy]; exact hfr.ev z
theorem builtin_run (hrel : Rel P H ι w) {b : Builtin} {ats : List TypeId} {args : List Value} {args' : Array Value} {ty : TypeId} {cs : Array Bool} (hl : args.length = args'.size)
    (hv : ∀ (i : Nat) (x y : Value), args[i]? = some x → args'[i]? = some y → VR H.D ι x y) (h : lbuiltin P b ats args H = some (v, H')) :
    ∃ v' w' ι', (builtin b ats.toArray ty cs args').run P w = .ok (.value v') w' ∧ Out P H ι w H' ι' w' ∧ VR H'.D ι' v v' := by
  unfold lbuiltin at h
  split at h
  · rename_i t x
    obtain ⟨y, rfl⟩ : ∃ y, args' = #[y] := by
      obtain ⟨l⟩ := args'
      match l, hl with
      | [y], _ => exact ⟨y, rfl⟩
    have hxy := hv 0 x y rfl rfl
    split at h
    · rename_i s hu
      simp only [Option.some.injEq, Prod.mk.injEq] at h
      obtain ⟨rfl, rfl⟩ := h
      have := flat_eq hxy rfl
      subst this
      exact ⟨_, w, ι, by simp [builtin, Builtin.len_, Sem.run_bind, run_underlying hu, goInt], Out.refl hrel, .flat _ rfl⟩
    · rename_i b' n c hu
      simp only [Option.some.injEq, Prod.mk.injEq] at h
      obtain ⟨rfl, rfl⟩ := h
      obtain ⟨b2, c2, rfl, _⟩ := vr_slice hxy
      exact ⟨_, w, ι, by simp [builtin, Builtin.len_, Sem.run_bind, run_underlying hu, goInt], Out.refl hrel, .flat _ rfl⟩
    · cases h
  · rename_i t u x y
    split at h
    · rename_i e
      subst e
      obtain ⟨x', y', rfl⟩ : ∃ x' y', args' = #[x', y'] := by
        obtain ⟨l⟩ := args'
        match l, hl with
        | [y, z], _ => exact ⟨y, z, rfl⟩
      obtain ⟨v', w', ι', hr, ho, hvr⟩ := append_sound (ty := ty) hrel (hv 0 x x' rfl rfl) (hv 1 y y' rfl rfl) h
      refine ⟨v', w', ι', ?_, ho, hvr⟩
      simp only [builtin, Sem.run_bind, hr, Result.andThen_ok, Sem.run_pure]
    · cases h
  · rename_i k x k' y
    simp only [Option.some.injEq, Prod.mk.injEq] at h
    obtain ⟨rfl, rfl⟩ := h
    obtain ⟨x', y', rfl⟩ : ∃ x' y', args' = #[x', y'] := by
      obtain ⟨l⟩ := args'
      match l, hl with
      | [y, z], _ => exact ⟨y, z, rfl⟩
    have e1 := flat_eq (hv 0 _ x' rfl rfl) rfl
    have e2 := flat_eq (hv 1 _ y' rfl rfl) rfl
    subst e1 e2
    exact ⟨_, w, ι, by simp [builtin, Builtin.min_, Builtin.min2, Sem.run_bind], Out.refl hrel, .flat _ rfl⟩
  · rename_i k x k' y
    simp only [Option.some.injEq, Prod.mk.injEq] at h
    obtain ⟨rfl, rfl⟩ := h
    obtain ⟨x', y', rfl⟩ : ∃ x' y', args' = #[x', y'] := by
      obtain ⟨l⟩ := args'
      match l, hl with
      | [y, z], _ => exact ⟨y, z, rfl⟩
    have e1 := flat_eq (hv 0 _ x' rfl rfl) rfl
    have e2 := flat_eq (hv 1 _ y' rfl rfl) rfl
    subst e1 e2
    exact ⟨_, w, ι, by simp [builtin, Builtin.max_, Builtin.max2, Sem.run_bind], Out.refl hrel, .flat _ rfl⟩
  · cases h
theorem builtin_ok (hrel : Rel P H ι w) (hfr : FrR H.D ι N fr a.tmps) {c : Call} {b : Builtin} (ho : o.op = .call c) (hc : c.callee = .builtin b) (h : lbuiltin P b c.argTypes.toList (c.args.toList.map (ev fr)) H = some (v, H')) : OpOk P H ι o a w v H' := by
  obtain ⟨h1, h2⟩ := args_rel hfr c.args
  obtain ⟨v', w', ι', hr, hout, hvr⟩ := builtin_run (ty := o.type) (cs := c.args.map fun | .const _ => true | _ => false) hrel h1 h2 h
  refine opok_world (v' := v') ?_ hout hvr
  unfold execOp
  simp only [ho, resolve, hc, Sem.run_bind, Sem.run_pure, Result.andThen_ok, invoke]
  exact hr
theorem enter_run {g : FuncId} (hg : Entered P g) (args : Array Value) : (callFunc g args).run P w = .ok (.enter g args) w := by
  obtain ⟨fn, hf, hb, hn⟩ := hg
  unfold callFunc
  have h1 : (fn.name == "runtime.NumGoroutine") = false := by simpa using hn
  have h2 : fn.body.isNone = false := by cases hq : fn.body <;> simp_all
  have hp : (program).run P w = .ok P w := rfl
  simp only [Sem.run_bind, hp, Result.andThen_ok, hf, h1, h2, Bool.false_eq_true, if_false, Sem.run_pure]
theorem callee_run (hfr : FrR H.D ι N fr a.tmps) {c : Call} {f : Operand} (ho : o.op = .call c) (hc : c.callee = .value f) {g : FuncId} {first captured : Array Value} (hf : ev fr f = .func (.func g) first captured) (h0 : first.size = 0) (hg : Entered P g) :
    ∃ cap', (execOp a.eval o).run P w = .ok (.enter g ((c.args.map a.eval) ++ cap')) w ∧ captured.size = cap'.size ∧ ∀ (i : Nat) (x y : Value), captured[i]? = some x → cap'[i]? = some y → VR H.D ι x y := by
  have h1 := hfr.ev f
  rw [hf] at h1
  have h2 : ∃ cap', a.eval f = .func (.func g) #[] cap' ∧ captured.size = cap'.size ∧ ∀ (i : Nat) (x y : Value), captured[i]? = some x → cap'[i]? = some y → VR H.D ι x y := by
    generalize a.eval f = y at h1
    cases h1 with
    | flat _ hv =>
      have e0 : first = #[] := Array.eq_empty_of_size_eq_zero h0
      subst e0
      have e1 : captured = #[] := Array.eq_empty_of_size_eq_zero (by simpa [flatB, flat1B, atomB] using hv)
      subst e1
      exact ⟨_, rfl, rfl, fun i x y hx _ => by simp at hx⟩
    | func _ _ b _ d g1 g2 g3 g4 =>
      have e0 : b = #[] := Array.eq_empty_of_size_eq_zero (by rw [← g1]; exact h0)
      subst e0
      exact ⟨d, rfl, g2, g4⟩
  obtain ⟨cap', e, h3, h4⟩ := h2
  refine ⟨cap', ?_, h3, h4⟩
  unfold execOp
  simp only [ho, resolve, hc, e, Deferred.ofValue, Sem.run_bind, Sem.run_pure, Result.andThen_ok, invoke]
  rw [show (#[] ++ c.args.map a.eval ++ cap' : Array Value) = c.args.map a.eval ++ cap' by simp]
  exact enter_run hg _
theorem app_rel {n : Nat → Prop} {xs ys : List Value} {us vs : Array Value} (h1 : xs.length = us.size) (h2 : ys.length = vs.size) (g1 : ∀ (i : Nat) (x y : Value), xs[i]? = some x → us[i]? = some y → VR n ι x y) (g2 : ∀ (i : Nat) (x y : Value), ys[i]? = some x → vs[i]? = some y → VR n ι x y) :
    (xs ++ ys).length = (us ++ vs).size ∧ ∀ (i : Nat) (x y : Value), (xs ++ ys)[i]? = some x → (us ++ vs)[i]? = some y → VR n ι x y := by
  refine ⟨by simp [h1, h2], fun i x y hx hy => ?_⟩
  rw [List.getElem?_append] at hx
  rw [Array.getElem?_append] at hy
  rw [h1] at hx
  split at hx
  · rw [if_pos ‹_›] at hy; exact g1 i x y hx hy
  · rw [if_neg ‹_›] at hy; exact g2 _ x y hx hy
theorem call_ok (hT : TOk P T) (hrel : Rel P H ι w) (hfr : FrR H.D ι N fr a.tmps) {c : Call} {f : Operand} (ho : o.op = .call c) (hc : c.callee = .value f) (h : lcallee P T (ev fr f) (c.args.toList.map (ev fr)) H = some (v, H')) : OpOk P H ι o a w v H' := by
  unfold lcallee at h
  split at h
  · rename_i g first captured hf
    split at h
    · rename_i h0
      obtain ⟨hg, hcall⟩ := hT _ _ _ _ _ h
      obtain ⟨cap', hr, k1, k2⟩ := callee_run (w := w) hfr ho hc hf h0 hg
      obtain ⟨h1, h2⟩ := args_rel hfr c.args
      obtain ⟨m1, m2⟩ := app_rel (ys := captured.toList) h1 (by rw [Array.length_toList]; exact k1) h2 (fun i x y hx hy => k2 i x y (by simpa using hx) hy)
      intro K Q hK
      unfold Oper.wp
      rw [hr, Oper.upon_enter]
      refine (hcall ι w _ hrel m1 m2).mono ?_
      rintro e w' ⟨ι', v', rfl, hout, hvr⟩
      exact hK ι' v' w' hout hvr
    · cases h
  · cases h

/-- operations that leave memory as it is -/
def readB : Op → Bool
  | .store _ _ _ | .box _ _ | .alloc _ | .buildSlice _ _ _ | .makeSlice _ _ _ | .call _ => false
  | _ => true
theorem vr_sliceD {n : Nat → Prop} {l o k c : Nat} (h : VR n ι (.slice (some ⟨l, o, none⟩) k c) v') : n l := by
  cases h with
  | flat _ hv => simp [flatB, flat1B, atomB] at hv
  | slice _ _ _ _ hl _ => exact hl
  | slice0 _ _ _ hl => exact hl
theorem lload_sub {t : TypeId} {l off : Nat} (hg : ∀ b, H1.get l = some b → H.get l = some b) (h : lload P t l off H1 = some v) : lload P t l off H = some v := by
  unfold lload at h ⊢
  split at h
  · rename_i b hb
    rw [hg b hb]
    exact h
  · cases h
theorem lbstr_sub {s d : TypeId} {x : Value} (hg : ∀ l o n c b, x = .slice (some ⟨l, o, none⟩) n c → H1.get l = some b → H.get l = some b) (h : lbstr P s d x H1 = some v) : lbstr P s d x H = some v := by
  unfold lbstr at h ⊢
  generalize P.underlying s = us at h ⊢
  generalize P.underlying d = ud at h ⊢
  split at h
  · split at h
    · rename_i hu
      split at h
      · rename_i b hb
        simp only [hu, hg _ _ _ _ b rfl hb]
        exact h
      · cases h
    · cases h
  · cases h
theorem lop_read' (hrel : Rel P H ι w) (hfr : FrR H.D ι N fr a.tmps) (hg : ∀ l b, H.D l → H1.get l = some b → H.get l = some b) (h : lop P T o fr H1 = some (v, H')) (hk : readB o.op = true) : H' = H1 ∧ ReadOk P H.D ι o a w v := by
  unfold lop at h
  split at h
  · rename_i x ho
    simp only [Option.some.injEq, Prod.mk.injEq] at h; obtain ⟨rfl, rfl⟩ := h
    exact ⟨rfl, (move_ok hfr (.inl ho)).read⟩
  · rename_i x ho
    simp only [Option.some.injEq, Prod.mk.injEq] at h; obtain ⟨rfl, rfl⟩ := h
    exact ⟨rfl, (move_ok hfr (.inr ho)).read⟩
  · rename_i c x y ho
    split at h
    · simp only [Option.some.injEq, Prod.mk.injEq] at h; obtain ⟨rfl, rfl⟩ := h
      exact ⟨rfl, (pick_ok hfr ho ‹_›).read⟩
    · cases h
  · rename_i ho
    rw [ho] at hk; cases hk
  · rename_i ho
    rw [ho] at hk; cases hk
  · rename_i t x ho
    split at h
    · rename_i hx
      simp only [Option.map_eq_some_iff, Prod.mk.injEq] at h
      obtain ⟨u, hu, rfl, rfl⟩ := h
      exact ⟨rfl, (load_ok hrel hfr ho hx (lload_sub (fun b hb => hg _ b (by have h1 := hfr.ev x; rw [hx] at h1; exact (vr_ptr h1).1) hb) hu))⟩
    · cases h
  · rename_i ho
    rw [ho] at hk; cases hk
  · rename_i x ho
    split at h
    · rename_i hx
      simp only [Option.some.injEq, Prod.mk.injEq] at h; obtain ⟨rfl, rfl⟩ := h
      exact ⟨rfl, (nilCheck_ok hfr ho hx).read⟩
    · rename_i hx
      simp only [Option.some.injEq, Prod.mk.injEq] at h; obtain ⟨rfl, rfl⟩ := h
      exact ⟨rfl, (nilCheckF_ok hfr ho hx).read⟩
    · cases h
  · rename_i s x f ho
    split at h
    · rename_i hx hu
      split at h
      · rename_i hf
        split at h
        · rename_i hs
          split at h
          · cases h
          · rename_i hm
            simp only [Option.some.injEq, Prod.mk.injEq] at h; obtain ⟨rfl, rfl⟩ := h
            exact ⟨rfl, (fieldAddr_ok hfr ho hx hu hf hs hm).read⟩
        · cases h
      · cases h
    · cases h
  · rename_i t x i ho
    split at h
    · rename_i hx hi hu
      split at h
      · rename_i hs
        split at h
        · rename_i hk
          simp only [Option.some.injEq, Prod.mk.injEq] at h; obtain ⟨rfl, rfl⟩ := h
          exact ⟨rfl, (indexAddr_ok hfr ho hx hi hu hs hk).read⟩
        · cases h
      · cases h
    · cases h
  · rename_i t x lo hi ho
    simp only [Option.map_eq_some_iff, Prod.mk.injEq] at h
    obtain ⟨u, hu, rfl, rfl⟩ := h
    exact ⟨rfl, (slice_ok hfr ho hu).read⟩
  · rename_i t x f ho
    split at h
    · rename_i hu hx
      split at h
      · rename_i hf
        split at h
        · rename_i ha hs
          simp only [Option.some.injEq, Prod.mk.injEq] at h; obtain ⟨rfl, rfl⟩ := h
          exact ⟨rfl, (field_ok hfr ho hx hu hf (.inl ⟨_, ha, hs, rfl⟩)).read⟩
        · rename_i ha
          simp only [Option.map_eq_some_iff, Prod.mk.injEq] at h
          obtain ⟨u, hu', rfl, rfl⟩ := h
          exact ⟨rfl, (field_ok hfr ho hx hu hf (.inr ⟨ha, hu'⟩)).read⟩
        · cases h
      · cases h
    · cases h
  · rename_i x i ho
    split at h
    · rename_i hx
      simp only [Option.map_eq_some_iff, Prod.mk.injEq] at h
      obtain ⟨u, hu, rfl, rfl⟩ := h
      exact ⟨rfl, (extract_ok hfr ho hx hu).read⟩
    · cases h
  · rename_i t parts ho
    simp only [Option.map_eq_some_iff, Prod.mk.injEq] at h
    obtain ⟨u, hu, rfl, rfl⟩ := h
    exact ⟨rfl, (build_ok hfr ho hu).read⟩
  · rename_i ho
    rw [ho] at hk; cases hk
  · rename_i ho
    rw [ho] at hk; cases hk
  · rename_i g first captured ho
    split at h
    · rename_i h0
      simp only [Option.some.injEq, Prod.mk.injEq] at h; obtain ⟨rfl, rfl⟩ := h
      exact ⟨rfl, (makeFunc_ok hfr ho h0).read⟩
    · cases h
  · rename_i op t x y yt ho
    simp only [Option.map_eq_some_iff, Prod.mk.injEq] at h
    obtain ⟨u, hu, rfl, rfl⟩ := h
    exact ⟨rfl, (binOp_ok hfr ho hu).read⟩
  · rename_i op t x ho
    split at h
    · simp only [Option.map_eq_some_iff, Prod.mk.injEq] at h
      obtain ⟨u, hu, rfl, rfl⟩ := h
      exact ⟨rfl, (unOp_ok hfr ho ‹_› hu).read⟩
    · cases h
  · rename_i s d x ho
    split at h
    · simp only [Option.map_eq_some_iff, Prod.mk.injEq] at h
      obtain ⟨u, hu, rfl, rfl⟩ := h
      exact ⟨rfl, (convert_ok hfr ho ‹_› hu).read⟩
    · simp only [Option.map_eq_some_iff, Prod.mk.injEq] at h
      obtain ⟨u, hu, rfl, rfl⟩ := h
      exact ⟨rfl, bstr_ok hrel hfr ho (lbstr_sub (fun l o n c b hx hb => hg l b (by have h1 := hfr.ev x; rw [hx] at h1; exact vr_sliceD h1) hb) hu)⟩
  · rename_i t x i ho
    split at h
    · rename_i hc
      rw [Bool.and_eq_true] at hc
      simp only [Option.map_eq_some_iff, Prod.mk.injEq] at h
      obtain ⟨u, hu, rfl, rfl⟩ := h
      exact ⟨rfl, (index_ok hfr ho hc.1 hc.2 hu).read⟩
    · cases h
  · rename_i ho
    rw [ho] at hk; cases hk
  · cases h

theorem lop_read (hrel : Rel P H ι w) (hfr : FrR H.D ι N fr a.tmps) (h : lop P T o fr H = some (v, H')) (hk : readB o.op = true) : H' = H ∧ ReadOk P H.D ι o a w v :=
  lop_read' hrel hfr (fun _ _ _ h => h) h hk

theorem lop_ok (hT : TOk P T) (hrel : Rel P H ι w) (hfr : FrR H.D ι N fr a.tmps) (h : lop P T o fr H = some (v, H')) : OpOk P H ι o a w v H' := by
  cases hk : readB o.op
  case true =>
    obtain ⟨rfl, hr⟩ := lop_read hrel hfr h hk
    exact hr.opok hrel
  unfold lop at h
  split at h <;> try (rename_i ho; rw [ho] at hk; cases hk; done)
  · rename_i e x ho
    split at h
    · rename_i hc
      simp only [Option.some.injEq, Prod.mk.injEq] at h; obtain ⟨rfl, rfl⟩ := h
      simp only [Bool.and_eq_true, beq_iff_eq] at hc
      exact box_ok hrel hfr ho hc.1 hc.2
    · cases h
  · rename_i e ho
    split at h
    · rename_i z hz
      split at h
      · rename_i hc
        simp only [Option.some.injEq, Prod.mk.injEq] at h; obtain ⟨rfl, rfl⟩ := h
        simp only [Bool.and_eq_true, beq_iff_eq] at hc
        exact alloc_ok hrel ho hz hc.1 hc.2
      · cases h
    · cases h
  · rename_i t x y ho
    split at h
    · rename_i hx
      simp only [Option.map_eq_some_iff, Prod.mk.injEq] at h
      obtain ⟨u, hu, rfl, rfl⟩ := h
      exact store_ok hrel hfr ho hx hu
    · cases h
  · rename_i t len parts ho
    exact buildSlice_ok hrel hfr ho h
  · rename_i t x y ho
    exact make_ok hrel hfr ho h
  · rename_i c ho
    split at h
    · exact call_ok hT hrel hfr ho ‹_› h
    · exact builtin_ok hrel hfr ho ‹_› h
    · cases h
  · cases h

theorem lops_ok (hT : TOk P T) {all : Array Oper} : ∀ (os : List Oper) (fr : Fr) (H : LH) (ι : Ren) (a : Act) (w : World), lops P T N all os fr H = some (fr', H') → Rel P H ι w → FrR H.D ι N fr a.tmps →
    ∀ Q : Exit → Act → World → Prop, (∀ ι' a' w', Out P H ι w H' ι' w' → FrR H'.D ι' N fr' a'.tmps → a'.defers = a.defers → Q .normal a' w') → wpList P all Q os a w
  | [], fr, H, ι, a, w, h, hrel, hfr, Q, hQ => by
    simp only [lops, Option.some.injEq, Prod.mk.injEq] at h
    obtain ⟨rfl, rfl⟩ := h
    exact hQ ι a w (Out.refl hrel) hfr rfl
  | o :: os, fr, H, ι, a, w, h, hrel, hfr, Q, hQ => by
    unfold lops at h
    unfold wpList
    split at h
    · rename_i hw
      rw [if_pos (want_eq hfr hw)]
      left
      split at h
      · rename_i v H1 hop
        split at h
        · rename_i fr1 hput
          refine lop_ok hT hrel hfr hop _ _ (fun ι' v' w' hout hvr => ?_)
          refine lops_ok hT os fr1 H1 ι' _ w' h hout.rel ((hfr.mono hout.sub hout.same).put hput hvr) Q (fun ι2 a2 w2 ho2 hf2 hd2 => ?_)
          exact hQ ι2 a2 w2 (hout.trans ho2) hf2 (by rw [hd2, put_defers])
        · cases h
      · cases h
    · rename_i hw
      rw [if_neg (by rw [want_eq hfr hw]; simp)]
      split at h
      · rename_i fr1 hput
        exact lops_ok hT os fr1 H ι _ w h hrel (hfr.undef _ _ hput) Q (fun ι2 a2 w2 ho2 hf2 hd2 => hQ ι2 a2 w2 ho2 hf2 (by rw [hd2, put_defers]))
      · cases h
    · cases h

theorem rel_change (h : Rel P H ι w) {w' : World} (hc : Change (fun _ => False) w w') : Rel P H ι w' := by
  refine ⟨h.dom, h.hol, fun l b hb => ?_, h.sep, pin_step h (hc.mono fun _ _ hf => hf.elim) (fun _ hk => .inl hk) rfl rfl⟩
  obtain ⟨arr, t, f, hw, h1, h2, h3⟩ := h.blk l b hb
  exact ⟨arr, t, f, by rw [hc.block _ (lt_of_block hw) (fun h => h)]; exact hw, h1, h2, h3⟩
theorem rw_ro {k : Nat} (h : RW H.ro ι k) : False := by
  obtain ⟨l, b, hb, hrw, _⟩ := h
  obtain ⟨c, hc, rfl⟩ := Option.map_eq_some_iff.1 hb
  cases hrw
theorem rel_ro (h : Rel P H ι w) : Rel P H.ro ι w := by
  refine ⟨fun l hl => ?_, fun l hl => ⟨(h.hol l hl).1, ?_⟩, fun l b hb => ?_, fun l l' b b' h1 h2 h3 => ?_, pin_step h (Change.refl _ _) (fun k hk => (rw_ro hk).elim) rfl rfl⟩
  · show (H.get l).map _ = none
    rw [h.dom l hl]; rfl
  · show (H.get l).map _ = none
    rw [(h.hol l hl).2]; rfl
  · obtain ⟨c, hc, rfl⟩ := Option.map_eq_some_iff.1 hb
    obtain ⟨arr, t, f, hw, g1, g2, g3⟩ := h.blk l c hc
    exact ⟨arr, t, f, hw, g1, g2, fun h => by cases h⟩
  · obtain ⟨c, hc, rfl⟩ := Option.map_eq_some_iff.1 h1
    cases h3
theorem builtin_read (hrel : Rel P H ι w) {b : Builtin} {ats : List TypeId} {args : List Value} {args' : Array Value} {ty : TypeId} {cs : Array Bool} (hl : args.length = args'.size) (hb : b ≠ .append)
    (hv : ∀ (i : Nat) (x y : Value), args[i]? = some x → args'[i]? = some y → VR H.D ι x y) (h : lbuiltin P b ats args H = some (v, H')) :
    ∃ v', VR H.D ι v v' ∧ ∀ w : World, (builtin b ats.toArray ty cs args').run P w = .ok (.value v') w := by
  unfold lbuiltin at h
  split at h
  · rename_i t x
    obtain ⟨y, rfl⟩ : ∃ y, args' = #[y] := by
      obtain ⟨l⟩ := args'
      match l, hl with
      | [y], _ => exact ⟨y, rfl⟩
    have hxy := hv 0 x y rfl rfl
    split at h
    · rename_i s hu
      simp only [Option.some.injEq, Prod.mk.injEq] at h
      obtain ⟨rfl, rfl⟩ := h
      have := flat_eq hxy rfl
      subst this
      exact ⟨_, .flat _ rfl, fun w => by simp [builtin, Builtin.len_, Sem.run_bind, run_underlying hu, goInt]⟩
    · rename_i b' n c hu
      simp only [Option.some.injEq, Prod.mk.injEq] at h
      obtain ⟨rfl, rfl⟩ := h
      obtain ⟨b2, c2, rfl, _⟩ := vr_slice hxy
      exact ⟨_, .flat _ rfl, fun w => by simp [builtin, Builtin.len_, Sem.run_bind, run_underlying hu, goInt]⟩
    · cases h
  · exact absurd rfl hb
  · rename_i k x k' y
    simp only [Option.some.injEq, Prod.mk.injEq] at h
    obtain ⟨rfl, rfl⟩ := h
    obtain ⟨x', y', rfl⟩ : ∃ x' y', args' = #[x', y'] := by
      obtain ⟨l⟩ := args'
      match l, hl with
      | [y, z], _ => exact ⟨y, z, rfl⟩
    have e1 := flat_eq (hv 0 _ x' rfl rfl) rfl
    have e2 := flat_eq (hv 1 _ y' rfl rfl) rfl
    subst e1 e2
    exact ⟨_, .flat _ rfl, fun w => by simp [builtin, Builtin.min_, Builtin.min2, Sem.run_bind]⟩
  · rename_i k x k' y
    simp only [Option.some.injEq, Prod.mk.injEq] at h
    obtain ⟨rfl, rfl⟩ := h
    obtain ⟨x', y', rfl⟩ : ∃ x' y', args' = #[x', y'] := by
      obtain ⟨l⟩ := args'
      match l, hl with
      | [y, z], _ => exact ⟨y, z, rfl⟩
    have e1 := flat_eq (hv 0 _ x' rfl rfl) rfl
    have e2 := flat_eq (hv 1 _ y' rfl rfl) rfl
    subst e1 e2
    exact ⟨_, .flat _ rfl, fun w => by simp [builtin, Builtin.max_, Builtin.max2, Sem.run_bind]⟩
  · cases h
/-- an operation of a region whose order is open -/
theorem quiet_ok (hT : TOk P T) (hrel : Rel P H ι w) (hfr : FrR H.D ι N fr a.tmps) (h : lquiet P T o fr H = some v) :
    ∃ v', VR H.D ι v v' ∧ ∀ w1, Change (fun _ => False) w w1 → o.quietAt P a (fun w' => Change (fun _ => False) w w') w1 v' := by
  have ofRead : ReadOk P H.D ι o a w v → ∃ v', VR H.D ι v v' ∧ ∀ w1, Change (fun _ => False) w w1 → o.quietAt P a (fun w' => Change (fun _ => False) w w') w1 v' := by
    rintro ⟨v', hv, hr⟩
    refine ⟨v', hv, fun w1 h1 => ?_⟩
    unfold Oper.quietAt
    rw [hr w1 h1]
    exact ⟨rfl, rfl⟩
  unfold lquiet at h
  split at h
  · cases h
  · cases h
  · cases h
  · cases h
  · cases h
  · rename_i c ho
    split at h
    · rename_i f hc
      split at h
      · rename_i u H1 hcal
        split at h
        · rename_i hflat
          injection h with h
          subst h
          unfold lcallee at hcal
          split at hcal
          · rename_i g first captured hf
            split at hcal
            · rename_i h0
              obtain ⟨hg, hcall⟩ := hT _ _ _ _ _ hcal
              refine ⟨u, .flat _ hflat, fun w1 hw1 => ?_⟩
              obtain ⟨cap', hr, k1, k2⟩ := callee_run (w := w1) hfr ho hc hf h0 hg
              obtain ⟨h1, h2⟩ := args_rel hfr c.args
              obtain ⟨m1, m2⟩ := app_rel (ys := captured.toList) h1 (by rw [Array.length_toList]; exact k1) h2 (fun i x y hx hy => k2 i x y (by simpa using hx) hy)
              unfold Oper.quietAt
              rw [hr]
              refine ⟨rfl, (hcall ι w1 _ (rel_ro (rel_change hrel hw1)) m1 m2).mono ?_⟩
              rintro e w' ⟨ι', v', rfl, hout, hvr⟩
              rw [flat_eq hvr hflat]
              exact ⟨rfl, hw1.trans hout.chg (fun i hi => (rw_ro hi).elim)⟩
            · cases hcal
          · cases hcal
        · cases h
      · cases h
    · cases h
    · rename_i b hne hc
      obtain ⟨⟨u, H1⟩, hu, e⟩ := Option.map_eq_some_iff.1 h
      simp only at e
      subst e
      obtain ⟨h1, h2⟩ := args_rel hfr c.args
      obtain ⟨v', hv, hr⟩ := builtin_read (ty := o.type) (cs := c.args.map fun | .const _ => true | _ => false) hrel h1 (fun e => hne e) h2 hu
      refine ofRead ⟨v', hv, fun w' _ => ?_⟩
      unfold execOp
      simp only [ho, resolve, hc, Sem.run_bind, Sem.run_pure, Result.andThen_ok, invoke]
      exact hr w'
    · cases h
  · rename_i h1 h2 h3 h4 h5
    obtain ⟨⟨u, H1⟩, hu, e⟩ := Option.map_eq_some_iff.1 h
    simp only at e
    subst e
    have hk : readB o.op = true := by
      unfold readB
      split <;> first | rfl | (exfalso; simp_all)
    exact ofRead (lop_read hrel hfr hu hk).2
theorem quiets_ok (hT : TOk P T) {all : Array Oper} (hrel : Rel P H ι w) : ∀ (os : List Oper) (fr : Fr) (a : Act), lquiets P T N all H os fr = some fr' → FrR H.D ι N fr a.tmps →
    ∀ Q : Act → Prop, (∀ a', FrR H.D ι N fr' a'.tmps → a'.defers = a.defers → Q a') → wpQuiet P all (fun w' => Change (fun _ => False) w w') Q os a
  | [], fr, a, h, hfr, Q, hQ => by
    simp only [lquiets, Option.some.injEq] at h
    subst h
    exact hQ a hfr rfl
  | o :: os, fr, a, h, hfr, Q, hQ => by
    unfold lquiets at h
    unfold wpQuiet
    split at h
    · rename_i hw
      rw [if_pos (want_eq hfr hw)]
      split at h
      · rename_i v hop
        split at h
        · rename_i fr1 hput
          obtain ⟨v', hv, hq⟩ := quiet_ok hT hrel hfr hop
          exact ⟨v', hq, quiets_ok hT hrel os fr1 _ h (hfr.put hput hv) Q (fun a' hf hd => hQ a' hf (by rw [hd, put_defers]))⟩
        · cases h
      · cases h
    · rename_i hw
      rw [if_neg (by rw [want_eq hfr hw]; simp)]
      split at h
      · rename_i fr1 hput
        exact quiets_ok hT hrel os fr1 _ h (hfr.undef _ _ hput) Q (fun a' hf hd => hQ a' hf (by rw [hd, put_defers]))
      · cases h
    · cases h
end
end Go.Lg
/-
  A logical run of Go code: regions whose order is open, with operations that allocate: first what may come in any order, then what comes in order.
-/
set_option linter.unusedSimpArgs false
set_option linter.unusedVariables false
namespace Go.Lg
open Go.Tg Go.RowKit

/-! ### all orders, by an invariant -/
section
variable {P : Program} {ops : Array Oper} {md : Region.Mode} {Q : Exit → Act → World → Prop}
theorem countP_lt {p q : Nat → Bool} : ∀ {l : List Nat}, (∀ x ∈ l, p x = true → q x = true) → ∀ {y}, y ∈ l → q y = true → p y = false → l.countP p < l.countP q
  | [], _, y, hy, _, _ => by cases hy
  | a :: l, h, y, hy, h1, h2 => by
    rw [List.countP_cons, List.countP_cons]
    have hle : l.countP p ≤ l.countP q := List.countP_mono_left (fun x hx => h x (List.mem_cons_of_mem _ hx))
    rcases List.mem_cons.1 hy with rfl | hy
    · simp [h1, h2]; omega
    · have h3 := countP_lt (fun x hx => h x (List.mem_cons_of_mem _ hx)) hy h1 h2
      have h4 := h a (List.mem_cons_self ..)
      cases hp : p a <;> cases hq : q a <;> simp_all <;> omega
def undone (ops : Array Oper) (listed : Array Bool) : Nat := (List.range ops.size).countP fun i => !listed.getD i true
theorem getD_set_self {listed : Array Bool} {i : Nat} : (listed.setIfInBounds i true).getD i true = true := by
  rcases Nat.lt_or_ge i listed.size with h | h
  · simp [h]
  · simp [Array.getElem?_eq_none h]
theorem undone_set {listed : Array Bool} {i : Nat} (hi : i < ops.size) (h : listed.getD i true = false) : undone ops (listed.setIfInBounds i true) < undone ops listed := by
  refine countP_lt (fun x _ hx => ?_) (List.mem_range.2 hi) (by rw [h]; rfl) (by rw [getD_set_self]; rfl)
  by_cases e : i = x
  · subst e; rw [h]; rfl
  · rw [getD_set_ne true e] at hx; exact hx
theorem ready_lt {listed : Array Bool} {i : Nat} (h : i ∈ Region.ready md ops listed) : i < ops.size ∧ listed.getD i true = false := by
  obtain ⟨h1, o, ho, _⟩ := mem_ready.1 h
  exact ⟨(Array.getElem?_eq_some_iff.1 ho).1, h1⟩
theorem wpAny_inv {Inv : Array Bool → Act → World → Prop} (hstep : ∀ listed a w, Inv listed a w → ∀ i ∈ Region.ready md ops listed, wpOp P ops Q i (Inv (listed.setIfInBounds i true)) a w)
    (hdone : ∀ listed a w, Inv listed a w → Region.ready md ops listed = [] → Q .normal a w) : ∀ (fuel : Nat) (listed : Array Bool) (a : Act) (w : World), undone ops listed ≤ fuel → Inv listed a w → wpAny P md ops Q fuel listed a w
  | 0, listed, a, w, hu, h => by
    have hr : Region.ready md ops listed = [] := by
      rw [List.eq_nil_iff_forall_not_mem]
      intro i hi
      obtain ⟨h1, h2⟩ := ready_lt hi
      have := undone_set h1 h2
      omega
    exact ⟨hr, hdone _ _ _ h hr⟩
  | fuel + 1, listed, a, w, hu, h => ⟨hdone listed a w h, fun i hi => wpOp_mono (fun a' w' h' => wpAny_inv hstep hdone fuel _ a' w' (by
      obtain ⟨h1, h2⟩ := ready_lt hi
      have := undone_set h1 h2
      omega) h') (hstep listed a w h i hi)⟩
end

/-! ### frames that agree on what an operation looks at -/
section
variable {P : Program} {T : Callee} {fr fr' : Fr} {H H' H1 : LH} {o : Oper} {v : Value}
theorem lbound_congr {d : Nat} {x : Option Operand} (h : ∀ y, x = some y → ev fr y = ev fr' y) : lbound fr d x = lbound fr' d x := by
  cases x with
  | none => rfl
  | some y => unfold lbound; simp only [h y rfl]
theorem lop_congr (h : ∀ x ∈ o.op.operands, ev fr x = ev fr' x) : lop P T o fr H = lop P T o fr' H := by
  obtain ⟨dst, op, ty, pos, after, guard⟩ := o
  have pairs : ∀ ps : Array (Nat × Operand), (∀ x ∈ ps.toList.map (·.2), ev fr x = ev fr' x) → ps.toList.map (fun p => (p.1, ev fr p.2)) = ps.toList.map (fun p => (p.1, ev fr' p.2)) := fun ps hp =>
    List.map_congr_left (fun p hm => by rw [hp p.2 (List.mem_map.2 ⟨p, hm, rfl⟩)])
  cases op <;> simp only [Op.operands] at h
  case move x => simp only [lop]; rw [h x (by simp)]
  case assign x => simp only [lop]; rw [h x (by simp)]
  case pick c x y => simp only [lop]; rw [h x (by simp), h y (by simp), h c (by simp)]
  case box e x => simp only [lop]; rw [h x (by simp)]
  case load t x => simp only [lop]; rw [h x (by simp)]
  case store t x y => simp only [lop]; rw [h x (by simp), h y (by simp)]
  case nilCheck x => simp only [lop]; rw [h x (by simp)]
  case fieldAddr t x f => simp only [lop]; rw [h x (by simp)]
  case field t x f => simp only [lop]; rw [h x (by simp)]
  case indexAddr t x y => simp only [lop]; rw [h x (by simp), h y (by simp)]
  case index t x y => simp only [lop]; rw [h x (by simp), h y (by simp)]
  case binOp op t x y yt => simp only [lop]; rw [h x (by simp), h y (by simp)]
  case unOp op t x => simp only [lop]; rw [h x (by simp)]
  case convert s d x => simp only [lop]; rw [h x (by simp)]
  case extract x i => simp only [lop]; rw [h x (by simp)]
  case build t ps => simp only [lop]; rw [pairs ps (by simpa using h)]
  case buildSlice t n ps => simp only [lop]; rw [pairs ps (by simpa using h)]
  case makeSlice t x y => simp only [lop]; rw [h x (by simp), h y (by simp)]
  case slice t x lo hi mx =>
    cases mx with
    | some m => rfl
    | none =>
      simp only [lop]
      have e1 := h x (by simp)
      have e2 : ∀ d, lbound fr d lo = lbound fr' d lo := fun d => lbound_congr (fun y hy => h y (by simp [hy]))
      have e3 : ∀ d, lbound fr d hi = lbound fr' d hi := fun d => lbound_congr (fun y hy => h y (by simp [hy]))
      unfold lslice
      simp only [e1, e2, e3]
  case makeFunc f first captured =>
    cases f with
    | func g =>
      simp only [lop]
      rw [Array.map_congr_left (fun x hx => h x (by simp [hx]))]
    | _ => rfl
  case call c =>
    obtain ⟨callee, args, ts⟩ := c
    have e : args.toList.map (ev fr) = args.toList.map (ev fr') := List.map_congr_left (fun x hx => h x (by simp [Call.operands]; exact .inr (by simpa using hx)))
    cases callee with
    | value f => simp only [lop]; rw [e, h f (by simp [Call.operands])]
    | builtin b => simp only [lop]; rw [e]
    | invoke x y => rfl
  all_goals rfl
theorem lquiet_congr (h : ∀ x ∈ o.op.operands, ev fr x = ev fr' x) : lquiet P T o fr H = lquiet P T o fr' H := by
  have h0 := lop_congr (P := P) (T := T) (H := H) h
  obtain ⟨dst, op, ty, pos, after, guard⟩ := o
  cases op with
  | call c =>
    obtain ⟨callee, args, ts⟩ := c
    simp only [Op.operands] at h
    have e : args.toList.map (ev fr) = args.toList.map (ev fr') := List.map_congr_left (fun x hx => h x (by simp [Call.operands]; exact .inr (by simpa using hx)))
    cases callee with
    | value f => simp only [lquiet]; rw [e, h f (by simp [Call.operands])]
    | builtin b => cases b <;> simp only [lquiet] <;> rw [e]
    | invoke x y => rfl
  | store _ _ _ => rfl
  | box _ _ => rfl
  | alloc _ => rfl
  | buildSlice _ _ _ => rfl
  | makeSlice _ _ _ => rfl
  | _ => simp only [lquiet]; rw [h0]
theorem lquiet_read (h : lop P T o fr H = some (v, H')) (hk : readB o.op = true) : lquiet P T o fr H = some v := by
  obtain ⟨dst, op, ty, pos, after, guard⟩ := o
  cases op with
  | call c => simp [readB] at hk
  | store _ _ _ => simp [readB] at hk
  | box _ _ => simp [readB] at hk
  | alloc _ => simp [readB] at hk
  | buildSlice _ _ _ => simp [readB] at hk
  | makeSlice _ _ _ => simp [readB] at hk
  | _ => simp only [lquiet]; rw [h]; rfl
theorem lbuiltin_any {b : Builtin} {ts : List TypeId} {args : List Value} (hb : b ≠ .append) (h : lbuiltin P b ts args H = some (v, H')) : H' = H ∧ lbuiltin P b ts args H1 = some (v, H1) := by
  unfold lbuiltin at h ⊢
  split at h
  · split at h
    · rename_i hu
      simp only [Option.some.injEq, Prod.mk.injEq] at h
      obtain ⟨rfl, rfl⟩ := h
      simp only [hu]; exact ⟨trivial, trivial⟩
    · rename_i hu
      simp only [Option.some.injEq, Prod.mk.injEq] at h
      obtain ⟨rfl, rfl⟩ := h
      simp only [hu]; exact ⟨trivial, trivial⟩
    · cases h
  · exact absurd rfl hb
  · simp only [Option.some.injEq, Prod.mk.injEq] at h
    obtain ⟨rfl, rfl⟩ := h
    exact ⟨rfl, rfl⟩
  · simp only [Option.some.injEq, Prod.mk.injEq] at h
    obtain ⟨rfl, rfl⟩ := h
    exact ⟨rfl, rfl⟩
  · cases h
end

/-! ### operations that make a block -/
def allocB : Op → Bool
  | .box _ _ | .alloc _ | .buildSlice _ _ _ => true
  | _ => false
section
variable {P : Program} {T : Callee} {N : Nat} {fr : Fr} {HS H H' : LH} {o : Oper} {a : Act} {v : Value} {ι : Ren}
theorem one_row {m n : Nat} (h0 : m ≠ 0) (h : m = n * m) : n + 0 ≤ maxLen := by
  have : n = 1 := by
    rcases Nat.eq_zero_or_pos n with h1 | h1
    · subst h1; omega
    · rcases Nat.lt_or_ge 1 n with h2 | h2
      · have := Nat.mul_le_mul_right m h2
        omega
      · omega
  subst this; simp [maxLen]
theorem alloc_at (hfr : FrR HS.D ι N fr a.tmps) (h : lop P T o fr H = some (v, H')) (hk : allocB o.op = true) : ∃ b arr s, H' = H.new b ∧ b.rw = true ∧ sz P b.elem = some s ∧ arr.size = b.cells.length + 0 * s ∧ (∀ n, s ≠ 0 → b.cells.length = n * s → n + 0 ≤ maxLen) ∧
    (∀ (i : Nat) x, b.cells[i]? = some x → ∃ y, arr[i]? = some y ∧ VR HS.D ι x y) ∧ ∀ w : World, ∃ v', (execOp a.eval o).run P w = .ok (.value v') (w.alloc (.cells arr b.elem)) ∧ ∀ (D' : Nat → Prop) (ι' : Ren), D' H.n → ι' H.n = ⟨w.heap.size, 0, 0⟩ → VR D' ι' v v' := by
  unfold lop at h
  split at h <;> try (rename_i ho; rw [ho] at hk; cases hk; done)
  · rename_i e x ho
    split at h
    · rename_i hc
      simp only [Option.some.injEq, Prod.mk.injEq] at h; obtain ⟨rfl, rfl⟩ := h
      simp only [Bool.and_eq_true, beq_iff_eq] at hc
      obtain ⟨k1, k2⟩ := vr_cells (hfr.ev x) hc.1
      refine ⟨_, (a.eval x).cells, _, rfl, rfl, hc.2, by simp [k1], fun n h0 h1 => one_row h0 (by simpa using h1), fun i y hy => ?_, fun w => ⟨.pointer (some ⟨w.heap.size, 0, none⟩), ?_, fun D' ι' h1 h2 => ?_⟩⟩
      · have hy' : (ev fr x).cells[i]? = some y := by simpa using hy
        have hlt : i < (a.eval x).cells.size := by rw [← k1]; exact (Array.getElem?_eq_some_iff.1 hy').1
        exact ⟨_, Array.getElem?_eq_getElem hlt, k2 i _ _ hy' (Array.getElem?_eq_getElem hlt)⟩
      · unfold execOp; simp only [ho, Instr.box, newVar, newRow, newObj, Sem.run_bind, Sem.run_pure, Result.andThen_ok]; rfl
      · have := VR.ptr (n := D') (ι := ι') H.n 0 h1
        simpa [h2] using this
    · cases h
  · rename_i e ho
    split at h
    · rename_i z hz
      split at h
      · rename_i hc
        simp only [Option.some.injEq, Prod.mk.injEq] at h; obtain ⟨rfl, rfl⟩ := h
        simp only [Bool.and_eq_true, beq_iff_eq] at hc
        refine ⟨_, z.cells, _, rfl, rfl, hc.2, by simp, fun n h0 h1 => one_row h0 (by simpa using h1), fun i y hy => ?_, fun w => ⟨.pointer (some ⟨w.heap.size, 0, none⟩), ?_, fun D' ι' h1 h2 => ?_⟩⟩
        · have hy' : z.cells[i]? = some y := by simpa using hy
          exact ⟨y, hy', flat_cells hc.1 _ _ (flat_known hc.1) hy'⟩
        · unfold execOp; simp only [ho, Instr.alloc, Sem.run_bind, run_zero hz, newVar, newRow, newObj, Sem.run_pure, Result.andThen_ok]; rfl
        · have := VR.ptr (n := D') (ι := ι') H.n 0 h1
          simpa [h2] using this
      · cases h
    · cases h
  · rename_i t len parts ho
    unfold lbuildSlice at h
    split at h
    · rename_i e hu
      split at h
      · rename_i s z hs hz
        split at h
        · rename_i hc
          simp only [Bool.and_eq_true, decide_eq_true_eq, beq_iff_eq] at hc
          obtain ⟨⟨⟨⟨hf, hs0⟩, hlen⟩, hzs⟩, hk⟩ := hc
          split at h
          · rename_i cs hcs
            split at h
            · rename_i hsize
              simp only [Option.some.injEq, Prod.mk.injEq] at h
              obtain ⟨rfl, rfl⟩ := h
              have hz0 : ∀ (i : Nat) (x y : Value), ((Array.range (len * s)).map fun j => z.cells[j % z.cells.size]!)[i]? = some x → ((Array.range (len * s)).map fun j => z.cells[j % z.cells.size]!)[i]? = some y → VR HS.D ι x y := by
                intro i x y hx hy
                rw [hx] at hy; injection hy with hy; rw [← hy]
                rw [Array.getElem?_map] at hx
                cases hr : (Array.range (len * s))[i]? with
                | none => simp [hr] at hx
                | some j =>
                  simp only [hr, Option.map_some, Option.some.injEq] at hx
                  have hm : j % z.cells.size < z.cells.size := Nat.mod_lt _ (by omega)
                  rw [getElem!_pos z.cells _ hm] at hx
                  exact flat_cells hf _ _ (flat_known hf) (i := j % z.cells.size) (by rw [Array.getElem?_eq_getElem hm, hx])
              obtain ⟨ds, hds, hr⟩ := fill_rel (ι := ι) (n := HS.D) _ (parts.map fun (i, x) => (i, a.eval x)).toList _ _ cs (by simp) (parts_rel hfr hk) ⟨rfl, hz0⟩ hcs
              refine ⟨_, ds, _, rfl, rfl, hs, by simp [hr.1], fun n h0 h1 => ?_, fun i x hx => ?_, fun w => ⟨.slice (some ⟨w.heap.size, 0, none⟩) len len, ?_, fun D' ι' h1 h2 => ?_⟩⟩
              · have h1' : len * s = n * s := by rw [← hsize]; simpa using h1
                have : len = n := Nat.eq_of_mul_eq_mul_right hs0 h1'
                have hle : len * 1 ≤ len * s := Nat.mul_le_mul_left _ hs0
                simp only [maxLen]; omega
              · have hx' : cs[i]? = some x := by simpa using hx
                have hlt : i < ds.size := by rw [← hr.1]; exact (Array.getElem?_eq_some_iff.1 hx').1
                exact ⟨_, Array.getElem?_eq_getElem hlt, hr.2 i _ _ hx' (Array.getElem?_eq_getElem hlt)⟩
              · unfold execOp
                simp only [ho, Instr.buildSlice, Sem.run_bind, run_underlying hu, Result.andThen_ok, run_sizeOf' hs]
                rw [if_neg (by omega)]
                by_cases h0 : len * s = 0
                · have : ((Array.range (len * s)).map fun j => z.cells[j % z.cells.size]!) = ((Array.range (len * s)).map fun j => (#[] : Array Value)[j % (#[] : Array Value).size]!) := by rw [h0]; simp
                  rw [this] at hds
                  simp only [h0, if_true, Sem.run_bind, Sem.run_pure, Result.andThen_ok] at hds ⊢
                  rw [hds]
                  simp only [newRow, newObj, Sem.run_bind, Result.andThen_ok, Sem.run_pure]; rfl
                · simp only [if_neg h0, Sem.run_bind, run_zero hz, Sem.run_pure, Result.andThen_ok]
                  rw [hds]
                  simp only [newRow, newObj, Sem.run_bind, Result.andThen_ok, Sem.run_pure]; rfl
              · have := VR.slice (n := D') (ι := ι') H.n 0 len len h1 (Nat.le_refl _)
                simpa [h2] using this
            · cases h
          · cases h
        · cases h
      · cases h
    · cases h
  · cases h
end

/-! ### one step of the text's order -/
section
variable {P : Program} {L : Loud} {T : Callee} {N : Nat} {ops : Array Oper} {H0 H H' : LH} {fr fr' : Fr} {o : Oper} {v : Value} {r : Fr × LH}
def StepAt (P : Program) (T : Callee) (N : Nat) (ops : Array Oper) (H0 : LH) (o : Oper) (x y : Fr × LH) : Prop :=
  ∃ d v b, o.dst = some d ∧ d < N ∧ lwant ops x.1 o = some b ∧ (if b = true then lmixop P T o x.1 H0 x.2 = some (v, y.2) else v = undef ∧ y.2 = x.2) ∧ y.1 = upd x.1 d v
theorem trace_of : ∀ (os : List Oper) (fr : Fr) (H : LH), lmix P L T N ops H0 os fr H = some r → ∃ st : Nat → Fr × LH, st 0 = (fr, H) ∧ (∀ i o, i < headN L os → os[i]? = some o → StepAt P T N ops H0 o (st i) (st (i + 1))) ∧
    lops P T N ops (os.drop (headN L os)) (st (headN L os)).1 (st (headN L os)).2 = some r
  | [], fr, H, h => ⟨fun _ => (fr, H), rfl, (fun i o hi => by simp [headN] at hi), by simpa [lmix, lops] using h⟩
  | o :: os, fr, H, h => by
    unfold lmix at h
    split at h
    · rename_i hl
      exact ⟨fun _ => (fr, H), rfl, (fun i o hi => by simp [headN, hl] at hi), by simpa [headN, hl] using h⟩
    · rename_i hl
      split at h
      · cases h
      · rename_i d hd
        split at h
        · rename_i hdN
          have go : ∀ (v : Value) (H1 : LH) (b : Bool), lwant ops fr o = some b → (if b = true then lmixop P T o fr H0 H = some (v, H1) else v = undef ∧ H1 = H) → lmix P L T N ops H0 os (upd fr d v) H1 = some r → ∃ st : Nat → Fr × LH, st 0 = (fr, H) ∧ (∀ i o', i < headN L (o :: os) → (o :: os)[i]? = some o' → StepAt P T N ops H0 o' (st i) (st (i + 1))) ∧
              lops P T N ops ((o :: os).drop (headN L (o :: os))) (st (headN L (o :: os))).1 (st (headN L (o :: os))).2 = some r := by
            intro v H1 b hb hv hr
            obtain ⟨st, h0, hs, hf⟩ := trace_of os (upd fr d v) H1 hr
            have hn : headN L (o :: os) = headN L os + 1 := by simp [headN, hl]
            refine ⟨fun i => match i with | 0 => (fr, H) | i + 1 => st i, rfl, fun i o' hi ho => ?_, by rw [hn]; exact hf⟩
            cases i with
            | zero =>
              simp only [List.getElem?_cons_zero, Option.some.injEq] at ho
              subst ho
              refine ⟨d, v, b, hd, hdN, hb, ?_, ?_⟩
              · show (if b = true then lmixop P T o fr H0 H = some (v, (st 0).2) else v = undef ∧ (st 0).2 = H)
                rw [h0]; exact hv
              · show (st 0).1 = _
                rw [h0]
            | succ i => exact hs i o' (by omega) (by simpa using ho)
          split at h
          · rename_i hw
            split at h
            · rename_i v H1 hop
              exact go v H1 true hw (by rw [if_pos rfl]; exact hop) h
            · cases h
          · rename_i hw
            exact go undef H false hw (by rw [if_neg (by simp)]; exact ⟨rfl, rfl⟩) h
          · cases h
        · cases h
theorem lop_readH (h : lop P T o fr H = some (v, H')) (hk : readB o.op = true) : H' = H := by
  unfold lop at h
  split at h <;> (try (rename_i ho; rw [ho] at hk; cases hk; done)) <;> (repeat' split at h) <;> (first | (cases h; done) | (simp only [Option.some.injEq, Prod.mk.injEq] at h; exact h.2.symm) | (simp only [Option.map_eq_some_iff, Prod.mk.injEq] at h; obtain ⟨_, _, _, e⟩ := h; exact e.symm))
/-- what such an operation may be -/
theorem lmixop_cases (h : lmixop P T o fr H0 H = some (v, H')) :
    (H' = H ∧ readB o.op = true ∧ lop P T o fr H = some (v, H)) ∨ (H' = H ∧ (H.n = H0.n ∨ ∃ c f, o.op = .call c ∧ c.callee = .value f ∧ flatB (ev fr f) = true ∧ (c.args.toList.map (ev fr)).all flatB = true) ∧ lquiet P T o fr H0 = some v) ∨
    (H' = H ∧ ∃ c b, o.op = .call c ∧ c.callee = .builtin b ∧ b ≠ .append ∧ ∃ H1, lbuiltin P b c.argTypes.toList (c.args.toList.map (ev fr)) H = some (v, H1)) ∨
    (allocB o.op = true ∧ lop P T o fr H = some (v, H')) := by
  obtain ⟨dst, op, ty, pos, after, guard⟩ := o
  cases op with
  | store _ _ _ => simp [lmixop] at h
  | call c =>
    simp only [lmixop] at h
    cases hc : c.callee with
    | value f =>
      simp only [hc] at h
      split at h
      · rename_i hcond
        obtain ⟨u, hu, e⟩ := Option.map_eq_some_iff.1 h
        simp only [Prod.mk.injEq] at e
        obtain ⟨rfl, rfl⟩ := e
        refine .inr (.inl ⟨rfl, ?_, hu⟩)
        simp only [Bool.or_eq_true, beq_iff_eq, Bool.and_eq_true] at hcond
        rcases hcond with h1 | h1
        · exact .inl h1
        · exact .inr ⟨c, f, rfl, hc, h1.1, h1.2⟩
      · cases h
    | builtin b =>
      simp only [hc] at h
      have key : b ≠ .append → (lbuiltin P b c.argTypes.toList (c.args.toList.map (ev fr)) H).map (fun r => (r.1, H)) = some (v, H') → (H' = H ∧ ∃ c' b', Op.call c = .call c' ∧ c'.callee = .builtin b' ∧ b' ≠ .append ∧ ∃ H1, lbuiltin P b' c'.argTypes.toList (c'.args.toList.map (ev fr)) H = some (v, H1)) := by
        intro hb hm
        obtain ⟨⟨u, H1⟩, hu, e⟩ := Option.map_eq_some_iff.1 hm
        simp only [Prod.mk.injEq] at e
        obtain ⟨rfl, rfl⟩ := e
        exact ⟨rfl, c, b, rfl, hc, hb, H1, hu⟩
      cases b <;> first | (exact .inr (.inr (.inl (key (by simp) h)))) | cases h
    | invoke x y => simp [hc] at h
  | box _ _ => exact .inr (.inr (.inr ⟨rfl, h⟩))
  | alloc _ => exact .inr (.inr (.inr ⟨rfl, h⟩))
  | buildSlice _ _ _ => exact .inr (.inr (.inr ⟨rfl, h⟩))
  | makeSlice _ _ _ => simp [lmixop] at h
  | _ =>
    simp only [lmixop] at h
    have e := lop_readH h rfl
    subst e
    exact .inl ⟨rfl, rfl, h⟩
end

/-! ### heaps that grow -/
structure Sub (H H' : LH) : Prop where
  n : H.n ≤ H'.n
  get : ∀ l, l < H.n → H'.get l = H.get l
  hole : ∀ l, H'.hole l ↔ H.hole l
  base : H'.base = H.base
  ng : H'.ng = H.ng
  dom : (∀ l, H.n ≤ l → H.get l = none) → ∀ l, H'.n ≤ l → H'.get l = none
theorem Sub.refl (H : LH) : Sub H H := ⟨Nat.le_refl _, fun _ _ => rfl, fun _ => Iff.rfl, rfl, rfl, fun h => h⟩
theorem Sub.trans {H H1 H2 : LH} (h : Sub H H1) (k : Sub H1 H2) : Sub H H2 :=
  ⟨Nat.le_trans h.n k.n, fun l hl => (k.get l (Nat.lt_of_lt_of_le hl h.n)).trans (h.get l hl), fun l => (k.hole l).trans (h.hole l), k.base.trans h.base, k.ng.trans h.ng, fun hd => k.dom (h.dom hd)⟩
theorem Sub.new (H : LH) (b : LB) : Sub H (H.new b) :=
  ⟨Nat.le_succ _, fun l hl => by show (if l = H.n then some b else H.get l) = _; rw [if_neg (by omega)], fun _ => Iff.rfl, rfl, rfl, fun hd l hl => by
    have : H.n + 1 ≤ l := hl
    show (if l = H.n then some b else H.get l) = _
    rw [if_neg (by omega)]; exact hd l (by omega)⟩

open Classical in
/-- a heap without some of its blocks: holes -/
noncomputable def LH.cut (H : LH) (U : Nat → Prop) : LH := ⟨H.n, fun l => if U l then none else H.get l, fun l => H.hole l ∨ (U l ∧ l < H.n), H.base, H.ng⟩
section
variable {P : Program} {H HF : LH} {ι : Ren} {w : World} {U V : Nat → Prop}
theorem cut_D {l : Nat} : (HF.cut U).D l ↔ HF.D l ∧ ¬ U l := by
  show (l < HF.n ∧ ¬ (HF.hole l ∨ (U l ∧ l < HF.n))) ↔ (l < HF.n ∧ ¬ HF.hole l) ∧ ¬ U l
  constructor
  · rintro ⟨h1, h2⟩
    exact ⟨⟨h1, fun h => h2 (.inl h)⟩, fun h => h2 (.inr ⟨h, h1⟩)⟩
  · rintro ⟨⟨h1, h2⟩, h3⟩
    exact ⟨h1, fun h => h.elim h2 (fun h => h3 h.1)⟩
open Classical in
theorem cut_get {l : Nat} : (HF.cut U).get l = if U l then none else HF.get l := rfl
theorem cut_congr (h : ∀ l, l < HF.n → (U l ↔ V l)) (hdom : ∀ l, HF.n ≤ l → HF.get l = none) : HF.cut U = HF.cut V := by
  unfold LH.cut
  congr 1
  · funext l
    rcases Nat.lt_or_ge l HF.n with hl | hl
    · by_cases hv : V l
      · rw [if_pos ((h l hl).2 hv), if_pos hv]
      · rw [if_neg (fun hu => hv ((h l hl).1 hu)), if_neg hv]
    · rw [hdom l hl]; simp
  · funext l
    apply propext
    constructor
    · rintro (h1 | ⟨h1, h2⟩)
      · exact .inl h1
      · exact .inr ⟨(h l h2).1 h1, h2⟩
    · rintro (h1 | ⟨h1, h2⟩)
      · exact .inl h1
      · exact .inr ⟨(h l h2).2 h1, h2⟩
theorem cut_none (h : ∀ l, ¬ U l) : HF.cut U = HF := by
  obtain ⟨n, get, hole, base, ng⟩ := HF
  unfold LH.cut
  congr 1
  · funext l; rw [if_neg (h l)]
  · funext l; apply propext
    exact ⟨fun hx => hx.elim id (fun hx => absurd hx.1 (h l)), .inl⟩
/-- in the beginning: none of the new blocks is there -/
theorem out_cut0 (h : Rel P H ι w) (hs : Sub H HF) : Out P H ι w (HF.cut (fun l => H.n ≤ l)) ι w := by
  have hget : ∀ l, (HF.cut (fun l => H.n ≤ l)).get l = H.get l := fun l => by
    rw [cut_get]
    split
    · exact (h.dom l ‹_›).symm
    · exact hs.get l (by omega)
  have hD : ∀ l, H.D l → (HF.cut (fun l => H.n ≤ l)).D l := fun l hl => cut_D.2 ⟨⟨Nat.lt_of_lt_of_le hl.1 hs.n, fun hx => hl.2 ((hs.hole l).1 hx)⟩, Nat.not_le.2 hl.1⟩
  have hRW : ∀ k, RW (HF.cut (fun l => H.n ≤ l)) ι k → RW H ι k := by
    rintro k ⟨l, b, h1, h2, h3⟩
    rw [hget] at h1
    exact ⟨l, b, h1, h2, h3⟩
  refine ⟨⟨fun l hl => ?_, fun l hl => ?_, fun l b hb' => ?_, fun l l' b b' h1 h2 => ?_, fun g hg' => ?_⟩, hs.n, hD, fun _ _ => rfl, Change.refl _ _, fun k hk => .inl (hRW k hk)⟩
  · rw [hget]; exact h.dom l (Nat.le_trans hs.n hl)
  · rcases hl with hl | ⟨hl, hlt⟩
    · exact ⟨Nat.lt_of_lt_of_le (h.hol l ((hs.hole l).1 hl)).1 hs.n, by rw [hget]; exact (h.hol l ((hs.hole l).1 hl)).2⟩
    · exact ⟨hlt, by rw [hget]; exact h.dom l hl⟩
  · rw [hget] at hb'
    obtain ⟨arr, t, f, hw, g1, g2, g3⟩ := h.blk l b hb'
    exact ⟨arr, t, f, hw, g1, fun i v hv => by
      obtain ⟨v', h1, h2⟩ := g2 i v hv
      exact ⟨v', h1, h2.mono hD (fun _ _ => rfl)⟩, g3⟩
  · rw [hget] at h1 h2
    exact h.sep l l' b b' h1 h2
  · have hg2 : g < H.ng := hs.ng ▸ hg'
    obtain ⟨e1, e2, e3⟩ := h.pin g hg2
    exact ⟨by show w.heap[g]? = HF.base.heap[g]?; rw [hs.base]; exact e1, e2, fun hk => e3 (hRW g hk)⟩
/-- a block is made: one hole less -/
theorem out_cut1 (h : Rel P (HF.cut U) ι w) {k : Nat} {b : LB} {arr : Array Value} {slack s : Nat} (hU : U k) (hb : HF.get k = some b) (hk : k < HF.n) (hnh : ¬ HF.hole k) (hdom : ∀ l, HF.n ≤ l → HF.get l = none) (hhol : ∀ l, HF.hole l → l < HF.n ∧ HF.get l = none) (hrw : b.rw = true) (hs : sz P b.elem = some s) (hsz : arr.size = b.cells.length + slack * s)
    (hm : ∀ n, s ≠ 0 → b.cells.length = n * s → n + slack ≤ maxLen) (hc : ∀ (i : Nat) x, b.cells[i]? = some x → ∃ y, arr[i]? = some y ∧ VR (HF.cut U).D ι x y) :
    Out P (HF.cut U) ι w (HF.cut (fun l => U l ∧ l ≠ k)) (ι.add k ⟨w.heap.size, 0, slack⟩) (w.alloc (.cells arr b.elem)) := by
  refine rel_at h hrw hs hsz hm hc (fun l => ?_) (fun l => ?_) (fun hd => (cut_D.1 hd).2 hU) (fun l hl => ?_) (fun l hl => ?_) (Nat.le_refl _) rfl rfl
  · rw [cut_get, cut_get]
    by_cases e : l = k
    · subst e; simp [hb]
    · rw [if_neg e]
      by_cases hu : U l
      · rw [if_pos ⟨hu, e⟩, if_pos hu]
      · rw [if_neg (fun x => hu x.1), if_neg hu]
  · rw [cut_D, cut_D]
    by_cases e : l = k
    · subst e; simp [LH.D, hk, hnh]
    · simp [e]
  · rw [cut_get, hdom l hl]; simp
  · rcases hl with hl | ⟨hl, hlt⟩
    · exact ⟨(hhol l hl).1, by rw [cut_get, (hhol l hl).2]; simp⟩
    · exact ⟨hlt, by rw [cut_get, if_pos hl]⟩
end
end Go.Lg
/-
  A logical run of Go code: regions whose order is open, with operations that allocate: every order comes to what the text's order comes to.
-/
set_option linter.unusedSimpArgs false
set_option linter.unusedVariables false
namespace Go.Lg
open Go.Tg Go.RowKit

section
variable {P : Program} {L : Loud} {T : Callee} {N n : Nat} {ops : Array Oper} {H0 H H' : LH} {st : Nat → Fr × LH} {fr fr' : Fr} {o : Oper} {v : Value}
def dstOf (ops : Array Oper) (j : Nat) : Option Tmp := (ops[j]?).bind (·.dst)
open Classical in
noncomputable def frS (ops : Array Oper) (n : Nat) (st : Nat → Fr × LH) (listed : Array Bool) : Fr := fun t => if ∃ j, j < n ∧ listed.getD j true = true ∧ dstOf ops j = some t then (st n).1 t else (st 0).1 t
open Classical in
noncomputable def frL (ops : Array Oper) (n : Nat) (st : Nat → Fr × LH) (H0 : LH) (listed : Array Bool) : Fr := fun t => if ∃ j, j < n ∧ listed.getD j true = true ∧ dstOf ops j = some t then (if ∃ j, j < n ∧ dstOf ops j = some t ∧ (st (j + 1)).2.n = H0.n then (st n).1 t else unk) else (st 0).1 t
def Un (n : Nat) (st : Nat → Fr × LH) (listed : Array Bool) (l : Nat) : Prop := ∃ j, j < n ∧ listed.getD j true = false ∧ (st j).2.n ≤ l ∧ l < (st (j + 1)).2.n
structure Tr (P : Program) (T : Callee) (N : Nat) (ops : Array Oper) (n : Nat) (H0 : LH) (st : Nat → Fr × LH) : Prop where
  sz : n ≤ ops.size
  h0 : (st 0).2 = H0
  step : ∀ i o, i < n → ops[i]? = some o → StepAt P T N ops H0 o (st i) (st (i + 1))
  inj : ∀ i k, i < n → k < n → dstOf ops i = dstOf ops k → i = k
  dep : ∀ i o t k, i < n → ops[i]? = some o → t ∈ Oper.looksAt ops o → dstOf ops k = some t → k < i ∧ Region.waitsFor .any ops i k = true
theorem lop_allocH (h : lop P T o fr H = some (v, H')) (hk : allocB o.op = true) : ∃ b, H' = H.new b := by
  unfold lop at h
  split at h <;> try (rename_i ho; rw [ho] at hk; cases hk; done)
  · split at h
    · simp only [Option.some.injEq, Prod.mk.injEq] at h; exact ⟨_, h.2.symm⟩
    · cases h
  · split at h
    · split at h
      · simp only [Option.some.injEq, Prod.mk.injEq] at h; exact ⟨_, h.2.symm⟩
      · cases h
    · cases h
  · unfold lbuildSlice at h
    split at h
    · split at h
      · split at h
        · split at h
          · split at h
            · simp only [Option.some.injEq, Prod.mk.injEq] at h; exact ⟨_, h.2.symm⟩
            · cases h
          · cases h
        · cases h
      · cases h
    · cases h
  · cases h
theorem lmixop_sub (h : lmixop P T o fr H0 H = some (v, H')) : Sub H H' := by
  rcases lmixop_cases h with ⟨rfl, _⟩ | ⟨rfl, _⟩ | ⟨rfl, _⟩ | ⟨h1, h2⟩
  · exact Sub.refl _
  · exact Sub.refl _
  · exact Sub.refl _
  · obtain ⟨b, rfl⟩ := lop_allocH h2 h1
    exact Sub.new _ _
namespace Tr
theorem op (tr : Tr P T N ops n H0 st) {i : Nat} (hi : i < n) : ∃ o, ops[i]? = some o ∧ StepAt P T N ops H0 o (st i) (st (i + 1)) :=
  ⟨_, Array.getElem?_eq_getElem (Nat.lt_of_lt_of_le hi tr.sz), tr.step i _ hi (Array.getElem?_eq_getElem (Nat.lt_of_lt_of_le hi tr.sz))⟩
theorem sub1 (tr : Tr P T N ops n H0 st) {i : Nat} (hi : i < n) : Sub (st i).2 (st (i + 1)).2 := by
  obtain ⟨o, ho, d, v, b, _, _, _, h, _⟩ := tr.op hi
  split at h
  · exact lmixop_sub h
  · rw [h.2]; exact Sub.refl _
theorem sub (tr : Tr P T N ops n H0 st) {i : Nat} : ∀ {j : Nat}, i ≤ j → j ≤ n → Sub (st i).2 (st j).2 := by
  intro j hij hj
  induction j with
  | zero => have : i = 0 := by omega
            subst this; exact Sub.refl _
  | succ j ih =>
    by_cases e : i = j + 1
    · subst e; exact Sub.refl _
    · exact (ih (by omega) (by omega)).trans (tr.sub1 (by omega))
theorem upd (tr : Tr P T N ops n H0 st) {i : Nat} (hi : i < n) : ∃ d v, dstOf ops i = some d ∧ d < N ∧ (st (i + 1)).1 = Lg.upd (st i).1 d v := by
  obtain ⟨o, ho, d, v, b, hd, hN, _, _, h⟩ := tr.op hi
  exact ⟨d, v, by simp [dstOf, ho, hd], hN, h⟩
theorem fdst (tr : Tr P T N ops n H0 st) {j : Nat} {d : Tmp} (hd : dstOf ops j = some d) : ∀ {i : Nat}, j < i → i ≤ n → (st i).1 d = (st (j + 1)).1 d := by
  intro i hji hi
  induction i with
  | zero => omega
  | succ i ih =>
    by_cases e : j = i
    · subst e; rfl
    · obtain ⟨d', v, hd', _, h⟩ := tr.upd (i := i) (by omega)
      rw [h]
      have hne : d ≠ d' := fun hx => e (tr.inj j i (by omega) (by omega) (by rw [hd, hd', hx]))
      show (if d = d' then v else (st i).1 d) = _
      rw [if_neg hne]
      exact ih (by omega) (by omega)
theorem fnone (tr : Tr P T N ops n H0 st) {t : Tmp} : ∀ {i : Nat}, (∀ j, j < i → dstOf ops j ≠ some t) → i ≤ n → (st i).1 t = (st 0).1 t := by
  intro i h hi
  induction i with
  | zero => rfl
  | succ i ih =>
    obtain ⟨d', v, hd', _, hu⟩ := tr.upd (i := i) (by omega)
    rw [hu]
    have hne : t ≠ d' := fun hx => h i (by omega) (by rw [hd', hx])
    show (if t = d' then v else (st i).1 t) = _
    rw [if_neg hne]
    exact ih (fun j hj => h j (by omega)) (by omega)
/-- what an operation that may come now looks at is as in the text's order -/
theorem agree (tr : Tr P T N ops n H0 st) {listed : Array Bool} {i : Nat} {o : Oper} (hi : i < n) (ho : ops[i]? = some o) (hr : ∀ k, Region.waitsFor .any ops i k = true → listed.getD k true = true) {t : Tmp} (ht : t ∈ Oper.looksAt ops o) : frS ops n st listed t = (st i).1 t := by
  unfold frS
  by_cases hex : ∃ k, dstOf ops k = some t
  · obtain ⟨k, hk⟩ := hex
    obtain ⟨h1, h2⟩ := tr.dep i o t k hi ho ht hk
    rw [if_pos ⟨k, by omega, hr k h2, hk⟩, tr.fdst hk (i := n) (by omega) (Nat.le_refl _), tr.fdst hk (i := i) h1 (by omega)]
  · rw [if_neg (fun ⟨j, _, _, hj⟩ => hex ⟨j, hj⟩)]
    exact (tr.fnone (fun j _ hj => hex ⟨j, hj⟩) (by omega)).symm
theorem agreeL (tr : Tr P T N ops n H0 st) {listed : Array Bool} {i : Nat} {o : Oper} (hi : i < n) (ho : ops[i]? = some o) (hr : ∀ k, Region.waitsFor .any ops i k = true → listed.getD k true = true) (hlow : (st i).2.n = H0.n) {t : Tmp} (ht : t ∈ Oper.looksAt ops o) : frL ops n st H0 listed t = (st i).1 t := by
  unfold frL
  by_cases hex : ∃ k, dstOf ops k = some t
  · obtain ⟨k, hk⟩ := hex
    obtain ⟨h1, h2⟩ := tr.dep i o t k hi ho ht hk
    have h3 : (st (k + 1)).2.n = H0.n := by
      have a1 := (tr.sub (i := 0) (j := k + 1) (by omega) (by omega)).n
      have a2 := (tr.sub (i := k + 1) (j := i) (by omega) (by omega)).n
      rw [tr.h0] at a1
      omega
    rw [if_pos ⟨k, by omega, hr k h2, hk⟩, if_pos ⟨k, by omega, hk, h3⟩, tr.fdst hk (i := n) (by omega) (Nat.le_refl _), tr.fdst hk (i := i) h1 (by omega)]
  · rw [if_neg (fun ⟨j, _, _, hj⟩ => hex ⟨j, hj⟩)]
    exact (tr.fnone (fun j _ hj => hex ⟨j, hj⟩) (by omega)).symm
theorem set_iff {listed : Array Bool} {i j : Nat} : (listed.setIfInBounds i true).getD j true = true ↔ listed.getD j true = true ∨ i = j := by
  by_cases e : i = j
  · subst e; simp [getD_set_self]
  · rw [getD_set_ne true e]; simp [e]
theorem frS_set (tr : Tr P T N ops n H0 st) {listed : Array Bool} {i : Nat} {d : Tmp} (hi : i < n) (hd : dstOf ops i = some d) : frS ops n st (listed.setIfInBounds i true) = Lg.upd (frS ops n st listed) d ((st n).1 d) := by
  funext t
  unfold frS Lg.upd
  by_cases e : t = d
  · subst e
    rw [if_pos rfl, if_pos ⟨i, hi, set_iff.2 (.inr rfl), hd⟩]
  · rw [if_neg e]
    have : (∃ j, j < n ∧ (listed.setIfInBounds i true).getD j true = true ∧ dstOf ops j = some t) ↔ ∃ j, j < n ∧ listed.getD j true = true ∧ dstOf ops j = some t := by
      constructor
      · rintro ⟨j, h1, h2, h3⟩
        rcases set_iff.1 h2 with h2 | h2
        · exact ⟨j, h1, h2, h3⟩
        · subst h2; rw [hd] at h3; injection h3 with h3; exact absurd h3.symm e
      · rintro ⟨j, h1, h2, h3⟩
        exact ⟨j, h1, set_iff.2 (.inl h2), h3⟩
    simp only [this]
theorem frL_set (tr : Tr P T N ops n H0 st) {listed : Array Bool} {i : Nat} {d : Tmp} (hi : i < n) (hd : dstOf ops i = some d) : ∃ x, (x = unk ∨ (x = (st n).1 d ∧ (st (i + 1)).2.n = H0.n)) ∧ frL ops n st H0 (listed.setIfInBounds i true) = Lg.upd (frL ops n st H0 listed) d x := by
  refine ⟨frL ops n st H0 (listed.setIfInBounds i true) d, ?_, ?_⟩
  · unfold frL
    rw [if_pos ⟨i, hi, set_iff.2 (.inr rfl), hd⟩]
    split
    · rename_i h
      obtain ⟨j, h1, h2, h3⟩ := h
      have : j = i := tr.inj j i h1 hi (by rw [h2, hd])
      subst this
      exact .inr ⟨rfl, h3⟩
    · exact .inl rfl
  · funext t
    unfold Lg.upd
    by_cases e : t = d
    · subst e; rw [if_pos rfl]
    · rw [if_neg e]
      unfold frL
      have : (∃ j, j < n ∧ (listed.setIfInBounds i true).getD j true = true ∧ dstOf ops j = some t) ↔ ∃ j, j < n ∧ listed.getD j true = true ∧ dstOf ops j = some t := by
        constructor
        · rintro ⟨j, h1, h2, h3⟩
          rcases set_iff.1 h2 with h2 | h2
          · exact ⟨j, h1, h2, h3⟩
          · subst h2; rw [hd] at h3; injection h3 with h3; exact absurd h3.symm e
        · rintro ⟨j, h1, h2, h3⟩
          exact ⟨j, h1, set_iff.2 (.inl h2), h3⟩
      simp only [this]
theorem un_set (tr : Tr P T N ops n H0 st) {listed : Array Bool} {i : Nat} (hi : i < n) (hun : listed.getD i true = false) (l : Nat) : Un n st (listed.setIfInBounds i true) l ↔ Un n st listed l ∧ ¬ ((st i).2.n ≤ l ∧ l < (st (i + 1)).2.n) := by
  constructor
  · rintro ⟨j, h1, h2, h3, h4⟩
    have hne : i ≠ j := fun e => by subst e; rw [getD_set_self] at h2; cases h2
    rw [getD_set_ne true hne] at h2
    refine ⟨⟨j, h1, h2, h3, h4⟩, fun ⟨h5, h6⟩ => ?_⟩
    rcases Nat.lt_or_gt_of_ne hne with h7 | h7
    · have := (tr.sub (i := i + 1) (j := j) (by omega) (by omega)).n
      omega
    · have := (tr.sub (i := j + 1) (j := i) (by omega) (by omega)).n
      omega
  · rintro ⟨⟨j, h1, h2, h3, h4⟩, h5⟩
    have hne : i ≠ j := fun e => by subst e; exact h5 ⟨h3, h4⟩
    exact ⟨j, h1, by rw [getD_set_ne true hne]; exact h2, h3, h4⟩
theorem un_all (tr : Tr P T N ops n H0 st) {listed : Array Bool} (hno : ∀ j, j < n → listed.getD j true = false) (l : Nat) (hl : l < (st n).2.n) : Un n st listed l ↔ H0.n ≤ l := by
  constructor
  · rintro ⟨j, h1, h2, h3, h4⟩
    have := (tr.sub (i := 0) (j := j) (by omega) (by omega)).n
    rw [tr.h0] at this
    omega
  · intro h
    have key : ∀ m, m ≤ n → l < (st m).2.n → ∃ j, j < m ∧ (st j).2.n ≤ l ∧ l < (st (j + 1)).2.n := by
      intro m
      induction m with
      | zero => intro _ h1; rw [tr.h0] at h1; omega
      | succ m ih =>
        intro hm h1
        rcases Nat.lt_or_ge l (st m).2.n with h2 | h2
        · obtain ⟨j, a, b, c⟩ := ih (by omega) h2
          exact ⟨j, by omega, b, c⟩
        · exact ⟨m, by omega, h2, h1⟩
    obtain ⟨j, a, b, c⟩ := key n (Nat.le_refl _) hl
    exact ⟨j, a, hno j a, b, c⟩
end Tr
theorem lwant_congr (h : ∀ t ∈ Oper.looksAt ops o, fr t = fr' t) : lwant ops fr o = lwant ops fr' o := by
  unfold lwant
  cases hg : o.guard with
  | none => rfl
  | some g =>
    obtain ⟨j, want⟩ := g
    simp only
    cases hd : (ops[j]?).bind (·.dst) with
    | none => rfl
    | some d =>
      simp only
      rw [h d (by simp [Oper.looksAt, hg, hd])]
theorem ev_congr (h : ∀ t ∈ Oper.looksAt ops o, fr t = fr' t) : ∀ x ∈ o.op.operands, ev fr x = ev fr' x := by
  intro x hx
  cases x with
  | tmp t =>
    refine h t ?_
    unfold Oper.looksAt
    refine List.mem_append_left _ (List.mem_filterMap.2 ⟨.tmp t, by simpa using hx, rfl⟩)
  | _ => rfl
end

section
variable {P : Program} {L : Loud} {T : Callee} {N n : Nat} {ops : Array Oper} {H0 HF : LH} {st : Nat → Fr × LH} {ι0 : Ren} {w0 : World} {a0 : Act} {r : Fr × LH}
/-- some of what may come in any order has not come yet -/
structure PA (P : Program) (N : Nat) (ops : Array Oper) (n : Nat) (H0 : LH) (st : Nat → Fr × LH) (ι0 : Ren) (w0 : World) (a0 : Act) (listed : Array Bool) (a : Act) (w : World) : Prop where
  inv : HeadInv .any ops n listed
  some_ : ∃ i, i < n ∧ listed.getD i true = false
  ex : ∃ ι, Out P H0 ι0 w0 ((st n).2.cut (Un n st listed)) ι w ∧ FrR ((st n).2.cut (Un n st listed)).D ι N (frS ops n st listed) a.tmps
  low : FrR H0.D ι0 N (frL ops n st H0 listed) a.tmps
  chg : Change (fun _ => False) w0 w
  defers : a.defers = a0.defers
/-- all that stands ahead of t has come -/
structure PB (P : Program) (T : Callee) (N : Nat) (ops : Array Oper) (n : Nat) (H0 : LH) (ι0 : Ren) (w0 : World) (a0 : Act) (r : Fr × LH) (t : Nat) (listed : Array Bool) (a : Act) (w : World) : Prop where
  le : t ≤ ops.size
  ge : n ≤ t
  size : listed.size = ops.size
  lst : ∀ j, j < ops.size → listed.getD j true = decide (j < t)
  ex : ∃ fr H ι, lops P T N ops (ops.toList.drop t) fr H = some r ∧ Out P H0 ι0 w0 H ι w ∧ FrR H.D ι N fr a.tmps
  defers : a.defers = a0.defers
theorem getD_ft {listed : Array Bool} {k : Nat} (h : listed.getD k false = true) : listed.getD k true = true := by
  rcases Nat.lt_or_ge k listed.size with h' | h'
  · simp [h'] at h ⊢; exact h
  · simp [Array.getElem?_eq_none h']
theorem getD_tf {listed : Array Bool} {k : Nat} (hk : k < listed.size) (h : listed.getD k true = true) : listed.getD k false = true := by
  simp [hk] at h ⊢; exact h
theorem not_true_false {listed : Array Bool} {k : Nat} : listed.getD k true = true ∨ listed.getD k true = false := by cases listed.getD k true <;> simp
theorem out_change (hrel : Rel P H0 ι0 w0) {w' : World} (hw' : Change (fun _ => False) w0 w') : Out P H0 ι0 w0 H0 ι0 w' :=
  ⟨rel_change hrel hw', Nat.le_refl _, fun _ h => h, fun _ _ => rfl, hw'.mono (fun _ _ h => h.elim), fun k hk => .inl hk⟩
/-- all that may come in any order has come -/
theorem pb_of_all (tr : Tr P T N ops n H0 st) (hf : lops P T N ops (ops.toList.drop n) (st n).1 (st n).2 = some r) {listed : Array Bool} {a : Act} {w : World} (inv : HeadInv .any ops n listed) (hall : ∀ i, i < n → listed.getD i true = true)
    (hex : ∃ ι, Out P H0 ι0 w0 ((st n).2.cut (Un n st listed)) ι w ∧ FrR ((st n).2.cut (Un n st listed)).D ι N (frS ops n st listed) a.tmps) (hd : a.defers = a0.defers) : PB P T N ops n H0 ι0 w0 a0 r n listed a w := by
  obtain ⟨ι, h1, h2⟩ := hex
  have e1 : (st n).2.cut (Un n st listed) = (st n).2 := cut_none (fun l ⟨j, hj, hl, _⟩ => by rw [hall j hj] at hl; cases hl)
  have e2 : frS ops n st listed = (st n).1 := by
    funext t
    unfold frS
    split
    · rfl
    · rename_i h
      exact (tr.fnone (fun j hj hd => h ⟨j, hj, hall j hj, hd⟩) (Nat.le_refl _)).symm
  rw [e1] at h1 h2
  rw [e2] at h2
  refine ⟨tr.sz, Nat.le_refl _, inv.size, fun j hj => ?_, ⟨_, _, ι, hf, h1, h2⟩, hd⟩
  rcases Nat.lt_or_ge j n with h | h
  · rw [hall j h]; simp [h]
  · rw [inv.tail j h hj]; simp; omega
/-- one of them comes -/
theorem pa_next (tr : Tr P T N ops n H0 st) (hf : lops P T N ops (ops.toList.drop n) (st n).1 (st n).2 = some r) {listed : Array Bool} {a : Act} {w w' : World} (pa : PA P N ops n H0 st ι0 w0 a0 listed a w) {i : Nat} (hi : i ∈ Region.ready .any ops listed) (hin : i < n) {d : Tmp} (hd : dstOf ops i = some d) (hdN : d < N)
    {ι ι' : Ren} {v' : Value} (hout0 : Out P H0 ι0 w0 ((st n).2.cut (Un n st listed)) ι w) (hfr0 : FrR ((st n).2.cut (Un n st listed)).D ι N (frS ops n st listed) a.tmps)
    (hout : Out P ((st n).2.cut (Un n st listed)) ι w ((st n).2.cut (Un n st (listed.setIfInBounds i true))) ι' w') (hv : VR ((st n).2.cut (Un n st (listed.setIfInBounds i true))).D ι' ((st n).1 d) v')
    (hlow : (st (i + 1)).2.n = H0.n → VR H0.D ι0 ((st n).1 d) v') (hchg : Change (fun _ => False) w w') :
    PA P N ops n H0 st ι0 w0 a0 (listed.setIfInBounds i true) (a.put (some d) v') w' ∨ ∃ t, PB P T N ops n H0 ι0 w0 a0 r t (listed.setIfInBounds i true) (a.put (some d) v') w' := by
  have inv := pa.inv.set hi hin
  have hout2 := hout0.trans hout
  have hfr2 : FrR ((st n).2.cut (Un n st (listed.setIfInBounds i true))).D ι' N (frS ops n st (listed.setIfInBounds i true)) (a.put (some d) v').tmps := by
    rw [tr.frS_set hin hd]
    exact (hfr0.mono hout.sub hout.same).put (d := some d) (v := (st n).1 d) (by simp [lput, hdN]) hv
  have hd2 : (a.put (some d) v').defers = a0.defers := by rw [put_defers]; exact pa.defers
  by_cases hex : ∃ j, j < n ∧ (listed.setIfInBounds i true).getD j true = false
  · left
    refine ⟨inv, hex, ⟨ι', hout2, hfr2⟩, ?_, pa.chg.trans hchg (fun _ h => h.elim), hd2⟩
    obtain ⟨x, hx, e⟩ := tr.frL_set (listed := listed) hin hd
    rw [e]
    refine pa.low.put (d := some d) (v := x) (by simp [lput, hdN]) ?_
    rcases hx with rfl | ⟨rfl, hx⟩
    · exact .any _
    · exact hlow hx
  · right
    exact ⟨n, pb_of_all tr hf inv (fun j hj => by
      rcases not_true_false (listed := listed.setIfInBounds i true) (k := j) with h | h
      · exact h
      · exact absurd ⟨j, hj, h⟩ hex) ⟨ι', hout2, hfr2⟩ hd2⟩
theorem pa_step (hT : TOk P T) (hrel : Rel P H0 ι0 w0) (tr : Tr P T N ops n H0 st) (hf : lops P T N ops (ops.toList.drop n) (st n).1 (st n).2 = some r) {listed : Array Bool} {a : Act} {w : World} (pa : PA P N ops n H0 st ι0 w0 a0 listed a w) {i : Nat} (hi : i ∈ Region.ready .any ops listed) (hin : i < n) {Q : Exit → Act → World → Prop} :
    wpOp P ops Q i (fun a' w' => PA P N ops n H0 st ι0 w0 a0 (listed.setIfInBounds i true) a' w' ∨ ∃ t, PB P T N ops n H0 ι0 w0 a0 r t (listed.setIfInBounds i true) a' w') a w := by
  obtain ⟨o, ho, d, v, b, hdo, hdN, hw, hv, hst⟩ := tr.op hin
  obtain ⟨hun, o', ho', hall⟩ := mem_ready.1 hi
  have e : o' = o := Option.some.inj (ho'.symm.trans ho)
  subst e
  have hd : dstOf ops i = some d := by simp [dstOf, ho, hdo]
  have hwait : ∀ k, Region.waitsFor .any ops i k = true → listed.getD k true = true := fun k hk => by
    obtain ⟨oj, hoj, e, he, hb, hon⟩ := Region.waitsFor_spec hk
    have : oj = o' := Option.some.inj (hoj.symm.trans ho)
    subst this
    rw [← hon]; exact getD_ft (hall e he hb)
  have hag : ∀ t ∈ Oper.looksAt ops o', frS ops n st listed t = (st i).1 t := fun t ht => tr.agree hin ho hwait ht
  have hvd : (st n).1 d = v := by
    rw [tr.fdst hd hin (Nat.le_refl _), hst]
    show (if d = d then v else _) = v
    rw [if_pos rfl]
  obtain ⟨ι, hout0, hfr0⟩ := pa.ex
  have hw' := want_eq hfr0 ((lwant_congr hag).trans hw)
  have hsub := tr.sub (i := i) (j := i + 1) (by omega) (by omega)
  have hsubF := tr.sub (i := i + 1) (j := n) (by omega) (Nat.le_refl _)
  have hsub0 := tr.sub (i := 0) (j := i) (by omega) (by omega)
  have hdomF : ∀ l, (st n).2.n ≤ l → (st n).2.get l = none := (tr.sub (i := 0) (j := n) (by omega) (Nat.le_refl _)).dom (by rw [tr.h0]; exact hrel.dom)
  have hcutq : (st (i + 1)).2 = (st i).2 → (st n).2.cut (Un n st (listed.setIfInBounds i true)) = (st n).2.cut (Un n st listed) := fun hh => cut_congr (fun l _ => by
    rw [tr.un_set hin hun l, hh]
    exact ⟨fun h => h.1, fun h => ⟨h, fun h2 => by omega⟩⟩) hdomF
  have hrel0w : Rel P H0 ι0 w := rel_change hrel pa.chg
  unfold wpOp
  simp only [ho]
  cases b with
  | false =>
    rw [if_neg (by simp)] at hv
    rw [if_neg (by rw [hw']; simp)]
    rw [hdo]
    have hv1 : (st n).1 d = undef := by rw [hvd, hv.1]
    refine pa_next tr hf pa hi hin hd hdN hout0 hfr0 (ι' := ι) ?_ ?_ (fun _ => ?_) (Change.refl _ _)
    · rw [hcutq hv.2]; exact Out.refl hout0.rel
    · rw [hv1]; exact .flat _ rfl
    · rw [hv1]; exact .flat _ rfl
  | true =>
    rw [if_pos rfl] at hv
    rw [if_pos hw']
    left
    -- a quiet one
    have quiet : (st (i + 1)).2 = (st i).2 → (∃ v', VR ((st n).2.cut (Un n st listed)).D ι v v' ∧ ((st (i + 1)).2.n = H0.n → VR H0.D ι0 v v') ∧ ∀ w1, Change (fun _ => False) w w1 → o'.quietAt P a (fun w' => Change (fun _ => False) w w') w1 v') →
        o'.wp P a w (fun a' w' => PA P N ops n H0 st ι0 w0 a0 (listed.setIfInBounds i true) a' w' ∨ ∃ t, PB P T N ops n H0 ι0 w0 a0 r t (listed.setIfInBounds i true) a' w') Q := by
      rintro hh ⟨v', h1, h2, h3⟩
      refine Oper.wp_of_quiet (C := fun w' => Change (fun _ => False) w w') (K := fun a' => a' = a.put o'.dst v') (Change.refl _ _) ?_ ⟨v', h3, rfl⟩
      rintro a' w' hw1 rfl
      rw [hdo]
      refine pa_next tr hf pa hi hin hd hdN hout0 hfr0 (ι' := ι) ?_ ?_ (fun hl => ?_) hw1
      · rw [hcutq hh]; exact out_change hout0.rel hw1
      · rw [hcutq hh, hvd]; exact h1
      · rw [hvd]; exact h2 hl
    have lowcase : (st (i + 1)).2 = (st i).2 → (st i).2.n = H0.n → lquiet P T o' (frL ops n st H0 listed) H0 = some v → ∃ v', VR ((st n).2.cut (Un n st listed)).D ι v v' ∧ ((st (i + 1)).2.n = H0.n → VR H0.D ι0 v v') ∧ ∀ w1, Change (fun _ => False) w w1 → o'.quietAt P a (fun w' => Change (fun _ => False) w w') w1 v' := by
      intro hh hl hq
      obtain ⟨v', h1, h2⟩ := quiet_ok hT hrel0w pa.low hq
      exact ⟨v', h1.mono hout0.sub hout0.same, fun _ => h1, h2⟩
    have hagL : (st i).2.n = H0.n → ∀ t ∈ Oper.looksAt ops o', frL ops n st H0 listed t = (st i).1 t := fun hl t ht => tr.agreeL hin ho hwait hl ht
    have hlowH : (st i).2.n = H0.n → ∀ l, (st i).2.get l = H0.get l := fun hl l => by
      have h00 := tr.h0
      rcases Nat.lt_or_ge l H0.n with hx | hx
      · rw [← h00]; exact hsub0.get l (by rw [h00]; exact hx)
      · rw [hrel.dom l hx]
        exact hsub0.dom (by rw [h00]; exact hrel.dom) l (by omega)
    have hlowE : (st i).2.n = H0.n → (st i).2 = H0 := fun hl => by
      have h1 : (st i).2.get = H0.get := funext (hlowH hl)
      have h2 : (st i).2.hole = H0.hole := funext (fun l => propext (by rw [← tr.h0]; exact hsub0.hole l))
      have h3 := hsub0.base
      have h4 := hsub0.ng
      rw [tr.h0] at h3 h4
      cases hq : (st i).2 with
      | mk a1 a2 a3 a4 a5 =>
        rw [hq] at hl h1 h2 h3 h4
        cases H0 with
        | mk b1 b2 b3 b4 b5 =>
          simp only at hl h1 h2 h3 h4
          subst hl h1 h2 h3 h4
          rfl
    have hget : ∀ l b, ((st n).2.cut (Un n st listed)).D l → (st i).2.get l = some b → ((st n).2.cut (Un n st listed)).get l = some b := fun l b hD hb => by
      have hlt : l < (st i).2.n := by
        rcases Nat.lt_or_ge l (st i).2.n with h | h
        · exact h
        · rw [hsub0.dom (by rw [tr.h0]; exact hrel.dom) l h] at hb; cases hb
      rw [cut_get, if_neg (cut_D.1 hD).2, (tr.sub (i := i) (j := n) (by omega) (Nat.le_refl _)).get l hlt]
      exact hb
    rcases lmixop_cases hv with ⟨hh, hk, hl⟩ | ⟨hh, hc, hq⟩ | ⟨hh, c, b, hop, hcb, hne, H1, hl⟩ | ⟨hk, hl⟩
    · refine quiet hh ?_
      by_cases hlow : (st i).2.n = H0.n
      · refine lowcase hh hlow ?_
        rw [lquiet_congr (ev_congr (hagL hlow))]
        rw [hlowE hlow] at hl
        exact lquiet_read hl hk
      · rw [← lop_congr (ev_congr hag)] at hl
        obtain ⟨_, v', h1, h2⟩ := lop_read' hout0.rel hfr0 hget hl hk
        refine ⟨v', h1, fun h3 => absurd (by rw [hh] at h3; exact h3) hlow, fun w1 hw1 => ?_⟩
        unfold Oper.quietAt
        rw [h2 w1 hw1]
        exact ⟨rfl, rfl⟩
    · refine quiet hh ?_
      by_cases hlow : (st i).2.n = H0.n
      · refine lowcase hh hlow ?_
        rw [lquiet_congr (ev_congr (hagL hlow))]
        exact hq
      · rcases hc with hc | ⟨c, f, hop, hcf, hf1, hf2⟩
        · exact absurd hc hlow
        · have hevS := ev_congr hag
          have hm : FrR H0.D ι0 N (fun t => if flatB (frS ops n st listed t) then frS ops n st listed t else unk) a.tmps := ⟨hfr0.1, fun t => by
            have ht := hfr0.2 t
            show VR _ _ (if flatB (frS ops n st listed t) then frS ops n st listed t else unk) _
            split
            · rename_i hfl
              rw [flat_eq ht hfl]; exact .flat _ hfl
            · exact .any _⟩
          have hev : ∀ x ∈ o'.op.operands, ev (fun t => if flatB (frS ops n st listed t) then frS ops n st listed t else unk) x = ev (st i).1 x := by
            intro x hx
            have hfl : flatB (ev (st i).1 x) = true := by
              rw [hop] at hx
              simp only [Op.operands, Call.operands, hcf, Array.mem_append, List.mem_toArray, List.mem_singleton] at hx
              rcases hx with rfl | hx
              · exact hf1
              · exact List.all_eq_true.1 hf2 _ (List.mem_map.2 ⟨x, by simpa using hx, rfl⟩)
            cases x with
            | tmp t =>
              have e1 : frS ops n st listed t = (st i).1 t := hevS (.tmp t) hx
              have hfl' : flatB ((st i).1 t) = true := hfl
              show (if flatB (frS ops n st listed t) then frS ops n st listed t else unk) = (st i).1 t
              rw [e1, if_pos hfl']
            | _ => rfl
          rw [← lquiet_congr hev] at hq
          obtain ⟨v', h1, h2⟩ := quiet_ok hT hrel0w hm hq
          exact ⟨v', h1.mono hout0.sub hout0.same, fun _ => h1, h2⟩
    · refine quiet hh ?_
      by_cases hlow : (st i).2.n = H0.n
      · refine lowcase hh hlow ?_
        rw [lquiet_congr (ev_congr (hagL hlow))]
        rw [hlowE hlow] at hl
        unfold lquiet
        simp only [hop, hcb]
        rw [hl]; rfl
      · have hevS := ev_congr hag
        have hargs : c.args.toList.map (ev (st i).1) = c.args.toList.map (ev (frS ops n st listed)) := List.map_congr_left (fun x hx => (hevS x (by rw [hop]; simp [Op.operands, Call.operands, hcb]; exact (by simpa using hx))).symm)
        rw [hargs] at hl
        obtain ⟨_, hl2⟩ := lbuiltin_any (H1 := (st n).2.cut (Un n st listed)) hne hl
        have hq : lquiet P T o' (frS ops n st listed) ((st n).2.cut (Un n st listed)) = some v := by
          unfold lquiet
          simp only [hop, hcb]
          rw [hl2]; rfl
        obtain ⟨v', h1, h2⟩ := quiet_ok hT hout0.rel hfr0 hq
        exact ⟨v', h1, fun h3 => absurd (by rw [hh] at h3; exact h3) hlow, h2⟩
    · rw [← lop_congr (ev_congr hag)] at hl
      obtain ⟨b, arr, s, hH, hrw, hs, hsz, hm, hc, hx⟩ := alloc_at hfr0 hl hk
      obtain ⟨v', hrun, hv'⟩ := hx w
      have hU : Un n st listed (st i).2.n := ⟨i, hin, hun, Nat.le_refl _, by rw [hH]; exact Nat.lt_succ_self _⟩
      have hb : (st n).2.get (st i).2.n = some b := by
        rw [hsubF.get _ (by rw [hH]; exact Nat.lt_succ_self _), hH]
        show (if (st i).2.n = (st i).2.n then some b else _) = _
        rw [if_pos rfl]
      have hkn : (st i).2.n < (st n).2.n := by
        have := hsubF.n
        rw [hH] at this
        exact this
      have hholeF : ∀ l, (st n).2.hole l → l < H0.n ∧ H0.get l = none := fun l hl => hrel.hol l (by rw [← tr.h0]; exact ((tr.sub (i := 0) (j := n) (by omega) (Nat.le_refl _)).hole l).1 hl)
      have h0n : H0.n ≤ (st i).2.n := by have := hsub0.n; rw [tr.h0] at this; exact this
      have hout := out_cut1 hout0.rel hU hb hkn (fun hh => by have := (hholeF _ hh).1; omega) hdomF (fun l hl => by
        obtain ⟨a1, a2⟩ := hholeF l hl
        refine ⟨by omega, ?_⟩
        rw [(tr.sub (i := 0) (j := n) (by omega) (Nat.le_refl _)).get l (by rw [tr.h0]; exact a1), tr.h0]; exact a2) hrw hs hsz hm hc
      have hcut : (st n).2.cut (fun l => Un n st listed l ∧ l ≠ (st i).2.n) = (st n).2.cut (Un n st (listed.setIfInBounds i true)) := cut_congr (fun l _ => by
        rw [tr.un_set hin hun l, hH]
        show _ ↔ _ ∧ ¬ ((st i).2.n ≤ l ∧ l < (st i).2.n + 1)
        constructor
        · rintro ⟨h1, h2⟩; exact ⟨h1, fun h3 => by omega⟩
        · rintro ⟨h1, h2⟩; exact ⟨h1, fun h3 => h2 (by omega)⟩) hdomF
      rw [hcut] at hout
      unfold Oper.wp
      rw [hrun]
      simp only [Oper.upon]
      rw [hdo]
      refine pa_next tr hf pa hi hin hd hdN hout0 hfr0 hout ?_ (fun hl => ?_) ?_
      · rw [hvd]
        refine hv' _ _ ?_ (by simp [Ren.add])
        rw [← hcut]
        exact cut_D.2 ⟨⟨hkn, fun hh => by have := (hholeF _ hh).1; omega⟩, fun h => h.2 rfl⟩
      · rw [hH] at hl
        have : (st i).2.n + 1 = H0.n := hl
        omega
      · exact (Change.refl _ w).alloc _
theorem pb_step (hT : TOk P T) (hB : ∀ i, i < ops.size → ∀ o, ops[i]? = some o → ∀ e ∈ o.after, Region.binds .any e = true → e.on < i) (hch : n < ops.size → Region.chainB .any ops n = true) {t : Nat} {listed : Array Bool} {a : Act} {w : World} (pb : PB P T N ops n H0 ι0 w0 a0 r t listed a w) {i : Nat} (hi : i ∈ Region.ready .any ops listed) {Q : Exit → Act → World → Prop} :
    wpOp P ops Q i (fun a' w' => PA P N ops n H0 st ι0 w0 a0 (listed.setIfInBounds i true) a' w' ∨ ∃ t, PB P T N ops n H0 ι0 w0 a0 r t (listed.setIfInBounds i true) a' w') a w := by
  obtain ⟨hun, o, ho, hall⟩ := mem_ready.1 hi
  have hilt : i < ops.size := (Array.getElem?_eq_some_iff.1 ho).1
  have hit : t ≤ i := by
    have := pb.lst i hilt
    rw [hun] at this
    rcases Nat.lt_or_ge i t with h | h
    · simp [h] at this
    · exact h
  have hie : i = t := by
    rcases Nat.lt_or_eq_of_le hit with h | h
    · exfalso
      have hc := hch (by have := pb.ge; omega)
      have h1 := List.all_eq_true.1 hc i (List.mem_range.2 hilt)
      simp only [Bool.or_eq_true, decide_eq_true_eq] at h1
      rcases h1 with h1 | h1
      · have := pb.ge; omega
      · obtain ⟨o', ho', e, he, hb, hon⟩ := Region.waitsFor_spec h1
        have : o' = o := Option.some.inj (ho'.symm.trans ho)
        subst this
        have h2 := getD_ft (hall e he hb)
        rw [hon, pb.lst (i - 1) (by omega)] at h2
        simp at h2; omega
    · exact h.symm
  subst hie
  obtain ⟨fr, H, ι, hl, hout, hfr⟩ := pb.ex
  have hdrop : ops.toList.drop i = o :: ops.toList.drop (i + 1) := by
    rw [List.drop_eq_getElem_cons (by simpa using hilt)]
    congr 1
    have := (Array.getElem?_eq_some_iff.1 ho).2
    simpa using this
  rw [hdrop] at hl
  have nxt : ∀ {fr' : Fr} {H' : LH} {ι' : Ren} {a' : Act} {w' : World}, lops P T N ops (ops.toList.drop (i + 1)) fr' H' = some r → Out P H0 ι0 w0 H' ι' w' → FrR H'.D ι' N fr' a'.tmps → a'.defers = a0.defers →
      PA P N ops n H0 st ι0 w0 a0 (listed.setIfInBounds i true) a' w' ∨ ∃ t, PB P T N ops n H0 ι0 w0 a0 r t (listed.setIfInBounds i true) a' w' := by
    intro fr' H' ι' a' w' g1 g2 g3 g4
    refine .inr ⟨i + 1, hilt, by have := pb.ge; omega, by simp [pb.size], fun j hj => ?_, ⟨fr', H', ι', g1, g2, g3⟩, g4⟩
    by_cases e : i = j
    · subst e; rw [getD_set_self]; simp
    · rw [getD_set_ne true e, pb.lst j hj]
      by_cases hji : j < i
      · simp [hji]; omega
      · simp [hji]; omega
  unfold lops at hl
  unfold wpOp
  simp only [ho]
  split at hl
  · rename_i hw
    rw [if_pos (want_eq hfr hw)]
    left
    split at hl
    · rename_i v H1 hop
      split at hl
      · rename_i fr1 hput
        refine lop_ok hT hout.rel hfr hop _ _ (fun ι' v' w' ho2 hvr => ?_)
        exact nxt hl (hout.trans ho2) ((hfr.mono ho2.sub ho2.same).put hput hvr) (by rw [put_defers]; exact pb.defers)
      · cases hl
    · cases hl
  · rename_i hw
    rw [if_neg (by rw [want_eq hfr hw]; simp)]
    split at hl
    · rename_i fr1 hput
      exact nxt hl hout (hfr.undef _ _ hput) (by rw [put_defers]; exact pb.defers)
    · cases hl
  · cases hl
end
/-- what the Bool tells -/
theorem mixB_spec {L : Loud} {ops : Array Oper} (h : mixB L ops = true) :
    (∀ i, i < ops.size → ∀ o, ops[i]? = some o → ∀ e ∈ o.after, Region.binds .any e = true → e.on < i) ∧
    (∀ i o t k, i < headN L ops.toList → ops[i]? = some o → t ∈ Oper.looksAt ops o → dstOf ops k = some t → k < i ∧ Region.waitsFor .any ops i k = true) ∧
    (∀ i k, i < headN L ops.toList → k < headN L ops.toList → dstOf ops i = dstOf ops k → i = k) ∧
    (headN L ops.toList < ops.size → Region.sinkB .any ops (headN L ops.toList) = true ∧ Region.chainB .any ops (headN L ops.toList) = true) := by
  unfold mixB at h
  simp only [Bool.and_eq_true] at h
  obtain ⟨⟨⟨h1, h2⟩, h3⟩, h4⟩ := h
  refine ⟨fun i hi o ho e he hb => ?_, fun i o t k hi ho ht hk => ?_, fun i k hi hk hd => ?_, fun hn => ?_⟩
  · have := List.all_eq_true.1 h1 i (List.mem_range.2 hi)
    simp only [ho] at this
    have := List.all_eq_true.1 this e (by simpa using he)
    rw [hb] at this
    simpa using this
  · have := List.all_eq_true.1 h2 i (List.mem_range.2 hi)
    simp only [ho] at this
    have := List.all_eq_true.1 this t ht
    have hks : k < ops.size := by
      unfold dstOf at hk
      cases hq : ops[k]? with
      | none => simp [hq] at hk
      | some x => exact (Array.getElem?_eq_some_iff.1 hq).1
    have := List.all_eq_true.1 this k (List.mem_range.2 hks)
    rw [show (ops[k]?).bind (·.dst) = some t from hk] at this
    simpa using this
  · have := List.all_eq_true.1 h3 i (List.mem_range.2 hi)
    have := List.all_eq_true.1 this k (List.mem_range.2 hk)
    simp only [Bool.or_eq_true, beq_iff_eq, bne_iff_ne] at this
    rcases this with h | h
    · exact h
    · exact absurd hd h
  · simp only [Bool.or_eq_true, decide_eq_true_eq, Bool.and_eq_true] at h4
    rcases h4 with h4 | h4
    · omega
    · exact h4
theorem headN_le (L : Loud) : ∀ l : List Oper, headN L l ≤ l.length
  | [] => Nat.le_refl _
  | o :: l => by
    have := headN_le L l
    unfold headN
    split
    · omega
    · simp; omega
/-- EVERY ORDER OF A REGION COMES TO WHAT THE TEXT'S ORDER COMES TO. -/
theorem mix_ok {P : Program} {L : Loud} {T : Callee} {N : Nat} {ops : Array Oper} {H H' : LH} {fr fr' : Fr} {ι : Ren} {w : World} {a : Act} (hT : TOk P T) (hm : P.follows .mixedOrders = true) (hB : mixB L ops = true) (h : lmix P L T N ops H ops.toList fr H = some (fr', H')) (hrel : Rel P H ι w) (hfr : FrR H.D ι N fr a.tmps) (id : Nat) {Q : Exit → Act → World → Prop}
    (hQ : ∀ ι' a' w', Out P H ι w H' ι' w' → FrR H'.D ι' N fr' a'.tmps → a'.defers = a.defers → Q .normal a' w') : (Code.region id ops true).wp P Q a w := by
  obtain ⟨b1, b2, b3, b4⟩ := mixB_spec hB
  obtain ⟨st, h0, hs, hf⟩ := trace_of ops.toList fr H h
  have hnle : headN L ops.toList ≤ ops.size := by simpa using headN_le L ops.toList
  have tr : Tr P T N ops (headN L ops.toList) H st := ⟨hnle, by rw [h0], fun i o hi ho => hs i o hi (by simpa using ho), fun i k hi hk hd => b3 i k hi hk hd, b2⟩
  generalize hn : headN L ops.toList = n at *
  have hw : Change (fun _ => False) w { w with drawn := w.drawn + 1 } := ⟨rfl, rfl, rfl, Nat.le_refl _, fun _ _ _ => rfl⟩
  have hrel' := rel_change hrel hw
  have hout0 := out_change hrel hw
  have st0 : st 0 = (fr, H) := h0
  let Inv : Array Bool → Act → World → Prop := fun listed a' w' => PA P N ops n H st ι w a listed a' w' ∨ ∃ t, PB P T N ops n H ι w a (fr', H') t listed a' w'
  refine wp_region_any hm (wpAny_inv (Inv := Inv) ?_ ?_ _ _ _ _ ?_ ?_)
  · rintro listed a' w' (pa | ⟨t, pb⟩) i hi
    · have hin : i < n := by
        rcases Nat.lt_or_ge i n with h1 | h1
        · exact h1
        · exfalso
          have hlt := (ready_lt hi).1
          obtain ⟨c1, c2⟩ := b4 (by omega)
          obtain ⟨j, hj, hjl⟩ := pa.some_
          exact tail_waits c1 c2 (by omega) pa.inv _ j rfl hj hjl i h1 hi
      exact pa_step hT hrel tr hf pa hi hin
    · exact pb_step hT b1 (fun hlt => (b4 hlt).2) pb hi
  · rintro listed a' w' (pa | ⟨t, pb⟩) hr
    · exfalso
      obtain ⟨j, hj, hjl⟩ := pa.some_
      -- the first that has not come may come
      have key : ∀ m, ∀ j, j < m → j < n → listed.getD j true = false → False := by
        intro m
        induction m with
        | zero => intro j hj; omega
        | succ m ih =>
          intro j hjm hjn hjl
          have hjs : j < ops.size := by omega
          have : j ∈ Region.ready .any ops listed := by
            refine mem_ready.2 ⟨hjl, _, Array.getElem?_eq_getElem hjs, fun e he hb => ?_⟩
            have hlt := b1 j hjs _ (Array.getElem?_eq_getElem hjs) e he hb
            rcases not_true_false (listed := listed) (k := e.on) with h1 | h1
            · exact getD_tf (by rw [pa.inv.size]; omega) h1
            · exact (ih e.on (by omega) (by omega) h1).elim
          rw [hr] at this
          cases this
      exact key (j + 1) j (by omega) hj hjl
    · have ht : t = ops.size := by
        rcases Nat.lt_or_eq_of_le pb.le with h1 | h1
        · exfalso
          have : t ∈ Region.ready .any ops listed := by
            refine mem_ready.2 ⟨by rw [pb.lst t h1]; simp, _, Array.getElem?_eq_getElem h1, fun e he hb => ?_⟩
            have hlt := b1 t h1 _ (Array.getElem?_eq_getElem h1) e he hb
            refine getD_tf (by rw [pb.size]; omega) ?_
            rw [pb.lst _ (by omega)]; simp [hlt]
          rw [hr] at this
          cases this
        · exact h1
      obtain ⟨fr1, H1, ι1, g1, g2, g3⟩ := pb.ex
      rw [ht, List.drop_eq_nil_of_le (by simp)] at g1
      simp only [lops, Option.some.injEq, Prod.mk.injEq] at g1
      obtain ⟨rfl, rfl⟩ := g1
      exact hQ ι1 a' w' g2 g3 pb.defers
  · unfold undone
    refine Nat.le_trans List.countP_le_length ?_
    simp
  · have hno : ∀ j, j < ops.size → (Array.replicate ops.size false).getD j true = false := fun j hj => by simp [hj]
    rcases Nat.eq_zero_or_pos n with hz | hz
    · right
      refine ⟨0, Nat.zero_le _, by omega, by simp, fun j hj => by rw [hno j hj]; simp, ⟨fr, H, ι, ?_, hout0, hfr⟩, rfl⟩
      have := hf
      rw [hz, st0] at this
      exact this
    · left
      have e1 : (st n).2.cut (fun l => H.n ≤ l) = (st n).2.cut (Un n st (Array.replicate ops.size false)) := cut_congr (fun l hl => (tr.un_all (fun j hj => hno j (by omega)) l hl).symm) ((tr.sub (i := 0) (j := n) (by omega) (Nat.le_refl _)).dom (by rw [st0]; exact hrel.dom))
      have hnone : ∀ t, ¬ ∃ j, j < n ∧ (Array.replicate ops.size false).getD j true = true ∧ dstOf ops j = some t := fun t ⟨j, hj, hl, _⟩ => by rw [hno j (by omega)] at hl; cases hl
      have e2 : frS ops n st (Array.replicate ops.size false) = fr := by
        funext t
        unfold frS
        rw [if_neg (hnone t), st0]
      have e3 : frL ops n st H (Array.replicate ops.size false) = fr := by
        funext t
        unfold frL
        rw [if_neg (hnone t), st0]
      have hsub : Sub H (st n).2 := by have := tr.sub (i := 0) (j := n) (by omega) (Nat.le_refl _); rw [st0] at this; exact this
      have hc := out_cut0 hrel' hsub
      refine ⟨⟨by simp, (fun j oj hoj hl => by rw [getD_replicate_false] at hl; cases hl), fun t ht hts => hno t hts⟩, ⟨0, hz, hno 0 (by omega)⟩, ⟨ι, ?_, ?_⟩, by rw [e3]; exact hfr, hw, rfl⟩
      · rw [← e1]; exact hout0.trans hc
      · rw [← e1, e2]; exact hfr.mono hc.sub hc.same
end Go.Lg
/-
  A logical run of Go code: a whole function, and what a call comes to.
-/
set_option linter.unusedSimpArgs false
set_option linter.unusedVariables false
namespace Go.Lg
open Go.Tg Go.RowKit

def itemOk (L : Loud) : Item → Bool
  | .code c => codeOk L c
  | .inLoop c => codeOk L c
  | _ => true
theorem exit_ok {L : Loud} {id : Nat} : ∀ {k k' : List Item}, exitTo id k = some k' → (∀ x ∈ k, itemOk L x = true) → ∀ x ∈ k', itemOk L x = true
  | [], k', h, _ => by simp [exitTo] at h
  | y :: k, k', h, hk => by
    have ih := @exit_ok L id k k'
    have hk2 : ∀ x ∈ k, itemOk L x = true := fun x hx => hk x (List.mem_cons_of_mem _ hx)
    unfold exitTo at h
    split at h
    · rename_i e
      injection e with e1 e2
      subst e2
      split at h
      · injection h with h; subst h; exact hk2
      · exact ih h hk2
    · rename_i e
      injection e with e1 e2
      subst e2
      exact ih h hk2
    · rename_i e; cases e

section
variable {P : Program} {L : Loud} {T : Callee} {H H' : LH} {ι : Ren} {a : Act} {w : World} {v v' : Value} {fr fr' : Fr} {fn : Func}
theorem result_ok (hrel : Rel P H ι w) {N : Nat} (hfr : FrR H.D ι N fr a.tmps) {r : ResultVar} (h : lresult P fr H r = some v) :
    ∃ v', (match r with | .tmp t => pure (a.tmps.getD t undef) | .cell x t => do loadVar t (← asAddr (a.tmps.getD x undef)) : Sem Value).run P w = .ok v' w ∧ VR H.D ι v v' := by
  cases r with
  | tmp t =>
    simp only [lresult, Option.some.injEq] at h
    subst h
    exact ⟨_, rfl, hfr.2 t⟩
  | cell x t =>
    simp only [lresult] at h
    split at h
    · rename_i l off e
      have h1 := hfr.2 x
      rw [e] at h1
      obtain ⟨_, h2⟩ := vr_ptr h1
      obtain ⟨v', hr, hv⟩ := load_sound hrel h
      refine ⟨v', ?_, hv⟩
      show (do loadVar t (← asAddr (a.tmps.getD x undef)) : Sem Value).run P w = _
      rw [h2]
      simp only [Sem.run_bind, asAddr, Sem.run_pure, Result.andThen_ok, hr w rfl]
    · cases h
theorem results_list (hrel : Rel P H ι w) {N : Nat} (hfr : FrR H.D ι N fr a.tmps) (f : ResultVar → Sem Value) (hf1 : ∀ t, f (.tmp t) = pure (a.tmps.getD t undef)) (hf2 : ∀ x t, f (.cell x t) = do loadVar t (← asAddr (a.tmps.getD x undef))) : ∀ (rs : List ResultVar) (vs : List Value), rs.mapM (lresult P fr H) = some vs →
    ∃ us : List Value, (rs.mapM f).run P w = .ok us w ∧ vs.length = us.length ∧
      ∀ (i : Nat) (x y : Value), vs[i]? = some x → us[i]? = some y → VR H.D ι x y
  | [], vs, h => by
    simp only [List.mapM_nil, Option.pure_def, Option.some.injEq] at h
    subst h
    exact ⟨[], rfl, rfl, fun i x y hx => by simp at hx⟩
  | r :: rs, vs, h => by
    simp only [List.mapM_cons, Option.bind_eq_bind, Option.pure_def] at h
    cases h1 : lresult P fr H r with
    | none => simp [h1] at h
    | some u =>
      simp only [h1, Option.bind_some] at h
      cases h2 : rs.mapM (lresult P fr H) with
      | none => simp [h2] at h
      | some us =>
        simp only [h2, Option.bind_some, Option.some.injEq] at h
        subst h
        obtain ⟨u', hr, hv⟩ := result_ok hrel hfr h1
        obtain ⟨us', hrs, hl, hvs⟩ := results_list hrel hfr f hf1 hf2 rs us h2
        have hr : (f r).run P w = .ok u' w := by cases r <;> simpa only [hf1, hf2] using hr
        refine ⟨u' :: us', ?_, by simp [hl], fun i x y hx hy => ?_⟩
        · rw [List.mapM_cons, Sem.run_bind, hr]
          simp only [Result.andThen_ok, Sem.run_bind, hrs, Sem.run_pure]
        · cases i with
          | zero => simp at hx hy; subst hx hy; exact hv
          | succ i => exact hvs i x y (by simpa using hx) (by simpa using hy)
theorem results_ok (hrel : Rel P H ι w) {N : Nat} (hfr : FrR H.D ι N fr a.tmps) (h : lresults P fn fr H = some v) : ∃ v', (results fn a.tmps).run P w = .ok v' w ∧ VR H.D ι v v' := by
  unfold lresults at h
  cases hm : fn.results.toList.mapM (lresult P fr H) with
  | none => rw [hm] at h; cases h
  | some vs =>
    have key := fun f hf1 hf2 => results_list hrel hfr f hf1 hf2 fn.results.toList vs hm
    have hex : ∃ us : List Value, (results fn a.tmps).run P w = .ok (if h : us.toArray.size = 1 then us.toArray[0] else .tuple us.toArray) w ∧ vs.length = us.length ∧ ∀ (i : Nat) (x y : Value), vs[i]? = some x → us[i]? = some y → VR H.D ι x y := by
      unfold results
      rw [Array.mapM_eq_mapM_toList]
      simp only [Sem.run_bind, map_eq_pure_bind]
      generalize hF : (fun (x : ResultVar) => _) = F
      obtain ⟨us, hr, hl, hv⟩ := key F (fun t => by rw [← hF]) (fun x t => by rw [← hF])
      refine ⟨us, ?_, hl, hv⟩
      rw [hr]
      simp only [Result.andThen_ok, Sem.run_pure]
    obtain ⟨us, hrun, hl, hv⟩ := hex
    rw [hm] at h
    match vs, us, hl, h, hv, hrun with
    | [x], [y], _, h, hv, hrun =>
      simp only [Option.some.injEq] at h
      subst h
      exact ⟨y, hrun, hv 0 x y rfl rfl⟩
    | [], [], _, h, hv, hrun =>
      simp only [Option.some.injEq] at h
      subst h
      exact ⟨_, hrun, .flat _ rfl⟩
    | x :: x2 :: xs, y :: y2 :: ys, hl, h, hv, hrun =>
      simp only [Option.some.injEq] at h
      subst h
      refine ⟨_, hrun, ?_⟩
      rw [dif_neg (by simp)]
      exact .tuple _ _ (by simpa using hl) (fun i p q hp hq => hv i p q (by simpa using hp) (by simpa using hq))

theorem run_ok (hT : TOk P T) (hm : P.follows .mixedOrders = true) : ∀ (n : Nat) (todo : List Item) (fr : Fr) (H : LH) (ι : Ren) (a : Act) (w : World), run P L T fn n todo fr H = some (v, H') → (∀ x ∈ todo, itemOk L x = true) →
    Rel P H ι w → FrR H.D ι fn.ntmps fr a.tmps → a.defers = [] → ∀ (b : Frame) (cs : List Frame), ∃ (a' : Act) (todo' : List Item) (w' : World) (ι' : Ren) (v' : Value),
      Steps P (lone (b.at a todo) cs w) (lone { b.at a' todo' with mode := .returning } cs w') ∧ a'.defers = [] ∧ (results fn a'.tmps).run P w' = .ok v' w' ∧ Out P H ι w H' ι' w' ∧ VR H'.D ι' v v' := by
  intro n
  induction n with
  | zero => intro todo fr H ι a w h; simp [run] at h
  | succ n ih =>
    intro todo fr H ι a w h hit hrel hfr hd b cs
    have fin : ∀ k, (lresults P fn fr H).map (fun v => (v, H)) = some (v, H') → Steps P (lone (b.at a todo) cs w) (lone { b.at a k with mode := .returning } cs w) → ∃ (a' : Act) (todo' : List Item) (w' : World) (ι' : Ren) (v' : Value),
        Steps P (lone (b.at a todo) cs w) (lone { b.at a' todo' with mode := .returning } cs w') ∧ a'.defers = [] ∧ (results fn a'.tmps).run P w' = .ok v' w' ∧ Out P H ι w H' ι' w' ∧ VR H'.D ι' v v' := by
      intro k hk hs
      simp only [Option.map_eq_some_iff, Prod.mk.injEq] at hk
      obtain ⟨u, hu, rfl, rfl⟩ := hk
      obtain ⟨v', hr, hv⟩ := results_ok hrel hfr hu
      exact ⟨a, k, w, ι, v', hs, hd, hr, Out.refl hrel, hv⟩
    have go : ∀ todo1, run P L T fn n todo1 fr H = some (v, H') → (∀ x ∈ todo1, itemOk L x = true) → step P (lone (b.at a todo) cs w) = .next (lone (b.at a todo1) cs w) → ∃ (a' : Act) (todo' : List Item) (w' : World) (ι' : Ren) (v' : Value),
        Steps P (lone (b.at a todo) cs w) (lone { b.at a' todo' with mode := .returning } cs w') ∧ a'.defers = [] ∧ (results fn a'.tmps).run P w' = .ok v' w' ∧ Out P H ι w H' ι' w' ∧ VR H'.D ι' v v' := by
      intro todo1 h1 hi1 hs
      obtain ⟨a', t', w', ι', v', g1, g2⟩ := ih todo1 fr H ι a w h1 hi1 hrel hfr hd b cs
      exact ⟨a', t', w', ι', v', .head hs g1, g2⟩
    cases todo with
    | nil => exact fin [] (by simpa only [run] using h) (.one step_end)
    | cons it k =>
      have hk : ∀ x ∈ k, itemOk L x = true := fun x hx => hit x (List.mem_cons_of_mem _ hx)
      have hx := hit it (List.mem_cons_self ..)
      cases it with
      | inBlock id => exact go k (by simpa only [run] using h) hk step_inBlock
      | inLoop c => exact go (.code c :: .inLoop c :: k) (by simpa only [run] using h) (fun z hz => by
          rcases List.mem_cons.1 hz with rfl | hz
          · exact hx
          · rcases List.mem_cons.1 hz with rfl | hz
            · exact hx
            · exact hk z hz) step_inLoop
      | code c =>
        cases c with
        | skip => exact go k (by simpa only [run] using h) hk step_skip
        | label l => exact go k (by simpa only [run] using h) hk step_label
        | seq x y =>
          simp only [itemOk, codeOk, Bool.and_eq_true] at hx
          exact go (.code x :: .code y :: k) (by simpa only [run] using h) (fun z hz => by
            rcases List.mem_cons.1 hz with rfl | hz
            · exact hx.1
            · rcases List.mem_cons.1 hz with rfl | hz
              · exact hx.2
              · exact hk z hz) step_seq
        | block id c => exact go (.code c :: .inBlock id :: k) (by simpa only [run] using h) (fun z hz => by
            rcases List.mem_cons.1 hz with rfl | hz
            · exact hx
            · rcases List.mem_cons.1 hz with rfl | hz
              · rfl
              · exact hk z hz) step_block
        | loop c => exact go (.code c :: .inLoop c :: k) (by simpa only [run] using h) (fun z hz => by
            rcases List.mem_cons.1 hz with rfl | hz
            · exact hx
            · rcases List.mem_cons.1 hz with rfl | hz
              · exact hx
              · exact hk z hz) step_loop
        | ret => exact fin (.code .ret :: k) (by simpa only [run] using h) (.one step_ret)
        | exit id =>
          simp only [run] at h
          cases hx2 : exitTo id k with
          | none => simp [hx2] at h
          | some k' =>
            simp only [hx2] at h
            exact go k' h (exit_ok hx2 hk) (step_exit hx2)
        | cond c x y =>
          simp only [itemOk, codeOk, Bool.and_eq_true] at hx
          simp only [run] at h
          have hc := hfr.ev c
          cases he : ev fr c with
          | bool t =>
            rw [he] at hc
            have hc' := vr_bool hc
            simp only [he] at h
            refine go (.code (if t then x else y) :: k) ?_ (fun z hz => ?_) (step_cond hc')
            · cases t <;> simpa using h
            · rcases List.mem_cons.1 hz with rfl | hz
              · cases t
                · exact hx.2
                · exact hx.1
              · exact hk z hz
          | _ => simp [he] at h
        | region id ops draw =>
          have reg : ∀ H1 fr1, run P L T fn n k fr1 H1 = some (v, H') → (Code.region id ops draw).wp P (fun e a' w' => e = .normal ∧ ∃ ι', Out P H ι w H1 ι' w' ∧ FrR H1.D ι' fn.ntmps fr1 a'.tmps ∧ a'.defers = a.defers) a w → ∃ (a' : Act) (todo' : List Item) (w' : World) (ι' : Ren) (v' : Value),
              Steps P (lone (b.at a (.code (.region id ops draw) :: k)) cs w) (lone { b.at a' todo' with mode := .returning } cs w') ∧ a'.defers = [] ∧ (results fn a'.tmps).run P w' = .ok v' w' ∧ Out P H ι w H' ι' w' ∧ VR H'.D ι' v v' := by
            intro H1 fr1 h1 hwp
            obtain ⟨e, a1, w1, ⟨rfl, ι1, ho1, hf1, hd1⟩, harr⟩ := hwp b k cs
            obtain ⟨a', t', w', ι', v', g1, g2, g3, g4, g5⟩ := ih k fr1 H1 ι1 a1 w1 h1 hk ho1.rel hf1 (by rw [hd1, hd]) b cs
            exact ⟨a', t', w', ι', v', Steps.trans harr g1, g2, g3, ho1.trans g4, g5⟩
          cases draw with
          | false =>
            simp only [run] at h
            cases hl : lops P T fn.ntmps ops ops.toList fr H with
            | none => simp [hl] at h
            | some r =>
              obtain ⟨fr1, H1⟩ := r
              simp only [hl] at h
              exact reg H1 fr1 h (wp_region_list (lops_ok hT ops.toList fr H ι a w hl hrel hfr _ (fun ι' a' w' ho hf hdd => ⟨rfl, ι', ho, hf, hdd⟩)))
          | true =>
            simp only [run] at h
            cases hl : lmix P L T fn.ntmps ops H ops.toList fr H with
            | none => simp [hl] at h
            | some r =>
              obtain ⟨fr1, H1⟩ := r
              simp only [hl] at h
              exact reg H1 fr1 h (mix_ok hT hm hx hl hrel hfr id (fun ι' a' w' ho hf hdd => ⟨rfl, ι', ho, hf, hdd⟩))
        | _ => simp [run] at h
      | _ => simp [run] at h
end
end Go.Lg
/-
  A logical run of Go code: what a call comes to, at whatever depth.
-/
set_option linter.unusedSimpArgs false
set_option linter.unusedVariables false
namespace Go.Lg
open Go.Tg Go.RowKit

abbrev Ext := Env
def ExtOk (P : Program) (ext : Ext) : Prop := ∀ f s, ext f = some s → ∀ args H v H', s args H = some (v, H') → Entered P f ∧ CallOk P f args H v H'

section
variable {P : Program} {ext : Ext} {H H' : LH} {ι ι' : Ren} {w w' : World} {v v' : Value}
theorem out_trunc (hrel : Rel P H ι w) (hout : Out P H ι w H' ι' w') (hle : H.le H') : Out P H ι w H ι w' := by
  refine ⟨⟨hrel.dom, hrel.hol, fun l b hb => ?_, hrel.sep, pin_step hrel hout.chg (fun _ hk => .inl hk) rfl rfl⟩, Nat.le_refl _, fun _ h => h, fun _ _ => rfl, hout.chg, fun k hk => .inl hk⟩
  have hl := hrel.live hb
  obtain ⟨arr, t, f, hw, h1, h2, h3⟩ := hout.rel.blk l b (by rw [hle.2 l hl.1]; exact hb)
  rw [hout.same l hl] at hw h1 h2 h3
  obtain ⟨arr0, t0, f0, hw0, g1, g2, g3⟩ := hrel.blk l b hb
  refine ⟨arr, t, f, hw, h1, fun i x hx => ?_, h3⟩
  obtain ⟨y, hy, hv⟩ := h2 i x hx
  obtain ⟨y0, hy0, hv0⟩ := g2 i x hx
  exact ⟨y, hy, hv.back hv0 hout.same⟩
theorem trunc_ok (hrel : Rel P H ι w) (hout : Out P H ι w H' ι' w') (hv : VR H'.D ι' v v') : ∃ ι2 v2, v' = v2 ∧ Out P H ι w (trunc H (v, H')).2 ι2 w' ∧ VR (trunc H (v, H')).2.D ι2 (trunc H (v, H')).1 v2 := by
  unfold trunc
  split
  · rename_i h
    refine ⟨ι, v', rfl, out_trunc hrel hout h.2, ?_⟩
    rw [flat_eq hv h.1]
    exact .flat _ h.1
  · exact ⟨ι', v', rfl, hout, hv⟩
theorem enter_rel {N : Nat} {args : List Value} {args' : Array Value} (h1 : args.length = args'.size) (h2 : ∀ (i : Nat) (x y : Value), args[i]? = some x → args'[i]? = some y → VR H.D ι x y) (hN : args.length ≤ N) :
    FrR H.D ι N (enter args) (args' ++ Array.replicate (N - args'.size) undef) := by
  refine ⟨by simp; omega, fun t => ?_⟩
  unfold enter
  rw [Array.getD_eq_getD_getElem?, Array.getElem?_append]
  by_cases ht : t < args'.size
  · rw [if_pos ht]
    have e1 : args[t]? = some (args[t]'(by omega)) := List.getElem?_eq_getElem (by omega)
    have e2 := Array.getElem?_eq_getElem ht
    rw [List.getD_eq_getElem?_getD, e1, e2]
    exact h2 t _ _ e1 e2
  · rw [if_neg ht, List.getD_eq_getElem?_getD, List.getElem?_eq_none (by omega), Array.getElem?_replicate]
    split <;> exact .flat _ rfl
theorem lcall_ok (hext : ExtOk P ext) (hm : P.follows .mixedOrders = true) : ∀ n, TOk P (lcall P ext n) := by
  intro n
  induction n with
  | zero => intro f args H v H' h; simp [lcall] at h
  | succ n ih =>
    intro f args H v H' h
    unfold lcall at h
    split at h
    · rename_i s hs
      exact hext f s hs args H v H' h
    · split at h
      · rename_i fn hfn
        split at h
        · rename_i c hb
          split at h
          · rename_i hN
            obtain ⟨r, hr, e⟩ := Option.map_eq_some_iff.1 h
            obtain ⟨u, H1⟩ := r
            refine ⟨⟨fn, hfn, by rw [hb]; rfl, hN.2.1⟩, ?_⟩
            intro ι w args' hrel hl hargs cs
            let b : Frame := { (default : Frame) with fn := f, kind := .normal }
            have henter : Frame.enter P f args' .normal = b.at { tmps := args' ++ Array.replicate (fn.ntmps - args'.size) undef, defers := [] } [.code c] := by
              simp [Frame.enter, Frame.at, hfn, hb, b]
            obtain ⟨a', t', w', ι', v', g1, g2, g3, g4, g5⟩ := run_ok ih hm n [.code c] (enter args) H ι { tmps := args' ++ Array.replicate (fn.ntmps - args'.size) undef, defers := [] } w hr
              (fun x hx => by rcases List.mem_cons.1 hx with rfl | hx; exact hN.2.2; cases hx) hrel (enter_rel hl hargs hN.1) rfl b cs
            rw [← henter] at g1
            obtain ⟨ι2, v2, hv2, k1, k2⟩ := trunc_ok hrel g4 g5
            rw [e] at k1 k2
            exact ⟨.returned v', w', _, ⟨ι2, v', rfl, k1, by rw [hv2]; exact k2⟩, g1, rfl, rfl, g2, rfl, fn, hfn, g3⟩
          · cases h
        · cases h
      · cases h
end

/-! ### more depth changes nothing -/
def Tle (T T' : Callee) : Prop := ∀ f args H r, T f args H = some r → T' f args H = some r
section
variable {P : Program} {T T' : Callee} {fr : Fr} {H : LH} {fn : Func} {L : Loud}
theorem lcallee_mono (h : Tle T T') {f : Value} {args : List Value} {r : Value × LH} (hr : lcallee P T f args H = some r) : lcallee P T' f args H = some r := by
  unfold lcallee at hr ⊢
  split at hr
  · split at hr
    · rw [if_pos ‹_›]; exact h _ _ _ _ hr
    · cases hr
  · cases hr
theorem lop_mono (h : Tle T T') {o : Oper} {r : Value × LH} (hr : lop P T o fr H = some r) : lop P T' o fr H = some r := by
  obtain ⟨dst, op, ty, pos, after, guard⟩ := o
  cases op with
  | call c =>
    simp only [lop] at hr ⊢
    split at hr
    · exact lcallee_mono h hr
    · exact hr
    · cases hr
  | makeFunc f _ _ => cases f <;> exact hr
  | slice _ _ _ _ mx => cases mx <;> exact hr
  | _ => exact hr
theorem lquiet_mono (h : Tle T T') {o : Oper} {r : Value} (hr : lquiet P T o fr H = some r) : lquiet P T' o fr H = some r := by
  obtain ⟨dst, op, ty, pos, after, guard⟩ := o
  cases op with
  | call c =>
    simp only [lquiet] at hr ⊢
    split at hr
    · split at hr
      · rename_i hc
        rw [lcallee_mono h hc]
        exact hr
      · cases hr
    · exact hr
    · exact hr
    · cases hr
  | makeFunc f _ _ => cases f <;> exact hr
  | slice _ _ _ _ mx => cases mx <;> exact hr
  | _ => exact hr
theorem lops_mono (h : Tle T T') {N : Nat} {all : Array Oper} : ∀ {os : List Oper} {fr : Fr} {H : LH} {r : Fr × LH}, lops P T N all os fr H = some r → lops P T' N all os fr H = some r
  | [], fr, H, r, hr => hr
  | o :: os, fr, H, r, hr => by
    unfold lops at hr ⊢
    split at hr
    · split at hr
      · rename_i ho
        rw [lop_mono h ho]
        simp only
        split at hr
        · exact lops_mono h hr
        · cases hr
      · cases hr
    · split at hr
      · exact lops_mono h hr
      · cases hr
    · cases hr
theorem lmixop_mono (h : Tle T T') {o : Oper} {H0 : LH} {r : Value × LH} (hr : lmixop P T o fr H0 H = some r) : lmixop P T' o fr H0 H = some r := by
  have key : lop P T o fr H = some r → lop P T' o fr H = some r := lop_mono h
  obtain ⟨dst, op, ty, pos, after, guard⟩ := o
  cases op with
  | call c =>
    simp only [lmixop] at hr ⊢
    cases hc : c.callee with
    | value f =>
      simp only [hc] at hr ⊢
      split at hr
      · rw [if_pos ‹_›]
        obtain ⟨u, hu, e⟩ := Option.map_eq_some_iff.1 hr
        exact Option.map_eq_some_iff.2 ⟨u, lquiet_mono h hu, e⟩
      · cases hr
    | builtin b => simp only [hc] at hr ⊢; cases b <;> exact hr
    | invoke x y => simp [hc] at hr
  | store _ _ _ => simp [lmixop] at hr
  | makeSlice _ _ _ => simp [lmixop] at hr
  | _ => simp only [lmixop] at hr ⊢; exact key hr
theorem lmix_mono {L : Loud} (h : Tle T T') {N : Nat} {all : Array Oper} {H0 : LH} : ∀ {os : List Oper} {fr : Fr} {H : LH} {r : Fr × LH}, lmix P L T N all H0 os fr H = some r → lmix P L T' N all H0 os fr H = some r
  | [], fr, H, r, hr => hr
  | o :: os, fr, H, r, hr => by
    unfold lmix at hr ⊢
    split at hr
    · rename_i hl
      rw [if_pos hl]
      exact lops_mono h hr
    · rename_i hl
      rw [if_neg hl]
      split at hr
      · cases hr
      · rename_i d hd
        split at hr
        · rename_i hdN
          split at hr
          · rename_i hw
            split at hr
            · rename_i v H1 hop
              simp only [if_pos hdN, lmixop_mono h hop]
              exact lmix_mono h hr
            · cases hr
          · rename_i hw
            simp only [if_pos hdN]
            exact lmix_mono h hr
          · cases hr
        · cases hr
theorem run_mono (h : Tle T T') : ∀ {n n' : Nat} {todo : List Item} {fr : Fr} {H : LH} {r : Value × LH}, n ≤ n' → run P L T fn n todo fr H = some r → run P L T' fn n' todo fr H = some r := by
  intro n
  induction n with
  | zero => intro n' todo fr H r _ hr; simp [run] at hr
  | succ n ih =>
    intro n' todo fr H r hn hr
    obtain ⟨m, rfl⟩ : ∃ m, n' = m + 1 := ⟨n' - 1, by omega⟩
    have hnm : n ≤ m := by omega
    cases todo with
    | nil => simpa only [run] using hr
    | cons it k =>
      cases it with
      | inBlock id => simp only [run] at hr ⊢; exact ih hnm hr
      | inLoop c => simp only [run] at hr ⊢; exact ih hnm hr
      | code c =>
        cases c with
        | skip => simp only [run] at hr ⊢; exact ih hnm hr
        | label l => simp only [run] at hr ⊢; exact ih hnm hr
        | seq x y => simp only [run] at hr ⊢; exact ih hnm hr
        | block id c => simp only [run] at hr ⊢; exact ih hnm hr
        | loop c => simp only [run] at hr ⊢; exact ih hnm hr
        | ret => simpa only [run] using hr
        | exit id =>
          simp only [run] at hr ⊢
          split at hr
          · exact ih hnm hr
          · cases hr
        | cond c x y =>
          simp only [run] at hr ⊢
          split at hr
          · split at hr
            · rw [if_pos ‹_›]; exact ih hnm hr
            · rw [if_neg ‹_›]; exact ih hnm hr
          · cases hr
        | region id ops draw =>
          cases draw with
          | false =>
            simp only [run] at hr ⊢
            split at hr
            · rename_i hl
              rw [lops_mono h hl]
              exact ih hnm hr
            · cases hr
          | true =>
            simp only [run] at hr ⊢
            split at hr
            · rename_i hl
              rw [lmix_mono h hl]
              exact ih hnm hr
            · cases hr
        | _ => simp [run] at hr
      | _ => simp [run] at hr
end
section
variable {P : Program} {ext : Ext}
theorem lcall_succ : ∀ n, Tle (lcall P ext n) (lcall P ext (n + 1)) := by
  intro n
  induction n with
  | zero => intro f args H r h; simp [lcall] at h
  | succ n ih =>
    intro f args H r h
    unfold lcall at h ⊢
    split at h
    · exact h
    · split at h
      · split at h
        · split at h
          · rw [if_pos ‹_›]
            obtain ⟨x, hx, e⟩ := Option.map_eq_some_iff.1 h
            exact Option.map_eq_some_iff.2 ⟨x, run_mono ih (Nat.le_succ n) hx, e⟩
          · cases h
        · cases h
      · cases h
theorem lcall_mono {n m : Nat} (h : n ≤ m) : Tle (lcall P ext n) (lcall P ext m) := by
  induction h with
  | refl => exact fun _ _ _ _ h => h
  | step _ ih => exact fun f a H r hr => lcall_succ _ f a H r (ih f a H r hr)

open Classical in
/-- WHAT A CALL COMES TO. -/
noncomputable def LC (P : Program) (ext : Ext) : Callee := fun f args H => if h : ∃ r n, lcall P ext n f args H = some r then some (Classical.choose h) else none
theorem LC_spec {f : FuncId} {args : List Value} {H : LH} {r : Value × LH} : LC P ext f args H = some r ↔ ∃ n, lcall P ext n f args H = some r := by
  unfold LC
  constructor
  · intro h
    split at h
    · rename_i hex
      injection h with h
      rw [← h]; exact Classical.choose_spec hex
    · cases h
  · rintro ⟨n, hn⟩
    have hex : ∃ r n, lcall P ext n f args H = some r := ⟨r, n, hn⟩
    rw [dif_pos hex]
    obtain ⟨m, hm⟩ := Classical.choose_spec hex
    have h1 := lcall_mono (Nat.le_max_left n m) _ _ _ _ hn
    have h2 := lcall_mono (Nat.le_max_right n m) _ _ _ _ hm
    rw [h1] at h2
    exact h2.symm
theorem LC_ok (hext : ExtOk P ext) (hm : P.follows .mixedOrders = true) : TOk P (LC P ext) := by
  intro f args H v H' h
  obtain ⟨n, hn⟩ := LC_spec.1 h
  exact lcall_ok hext hm n f args H v H' hn

/-- finitely many calls want finite depth -/
theorem lop_fin {o : Oper} {fr : Fr} {H : LH} {r : Value × LH} (hr : lop P (LC P ext) o fr H = some r) : ∃ k, lop P (lcall P ext k) o fr H = some r := by
  obtain ⟨dst, op, ty, pos, after, guard⟩ := o
  cases op with
  | call c =>
    simp only [lop] at hr ⊢
    cases hc : c.callee with
    | value f =>
      simp only [hc, lcallee] at hr ⊢
      split at hr
      · split at hr
        · rename_i h0
          obtain ⟨k, hk⟩ := LC_spec.1 hr
          exact ⟨k, by rw [if_pos h0]; exact hk⟩
        · cases hr
      · cases hr
    | builtin b => simp only [hc] at hr ⊢; exact ⟨0, hr⟩
    | invoke x y => simp [hc] at hr
  | makeFunc f _ _ => cases f <;> exact ⟨0, hr⟩
  | slice _ _ _ _ mx => cases mx <;> exact ⟨0, hr⟩
  | _ => exact ⟨0, hr⟩
theorem lquiet_fin {o : Oper} {fr : Fr} {H : LH} {r : Value} (hr : lquiet P (LC P ext) o fr H = some r) : ∃ k, lquiet P (lcall P ext k) o fr H = some r := by
  obtain ⟨dst, op, ty, pos, after, guard⟩ := o
  cases op with
  | call c =>
    simp only [lquiet] at hr ⊢
    cases hc : c.callee with
    | value f =>
      simp only [hc, lcallee] at hr ⊢
      split at hr
      · rename_i u H1 hcal
        split at hcal
        · rename_i g first captured hf
          split at hcal
          · rename_i h0
            obtain ⟨k, hk⟩ := LC_spec.1 hcal
            refine ⟨k, ?_⟩
            rw [if_pos h0, hk]
            exact hr
          · cases hcal
        · cases hcal
      · cases hr
    | builtin b =>
      cases b <;> exact ⟨0, by simpa only [lquiet, hc] using hr⟩
    | invoke x y => simp [hc] at hr
  | makeFunc f _ _ => cases f <;> exact ⟨0, hr⟩
  | slice _ _ _ _ mx => cases mx <;> exact ⟨0, hr⟩
  | _ => exact ⟨0, hr⟩
theorem lops_fin {N : Nat} {all : Array Oper} : ∀ {os : List Oper} {fr : Fr} {H : LH} {r : Fr × LH}, lops P (LC P ext) N all os fr H = some r → ∃ k, lops P (lcall P ext k) N all os fr H = some r
  | [], fr, H, r, hr => ⟨0, hr⟩
  | o :: os, fr, H, r, hr => by
    unfold lops at hr
    split at hr
    · rename_i hw
      split at hr
      · rename_i v H1 ho
        split at hr
        · rename_i fr1 hp
          obtain ⟨k1, h1⟩ := lop_fin ho
          obtain ⟨k2, h2⟩ := lops_fin hr
          refine ⟨max k1 k2, ?_⟩
          unfold lops
          rw [hw, lop_mono (lcall_mono (Nat.le_max_left k1 k2)) h1]
          simp only [hp]
          exact lops_mono (lcall_mono (Nat.le_max_right k1 k2)) h2
        · cases hr
      · cases hr
    · rename_i hw
      split at hr
      · rename_i fr1 hp
        obtain ⟨k2, h2⟩ := lops_fin hr
        refine ⟨k2, ?_⟩
        unfold lops
        rw [hw]
        simp only [hp]
        exact h2
      · cases hr
    · cases hr
theorem lmixop_fin {o : Oper} {fr : Fr} {H0 H : LH} {r : Value × LH} (hr : lmixop P (LC P ext) o fr H0 H = some r) : ∃ k, lmixop P (lcall P ext k) o fr H0 H = some r := by
  have key : lop P (LC P ext) o fr H = some r → ∃ k, lop P (lcall P ext k) o fr H = some r := lop_fin
  obtain ⟨dst, op, ty, pos, after, guard⟩ := o
  cases op with
  | call c =>
    simp only [lmixop] at hr ⊢
    cases hc : c.callee with
    | value f =>
      simp only [hc] at hr ⊢
      split at hr
      · obtain ⟨u, hu, e⟩ := Option.map_eq_some_iff.1 hr
        obtain ⟨k, hk⟩ := lquiet_fin hu
        refine ⟨k, ?_⟩
        rw [if_pos ‹_›]
        exact Option.map_eq_some_iff.2 ⟨u, hk, e⟩
      · cases hr
    | builtin b => simp only [hc] at hr ⊢; refine ⟨0, ?_⟩; cases b <;> exact hr
    | invoke x y => simp [hc] at hr
  | store _ _ _ => simp [lmixop] at hr
  | makeSlice _ _ _ => simp [lmixop] at hr
  | _ => simp only [lmixop] at hr ⊢; exact key hr
theorem lmix_fin {L : Loud} {N : Nat} {all : Array Oper} {H0 : LH} : ∀ {os : List Oper} {fr : Fr} {H : LH} {r : Fr × LH}, lmix P L (LC P ext) N all H0 os fr H = some r → ∃ k, lmix P L (lcall P ext k) N all H0 os fr H = some r
  | [], fr, H, r, hr => ⟨0, hr⟩
  | o :: os, fr, H, r, hr => by
    unfold lmix at hr
    split at hr
    · rename_i hl
      obtain ⟨k, hk⟩ := lops_fin hr
      refine ⟨k, ?_⟩
      unfold lmix
      rw [if_pos hl]; exact hk
    · rename_i hl
      split at hr
      · cases hr
      · rename_i d hd
        split at hr
        · rename_i hdN
          split at hr
          · rename_i hw
            split at hr
            · rename_i v H1 hop
              obtain ⟨k1, h1⟩ := lmixop_fin hop
              obtain ⟨k2, h2⟩ := lmix_fin hr
              refine ⟨max k1 k2, ?_⟩
              unfold lmix
              rw [if_neg hl]
              simp only [hd, if_pos hdN, hw, lmixop_mono (lcall_mono (Nat.le_max_left k1 k2)) h1]
              exact lmix_mono (lcall_mono (Nat.le_max_right k1 k2)) h2
            · cases hr
          · rename_i hw
            obtain ⟨k2, h2⟩ := lmix_fin hr
            refine ⟨k2, ?_⟩
            unfold lmix
            rw [if_neg hl]
            simp only [hd, if_pos hdN, hw]
            exact h2
          · cases hr
        · cases hr
theorem run_fin {fn : Func} : ∀ {n : Nat} {todo : List Item} {fr : Fr} {H : LH} {r : Value × LH}, run P ext.loud (LC P ext) fn n todo fr H = some r → ∃ k, run P ext.loud (lcall P ext k) fn n todo fr H = some r := by
  intro n
  induction n with
  | zero => intro todo fr H r hr; simp [run] at hr
  | succ n ih =>
    intro todo fr H r hr
    cases todo with
    | nil => exact ⟨0, by simpa only [run] using hr⟩
    | cons it k =>
      cases it with
      | inBlock id => simp only [run] at hr ⊢; exact ih hr
      | inLoop c => simp only [run] at hr ⊢; exact ih hr
      | code c =>
        cases c with
        | skip => simp only [run] at hr ⊢; exact ih hr
        | label l => simp only [run] at hr ⊢; exact ih hr
        | seq x y => simp only [run] at hr ⊢; exact ih hr
        | block id c => simp only [run] at hr ⊢; exact ih hr
        | loop c => simp only [run] at hr ⊢; exact ih hr
        | ret => exact ⟨0, by simpa only [run] using hr⟩
        | exit id =>
          simp only [run] at hr ⊢
          cases hx : exitTo id k with
          | none => simp [hx] at hr
          | some k' => simp only [hx] at hr ⊢; exact ih hr
        | cond c x y =>
          simp only [run] at hr ⊢
          cases he : ev fr c with
          | bool t =>
            simp only [he] at hr ⊢
            cases t <;> exact ih hr
          | _ => simp [he] at hr
        | region id ops draw =>
          cases draw with
          | false =>
            simp only [run] at hr ⊢
            split at hr
            · rename_i fr1 H1 hl
              obtain ⟨k1, h1⟩ := lops_fin hl
              obtain ⟨k2, h2⟩ := ih hr
              refine ⟨max k1 k2, ?_⟩
              rw [lops_mono (lcall_mono (Nat.le_max_left k1 k2)) h1]
              exact run_mono (lcall_mono (Nat.le_max_right k1 k2)) (Nat.le_refl n) h2
            · cases hr
          | true =>
            simp only [run] at hr ⊢
            split at hr
            · rename_i fr1 H1 hl
              obtain ⟨k1, h1⟩ := lmix_fin hl
              obtain ⟨k2, h2⟩ := ih hr
              refine ⟨max k1 k2, ?_⟩
              rw [lmix_mono (lcall_mono (Nat.le_max_left k1 k2)) h1]
              exact run_mono (lcall_mono (Nat.le_max_right k1 k2)) (Nat.le_refl n) h2
            · cases hr
        | _ => simp [run] at hr
      | _ => simp [run] at hr
/-- A function's body runs: that is what a call of it comes to. -/
theorem LC_body {f : FuncId} {fn : Func} {c : Code} {args : List Value} {H : LH} {n : Nat} {r : Value × LH} (he : ext f = none) (hf : P.funcs[f]? = some fn) (hb : fn.body = some c) (hN : args.length ≤ fn.ntmps) (hname : fn.name ≠ "runtime.NumGoroutine") (hcd : codeOk ext.loud c = true)
    (hr : run P ext.loud (LC P ext) fn n [.code c] (enter args) H = some r) : LC P ext f args H = some (trunc H r) := by
  obtain ⟨k, hk⟩ := run_fin hr
  refine LC_spec.2 ⟨max n k + 1, ?_⟩
  unfold lcall
  simp only [he, hf, hb, if_pos (And.intro hN (And.intro hname hcd))]
  rw [run_mono (lcall_mono (Nat.le_max_right n k)) (Nat.le_max_left n k) hk]
  rfl
theorem LC_ext {f : FuncId} {s : List Value → LH → Option (Value × LH)} {args : List Value} {H : LH} {r : Value × LH} (he : ext f = some s) (hr : s args H = some r) : LC P ext f args H = some r :=
  LC_spec.2 ⟨1, by unfold lcall; simp only [he]; exact hr⟩
end
end Go.Lg
/-
  A logical run of Go code: rules by which a run is reckoned.
-/
set_option linter.unusedSimpArgs false
set_option linter.unusedVariables false
namespace Go.Lg
open Go.Tg Go.RowKit

def Runs (P : Program) (E : Ext) (fn : Func) (k : List Item) (fr : Fr) (H : LH) (Q : Value × LH → Prop) : Prop := ∃ n r, run P E.loud (LC P E) fn n k fr H = some r ∧ Q r
def ROps (P : Program) (E : Ext) (fn : Func) (all : Array Oper) (os : List Oper) (k : List Item) (fr : Fr) (H : LH) (Q : Value × LH → Prop) : Prop := ∃ n r, (match lops P (LC P E) fn.ntmps all os fr H with | some (fr', H') => run P E.loud (LC P E) fn n k fr' H' | none => none) = some r ∧ Q r
def RMix (P : Program) (E : Ext) (fn : Func) (all : Array Oper) (H0 : LH) (os : List Oper) (k : List Item) (fr : Fr) (H : LH) (Q : Value × LH → Prop) : Prop := ∃ n r, (match lmix P E.loud (LC P E) fn.ntmps all H0 os fr H with | some (fr', H') => run P E.loud (LC P E) fn n k fr' H' | none => none) = some r ∧ Q r
/-- an operation has yielded -/
def Step (P : Program) (E : Ext) (fn : Func) (x : Option (Value × LH)) (d : Nat) (all : Array Oper) (os : List Oper) (k : List Item) (fr : Fr) (Q : Value × LH → Prop) : Prop :=
  match x with
  | some (v, H) => d < fn.ntmps ∧ ROps P E fn all os k (upd fr d v) H Q
  | none => False
def MStep (P : Program) (E : Ext) (fn : Func) (x : Option (Value × LH)) (d : Nat) (all : Array Oper) (H0 : LH) (os : List Oper) (k : List Item) (fr : Fr) (Q : Value × LH → Prop) : Prop :=
  match x with
  | some (v, H) => d < fn.ntmps ∧ RMix P E fn all H0 os k (upd fr d v) H Q
  | none => False
/-- a choice between two ways -/
def RSel (b : Bool) (A B : Prop) : Prop := match b with | true => A | false => B
/-- the results -/
def RRes (x : Option Value) (H : LH) (Q : Value × LH → Prop) : Prop := match x with | some v => Q (v, H) | none => False
def lopx (P : Program) (T : Callee) (op : Op) (fr : Fr) (H : LH) : Option (Value × LH) := lop P T ⟨none, op, 0, "", #[], none⟩ fr H
def lmixx (P : Program) (T : Callee) (op : Op) (fr : Fr) (H0 H : LH) : Option (Value × LH) := lmixop P T ⟨none, op, 0, "", #[], none⟩ fr H0 H
/-- is a guarded operation carried out? -/
def guardx (all : Array Oper) (fr : Fr) (j : Nat) (want : Bool) : Option Bool :=
  match (all[j]?).bind (·.dst) with
  | none => some false
  | some d => match fr d with
    | .bool b => some (b == want)
    | v => if flatB v then some false else none
def GStep (P : Program) (E : Ext) (fn : Func) (g : Option Bool) (op : Op) (d : Nat) (all : Array Oper) (os : List Oper) (k : List Item) (fr : Fr) (H : LH) (Q : Value × LH → Prop) : Prop :=
  match g with
  | some true => Step P E fn (lopx P (LC P E) op fr H) d all os k fr Q
  | some false => d < fn.ntmps ∧ ROps P E fn all os k (upd fr d undef) H Q
  | none => False
def GMStep (P : Program) (E : Ext) (fn : Func) (g : Option Bool) (op : Op) (d : Nat) (all : Array Oper) (H0 : LH) (os : List Oper) (k : List Item) (fr : Fr) (H : LH) (Q : Value × LH → Prop) : Prop :=
  match g with
  | some true => MStep P E fn (lmixx P (LC P E) op fr H0 H) d all H0 os k fr Q
  | some false => d < fn.ntmps ∧ RMix P E fn all H0 os k (upd fr d undef) H Q
  | none => False

section
variable {P : Program} {E : Ext} {fn : Func} {k : List Item} {fr : Fr} {H H' H0 : LH} {Q : Value × LH → Prop} {all : Array Oper} {os : List Oper} {ty : TypeId} {pos : String} {after : Array Edge} {d : Nat} {op : Op}
theorem lop_x (dst : Option Tmp) (g : Option (Nat × Bool)) (T : Callee) : lop P T ⟨dst, op, ty, pos, after, g⟩ fr H = lopx P T op fr H := rfl
theorem lmixop_x (dst : Option Tmp) (g : Option (Nat × Bool)) (T : Callee) : lmixop P T ⟨dst, op, ty, pos, after, g⟩ fr H0 H = lmixx P T op fr H0 H := by
  cases op <;> rfl
theorem ex_succ {p : Nat → Prop} (h0 : ¬ p 0) : (∃ n, p n) ↔ ∃ n, p (n + 1) := ⟨fun ⟨n, h⟩ => by cases n with | zero => exact absurd h h0 | succ n => exact ⟨n, h⟩, fun ⟨n, h⟩ => ⟨_, h⟩⟩
theorem run0 {L : Loud} {T : Callee} : run P L T fn 0 k fr H = none := rfl
theorem runs_nil : Runs P E fn [] fr H Q ↔ RRes (lresults P fn fr H) H Q := by
  unfold Runs; rw [ex_succ (by simp [run])]; simp only [run]; unfold RRes; cases lresults P fn fr H <;> simp
theorem runs_skip : Runs P E fn (.code .skip :: k) fr H Q ↔ Runs P E fn k fr H Q := by
  unfold Runs; rw [ex_succ (by simp [run])]; simp only [run]
theorem runs_label {l : Nat} : Runs P E fn (.code (.label l) :: k) fr H Q ↔ Runs P E fn k fr H Q := by
  unfold Runs; rw [ex_succ (by simp [run])]; simp only [run]
theorem runs_seq {x y : Code} : Runs P E fn (.code (.seq x y) :: k) fr H Q ↔ Runs P E fn (.code x :: .code y :: k) fr H Q := by
  unfold Runs; rw [ex_succ (by simp [run])]; simp only [run]
theorem runs_block {id : Nat} {x : Code} : Runs P E fn (.code (.block id x) :: k) fr H Q ↔ Runs P E fn (.code x :: .inBlock id :: k) fr H Q := by
  unfold Runs; rw [ex_succ (by simp [run])]; simp only [run]
theorem runs_inBlock {id : Nat} : Runs P E fn (.inBlock id :: k) fr H Q ↔ Runs P E fn k fr H Q := by
  unfold Runs; rw [ex_succ (by simp [run])]; simp only [run]
theorem runs_loop {x : Code} : Runs P E fn (.code (.loop x) :: k) fr H Q ↔ Runs P E fn (.inLoop x :: k) fr H Q := by
  unfold Runs; rw [ex_succ (by simp [run])]; rw [ex_succ (p := fun n => ∃ r, run P E.loud (LC P E) fn n (.inLoop x :: k) fr H = some r ∧ Q r) (by simp [run])]; simp only [run]
theorem runs_inLoop {x : Code} : Runs P E fn (.inLoop x :: k) fr H Q ↔ Runs P E fn (.code x :: .inLoop x :: k) fr H Q := by
  unfold Runs; rw [ex_succ (by simp [run])]; simp only [run]
theorem runs_ret : Runs P E fn (.code .ret :: k) fr H Q ↔ RRes (lresults P fn fr H) H Q := by
  unfold Runs; rw [ex_succ (by simp [run])]; simp only [run]; unfold RRes; cases lresults P fn fr H <;> simp
theorem runs_exit {id : Nat} : Runs P E fn (.code (.exit id) :: k) fr H Q ↔ match exitTo id k with | some k' => Runs P E fn k' fr H Q | none => False := by
  unfold Runs; rw [ex_succ (by simp [run])]; simp only [run]
  cases exitTo id k <;> simp
theorem runs_cond {c : Operand} {x y : Code} {b : Bool} (h : ev fr c = .bool b) : Runs P E fn (.code (.cond c x y) :: k) fr H Q ↔ if b = true then Runs P E fn (.code x :: k) fr H Q else Runs P E fn (.code y :: k) fr H Q := by
  unfold Runs; rw [ex_succ (by simp [run])]; simp only [run, h]
  cases b <;> simp
theorem runs_region {id : Nat} {l : List Oper} : Runs P E fn (.code (.region id ⟨l⟩ false) :: k) fr H Q ↔ ROps P E fn ⟨l⟩ l k fr H Q := by
  unfold Runs ROps; rw [ex_succ (by simp [run])]; simp only [run]; exact Iff.rfl
theorem runs_draw {id : Nat} {l : List Oper} : Runs P E fn (.code (.region id ⟨l⟩ true) :: k) fr H Q ↔ RMix P E fn ⟨l⟩ H l k fr H Q := by
  unfold Runs RMix; rw [ex_succ (by simp [run])]; simp only [run]; exact Iff.rfl
theorem rops_nil : ROps P E fn all [] k fr H Q ↔ Runs P E fn k fr H Q := by
  unfold ROps Runs; simp only [lops]
theorem rmix_nil : RMix P E fn all H0 [] k fr H Q ↔ Runs P E fn k fr H Q := by
  unfold RMix Runs; simp only [lmix]
theorem rops_cons : ROps P E fn all (⟨some d, op, ty, pos, after, none⟩ :: os) k fr H Q ↔ Step P E fn (lopx P (LC P E) op fr H) d all os k fr Q := by
  unfold ROps Step; simp only [lops, lwant, lop_x]
  cases lopx P (LC P E) op fr H with
  | none => simp
  | some x =>
    obtain ⟨v, H1⟩ := x
    simp only [lput]
    by_cases hd : d < fn.ntmps
    · simp only [hd, ROps, true_and, if_true]
    · simp [hd]
theorem rops_cons0 : ROps P E fn all (⟨none, op, ty, pos, after, none⟩ :: os) k fr H Q ↔ match lopx P (LC P E) op fr H with | some (_, H') => ROps P E fn all os k fr H' Q | none => False := by
  unfold ROps; simp only [lops, lwant, lop_x]
  cases lopx P (LC P E) op fr H with
  | none => simp
  | some x => simp only [lput]
theorem rmix_cons : RMix P E fn all H0 (⟨some d, op, ty, pos, after, none⟩ :: os) k fr H Q ↔ RSel (loudOp E.loud op) (ROps P E fn all (⟨some d, op, ty, pos, after, none⟩ :: os) k fr H Q) (MStep P E fn (lmixx P (LC P E) op fr H0 H) d all H0 os k fr Q) := by
  unfold RMix RSel
  cases hl : loudOp E.loud op with
  | true => unfold ROps; simp only [lmix, hl, if_true]
  | false =>
    unfold MStep; simp only [lmix, hl, Bool.false_eq_true, if_false, lwant, lmixop_x]
    by_cases hd : d < fn.ntmps
    · simp only [if_pos hd]
      cases lmixx P (LC P E) op fr H0 H with
      | none => simp
      | some x => simp only [hd, RMix, true_and]
    · simp only [if_neg hd]
      cases lmixx P (LC P E) op fr H0 H with
      | none => simp
      | some x => simp [hd]
theorem rmix_cons0 : RMix P E fn all H0 (⟨none, op, ty, pos, after, none⟩ :: os) k fr H Q ↔ RSel (loudOp E.loud op) (ROps P E fn all (⟨none, op, ty, pos, after, none⟩ :: os) k fr H Q) False := by
  unfold RMix RSel
  cases hl : loudOp E.loud op with
  | true => unfold ROps; simp only [lmix, hl, if_true]
  | false => simp [lmix, hl]
theorem lwant_x {j : Nat} {want : Bool} {dst : Option Tmp} : lwant all fr ⟨dst, op, ty, pos, after, some (j, want)⟩ = guardx all fr j want := rfl
theorem rops_guard {j : Nat} {want : Bool} : ROps P E fn all (⟨some d, op, ty, pos, after, some (j, want)⟩ :: os) k fr H Q ↔ GStep P E fn (guardx all fr j want) op d all os k fr H Q := by
  unfold ROps GStep; simp only [lops, lwant_x, lop_x]
  cases guardx all fr j want with
  | none => simp
  | some b =>
    cases b with
    | true =>
      simp only [Step]
      cases lopx P (LC P E) op fr H with
      | none => simp
      | some x =>
        obtain ⟨v, H1⟩ := x
        simp only [lput]
        by_cases hd : d < fn.ntmps
        · simp only [hd, ROps, true_and, if_true]
        · simp [hd]
    | false =>
      simp only [lput]
      by_cases hd : d < fn.ntmps
      · simp only [hd, ROps, true_and, if_true]
      · simp [hd]
theorem rmix_guard {j : Nat} {want : Bool} : RMix P E fn all H0 (⟨some d, op, ty, pos, after, some (j, want)⟩ :: os) k fr H Q ↔ RSel (loudOp E.loud op) (ROps P E fn all (⟨some d, op, ty, pos, after, some (j, want)⟩ :: os) k fr H Q) (GMStep P E fn (guardx all fr j want) op d all H0 os k fr H Q) := by
  unfold RMix RSel
  cases hl : loudOp E.loud op with
  | true => unfold ROps; simp only [lmix, hl, if_true]
  | false =>
    unfold GMStep; simp only [lmix, hl, Bool.false_eq_true, if_false, lwant_x, lmixop_x]
    by_cases hd : d < fn.ntmps
    · simp only [if_pos hd]
      cases guardx all fr j want with
      | none => simp
      | some b =>
        cases b with
        | true =>
          unfold MStep
          simp only
          cases lmixx P (LC P E) op fr H0 H with
          | none => simp
          | some x => simp only [hd, RMix, true_and]
        | false => simp only [hd, RMix, true_and]
    · simp only [if_neg hd]
      cases guardx all fr j want with
      | none => simp
      | some b =>
        cases b with
        | true =>
          unfold MStep
          simp only
          cases lmixx P (LC P E) op fr H0 H with
          | none => simp
          | some x => simp [hd]
        | false => simp [hd]
theorem step_some {v : Value} : Step P E fn (some (v, H)) d all os k fr Q ↔ d < fn.ntmps ∧ ROps P E fn all os k (upd fr d v) H Q := Iff.rfl
theorem mstep_some {v : Value} : MStep P E fn (some (v, H)) d all H0 os k fr Q ↔ d < fn.ntmps ∧ RMix P E fn all H0 os k (upd fr d v) H Q := Iff.rfl
theorem rsel_true {A B : Prop} : RSel true A B ↔ A := Iff.rfl
theorem rsel_false {A B : Prop} : RSel false A B ↔ B := Iff.rfl
theorem gstep_true : GStep P E fn (some true) op d all os k fr H Q ↔ Step P E fn (lopx P (LC P E) op fr H) d all os k fr Q := Iff.rfl
theorem gstep_false : GStep P E fn (some false) op d all os k fr H Q ↔ d < fn.ntmps ∧ ROps P E fn all os k (upd fr d undef) H Q := Iff.rfl
theorem gmstep_true : GMStep P E fn (some true) op d all H0 os k fr H Q ↔ MStep P E fn (lmixx P (LC P E) op fr H0 H) d all H0 os k fr Q := Iff.rfl
theorem gmstep_false : GMStep P E fn (some false) op d all H0 os k fr H Q ↔ d < fn.ntmps ∧ RMix P E fn all H0 os k (upd fr d undef) H Q := Iff.rfl
/-- a loop: a relation that each round hands on, a measure that each round lowers -/
theorem loop_ind {St : Type} (R : St → Fr → LH → Prop) (μ : St → Nat) {x : Code} (st : St) (h : R st fr H)
    (step : ∀ st fr H, R st fr H → (∀ st' fr' H', μ st' < μ st → R st' fr' H' → Runs P E fn (.inLoop x :: k) fr' H' Q) → Runs P E fn (.code x :: .inLoop x :: k) fr H Q) : Runs P E fn (.code (.loop x) :: k) fr H Q := by
  have key : ∀ m st fr H, μ st < m → R st fr H → Runs P E fn (.inLoop x :: k) fr H Q := by
    intro m
    induction m with
    | zero => intro st fr H hm; omega
    | succ m ih =>
      intro st fr H hm hR
      exact runs_inLoop.2 (step st fr H hR (fun st' fr' H' hlt hR' => ih st' fr' H' (by omega) hR'))
  exact runs_loop.2 (key (μ st + 1) st fr H (Nat.lt_succ_self _) h)
theorem LC_runs {f : FuncId} {c : Code} {args : List Value} (he : E f = none) (hf : P.funcs[f]? = some fn) (hb : fn.body = some c) (hN : args.length ≤ fn.ntmps) (hname : fn.name ≠ "runtime.NumGoroutine") (hcd : codeOk E.loud c = true)
    (hr : Runs P E fn [.code c] (enter args) H Q) : ∃ r, LC P E f args H = some (trunc H r) ∧ Q r := by
  obtain ⟨n, r, hn, hq⟩ := hr
  exact ⟨r, LC_body he hf hb hN hname hcd hn, hq⟩
theorem trunc_flat {v : Value} (hv : flatB v = true) (hle : H.le H') : trunc H (v, H') = (v, H) := by
  unfold trunc; rw [if_pos ⟨hv, hle⟩]
theorem LC_pure {f : FuncId} {c : Code} {args : List Value} {v : Value} (he : E f = none) (hf : P.funcs[f]? = some fn) (hb : fn.body = some c) (hN : args.length ≤ fn.ntmps) (hname : fn.name ≠ "runtime.NumGoroutine") (hcd : codeOk E.loud c = true)
    (hv : flatB v = true) (hr : Runs P E fn [.code c] (enter args) H (fun r => r.1 = v ∧ H.le r.2)) : LC P E f args H = some (v, H) := by
  obtain ⟨⟨v', H'⟩, h, rfl, hle⟩ := LC_runs he hf hb hN hname hcd hr
  rw [h, trunc_flat hv hle]
theorem le_refl : H.le H := ⟨Nat.le_refl _, fun _ _ => rfl⟩
end
end Go.Lg
/-
  A logical run of Go code: what operations come to on given values.
-/
set_option linter.unusedSimpArgs false
set_option linter.unusedVariables false
namespace Go.Lg
open Go.Tg Go.RowKit

section
variable {P : Program}
@[simp] theorem pureVal_bind {α β : Type} (s : Sem α) (f : α → Sem β) : pureVal P (s >>= f) = (pureVal P s).bind fun x => pureVal P (f x) := by
  show pureVal P (s.bind f) = _
  induction s with
  | pure a => rfl
  | program k ih => exact ih P
  | mark m k ih => exact ih
  | _ => rfl
@[simp] theorem pureVal_pure {α : Type} (x : α) : pureVal P (pure x : Sem α) = some x := rfl
@[simp] theorem pureVal_program : pureVal P program = some P := rfl
@[simp] theorem pureVal_und (t : TypeId) : pureVal P (underlying t) = P.underlying t := by
  unfold underlying
  rw [pureVal_bind, pureVal_program, Option.bind_some]
  cases P.underlying t <;> rfl
@[simp] theorem pureVal_sizeOf (t : TypeId) : pureVal P (sizeOf t) = sz P t := by
  unfold sizeOf typeInfo sz
  simp only [pureVal_bind, pureVal_program, Option.bind_some]
  cases P.info? t <;> rfl
end
/-- a string, a pointer, a slice from a row's head -/
def str (l : List UInt8) : Value := .string ⟨l.toArray⟩
theorem str_ba (s : ByteArray) : Value.string s = str s.data.toList := by cases s; rfl

attribute [simp ↓] runs_skip runs_label runs_seq runs_block runs_inBlock runs_region runs_draw rops_nil rmix_nil rops_cons rmix_cons rmix_cons0 rops_guard rmix_guard
@[congr] theorem rres_congr {x y : Option Value} {H : LH} {Q : Value × LH → Prop} (h : x = y) : RRes x H Q = RRes y H Q := by rw [h]
@[simp] theorem rres_some {v : Value} {H : LH} {Q : Value × LH → Prop} : RRes (some v) H Q ↔ Q (v, H) := Iff.rfl
@[simp] theorem rres_none {H : LH} {Q : Value × LH → Prop} : RRes none H Q ↔ False := Iff.rfl
attribute [simp] runs_nil runs_ret step_some mstep_some gstep_true gstep_false gmstep_true gmstep_false rsel_true rsel_false

section
variable {P : Program} {E : Ext} {fn : Func} {k : List Item} {fr : Fr} {H H' H0 : LH} {Q : Value × LH → Prop} {all : Array Oper} {os : List Oper} {d : Nat} {op : Op} {T : Callee}
@[congr] theorem step_congr {x y : Option (Value × LH)} (h : x = y) : Step P E fn x d all os k fr Q = Step P E fn y d all os k fr Q := by rw [h]
@[congr] theorem mstep_congr {x y : Option (Value × LH)} (h : x = y) : MStep P E fn x d all H0 os k fr Q = MStep P E fn y d all H0 os k fr Q := by rw [h]
@[congr] theorem rsel_congr {x y : Bool} {A B : Prop} (h : x = y) : RSel x A B = RSel y A B := by rw [h]
@[congr] theorem gstep_congr {x y : Option Bool} (h : x = y) : GStep P E fn x op d all os k fr H Q = GStep P E fn y op d all os k fr H Q := by rw [h]
@[congr] theorem gmstep_congr {x y : Option Bool} (h : x = y) : GMStep P E fn x op d all H0 os k fr H Q = GMStep P E fn y op d all H0 os k fr H Q := by rw [h]
@[simp] theorem step_none : Step P E fn none d all os k fr Q ↔ False := Iff.rfl
@[simp] theorem mstep_none : MStep P E fn none d all H0 os k fr Q ↔ False := Iff.rfl
@[simp ↓] theorem upd_get {v : Value} {t : Nat} : upd fr d v t = if t = d then v else fr t := rfl
@[simp ↓] theorem ev_tmp {t : Nat} : ev fr (.tmp t) = fr t := rfl
@[simp ↓] theorem ev_int {kd : IntKind} {n : Int} : ev fr (.const (.int kd n)) = .int kd n := rfl
@[simp ↓] theorem ev_bool {b : Bool} : ev fr (.const (.bool b)) = .bool b := rfl
@[simp ↓] theorem ev_str {l : List UInt8} : ev fr (.const (.string ⟨l.toArray⟩)) = str l := rfl
@[simp ↓] theorem ev_nil : ev fr (.const (.pointer none)) = .pointer none := rfl
@[simp ↓] theorem ev_nilslice : ev fr (.const (.slice none 0 0)) = .slice none 0 0 := rfl
@[simp ↓] theorem ev_func {f : FuncId} : ev fr (.func f) = .func (.func f) #[] #[] := rfl
def RCond (P : Program) (E : Ext) (fn : Func) (c : Value) (x y : Code) (k : List Item) (fr : Fr) (H : LH) (Q : Value × LH → Prop) : Prop :=
  match c with
  | .bool b => (b = true → Runs P E fn (.code x :: k) fr H Q) ∧ (b = false → Runs P E fn (.code y :: k) fr H Q)
  | _ => False
@[congr] theorem rcond_congr {c c' : Value} {x y : Code} (h : c = c') : RCond P E fn c x y k fr H Q = RCond P E fn c' x y k fr H Q := by rw [h]
@[simp ↓] theorem runs_cond' {c : Operand} {x y : Code} : Runs P E fn (.code (.cond c x y) :: k) fr H Q ↔ RCond P E fn (ev fr c) x y k fr H Q := by
  unfold RCond
  cases h : ev fr c with
  | bool b => rw [runs_cond h]; cases b <;> simp
  | _ =>
    simp only [iff_false]
    rintro ⟨n, r, hn, _⟩
    cases n with
    | zero => simp [run] at hn
    | succ n => simp [run, h] at hn
@[simp] theorem rcond_true {x y : Code} : RCond P E fn (.bool true) x y k fr H Q ↔ Runs P E fn (.code x :: k) fr H Q := by simp [RCond]
@[simp] theorem rcond_false {x y : Code} : RCond P E fn (.bool false) x y k fr H Q ↔ Runs P E fn (.code y :: k) fr H Q := by simp [RCond]
@[simp low] theorem rcond_b {b : Bool} {x y : Code} : RCond P E fn (.bool b) x y k fr H Q ↔ (b = true → Runs P E fn (.code x :: k) fr H Q) ∧ (b = false → Runs P E fn (.code y :: k) fr H Q) := Iff.rfl
@[simp ↓] theorem runs_exit' {id : Nat} : Runs P E fn (.code (.exit id) :: k) fr H Q ↔ match exitTo id k with | some k' => Runs P E fn k' fr H Q | none => False := runs_exit
@[simp] theorem exit_nil {id : Nat} : exitTo id [] = none := rfl
@[simp] theorem exit_block {id j : Nat} : exitTo id (.inBlock j :: k) = if j == id then some k else exitTo id k := rfl
@[simp] theorem exit_code {id : Nat} {c : Code} : exitTo id (.code c :: k) = exitTo id k := rfl
@[simp] theorem exit_loop {id : Nat} {c : Code} : exitTo id (.inLoop c :: k) = exitTo id k := rfl
def lnth : List Oper → Nat → Option Tmp
  | [], _ => none
  | o :: _, 0 => o.dst
  | _ :: l, n + 1 => lnth l n
theorem lnth_eq : ∀ (l : List Oper) (j : Nat), (l[j]?).bind (·.dst) = lnth l j
  | [], j => by cases j <;> rfl
  | o :: l, 0 => rfl
  | o :: l, n + 1 => lnth_eq l n
@[simp ↓] theorem lnth_zero {dst : Option Tmp} {op : Op} {ty : TypeId} {pos : String} {after : Array Edge} {g : Option (Nat × Bool)} {l : List Oper} : lnth (⟨dst, op, ty, pos, after, g⟩ :: l) 0 = dst := rfl
@[simp ↓] theorem lnth_succ {o : Oper} {l : List Oper} {n : Nat} : lnth (o :: l) (n + 1) = lnth l n := rfl
def gval (v : Value) (want : Bool) : Option Bool := match v with
  | .bool b => some (b == want)
  | v => if flatB v then some false else none
def gdst (d : Option Tmp) (fr : Fr) (want : Bool) : Option Bool := match d with
  | none => some false
  | some d => gval (fr d) want
@[simp ↓] theorem guardx_mk {l : List Oper} {j : Nat} {want : Bool} : guardx ⟨l⟩ fr j want = gdst (lnth l j) fr want := by
  unfold guardx
  rw [← lnth_eq]
  show (match (l.toArray[j]?).bind (·.dst) with | none => _ | some d => _) = _
  rw [List.getElem?_toArray]
  cases (l[j]?).bind (·.dst) <;> rfl
@[simp] theorem gdst_some {d : Nat} {want : Bool} : gdst (some d) fr want = gval (fr d) want := rfl
@[simp] theorem gval_true {b : Bool} : gval (.bool b) true = some b := by cases b <;> rfl
@[simp] theorem gval_false {b : Bool} : gval (.bool b) false = some (!b) := by cases b <;> rfl
@[simp] theorem gval_undef {want : Bool} : gval undef want = some false := rfl
theorem gstep_b {b : Bool} : GStep P E fn (some b) op d all os k fr H Q ↔ (b = true → Step P E fn (lopx P (LC P E) op fr H) d all os k fr Q) ∧ (b = false → d < fn.ntmps ∧ ROps P E fn all os k (upd fr d undef) H Q) := by cases b <;> simp
theorem gmstep_b {b : Bool} : GMStep P E fn (some b) op d all H0 os k fr H Q ↔ (b = true → MStep P E fn (lmixx P (LC P E) op fr H0 H) d all H0 os k fr Q) ∧ (b = false → d < fn.ntmps ∧ RMix P E fn all H0 os k (upd fr d undef) H Q) := by cases b <;> simp
attribute [simp low] gstep_b gmstep_b
/-! ### operations -/
@[simp ↓] theorem lopx_move {x : Operand} : lopx P T (.move x) fr H = some (ev fr x, H) := rfl
@[simp ↓] theorem lopx_assign {x : Operand} : lopx P T (.assign x) fr H = some (ev fr x, H) := rfl
def lpick (c a b : Value) (H : LH) : Option (Value × LH) := match c with | .bool t => some (if t then a else b, H) | _ => none
@[simp ↓] theorem lopx_pick {c x y : Operand} : lopx P T (.pick c x y) fr H = lpick (ev fr c) (ev fr x) (ev fr y) H := rfl
@[simp] theorem lpick_bool {t : Bool} {a b : Value} : lpick (.bool t) a b H = some (if t = true then a else b, H) := rfl
def withH (v : Option Value) (H : LH) : Option (Value × LH) := v.map fun v => (v, H)
@[simp] theorem withH_some {v : Value} : withH (some v) H = some (v, H) := rfl
@[simp ↓] theorem lopx_bin {op : BinOp} {t yt : TypeId} {x y : Operand} : lopx P T (.binOp op t x y yt) fr H = withH (lbin P op t (ev fr x) (ev fr y)) H := rfl
def lidx (P : Program) (t : TypeId) (x i : Value) : Option Value := if flatB x && flatB i then pureFlat P (Instr.index t x i) else none
@[simp ↓] theorem lopx_index {t : TypeId} {x i : Operand} : lopx P T (.index t x i) fr H = withH (lidx P t (ev fr x) (ev fr i)) H := by
  show (if flatB (ev fr x) && flatB (ev fr i) then _ else _) = withH (lidx _ _ _ _) _
  unfold lidx withH; split <;> rfl
def lun (P : Program) (op : UnOp) (x : Value) : Option Value := if flatB x then pureFlat P (Op.unary op x) else none
@[simp ↓] theorem lopx_un {op : UnOp} {t : TypeId} {x : Operand} : lopx P T (.unOp op t x) fr H = withH (lun P op (ev fr x)) H := by
  show (if flatB (ev fr x) then _ else _) = withH (lun _ _ _) _
  unfold lun withH; split <;> rfl
def lconv (P : Program) (s d : TypeId) (x : Value) (H : LH) : Option Value := if flatB x then pureFlat P (convert s d x) else lbstr P s d x H
@[simp ↓] theorem lopx_conv {s d : TypeId} {x : Operand} : lopx P T (.convert s d x) fr H = withH (lconv P s d (ev fr x) H) H := by
  show (if flatB (ev fr x) then _ else _) = withH (lconv _ _ _ _ _) _
  unfold lconv withH; split <;> rfl
def lextract (x : Value) (i : Nat) : Option Value := match x with | .tuple vs => vs[i]? | _ => none
@[simp ↓] theorem lopx_extract {x : Operand} {i : Nat} : lopx P T (.extract x i) fr H = withH (lextract (ev fr x) i) H := by
  show (match ev fr x with | .tuple vs => _ | _ => none) = withH (lextract _ _) _
  cases ev fr x <;> rfl
@[simp] theorem lextract_0 {a : Value} {l : List Value} : lextract (.tuple ⟨a :: l⟩) 0 = some a := rfl
@[simp] theorem lextract_1 {a b : Value} {l : List Value} : lextract (.tuple ⟨a :: b :: l⟩) 1 = some b := rfl
@[simp] theorem lextract_2 {a b c : Value} {l : List Value} : lextract (.tuple ⟨a :: b :: c :: l⟩) 2 = some c := rfl
@[simp] theorem lextract_3 {a b c d : Value} {l : List Value} : lextract (.tuple ⟨a :: b :: c :: d :: l⟩) 3 = some d := rfl
@[simp ↓] theorem lopx_call {f : Operand} {args : List Operand} {ts : Array TypeId} : lopx P T (.call ⟨.value f, ⟨args⟩, ts⟩) fr H = lcallee P T (ev fr f) (args.map (ev fr)) H := rfl
@[simp ↓] theorem lopx_builtin {b : Builtin} {args : List Operand} {ts : List TypeId} : lopx P T (.call ⟨.builtin b, ⟨args⟩, ⟨ts⟩⟩) fr H = lbuiltin P b ts (args.map (ev fr)) H := rfl
@[simp] theorem lcallee_func {g : FuncId} {args : List Value} : lcallee P T (.func (.func g) #[] #[]) args H = T g args H := by simp [lcallee]
/-! ### values -/
@[simp] theorem flat_int {kd : IntKind} {n : Int} : flatB (.int kd n) = true := by simp [flatB, flat1B, atomB, str]
@[simp] theorem flat_bool {b : Bool} : flatB (.bool b) = true := by simp [flatB, flat1B, atomB, str]
@[simp] theorem flat_str {l : List UInt8} : flatB (str l) = true := by simp [flatB, flat1B, atomB, str]
@[simp] theorem flat_string {s : ByteArray} : flatB (.string s) = true := by simp [flatB, flat1B, atomB, str]
@[simp] theorem flat_nil : flatB (.pointer none) = true := by simp [flatB, flat1B, atomB, str]
@[simp] theorem flat_nilslice : flatB (.slice none 0 0) = true := by simp [flatB, flat1B, atomB, str]
@[simp] theorem wrap64_in {n : Int} (h1 : -9223372036854775808 ≤ n) (h2 : n ≤ 9223372036854775807) : IntKind.i64.wrap n = n := IntWalk.i64_in _ ⟨h1, h2⟩
theorem lbin_ii {op : BinOp} {t : TypeId} {kd : IntKind} {a b : Int} {v : Value} (h : pureVal P (binOp op t (.int kd a) (.int kd b)) = some v) (hv : flatB v = true) : lbin P op t (.int kd a) (.int kd b) = some v := by
  have e : pureVal P (do eqGuard op t (.tmp 0) (.tmp 0) (.int kd a) (.int kd b); binOp op t (.int kd a) (.int kd b) : Sem Value) = some v := by
    rw [← h]; cases op <;> rfl
  show pureFlat P (do eqGuard op t (.tmp 0) (.tmp 0) _ _; binOp op t _ _) = some v
  unfold pureFlat
  rw [e]
  simp only [hv, if_true]
variable {t : TypeId} {kd : IntKind} {a b : Int}
@[simp] theorem lbin_add : lbin P .add t (.int kd a) (.int kd b) = some (.int kd (kd.wrap (a + b))) := lbin_ii (by simp [binOp, Op.intArith]) rfl
@[simp] theorem lbin_sub : lbin P .sub t (.int kd a) (.int kd b) = some (.int kd (kd.wrap (a - b))) := lbin_ii (by simp [binOp, Op.intArith]) rfl
@[simp] theorem lbin_mul : lbin P .mul t (.int kd a) (.int kd b) = some (.int kd (kd.wrap (a * b))) := lbin_ii (by simp [binOp, Op.intArith]) rfl
@[simp] theorem lbin_quo (h : b ≠ 0) : lbin P .quo t (.int kd a) (.int kd b) = some (.int kd (kd.wrap (a.tdiv b))) := lbin_ii (by simp [binOp, Op.intDiv, h]) rfl
@[simp] theorem lbin_rem (h : b ≠ 0) : lbin P .rem t (.int kd a) (.int kd b) = some (.int kd (a.tmod b)) := lbin_ii (by simp [binOp, Op.intDiv, h]) rfl
@[simp] theorem lbin_eq : lbin P .eql t (.int kd a) (.int kd b) = some (.bool (decide (a = b))) := lbin_ii (by by_cases h : a = b <;> simp [binOp, Op.intCmp, h]) rfl
@[simp] theorem lbin_ne : lbin P .neq t (.int kd a) (.int kd b) = some (.bool (decide (a ≠ b))) := lbin_ii (by
  simp only [binOp, Op.intCmp, ne_eq, not_true_eq_false, if_false]
  show some (Value.bool (a != b)) = _
  congr 2
  by_cases h : a = b <;> simp [h]) rfl
@[simp] theorem lbin_lt : lbin P .lss t (.int kd a) (.int kd b) = some (.bool (decide (a < b))) := lbin_ii (by simp [binOp, Op.intCmp]) rfl
@[simp] theorem lbin_le : lbin P .leq t (.int kd a) (.int kd b) = some (.bool (decide (a ≤ b))) := lbin_ii (by simp [binOp, Op.intCmp]) rfl
@[simp] theorem lbin_gt : lbin P .gtr t (.int kd a) (.int kd b) = some (.bool (decide (b < a))) := lbin_ii (by simp [binOp, Op.intCmp]) rfl
@[simp] theorem lbin_ge : lbin P .geq t (.int kd a) (.int kd b) = some (.bool (decide (b ≤ a))) := lbin_ii (by simp [binOp, Op.intCmp]) rfl
theorem lbin_ss {op : BinOp} {t : TypeId} {a b : List UInt8} {v : Value} (h : pureVal P (binOp op t (str a) (str b)) = some v) (hv : flatB v = true) : lbin P op t (str a) (str b) = some v := by
  have e : pureVal P (do eqGuard op t (.tmp 0) (.tmp 0) (str a) (str b); binOp op t (str a) (str b) : Sem Value) = some v := by
    rw [← h]; cases op <;> rfl
  show pureFlat P (do eqGuard op t (.tmp 0) (.tmp 0) _ _; binOp op t _ _) = some v
  unfold pureFlat
  rw [e]
  simp only [hv, if_true]
theorem ba_list (l : List UInt8) : (⟨l.toArray⟩ : ByteArray).toList = l := by rw [ba_toList]
theorem ba_size (l : List UInt8) : (⟨l.toArray⟩ : ByteArray).size = l.length := by show l.toArray.size = _; simp
variable {x y : List UInt8}
@[simp] theorem lbin_seq : lbin P .eql t (str x) (str y) = some (.bool (decide (x = y))) := lbin_ss (by
  simp only [str, binOp, Op.stringOp, ba_list]
  show some (Value.bool (x == y)) = _
  by_cases h : x = y <;> simp [h]) rfl
@[simp] theorem lbin_sne : lbin P .neq t (str x) (str y) = some (.bool (decide (x ≠ y))) := lbin_ss (by
  simp only [str, binOp, Op.stringOp, ba_list]
  show some (Value.bool (!(x == y))) = _
  by_cases h : x = y <;> simp [h]) rfl
@[simp] theorem lbin_cat (h : x.length + y.length ≤ 9223372036854775807) : lbin P .add t (str x) (str y) = some (str (x ++ y)) := lbin_ss (by
  simp only [str, binOp, Op.stringOp, ba_size]
  rw [if_neg (by rw [show IntKind.max .i64 = 9223372036854775807 from rfl]; omega)]
  show some (Value.string _) = _
  congr 2) rfl
theorem lbin_bb {op : BinOp} {t : TypeId} {a b : Bool} {v : Value} (h : pureVal P (binOp op t (.bool a) (.bool b)) = some v) (hv : flatB v = true) : lbin P op t (.bool a) (.bool b) = some v := by
  have e : pureVal P (do eqGuard op t (.tmp 0) (.tmp 0) (.bool a) (.bool b); binOp op t (.bool a) (.bool b) : Sem Value) = some v := by
    rw [← h]; cases op <;> rfl
  show pureFlat P (do eqGuard op t (.tmp 0) (.tmp 0) _ _; binOp op t _ _) = some v
  unfold pureFlat
  rw [e]
  simp only [hv, if_true]
@[simp] theorem lun_not {a : Bool} : lun P .not (.bool a) = some (.bool (!a)) := rfl
@[simp] theorem lun_neg {a : Int} : lun P .neg (.int kd a) = some (.int kd (kd.wrap (0 - a))) := rfl
/-- a string's byte -/
def at_ (l : List UInt8) (i : Int) : UInt8 := l.getD i.toNat 0
theorem lidx_str (hu : P.underlying t = some .string) {i : Int} (h0 : 0 ≤ i) (h1 : i < x.length) : lidx P t (str x) (.int kd i) = some (.int .u8 (at_ x i).toNat) := by
  have hlt : i.toNat < x.length := by omega
  have e : (⟨x.toArray⟩ : ByteArray)[i.toNat]? = some (at_ x i) := by
    unfold at_
    have : (⟨x.toArray⟩ : ByteArray)[i.toNat]? = x[i.toNat]? := by
      rw [getElem?_def, getElem?_def]
      simp only [ba_size]
      rfl
    rw [this, List.getD_eq_getElem?_getD, List.getElem?_eq_getElem hlt]; rfl
  have hp : pureVal P (Instr.index t (str x) (.int kd i)) = some (.int .u8 (at_ x i).toNat) := by
    simp only [Instr.index, str, asIntOf, pureVal_bind, pureVal_pure, Option.bind_some, pureVal_und, hu]
    rw [if_pos h0, e]; rfl
  show pureFlat P _ = _
  unfold pureFlat
  rw [hp]; rfl
theorem lbuiltin_len_str (hu : P.underlying t = some .string) : lbuiltin P .len [t] [str x] H = some (.int .i64 x.length, H) := by
  simp only [lbuiltin, str, hu, ba_size]
theorem lbuiltin_len_slice {e : TypeId} (hu : P.underlying t = some (.slice e)) {ad : Option Addr} {n c : Nat} : lbuiltin P .len [t] [.slice ad n c] H = some (.int .i64 n, H) := by
  simp only [lbuiltin, hu]
end
end Go.Lg
/-
  A logical run of Go code: what operations on memory, strings and slices come to.
-/
set_option linter.unusedSimpArgs false
set_option linter.unusedVariables false
namespace Go.Lg
open Go.Tg Go.RowKit

abbrev ptr (l off : Nat) : Value := .pointer (some ⟨l, off, none⟩)
abbrev sl (l n c : Nat) : Value := .slice (some ⟨l, 0, none⟩) n c
section
variable {P : Program} {E : Ext} {fn : Func} {k : List Item} {fr : Fr} {H H' : LH} {Q : Value × LH → Prop} {all : Array Oper} {os : List Oper} {d : Nat} {op : Op} {T : Callee} {b c : LB} {l m : Nat}

@[simp] theorem enter_get {args : List Value} {t : Nat} : enter args t = args.getD t undef := rfl
/-! ### the heap -/
@[simp] theorem get_new : (H.new b).get H.n = some b := by simp [LH.new]
theorem get_new' : (H.new b).get l = if l = H.n then some b else H.get l := rfl
@[simp] theorem get_new_ne (h : l ≠ H.n) : (H.new b).get l = H.get l := by simp [LH.new, h]
@[simp] theorem get_set : (H.set l b).get l = some b := by simp [LH.set]
@[simp] theorem get_set_ne (h : m ≠ l) : (H.set l b).get m = H.get m := by simp [LH.set, h]
@[simp] theorem get_kill : (H.kill l).get l = none := by simp [LH.kill]
@[simp] theorem get_kill_ne (h : m ≠ l) : (H.kill l).get m = H.get m := by simp [LH.kill, h]
@[simp] theorem n_new : (H.new b).n = H.n + 1 := by simp only [LH.new]
@[simp] theorem n_set : (H.set l b).n = H.n := by simp only [LH.set]
@[simp] theorem n_kill : (H.kill l).n = H.n := by simp only [LH.kill]
@[simp] theorem n_ro : H.ro.n = H.n := by simp only [LH.ro]
@[simp] theorem base_new : (H.new b).base = H.base := by simp only [LH.new]
@[simp] theorem base_set : (H.set l b).base = H.base := by simp only [LH.set]
@[simp] theorem base_kill : (H.kill l).base = H.base := by simp only [LH.kill]
@[simp] theorem base_ro : H.ro.base = H.base := by simp only [LH.ro]
@[simp] theorem ng_new : (H.new b).ng = H.ng := by simp only [LH.new]
@[simp] theorem ng_set : (H.set l b).ng = H.ng := by simp only [LH.set]
@[simp] theorem ng_kill : (H.kill l).ng = H.ng := by simp only [LH.kill]
@[simp] theorem ng_ro : H.ro.ng = H.ng := by simp only [LH.ro]
@[simp] theorem get_ro : H.ro.get l = (H.get l).map fun b => { b with rw := false } := by simp only [LH.ro]
@[simp] theorem set_set : (H.set l b).set l c = H.set l c := by
  unfold LH.set; simp only [LH.mk.injEq, true_and, and_true]; funext k; split <;> simp_all
@[simp] theorem new_set : (H.new b).set H.n c = H.new c := by
  unfold LH.new LH.set; simp only [LH.mk.injEq, true_and, and_true]; funext k; split <;> simp_all
@[simp] theorem le_self : H.le H := le_refl
theorem LH.le.trans {A B C : LH} (h : A.le B) (g : B.le C) : A.le C := ⟨Nat.le_trans h.1 g.1, fun l hl => (g.2 l (Nat.lt_of_lt_of_le hl h.1)).trans (h.2 l hl)⟩
theorem LH.le.new (h : H.le H') : H.le (H'.new b) := ⟨Nat.le_succ_of_le h.1, fun l hl => by
  have := h.1
  rw [get_new_ne (by omega)]; exact h.2 l hl⟩
theorem LH.le.set (h : H.le H') (hl : H.n ≤ l) : H.le (H'.set l b) := ⟨h.1, fun k hk => by rw [get_set_ne (by omega)]; exact h.2 k hk⟩
theorem LH.le.kill (h : H.le H') (hl : H.n ≤ l) : H.le (H'.kill l) := ⟨h.1, fun k hk => by rw [get_kill_ne (by omega)]; exact h.2 k hk⟩
/-! ### fields, loads, stores -/
/-- a field: its first cell, how many cells, whether it is a struct or an array -/
def fldi (P : Program) (s : TypeId) (f : Nat) : Option (Nat × Nat × Bool) :=
  match P.underlying s with
  | some (.struct fs) => match fs[f]? with
    | some fd => match sz P fd.type, aggB P fd.type with
      | some n, some g => some (fd.offset, n, g)
      | _, _ => none
    | none => none
  | _ => none
def lfaddr (i : Option (Nat × Nat × Bool)) (x : Value) (H : LH) : Option (Value × LH) :=
  match i, x with
  | some (o, n, _), .pointer (some ⟨l, off, none⟩) => if n = 0 then none else some (ptr l (off + o), H)
  | _, _ => none
theorem lopx_fieldAddr {s : TypeId} {x : Operand} {f : Nat} {i : Nat × Nat × Bool} (h : fldi P s f = some i) : lopx P T (.fieldAddr s x f) fr H = lfaddr (some i) (ev fr x) H := by
  unfold fldi at h
  show (match ev fr x, P.underlying s with | .pointer (some ⟨l, off, none⟩), some (.struct fs) => _ | _, _ => none) = _
  split at h
  · rename_i fs hu
    split at h
    · rename_i fd hf
      split at h
      · rename_i n g hs ha
        injection h with h
        subst h
        rw [hu]
        unfold lfaddr
        split
        · rename_i e1 e2
          injection e2 with e2
          injection e2 with e2
          subst e2
          simp only [hf, hs, e1]
        · rename_i h1
          split
          · rename_i e1 e2
            exact absurd rfl (h1 _ _ _ e2)
          · rfl
      · cases h
    · cases h
  · cases h
attribute [simp] lopx_fieldAddr
@[simp] theorem lfaddr_ptr {o n off : Nat} {g : Bool} (h : n ≠ 0) : lfaddr (some (o, n, g)) (ptr l off) H = some (ptr l (off + o), H) := by simp [lfaddr, h]
def lldb (a : Option Bool) (s : Option Nat) (cs : List Value) (off : Nat) : Option Value :=
  match a, s with
  | some true, some s => if off + s ≤ cs.length then some (.agg ((cs.drop off).take s).toArray) else none
  | some false, _ => cs[off]?
  | _, _ => none
def lld (P : Program) (t : TypeId) (x : Value) (H : LH) : Option Value := match x with
  | .pointer (some ⟨l, off, none⟩) => match H.get l with
    | some b => lldb (aggB P t) (sz P t) b.cells off
    | none => none
  | _ => none
theorem lload_eq {t : TypeId} {off : Nat} : lload P t l off H = lld P t (ptr l off) H := by
  cases h : H.get l with
  | none => simp only [lload, lld, h]
  | some b =>
    simp only [lload, lld, h, lldb]
    cases aggB P t with
    | none => rfl
    | some g => cases g <;> cases sz P t <;> simp [lcells]
@[simp ↓] theorem lopx_load {t : TypeId} {x : Operand} : lopx P T (.load t x) fr H = withH (lld P t (ev fr x) H) H := by
  show (match ev fr x with | .pointer (some ⟨l, off, none⟩) => (lload P t l off H).map fun v => (v, H) | _ => none) = _
  split
  · rename_i e; rw [e, lload_eq]; rfl
  · rename_i h
    unfold lld
    split
    · rename_i e; exact absurd e (h _ _)
    · rfl
theorem lld_ptr {t : TypeId} {off : Nat} (h : H.get l = some b) : lld P t (ptr l off) H = lldb (aggB P t) (sz P t) b.cells off := by simp [lld, h]
attribute [simp] lld_ptr
@[simp] theorem lldb_cell {s : Option Nat} {cs : List Value} {off : Nat} : lldb (some false) s cs off = cs[off]? := rfl
@[simp] theorem lldb_agg {s : Nat} {cs : List Value} {off : Nat} (h : off + s ≤ cs.length) : lldb (some true) (some s) cs off = some (.agg ((cs.drop off).take s).toArray) := by simp [lldb, h]
def lst (P : Program) (t : TypeId) (x v : Value) (H : LH) : Option (Value × LH) := match x with
  | .pointer (some ⟨l, off, none⟩) => (lstore P t l off v H).map fun H' => (undef, H')
  | _ => none
@[simp ↓] theorem lopx_store {t : TypeId} {x y : Operand} : lopx P T (.store t x y) fr H = lst P t (ev fr x) (ev fr y) H := rfl
theorem cells_one {v : Value} (h : cellB v = true) : v.cells = #[v] := by cases v <;> first | rfl | (simp [cellB] at h)
theorem lst_cell {t : TypeId} {off : Nat} {v : Value} (h : H.get l = some b) (hrw : b.rw = true) (hs : sz P t = some 1) (hv : cellB v = true) (ho : off < b.cells.length) :
    lst P t (ptr l off) v H = some (undef, H.set l ⟨b.cells.set off v, b.elem, true⟩) := by
  have e1 : splice b.cells off [v] = b.cells.set off v := by
    unfold splice
    rw [List.set_eq_take_append_cons_drop, if_pos ho]; simp
  simp only [lst, lstore, h, hs, cells_one hv]
  simp [hv, e1, hrw]
  omega
attribute [simp] lst_cell
theorem lst_agg {t : TypeId} {off n : Nat} {vs : List Value} (h : H.get l = some b) (hrw : b.rw = true) (hs : sz P t = some n) (hn : vs.length = n) (hv : vs.all cellB = true) (ho : off + n ≤ b.cells.length) :
    lst P t (ptr l off) (.agg ⟨vs⟩) H = some (undef, H.set l ⟨splice b.cells off vs, b.elem, true⟩) := by
  subst hn
  have hv' : ∀ x ∈ vs, cellB x = true := by simpa using hv
  simp only [lst, lstore, h, hs, Value.cells]
  simp [ho, hrw]
  exact hv'
attribute [simp] lst_agg
@[simp] theorem cell_int {kd : IntKind} {n : Int} : cellB (.int kd n) = true := by simp only [cellB]
@[simp] theorem cell_bool {x : Bool} : cellB (.bool x) = true := by simp only [cellB, str]
@[simp] theorem cell_str {x : List UInt8} : cellB (str x) = true := by simp only [cellB, str]
@[simp] theorem cell_ptr {x : Option Addr} : cellB (.pointer x) = true := by simp only [cellB, str]
@[simp] theorem cell_slice {x : Option Addr} {n c : Nat} : cellB (.slice x n c) = true := by simp only [cellB, str]
@[simp] theorem cell_func {f : Fn} {x y : Array Value} : cellB (.func f x y) = true := by simp only [cellB, str]
def Step0 (P : Program) (E : Ext) (fn : Func) (x : Option (Value × LH)) (all : Array Oper) (os : List Oper) (k : List Item) (fr : Fr) (Q : Value × LH → Prop) : Prop :=
  match x with
  | some (_, H) => ROps P E fn all os k fr H Q
  | none => False
@[congr] theorem step0_congr {x y : Option (Value × LH)} (h : x = y) : Step0 P E fn x all os k fr Q = Step0 P E fn y all os k fr Q := by rw [h]
@[simp] theorem step0_some {v : Value} : Step0 P E fn (some (v, H)) all os k fr Q ↔ ROps P E fn all os k fr H Q := Iff.rfl
@[simp] theorem step0_none : Step0 P E fn none all os k fr Q ↔ False := Iff.rfl
@[simp ↓] theorem rops_cons0' {ty : TypeId} {pos : String} {after : Array Edge} : ROps P E fn all (⟨none, op, ty, pos, after, none⟩ :: os) k fr H Q ↔ Step0 P E fn (lopx P (LC P E) op fr H) all os k fr Q := by
  rw [rops_cons0]; rfl
/-! ### results -/
def lres (P : Program) (rs : List ResultVar) (fr : Fr) (H : LH) : Option Value :=
  match rs.mapM (lresult P fr H) with
  | some [v] => some v
  | some vs => some (.tuple vs.toArray)
  | none => none
@[simp] theorem lresults_eq : lresults P fn fr H = lres P fn.results.toList fr H := rfl
def lres1 (P : Program) (r : ResultVar) (fr : Fr) (H : LH) : Option Value := match r with
  | .tmp t => some (fr t)
  | .cell a t => lld P t (fr a) H
theorem lresult_eq {x : ResultVar} : lresult P fr H x = lres1 P x fr H := by
  cases x with
  | tmp t => rfl
  | cell a t =>
    simp only [lresult, lres1]
    split
    · rename_i e; rw [e, lload_eq]
    · rename_i h
      unfold lld
      split
      · rename_i e; exact absurd e (h _ _)
      · rfl
@[simp] theorem lres1_tmp {t : Tmp} : lres1 P (.tmp t) fr H = some (fr t) := rfl
@[simp] theorem lres1_cell {a : Tmp} {t : TypeId} : lres1 P (.cell a t) fr H = lld P t (fr a) H := rfl
@[simp] theorem lres_nil : lres P [] fr H = some (.tuple #[]) := rfl
@[simp] theorem lres_one {x : ResultVar} : lres P [x] fr H = lres1 P x fr H := by
  simp only [lres, List.mapM_cons, List.mapM_nil, lresult_eq]
  cases lres1 P x fr H <;> rfl
@[simp] theorem lres_two {x y : ResultVar} : lres P [x, y] fr H = (lres1 P x fr H).bind fun a => (lres1 P y fr H).bind fun b => some (.tuple #[a, b]) := by
  simp only [lres, List.mapM_cons, List.mapM_nil, lresult_eq]
  cases lres1 P x fr H <;> cases lres1 P y fr H <;> rfl
@[simp] theorem lres_three {x y z : ResultVar} : lres P [x, y, z] fr H = (lres1 P x fr H).bind fun a => (lres1 P y fr H).bind fun b => (lres1 P z fr H).bind fun c => some (.tuple #[a, b, c]) := by
  simp only [lres, List.mapM_cons, List.mapM_nil, lresult_eq]
  cases lres1 P x fr H <;> cases lres1 P y fr H <;> cases lres1 P z fr H <;> rfl
@[simp] theorem lres_four {x y z u : ResultVar} : lres P [x, y, z, u] fr H = (lres1 P x fr H).bind fun a => (lres1 P y fr H).bind fun b => (lres1 P z fr H).bind fun c => (lres1 P u fr H).bind fun d => some (.tuple #[a, b, c, d]) := by
  simp only [lres, List.mapM_cons, List.mapM_nil, lresult_eq]
  cases lres1 P x fr H <;> cases lres1 P y fr H <;> cases lres1 P z fr H <;> cases lres1 P u fr H <;> rfl
/-! ### new blocks -/
def lbox (s : Option Nat) (e : TypeId) (v : Value) (H : LH) : Option (Value × LH) := if knownB v && s == some v.cells.size then some (ptr H.n 0, H.new ⟨v.cells.toList, e, true⟩) else none
@[simp ↓] theorem lopx_box {e : TypeId} {x : Operand} : lopx P T (.box e x) fr H = lbox (sz P e) e (ev fr x) H := rfl
@[simp] theorem lbox_agg {e : TypeId} {n : Nat} {vs : List Value} (h : vs.length = n) : lbox (some n) e (.agg ⟨vs⟩) H = some (ptr H.n 0, H.new ⟨vs, e, true⟩) := by simp [lbox, knownB, Value.cells, h]
@[simp] theorem lbox_cell {e : TypeId} {v : Value} (h : cellB v = true) : lbox (some 1) e v H = some (ptr H.n 0, H.new ⟨[v], e, true⟩) := by
  have : knownB v = true := by cases v <;> first | rfl | (simp [cellB] at h)
  simp [lbox, this, cells_one h]
def lalloc (s : Option Nat) (z : Option Value) (e : TypeId) (H : LH) : Option (Value × LH) := match z with
  | some z => if flatB z && s == some z.cells.size then some (ptr H.n 0, H.new ⟨z.cells.toList, e, true⟩) else none
  | none => none
@[simp ↓] theorem lopx_alloc {e : TypeId} : lopx P T (.alloc e) fr H = lalloc (sz P e) (zr P e) e H := rfl
@[simp] theorem lalloc_agg {e : TypeId} {n : Nat} {vs : List Value} (h : vs.length = n) (hf : vs.all atomB = true) : lalloc (some n) (some (.agg ⟨vs⟩)) e H = some (ptr H.n 0, H.new ⟨vs, e, true⟩) := by
  have : flatB (.agg ⟨vs⟩) = true := hf
  simp [lalloc, this, Value.cells, h]
@[simp] theorem lalloc_cell {e : TypeId} {v : Value} (h : cellB v = true) (hf : flatB v = true) : lalloc (some 1) (some v) e H = some (ptr H.n 0, H.new ⟨[v], e, true⟩) := by simp [lalloc, hf, cells_one h]
@[simp] theorem zr_str : Value.string ⟨#[]⟩ = str [] := rfl
@[simp ↓] theorem lopx_nilCheck {x : Operand} {ad : Addr} (h : ev fr x = .pointer (some ad)) : lopx P T (.nilCheck x) fr H = some (.pointer (some ad), H) := by
  show (match ev fr x with | .pointer (some a) => _ | .func (.func g) f c => _ | _ => none) = _
  rw [h]
/-! ### strings -/
/-- a part of a string -/
def sub (x : List UInt8) (i j : Int) : List UInt8 := (x.take j.toNat).drop i.toNat
def lbv (v : Value) : Option Int := match v with | .int _ i => some i | _ => none
def lssl (x : Value) (i j : Option Int) : Option Value := match x, i, j with
  | .string s, some i, some j => if 0 ≤ i ∧ i ≤ j ∧ j ≤ s.size then some (str (sub s.data.toList i j)) else none
  | _, _, _ => none
end
end Go.Lg
