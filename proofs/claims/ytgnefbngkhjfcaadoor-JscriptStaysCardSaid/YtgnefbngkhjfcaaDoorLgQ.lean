/-
  A logical run of Go code: slices, literals, append, calls.
-/
import Derived.Test.YtgnefbngkhjfcaaDoorLgO
set_option linter.unusedSimpArgs false
set_option linter.unusedVariables false
namespace Go.Lg
open Go.Tg Go.RowKit

section
variable {P : Program} {T : Callee} {H H' : LH} {ι : Ren} {o : Oper} {a : Act} {w : World} {v v' : Value} {N : Nat} {fr : Fr}

theorem run_bound (hfr : FrR H.D ι N fr a.tmps) {d k y : Nat} {x : Option Operand} {code : BoundsCode} (hb : lbound fr d x = some k) (hk : k ≤ y) :
    (match x.map a.eval with | some v => Instr.sliceBound v y code | none => pure d : Sem Nat).run P w = .ok k w := by
  unfold lbound at hb
  cases x with
  | none => simp only [Option.some.injEq] at hb; subst hb; rfl
  | some x =>
    simp only [Option.map_some] at hb ⊢
    split at hb
    · rename_i kd i e
      split at hb
      · injection hb with hb
        have h1 := hfr.ev x
        rw [e] at h1
        rw [vr_int h1]
        simp only [Instr.sliceBound, asIntOf, Sem.run_bind, Sem.run_pure, Result.andThen_ok]
        rw [if_pos (by omega), hb]; rfl
      · cases hb
    · cases hb
theorem run_bounds (hfr : FrR H.D ι N fr a.tmps) {i j n c : Nat} {lo hi : Option Operand} {sl : Bool} (h1 : lbound fr 0 lo = some i) (h2 : lbound fr n hi = some j) (hij : i ≤ j) (hjc : j ≤ c) :
    (Instr.sliceBounds sl n c (lo.map a.eval) (hi.map a.eval) none).run P w = .ok (i, j, c) w := by
  unfold Instr.sliceBounds
  have r2 := fun code => run_bound (P := P) (w := w) (code := code) hfr h2 hjc
  have r1 := fun code => run_bound (P := P) (w := w) (code := code) hfr h1 hij
  cases hi with
  | none =>
    have e2 : n = j := by simpa [lbound] using h2
    cases lo with
    | none =>
      have e1 : 0 = i := by simpa [lbound] using h1
      subst e1 e2
      simp [Sem.run_bind]
    | some x =>
      simp only [Option.map_some] at r1
      subst e2
      simp [Sem.run_bind, r1]
  | some y =>
    simp only [Option.map_some] at r2
    cases lo with
    | none =>
      have e1 : 0 = i := by simpa [lbound] using h1
      subst e1
      simp [Sem.run_bind, r2]
    | some x =>
      simp only [Option.map_some] at r1
      simp [Sem.run_bind, r2, r1]
theorem slice_ok (hfr : FrR H.D ι N fr a.tmps) {t : TypeId} {x : Operand} {lo hi : Option Operand} (ho : o.op = .slice t x lo hi none) (hv : lslice P t (ev fr x) fr lo hi = some v) : PureOk P H.D ι o a v := by
  have hx := hfr.ev x
  unfold lslice at hv
  split at hv
  · rename_i s hu e
    rw [e] at hx
    have hx' := flat_eq hx rfl
    split at hv
    · rename_i i j hi1 hj1
      split at hv
      · rename_i hij
        injection hv with hv
        subst hv
        refine pureok (v' := .string (s.extract i j)) (fun w => ?_) (.flat _ rfl)
        unfold execOp; simp only [ho, hx', Instr.sliceAt, Instr.slice, Sem.run_bind, run_underlying hu, Result.andThen_ok, Sem.run_pure, Option.map_none, Option.isSome_none, Bool.false_eq_true, if_false, run_bounds hfr hi1 hj1 hij.1 hij.2]
      · cases hv
    · cases hv
  · rename_i e ad n c hu ex
    rw [ex] at hx
    split at hv
    · rename_i i j s hi1 hj1 hs
      split at hv
      · rename_i hij
        generalize hy : a.eval x = y at hx
        have hrun : ∀ (w : World) (ad' : Option Addr) (c' : Nat), y = .slice ad' n c' → n ≤ c' → (execOp a.eval o).run P w = .ok (.value (.slice (if c' = i then ad' else ad'.map (·.add (i * s))) (j - i) (c' - i))) w := by
          intro w ad' c' e hc
          unfold execOp; simp only [ho, hy, e, Instr.sliceAt, Instr.slice, Sem.run_bind, run_underlying hu, Result.andThen_ok, Sem.run_pure, Option.map_none, run_bounds hfr hi1 hj1 hij.1 (Nat.le_trans hij.2 hc), run_sizeOf' hs]
        split at hv
        · rename_i l off
          injection hv with hv
          subst hv
          cases hx with
          | flat _ hf => simp [flatB, flat1B, atomB] at hf
          | slice _ _ _ _ hl hc =>
            refine pureok (fun w => hrun w _ _ rfl (by omega)) ?_
            by_cases he : c + (ι l).slack = i
            · have e1 : j - i = 0 := by omega
              have e2 : c - i = 0 := by omega
              have e3 : c + (ι l).slack - i = 0 := by omega
              rw [if_pos he, e1, e2, e3]
              exact .slice0 l _ _ hl
            · rw [if_neg he, Option.map_some, addr_add, Nat.add_assoc, show c + (ι l).slack - i = (c - i) + (ι l).slack by omega]
              exact .slice l _ _ _ hl (by omega)
          | slice0 _ _ ad hl =>
            refine pureok (fun w => hrun w _ _ rfl (Nat.le_refl _)) ?_
            have e1 : i = 0 := by omega
            have e2 : j = 0 := by omega
            subst e1 e2
            rw [if_pos rfl]
            exact .slice0 l _ _ hl
        · injection hv with hv
          subst hv
          have hf : n = 0 ∧ c = 0 ∧ y = .slice none 0 0 := by
            cases hx with
            | flat _ hf =>
              simp only [flatB, flat1B, atomB, Bool.and_eq_true, beq_iff_eq] at hf
              exact ⟨hf.1, hf.2, by rw [hf.1, hf.2]⟩
          obtain ⟨rfl, rfl, rfl⟩ := hf
          refine pureok (fun w => hrun w none 0 rfl (Nat.le_refl _)) ?_
          have e1 : i = 0 := by omega
          have e2 : j = 0 := by omega
          subst e1 e2
          exact .flat _ rfl
        · cases hv
      · cases hv
    · cases hv
  · cases hv

/-- arrays of cells -/
def ArrR (n : Nat → Prop) (ι : Ren) (xs ys : Array Value) : Prop := xs.size = ys.size ∧ ∀ (i : Nat) (x y : Value), xs[i]? = some x → ys[i]? = some y → VR n ι x y
theorem ArrR.set {n : Nat → Prop} {xs ys : Array Value} (h : ArrR n ι xs ys) {k : Nat} {x y : Value} (hv : VR n ι x y) : ArrR n ι (xs.setIfInBounds k x) (ys.setIfInBounds k y) := by
  refine ⟨by simp [h.1], fun i p q hp hq => ?_⟩
  rw [Array.getElem?_setIfInBounds] at hp hq
  split at hp
  · rename_i e
    rw [if_pos e] at hq
    split at hp
    · split at hq
      · injection hp with hp; injection hq with hq; rw [← hp, ← hq]; exact hv
      · cases hq
    · cases hp
  · rename_i e
    rw [if_neg e] at hq
    exact h.2 i p q hp hq
theorem fold_rel {n : Nat → Prop} (off : Nat) : ∀ (us vs : List Value) (k : Nat) (xs ys : Array Value), us.length = vs.length → (∀ (i : Nat) (x y : Value), us[i]? = some x → vs[i]? = some y → VR n ι x y) → ArrR n ι xs ys →
    ArrR n ι ((us.zipIdx k).foldl (fun cs (p : Value × Nat) => cs.setIfInBounds (off + p.2) p.1) xs) ((vs.zipIdx k).foldl (fun cs (p : Value × Nat) => cs.setIfInBounds (off + p.2) p.1) ys)
  | [], [], _, _, _, _, _, h => h
  | [], _ :: _, _, _, _, hl, _, _ => by simp at hl
  | _ :: _, [], _, _, _, hl, _, _ => by simp at hl
  | u :: us, v :: vs, k, xs, ys, hl, hv, h => by
    simp only [List.zipIdx_cons, List.foldl_cons]
    exact fold_rel off us vs (k + 1) _ _ (by simpa using hl) (fun i x y hx hy => hv (i + 1) x y (by simpa using hx) (by simpa using hy)) (h.set (hv 0 u v rfl rfl))
theorem fill_rel {n : Nat → Prop} {place : Nat → Option (Nat × Nat)} : ∀ (ps qs : List (Nat × Value)) (xs ys cs : Array Value), ps.length = qs.length → (∀ (i : Nat) (p q : Nat × Value), ps[i]? = some p → qs[i]? = some q → p.1 = q.1 ∧ VR n ι p.2 q.2 ∧ knownB p.2 = true) →
    ArrR n ι xs ys → Instr.fill place xs ps = some cs → ∃ ds, Instr.fill place ys qs = some ds ∧ ArrR n ι cs ds
  | [], [], xs, ys, cs, _, _, h, hf => by
    simp only [Instr.fill, Option.some.injEq] at hf ⊢; subst hf; exact ⟨ys, rfl, h⟩
  | [], _ :: _, _, _, _, hl, _, _, _ => by simp at hl
  | _ :: _, [], _, _, _, hl, _, _, _ => by simp at hl
  | (i, u) :: ps, (j, x) :: qs, xs, ys, cs, hl, hv, h, hf => by
    obtain ⟨e, hvr, hk⟩ := hv 0 _ _ rfl rfl
    simp only at e hvr hk
    subst e
    obtain ⟨k1, k2⟩ := vr_cells hvr hk
    simp only [Instr.fill] at hf ⊢
    cases hp : place i with
    | none => simp [hp] at hf
    | some pl =>
      obtain ⟨off, size⟩ := pl
      simp only [hp] at hf ⊢
      rw [← k1, ← h.1]
      split at hf
      · cases hf
      · rename_i hc
        rw [if_neg hc]
        refine fill_rel ps qs _ _ cs (by simpa using hl) (fun i p q hp hq => hv (i + 1) p q (by simpa using hp) (by simpa using hq)) ?_ hf
        have := fold_rel (n := n) (ι := ι) off u.cells.toList x.cells.toList 0 xs ys (by simp [k1]) (fun i p q hp hq => k2 i p q (by simpa using hp) (by simpa using hq)) h
        rw [← Array.foldl_toList, ← Array.foldl_toList, Array.toList_zipIdx, Array.toList_zipIdx]
        exact this
theorem parts_rel (hfr : FrR H.D ι N fr a.tmps) {parts : Array (Nat × Operand)} (hk : (parts.toList.map fun p => (p.1, ev fr p.2)).all (fun p => knownB p.2) = true) :
    ∀ (i : Nat) (p q : Nat × Value), (parts.toList.map fun p => (p.1, ev fr p.2))[i]? = some p → (parts.map fun (i, x) => (i, a.eval x)).toList[i]? = some q → p.1 = q.1 ∧ VR H.D ι p.2 q.2 ∧ knownB p.2 = true := by
  intro i p q hp hq
  have hk' := (List.all_eq_true.1 hk) p (List.mem_of_getElem? hp)
  rw [Array.toList_map] at hq
  rw [List.getElem?_map] at hp hq
  cases hx : parts.toList[i]? with
  | none => simp [hx] at hp
  | some y =>
    simp only [hx, Option.map_some, Option.some.injEq] at hp hq
    rw [← hp] at hk' ⊢
    rw [← hq]
    exact ⟨rfl, hfr.ev y.2, hk'⟩
theorem build_ok (hfr : FrR H.D ι N fr a.tmps) {t : TypeId} {parts : Array (Nat × Operand)} (ho : o.op = .build t parts) (hv : lbuild P t (parts.toList.map fun p => (p.1, ev fr p.2)) = some v) : PureOk P H.D ι o a v := by
  unfold lbuild at hv
  split at hv
  · rename_i hc
    rw [Bool.and_eq_true] at hc
    obtain ⟨hk, hz⟩ := hc
    split at hv
    · rename_i fs hu
      obtain ⟨cs, hcs, rfl⟩ := Option.map_eq_some_iff.1 hv
      unfold Program.built at hcs
      unfold zr at hz
      cases hi : P.info? t with
      | none => simp [hi] at hcs
      | some it =>
        simp only [hi, hu, Option.bind_some] at hcs hz
        split at hcs
        · rename_i z places hz1 hpl
          rw [hz1] at hz
          simp only [Option.any_some] at hz
          obtain ⟨ds, hds, hr⟩ := fill_rel (ι := ι) (n := H.D) _ (parts.map fun (i, x) => (i, a.eval x)).toList z.cells z.cells cs (by simp) (parts_rel hfr hk)
            ⟨rfl, fun i x y hx hy => by rw [hx] at hy; injection hy with hy; rw [← hy]; exact flat_cells hz _ _ (flat_known hz) hx⟩ hcs
          refine pureok (v' := .agg ds) (fun w => ?_) (.agg _ _ hr.1 hr.2)
          have hb : P.built t (parts.map fun (i, x) => (i, a.eval x)).toList = some ds := by
            unfold Program.built; simp only [hi, hu, hz1, hpl]; exact hds
          unfold execOp; simp only [ho, Sem.run_bind, run_build w t _ ds hb, Sem.run_pure, Result.andThen_ok]
        · cases hcs
    · cases hv
  · cases hv
theorem buildSlice_ok (hrel : Rel P H ι w) (hfr : FrR H.D ι N fr a.tmps) {t : TypeId} {len : Nat} {parts : Array (Nat × Operand)} (ho : o.op = .buildSlice t len parts) (hv : lbuildSlice P t len (parts.toList.map fun p => (p.1, ev fr p.2)) H = some (v, H')) : OpOk P H ι o a w v H' := by
  unfold lbuildSlice at hv
  split at hv
  · rename_i e hu
    split at hv
    · rename_i s z hs hz
      split at hv
      · rename_i hc
        simp only [Bool.and_eq_true, decide_eq_true_eq, beq_iff_eq] at hc
        obtain ⟨⟨⟨⟨hf, hs0⟩, hlen⟩, hzs⟩, hk⟩ := hc
        split at hv
        · rename_i cs hcs
          split at hv
          · rename_i hsize
            simp only [Option.some.injEq, Prod.mk.injEq] at hv
            obtain ⟨rfl, rfl⟩ := hv
            have hz0 : ∀ (i : Nat) (x y : Value), ((Array.range (len * s)).map fun j => z.cells[j % z.cells.size]!)[i]? = some x → ((Array.range (len * s)).map fun j => z.cells[j % z.cells.size]!)[i]? = some y → VR H.D ι x y := by
              intro i x y hx hy
              rw [hx] at hy; injection hy with hy; rw [← hy]
              rw [Array.getElem?_map] at hx
              cases hr : (Array.range (len * s))[i]? with
              | none => simp [hr] at hx
              | some j =>
                simp only [hr, Option.map_some, Option.some.injEq] at hx
                have hm : j % z.cells.size < z.cells.size := Nat.mod_lt _ (by omega)
                rw [getElem!_pos z.cells _ hm] at hx
                exact flat_cells hf _ _ (flat_known hf) (i := j % z.cells.size) (by rw [Array.getElem?_eq_getElem hm, hx])
            obtain ⟨ds, hds, hr⟩ := fill_rel (ι := ι) (n := H.D) _ (parts.map fun (i, x) => (i, a.eval x)).toList _ _ cs (by simp) (parts_rel hfr hk) ⟨rfl, hz0⟩ hcs
            have hout := rel_new (slack := 0) (arr := ds) (b := ⟨cs.toList, e, true⟩) hrel rfl hs (by simp [hr.1])
              (fun n h0 h1 => by
                have h1' : len * s = n * s := by rw [← hsize]; simpa using h1
                have : len = n := Nat.eq_of_mul_eq_mul_right hs0 h1'
                have hle : len * 1 ≤ len * s := Nat.mul_le_mul_left _ hs0
                simp only [maxLen]; omega)
              (fun i x hx => by
                have hx' : cs[i]? = some x := by simpa using hx
                have hlt : i < ds.size := by rw [← hr.1]; exact (Array.getElem?_eq_some_iff.1 hx').1
                exact ⟨_, Array.getElem?_eq_getElem hlt, hr.2 i _ _ hx' (Array.getElem?_eq_getElem hlt)⟩)
            refine opok_world (v' := .slice (some ⟨w.heap.size, 0, none⟩) len len) ?_ hout ?_
            · unfold execOp
              simp only [ho, Instr.buildSlice, Sem.run_bind, run_underlying hu, Result.andThen_ok, run_sizeOf' hs]
              rw [if_neg (by omega)]
              by_cases h0 : len * s = 0
              · have : ((Array.range (len * s)).map fun j => z.cells[j % z.cells.size]!) = ((Array.range (len * s)).map fun j => (#[] : Array Value)[j % (#[] : Array Value).size]!) := by rw [h0]; simp
                rw [this] at hds
                simp only [h0, if_true, Sem.run_bind, Sem.run_pure, Result.andThen_ok] at hds ⊢
                rw [hds]
                simp only [newRow, newObj, Sem.run_bind, Result.andThen_ok, Sem.run_pure]; rfl
              · simp only [if_neg h0, Sem.run_bind, run_zero hz, Sem.run_pure, Result.andThen_ok]
                rw [hds]
                simp only [newRow, newObj, Sem.run_bind, Result.andThen_ok, Sem.run_pure]; rfl
            · have := VR.slice (n := (H.new ⟨cs.toList, e, true⟩).D) (ι := ι.add H.n ⟨w.heap.size, 0, 0⟩) H.n 0 len len ((D_new hrel H.n).2 (.inr rfl)) (Nat.le_refl _)
              simpa [Ren.add] using this
          · cases hv
        · cases hv
      · cases hv
    · cases hv
  · cases hv

theorem rel_kill (h : Rel P H ι w) (l : Nat) : Rel P (H.kill l) ι w := by
  have hrwk : ∀ k, RW (H.kill l) ι k → RW H ι k ∨ w.heap.size ≤ k := by
    rintro k ⟨m, b, hk, hb, rfl⟩
    change (if m = l then none else H.get m) = some b at hk
    split at hk
    · cases hk
    · exact .inl ⟨m, b, hk, hb, rfl⟩
  refine ⟨fun k hk => ?_, fun k hk => ⟨(h.hol k hk).1, ?_⟩, fun k b hb => ?_, fun k k' b b' h1 h2 => ?_, pin_step h (Change.refl _ _) hrwk rfl rfl⟩
  · show (if k = l then none else H.get k) = none
    split
    · rfl
    · exact h.dom k hk
  · show (if k = l then none else H.get k) = none
    split
    · rfl
    · exact (h.hol k hk).2
  · change (if k = l then none else H.get k) = some b at hb
    split at hb
    · cases hb
    · exact h.blk k b hb
  · change (if k = l then none else H.get k) = some b at h1
    change (if k' = l then none else H.get k') = some b' at h2
    split at h1
    · cases h1
    · split at h2
      · cases h2
      · exact h.sep k k' b b' h1 h2
/-- a row that has grown, in its old block or in a new one -/
theorem rel_grow (h : Rel P H ι w) {b : LB} {arr : Array Value} {g slack s : Nat} {w' : World} {row : Option Nat} (hrw : b.rw = true) (hs : sz P b.elem = some s) (hg : w'.heap[g]? = some (.cells arr b.elem (0, 0)))
    (hsz : arr.size = b.cells.length + slack * s) (hm : ∀ n, s ≠ 0 → b.cells.length = n * s → n + slack ≤ maxLen) (hc : ∀ (i : Nat) x, b.cells[i]? = some x → ∃ y, arr[i]? = some y ∧ VR H.D ι x y)
    (hgr : w.grownBy w' row) (hrow : ∀ l b', H.get l = some b' → row ≠ some (ι l).blk) (hpin : ∀ g, g < H.ng → row ≠ some g) (hgn : row = some g ∨ g = w.heap.size) :
    Rel P (H.new b) (ι.add H.n ⟨g, 0, slack⟩) w' := by
  obtain ⟨d1, d2, d3⟩ := dom_new h (b := b)
  have hsub : ∀ l, H.D l → (H.new b).D l := fun l hl => (D_new h l).2 (.inl hl)
  have hsame : ∀ l, H.D l → (ι.add H.n ⟨g, 0, slack⟩) l = ι l := fun l hl => by unfold Ren.add; rw [if_neg (fun e => d3 (by rw [← e]; exact hl))]
  have hold : ∀ l b', H.get l = some b' → (ι l).blk < w.heap.size := fun l b' hb => by
    obtain ⟨arr', t, f, hw, _⟩ := h.blk l b' hb
    exact lt_of_block hw
  have hne : ∀ l b', H.get l = some b' → (ι l).blk ≠ g := fun l b' hb e => by
    rcases hgn with h1 | h1
    · exact hrow l b' hb (by rw [h1, e])
    · have := hold l b' hb; omega
  have hpins : ∀ g', g' < H.ng → w'.heap[g']? = H.base.heap[g']? ∧ g' < w'.heap.size ∧ ¬ RW (H.new b) (ι.add H.n ⟨g, 0, slack⟩) g' := by
    intro g' hg'
    obtain ⟨e1, e2, e3⟩ := h.pin g' hg'
    refine ⟨by rw [hgr.block g' e2 (fun e => hpin g' hg' e.symm)]; exact e1, Nat.lt_of_lt_of_le e2 hgr.size, ?_⟩
    rintro ⟨l, b', hb', hrw', e⟩
    change (if l = H.n then some b else H.get l) = some b' at hb'
    split at hb'
    · rename_i e0
      subst e0
      simp only [Ren.add, if_true] at e
      rcases hgn with h1 | h1
      · exact hpin g' hg' (by rw [h1, e])
      · omega
    · rw [hsame l (h.live hb')] at e
      exact e3 ⟨l, b', hb', hrw', e⟩
  refine ⟨d1, d2, fun l b' hb' => ?_, fun l l' b1 b2 h1 h2 hrw1 hne1 => ?_, hpins⟩
  · change (if l = H.n then some b else H.get l) = some b' at hb'
    split at hb'
    · rename_i e
      subst e
      injection hb' with hb'
      subst hb'
      have e : (ι.add H.n ⟨g, 0, slack⟩) H.n = ⟨g, 0, slack⟩ := by simp [Ren.add]
      rw [e]
      refine ⟨arr, b.elem, (0, 0), hg, by simp; omega, fun i x hx => ?_, fun _ => ⟨rfl, rfl, rfl, s, hs, hsz, hm⟩⟩
      obtain ⟨y, hy, hv⟩ := hc i x hx
      exact ⟨y, by simpa using hy, hv.mono hsub hsame⟩
    · rw [hsame l (h.live hb')]
      obtain ⟨arr', t, f, hw, h1, h2, h3⟩ := h.blk l b' hb'
      refine ⟨arr', t, f, by rw [hgr.block _ (hold l b' hb') (fun e => hrow l b' hb' e.symm)]; exact hw, h1, fun i x hx => ?_, h3⟩
      obtain ⟨y, hy, hv⟩ := h2 i x hx
      exact ⟨y, hy, hv.mono hsub hsame⟩
  · change (if l = H.n then some b else H.get l) = some b1 at h1
    change (if l' = H.n then some b else H.get l') = some b2 at h2
    split at h1 <;> split at h2
    · omega
    · rename_i e1 e2
      rw [hsame l' (h.live h2), e1]
      have := hne l' b2 h2
      simp only [Ren.add, if_true]; exact fun e => this e.symm
    · rename_i e1 e2
      rw [hsame l (h.live h1), e2]
      have := hne l b1 h1
      simp only [Ren.add, if_true]; exact this
    · rw [hsame l (h.live h1), hsame l' (h.live h2)]
      exact h.sep l l' b1 b2 h1 h2 hrw1 hne1
theorem lesz_spec {e : TypeId} {s : Nat} (h : lesz P e = some s) : ∃ i z, P.info? e = some i ∧ i.zero = some z ∧ i.size = s ∧ z.cells.size = s ∧ 0 < s ∧ i.bytes ≤ 1048576 ∧ sz P e = some s := by
  unfold lesz at h
  cases hi : P.info? e with
  | none => simp [hi] at h
  | some i =>
    simp only [hi] at h
    cases hz : i.zero with
    | none => simp [hz] at h
    | some z =>
      simp only [hz] at h
      split at h
      · rename_i hc
        injection h with h
        subst h
        exact ⟨i, z, rfl, hz, rfl, hc.1, hc.2.1, hc.2.2, by simp [sz, hi]⟩
      · cases h
/-- what is appended, as it lies in the world -/
theorem src_sound (hrel : Rel P H ι w) {y y' : Value} {s m : Nat} {new : List Value} (hs0 : 0 < s) (hy : VR H.D ι y y') (h : lsrc s y H = some (m, new)) :
    (m = 0 ∧ new = [] ∧ ∃ b c, y' = .slice b 0 c) ∨ (0 < m ∧ new.length = m * s ∧ ∃ (ad : Addr) (c : Nat) (us : List Value), y' = .slice (some ad) m c ∧ us.length = m * s ∧ (∀ (j : Nat) (u : Value), us[j]? = some u → w.cell? (ad.add j) = some u) ∧
      ∀ (j : Nat) (x u : Value), new[j]? = some x → us[j]? = some u → VR H.D ι x u) := by
  unfold lsrc at h
  split at h
  · simp only [Option.some.injEq, Prod.mk.injEq] at h
    obtain ⟨rfl, rfl⟩ := h
    exact .inl ⟨rfl, rfl, none, 0, flat_eq hy rfl⟩
  · rename_i l off k c
    split at h
    · rename_i b hb
      simp only [lcells, Option.map_eq_some_iff, Prod.mk.injEq] at h
      obtain ⟨cs, hcs, rfl, rfl⟩ := h
      split at hcs
      · rename_i hle
        simp only [Option.some.injEq] at hcs
        have hlen : cs.length = k * s := by rw [← hcs]; simp; omega
        rcases Nat.eq_zero_or_pos k with h0 | h0
        · subst h0
          left
          refine ⟨rfl, List.eq_nil_of_length_eq_zero (by simpa using hlen), ?_⟩
          obtain ⟨b', c', e, _⟩ := vr_slice hy
          exact ⟨b', c', e⟩
        · right
          refine ⟨h0, hlen, ?_⟩
          cases hy with
          | flat _ hf => simp [flatB, flat1B, atomB] at hf
          | slice0 => omega
          | slice _ _ _ _ hl hc =>
            have hget : ∀ (j : Nat) x, cs[j]? = some x → b.cells[off + j]? = some x := by
              intro j x hx
              rw [← hcs, List.getElem?_take] at hx
              split at hx
              · rw [List.getElem?_drop] at hx; exact hx
              · cases hx
            have hall : ∀ j, j < k * s → ∃ y, w.cell? ⟨(ι l).blk, (ι l).off + off + j, none⟩ = some y ∧ ∀ x, cs[j]? = some x → VR H.D ι x y := by
              intro j hj
              have hx : cs[j]? = some (cs[j]'(by omega)) := List.getElem?_eq_getElem (by omega)
              obtain ⟨y, hy, hv⟩ := hrel.cell hb (hget j _ hx)
              exact ⟨y, by rw [Nat.add_assoc]; exact hy, fun x hx' => by rw [hx] at hx'; injection hx' with hx'; rw [← hx']; exact hv⟩
            obtain ⟨f, hf⟩ : ∃ f : Nat → Value, ∀ j, j < k * s → w.cell? ⟨(ι l).blk, (ι l).off + off + j, none⟩ = some (f j) ∧ ∀ x, cs[j]? = some x → VR H.D ι x (f j) := by
              classical
              refine ⟨fun j => if hj : j < k * s then Classical.choose (hall j hj) else undef, fun j hj => ?_⟩
              simp only [dif_pos hj]
              exact Classical.choose_spec (hall j hj)
            refine ⟨_, _, (List.range (k * s)).map f, rfl, by simp, fun j u hu => ?_, fun j x u hx hu => ?_⟩
            · rw [List.getElem?_map] at hu
              rcases Nat.lt_or_ge j (k * s) with hj | hj
              · rw [List.getElem?_range hj] at hu
                simp only [Option.map_some, Option.some.injEq] at hu
                rw [addr_add, ← hu]; exact (hf j hj).1
              · rw [List.getElem?_eq_none (by simpa using hj)] at hu; simp at hu
            · rw [List.getElem?_map] at hu
              rcases Nat.lt_or_ge j (k * s) with hj | hj
              · rw [List.getElem?_range hj] at hu
                simp only [Option.map_some, Option.some.injEq] at hu
                rw [← hu]; exact (hf j hj).2 x hx
              · rw [List.getElem?_eq_none (by simpa using hj)] at hu; simp at hu
      · cases hcs
    · cases h
  · cases h
theorem append_zero {t ty e : TypeId} {i : TypeInfo} (hu : P.underlying t = some (.slice e)) (hi : P.info? e = some i) {ad b : Option Addr} {n c c' : Nat} (hn : n ≤ c) :
    (Builtin.append_ #[t, t] ty #[.slice ad n c, .slice b 0 c']).run P w = .ok (.slice ad n c) w := by
  have hl : ∀ ad : Addr, (loadCells ad 0).run P w = .ok #[] w := fun _ => rfl
  cases b <;> cases ad <;> simp [Builtin.append_, run_underlying hu, sizeOf, typeInfo, hi, Builtin.lenOf, Builtin.firstCells, hn, storeCells, hl]
/-- append, where it must grow beyond what the row holds: to nil, to an empty slice, to a whole row -/
theorem grow_out {H0 : LH} (hrel : Rel P H0 ι w) {e : TypeId} {s k cap g : Nat} {olds news xs us : List Value} {w' : World} {row : Option Nat} (hs : sz P e = some s) (hs0 : 0 < s)
    (hol : olds.length + news.length = k * s) (hxl : xs.length = olds.length) (hul : us.length = news.length)
    (hxs : ∀ (j : Nat) (x u : Value), olds[j]? = some x → xs[j]? = some u → VR H0.D ι x u) (hus : ∀ (j : Nat) (x u : Value), news[j]? = some x → us[j]? = some u → VR H0.D ι x u)
    (hown : w'.ownsRow 0 e s (.slice (some ⟨g, 0, none⟩) k cap) k (xs ++ us)) (hgr : w.grownBy w' row) (hrow : ∀ l b', H0.get l = some b' → row ≠ some (ι l).blk) (hpin : ∀ g, g < H0.ng → row ≠ some g) (hgn : row = some g ∨ g = w.heap.size) :
    Rel P (H0.new ⟨olds ++ news, e, true⟩) (ι.add H0.n ⟨g, 0, cap - k⟩) w' ∧ VR (H0.new ⟨olds ++ news, e, true⟩).D (ι.add H0.n ⟨g, 0, cap - k⟩) (.slice (some ⟨H0.n, 0, none⟩) k k) (.slice (some ⟨g, 0, none⟩) k cap) := by
  rcases hown.2 with ⟨hx0, _⟩ | ⟨g', cap', cur, hx0, _, hh, hnc, hcm, hcs, htake⟩
  · cases hx0
  · simp only [Value.slice.injEq, Option.some.injEq, Addr.mk.injEq] at hx0
    obtain ⟨⟨rfl, _⟩, _, rfl⟩ := hx0
    refine ⟨rel_grow (b := ⟨olds ++ news, e, true⟩) (arr := cur) (g := g) (slack := cap - k) (s := s) hrel rfl hs hh ?_ ?_ ?_ hgr hrow hpin hgn, ?_⟩
    · rw [hcs]; show cap * s = (olds ++ news).length + (cap - k) * s
      rw [List.length_append, hol, ← Nat.add_mul]; congr 1; omega
    · intro n _ hn
      have hn' : k * s = n * s := by rw [← hol, ← List.length_append]; exact hn
      have := Nat.eq_of_mul_eq_mul_right hs0 hn'
      omega
    · intro j x hx
      have hx' : (olds ++ news)[j]? = some x := hx
      have hlt : j < k * s := by rw [← hol, ← List.length_append]; exact (List.getElem?_eq_some_iff.1 hx').1
      have hlt2 : j < (xs ++ us).length := by rw [List.length_append, hxl, hul, hol]; exact hlt
      have h1 : (cur.toList.take (k * s))[j]? = some (xs ++ us)[j] := by rw [htake]; exact List.getElem?_eq_getElem hlt2
      rw [List.getElem?_take, if_pos hlt] at h1
      refine ⟨(xs ++ us)[j], by simpa using h1, ?_⟩
      have h2 : (xs ++ us)[j]? = some (xs ++ us)[j] := List.getElem?_eq_getElem hlt2
      rw [List.getElem?_append] at hx' h2
      rw [hxl] at h2
      split at hx'
      · rw [if_pos ‹_›] at h2; exact hxs j _ _ hx' h2
      · rw [if_neg ‹_›] at h2; exact hus _ _ _ hx' h2
    · have := VR.slice (n := (H0.new ⟨olds ++ news, e, true⟩).D) (ι := ι.add H0.n ⟨g, 0, cap - k⟩) H0.n 0 k k ((D_new hrel H0.n).2 (.inr rfl)) (Nat.le_refl _)
      have hcc : k + (cap - k) = cap := by omega
      simpa [Ren.add, hcc] using this
theorem grow_whole {H0 : LH} (hrel0 : Rel P H0 ι w) (hsub : ∀ l b, H0.get l = some b → H.get l = some b) (hn : H0.n = H.n) (hh : H0.hole = H.hole) {b0 : LB} {g : Nat} {im : Im} {w' : World} {row : Option Nat} (hrel : Rel P (H0.new b0) (ι.add H0.n im) w') (him : im.blk = g)
    (hgr : w.grownBy w' row) (hrow : ∀ k, row = some k → RW H ι k) (hgn : row = some g ∨ g = w.heap.size) : Out P H ι w (H0.new b0) (ι.add H0.n im) w' := by
  have hD : ∀ l, H.D l → H0.D l := fun l hl => by unfold LH.D at hl ⊢; rw [hn, hh]; exact hl
  refine ⟨hrel, by show H.n ≤ H0.n + 1; omega, fun l hl => (D_new hrel0 l).2 (.inl (hD l hl)), fun l hl => by unfold Ren.add; rw [if_neg (fun e => by have := (hD l hl).1; omega)], ⟨hgr.os, hgr.tape, hgr.output, hgr.size, fun k hk hne => hgr.block k hk (fun e => hne (hrow k e.symm))⟩, ?_⟩
  rintro k ⟨l, b', hb', hrw', rfl⟩
  change (if l = H0.n then some b0 else H0.get l) = some b' at hb'
  split at hb'
  · rename_i e2; subst e2
    simp only [Ren.add, if_true, him]
    rcases hgn with hg | hg
    · exact .inl (hrow g hg)
    · exact .inr (by omega)
  · rename_i hne; left
    refine ⟨l, b', hsub l b' hb', hrw', ?_⟩
    unfold Ren.add; rw [if_neg hne]
theorem run_append_empty {t ty e : TypeId} {i : TypeInfo} {z : Value} (hu : P.underlying t = some (.slice e)) (hi : P.info? e = some i) (hz : i.zero = some z) (b : Addr)
    (ad : Addr) (m c : Nat) (us : List Value) (hl : us.length = m * i.size) (hc : ∀ (j : Nat) (v : Value), us[j]? = some v → w.cell? (ad.add j) = some v) (h0 : 0 < m) (hm : m ≤ 1048576) (hb : i.bytes ≤ 1048576) :
    (Builtin.append_ #[t, t] ty #[.slice (some b) 0 0, .slice (some ad) m c]).run P w = (Builtin.append_ #[t, t] ty #[.slice none 0 0, .slice (some ad) m c]).run P w := by
  have hmb := Nat.mul_le_mul hm hb
  have hf : Builtin.nextslicecap (0 + m) 0 * i.bytes ≤ 281474976710656 := growslice_fits (by omega) (by rw [Nat.zero_add]; omega)
  rw [run_append_grow (P := P) w t ty e i z hu hi hz b 0 0 [] (by simp) (by simp) ad m c us hl hc (by omega) (by omega) hf, run_append_nil (P := P) w t ty e i z hu hi hz ad m c us hl hc h0 (by omega) (by omega)]
  simp
theorem append_sound (hrel : Rel P H ι w) {t ty : TypeId} {x y x' y' : Value} (hx : VR H.D ι x x') (hy : VR H.D ι y y') (h : lappend P t x y H = some (v, H')) :
    ∃ v' w' ι', (Builtin.append_ #[t, t] ty #[x', y']).run P w = .ok v' w' ∧ Out P H ι w H' ι' w' ∧ VR H'.D ι' v v' := by
  unfold lappend at h
  split at h
  case h_2 => cases h
  rename_i e hu
  split at h
  case h_2 => cases h
  rename_i s hs
  obtain ⟨i, z, hi, hz, e1, hzs, hs0, hbytes, hsz⟩ := lesz_spec hs
  split at h
  case h_2 => cases h
  rename_i m new hsrc
  have hS := src_sound hrel hs0 hy hsrc
  split at h
  case isFalse => cases h
  rename_i hcell
  have hone : ∀ us : List Value, us.length = m * s → new.length = m * s → (∀ (j : Nat) (x u : Value), new[j]? = some x → us[j]? = some u → VR H.D ι x u) → ∀ u ∈ us, u.oneCell' = true := fun us hul hlen huv u hu' => by
    obtain ⟨j, hj⟩ := List.getElem?_of_mem hu'
    have hlt : j < new.length := by rw [hlen, ← hul]; exact (List.getElem?_eq_some_iff.1 hj).1
    exact cell_one (huv j _ u (List.getElem?_eq_getElem hlt) hj) ((List.all_eq_true.1 hcell) _ (List.getElem_mem hlt))
  split at h
  · have hx' := flat_eq hx rfl
    subst hx'
    split at h
    · rename_i hm
      subst hm
      simp only [Option.some.injEq, Prod.mk.injEq] at h
      obtain ⟨rfl, rfl⟩ := h
      rcases hS with ⟨_, _, b, c, rfl⟩ | ⟨h0, _⟩
      · exact ⟨_, w, ι, append_zero hu hi (Nat.le_refl _), Out.refl hrel, .flat _ rfl⟩
      · omega
    · rename_i hm
      split at h
      case isFalse => cases h
      rename_i hmx
      simp only [Option.some.injEq, Prod.mk.injEq] at h
      obtain ⟨rfl, rfl⟩ := h
      rcases hS with ⟨h0, _⟩ | ⟨_, hlen, ad, c, us, rfl, hul, hcells, huv⟩
      · omega
      unfold maxElems at hmx
      have hb2 : (0 + m) * i.bytes ≤ 140737488355328 := by
        have := Nat.mul_le_mul (show 0 + m ≤ 1048576 by omega) hbytes
        omega
      obtain ⟨g, cap, w', hr, hown, hgr, hg⟩ := run_append2 (P := P) w t ty e i z s i.bytes hu hi hz e1 rfl hzs hs0 (.slice none 0 0) 0 [] (World.ownsRow_nil w 0 e s) ad m c us hul hcells (hone us hul hlen huv) (by omega) (by simp only [maxLen]; omega) hb2
      simp only [Nat.zero_add] at hr hown
      have hg' : (none : Option Nat) = some g ∨ g = w.heap.size := by simpa [Value.ownBlock] using hg
      obtain ⟨h1, h2⟩ := grow_out (olds := []) (xs := []) (row := none) hrel hsz hs0 (by simpa using hlen) rfl (by rw [hul, hlen]) (by simp) huv hown hgr (fun _ _ _ h => by cases h) (fun _ _ h => by cases h) hg'
      exact ⟨_, w', _, hr, grow_whole (H0 := H) hrel (fun _ _ h => h) rfl rfl h1 rfl hgr (fun _ h => by cases h) hg', h2⟩
  · rename_i l off n c
    split at h
    case h_2 => cases h
    rename_i b hb
    split at h
    case isFalse => cases h
    rename_i hcond
    obtain ⟨hrw, rfl, rfl, hclen, hnc⟩ := hcond
    obtain ⟨arr, t0, f0, hw0, hsz0, hcell0, hrwf⟩ := hrel.blk l b hb
    obtain ⟨g1, rfl, rfl, s', g4, g5, g6⟩ := hrwf hrw
    have es : s' = s := by rw [hsz] at g4; injection g4 with g4; exact g4.symm
    subst es
    have hlt : H.D l := hrel.live hb
    have hX : x' = .slice (some ⟨(ι l).blk, 0, none⟩) n (c + (ι l).slack) ∨ (n = 0 ∧ c = 0 ∧ ∃ ad, x' = .slice (some ad) 0 0) := by
      cases hx with
      | flat _ hf => simp [flatB, flat1B, atomB] at hf
      | slice _ _ _ _ _ _ => left; rw [g1]
      | slice0 _ _ ad _ => right; exact ⟨rfl, rfl, ad, rfl⟩
    split at h
    · rename_i hm
      subst hm
      simp only [Option.some.injEq, Prod.mk.injEq] at h
      obtain ⟨rfl, rfl⟩ := h
      rcases hS with ⟨_, _, b2, c2, rfl⟩ | ⟨h0, _⟩
      · rcases hX with rfl | ⟨rfl, rfl, ad, rfl⟩
        · exact ⟨_, w, ι, append_zero hu hi (by omega), Out.refl hrel, hx⟩
        · exact ⟨_, w, ι, append_zero hu hi (Nat.le_refl _), Out.refl hrel, hx⟩
      · omega
    rename_i hm
    rcases hS with ⟨h0, _⟩ | ⟨hm0, hlen, ad2, c2, us, rfl, hul, hcells, huv⟩
    · omega
    have hone' := hone us hul hlen huv
    split at h
    · rename_i hroom
      simp only [Option.some.injEq, Prod.mk.injEq] at h
      obtain ⟨rfl, rfl⟩ := h
      rcases hX with rfl | ⟨rfl, rfl, ad, rfl⟩
      · have hns : (n + m) * s' ≤ c * s' := Nat.mul_le_mul_right _ hroom
        rw [Nat.add_mul] at hns
        have hin : n * s' + us.length ≤ arr.size := by rw [hul]; omega
        have hr := run_append_room (P := P) w t ty b.elem i hu hi (ι l).blk n (c + (ι l).slack) arr hw0 ad2 m c2 us (by rw [e1]; exact hul) hcells hone' (by omega) (by rw [e1]; exact hin)
        have ho := row_out (vs := new) (us := us) (o := n * s') hrel hb hrw (by rw [hlen]; omega) (by rw [hul, hlen]) huv hw0 hin
        rw [e1] at hr
        refine ⟨_, _, ι, hr, ho, ?_⟩
        have := VR.slice (n := H.D) (ι := ι) l 0 (n + m) c hlt hroom
        rw [g1] at this
        exact this
      · omega
    · rename_i hroom
      split at h
      case isFalse => cases h
      rename_i hgrow
      obtain ⟨rfl, hmx⟩ := hgrow
      simp only [Option.some.injEq, Prod.mk.injEq] at h
      obtain ⟨rfl, rfl⟩ := h
      unfold maxElems at hmx
      have hb2 : (n + m) * i.bytes ≤ 140737488355328 := by
        have := Nat.mul_le_mul hmx hbytes
        omega
      have hsub : ∀ k b', (H.kill l).get k = some b' → k ≠ l ∧ H.get k = some b' := fun k b' hk => by
        change (if k = l then none else H.get k) = some b' at hk
        split at hk
        · cases hk
        · exact ⟨‹_›, hk⟩
      rcases hX with rfl | ⟨rfl, _, ad, rfl⟩
      · have hcapm : n + (ι l).slack ≤ maxLen := g6 n (by omega) hclen
        have hown : w.ownsRow 0 b.elem s' (.slice (some ⟨(ι l).blk, 0, none⟩) n (n + (ι l).slack)) n (arr.toList.take (n * s')) :=
          ⟨by simp; omega, .inr ⟨(ι l).blk, _, arr, rfl, Nat.zero_le _, hw0, by omega, hcapm, by rw [g5, hclen, Nat.add_mul], rfl⟩⟩
        obtain ⟨g, cap, w', hr, hown', hgr, hg⟩ := run_append2 (P := P) w t ty b.elem i z s' i.bytes hu hi hz e1 rfl hzs hs0 _ n _ hown ad2 m c2 us hul hcells hone' (by omega) (by simp only [maxLen]; omega) hb2
        have hg' : some (ι l).blk = some g ∨ g = w.heap.size := by simpa [Value.ownBlock] using hg
        have hgr' : w.grownBy w' (some (ι l).blk) := by simpa [Value.ownBlock] using hgr
        obtain ⟨h1, h2⟩ := grow_out (H0 := H.kill l) (olds := b.cells) (news := new) (row := some (ι l).blk) (rel_kill hrel l) hsz hs0 (by rw [hclen, hlen, Nat.add_mul]) (by rw [List.length_take, Array.length_toList]; omega) (by rw [hul, hlen])
          (fun j x u hx hu' => by
            rw [List.getElem?_take] at hu'
            split at hu'
            · obtain ⟨y, hy, hv⟩ := hcell0 j x hx
              rw [g1, Nat.zero_add] at hy
              rw [Array.getElem?_toList, hy] at hu'
              injection hu' with hu'
              rw [← hu']; exact hv
            · cases hu') huv hown' hgr' (fun k b' hk e => by
              obtain ⟨hne, hk'⟩ := hsub k b' hk
              injection e with e
              exact hrel.sep l k b b' hb hk' hrw (fun e => hne e.symm) e) (fun g0 hg0 e => by
              injection e with e
              exact (hrel.pin g0 hg0).2.2 ⟨l, b, hb, hrw, e⟩) hg'
        exact ⟨_, w', _, hr, grow_whole (H0 := H.kill l) (rel_kill hrel l) (fun k b' hk => (hsub k b' hk).2) rfl rfl h1 rfl hgr' (fun k e => by injection e with e; exact ⟨l, b, hb, hrw, e⟩) hg', h2⟩
      · obtain ⟨g, cap, w', hr, hown, hgr, hg⟩ := run_append2 (P := P) w t ty b.elem i z s' i.bytes hu hi hz e1 rfl hzs hs0 (.slice none 0 0) 0 [] (World.ownsRow_nil w 0 b.elem s') ad2 m c2 us hul hcells hone' (by omega) (by simp only [maxLen]; omega) hb2
        rw [← run_append_empty hu hi hz ad ad2 m c2 us (by rw [e1]; exact hul) hcells hm0 (by omega) hbytes] at hr
        have hg' : (none : Option Nat) = some g ∨ g = w.heap.size := by simpa [Value.ownBlock] using hg
        have hb0 : b.cells = [] := List.eq_nil_of_length_eq_zero (by rw [hclen]; simp)
        obtain ⟨h1, h2⟩ := grow_out (H0 := H.kill l) (olds := b.cells) (news := new) (xs := []) (row := none) (rel_kill hrel l) hsz hs0 (by rw [hclen, hlen, Nat.add_mul]) (by rw [hb0]) (by rw [hul, hlen]) (by simp) huv hown hgr (fun _ _ _ h => by cases h) (fun _ _ h => by cases h) hg'
        exact ⟨_, w', _, hr, grow_whole (H0 := H.kill l) (rel_kill hrel l) (fun k b' hk => (hsub k b' hk).2) rfl rfl h1 rfl hgr (fun _ h => by cases h) hg', h2⟩
  · cases h
end
end Go.Lg
