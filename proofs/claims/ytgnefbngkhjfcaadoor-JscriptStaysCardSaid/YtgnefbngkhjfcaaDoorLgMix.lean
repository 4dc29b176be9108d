/-
  A logical run of Go code: regions whose order is open, with operations that allocate: first what may come in any order, then what comes in order.
-/
import Derived.Test.YtgnefbngkhjfcaaDoorLgC
import Derived.StillTail
set_option linter.unusedSimpArgs false
set_option linter.unusedVariables false
namespace Go.Lg
open Go.Tg Go.RowKit

/-! ### all orders, by an invariant -/
section
variable {P : Program} {ops : Array Oper} {md : Region.Mode} {Q : Exit → Act → World → Prop}
theorem countP_lt {p q : Nat → Bool} : ∀ {l : List Nat}, (∀ x ∈ l, p x = true → q x = true) → ∀ {y}, y ∈ l → q y = true → p y = false → l.countP p < l.countP q
  | [], _, y, hy, _, _ => by cases hy
  | a :: l, h, y, hy, h1, h2 => by
    rw [List.countP_cons, List.countP_cons]
    have hle : l.countP p ≤ l.countP q := List.countP_mono_left (fun x hx => h x (List.mem_cons_of_mem _ hx))
    rcases List.mem_cons.1 hy with rfl | hy
    · simp [h1, h2]; omega
    · have h3 := countP_lt (fun x hx => h x (List.mem_cons_of_mem _ hx)) hy h1 h2
      have h4 := h a (List.mem_cons_self ..)
      cases hp : p a <;> cases hq : q a <;> simp_all <;> omega
def undone (ops : Array Oper) (listed : Array Bool) : Nat := (List.range ops.size).countP fun i => !listed.getD i true
theorem getD_set_self {listed : Array Bool} {i : Nat} : (listed.setIfInBounds i true).getD i true = true := by
  rcases Nat.lt_or_ge i listed.size with h | h
  · simp [h]
  · simp [Array.getElem?_eq_none h]
theorem undone_set {listed : Array Bool} {i : Nat} (hi : i < ops.size) (h : listed.getD i true = false) : undone ops (listed.setIfInBounds i true) < undone ops listed := by
  refine countP_lt (fun x _ hx => ?_) (List.mem_range.2 hi) (by rw [h]; rfl) (by rw [getD_set_self]; rfl)
  by_cases e : i = x
  · subst e; rw [h]; rfl
  · rw [getD_set_ne true e] at hx; exact hx
theorem ready_lt {listed : Array Bool} {i : Nat} (h : i ∈ Region.ready md ops listed) : i < ops.size ∧ listed.getD i true = false := by
  obtain ⟨h1, o, ho, _⟩ := mem_ready.1 h
  exact ⟨(Array.getElem?_eq_some_iff.1 ho).1, h1⟩
theorem wpAny_inv {Inv : Array Bool → Act → World → Prop} (hstep : ∀ listed a w, Inv listed a w → ∀ i ∈ Region.ready md ops listed, wpOp P ops Q i (Inv (listed.setIfInBounds i true)) a w)
    (hdone : ∀ listed a w, Inv listed a w → Region.ready md ops listed = [] → Q .normal a w) : ∀ (fuel : Nat) (listed : Array Bool) (a : Act) (w : World), undone ops listed ≤ fuel → Inv listed a w → wpAny P md ops Q fuel listed a w
  | 0, listed, a, w, hu, h => by
    have hr : Region.ready md ops listed = [] := by
      rw [List.eq_nil_iff_forall_not_mem]
      intro i hi
      obtain ⟨h1, h2⟩ := ready_lt hi
      have := undone_set h1 h2
      omega
    exact ⟨hr, hdone _ _ _ h hr⟩
  | fuel + 1, listed, a, w, hu, h => ⟨hdone listed a w h, fun i hi => wpOp_mono (fun a' w' h' => wpAny_inv hstep hdone fuel _ a' w' (by
      obtain ⟨h1, h2⟩ := ready_lt hi
      have := undone_set h1 h2
      omega) h') (hstep listed a w h i hi)⟩
end

/-! ### frames that agree on what an operation looks at -/
section
variable {P : Program} {T : Callee} {fr fr' : Fr} {H H' H1 : LH} {o : Oper} {v : Value}
theorem lbound_congr {d : Nat} {x : Option Operand} (h : ∀ y, x = some y → ev fr y = ev fr' y) : lbound fr d x = lbound fr' d x := by
  cases x with
  | none => rfl
  | some y => unfold lbound; simp only [h y rfl]
theorem lop_congr (h : ∀ x ∈ o.op.operands, ev fr x = ev fr' x) : lop P T o fr H = lop P T o fr' H := by
  obtain ⟨dst, op, ty, pos, after, guard⟩ := o
  have pairs : ∀ ps : Array (Nat × Operand), (∀ x ∈ ps.toList.map (·.2), ev fr x = ev fr' x) → ps.toList.map (fun p => (p.1, ev fr p.2)) = ps.toList.map (fun p => (p.1, ev fr' p.2)) := fun ps hp =>
    List.map_congr_left (fun p hm => by rw [hp p.2 (List.mem_map.2 ⟨p, hm, rfl⟩)])
  cases op <;> simp only [Op.operands] at h
  case move x => simp only [lop]; rw [h x (by simp)]
  case assign x => simp only [lop]; rw [h x (by simp)]
  case pick c x y => simp only [lop]; rw [h x (by simp), h y (by simp), h c (by simp)]
  case box e x => simp only [lop]; rw [h x (by simp)]
  case load t x => simp only [lop]; rw [h x (by simp)]
  case store t x y => simp only [lop]; rw [h x (by simp), h y (by simp)]
  case nilCheck x => simp only [lop]; rw [h x (by simp)]
  case fieldAddr t x f => simp only [lop]; rw [h x (by simp)]
  case field t x f => simp only [lop]; rw [h x (by simp)]
  case indexAddr t x y => simp only [lop]; rw [h x (by simp), h y (by simp)]
  case index t x y => simp only [lop]; rw [h x (by simp), h y (by simp)]
  case binOp op t x y yt => simp only [lop]; rw [h x (by simp), h y (by simp)]
  case unOp op t x => simp only [lop]; rw [h x (by simp)]
  case convert s d x => simp only [lop]; rw [h x (by simp)]
  case extract x i => simp only [lop]; rw [h x (by simp)]
  case build t ps => simp only [lop]; rw [pairs ps (by simpa using h)]
  case buildSlice t n ps => simp only [lop]; rw [pairs ps (by simpa using h)]
  case slice t x lo hi mx =>
    cases mx with
    | some m => rfl
    | none =>
      simp only [lop]
      have e1 := h x (by simp)
      have e2 : ∀ d, lbound fr d lo = lbound fr' d lo := fun d => lbound_congr (fun y hy => h y (by simp [hy]))
      have e3 : ∀ d, lbound fr d hi = lbound fr' d hi := fun d => lbound_congr (fun y hy => h y (by simp [hy]))
      unfold lslice
      simp only [e1, e2, e3]
  case makeFunc f first captured =>
    cases f with
    | func g =>
      simp only [lop]
      rw [Array.map_congr_left (fun x hx => h x (by simp [hx]))]
    | _ => rfl
  case call c =>
    obtain ⟨callee, args, ts⟩ := c
    have e : args.toList.map (ev fr) = args.toList.map (ev fr') := List.map_congr_left (fun x hx => h x (by simp [Call.operands]; exact .inr (by simpa using hx)))
    cases callee with
    | value f => simp only [lop]; rw [e, h f (by simp [Call.operands])]
    | builtin b => simp only [lop]; rw [e]
    | invoke x y => rfl
  all_goals rfl
theorem lquiet_congr (h : ∀ x ∈ o.op.operands, ev fr x = ev fr' x) : lquiet P T o fr H = lquiet P T o fr' H := by
  have h0 := lop_congr (P := P) (T := T) (H := H) h
  obtain ⟨dst, op, ty, pos, after, guard⟩ := o
  cases op with
  | call c =>
    obtain ⟨callee, args, ts⟩ := c
    simp only [Op.operands] at h
    have e : args.toList.map (ev fr) = args.toList.map (ev fr') := List.map_congr_left (fun x hx => h x (by simp [Call.operands]; exact .inr (by simpa using hx)))
    cases callee with
    | value f => simp only [lquiet]; rw [e, h f (by simp [Call.operands])]
    | builtin b => cases b <;> simp only [lquiet] <;> rw [e]
    | invoke x y => rfl
  | store _ _ _ => rfl
  | box _ _ => rfl
  | alloc _ => rfl
  | buildSlice _ _ _ => rfl
  | _ => simp only [lquiet]; rw [h0]
theorem lquiet_read (h : lop P T o fr H = some (v, H')) (hk : readB o.op = true) : lquiet P T o fr H = some v := by
  obtain ⟨dst, op, ty, pos, after, guard⟩ := o
  cases op with
  | call c => simp [readB] at hk
  | store _ _ _ => simp [readB] at hk
  | box _ _ => simp [readB] at hk
  | alloc _ => simp [readB] at hk
  | buildSlice _ _ _ => simp [readB] at hk
  | _ => simp only [lquiet]; rw [h]; rfl
theorem lbuiltin_any {b : Builtin} {ts : List TypeId} {args : List Value} (hb : b ≠ .append) (h : lbuiltin P b ts args H = some (v, H')) : H' = H ∧ lbuiltin P b ts args H1 = some (v, H1) := by
  unfold lbuiltin at h ⊢
  split at h
  · split at h
    · rename_i hu
      simp only [Option.some.injEq, Prod.mk.injEq] at h
      obtain ⟨rfl, rfl⟩ := h
      simp only [hu]; exact ⟨trivial, trivial⟩
    · rename_i hu
      simp only [Option.some.injEq, Prod.mk.injEq] at h
      obtain ⟨rfl, rfl⟩ := h
      simp only [hu]; exact ⟨trivial, trivial⟩
    · cases h
  · exact absurd rfl hb
  · simp only [Option.some.injEq, Prod.mk.injEq] at h
    obtain ⟨rfl, rfl⟩ := h
    exact ⟨rfl, rfl⟩
  · simp only [Option.some.injEq, Prod.mk.injEq] at h
    obtain ⟨rfl, rfl⟩ := h
    exact ⟨rfl, rfl⟩
  · cases h
end

/-! ### operations that make a block -/
def allocB : Op → Bool
  | .box _ _ | .alloc _ | .buildSlice _ _ _ => true
  | _ => false
section
variable {P : Program} {T : Callee} {N : Nat} {fr : Fr} {HS H H' : LH} {o : Oper} {a : Act} {v : Value} {ι : Ren}
theorem one_row {m n : Nat} (h0 : m ≠ 0) (h : m = n * m) : n + 0 ≤ maxLen := by
  have : n = 1 := by
    rcases Nat.eq_zero_or_pos n with h1 | h1
    · subst h1; omega
    · rcases Nat.lt_or_ge 1 n with h2 | h2
      · have := Nat.mul_le_mul_right m h2
        omega
      · omega
  subst this; simp [maxLen]
theorem alloc_at (hfr : FrR HS.D ι N fr a.tmps) (h : lop P T o fr H = some (v, H')) (hk : allocB o.op = true) : ∃ b arr s, H' = H.new b ∧ b.rw = true ∧ sz P b.elem = some s ∧ arr.size = b.cells.length + 0 * s ∧ (∀ n, s ≠ 0 → b.cells.length = n * s → n + 0 ≤ maxLen) ∧
    (∀ (i : Nat) x, b.cells[i]? = some x → ∃ y, arr[i]? = some y ∧ VR HS.D ι x y) ∧ ∀ w : World, ∃ v', (execOp a.eval o).run P w = .ok (.value v') (w.alloc (.cells arr b.elem)) ∧ ∀ (D' : Nat → Prop) (ι' : Ren), D' H.n → ι' H.n = ⟨w.heap.size, 0, 0⟩ → VR D' ι' v v' := by
  unfold lop at h
  split at h <;> try (rename_i ho; rw [ho] at hk; cases hk; done)
  · rename_i e x ho
    split at h
    · rename_i hc
      simp only [Option.some.injEq, Prod.mk.injEq] at h; obtain ⟨rfl, rfl⟩ := h
      simp only [Bool.and_eq_true, beq_iff_eq] at hc
      obtain ⟨k1, k2⟩ := vr_cells (hfr.ev x) hc.1
      refine ⟨_, (a.eval x).cells, _, rfl, rfl, hc.2, by simp [k1], fun n h0 h1 => one_row h0 (by simpa using h1), fun i y hy => ?_, fun w => ⟨.pointer (some ⟨w.heap.size, 0, none⟩), ?_, fun D' ι' h1 h2 => ?_⟩⟩
      · have hy' : (ev fr x).cells[i]? = some y := by simpa using hy
        have hlt : i < (a.eval x).cells.size := by rw [← k1]; exact (Array.getElem?_eq_some_iff.1 hy').1
        exact ⟨_, Array.getElem?_eq_getElem hlt, k2 i _ _ hy' (Array.getElem?_eq_getElem hlt)⟩
      · unfold execOp; simp only [ho, Instr.box, newVar, newRow, newObj, Sem.run_bind, Sem.run_pure, Result.andThen_ok]; rfl
      · have := VR.ptr (n := D') (ι := ι') H.n 0 h1
        simpa [h2] using this
    · cases h
  · rename_i e ho
    split at h
    · rename_i z hz
      split at h
      · rename_i hc
        simp only [Option.some.injEq, Prod.mk.injEq] at h; obtain ⟨rfl, rfl⟩ := h
        simp only [Bool.and_eq_true, beq_iff_eq] at hc
        refine ⟨_, z.cells, _, rfl, rfl, hc.2, by simp, fun n h0 h1 => one_row h0 (by simpa using h1), fun i y hy => ?_, fun w => ⟨.pointer (some ⟨w.heap.size, 0, none⟩), ?_, fun D' ι' h1 h2 => ?_⟩⟩
        · have hy' : z.cells[i]? = some y := by simpa using hy
          exact ⟨y, hy', flat_cells hc.1 _ _ (flat_known hc.1) hy'⟩
        · unfold execOp; simp only [ho, Instr.alloc, Sem.run_bind, run_zero hz, newVar, newRow, newObj, Sem.run_pure, Result.andThen_ok]; rfl
        · have := VR.ptr (n := D') (ι := ι') H.n 0 h1
          simpa [h2] using this
      · cases h
    · cases h
  · rename_i t len parts ho
    unfold lbuildSlice at h
    split at h
    · rename_i e hu
      split at h
      · rename_i s z hs hz
        split at h
        · rename_i hc
          simp only [Bool.and_eq_true, decide_eq_true_eq, beq_iff_eq] at hc
          obtain ⟨⟨⟨⟨hf, hs0⟩, hlen⟩, hzs⟩, hk⟩ := hc
          split at h
          · rename_i cs hcs
            split at h
            · rename_i hsize
              simp only [Option.some.injEq, Prod.mk.injEq] at h
              obtain ⟨rfl, rfl⟩ := h
              have hz0 : ∀ (i : Nat) (x y : Value), ((Array.range (len * s)).map fun j => z.cells[j % z.cells.size]!)[i]? = some x → ((Array.range (len * s)).map fun j => z.cells[j % z.cells.size]!)[i]? = some y → VR HS.D ι x y := by
                intro i x y hx hy
                rw [hx] at hy; injection hy with hy; rw [← hy]
                rw [Array.getElem?_map] at hx
                cases hr : (Array.range (len * s))[i]? with
                | none => simp [hr] at hx
                | some j =>
                  simp only [hr, Option.map_some, Option.some.injEq] at hx
                  have hm : j % z.cells.size < z.cells.size := Nat.mod_lt _ (by omega)
                  rw [getElem!_pos z.cells _ hm] at hx
                  exact flat_cells hf _ _ (flat_known hf) (i := j % z.cells.size) (by rw [Array.getElem?_eq_getElem hm, hx])
              obtain ⟨ds, hds, hr⟩ := fill_rel (ι := ι) (n := HS.D) _ (parts.map fun (i, x) => (i, a.eval x)).toList _ _ cs (by simp) (parts_rel hfr hk) ⟨rfl, hz0⟩ hcs
              refine ⟨_, ds, _, rfl, rfl, hs, by simp [hr.1], fun n h0 h1 => ?_, fun i x hx => ?_, fun w => ⟨.slice (some ⟨w.heap.size, 0, none⟩) len len, ?_, fun D' ι' h1 h2 => ?_⟩⟩
              · have h1' : len * s = n * s := by rw [← hsize]; simpa using h1
                have : len = n := Nat.eq_of_mul_eq_mul_right hs0 h1'
                have hle : len * 1 ≤ len * s := Nat.mul_le_mul_left _ hs0
                simp only [maxLen]; omega
              · have hx' : cs[i]? = some x := by simpa using hx
                have hlt : i < ds.size := by rw [← hr.1]; exact (Array.getElem?_eq_some_iff.1 hx').1
                exact ⟨_, Array.getElem?_eq_getElem hlt, hr.2 i _ _ hx' (Array.getElem?_eq_getElem hlt)⟩
              · unfold execOp
                simp only [ho, Instr.buildSlice, Sem.run_bind, run_underlying hu, Result.andThen_ok, run_sizeOf' hs]
                rw [if_neg (by omega)]
                by_cases h0 : len * s = 0
                · have : ((Array.range (len * s)).map fun j => z.cells[j % z.cells.size]!) = ((Array.range (len * s)).map fun j => (#[] : Array Value)[j % (#[] : Array Value).size]!) := by rw [h0]; simp
                  rw [this] at hds
                  simp only [h0, if_true, Sem.run_bind, Sem.run_pure, Result.andThen_ok] at hds ⊢
                  rw [hds]
                  simp only [newRow, newObj, Sem.run_bind, Result.andThen_ok, Sem.run_pure]; rfl
                · simp only [if_neg h0, Sem.run_bind, run_zero hz, Sem.run_pure, Result.andThen_ok]
                  rw [hds]
                  simp only [newRow, newObj, Sem.run_bind, Result.andThen_ok, Sem.run_pure]; rfl
              · have := VR.slice (n := D') (ι := ι') H.n 0 len len h1 (Nat.le_refl _)
                simpa [h2] using this
            · cases h
          · cases h
        · cases h
      · cases h
    · cases h
  · cases h
end

/-! ### one step of the text's order -/
section
variable {P : Program} {L : Loud} {T : Callee} {N : Nat} {ops : Array Oper} {H0 H H' : LH} {fr fr' : Fr} {o : Oper} {v : Value} {r : Fr × LH}
def StepAt (P : Program) (T : Callee) (N : Nat) (ops : Array Oper) (H0 : LH) (o : Oper) (x y : Fr × LH) : Prop :=
  ∃ d v b, o.dst = some d ∧ d < N ∧ lwant ops x.1 o = some b ∧ (if b = true then lmixop P T o x.1 H0 x.2 = some (v, y.2) else v = undef ∧ y.2 = x.2) ∧ y.1 = upd x.1 d v
theorem trace_of : ∀ (os : List Oper) (fr : Fr) (H : LH), lmix P L T N ops H0 os fr H = some r → ∃ st : Nat → Fr × LH, st 0 = (fr, H) ∧ (∀ i o, i < headN L os → os[i]? = some o → StepAt P T N ops H0 o (st i) (st (i + 1))) ∧
    lops P T N ops (os.drop (headN L os)) (st (headN L os)).1 (st (headN L os)).2 = some r
  | [], fr, H, h => ⟨fun _ => (fr, H), rfl, (fun i o hi => by simp [headN] at hi), by simpa [lmix, lops] using h⟩
  | o :: os, fr, H, h => by
    unfold lmix at h
    split at h
    · rename_i hl
      exact ⟨fun _ => (fr, H), rfl, (fun i o hi => by simp [headN, hl] at hi), by simpa [headN, hl] using h⟩
    · rename_i hl
      split at h
      · cases h
      · rename_i d hd
        split at h
        · rename_i hdN
          have go : ∀ (v : Value) (H1 : LH) (b : Bool), lwant ops fr o = some b → (if b = true then lmixop P T o fr H0 H = some (v, H1) else v = undef ∧ H1 = H) → lmix P L T N ops H0 os (upd fr d v) H1 = some r → ∃ st : Nat → Fr × LH, st 0 = (fr, H) ∧ (∀ i o', i < headN L (o :: os) → (o :: os)[i]? = some o' → StepAt P T N ops H0 o' (st i) (st (i + 1))) ∧
              lops P T N ops ((o :: os).drop (headN L (o :: os))) (st (headN L (o :: os))).1 (st (headN L (o :: os))).2 = some r := by
            intro v H1 b hb hv hr
            obtain ⟨st, h0, hs, hf⟩ := trace_of os (upd fr d v) H1 hr
            have hn : headN L (o :: os) = headN L os + 1 := by simp [headN, hl]
            refine ⟨fun i => match i with | 0 => (fr, H) | i + 1 => st i, rfl, fun i o' hi ho => ?_, by rw [hn]; exact hf⟩
            cases i with
            | zero =>
              simp only [List.getElem?_cons_zero, Option.some.injEq] at ho
              subst ho
              refine ⟨d, v, b, hd, hdN, hb, ?_, ?_⟩
              · show (if b = true then lmixop P T o fr H0 H = some (v, (st 0).2) else v = undef ∧ (st 0).2 = H)
                rw [h0]; exact hv
              · show (st 0).1 = _
                rw [h0]
            | succ i => exact hs i o' (by omega) (by simpa using ho)
          split at h
          · rename_i hw
            split at h
            · rename_i v H1 hop
              exact go v H1 true hw (by rw [if_pos rfl]; exact hop) h
            · cases h
          · rename_i hw
            exact go undef H false hw (by rw [if_neg (by simp)]; exact ⟨rfl, rfl⟩) h
          · cases h
        · cases h
theorem lop_readH (h : lop P T o fr H = some (v, H')) (hk : readB o.op = true) : H' = H := by
  unfold lop at h
  split at h <;> (try (rename_i ho; rw [ho] at hk; cases hk; done)) <;> (repeat' split at h) <;> (first | (cases h; done) | (simp only [Option.some.injEq, Prod.mk.injEq] at h; exact h.2.symm) | (simp only [Option.map_eq_some_iff, Prod.mk.injEq] at h; obtain ⟨_, _, _, e⟩ := h; exact e.symm))
/-- what such an operation may be -/
theorem lmixop_cases (h : lmixop P T o fr H0 H = some (v, H')) :
    (H' = H ∧ readB o.op = true ∧ lop P T o fr H = some (v, H)) ∨ (H' = H ∧ (H.n = H0.n ∨ ∃ c f, o.op = .call c ∧ c.callee = .value f ∧ flatB (ev fr f) = true ∧ (c.args.toList.map (ev fr)).all flatB = true) ∧ lquiet P T o fr H0 = some v) ∨
    (H' = H ∧ ∃ c b, o.op = .call c ∧ c.callee = .builtin b ∧ b ≠ .append ∧ ∃ H1, lbuiltin P b c.argTypes.toList (c.args.toList.map (ev fr)) H = some (v, H1)) ∨
    (allocB o.op = true ∧ lop P T o fr H = some (v, H')) := by
  obtain ⟨dst, op, ty, pos, after, guard⟩ := o
  cases op with
  | store _ _ _ => simp [lmixop] at h
  | call c =>
    simp only [lmixop] at h
    cases hc : c.callee with
    | value f =>
      simp only [hc] at h
      split at h
      · rename_i hcond
        obtain ⟨u, hu, e⟩ := Option.map_eq_some_iff.1 h
        simp only [Prod.mk.injEq] at e
        obtain ⟨rfl, rfl⟩ := e
        refine .inr (.inl ⟨rfl, ?_, hu⟩)
        simp only [Bool.or_eq_true, beq_iff_eq, Bool.and_eq_true] at hcond
        rcases hcond with h1 | h1
        · exact .inl h1
        · exact .inr ⟨c, f, rfl, hc, h1.1, h1.2⟩
      · cases h
    | builtin b =>
      simp only [hc] at h
      have key : b ≠ .append → (lbuiltin P b c.argTypes.toList (c.args.toList.map (ev fr)) H).map (fun r => (r.1, H)) = some (v, H') → (H' = H ∧ ∃ c' b', Op.call c = .call c' ∧ c'.callee = .builtin b' ∧ b' ≠ .append ∧ ∃ H1, lbuiltin P b' c'.argTypes.toList (c'.args.toList.map (ev fr)) H = some (v, H1)) := by
        intro hb hm
        obtain ⟨⟨u, H1⟩, hu, e⟩ := Option.map_eq_some_iff.1 hm
        simp only [Prod.mk.injEq] at e
        obtain ⟨rfl, rfl⟩ := e
        exact ⟨rfl, c, b, rfl, hc, hb, H1, hu⟩
      cases b <;> first | (exact .inr (.inr (.inl (key (by simp) h)))) | cases h
    | invoke x y => simp [hc] at h
  | box _ _ => exact .inr (.inr (.inr ⟨rfl, h⟩))
  | alloc _ => exact .inr (.inr (.inr ⟨rfl, h⟩))
  | buildSlice _ _ _ => exact .inr (.inr (.inr ⟨rfl, h⟩))
  | _ =>
    simp only [lmixop] at h
    have e := lop_readH h rfl
    subst e
    exact .inl ⟨rfl, rfl, h⟩
end

/-! ### heaps that grow -/
structure Sub (H H' : LH) : Prop where
  n : H.n ≤ H'.n
  get : ∀ l, l < H.n → H'.get l = H.get l
  hole : ∀ l, H'.hole l ↔ H.hole l
  base : H'.base = H.base
  ng : H'.ng = H.ng
  dom : (∀ l, H.n ≤ l → H.get l = none) → ∀ l, H'.n ≤ l → H'.get l = none
theorem Sub.refl (H : LH) : Sub H H := ⟨Nat.le_refl _, fun _ _ => rfl, fun _ => Iff.rfl, rfl, rfl, fun h => h⟩
theorem Sub.trans {H H1 H2 : LH} (h : Sub H H1) (k : Sub H1 H2) : Sub H H2 :=
  ⟨Nat.le_trans h.n k.n, fun l hl => (k.get l (Nat.lt_of_lt_of_le hl h.n)).trans (h.get l hl), fun l => (k.hole l).trans (h.hole l), k.base.trans h.base, k.ng.trans h.ng, fun hd => k.dom (h.dom hd)⟩
theorem Sub.new (H : LH) (b : LB) : Sub H (H.new b) :=
  ⟨Nat.le_succ _, fun l hl => by show (if l = H.n then some b else H.get l) = _; rw [if_neg (by omega)], fun _ => Iff.rfl, rfl, rfl, fun hd l hl => by
    have : H.n + 1 ≤ l := hl
    show (if l = H.n then some b else H.get l) = _
    rw [if_neg (by omega)]; exact hd l (by omega)⟩

open Classical in
/-- a heap without some of its blocks: holes -/
noncomputable def LH.cut (H : LH) (U : Nat → Prop) : LH := ⟨H.n, fun l => if U l then none else H.get l, fun l => H.hole l ∨ (U l ∧ l < H.n), H.base, H.ng⟩
section
variable {P : Program} {H HF : LH} {ι : Ren} {w : World} {U V : Nat → Prop}
theorem cut_D {l : Nat} : (HF.cut U).D l ↔ HF.D l ∧ ¬ U l := by
  show (l < HF.n ∧ ¬ (HF.hole l ∨ (U l ∧ l < HF.n))) ↔ (l < HF.n ∧ ¬ HF.hole l) ∧ ¬ U l
  constructor
  · rintro ⟨h1, h2⟩
    exact ⟨⟨h1, fun h => h2 (.inl h)⟩, fun h => h2 (.inr ⟨h, h1⟩)⟩
  · rintro ⟨⟨h1, h2⟩, h3⟩
    exact ⟨h1, fun h => h.elim h2 (fun h => h3 h.1)⟩
open Classical in
theorem cut_get {l : Nat} : (HF.cut U).get l = if U l then none else HF.get l := rfl
theorem cut_congr (h : ∀ l, l < HF.n → (U l ↔ V l)) (hdom : ∀ l, HF.n ≤ l → HF.get l = none) : HF.cut U = HF.cut V := by
  unfold LH.cut
  congr 1
  · funext l
    rcases Nat.lt_or_ge l HF.n with hl | hl
    · by_cases hv : V l
      · rw [if_pos ((h l hl).2 hv), if_pos hv]
      · rw [if_neg (fun hu => hv ((h l hl).1 hu)), if_neg hv]
    · rw [hdom l hl]; simp
  · funext l
    apply propext
    constructor
    · rintro (h1 | ⟨h1, h2⟩)
      · exact .inl h1
      · exact .inr ⟨(h l h2).1 h1, h2⟩
    · rintro (h1 | ⟨h1, h2⟩)
      · exact .inl h1
      · exact .inr ⟨(h l h2).2 h1, h2⟩
theorem cut_none (h : ∀ l, ¬ U l) : HF.cut U = HF := by
  obtain ⟨n, get, hole, base, ng⟩ := HF
  unfold LH.cut
  congr 1
  · funext l; rw [if_neg (h l)]
  · funext l; apply propext
    exact ⟨fun hx => hx.elim id (fun hx => absurd hx.1 (h l)), .inl⟩
/-- in the beginning: none of the new blocks is there -/
theorem out_cut0 (h : Rel P H ι w) (hs : Sub H HF) : Out P H ι w (HF.cut (fun l => H.n ≤ l)) ι w := by
  have hget : ∀ l, (HF.cut (fun l => H.n ≤ l)).get l = H.get l := fun l => by
    rw [cut_get]
    split
    · exact (h.dom l ‹_›).symm
    · exact hs.get l (by omega)
  have hD : ∀ l, H.D l → (HF.cut (fun l => H.n ≤ l)).D l := fun l hl => cut_D.2 ⟨⟨Nat.lt_of_lt_of_le hl.1 hs.n, fun hx => hl.2 ((hs.hole l).1 hx)⟩, Nat.not_le.2 hl.1⟩
  have hRW : ∀ k, RW (HF.cut (fun l => H.n ≤ l)) ι k → RW H ι k := by
    rintro k ⟨l, b, h1, h2, h3⟩
    rw [hget] at h1
    exact ⟨l, b, h1, h2, h3⟩
  refine ⟨⟨fun l hl => ?_, fun l hl => ?_, fun l b hb' => ?_, fun l l' b b' h1 h2 => ?_, fun g hg' => ?_⟩, hs.n, hD, fun _ _ => rfl, Change.refl _ _, fun k hk => .inl (hRW k hk)⟩
  · rw [hget]; exact h.dom l (Nat.le_trans hs.n hl)
  · rcases hl with hl | ⟨hl, hlt⟩
    · exact ⟨Nat.lt_of_lt_of_le (h.hol l ((hs.hole l).1 hl)).1 hs.n, by rw [hget]; exact (h.hol l ((hs.hole l).1 hl)).2⟩
    · exact ⟨hlt, by rw [hget]; exact h.dom l hl⟩
  · rw [hget] at hb'
    obtain ⟨arr, t, f, hw, g1, g2, g3⟩ := h.blk l b hb'
    exact ⟨arr, t, f, hw, g1, fun i v hv => by
      obtain ⟨v', h1, h2⟩ := g2 i v hv
      exact ⟨v', h1, h2.mono hD (fun _ _ => rfl)⟩, g3⟩
  · rw [hget] at h1 h2
    exact h.sep l l' b b' h1 h2
  · have hg2 : g < H.ng := hs.ng ▸ hg'
    obtain ⟨e1, e2, e3⟩ := h.pin g hg2
    exact ⟨by show w.heap[g]? = HF.base.heap[g]?; rw [hs.base]; exact e1, e2, fun hk => e3 (hRW g hk)⟩
/-- a block is made: one hole less -/
theorem out_cut1 (h : Rel P (HF.cut U) ι w) {k : Nat} {b : LB} {arr : Array Value} {slack s : Nat} (hU : U k) (hb : HF.get k = some b) (hk : k < HF.n) (hnh : ¬ HF.hole k) (hdom : ∀ l, HF.n ≤ l → HF.get l = none) (hhol : ∀ l, HF.hole l → l < HF.n ∧ HF.get l = none) (hrw : b.rw = true) (hs : sz P b.elem = some s) (hsz : arr.size = b.cells.length + slack * s)
    (hm : ∀ n, s ≠ 0 → b.cells.length = n * s → n + slack ≤ maxLen) (hc : ∀ (i : Nat) x, b.cells[i]? = some x → ∃ y, arr[i]? = some y ∧ VR (HF.cut U).D ι x y) :
    Out P (HF.cut U) ι w (HF.cut (fun l => U l ∧ l ≠ k)) (ι.add k ⟨w.heap.size, 0, slack⟩) (w.alloc (.cells arr b.elem)) := by
  refine rel_at h hrw hs hsz hm hc (fun l => ?_) (fun l => ?_) (fun hd => (cut_D.1 hd).2 hU) (fun l hl => ?_) (fun l hl => ?_) (Nat.le_refl _) rfl rfl
  · rw [cut_get, cut_get]
    by_cases e : l = k
    · subst e; simp [hb]
    · rw [if_neg e]
      by_cases hu : U l
      · rw [if_pos ⟨hu, e⟩, if_pos hu]
      · rw [if_neg (fun x => hu x.1), if_neg hu]
  · rw [cut_D, cut_D]
    by_cases e : l = k
    · subst e; simp [LH.D, hk, hnh]
    · simp [e]
  · rw [cut_get, hdom l hl]; simp
  · rcases hl with hl | ⟨hl, hlt⟩
    · exact ⟨(hhol l hl).1, by rw [cut_get, (hhol l hl).2]; simp⟩
    · exact ⟨hlt, by rw [cut_get, if_pos hl]⟩
end
end Go.Lg
