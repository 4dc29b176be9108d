/-
  Texts joined, part 2: LgMixB, LgCh, LgChB, LgRun, LgCall, LgSimp, LgEv, LgEvB, LgEvC.
-/
import Derived.Test.YteckofomnhminaaDoorM1
/-
  A logical run of Go code: regions whose order is open, with operations that allocate: every order comes to what the text's order comes to.
-/
set_option linter.unusedSimpArgs false
set_option linter.unusedVariables false
namespace Go.Lg
open Go.Tg Go.RowKit

section
variable {P : Program} {L : Loud} {T : Callee} {N n : Nat} {ops : Array Oper} {H0 H H' : LH} {st : Nat → Fr × LH} {fr fr' : Fr} {o : Oper} {v : Value}
def dstOf (ops : Array Oper) (j : Nat) : Option Tmp := (ops[j]?).bind (·.dst)
open Classical in
noncomputable def frS (ops : Array Oper) (n : Nat) (st : Nat → Fr × LH) (listed : Array Bool) : Fr := fun t => if ∃ j, j < n ∧ listed.getD j true = true ∧ dstOf ops j = some t then (st n).1 t else (st 0).1 t
open Classical in
noncomputable def frL (ops : Array Oper) (n : Nat) (st : Nat → Fr × LH) (H0 : LH) (listed : Array Bool) : Fr := fun t => if ∃ j, j < n ∧ listed.getD j true = true ∧ dstOf ops j = some t then (if ∃ j, j < n ∧ dstOf ops j = some t ∧ (st (j + 1)).2.n = H0.n then (st n).1 t else unk) else (st 0).1 t
def Un (n : Nat) (st : Nat → Fr × LH) (listed : Array Bool) (l : Nat) : Prop := ∃ j, j < n ∧ listed.getD j true = false ∧ (st j).2.n ≤ l ∧ l < (st (j + 1)).2.n
structure Tr (P : Program) (T : Callee) (N : Nat) (ops : Array Oper) (n : Nat) (H0 : LH) (st : Nat → Fr × LH) : Prop where
  sz : n ≤ ops.size
  h0 : (st 0).2 = H0
  step : ∀ i o, i < n → ops[i]? = some o → StepAt P T N ops H0 o (st i) (st (i + 1))
  inj : ∀ i k, i < n → k < n → dstOf ops i = dstOf ops k → i = k
  dep : ∀ i o t k, i < n → ops[i]? = some o → t ∈ Oper.looksAt ops o → dstOf ops k = some t → k < i ∧ Region.waitsFor .any ops i k = true
theorem lop_allocH (h : lop P T o fr H = some (v, H')) (hk : allocB o.op = true) : ∃ b, H' = H.new b := by
  unfold lop at h
  split at h <;> try (rename_i ho; rw [ho] at hk; cases hk; done)
  · split at h
    · simp only [Option.some.injEq, Prod.mk.injEq] at h; exact ⟨_, h.2.symm⟩
    · cases h
  · split at h
    · split at h
      · simp only [Option.some.injEq, Prod.mk.injEq] at h; exact ⟨_, h.2.symm⟩
      · cases h
    · cases h
  · unfold lbuildSlice at h
    split at h
    · split at h
      · split at h
        · split at h
          · split at h
            · simp only [Option.some.injEq, Prod.mk.injEq] at h; exact ⟨_, h.2.symm⟩
            · cases h
          · cases h
        · cases h
      · cases h
    · cases h
  · cases h
theorem lmixop_sub (h : lmixop P T o fr H0 H = some (v, H')) : Sub H H' := by
  rcases lmixop_cases h with ⟨rfl, _⟩ | ⟨rfl, _⟩ | ⟨rfl, _⟩ | ⟨h1, h2⟩
  · exact Sub.refl _
  · exact Sub.refl _
  · exact Sub.refl _
  · obtain ⟨b, rfl⟩ := lop_allocH h2 h1
    exact Sub.new _ _
namespace Tr
theorem op (tr : Tr P T N ops n H0 st) {i : Nat} (hi : i < n) : ∃ o, ops[i]? = some o ∧ StepAt P T N ops H0 o (st i) (st (i + 1)) :=
  ⟨_, Array.getElem?_eq_getElem (Nat.lt_of_lt_of_le hi tr.sz), tr.step i _ hi (Array.getElem?_eq_getElem (Nat.lt_of_lt_of_le hi tr.sz))⟩
theorem sub1 (tr : Tr P T N ops n H0 st) {i : Nat} (hi : i < n) : Sub (st i).2 (st (i + 1)).2 := by
  obtain ⟨o, ho, d, v, b, _, _, _, h, _⟩ := tr.op hi
  split at h
  · exact lmixop_sub h
  · rw [h.2]; exact Sub.refl _
theorem sub (tr : Tr P T N ops n H0 st) {i : Nat} : ∀ {j : Nat}, i ≤ j → j ≤ n → Sub (st i).2 (st j).2 := by
  intro j hij hj
  induction j with
  | zero => have : i = 0 := by omega
            subst this; exact Sub.refl _
  | succ j ih =>
    by_cases e : i = j + 1
    · subst e; exact Sub.refl _
    · exact (ih (by omega) (by omega)).trans (tr.sub1 (by omega))
theorem upd (tr : Tr P T N ops n H0 st) {i : Nat} (hi : i < n) : ∃ d v, dstOf ops i = some d ∧ d < N ∧ (st (i + 1)).1 = Lg.upd (st i).1 d v := by
  obtain ⟨o, ho, d, v, b, hd, hN, _, _, h⟩ := tr.op hi
  exact ⟨d, v, by simp [dstOf, ho, hd], hN, h⟩
theorem fdst (tr : Tr P T N ops n H0 st) {j : Nat} {d : Tmp} (hd : dstOf ops j = some d) : ∀ {i : Nat}, j < i → i ≤ n → (st i).1 d = (st (j + 1)).1 d := by
  intro i hji hi
  induction i with
  | zero => omega
  | succ i ih =>
    by_cases e : j = i
    · subst e; rfl
    · obtain ⟨d', v, hd', _, h⟩ := tr.upd (i := i) (by omega)
      rw [h]
      have hne : d ≠ d' := fun hx => e (tr.inj j i (by omega) (by omega) (by rw [hd, hd', hx]))
      show (if d = d' then v else (st i).1 d) = _
      rw [if_neg hne]
      exact ih (by omega) (by omega)
theorem fnone (tr : Tr P T N ops n H0 st) {t : Tmp} : ∀ {i : Nat}, (∀ j, j < i → dstOf ops j ≠ some t) → i ≤ n → (st i).1 t = (st 0).1 t := by
  intro i h hi
  induction i with
  | zero => rfl
  | succ i ih =>
    obtain ⟨d', v, hd', _, hu⟩ := tr.upd (i := i) (by omega)
    rw [hu]
    have hne : t ≠ d' := fun hx => h i (by omega) (by rw [hd', hx])
    show (if t = d' then v else (st i).1 t) = _
    rw [if_neg hne]
    exact ih (fun j hj => h j (by omega)) (by omega)
/-- what an operation that may come now looks at is as in the text's order -/
theorem agree (tr : Tr P T N ops n H0 st) {listed : Array Bool} {i : Nat} {o : Oper} (hi : i < n) (ho : ops[i]? = some o) (hr : ∀ k, Region.waitsFor .any ops i k = true → listed.getD k true = true) {t : Tmp} (ht : t ∈ Oper.looksAt ops o) : frS ops n st listed t = (st i).1 t := by
  unfold frS
  by_cases hex : ∃ k, dstOf ops k = some t
  · obtain ⟨k, hk⟩ := hex
    obtain ⟨h1, h2⟩ := tr.dep i o t k hi ho ht hk
    rw [if_pos ⟨k, by omega, hr k h2, hk⟩, tr.fdst hk (i := n) (by omega) (Nat.le_refl _), tr.fdst hk (i := i) h1 (by omega)]
  · rw [if_neg (fun ⟨j, _, _, hj⟩ => hex ⟨j, hj⟩)]
    exact (tr.fnone (fun j _ hj => hex ⟨j, hj⟩) (by omega)).symm
theorem agreeL (tr : Tr P T N ops n H0 st) {listed : Array Bool} {i : Nat} {o : Oper} (hi : i < n) (ho : ops[i]? = some o) (hr : ∀ k, Region.waitsFor .any ops i k = true → listed.getD k true = true) (hlow : (st i).2.n = H0.n) {t : Tmp} (ht : t ∈ Oper.looksAt ops o) : frL ops n st H0 listed t = (st i).1 t := by
  unfold frL
  by_cases hex : ∃ k, dstOf ops k = some t
  · obtain ⟨k, hk⟩ := hex
    obtain ⟨h1, h2⟩ := tr.dep i o t k hi ho ht hk
    have h3 : (st (k + 1)).2.n = H0.n := by
      have a1 := (tr.sub (i := 0) (j := k + 1) (by omega) (by omega)).n
      have a2 := (tr.sub (i := k + 1) (j := i) (by omega) (by omega)).n
      rw [tr.h0] at a1
      omega
    rw [if_pos ⟨k, by omega, hr k h2, hk⟩, if_pos ⟨k, by omega, hk, h3⟩, tr.fdst hk (i := n) (by omega) (Nat.le_refl _), tr.fdst hk (i := i) h1 (by omega)]
  · rw [if_neg (fun ⟨j, _, _, hj⟩ => hex ⟨j, hj⟩)]
    exact (tr.fnone (fun j _ hj => hex ⟨j, hj⟩) (by omega)).symm
theorem set_iff {listed : Array Bool} {i j : Nat} : (listed.setIfInBounds i true).getD j true = true ↔ listed.getD j true = true ∨ i = j := by
  by_cases e : i = j
  · subst e; simp [getD_set_self]
  · rw [getD_set_ne true e]; simp [e]
theorem frS_set (tr : Tr P T N ops n H0 st) {listed : Array Bool} {i : Nat} {d : Tmp} (hi : i < n) (hd : dstOf ops i = some d) : frS ops n st (listed.setIfInBounds i true) = Lg.upd (frS ops n st listed) d ((st n).1 d) := by
  funext t
  unfold frS Lg.upd
  by_cases e : t = d
  · subst e
    rw [if_pos rfl, if_pos ⟨i, hi, set_iff.2 (.inr rfl), hd⟩]
  · rw [if_neg e]
    have : (∃ j, j < n ∧ (listed.setIfInBounds i true).getD j true = true ∧ dstOf ops j = some t) ↔ ∃ j, j < n ∧ listed.getD j true = true ∧ dstOf ops j = some t := by
      constructor
      · rintro ⟨j, h1, h2, h3⟩
        rcases set_iff.1 h2 with h2 | h2
        · exact ⟨j, h1, h2, h3⟩
        · subst h2; rw [hd] at h3; injection h3 with h3; exact absurd h3.symm e
      · rintro ⟨j, h1, h2, h3⟩
        exact ⟨j, h1, set_iff.2 (.inl h2), h3⟩
    simp only [this]
theorem frL_set (tr : Tr P T N ops n H0 st) {listed : Array Bool} {i : Nat} {d : Tmp} (hi : i < n) (hd : dstOf ops i = some d) : ∃ x, (x = unk ∨ (x = (st n).1 d ∧ (st (i + 1)).2.n = H0.n)) ∧ frL ops n st H0 (listed.setIfInBounds i true) = Lg.upd (frL ops n st H0 listed) d x := by
  refine ⟨frL ops n st H0 (listed.setIfInBounds i true) d, ?_, ?_⟩
  · unfold frL
    rw [if_pos ⟨i, hi, set_iff.2 (.inr rfl), hd⟩]
    split
    · rename_i h
      obtain ⟨j, h1, h2, h3⟩ := h
      have : j = i := tr.inj j i h1 hi (by rw [h2, hd])
      subst this
      exact .inr ⟨rfl, h3⟩
    · exact .inl rfl
  · funext t
    unfold Lg.upd
    by_cases e : t = d
    · subst e; rw [if_pos rfl]
    · rw [if_neg e]
      unfold frL
      have : (∃ j, j < n ∧ (listed.setIfInBounds i true).getD j true = true ∧ dstOf ops j = some t) ↔ ∃ j, j < n ∧ listed.getD j true = true ∧ dstOf ops j = some t := by
        constructor
        · rintro ⟨j, h1, h2, h3⟩
          rcases set_iff.1 h2 with h2 | h2
          · exact ⟨j, h1, h2, h3⟩
          · subst h2; rw [hd] at h3; injection h3 with h3; exact absurd h3.symm e
        · rintro ⟨j, h1, h2, h3⟩
          exact ⟨j, h1, set_iff.2 (.inl h2), h3⟩
      simp only [this]
theorem un_set (tr : Tr P T N ops n H0 st) {listed : Array Bool} {i : Nat} (hi : i < n) (hun : listed.getD i true = false) (l : Nat) : Un n st (listed.setIfInBounds i true) l ↔ Un n st listed l ∧ ¬ ((st i).2.n ≤ l ∧ l < (st (i + 1)).2.n) := by
  constructor
  · rintro ⟨j, h1, h2, h3, h4⟩
    have hne : i ≠ j := fun e => by subst e; rw [getD_set_self] at h2; cases h2
    rw [getD_set_ne true hne] at h2
    refine ⟨⟨j, h1, h2, h3, h4⟩, fun ⟨h5, h6⟩ => ?_⟩
    rcases Nat.lt_or_gt_of_ne hne with h7 | h7
    · have := (tr.sub (i := i + 1) (j := j) (by omega) (by omega)).n
      omega
    · have := (tr.sub (i := j + 1) (j := i) (by omega) (by omega)).n
      omega
  · rintro ⟨⟨j, h1, h2, h3, h4⟩, h5⟩
    have hne : i ≠ j := fun e => by subst e; exact h5 ⟨h3, h4⟩
    exact ⟨j, h1, by rw [getD_set_ne true hne]; exact h2, h3, h4⟩
theorem un_all (tr : Tr P T N ops n H0 st) {listed : Array Bool} (hno : ∀ j, j < n → listed.getD j true = false) (l : Nat) (hl : l < (st n).2.n) : Un n st listed l ↔ H0.n ≤ l := by
  constructor
  · rintro ⟨j, h1, h2, h3, h4⟩
    have := (tr.sub (i := 0) (j := j) (by omega) (by omega)).n
    rw [tr.h0] at this
    omega
  · intro h
    have key : ∀ m, m ≤ n → l < (st m).2.n → ∃ j, j < m ∧ (st j).2.n ≤ l ∧ l < (st (j + 1)).2.n := by
      intro m
      induction m with
      | zero => intro _ h1; rw [tr.h0] at h1; omega
      | succ m ih =>
        intro hm h1
        rcases Nat.lt_or_ge l (st m).2.n with h2 | h2
        · obtain ⟨j, a, b, c⟩ := ih (by omega) h2
          exact ⟨j, by omega, b, c⟩
        · exact ⟨m, by omega, h2, h1⟩
    obtain ⟨j, a, b, c⟩ := key n (Nat.le_refl _) hl
    exact ⟨j, a, hno j a, b, c⟩
end Tr
theorem lwant_congr (h : ∀ t ∈ Oper.looksAt ops o, fr t = fr' t) : lwant ops fr o = lwant ops fr' o := by
  unfold lwant
  cases hg : o.guard with
  | none => rfl
  | some g =>
    obtain ⟨j, want⟩ := g
    simp only
    cases hd : (ops[j]?).bind (·.dst) with
    | none => rfl
    | some d =>
      simp only
      rw [h d (by simp [Oper.looksAt, hg, hd])]
theorem ev_congr (h : ∀ t ∈ Oper.looksAt ops o, fr t = fr' t) : ∀ x ∈ o.op.operands, ev fr x = ev fr' x := by
  intro x hx
  cases x with
  | tmp t =>
    refine h t ?_
    unfold Oper.looksAt
    refine List.mem_append_left _ (List.mem_filterMap.2 ⟨.tmp t, by simpa using hx, rfl⟩)
  | _ => rfl
end

section
variable {P : Program} {L : Loud} {T : Callee} {N n : Nat} {ops : Array Oper} {H0 HF : LH} {st : Nat → Fr × LH} {ι0 : Ren} {w0 : World} {a0 : Act} {r : Fr × LH}
/-- some of what may come in any order has not come yet -/
structure PA (P : Program) (N : Nat) (ops : Array Oper) (n : Nat) (H0 : LH) (st : Nat → Fr × LH) (ι0 : Ren) (w0 : World) (a0 : Act) (listed : Array Bool) (a : Act) (w : World) : Prop where
  inv : HeadInv .any ops n listed
  some_ : ∃ i, i < n ∧ listed.getD i true = false
  ex : ∃ ι, Out P H0 ι0 w0 ((st n).2.cut (Un n st listed)) ι w ∧ FrR ((st n).2.cut (Un n st listed)).D ι N (frS ops n st listed) a.tmps
  low : FrR H0.D ι0 N (frL ops n st H0 listed) a.tmps
  chg : Change (fun _ => False) w0 w
  defers : a.defers = a0.defers
/-- all that stands ahead of t has come -/
structure PB (P : Program) (T : Callee) (N : Nat) (ops : Array Oper) (n : Nat) (H0 : LH) (ι0 : Ren) (w0 : World) (a0 : Act) (r : Fr × LH) (t : Nat) (listed : Array Bool) (a : Act) (w : World) : Prop where
  le : t ≤ ops.size
  ge : n ≤ t
  size : listed.size = ops.size
  lst : ∀ j, j < ops.size → listed.getD j true = decide (j < t)
  ex : ∃ fr H ι, lops P T N ops (ops.toList.drop t) fr H = some r ∧ Out P H0 ι0 w0 H ι w ∧ FrR H.D ι N fr a.tmps
  defers : a.defers = a0.defers
theorem getD_ft {listed : Array Bool} {k : Nat} (h : listed.getD k false = true) : listed.getD k true = true := by
  rcases Nat.lt_or_ge k listed.size with h' | h'
  · simp [h'] at h ⊢; exact h
  · simp [Array.getElem?_eq_none h']
theorem getD_tf {listed : Array Bool} {k : Nat} (hk : k < listed.size) (h : listed.getD k true = true) : listed.getD k false = true := by
  simp [hk] at h ⊢; exact h
theorem not_true_false {listed : Array Bool} {k : Nat} : listed.getD k true = true ∨ listed.getD k true = false := by cases listed.getD k true <;> simp
theorem out_change (hrel : Rel P H0 ι0 w0) {w' : World} (hw' : Change (fun _ => False) w0 w') : Out P H0 ι0 w0 H0 ι0 w' :=
  ⟨rel_change hrel hw', Nat.le_refl _, fun _ h => h, fun _ _ => rfl, hw'.mono (fun _ _ h => h.elim), fun k hk => .inl hk, fun k hk => .inl hk, rfl⟩
/-- all that may come in any order has come -/
theorem pb_of_all (tr : Tr P T N ops n H0 st) (hf : lops P T N ops (ops.toList.drop n) (st n).1 (st n).2 = some r) {listed : Array Bool} {a : Act} {w : World} (inv : HeadInv .any ops n listed) (hall : ∀ i, i < n → listed.getD i true = true)
    (hex : ∃ ι, Out P H0 ι0 w0 ((st n).2.cut (Un n st listed)) ι w ∧ FrR ((st n).2.cut (Un n st listed)).D ι N (frS ops n st listed) a.tmps) (hd : a.defers = a0.defers) : PB P T N ops n H0 ι0 w0 a0 r n listed a w := by
  obtain ⟨ι, h1, h2⟩ := hex
  have e1 : (st n).2.cut (Un n st listed) = (st n).2 := cut_none (fun l ⟨j, hj, hl, _⟩ => by rw [hall j hj] at hl; cases hl)
  have e2 : frS ops n st listed = (st n).1 := by
    funext t
    unfold frS
    split
    · rfl
    · rename_i h
      exact (tr.fnone (fun j hj hd => h ⟨j, hj, hall j hj, hd⟩) (Nat.le_refl _)).symm
  rw [e1] at h1 h2
  rw [e2] at h2
  refine ⟨tr.sz, Nat.le_refl _, inv.size, fun j hj => ?_, ⟨_, _, ι, hf, h1, h2⟩, hd⟩
  rcases Nat.lt_or_ge j n with h | h
  · rw [hall j h]; simp [h]
  · rw [inv.tail j h hj]; simp; omega
/-- one of them comes -/
theorem pa_next (tr : Tr P T N ops n H0 st) (hf : lops P T N ops (ops.toList.drop n) (st n).1 (st n).2 = some r) {listed : Array Bool} {a : Act} {w w' : World} (pa : PA P N ops n H0 st ι0 w0 a0 listed a w) {i : Nat} (hi : i ∈ Region.ready .any ops listed) (hin : i < n) {d : Tmp} (hd : dstOf ops i = some d) (hdN : d < N)
    {ι ι' : Ren} {v' : Value} (hout0 : Out P H0 ι0 w0 ((st n).2.cut (Un n st listed)) ι w) (hfr0 : FrR ((st n).2.cut (Un n st listed)).D ι N (frS ops n st listed) a.tmps)
    (hout : Out P ((st n).2.cut (Un n st listed)) ι w ((st n).2.cut (Un n st (listed.setIfInBounds i true))) ι' w') (hv : VR ((st n).2.cut (Un n st (listed.setIfInBounds i true))).D ι' ((st n).1 d) v')
    (hlow : (st (i + 1)).2.n = H0.n → VR H0.D ι0 ((st n).1 d) v') (hchg : Change (fun _ => False) w w') :
    PA P N ops n H0 st ι0 w0 a0 (listed.setIfInBounds i true) (a.put (some d) v') w' ∨ ∃ t, PB P T N ops n H0 ι0 w0 a0 r t (listed.setIfInBounds i true) (a.put (some d) v') w' := by
  have inv := pa.inv.set hi hin
  have hout2 := hout0.trans hout
  have hfr2 : FrR ((st n).2.cut (Un n st (listed.setIfInBounds i true))).D ι' N (frS ops n st (listed.setIfInBounds i true)) (a.put (some d) v').tmps := by
    rw [tr.frS_set hin hd]
    exact (hfr0.mono hout.sub hout.same).put (d := some d) (v := (st n).1 d) (by simp [lput, hdN]) hv
  have hd2 : (a.put (some d) v').defers = a0.defers := by rw [put_defers]; exact pa.defers
  by_cases hex : ∃ j, j < n ∧ (listed.setIfInBounds i true).getD j true = false
  · left
    refine ⟨inv, hex, ⟨ι', hout2, hfr2⟩, ?_, pa.chg.trans hchg (fun _ h => h.elim), hd2⟩
    obtain ⟨x, hx, e⟩ := tr.frL_set (listed := listed) hin hd
    rw [e]
    refine pa.low.put (d := some d) (v := x) (by simp [lput, hdN]) ?_
    rcases hx with rfl | ⟨rfl, hx⟩
    · exact .any _
    · exact hlow hx
  · right
    exact ⟨n, pb_of_all tr hf inv (fun j hj => by
      rcases not_true_false (listed := listed.setIfInBounds i true) (k := j) with h | h
      · exact h
      · exact absurd ⟨j, hj, h⟩ hex) ⟨ι', hout2, hfr2⟩ hd2⟩
theorem pa_step (hT : TOk P T) (hrel : Rel P H0 ι0 w0) (tr : Tr P T N ops n H0 st) (hf : lops P T N ops (ops.toList.drop n) (st n).1 (st n).2 = some r) {listed : Array Bool} {a : Act} {w : World} (pa : PA P N ops n H0 st ι0 w0 a0 listed a w) {i : Nat} (hi : i ∈ Region.ready .any ops listed) (hin : i < n) {Q : Exit → Act → World → Prop} :
    wpOp P ops Q i (fun a' w' => PA P N ops n H0 st ι0 w0 a0 (listed.setIfInBounds i true) a' w' ∨ ∃ t, PB P T N ops n H0 ι0 w0 a0 r t (listed.setIfInBounds i true) a' w') a w := by
  obtain ⟨o, ho, d, v, b, hdo, hdN, hw, hv, hst⟩ := tr.op hin
  obtain ⟨hun, o', ho', hall⟩ := mem_ready.1 hi
  have e : o' = o := Option.some.inj (ho'.symm.trans ho)
  subst e
  have hd : dstOf ops i = some d := by simp [dstOf, ho, hdo]
  have hwait : ∀ k, Region.waitsFor .any ops i k = true → listed.getD k true = true := fun k hk => by
    obtain ⟨oj, hoj, e, he, hb, hon⟩ := Region.waitsFor_spec hk
    have : oj = o' := Option.some.inj (hoj.symm.trans ho)
    subst this
    rw [← hon]; exact getD_ft (hall e he hb)
  have hag : ∀ t ∈ Oper.looksAt ops o', frS ops n st listed t = (st i).1 t := fun t ht => tr.agree hin ho hwait ht
  have hvd : (st n).1 d = v := by
    rw [tr.fdst hd hin (Nat.le_refl _), hst]
    show (if d = d then v else _) = v
    rw [if_pos rfl]
  obtain ⟨ι, hout0, hfr0⟩ := pa.ex
  have hw' := want_eq hfr0 ((lwant_congr hag).trans hw)
  have hsub := tr.sub (i := i) (j := i + 1) (by omega) (by omega)
  have hsubF := tr.sub (i := i + 1) (j := n) (by omega) (Nat.le_refl _)
  have hsub0 := tr.sub (i := 0) (j := i) (by omega) (by omega)
  have hdomF : ∀ l, (st n).2.n ≤ l → (st n).2.get l = none := (tr.sub (i := 0) (j := n) (by omega) (Nat.le_refl _)).dom (by rw [tr.h0]; exact hrel.dom)
  have hcutq : (st (i + 1)).2 = (st i).2 → (st n).2.cut (Un n st (listed.setIfInBounds i true)) = (st n).2.cut (Un n st listed) := fun hh => cut_congr (fun l _ => by
    rw [tr.un_set hin hun l, hh]
    exact ⟨fun h => h.1, fun h => ⟨h, fun h2 => by omega⟩⟩) hdomF
  have hrel0w : Rel P H0 ι0 w := rel_change hrel pa.chg
  unfold wpOp
  simp only [ho]
  cases b with
  | false =>
    rw [if_neg (by simp)] at hv
    rw [if_neg (by rw [hw']; simp)]
    rw [hdo]
    have hv1 : (st n).1 d = undef := by rw [hvd, hv.1]
    refine pa_next tr hf pa hi hin hd hdN hout0 hfr0 (ι' := ι) ?_ ?_ (fun _ => ?_) (Change.refl _ _)
    · rw [hcutq hv.2]; exact Out.refl hout0.rel
    · rw [hv1]; exact .flat _ rfl
    · rw [hv1]; exact .flat _ rfl
  | true =>
    rw [if_pos rfl] at hv
    rw [if_pos hw']
    left
    -- a quiet one
    have quiet : (st (i + 1)).2 = (st i).2 → (∃ v', VR ((st n).2.cut (Un n st listed)).D ι v v' ∧ ((st (i + 1)).2.n = H0.n → VR H0.D ι0 v v') ∧ ∀ w1, Change (fun _ => False) w w1 → o'.quietAt P a (fun w' => Change (fun _ => False) w w') w1 v') →
        o'.wp P a w (fun a' w' => PA P N ops n H0 st ι0 w0 a0 (listed.setIfInBounds i true) a' w' ∨ ∃ t, PB P T N ops n H0 ι0 w0 a0 r t (listed.setIfInBounds i true) a' w') Q := by
      rintro hh ⟨v', h1, h2, h3⟩
      refine Oper.wp_of_quiet (C := fun w' => Change (fun _ => False) w w') (K := fun a' => a' = a.put o'.dst v') (Change.refl _ _) ?_ ⟨v', h3, rfl⟩
      rintro a' w' hw1 rfl
      rw [hdo]
      refine pa_next tr hf pa hi hin hd hdN hout0 hfr0 (ι' := ι) ?_ ?_ (fun hl => ?_) hw1
      · rw [hcutq hh]; exact out_change hout0.rel hw1
      · rw [hcutq hh, hvd]; exact h1
      · rw [hvd]; exact h2 hl
    have lowcase : (st (i + 1)).2 = (st i).2 → (st i).2.n = H0.n → lquiet P T o' (frL ops n st H0 listed) H0 = some v → ∃ v', VR ((st n).2.cut (Un n st listed)).D ι v v' ∧ ((st (i + 1)).2.n = H0.n → VR H0.D ι0 v v') ∧ ∀ w1, Change (fun _ => False) w w1 → o'.quietAt P a (fun w' => Change (fun _ => False) w w') w1 v' := by
      intro hh hl hq
      obtain ⟨v', h1, h2⟩ := quiet_ok hT hrel0w pa.low hq
      exact ⟨v', h1.mono hout0.sub hout0.same, fun _ => h1, h2⟩
    have hagL : (st i).2.n = H0.n → ∀ t ∈ Oper.looksAt ops o', frL ops n st H0 listed t = (st i).1 t := fun hl t ht => tr.agreeL hin ho hwait hl ht
    have hlowH : (st i).2.n = H0.n → ∀ l, (st i).2.get l = H0.get l := fun hl l => by
      have h00 := tr.h0
      rcases Nat.lt_or_ge l H0.n with hx | hx
      · rw [← h00]; exact hsub0.get l (by rw [h00]; exact hx)
      · rw [hrel.dom l hx]
        exact hsub0.dom (by rw [h00]; exact hrel.dom) l (by omega)
    have hlowE : (st i).2.n = H0.n → (st i).2 = H0 := fun hl => by
      have h1 : (st i).2.get = H0.get := funext (hlowH hl)
      have h2 : (st i).2.hole = H0.hole := funext (fun l => propext (by rw [← tr.h0]; exact hsub0.hole l))
      have h3 := hsub0.base
      have h4 := hsub0.ng
      rw [tr.h0] at h3 h4
      cases hq : (st i).2 with
      | mk a1 a2 a3 a4 a5 =>
        rw [hq] at hl h1 h2 h3 h4
        cases H0 with
        | mk b1 b2 b3 b4 b5 =>
          simp only at hl h1 h2 h3 h4
          subst hl h1 h2 h3 h4
          rfl
    have hget : ∀ l b, ((st n).2.cut (Un n st listed)).D l → (st i).2.get l = some b → ((st n).2.cut (Un n st listed)).get l = some b := fun l b hD hb => by
      have hlt : l < (st i).2.n := by
        rcases Nat.lt_or_ge l (st i).2.n with h | h
        · exact h
        · rw [hsub0.dom (by rw [tr.h0]; exact hrel.dom) l h] at hb; cases hb
      rw [cut_get, if_neg (cut_D.1 hD).2, (tr.sub (i := i) (j := n) (by omega) (Nat.le_refl _)).get l hlt]
      exact hb
    rcases lmixop_cases hv with ⟨hh, hk, hl⟩ | ⟨hh, hc, hq⟩ | ⟨hh, c, b, hop, hcb, hne, H1, hl⟩ | ⟨hk, hl⟩
    · refine quiet hh ?_
      by_cases hlow : (st i).2.n = H0.n
      · refine lowcase hh hlow ?_
        rw [lquiet_congr (ev_congr (hagL hlow))]
        rw [hlowE hlow] at hl
        exact lquiet_read hl hk
      · rw [← lop_congr (ev_congr hag)] at hl
        obtain ⟨_, v', h1, h2⟩ := lop_read' hout0.rel hfr0 hget hl hk
        refine ⟨v', h1, fun h3 => absurd (by rw [hh] at h3; exact h3) hlow, fun w1 hw1 => ?_⟩
        unfold Oper.quietAt
        rw [h2 w1 hw1]
        exact ⟨rfl, rfl⟩
    · refine quiet hh ?_
      by_cases hlow : (st i).2.n = H0.n
      · refine lowcase hh hlow ?_
        rw [lquiet_congr (ev_congr (hagL hlow))]
        exact hq
      · rcases hc with hc | ⟨c, f, hop, hcf, hf1, hf2⟩
        · exact absurd hc hlow
        · have hevS := ev_congr hag
          have hm : FrR H0.D ι0 N (fun t => if flatB (frS ops n st listed t) then frS ops n st listed t else unk) a.tmps := ⟨hfr0.1, fun t => by
            have ht := hfr0.2 t
            show VR _ _ (if flatB (frS ops n st listed t) then frS ops n st listed t else unk) _
            split
            · rename_i hfl
              rw [flat_eq ht hfl]; exact .flat _ hfl
            · exact .any _⟩
          have hev : ∀ x ∈ o'.op.operands, ev (fun t => if flatB (frS ops n st listed t) then frS ops n st listed t else unk) x = ev (st i).1 x := by
            intro x hx
            have hfl : flatB (ev (st i).1 x) = true := by
              rw [hop] at hx
              simp only [Op.operands, Call.operands, hcf, Array.mem_append, List.mem_toArray, List.mem_singleton] at hx
              rcases hx with rfl | hx
              · exact hf1
              · exact List.all_eq_true.1 hf2 _ (List.mem_map.2 ⟨x, by simpa using hx, rfl⟩)
            cases x with
            | tmp t =>
              have e1 : frS ops n st listed t = (st i).1 t := hevS (.tmp t) hx
              have hfl' : flatB ((st i).1 t) = true := hfl
              show (if flatB (frS ops n st listed t) then frS ops n st listed t else unk) = (st i).1 t
              rw [e1, if_pos hfl']
            | _ => rfl
          rw [← lquiet_congr hev] at hq
          obtain ⟨v', h1, h2⟩ := quiet_ok hT hrel0w hm hq
          exact ⟨v', h1.mono hout0.sub hout0.same, fun _ => h1, h2⟩
    · refine quiet hh ?_
      by_cases hlow : (st i).2.n = H0.n
      · refine lowcase hh hlow ?_
        rw [lquiet_congr (ev_congr (hagL hlow))]
        rw [hlowE hlow] at hl
        unfold lquiet
        simp only [hop, hcb]
        rw [hl]; rfl
      · have hevS := ev_congr hag
        have hargs : c.args.toList.map (ev (st i).1) = c.args.toList.map (ev (frS ops n st listed)) := List.map_congr_left (fun x hx => (hevS x (by rw [hop]; simp [Op.operands, Call.operands, hcb]; exact (by simpa using hx))).symm)
        rw [hargs] at hl
        obtain ⟨_, hl2⟩ := lbuiltin_any (H1 := (st n).2.cut (Un n st listed)) hne hl
        have hq : lquiet P T o' (frS ops n st listed) ((st n).2.cut (Un n st listed)) = some v := by
          unfold lquiet
          simp only [hop, hcb]
          rw [hl2]; rfl
        obtain ⟨v', h1, h2⟩ := quiet_ok hT hout0.rel hfr0 hq
        exact ⟨v', h1, fun h3 => absurd (by rw [hh] at h3; exact h3) hlow, h2⟩
    · rw [← lop_congr (ev_congr hag)] at hl
      obtain ⟨b, arr, s, hH, hrw, hs, hsz, hm, hc, hx⟩ := alloc_at hfr0 hl hk
      obtain ⟨v', hrun, hv'⟩ := hx w
      have hU : Un n st listed (st i).2.n := ⟨i, hin, hun, Nat.le_refl _, by rw [hH]; exact Nat.lt_succ_self _⟩
      have hb : (st n).2.get (st i).2.n = some b := by
        rw [hsubF.get _ (by rw [hH]; exact Nat.lt_succ_self _), hH]
        show (if (st i).2.n = (st i).2.n then some b else _) = _
        rw [if_pos rfl]
      have hkn : (st i).2.n < (st n).2.n := by
        have := hsubF.n
        rw [hH] at this
        exact this
      have hholeF : ∀ l, (st n).2.hole l → l < H0.n ∧ H0.get l = none := fun l hl => hrel.hol l (by rw [← tr.h0]; exact ((tr.sub (i := 0) (j := n) (by omega) (Nat.le_refl _)).hole l).1 hl)
      have h0n : H0.n ≤ (st i).2.n := by have := hsub0.n; rw [tr.h0] at this; exact this
      have hout := out_cut1 hout0.rel hU hb hkn (fun hh => by have := (hholeF _ hh).1; omega) hdomF (fun l hl => by
        obtain ⟨a1, a2⟩ := hholeF l hl
        refine ⟨by omega, ?_⟩
        rw [(tr.sub (i := 0) (j := n) (by omega) (Nat.le_refl _)).get l (by rw [tr.h0]; exact a1), tr.h0]; exact a2) hrw hs hsz hm hc
      have hcut : (st n).2.cut (fun l => Un n st listed l ∧ l ≠ (st i).2.n) = (st n).2.cut (Un n st (listed.setIfInBounds i true)) := cut_congr (fun l _ => by
        rw [tr.un_set hin hun l, hH]
        show _ ↔ _ ∧ ¬ ((st i).2.n ≤ l ∧ l < (st i).2.n + 1)
        constructor
        · rintro ⟨h1, h2⟩; exact ⟨h1, fun h3 => by omega⟩
        · rintro ⟨h1, h2⟩; exact ⟨h1, fun h3 => h2 (by omega)⟩) hdomF
      rw [hcut] at hout
      unfold Oper.wp
      rw [hrun]
      simp only [Oper.upon]
      rw [hdo]
      refine pa_next tr hf pa hi hin hd hdN hout0 hfr0 hout ?_ (fun hl => ?_) ?_
      · rw [hvd]
        refine hv' _ _ ?_ (by simp [Ren.add])
        rw [← hcut]
        exact cut_D.2 ⟨⟨hkn, fun hh => by have := (hholeF _ hh).1; omega⟩, fun h => h.2 rfl⟩
      · rw [hH] at hl
        have : (st i).2.n + 1 = H0.n := hl
        omega
      · exact (Change.refl _ w).alloc _
theorem pb_step (hT : TOk P T) (hB : ∀ i, i < ops.size → ∀ o, ops[i]? = some o → ∀ e ∈ o.after, Region.binds .any e = true → e.on < i) (hch : n < ops.size → Region.chainB .any ops n = true) {t : Nat} {listed : Array Bool} {a : Act} {w : World} (pb : PB P T N ops n H0 ι0 w0 a0 r t listed a w) {i : Nat} (hi : i ∈ Region.ready .any ops listed) {Q : Exit → Act → World → Prop} :
    wpOp P ops Q i (fun a' w' => PA P N ops n H0 st ι0 w0 a0 (listed.setIfInBounds i true) a' w' ∨ ∃ t, PB P T N ops n H0 ι0 w0 a0 r t (listed.setIfInBounds i true) a' w') a w := by
  obtain ⟨hun, o, ho, hall⟩ := mem_ready.1 hi
  have hilt : i < ops.size := (Array.getElem?_eq_some_iff.1 ho).1
  have hit : t ≤ i := by
    have := pb.lst i hilt
    rw [hun] at this
    rcases Nat.lt_or_ge i t with h | h
    · simp [h] at this
    · exact h
  have hie : i = t := by
    rcases Nat.lt_or_eq_of_le hit with h | h
    · exfalso
      have hc := hch (by have := pb.ge; omega)
      have h1 := List.all_eq_true.1 hc i (List.mem_range.2 hilt)
      simp only [Bool.or_eq_true, decide_eq_true_eq] at h1
      rcases h1 with h1 | h1
      · have := pb.ge; omega
      · obtain ⟨o', ho', e, he, hb, hon⟩ := Region.waitsFor_spec h1
        have : o' = o := Option.some.inj (ho'.symm.trans ho)
        subst this
        have h2 := getD_ft (hall e he hb)
        rw [hon, pb.lst (i - 1) (by omega)] at h2
        simp at h2; omega
    · exact h.symm
  subst hie
  obtain ⟨fr, H, ι, hl, hout, hfr⟩ := pb.ex
  have hdrop : ops.toList.drop i = o :: ops.toList.drop (i + 1) := by
    rw [List.drop_eq_getElem_cons (by simpa using hilt)]
    congr 1
    have := (Array.getElem?_eq_some_iff.1 ho).2
    simpa using this
  rw [hdrop] at hl
  have nxt : ∀ {fr' : Fr} {H' : LH} {ι' : Ren} {a' : Act} {w' : World}, lops P T N ops (ops.toList.drop (i + 1)) fr' H' = some r → Out P H0 ι0 w0 H' ι' w' → FrR H'.D ι' N fr' a'.tmps → a'.defers = a0.defers →
      PA P N ops n H0 st ι0 w0 a0 (listed.setIfInBounds i true) a' w' ∨ ∃ t, PB P T N ops n H0 ι0 w0 a0 r t (listed.setIfInBounds i true) a' w' := by
    intro fr' H' ι' a' w' g1 g2 g3 g4
    refine .inr ⟨i + 1, hilt, by have := pb.ge; omega, by simp [pb.size], fun j hj => ?_, ⟨fr', H', ι', g1, g2, g3⟩, g4⟩
    by_cases e : i = j
    · subst e; rw [getD_set_self]; simp
    · rw [getD_set_ne true e, pb.lst j hj]
      by_cases hji : j < i
      · simp [hji]; omega
      · simp [hji]; omega
  unfold lops at hl
  unfold wpOp
  simp only [ho]
  split at hl
  · rename_i hw
    rw [if_pos (want_eq hfr hw)]
    left
    split at hl
    · rename_i v H1 hop
      split at hl
      · rename_i fr1 hput
        refine lop_ok hT hout.rel hfr hop _ _ (fun ι' v' w' ho2 hvr => ?_)
        exact nxt hl (hout.trans ho2) ((hfr.mono ho2.sub ho2.same).put hput hvr) (by rw [put_defers]; exact pb.defers)
      · cases hl
    · cases hl
  · rename_i hw
    rw [if_neg (by rw [want_eq hfr hw]; simp)]
    split at hl
    · rename_i fr1 hput
      exact nxt hl hout (hfr.undef _ _ hput) (by rw [put_defers]; exact pb.defers)
    · cases hl
  · cases hl
end
/-- what the Bool tells -/
theorem mixB_spec {L : Loud} {ops : Array Oper} (h : mixB L ops = true) :
    (∀ i, i < ops.size → ∀ o, ops[i]? = some o → ∀ e ∈ o.after, Region.binds .any e = true → e.on < i) ∧
    (∀ i o t k, i < headN L ops.toList → ops[i]? = some o → t ∈ Oper.looksAt ops o → dstOf ops k = some t → k < i ∧ Region.waitsFor .any ops i k = true) ∧
    (∀ i k, i < headN L ops.toList → k < headN L ops.toList → dstOf ops i = dstOf ops k → i = k) ∧
    (headN L ops.toList < ops.size → Region.sinkB .any ops (headN L ops.toList) = true ∧ Region.chainB .any ops (headN L ops.toList) = true) := by
  unfold mixB at h
  simp only [Bool.and_eq_true] at h
  obtain ⟨⟨⟨h1, h2⟩, h3⟩, h4⟩ := h
  refine ⟨fun i hi o ho e he hb => ?_, fun i o t k hi ho ht hk => ?_, fun i k hi hk hd => ?_, fun hn => ?_⟩
  · have := List.all_eq_true.1 h1 i (List.mem_range.2 hi)
    simp only [ho] at this
    have := List.all_eq_true.1 this e (by simpa using he)
    rw [hb] at this
    simpa using this
  · have := List.all_eq_true.1 h2 i (List.mem_range.2 hi)
    simp only [ho] at this
    have := List.all_eq_true.1 this t ht
    have hks : k < ops.size := by
      unfold dstOf at hk
      cases hq : ops[k]? with
      | none => simp [hq] at hk
      | some x => exact (Array.getElem?_eq_some_iff.1 hq).1
    have := List.all_eq_true.1 this k (List.mem_range.2 hks)
    rw [show (ops[k]?).bind (·.dst) = some t from hk] at this
    simpa using this
  · have := List.all_eq_true.1 h3 i (List.mem_range.2 hi)
    have := List.all_eq_true.1 this k (List.mem_range.2 hk)
    simp only [Bool.or_eq_true, beq_iff_eq, bne_iff_ne] at this
    rcases this with h | h
    · exact h
    · exact absurd hd h
  · simp only [Bool.or_eq_true, decide_eq_true_eq, Bool.and_eq_true] at h4
    rcases h4 with h4 | h4
    · omega
    · exact h4
theorem headN_le (L : Loud) : ∀ l : List Oper, headN L l ≤ l.length
  | [] => Nat.le_refl _
  | o :: l => by
    have := headN_le L l
    unfold headN
    split
    · omega
    · simp; omega
/-- EVERY ORDER OF A REGION COMES TO WHAT THE TEXT'S ORDER COMES TO. -/
theorem mix_any {P : Program} {L : Loud} {T : Callee} {N : Nat} {ops : Array Oper} {H H' : LH} {fr fr' : Fr} {ι : Ren} {w : World} {a : Act} (hT : TOk P T) (hB : mixB L ops = true) (h : lmix P L T N ops H ops.toList fr H = some (fr', H')) (hrel : Rel P H ι w) (hfr : FrR H.D ι N fr a.tmps) {Q : Exit → Act → World → Prop}
    (hQ : ∀ ι' a' w', Out P H ι w H' ι' w' → FrR H'.D ι' N fr' a'.tmps → a'.defers = a.defers → Q .normal a' w') : wpAny P .any ops Q ops.size (Array.replicate ops.size false) a { w with drawn := w.drawn + 1 } := by
  obtain ⟨b1, b2, b3, b4⟩ := mixB_spec hB
  obtain ⟨st, h0, hs, hf⟩ := trace_of ops.toList fr H h
  have hnle : headN L ops.toList ≤ ops.size := by simpa using headN_le L ops.toList
  have tr : Tr P T N ops (headN L ops.toList) H st := ⟨hnle, by rw [h0], fun i o hi ho => hs i o hi (by simpa using ho), fun i k hi hk hd => b3 i k hi hk hd, b2⟩
  generalize hn : headN L ops.toList = n at *
  have hw : Change (fun _ => False) w { w with drawn := w.drawn + 1 } := ⟨rfl, rfl, rfl, Nat.le_refl _, fun _ _ _ => rfl⟩
  have hrel' := rel_change hrel hw
  have hout0 := out_change hrel hw
  have st0 : st 0 = (fr, H) := h0
  let Inv : Array Bool → Act → World → Prop := fun listed a' w' => PA P N ops n H st ι w a listed a' w' ∨ ∃ t, PB P T N ops n H ι w a (fr', H') t listed a' w'
  refine wpAny_inv (Inv := Inv) ?_ ?_ _ _ _ _ ?_ ?_
  · rintro listed a' w' (pa | ⟨t, pb⟩) i hi
    · have hin : i < n := by
        rcases Nat.lt_or_ge i n with h1 | h1
        · exact h1
        · exfalso
          have hlt := (ready_lt hi).1
          obtain ⟨c1, c2⟩ := b4 (by omega)
          obtain ⟨j, hj, hjl⟩ := pa.some_
          exact tail_waits c1 c2 (by omega) pa.inv _ j rfl hj hjl i h1 hi
      exact pa_step hT hrel tr hf pa hi hin
    · exact pb_step hT b1 (fun hlt => (b4 hlt).2) pb hi
  · rintro listed a' w' (pa | ⟨t, pb⟩) hr
    · exfalso
      obtain ⟨j, hj, hjl⟩ := pa.some_
      -- the first that has not come may come
      have key : ∀ m, ∀ j, j < m → j < n → listed.getD j true = false → False := by
        intro m
        induction m with
        | zero => intro j hj; omega
        | succ m ih =>
          intro j hjm hjn hjl
          have hjs : j < ops.size := by omega
          have : j ∈ Region.ready .any ops listed := by
            refine mem_ready.2 ⟨hjl, _, Array.getElem?_eq_getElem hjs, fun e he hb => ?_⟩
            have hlt := b1 j hjs _ (Array.getElem?_eq_getElem hjs) e he hb
            rcases not_true_false (listed := listed) (k := e.on) with h1 | h1
            · exact getD_tf (by rw [pa.inv.size]; omega) h1
            · exact (ih e.on (by omega) (by omega) h1).elim
          rw [hr] at this
          cases this
      exact key (j + 1) j (by omega) hj hjl
    · have ht : t = ops.size := by
        rcases Nat.lt_or_eq_of_le pb.le with h1 | h1
        · exfalso
          have : t ∈ Region.ready .any ops listed := by
            refine mem_ready.2 ⟨by rw [pb.lst t h1]; simp, _, Array.getElem?_eq_getElem h1, fun e he hb => ?_⟩
            have hlt := b1 t h1 _ (Array.getElem?_eq_getElem h1) e he hb
            refine getD_tf (by rw [pb.size]; omega) ?_
            rw [pb.lst _ (by omega)]; simp [hlt]
          rw [hr] at this
          cases this
        · exact h1
      obtain ⟨fr1, H1, ι1, g1, g2, g3⟩ := pb.ex
      rw [ht, List.drop_eq_nil_of_le (by simp)] at g1
      simp only [lops, Option.some.injEq, Prod.mk.injEq] at g1
      obtain ⟨rfl, rfl⟩ := g1
      exact hQ ι1 a' w' g2 g3 pb.defers
  · unfold undone
    refine Nat.le_trans List.countP_le_length ?_
    simp
  · have hno : ∀ j, j < ops.size → (Array.replicate ops.size false).getD j true = false := fun j hj => by simp [hj]
    rcases Nat.eq_zero_or_pos n with hz | hz
    · right
      refine ⟨0, Nat.zero_le _, by omega, by simp, fun j hj => by rw [hno j hj]; simp, ⟨fr, H, ι, ?_, hout0, hfr⟩, rfl⟩
      have := hf
      rw [hz, st0] at this
      exact this
    · left
      have e1 : (st n).2.cut (fun l => H.n ≤ l) = (st n).2.cut (Un n st (Array.replicate ops.size false)) := cut_congr (fun l hl => (tr.un_all (fun j hj => hno j (by omega)) l hl).symm) ((tr.sub (i := 0) (j := n) (by omega) (Nat.le_refl _)).dom (by rw [st0]; exact hrel.dom))
      have hnone : ∀ t, ¬ ∃ j, j < n ∧ (Array.replicate ops.size false).getD j true = true ∧ dstOf ops j = some t := fun t ⟨j, hj, hl, _⟩ => by rw [hno j (by omega)] at hl; cases hl
      have e2 : frS ops n st (Array.replicate ops.size false) = fr := by
        funext t
        unfold frS
        rw [if_neg (hnone t), st0]
      have e3 : frL ops n st H (Array.replicate ops.size false) = fr := by
        funext t
        unfold frL
        rw [if_neg (hnone t), st0]
      have hsub : Sub H (st n).2 := by have := tr.sub (i := 0) (j := n) (by omega) (Nat.le_refl _); rw [st0] at this; exact this
      have hc := out_cut0 hrel' hsub
      refine ⟨⟨by simp, (fun j oj hoj hl => by rw [getD_replicate_false] at hl; cases hl), fun t ht hts => hno t hts⟩, ⟨0, hz, hno 0 (by omega)⟩, ⟨ι, ?_, ?_⟩, by rw [e3]; exact hfr, hw, rfl⟩
      · rw [← e1]; exact hout0.trans hc
      · rw [← e1, e2]; exact hfr.mono hc.sub hc.same
theorem mix_ok {P : Program} {L : Loud} {T : Callee} {N : Nat} {ops : Array Oper} {H H' : LH} {fr fr' : Fr} {ι : Ren} {w : World} {a : Act} (hT : TOk P T) (hm : P.follows .mixedOrders = true) (hB : mixB L ops = true) (h : lmix P L T N ops H ops.toList fr H = some (fr', H')) (hrel : Rel P H ι w) (hfr : FrR H.D ι N fr a.tmps) (id : Nat) {Q : Exit → Act → World → Prop}
    (hQ : ∀ ι' a' w', Out P H ι w H' ι' w' → FrR H'.D ι' N fr' a'.tmps → a'.defers = a.defers → Q .normal a' w') : (Code.region id ops true).wp P Q a w :=
  wp_region_any hm (mix_any hT hB h hrel hfr hQ)
end Go.Lg
/-
  A logical run of Go code: regions whose order is open, where what turns memory stands in one order and reads may float: every order comes to what the text's order comes to.
-/
set_option linter.unusedSimpArgs false
set_option linter.unusedVariables false
namespace Go.Lg
open Go.Tg Go.RowKit

/-! ### on what an operation waits, through others -/
def LS (listed : Array Bool) (j : Nat) : Prop := listed.getD j true = true
def Cl (ops : Array Oper) (listed : Array Bool) : Prop := ∀ j o, ops[j]? = some o → LS listed j → ∀ e ∈ o.after, Region.binds .any e = true → LS listed e.on
theorem maskOf_bit {acc : List Nat} {k : Nat} : ∀ {es : List Edge}, (maskOf acc es).testBit k = true → ∃ e ∈ es, Region.binds .any e = true ∧ e.on < acc.length ∧ (k = e.on ∨ (acc.getD e.on 0).testBit k = true)
  | [], h => by simp [maskOf] at h
  | e :: es, h => by
    unfold maskOf at h
    split at h
    · rename_i hc
      simp only [Bool.and_eq_true, decide_eq_true_eq] at hc
      rw [Nat.testBit_or, Nat.testBit_or, Bool.or_eq_true, Bool.or_eq_true] at h
      rcases h with (h | h) | h
      · rw [Nat.testBit_two_pow] at h
        exact ⟨e, List.mem_cons_self .., hc.1, hc.2, .inl (by simpa using h : e.on = k).symm⟩
      · exact ⟨e, List.mem_cons_self .., hc.1, hc.2, .inr h⟩
      · obtain ⟨e', h1, h2⟩ := maskOf_bit h
        exact ⟨e', List.mem_cons_of_mem _ h1, h2⟩
    · obtain ⟨e', h1, h2⟩ := maskOf_bit h
      exact ⟨e', List.mem_cons_of_mem _ h1, h2⟩
theorem masks_app : ∀ (os : List Oper) (acc : List Nat), ∃ l, masks os acc = acc ++ l ∧ l.length = os.length
  | [], acc => ⟨[], by simp [masks], rfl⟩
  | o :: os, acc => by
    obtain ⟨l, h1, h2⟩ := masks_app os (acc ++ [maskOf acc o.after.toList])
    exact ⟨maskOf acc o.after.toList :: l, by unfold masks; rw [h1]; simp, by simp [h2]⟩
theorem masks_at : ∀ (os : List Oper) (acc : List Nat) (i : Nat) (o : Oper), os[i]? = some o → (masks os acc).getD (acc.length + i) 0 = maskOf ((masks os acc).take (acc.length + i)) o.after.toList
  | [], _, _, _, h => by simp at h
  | o :: os, acc, 0, o', h => by
    simp at h
    subst h
    obtain ⟨l, h1, h2⟩ := masks_app os (acc ++ [maskOf acc o.after.toList])
    unfold masks
    rw [h1]
    simp
  | o :: os, acc, i + 1, o', h => by
    have h' : os[i]? = some o' := by simpa using h
    have := masks_at os (acc ++ [maskOf acc o.after.toList]) i o' h'
    unfold masks
    rw [show acc.length + (i + 1) = (acc ++ [maskOf acc o.after.toList]).length + i by simp; omega]
    exact this
theorem mbit_step {ops : Array Oper} {i k : Nat} {o : Oper} (ho : ops[i]? = some o) (h : mbit (masks ops.toList []) i k = true) : ∃ e ∈ o.after.toList, Region.binds .any e = true ∧ e.on < i ∧ (k = e.on ∨ mbit (masks ops.toList []) e.on k = true) := by
  have hi : i < ops.size := (Array.getElem?_eq_some_iff.1 ho).1
  have h1 := masks_at ops.toList [] i o (by simpa using ho)
  obtain ⟨l, g1, g2⟩ := masks_app ops.toList []
  simp only [List.nil_append] at g1
  have hlen : (masks ops.toList []).length = ops.size := by rw [g1, g2]; simp
  unfold mbit at h
  rw [List.length_nil, Nat.zero_add] at h1
  rw [h1] at h
  obtain ⟨e, a1, a2, a3, a4⟩ := maskOf_bit h
  have hlt : e.on < i := by simp at a3; omega
  refine ⟨e, a1, a2, hlt, ?_⟩
  rcases a4 with a4 | a4
  · exact .inl a4
  · refine .inr ?_
    unfold mbit
    have : ((masks ops.toList []).take i).getD e.on 0 = (masks ops.toList []).getD e.on 0 := by
      simp only [List.getD_eq_getElem?_getD, List.getElem?_take, if_pos hlt]
    rw [← this]; exact a4
theorem mbit_done {ops : Array Oper} {listed : Array Bool} (hc : Cl ops listed) : ∀ (n i : Nat), i < n → ∀ o, ops[i]? = some o → (∀ e ∈ o.after, Region.binds .any e = true → LS listed e.on) → ∀ k, mbit (masks ops.toList []) i k = true → LS listed k := by
  intro n
  induction n with
  | zero => intro i hi; omega
  | succ n ih =>
    intro i hi o ho hall k hk
    obtain ⟨e, a1, a2, a3, a4⟩ := mbit_step ho hk
    have hl := hall e (by simpa using a1) a2
    rcases a4 with rfl | a4
    · exact hl
    · have hlt : e.on < ops.size := by have := (Array.getElem?_eq_some_iff.1 ho).1; omega
      exact ih e.on (by omega) _ (Array.getElem?_eq_getElem hlt) (hc e.on _ (Array.getElem?_eq_getElem hlt) hl) k a4
theorem mbit_ready {ops : Array Oper} {listed : Array Bool} (hc : Cl ops listed) {i : Nat} (hi : i ∈ Region.ready .any ops listed) {k : Nat} (hk : mbit (masks ops.toList []) i k = true) : LS listed k := by
  obtain ⟨_, o, ho, hall⟩ := mem_ready.1 hi
  exact mbit_done hc (i + 1) i (Nat.lt_succ_self _) o ho (fun e he hb => getD_ft (hall e he hb)) k hk
theorem mbit_listed {ops : Array Oper} {listed : Array Bool} (hc : Cl ops listed) {i : Nat} (hi : i < ops.size) (hl : LS listed i) {k : Nat} (hk : mbit (masks ops.toList []) i k = true) : LS listed k :=
  mbit_done hc (i + 1) i (Nat.lt_succ_self _) _ (Array.getElem?_eq_getElem hi) (hc i _ (Array.getElem?_eq_getElem hi) hl) k hk

/-! ### operations and memory -/
section
variable {P : Program} {T : Callee} {fr : Fr} {H H' : LH} {o : Oper} {v : Value}
theorem lop_same (hb : heapB o.op = false) (h : lop P T o fr H = some (v, H')) : H' = H := by
  cases hk : readB o.op with
  | true => exact lop_readH h hk
  | false =>
    obtain ⟨dst, op, ty, pos, after, guard⟩ := o
    cases op with
    | call c =>
      simp only [heapB] at hb
      simp only [lop] at h
      split at h
      · rename_i f hc
        simp only [hc] at hb
        cases hb
      · rename_i b hc
        simp only [hc] at hb
        have hne : b ≠ .append := by rintro rfl; cases hb
        exact (lbuiltin_any (H1 := H) hne h).1
      · cases h
    | store _ _ _ => cases hb
    | box _ _ => cases hb
    | alloc _ => cases hb
    | buildSlice _ _ _ => cases hb
    | makeSlice _ _ _ => cases hb
    | _ => cases hk
theorem lop_free (hb : heapB o.op = false) (hr : rdB o.op = false) (h : lop P T o fr H = some (v, H')) (H1 : LH) : lop P T o fr H1 = some (v, H1) := by
  obtain ⟨dst, op, ty, pos, after, guard⟩ := o
  cases op with
  | call c =>
    simp only [heapB] at hb
    simp only [lop] at h ⊢
    split at h
    · rename_i f hc
      simp only [hc] at hb
      cases hb
    · rename_i b hc
      simp only [hc] at hb
      have hne : b ≠ .append := by rintro rfl; cases hb
      rw [(lbuiltin_any (H1 := H1) hne h).2]
    · cases h
  | store _ _ _ => cases hb
  | box _ _ => cases hb
  | alloc _ => cases hb
  | buildSlice _ _ _ => cases hb
  | makeSlice _ _ _ => cases hb
  | load _ _ => cases hr
  | convert _ _ _ => cases hr
  | move x => simp only [lop, Option.some.injEq, Prod.mk.injEq] at h ⊢; exact ⟨h.1, trivial⟩
  | assign x => simp only [lop, Option.some.injEq, Prod.mk.injEq] at h ⊢; exact ⟨h.1, trivial⟩
  | pick c a b =>
    simp only [lop] at h ⊢
    split at h
    · simp only [Option.some.injEq, Prod.mk.injEq] at h ⊢; exact ⟨h.1, trivial⟩
    · cases h
  | nilCheck x =>
    simp only [lop] at h ⊢
    split at h
    · simp only [Option.some.injEq, Prod.mk.injEq] at h ⊢; exact ⟨h.1, trivial⟩
    · simp only [Option.some.injEq, Prod.mk.injEq] at h ⊢; exact ⟨h.1, trivial⟩
    · cases h
  | fieldAddr s x f =>
    simp only [lop] at h ⊢
    split at h
    · split at h
      · split at h
        · split at h
          · cases h
          · rename_i hz; rw [if_neg hz]; simp only [Option.some.injEq, Prod.mk.injEq] at h ⊢; exact ⟨h.1, trivial⟩
        · cases h
      · cases h
    · cases h
  | indexAddr t x i =>
    simp only [lop] at h ⊢
    split at h
    · split at h
      · split at h
        · rename_i hz; rw [if_pos hz]; simp only [Option.some.injEq, Prod.mk.injEq] at h ⊢; exact ⟨h.1, trivial⟩
        · cases h
      · cases h
    · cases h
  | slice t x lo hi mx =>
    cases mx with
    | none =>
      simp only [lop] at h ⊢
      obtain ⟨u, hu, e⟩ := Option.map_eq_some_iff.1 h
      rw [hu]; simp only [Prod.mk.injEq] at e; rw [← e.1]; rfl
    | some _ => simp [lop] at h
  | field t x f =>
    simp only [lop] at h ⊢
    split at h
    · split at h
      · split at h
        · simp only [Option.some.injEq, Prod.mk.injEq] at h ⊢; exact ⟨h.1, trivial⟩
        · obtain ⟨u, hu, e⟩ := Option.map_eq_some_iff.1 h
          rw [hu]; simp only [Prod.mk.injEq] at e; rw [← e.1]; rfl
        · cases h
      · cases h
    · cases h
  | extract x i =>
    simp only [lop] at h ⊢
    split at h
    · obtain ⟨u, hu, e⟩ := Option.map_eq_some_iff.1 h
      rw [hu]; simp only [Prod.mk.injEq] at e; rw [← e.1]; rfl
    · cases h
  | build t ps =>
    simp only [lop] at h ⊢
    obtain ⟨u, hu, e⟩ := Option.map_eq_some_iff.1 h
    rw [hu]; simp only [Prod.mk.injEq] at e; rw [← e.1]; rfl
  | makeFunc f first cap =>
    cases f with
    | func g =>
      simp only [lop] at h ⊢
      split at h
      · simp only [Option.some.injEq, Prod.mk.injEq] at h
        rw [if_pos ‹_›, h.1]
      · cases h
    | _ => simp [lop] at h
  | binOp op t x y yt =>
    simp only [lop] at h ⊢
    obtain ⟨u, hu, e⟩ := Option.map_eq_some_iff.1 h
    rw [hu]; simp only [Prod.mk.injEq] at e; rw [← e.1]; rfl
  | unOp op t x =>
    simp only [lop] at h ⊢
    split at h
    · obtain ⟨u, hu, e⟩ := Option.map_eq_some_iff.1 h
      rw [if_pos ‹_›, hu]; simp only [Prod.mk.injEq] at e; rw [← e.1]; rfl
    · cases h
  | index t x i =>
    simp only [lop] at h ⊢
    split at h
    · obtain ⟨u, hu, e⟩ := Option.map_eq_some_iff.1 h
      rw [if_pos ‹_›, hu]; simp only [Prod.mk.injEq] at e; rw [← e.1]; rfl
    · cases h
  | _ => simp [lop] at h
end

/-! ### the text's order, step by step -/
section
variable {P : Program} {T : Callee} {N : Nat} {ops : Array Oper} {prs : List (Nat × Nat)} {st : Nat → Fr × LH} {r : Fr × LH}
def StepC (P : Program) (T : Callee) (N : Nat) (ops : Array Oper) (prs : List (Nat × Nat)) (st : Nat → Fr × LH) (i : Nat) (o : Oper) : Prop :=
  ∃ b v, lwant ops (st i).1 o = some b ∧ lput N (st i).1 o.dst v = some (st (i + 1)).1 ∧
    (b = true → lop P T o (st i).1 (st i).2 = some (v, (st (i + 1)).2) ∧
      (∀ j, (i, j) ∈ prs → j < i → lop P T0 o (st i).1 (st j).2 = some (v, (st j).2))) ∧
    (∀ m, (m, i) ∈ prs → m < i → ∀ om d, ops[m]? = some om → om.dst = some d → lwant ops (st m).1 om = some true → lop P T0 om (st m).1 (st (i + 1)).2 = some ((st (i + 1)).1 d, (st (i + 1)).2)) ∧
    (b = false → v = undef ∧ (st (i + 1)).2 = (st i).2)
theorem trace_c : ∀ (os : List Oper) (k : Nat) (old : Nat → Fr × LH) (fr : Fr) (H : LH), ops.toList.drop k = os → k ≤ ops.size → lchain P T N ops prs k old os fr H = some r →
    ∃ st : Nat → Fr × LH, (∀ j, j < k → st j = old j) ∧ st k = (fr, H) ∧ st ops.size = r ∧ ∀ i, k ≤ i → ∀ o, ops[i]? = some o → StepC P T N ops prs st i o
  | [], k, old, fr, H, hd, hk, h => by
    have hlen := congrArg List.length hd
    simp at hlen
    have hks : k = ops.size := by omega
    simp only [lchain, Option.some.injEq] at h
    refine ⟨fun j => if j < k then old j else (fr, H), fun j hj => by simp [hj], by simp, by subst hks; simp [h], fun i hi o ho => ?_⟩
    have := (Array.getElem?_eq_some_iff.1 ho).1
    omega
  | o :: os, k, old, fr, H, hd, hk, h => by
    have hlen := congrArg List.length hd
    simp at hlen
    have hklt : k < ops.size := by omega
    have hok : ops[k]? = some o := by
      have e : (ops.toList.drop k)[0]? = ops.toList[k]? := by rw [List.getElem?_drop]; simp
      rw [hd] at e
      rw [← Array.getElem?_toList, ← e]; rfl
    have hd' : ops.toList.drop (k + 1) = os := by
      rw [← List.tail_drop, hd]; rfl
    unfold lchain at h
    split at h
    · rename_i hw
      split at h
      · rename_i v H1 hop
        split at h
        · rename_i fr1 hput
          split at h
          · rename_i hck
            obtain ⟨st, s1, s2, s3, s4⟩ := trace_c os (k + 1) _ fr1 H1 hd' (by omega) h
            have sk : st k = (fr, H) := by rw [s1 k (by omega)]; simp
            have so : ∀ j, j < k → st j = old j := fun j hj => by rw [s1 j (by omega)]; simp [show j ≠ k by omega]
            refine ⟨st, so, sk, s3, fun i hi o' ho' => ?_⟩
            rcases Nat.lt_or_eq_of_le hi with h1 | h1
            · exact s4 i h1 o' ho'
            · subst h1
              have : o' = o := Option.some.inj (ho'.symm.trans hok)
              subst this
              refine ⟨true, v, by rw [sk]; exact hw, by rw [sk, s2]; exact hput, fun _ => ⟨by rw [sk, s2]; exact hop, fun j hj hjk => ?_⟩, fun m hm hmk om d hom hdm hwm => ?_, fun e => by cases e⟩
              · rw [sk, so j hjk]; exact hck.1 j hj hjk
              · rw [so m hmk, s2]
                rw [so m hmk] at hwm
                exact hck.2 m hm hmk om d hom hdm hwm
          · cases h
        · cases h
      · cases h
    · rename_i hw
      split at h
      · rename_i fr1 hput
        split at h
        · rename_i hck
          obtain ⟨st, s1, s2, s3, s4⟩ := trace_c os (k + 1) _ fr1 H hd' (by omega) h
          have sk : st k = (fr, H) := by rw [s1 k (by omega)]; simp
          have so : ∀ j, j < k → st j = old j := fun j hj => by rw [s1 j (by omega)]; simp [show j ≠ k by omega]
          refine ⟨st, so, sk, s3, fun i hi o' ho' => ?_⟩
          rcases Nat.lt_or_eq_of_le hi with h1 | h1
          · exact s4 i h1 o' ho'
          · subst h1
            have : o' = o := Option.some.inj (ho'.symm.trans hok)
            subst this
            refine ⟨false, undef, by rw [sk]; exact hw, by rw [sk, s2]; exact hput, (fun e => by cases e), fun m hm hmk om d hom hdm hwm => ?_, fun _ => ⟨rfl, by rw [sk, s2]⟩⟩
            rw [so m hmk, s2]
            rw [so m hmk] at hwm
            exact hck m hm hmk om d hom hdm hwm
        · cases h
      · cases h
    · cases h
/-- what holds of a region that goes by the text's order -/
structure TC (P : Program) (T : Callee) (N : Nat) (ops : Array Oper) (prs : List (Nat × Nat)) (st : Nat → Fr × LH) : Prop where
  step : ∀ i o, ops[i]? = some o → StepC P T N ops prs st i o
  back : ∀ i o, ops[i]? = some o → ∀ e ∈ o.after, Region.binds .any e = true → e.on < i
  dep : ∀ i o t k, ops[i]? = some o → t ∈ Oper.looksAt ops o → dstOf ops k = some t → (k < i ∧ mbit (masks ops.toList []) i k = true ∧ (∀ o', ops[k]? = some o' → newB o'.op = true → ∀ j o2, j < k → ops[j]? = some o2 → heapB o2.op = true → mbit (masks ops.toList []) i j = true)) ∨ (i < k ∧ mbit (masks ops.toList []) k i = true)
  inj : ∀ i k d, dstOf ops i = some d → dstOf ops k = some d → i = k
  rdst : ∀ (i : Nat) (o : Oper), ops[i]? = some o → rdB o.op = true → ∃ d, o.dst = some d
  heap : ∀ i k o o', ops[i]? = some o → ops[k]? = some o' → heapB o.op = true → i ≠ k → mbit (masks ops.toList []) i k = true ∨ mbit (masks ops.toList []) k i = true ∨ (heapB o'.op = true ∧ k < i ∧ newB o.op = true) ∨ (heapB o'.op = true ∧ i < k ∧ newB o'.op = true) ∨ (heapB o'.op = false ∧ (rdB o'.op = false ∨ (k, i) ∈ prs))
theorem mixC_spec (h : mixC ops prs = true) (hs : ∀ i o, ops[i]? = some o → StepC P T N ops prs st i o) : TC P T N ops prs st := by
  unfold mixC at h
  simp only [Bool.and_eq_true] at h
  obtain ⟨⟨⟨h1, h2⟩, h3⟩, h4⟩ := h
  have lt : ∀ {i : Nat} {o : Oper}, ops[i]? = some o → i < ops.size := fun ho => (Array.getElem?_eq_some_iff.1 ho).1
  have dlt : ∀ {k : Nat} {t : Tmp}, dstOf ops k = some t → k < ops.size := fun {k t} hk => by
    unfold dstOf at hk
    cases hq : ops[k]? with
    | none => simp [hq] at hk
    | some x => exact lt hq
  refine ⟨hs, fun i o ho e he hb => ?_, fun i o t k ho ht hk => ?_, fun i k d hi hk => ?_, fun i o ho hr => ?_, fun i k o o' ho ho' hb hne => ?_⟩
  · have := List.all_eq_true.1 h1 i (List.mem_range.2 (lt ho))
    simp only [ho] at this
    have := List.all_eq_true.1 this e (by simpa using he)
    rw [hb] at this
    simpa using this
  · have := List.all_eq_true.1 h2 i (List.mem_range.2 (lt ho))
    simp only [ho] at this
    have := List.all_eq_true.1 this t ht
    have := List.all_eq_true.1 this k (List.mem_range.2 (dlt hk))
    rw [show (ops[k]?).bind (·.dst) = some t from hk] at this
    simp only [bne_self_eq_false, Bool.false_or, Bool.or_eq_true, Bool.and_eq_true, decide_eq_true_eq] at this
    rcases this with h | h
    · exact .inr h
    · obtain ⟨⟨g1, g2⟩, g3⟩ := h
      refine .inl ⟨g1, g2, fun o' ho' hn j o2 hj ho2 hb => ?_⟩
      simp only [ho', hn, Bool.not_true, Bool.false_or] at g3
      have := List.all_eq_true.1 g3 j (List.mem_range.2 hj)
      simpa [ho2, hb] using this
  · have := List.all_eq_true.1 h3 i (List.mem_range.2 (dlt hi))
    have := List.all_eq_true.1 this k (List.mem_range.2 (dlt hk))
    rw [show (ops[i]?).bind (·.dst) = some d from hi, show (ops[k]?).bind (·.dst) = some d from hk] at this
    simpa using this
  · have := List.all_eq_true.1 h4 i (List.mem_range.2 (lt ho))
    simp only [ho, hr, Bool.not_true, Bool.false_or, Bool.and_eq_true] at this
    exact Option.isSome_iff_exists.1 this.1
  · have := List.all_eq_true.1 h4 i (List.mem_range.2 (lt ho))
    simp only [ho, hb, Bool.not_true, Bool.false_or, Bool.and_eq_true] at this
    have := List.all_eq_true.1 this.2 k (List.mem_range.2 (lt ho'))
    simp only [ho', Bool.or_eq_true, beq_iff_eq, Bool.and_eq_true, Bool.not_eq_true', List.contains_iff_mem, decide_eq_true_eq] at this
    rcases this with ((((h | h) | h) | h) | h) | h
    · exact absurd h hne
    · exact .inl h
    · exact .inr (.inl h)
    · exact .inr (.inr (.inl ⟨h.1.1, h.1.2, h.2⟩))
    · exact .inr (.inr (.inr (.inl ⟨h.1.1, h.1.2, h.2⟩)))
    · exact .inr (.inr (.inr (.inr h)))
namespace TC
variable (tc : TC P T N ops prs st)
include tc
theorem at_ {i : Nat} (hi : i < ops.size) : ∃ o, ops[i]? = some o ∧ StepC P T N ops prs st i o := ⟨_, Array.getElem?_eq_getElem hi, tc.step i _ (Array.getElem?_eq_getElem hi)⟩
theorem put {i : Nat} (hi : i < ops.size) : (dstOf ops i = none ∧ (st (i + 1)).1 = (st i).1) ∨ ∃ d v, dstOf ops i = some d ∧ d < N ∧ (st (i + 1)).1 = Lg.upd (st i).1 d v := by
  obtain ⟨o, ho, b, v, _, hp, _⟩ := tc.at_ hi
  unfold lput at hp
  split at hp
  · rename_i d hd
    split at hp
    · rename_i hN
      simp only [Option.some.injEq] at hp
      exact .inr ⟨d, v, by simp [dstOf, ho, hd], hN, hp.symm⟩
    · cases hp
  · rename_i hd
    simp only [Option.some.injEq] at hp
    exact .inl ⟨by simp [dstOf, ho, hd], hp.symm⟩
theorem fdst {j : Nat} {d : Tmp} (hd : dstOf ops j = some d) : ∀ {i : Nat}, j < i → i ≤ ops.size → (st i).1 d = (st (j + 1)).1 d := by
  intro i hji hi
  induction i with
  | zero => omega
  | succ i ih =>
    by_cases e : j = i
    · subst e; rfl
    · rcases tc.put (i := i) (by omega) with ⟨_, h⟩ | ⟨d', v, hd', _, h⟩
      · rw [h]; exact ih (by omega) (by omega)
      · rw [h]
        have hne : d ≠ d' := fun hx => e (tc.inj j i d hd (by rw [hd', hx]))
        show (if d = d' then v else (st i).1 d) = _
        rw [if_neg hne]
        exact ih (by omega) (by omega)
theorem fnone {t : Tmp} : ∀ {i : Nat}, (∀ j, j < i → dstOf ops j ≠ some t) → i ≤ ops.size → (st i).1 t = (st 0).1 t := by
  intro i h hi
  induction i with
  | zero => rfl
  | succ i ih =>
    rcases tc.put (i := i) (by omega) with ⟨_, hu⟩ | ⟨d', v, hd', _, hu⟩
    · rw [hu]; exact ih (fun j hj => h j (by omega)) (by omega)
    · rw [hu]
      have hne : t ≠ d' := fun hx => h i (by omega) (by rw [hd', hx])
      show (if t = d' then v else (st i).1 t) = _
      rw [if_neg hne]
      exact ih (fun j hj => h j (by omega)) (by omega)
theorem quiet1 {i : Nat} {o : Oper} (ho : ops[i]? = some o) (hb : heapB o.op = false) : (st (i + 1)).2 = (st i).2 := by
  obtain ⟨b, v, _, _, h1, _, h2⟩ := tc.step i o ho
  cases b with
  | true => exact lop_same hb (h1 rfl).1
  | false => exact (h2 rfl).2
/-- between what turns memory, it stays -/
theorem between {i : Nat} : ∀ {k : Nat}, i ≤ k → k ≤ ops.size → (∀ j o, i ≤ j → j < k → ops[j]? = some o → heapB o.op = false) → (st k).2 = (st i).2 := by
  intro k hik hk h
  induction k with
  | zero => have : i = 0 := by omega
            subst this; rfl
  | succ k ih =>
    by_cases e : i = k + 1
    · subst e; rfl
    · obtain ⟨o, ho, _⟩ := tc.at_ (i := k) (by omega)
      rw [tc.quiet1 ho (h k o (by omega) (by omega) ho)]
      exact ih (by omega) (by omega) (fun j o h1 h2 => h j o h1 (by omega))
end TC
theorem new_heap {op : Op} (h : newB op = true) : heapB op = true := by cases op <;> first | rfl | cases h
theorem new_alloc {op : Op} (h : newB op = true) : allocB op = true := by cases op <;> first | rfl | cases h
def HeapAt (ops : Array Oper) (j : Nat) : Prop := ∃ o, ops[j]? = some o ∧ heapB o.op = true
open Classical in
/-- the frame: what has come; a block that came early is not yet told -/
noncomputable def frY (ops : Array Oper) (st : Nat → Fr × LH) (m : Nat) (listed : Array Bool) : Fr := fun t => if ∃ j, j < ops.size ∧ LS listed j ∧ dstOf ops j = some t then (if ∃ j, m ≤ j ∧ HeapAt ops j ∧ dstOf ops j = some t then unk else (st ops.size).1 t) else (st 0).1 t
theorem dst_lt {k : Nat} {t : Tmp} (hk : dstOf ops k = some t) : k < ops.size := by
  unfold dstOf at hk
  cases hq : ops[k]? with
  | none => simp [hq] at hk
  | some x => exact (Array.getElem?_eq_some_iff.1 hq).1
/-- m is the first of those that turn memory that has not come -/
def First (ops : Array Oper) (listed : Array Bool) (m : Nat) : Prop := m ≤ ops.size ∧ (∀ j, j < m → HeapAt ops j → LS listed j) ∧ (m = ops.size ∨ (HeapAt ops m ∧ ¬ LS listed m))
theorem TC.agree (tc : TC P T N ops prs st) {listed : Array Bool} (hc : Cl ops listed) {m : Nat} (hm : First ops listed m) {i : Nat} {o : Oper} (hi : i ∈ Region.ready .any ops listed) (ho : ops[i]? = some o) {t : Tmp} (ht : t ∈ Oper.looksAt ops o) (hnew : ∀ k o, ops[k]? = some o → heapB o.op = true → LS listed k → m ≤ k → newB o.op = true) : frY ops st m listed t = (st i).1 t := by
  have hilt := (ready_lt hi).1
  unfold frY
  by_cases hex : ∃ k, dstOf ops k = some t
  · obtain ⟨k, hk⟩ := hex
    have hks := dst_lt hk
    rcases tc.dep i o t k ho ht hk with ⟨h1, h2, h3⟩ | ⟨h1, h2⟩
    · have hl := mbit_ready hc hi h2
      rw [if_pos ⟨k, hks, hl, hk⟩, if_neg, tc.fdst hk (i := ops.size) hks (Nat.le_refl _), tc.fdst hk (i := i) h1 (by omega)]
      rintro ⟨j, hj1, ⟨oj, hoj, hbj⟩, hj3⟩
      have e := tc.inj j k t hj3 hk
      subst e
      rcases hm.2.2 with hm2 | ⟨⟨om, hom, hbm⟩, hm2⟩
      · omega
      · have hmj : m < j := Nat.lt_of_le_of_ne hj1 (fun e => hm2 (e ▸ hl))
        exact hm2 (mbit_ready hc hi (h3 oj hoj (hnew j oj hoj hbj hl hj1) m om hmj hom hbm))
    · have hno : ¬ LS listed k := fun hl => by
        have := mbit_listed hc hks hl h2
        have h3 := (ready_lt hi).2
        unfold LS at this
        rw [h3] at this; cases this
      rw [if_neg (fun ⟨j, _, hl, hj⟩ => hno (by rw [← tc.inj j k t hj hk]; exact hl))]
      exact (tc.fnone (fun j hj hd => by have := tc.inj j k t hd hk; omega) (by omega)).symm
  · rw [if_neg (fun ⟨j, _, _, hj⟩ => hex ⟨j, hj⟩)]
    exact (tc.fnone (fun j _ hj => hex ⟨j, hj⟩) (by omega)).symm
theorem T0_le {T : Callee} {o : Oper} {fr : Fr} {H : LH} {x : Value × LH} (h : lop P T0 o fr H = some x) : lop P T o fr H = some x := by
  obtain ⟨dst, op, ty, pos, after, guard⟩ := o
  cases op with
  | call c =>
    simp only [lop] at h ⊢
    split at h
    · unfold lcallee at h
      split at h
      · split at h <;> cases h
      · cases h
    · exact h
    · cases h
  | makeFunc f _ _ => cases f <;> exact h
  | slice _ _ _ _ mx => cases mx <;> exact h
  | _ => exact h
/-- a block that came early -/
structure Early (P : Program) (ops : Array Oper) (st : Nat → Fr × LH) (H : LH) (ι : Ren) (w0 : World) (j : Nat) (A : Nat) (a : Act) (w : World) : Prop where
  ex : ∃ b arr s, (st (j + 1)).2 = (st j).2.new b ∧ b.rw = true ∧ sz P b.elem = some s ∧ arr.size = b.cells.length + 0 * s ∧ (∀ n, s ≠ 0 → b.cells.length = n * s → n + 0 ≤ maxLen) ∧
    (∀ (i : Nat) x, b.cells[i]? = some x → ∃ y, arr[i]? = some y ∧ VR H.D ι x y) ∧ w.heap[A]? = some (.cells arr b.elem (0, 0))
  ge : w0.heap.size ≤ A
  no : ¬ Img H ι A
  tmp : ∀ d, dstOf ops j = some d → ∀ (D' : Nat → Prop) (ι' : Ren), D' (st j).2.n → ι' (st j).2.n = ⟨A, 0, 0⟩ → VR D' ι' ((st ops.size).1 d) (a.tmps.getD d undef)
/-- or it did not come at all, as it was not wanted -/
def EarlyO (P : Program) (ops : Array Oper) (st : Nat → Fr × LH) (H : LH) (ι : Ren) (w0 : World) (j : Nat) (A : Nat) (a : Act) (w : World) : Prop :=
  ((st (j + 1)).2 = (st j).2 ∧ ∀ d, dstOf ops j = some d → flatB ((st ops.size).1 d) = true ∧ a.tmps.getD d undef = (st ops.size).1 d) ∨ Early P ops st H ι w0 j A a w
theorem lt_of_get {w : World} {A : Nat} {x : Obj} (h : w.heap[A]? = some x) : A < w.heap.size := (Array.getElem?_eq_some_iff.1 h).1
theorem Early.step {H H' : LH} {ι ι' : Ren} {w0 w w' : World} {j A : Nat} {a a' : Act} (e : Early P ops st H ι w0 j A a w) (hrel : Rel P H ι w) (ho : Out P H ι w H' ι' w') (ht : ∀ d, dstOf ops j = some d → a'.tmps.getD d undef = a.tmps.getD d undef) : Early P ops st H' ι' w0 j A a' w' := by
  obtain ⟨b, arr, s, h1, h2, h3, h4, h5, h6, h7⟩ := e.ex
  have hlt := lt_of_get h7
  have hnrw : ¬ RW H ι A := fun ⟨l, b', g1, _, g3⟩ => e.no ⟨l, b', g1, g3⟩
  refine ⟨⟨b, arr, s, h1, h2, h3, h4, h5, fun i x hx => ?_, by rw [ho.chg.block A hlt hnrw]; exact h7⟩, e.ge, fun hi => ?_, fun d hd D' ι2 g1 g2 => by rw [ht d hd]; exact e.tmp d hd D' ι2 g1 g2⟩
  · obtain ⟨y, hy, hv⟩ := h6 i x hx
    exact ⟨y, hy, hv.mono ho.sub ho.same⟩
  · rcases ho.img A hi with h | h
    · exact e.no h
    · omega
theorem EarlyO.step {H H' : LH} {ι ι' : Ren} {w0 w w' : World} {j A : Nat} {a a' : Act} (e : EarlyO P ops st H ι w0 j A a w) (hrel : Rel P H ι w) (ho : Out P H ι w H' ι' w') (ht : ∀ d, dstOf ops j = some d → a'.tmps.getD d undef = a.tmps.getD d undef) : EarlyO P ops st H' ι' w0 j A a' w' := by
  rcases e with ⟨h1, h2⟩ | e
  · exact .inl ⟨h1, fun d hd => by rw [ht d hd]; exact h2 d hd⟩
  · exact .inr (e.step hrel ho ht)
/-- a block that came early is told -/
theorem rel_reg {H : LH} {ι : Ren} {w : World} (h : Rel P H ι w) {b : LB} {arr : Array Value} {s A : Nat} (hrw : b.rw = true) (hs : sz P b.elem = some s) (hsz : arr.size = b.cells.length + 0 * s)
    (hm : ∀ n, s ≠ 0 → b.cells.length = n * s → n + 0 ≤ maxLen) (hc : ∀ (i : Nat) x, b.cells[i]? = some x → ∃ y, arr[i]? = some y ∧ VR H.D ι x y) (hA : w.heap[A]? = some (.cells arr b.elem (0, 0))) (hno : ¬ Img H ι A) (hpin : ∀ g, g < H.ng → g ≠ A) :
    Rel P (H.new b) (ι.add H.n ⟨A, 0, 0⟩) w ∧ (∀ l, H.D l → (H.new b).D l) ∧ (∀ l, H.D l → (ι.add H.n ⟨A, 0, 0⟩) l = ι l) ∧ (∀ k, RW (H.new b) (ι.add H.n ⟨A, 0, 0⟩) k → RW H ι k ∨ k = A) ∧ (∀ k, Img (H.new b) (ι.add H.n ⟨A, 0, 0⟩) k → Img H ι k ∨ k = A) := by
  obtain ⟨d1, d2, d3⟩ := dom_new h (b := b)
  have hget : ∀ k, (H.new b).get k = if k = H.n then some b else H.get k := fun _ => rfl
  have hne0 : ∀ l, H.D l → l ≠ H.n := fun l hl e => d3 (e ▸ hl)
  have hsame : ∀ l, H.D l → (ι.add H.n ⟨A, 0, 0⟩) l = ι l := fun l hl => by unfold Ren.add; rw [if_neg (hne0 l hl)]
  have hsub : ∀ l, H.D l → (H.new b).D l := fun l hl => (D_new h l).2 (.inl hl)
  have hrwk : ∀ k, RW (H.new b) (ι.add H.n ⟨A, 0, 0⟩) k → RW H ι k ∨ k = A := by
    rintro k ⟨l, b', hb', hrw', rfl⟩
    rw [hget] at hb'
    split at hb'
    · rename_i e; subst e; right; simp [Ren.add]
    · left; rw [hsame l (h.live hb')]; exact ⟨l, b', hb', hrw', rfl⟩
  have himg : ∀ k, Img (H.new b) (ι.add H.n ⟨A, 0, 0⟩) k → Img H ι k ∨ k = A := by
    rintro k ⟨l, b', hb', rfl⟩
    rw [hget] at hb'
    split at hb'
    · rename_i e; subst e; right; simp [Ren.add]
    · left; rw [hsame l (h.live hb')]; exact ⟨l, b', hb', rfl⟩
  refine ⟨⟨d1, d2, ?_, ?_, fun g hg => ?_⟩, hsub, hsame, hrwk, himg⟩
  · intro l b' hb'
    rw [hget] at hb'
    split at hb'
    · rename_i e
      subst e
      injection hb' with hb'
      subst hb'
      have e : (ι.add H.n ⟨A, 0, 0⟩) H.n = ⟨A, 0, 0⟩ := by simp [Ren.add]
      rw [e]
      refine ⟨arr, b.elem, (0, 0), hA, by simp; omega, fun i x hx => ?_, fun _ => ⟨rfl, rfl, rfl, s, hs, hsz, hm⟩⟩
      obtain ⟨y, hy, hv⟩ := hc i x hx
      exact ⟨y, by simpa using hy, hv.mono hsub hsame⟩
    · rw [hsame l (h.live hb')]
      obtain ⟨arr', t, f, hw, h1, h2, h3⟩ := h.blk l b' hb'
      refine ⟨arr', t, f, hw, h1, fun i x hx => ?_, h3⟩
      obtain ⟨y, hy, hv⟩ := h2 i x hx
      exact ⟨y, hy, hv.mono hsub hsame⟩
  · intro l l' b1 b2 h1 h2 hrw1 hne
    rw [hget] at h1 h2
    split at h1 <;> split at h2
    · omega
    · rename_i e1 e2
      rw [hsame l' (h.live h2), e1]
      simp only [Ren.add, if_true]
      exact fun e => hno ⟨l', b2, h2, e.symm⟩
    · rename_i e1 e2
      rw [hsame l (h.live h1), e2]
      simp only [Ren.add, if_true]
      exact fun e => hno ⟨l, b1, h1, e⟩
    · rw [hsame l (h.live h1), hsame l' (h.live h2)]
      exact h.sep l l' b1 b2 h1 h2 hrw1 hne
  · obtain ⟨p1, p2, p3⟩ := h.pin g hg
    refine ⟨p1, p2, fun hk => ?_⟩
    rcases hrwk g hk with h1 | h1
    · exact p3 h1
    · exact hpin g hg h1
end
end Go.Lg
/-
  A logical run of Go code: regions whose order is open, where what turns memory stands in one order, reads may float, and new blocks may come early: every order comes to what the text's order comes to.
-/
set_option linter.unusedSimpArgs false
set_option linter.unusedVariables false
namespace Go.Lg
open Go.Tg Go.RowKit

section
variable {P : Program} {T : Callee} {N : Nat} {ops : Array Oper} {prs : List (Nat × Nat)} {st : Nat → Fr × LH} {H0 : LH} {ι0 : Ren} {w0 : World} {a0 : Act}
theorem put_get {a : Act} {d : Option Tmp} {d' : Tmp} {v : Value} (h : d ≠ some d') : (a.put d v).tmps.getD d' undef = a.tmps.getD d' undef := by
  cases d with
  | none => rfl
  | some d =>
    have hne : d ≠ d' := fun e => h (by rw [e])
    simp only [Act.put, Array.getD_eq_getD_getElem?]
    rw [Array.getElem?_setIfInBounds_ne hne]
theorem put_same {a : Act} {d : Tmp} {v : Value} (h : d < a.tmps.size) : (a.put (some d) v).tmps.getD d undef = v := by
  simp only [Act.put, Array.getD_eq_getD_getElem?]
  rw [Array.getElem?_setIfInBounds_self_of_lt h]; rfl
def EarlyX (P : Program) (ops : Array Oper) (st : Nat → Fr × LH) (H : LH) (ι : Ren) (w0 : World) (j : Nat) (x : Option Nat) (a : Act) (w : World) : Prop :=
  match x with
  | none => (st (j + 1)).2 = (st j).2 ∧ ∀ d, dstOf ops j = some d → flatB ((st ops.size).1 d) = true ∧ a.tmps.getD d undef = (st ops.size).1 d
  | some A => Early P ops st H ι w0 j A a w
theorem EarlyX.step {H H' : LH} {ι ι' : Ren} {w0 w w' : World} {j : Nat} {x : Option Nat} {a a' : Act} (e : EarlyX P ops st H ι w0 j x a w) (hrel : Rel P H ι w) (ho : Out P H ι w H' ι' w') (ht : ∀ d, dstOf ops j = some d → a'.tmps.getD d undef = a.tmps.getD d undef) : EarlyX P ops st H' ι' w0 j x a' w' := by
  cases x with
  | none => exact ⟨e.1, fun d hd => by rw [ht d hd]; exact e.2 d hd⟩
  | some A => exact Early.step e hrel ho ht
/-- all that turns memory ahead of m has come; of what stands behind some blocks may have come early -/
structure InvL (P : Program) (N : Nat) (ops : Array Oper) (st : Nat → Fr × LH) (H0 : LH) (ι0 : Ren) (w0 : World) (m : Nat) (ι : Ren) (listed : Array Bool) (a : Act) (w : World) : Prop where
  le : m ≤ ops.size
  low : ∀ j, j < m → HeapAt ops j → LS listed j
  isnew : ∀ j o, m ≤ j → ops[j]? = some o → heapB o.op = true → LS listed j → newB o.op = true
  af : ∃ Af : Nat → Option Nat, (∀ j, m ≤ j → HeapAt ops j → LS listed j → EarlyX P ops st (st m).2 ι w0 j (Af j) a w) ∧ ∀ j k A, m ≤ j → m ≤ k → HeapAt ops j → HeapAt ops k → LS listed j → LS listed k → j ≠ k → Af j = some A → Af k ≠ some A
  out : Out P H0 ι0 w0 (st m).2 ι w
  fr : FrR (st m).2.D ι N (frY ops st m listed) a.tmps
theorem frY_congr {m m' : Nat} {listed : Array Bool} (h : ∀ j, HeapAt ops j → LS listed j → (m ≤ j ↔ m' ≤ j)) (tc : TC P T N ops prs st) : frY ops st m listed = frY ops st m' listed := by
  funext t
  unfold frY
  by_cases h1 : ∃ j, j < ops.size ∧ LS listed j ∧ dstOf ops j = some t
  · rw [if_pos h1, if_pos h1]
    obtain ⟨j, hj, hl, hd⟩ := h1
    by_cases h2 : ∃ j, m ≤ j ∧ HeapAt ops j ∧ dstOf ops j = some t
    · obtain ⟨k, k1, k2, k3⟩ := h2
      have := tc.inj k j t k3 hd
      subst this
      rw [if_pos ⟨k, k1, k2, k3⟩, if_pos ⟨k, (h k k2 hl).1 k1, k2, k3⟩]
    · rw [if_neg h2, if_neg]
      rintro ⟨k, k1, k2, k3⟩
      have := tc.inj k j t k3 hd
      subst this
      exact h2 ⟨k, (h k k2 hl).2 k1, k2, k3⟩
  · rw [if_neg h1, if_neg h1]
theorem frY_put (tc : TC P T N ops prs st) {m m' i : Nat} {o : Oper} {v : Value} {listed : Array Bool} (hi : i < ops.size) (ho : ops[i]? = some o) (hN : ∀ d, o.dst = some d → d < N)
    (h : ∀ j, j ≠ i → HeapAt ops j → (m ≤ j ↔ m' ≤ j)) (hv : ∀ d, o.dst = some d → (m' ≤ i ∧ HeapAt ops i → v = unk) ∧ (¬ (m' ≤ i ∧ HeapAt ops i) → v = (st ops.size).1 d)) :
    lput N (frY ops st m listed) o.dst v = some (frY ops st m' (listed.setIfInBounds i true)) := by
  have hset : ∀ t, (∀ d, o.dst = some d → t ≠ d) → ((∃ j, j < ops.size ∧ LS (listed.setIfInBounds i true) j ∧ dstOf ops j = some t) ↔ ∃ j, j < ops.size ∧ LS listed j ∧ dstOf ops j = some t) := fun t ht => by
    constructor
    · rintro ⟨j, h1, h2, h3⟩
      rcases Tr.set_iff.1 h2 with h2 | h2
      · exact ⟨j, h1, h2, h3⟩
      · subst h2
        have : o.dst = some t := by simpa [dstOf, ho] using h3
        exact absurd rfl (ht t this)
    · rintro ⟨j, h1, h2, h3⟩
      exact ⟨j, h1, Tr.set_iff.2 (.inl h2), h3⟩
  have hearly : ∀ t, (∀ d, o.dst = some d → t ≠ d) → ((∃ j, m ≤ j ∧ HeapAt ops j ∧ dstOf ops j = some t) ↔ ∃ j, m' ≤ j ∧ HeapAt ops j ∧ dstOf ops j = some t) := fun t ht => by
    have hne : ∀ j, dstOf ops j = some t → j ≠ i := fun j hj e => by
      subst e
      have : o.dst = some t := by simpa [dstOf, ho] using hj
      exact absurd rfl (ht t this)
    constructor
    · rintro ⟨j, h1, h2, h3⟩; exact ⟨j, (h j (hne j h3) h2).1 h1, h2, h3⟩
    · rintro ⟨j, h1, h2, h3⟩; exact ⟨j, (h j (hne j h3) h2).2 h1, h2, h3⟩
  have old : ∀ t, (∀ d, o.dst = some d → t ≠ d) → frY ops st m listed t = frY ops st m' (listed.setIfInBounds i true) t := fun t ht => by
    unfold frY
    by_cases h1 : ∃ j, j < ops.size ∧ LS listed j ∧ dstOf ops j = some t
    · rw [if_pos h1, if_pos ((hset t ht).2 h1)]
      by_cases h2 : ∃ j, m ≤ j ∧ HeapAt ops j ∧ dstOf ops j = some t
      · rw [if_pos h2, if_pos ((hearly t ht).1 h2)]
      · rw [if_neg h2, if_neg (fun hx => h2 ((hearly t ht).2 hx))]
    · rw [if_neg h1, if_neg (fun hx => h1 ((hset t ht).1 hx))]
  unfold lput
  cases hd : o.dst with
  | none =>
    simp only [Option.some.injEq]
    funext t
    exact old t (fun d hd' => by rw [hd] at hd'; cases hd')
  | some d =>
    simp only
    rw [if_pos (hN d hd)]
    simp only [Option.some.injEq]
    have hdi : dstOf ops i = some d := by simp [dstOf, ho, hd]
    funext t
    unfold Lg.upd
    by_cases e : t = d
    · subst e
      rw [if_pos rfl]
      obtain ⟨v1, v2⟩ := hv t hd
      unfold frY
      rw [if_pos ⟨i, hi, Tr.set_iff.2 (.inr rfl), hdi⟩]
      by_cases hc : m' ≤ i ∧ HeapAt ops i
      · rw [if_pos ⟨i, hc.1, hc.2, hdi⟩]; exact v1 hc
      · rw [if_neg]
        · exact v2 hc
        · rintro ⟨j, h1, h2, h3⟩
          have := tc.inj j i t h3 hdi
          subst this
          exact hc ⟨h1, h2⟩
    · rw [if_neg e]
      exact old t (fun d' hd' e' => e (by rw [hd] at hd'; injection hd' with hd'; rw [hd']; exact e'))
/-- what came early is told, as soon as all ahead of it has come -/
theorem adv (tc : TC P T N ops prs st) (hrel0 : Rel P H0 ι0 w0) {listed : Array Bool} {a : Act} {w : World} : ∀ (n m : Nat) (ι : Ren), ops.size - m ≤ n → InvL P N ops st H0 ι0 w0 m ι listed a w → ∃ m' ι', InvL P N ops st H0 ι0 w0 m' ι' listed a w ∧ First ops listed m' := by
  intro n
  induction n with
  | zero =>
    intro m ι hn h
    have := h.le
    exact ⟨m, ι, h, h.le, h.low, .inl (by omega)⟩
  | succ n ih =>
    intro m ι hn h
    by_cases hms : m = ops.size
    · exact ⟨m, ι, h, h.le, h.low, .inl hms⟩
    have hlt : m < ops.size := by have := h.le; omega
    by_cases hH : HeapAt ops m
    · by_cases hl : LS listed m
      · obtain ⟨Af, af1, af2⟩ := h.af
        have hlow : ∀ j, j < m + 1 → HeapAt ops j → LS listed j := fun j hj hb => by
          rcases Nat.lt_or_eq_of_le (Nat.le_of_lt_succ hj) with h1 | h1
          · exact h.low j h1 hb
          · rw [h1]; exact hl
        have hframe : ∀ t, (∀ d, dstOf ops m = some d → t ≠ d) → frY ops st (m + 1) listed t = frY ops st m listed t := fun t ht => by
          unfold frY
          have : (∃ j, m ≤ j ∧ HeapAt ops j ∧ dstOf ops j = some t) ↔ ∃ j, m + 1 ≤ j ∧ HeapAt ops j ∧ dstOf ops j = some t := by
            constructor
            · rintro ⟨j, h1, h2, h3⟩
              rcases Nat.lt_or_eq_of_le h1 with h4 | h4
              · exact ⟨j, h4, h2, h3⟩
              · subst h4; exact absurd rfl (ht t h3)
            · rintro ⟨j, h1, h2, h3⟩; exact ⟨j, by omega, h2, h3⟩
          by_cases h1 : ∃ j, j < ops.size ∧ LS listed j ∧ dstOf ops j = some t
          · rw [if_pos h1, if_pos h1]
            by_cases h2 : ∃ j, m ≤ j ∧ HeapAt ops j ∧ dstOf ops j = some t
            · rw [if_pos h2, if_pos (this.1 h2)]
            · rw [if_neg h2, if_neg (fun hx => h2 (this.2 hx))]
          · rw [if_neg h1, if_neg h1]
        have hat : ∀ d, dstOf ops m = some d → frY ops st (m + 1) listed d = (st ops.size).1 d := fun d hd => by
          unfold frY
          rw [if_pos ⟨m, hlt, hl, hd⟩, if_neg]
          rintro ⟨j, h1, _, h3⟩
          have := tc.inj j m d h3 hd
          omega
        have he := af1 m (Nat.le_refl _) hH hl
        cases hx : Af m with
        | none =>
          rw [hx] at he
          obtain ⟨e1, e2⟩ := he
          refine ih (m + 1) ι (by omega) ⟨hlt, hlow, fun j o hj => h.isnew j o (by omega), ⟨Af, fun j hj hb hlj => ?_, fun j k A hj hk => af2 j k A (by omega) (by omega)⟩, by rw [e1]; exact h.out, h.fr.1, fun t => ?_⟩
          · rw [e1]; exact af1 j (by omega) hb hlj
          · rw [e1]
            by_cases ht : ∃ d, dstOf ops m = some d ∧ t = d
            · obtain ⟨d, hd, rfl⟩ := ht
              obtain ⟨f1, f2⟩ := e2 t hd
              rw [hat t hd, f2]; exact .flat _ f1
            · rw [hframe t (fun d hd e => ht ⟨d, hd, e⟩)]; exact h.fr.2 t
        | some A =>
          rw [hx] at he
          obtain ⟨b, arr, s, h1, h2, h3, h4, h5, h6, h7⟩ := Early.ex he
          have hpin : ∀ g, g < (st m).2.ng → g ≠ A := fun g hg e => by
            rw [h.out.ng] at hg
            have h8 := (hrel0.pin g hg).2.1
            have h9 := Early.ge he
            omega
          obtain ⟨r1, r2, r3, r4, r5⟩ := rel_reg h.out.rel h2 h3 h4 h5 h6 h7 (Early.no he) hpin
          have hge := Early.ge he
          have hout : Out P H0 ι0 w0 ((st m).2.new b) (ι.add (st m).2.n ⟨A, 0, 0⟩) w := by
            refine ⟨r1, Nat.le_succ_of_le h.out.n, fun l hl => r2 l (h.out.sub l hl), fun l hl => (r3 l (h.out.sub l hl)).trans (h.out.same l hl), h.out.chg, fun k hk => ?_, fun k hk => ?_, ?_⟩
            · rcases r4 k hk with g | g
              · exact h.out.rw k g
              · exact .inr (by omega)
            · rcases r5 k hk with g | g
              · exact h.out.img k g
              · exact .inr (by omega)
            · exact h.out.ng
          refine ih (m + 1) (ι.add (st m).2.n ⟨A, 0, 0⟩) (by omega) ⟨hlt, hlow, fun j o hj => h.isnew j o (by omega), ⟨Af, fun j hj hb hlj => ?_, fun j k A hj hk => af2 j k A (by omega) (by omega)⟩, by rw [h1]; exact hout, h.fr.1, fun t => ?_⟩
          · rw [h1]
            have ej := af1 j (by omega) hb hlj
            cases hy : Af j with
            | none => rw [hy] at ej; exact ej
            | some B =>
              rw [hy] at ej
              have hBA : B ≠ A := fun e => af2 m j A (Nat.le_refl _) (by omega) hH hb hl hlj (by omega) hx (by rw [hy, e])
              obtain ⟨b', arr', s', k1, k2, k3, k4, k5, k6, k7⟩ := Early.ex ej
              exact ⟨⟨b', arr', s', k1, k2, k3, k4, k5, fun i x hx => by
                obtain ⟨y, hy, hv⟩ := k6 i x hx
                exact ⟨y, hy, hv.mono r2 r3⟩, k7⟩, Early.ge ej, fun hi => by
                  rcases r5 B hi with g | g
                  · exact Early.no ej g
                  · exact hBA g, Early.tmp ej⟩
          · rw [h1]
            by_cases ht : ∃ d, dstOf ops m = some d ∧ t = d
            · obtain ⟨d, hd, rfl⟩ := ht
              rw [hat t hd]
              exact Early.tmp he t hd _ _ ((D_new h.out.rel _).2 (.inr rfl)) (by simp [Ren.add])
            · rw [hframe t (fun d hd e => ht ⟨d, hd, e⟩)]; exact (h.fr.2 t).mono r2 r3
      · exact ⟨m, ι, h, h.le, h.low, .inr ⟨hH, hl⟩⟩
    · obtain ⟨o, ho⟩ : ∃ o, ops[m]? = some o := ⟨_, Array.getElem?_eq_getElem hlt⟩
      have hb : heapB o.op = false := by
        cases hq : heapB o.op with
        | false => rfl
        | true => exact absurd ⟨o, ho, hq⟩ hH
      have e1 := tc.quiet1 ho hb
      have ne : ∀ j, HeapAt ops j → (m ≤ j ↔ m + 1 ≤ j) := fun j hj => ⟨fun hm => Nat.lt_of_le_of_ne hm (fun e => hH (e ▸ hj)), fun hm => by omega⟩
      obtain ⟨Af, af1, af2⟩ := h.af
      refine ih (m + 1) ι (by omega) ⟨hlt, fun j hj hb' => h.low j (Nat.lt_of_le_of_ne (Nat.le_of_lt_succ hj) (fun e => hH (e ▸ hb'))) hb', fun j o hj => h.isnew j o (by omega), ⟨Af, fun j hj hb' hlj => by rw [e1]; exact af1 j (by omega) hb' hlj, fun j k A hj hk => af2 j k A (by omega) (by omega)⟩, by rw [e1]; exact h.out, ?_⟩
      rw [e1, ← frY_congr (m := m) (m' := m + 1) (fun j hj _ => ne j hj) tc]
      exact h.fr
/-! ### some of it has come -/
structure PC (P : Program) (N : Nat) (ops : Array Oper) (st : Nat → Fr × LH) (H0 : LH) (ι0 : Ren) (w0 : World) (a0 : Act) (listed : Array Bool) (a : Act) (w : World) : Prop where
  size : listed.size = ops.size
  cl : Cl ops listed
  ex : ∃ m ι, InvL P N ops st H0 ι0 w0 m ι listed a w ∧ First ops listed m
  defers : a.defers = a0.defers
theorem pc_step (hT : TOk P T) (hrel0 : Rel P H0 ι0 w0) (tc : TC P T N ops prs st) {listed : Array Bool} {a : Act} {w : World} (pc : PC P N ops st H0 ι0 w0 a0 listed a w) {i : Nat} (hi : i ∈ Region.ready .any ops listed) {Q : Exit → Act → World → Prop} :
    wpOp P ops Q i (fun a' w' => PC P N ops st H0 ι0 w0 a0 (listed.setIfInBounds i true) a' w') a w := by
  obtain ⟨hun, o, ho, hall⟩ := mem_ready.1 hi
  have hilt := (ready_lt hi).1
  have hnl : ¬ LS listed i := fun h => by unfold LS at h; rw [hun] at h; cases h
  obtain ⟨b, v, hw, hp, h1, h3, h2⟩ := tc.step i o ho
  obtain ⟨m, ι, hinv, hfirst⟩ := pc.ex
  have hout := hinv.out
  have hfr := hinv.fr
  have hag : ∀ t ∈ Oper.looksAt ops o, frY ops st m listed t = (st i).1 t := fun t ht => tc.agree pc.cl hfirst hi ho ht (fun k ok hk hb hl hmk => hinv.isnew k ok hmk hk hb hl)
  have hev : ∀ x ∈ o.op.operands, ev (frY ops st m listed) x = ev (st i).1 x := fun x hx => ev_congr hag x hx
  have hwX : lwant ops (frY ops st m listed) o = some b := (lwant_congr hag).trans hw
  have hN : ∀ d, o.dst = some d → d < N := fun d hd => by
    rw [hd] at hp
    simp only [lput] at hp
    split at hp
    · assumption
    · cases hp
  have hvd : ∀ d, o.dst = some d → (st ops.size).1 d = v := fun d hd => by
    have hdi : dstOf ops i = some d := by simp [dstOf, ho, hd]
    rw [tc.fdst hdi hilt (Nat.le_refl _)]
    rw [hd] at hp
    simp only [lput] at hp
    split at hp
    · simp only [Option.some.injEq] at hp
      rw [← hp]
      show (if d = d then v else _) = v
      rw [if_pos rfl]
    · cases hp
  have hcl : Cl ops (listed.setIfInBounds i true) := fun j oj hj hl e he hb => by
    rcases Tr.set_iff.1 hl with h | h
    · exact Tr.set_iff.2 (.inl (pc.cl j oj hj h e he hb))
    · subst h
      have : oj = o := Option.some.inj (hj.symm.trans ho)
      subst this
      exact Tr.set_iff.2 (.inl (getD_ft (hall e he hb)))
  have hsz : (listed.setIfInBounds i true).size = ops.size := by simp [pc.size]
  have bk : ∀ k j, j < ops.size → k < ops.size → mbit (masks ops.toList []) k j = true → j < k := by
    intro k
    induction k using Nat.strongRecOn with
    | ind k ih =>
      intro j hj hk hx
      obtain ⟨e, e1, e2, e3, e4⟩ := mbit_step (Array.getElem?_eq_getElem hk) hx
      rcases e4 with rfl | e4
      · exact e3
      · have := ih e.on e3 j hj (by omega) e4
        omega
  have hone : ∀ j, HeapAt ops j → heapB o.op = false → j ≠ i := fun j ⟨oj, hoj, hbj⟩ hb e => by
    subst e
    have : oj = o := Option.some.inj (hoj.symm.trans ho)
    subst this
    rw [hb] at hbj; cases hbj
  have dne : ∀ {j : Nat}, j ≠ i → ∀ d, dstOf ops j = some d → o.dst ≠ some d := fun {j} hj d hd e => hj (tc.inj j i d hd (by simp [dstOf, ho, e]))
  obtain ⟨Af, af1, af2⟩ := hinv.af
  -- one that leaves memory as it is
  have quiet : heapB o.op = false → ∀ (v' : Value) (w' : World) (ι' : Ren), Out P (st m).2 ι w (st m).2 ι' w' → VR (st m).2.D ι' v v' → PC P N ops st H0 ι0 w0 a0 (listed.setIfInBounds i true) (a.put o.dst v') w' := fun hb v' w' ι' ho2 hvr => by
    have hput := frY_put (m := m) (m' := m) (v := v) (listed := listed) tc hilt ho hN (fun j _ _ => Iff.rfl) (fun d hd => ⟨fun hc => absurd rfl (hone i hc.2 hb), fun _ => (hvd d hd).symm⟩)
    refine ⟨hsz, hcl, ⟨m, ι', ⟨hinv.le, fun j hj hbj => Tr.set_iff.2 (.inl (hinv.low j hj hbj)), fun j oj hmj hj hbj hl => ?_, ⟨Af, fun j hmj hbj hl => ?_, fun j k A hj hk hbj hbk hl1 hl2 => ?_⟩, hout.trans ho2, (hfr.mono ho2.sub ho2.same).put hput hvr⟩, hfirst.1, fun j hj hbj => Tr.set_iff.2 (.inl (hfirst.2.1 j hj hbj)), ?_⟩, by rw [put_defers]; exact pc.defers⟩
    · rcases Tr.set_iff.1 hl with h | h
      · exact hinv.isnew j oj hmj hj hbj h
      · exact absurd h.symm (hone j ⟨oj, hj, hbj⟩ hb)
    · rcases Tr.set_iff.1 hl with h | h
      · exact (af1 j hmj hbj h).step hout.rel ho2 (fun d hd => put_get (dne (hone j hbj hb) d hd))
      · exact absurd h.symm (hone j hbj hb)
    · rcases Tr.set_iff.1 hl1 with h | h
      · rcases Tr.set_iff.1 hl2 with h' | h'
        · exact af2 j k A hj hk hbj hbk h h'
        · exact absurd h'.symm (hone k hbk hb)
      · exact absurd h.symm (hone j hbj hb)
    · rcases hfirst.2.2 with h | ⟨h, h'⟩
      · exact .inl h
      · refine .inr ⟨h, fun hx => ?_⟩
        rcases Tr.set_iff.1 hx with g | g
        · exact h' g
        · exact hone m h hb g.symm
  -- the first of those that turn memory
  have first : heapB o.op = true → i = m → ∀ (v' : Value) (w' : World) (ι' : Ren), Out P (st m).2 ι w (st (m + 1)).2 ι' w' → VR (st (m + 1)).2.D ι' v v' → PC P N ops st H0 ι0 w0 a0 (listed.setIfInBounds i true) (a.put o.dst v') w' := fun hb him v' w' ι' ho2 hvr => by
    subst him
    have hput := frY_put (m := i) (m' := i + 1) (v := v) (listed := listed) tc hilt ho hN (fun j hj _ => ⟨fun h => Nat.lt_of_le_of_ne h (fun e => hj e.symm), fun h => by omega⟩) (fun d hd => ⟨fun hc => absurd hc.1 (by omega), fun _ => (hvd d hd).symm⟩)
    have hl2 : InvL P N ops st H0 ι0 w0 (i + 1) ι' (listed.setIfInBounds i true) (a.put o.dst v') w' := by
      refine ⟨hilt, fun j hj hbj => ?_, fun j oj hmj hj hbj hl => ?_, ⟨Af, fun j hmj hbj hl => ?_, fun j k A hj hk hbj hbk hl1 hl2 => ?_⟩, hout.trans ho2, (hfr.mono ho2.sub ho2.same).put hput hvr⟩
      · rcases Nat.lt_or_eq_of_le (Nat.le_of_lt_succ hj) with h | h
        · exact Tr.set_iff.2 (.inl (hinv.low j h hbj))
        · exact Tr.set_iff.2 (.inr h.symm)
      · rcases Tr.set_iff.1 hl with h | h
        · exact hinv.isnew j oj (by omega) hj hbj h
        · omega
      · rcases Tr.set_iff.1 hl with h | h
        · exact (af1 j (by omega) hbj h).step hout.rel ho2 (fun d hd => put_get (dne (by omega) d hd))
        · omega
      · rcases Tr.set_iff.1 hl1 with h | h
        · rcases Tr.set_iff.1 hl2 with h' | h'
          · exact af2 j k A (by omega) (by omega) hbj hbk h h'
          · omega
        · omega
    obtain ⟨m', ι2, k1, k2⟩ := adv tc hrel0 _ _ _ (Nat.le_refl _) hl2
    exact ⟨hsz, hcl, ⟨m', ι2, k1, k2⟩, by rw [put_defers]; exact pc.defers⟩
  -- one that came early
  have early : heapB o.op = true → i ≠ m → m < i ∧ newB o.op = true ∧ ∀ (v' : Value) (w' : World) (x : Option Nat), Out P (st m).2 ι w (st m).2 ι w' → EarlyX P ops st (st m).2 ι w0 i x (a.put o.dst v') w' → (∀ A, x = some A → ∀ j, Af j = some A → m ≤ j → HeapAt ops j → LS listed j → False) → PC P N ops st H0 ι0 w0 a0 (listed.setIfInBounds i true) (a.put o.dst v') w' := fun hb him => by
    have hHi : HeapAt ops i := ⟨o, ho, hb⟩
    have hmi : m < i := by
      rcases Nat.lt_or_ge i m with h | h
      · exact absurd (hinv.low i h hHi) hnl
      · omega
    obtain ⟨⟨om, hom, hbm⟩, hml⟩ : HeapAt ops m ∧ ¬ LS listed m := by
      rcases hfirst.2.2 with h | h
      · omega
      · exact h
    have hms := (Array.getElem?_eq_some_iff.1 hom).1
    have hnew : newB o.op = true := by
      rcases tc.heap i m o om ho hom hb him with hx | hx | hx | hx | hx
      · exact absurd (mbit_ready pc.cl hi hx) hml
      · have := bk m i hilt hms hx; omega
      · exact hx.2.2
      · omega
      · rw [hx.1] at hbm; cases hbm
    refine ⟨hmi, hnew, fun v' w' x ho2 he hdis => ?_⟩
    have hput := frY_put (m := m) (m' := m) (v := unk) (listed := listed) tc hilt ho hN (fun j _ _ => Iff.rfl) (fun d hd => ⟨fun _ => rfl, fun hc => absurd ⟨by omega, hHi⟩ hc⟩)
    refine ⟨hsz, hcl, ⟨m, ι, ⟨hinv.le, fun j hj hbj => Tr.set_iff.2 (.inl (hinv.low j hj hbj)), fun j oj hmj hj hbj hl => ?_, ⟨fun j => if j = i then x else Af j, fun j hmj hbj hl => ?_, fun j k A hj hk hbj hbk hl1 hl2 hjk hA => ?_⟩, hout.trans ho2, (hfr.mono ho2.sub ho2.same).put hput (.any _)⟩, hfirst.1, fun j hj hbj => Tr.set_iff.2 (.inl (hfirst.2.1 j hj hbj)), .inr ⟨⟨om, hom, hbm⟩, fun hx => ?_⟩⟩, by rw [put_defers]; exact pc.defers⟩
    · rcases Tr.set_iff.1 hl with h | h
      · exact hinv.isnew j oj hmj hj hbj h
      · subst h
        have : oj = o := Option.some.inj (hj.symm.trans ho)
        subst this
        exact hnew
    · by_cases hji : j = i
      · subst hji; simp only [if_true]; exact he
      · simp only [if_neg hji]
        rcases Tr.set_iff.1 hl with h | h
        · exact (af1 j hmj hbj h).step hout.rel ho2 (fun d hd => put_get (dne hji d hd))
        · exact absurd h.symm hji
    · by_cases hji : j = i
      · subst hji
        simp only [if_true] at hA
        show (if k = j then x else Af k) ≠ some A
        rw [if_neg (Ne.symm hjk)]
        rcases Tr.set_iff.1 hl2 with h | h
        · exact fun hk' => hdis A hA k hk' hk hbk h
        · exact absurd h hjk
      · simp only [if_neg hji] at hA
        rcases Tr.set_iff.1 hl1 with h | h
        · by_cases hki : k = i
          · subst hki
            simp only [if_true]
            exact fun hx => hdis A hx j hA hj hbj h
          · show (if k = i then x else Af k) ≠ some A
            rw [if_neg hki]
            rcases Tr.set_iff.1 hl2 with h' | h'
            · exact af2 j k A hj hk hbj hbk h h' hjk hA
            · exact absurd h'.symm hki
        · exact absurd h.symm hji
    · rcases Tr.set_iff.1 hx with g | g
      · exact hml g
      · exact him g
  unfold wpOp
  simp only [ho]
  cases b with
  | false =>
    obtain ⟨hv, hH⟩ := h2 rfl
    rw [if_neg (by rw [want_eq hfr hwX]; simp)]
    subst hv
    cases hb : heapB o.op with
    | false => exact quiet hb undef w ι (Out.refl hout.rel) (.flat _ rfl)
    | true =>
      by_cases him : i = m
      · exact first hb him undef w ι (by rw [← him, hH, him]; exact Out.refl hout.rel) (.flat _ rfl)
      · obtain ⟨_, _, k⟩ := early hb him
        refine k undef w none (Out.refl hout.rel) ⟨hH, fun d hd => ?_⟩ (fun A hA => by cases hA)
        have hd' : o.dst = some d := by simpa [dstOf, ho] using hd
        rw [hvd d hd', hd']
        exact ⟨rfl, put_same (by rw [hfr.1]; exact hN d hd')⟩
  | true =>
    obtain ⟨hop, hR⟩ := h1 rfl
    rw [if_pos (want_eq hfr hwX)]
    left
    cases hb : heapB o.op with
    | true =>
      by_cases him : i = m
      · rw [← lop_congr hev, him] at hop
        exact lop_ok hT hout.rel hfr hop _ _ (fun ι' v' w' ho2 hvr => first hb him v' w' ι' ho2 hvr)
      · obtain ⟨hmi, hnew, k⟩ := early hb him
        rw [← lop_congr hev] at hop
        obtain ⟨b, arr, s, g1, g2, g3, g4, g5, g6, g7⟩ := alloc_at (HS := (st m).2) hfr hop (new_alloc hnew)
        obtain ⟨v', hrun, hv'⟩ := g7 w
        unfold Oper.wp
        rw [hrun]
        simp only [Oper.upon]
        have hch : Change (fun _ => False) w (w.alloc (.cells arr b.elem)) := (Change.refl _ w).alloc _
        have hout2 := out_change hout.rel hch
        have hwlt : w0.heap.size ≤ w.heap.size := hout.chg.size
        refine k v' _ (some w.heap.size) hout2 ⟨⟨b, arr, s, g1, g2, g3, g4, g5, fun i x hx => ?_, heap_alloc_new w _⟩, hwlt, fun hi => ?_, fun d hd D' ι' q1 q2 => ?_⟩ (fun A hA j hAj hmj hbj hlj => ?_)
        · exact g6 i x hx
        · obtain ⟨l, b', e1, e2⟩ := hi
          obtain ⟨arr', t, f, hw', _⟩ := hout.rel.blk l b' e1
          have := lt_of_get hw'
          omega
        · have hd' : o.dst = some d := by simpa [dstOf, ho] using hd
          rw [hvd d hd', hd', put_same (by rw [hfr.1]; exact hN d hd')]
          exact hv' D' ι' q1 q2
        · injection hA with hA
          have ej := af1 j hmj hbj hlj
          rw [hAj] at ej
          obtain ⟨_, _, _, _, _, _, _, _, _, e7⟩ := Early.ex ej
          have := lt_of_get e7
          omega
    | false =>
      have hnow : lop P T o (st i).1 (st m).2 = some (v, (st m).2) := by
        cases hrd : rdB o.op with
        | false => exact lop_free hb hrd hop _
        | true =>
          have hsame := lop_same hb hop
          rw [hsame] at hop
          rcases Nat.lt_or_ge m i with h | h
          · -- the first that has not come stands ahead
            obtain ⟨⟨om, hom, hbm⟩, hml⟩ : HeapAt ops m ∧ ¬ LS listed m := by
              rcases hfirst.2.2 with h' | h'
              · omega
              · exact h'
            have hms := (Array.getElem?_eq_some_iff.1 hom).1
            rcases tc.heap m i om o hom ho hbm (by omega) with hx | hx | hx | hx | hx
            · have := bk m i hilt hms hx; omega
            · exact absurd (mbit_ready pc.cl hi hx) hml
            · rw [hb] at hx; cases hx.1
            · rw [hb] at hx; cases hx.1
            · rcases hx.2 with hx2 | hx2
              · rw [hrd] at hx2; cases hx2
              · exact T0_le (hR m hx2 h)
          · by_cases hex : ∃ j oj, i ≤ j ∧ j < m ∧ ops[j]? = some oj ∧ heapB oj.op = true
            · -- the last of those that have come
              have : ∃ j, (∃ oj, i ≤ j ∧ j < m ∧ ops[j]? = some oj ∧ heapB oj.op = true) ∧ ∀ k, j < k → ¬ ∃ oj, i ≤ k ∧ k < m ∧ ops[k]? = some oj ∧ heapB oj.op = true := by
                obtain ⟨j, oj, hj⟩ := hex
                have : ∀ n j, m - j < n → (∃ oj, i ≤ j ∧ j < m ∧ ops[j]? = some oj ∧ heapB oj.op = true) → ∃ j, (∃ oj, i ≤ j ∧ j < m ∧ ops[j]? = some oj ∧ heapB oj.op = true) ∧ ∀ k, j < k → ¬ ∃ oj, i ≤ k ∧ k < m ∧ ops[k]? = some oj ∧ heapB oj.op = true := by
                  intro n
                  induction n with
                  | zero => intro j hj; omega
                  | succ n ih =>
                    intro j hjn hj
                    by_cases hk : ∃ k, j < k ∧ ∃ oj, i ≤ k ∧ k < m ∧ ops[k]? = some oj ∧ heapB oj.op = true
                    · obtain ⟨k, hkj, hk⟩ := hk
                      refine ih k ?_ hk
                      obtain ⟨_, _, hkm, _⟩ := hk
                      omega
                    · exact ⟨j, hj, fun k hkj hx => hk ⟨k, hkj, hx⟩⟩
                exact this (m - j + 1) j (Nat.lt_succ_self _) ⟨oj, hj⟩
              obtain ⟨j, ⟨oj, hij, hjm, hj, hbj⟩, hlast⟩ := this
              have hjs := (Array.getElem?_eq_some_iff.1 hj).1
              have hjl := hinv.low j hjm ⟨oj, hj, hbj⟩
              have hji : j ≠ i := fun e => hnl (e ▸ hjl)
              have e : (st m).2 = (st (j + 1)).2 := tc.between (by omega) hinv.le (fun k ok hjk hkm hk => by
                cases hbk : heapB ok.op with
                | false => rfl
                | true => exact absurd ⟨ok, by omega, hkm, hk, hbk⟩ (hlast k (by omega)))
              rw [e]
              rcases tc.heap j i oj o hj ho hbj hji with hx | hx | hx | hx | hx
              · exact absurd (mbit_listed pc.cl hjs hjl hx) hnl
              · have := bk i j hjs hilt hx; omega
              · rw [hb] at hx; cases hx.1
              · rw [hb] at hx; cases hx.1
              · rcases hx.2 with hx2 | hx2
                · rw [hrd] at hx2; cases hx2
                · obtain ⟨bj, vj, hwj, hpj, k1, k2, _⟩ := tc.step j oj hj
                  obtain ⟨d, hd⟩ := tc.rdst i o ho hrd
                  have := k2 i hx2 (by omega) o d ho hd hw
                  have hdi : dstOf ops i = some d := by simp [dstOf, ho, hd]
                  have hvj : (st (j + 1)).1 d = v := by
                    rw [← hvd d hd, tc.fdst hdi (i := j + 1) (by omega) (by omega), tc.fdst hdi (i := ops.size) hilt (Nat.le_refl _)]
                  rw [hvj] at this
                  exact T0_le this
            · have e : (st m).2 = (st i).2 := tc.between h hinv.le (fun j oj h3 h4 hj => by
                cases hbj : heapB oj.op with
                | false => rfl
                | true => exact absurd ⟨j, oj, h3, h4, hj, hbj⟩ hex)
              rw [e]; exact hop
      rw [← lop_congr hev] at hnow
      exact lop_ok hT hout.rel hfr hnow _ _ (fun ι' v' w' ho2 hvr => quiet hb v' w' ι' ho2 hvr)
/-- EVERY ORDER OF A REGION COMES TO WHAT THE TEXT'S ORDER COMES TO. -/
theorem chain_any {H H' : LH} {fr fr' : Fr} {ι : Ren} {w : World} {a : Act} (hT : TOk P T) (hB : mixC ops prs = true) (h : lchain P T N ops prs 0 (fun _ => (fr, H)) ops.toList fr H = some (fr', H')) (hrel : Rel P H ι w) (hfr : FrR H.D ι N fr a.tmps) {Q : Exit → Act → World → Prop}
    (hQ : ∀ ι' a' w', Out P H ι w H' ι' w' → FrR H'.D ι' N fr' a'.tmps → a'.defers = a.defers → Q .normal a' w') : wpAny P .any ops Q ops.size (Array.replicate ops.size false) a { w with drawn := w.drawn + 1 } := by
  obtain ⟨st, _, s0, s1, s2⟩ := trace_c ops.toList 0 _ fr H (by simp) (Nat.zero_le _) h
  have tc := mixC_spec hB (fun i o ho => s2 i (Nat.zero_le _) o ho)
  have hw : Change (fun _ => False) w { w with drawn := w.drawn + 1 } := ⟨rfl, rfl, rfl, Nat.le_refl _, fun _ _ _ => rfl⟩
  have hout0 := out_change hrel hw
  refine wpAny_inv (Inv := PC P N ops st H ι w a) (fun listed a' w' pc i hi => pc_step hT hrel tc pc hi) ?_ _ _ _ _ ?_ ?_
  · rintro listed a' w' ⟨hsz, hcl, ⟨m, ι', hinv, hfirst⟩, hd⟩ hr
    have all : ∀ n j, j < n → j < ops.size → LS listed j := by
      intro n
      induction n with
      | zero => intro j hj; omega
      | succ n ih =>
        intro j hjn hjs
        refine Classical.byContradiction (fun hno => ?_)
        have hf : listed.getD j true = false := by
          rcases not_true_false (listed := listed) (k := j) with h1 | h1
          · exact absurd h1 hno
          · exact h1
        have : j ∈ Region.ready .any ops listed := by
          refine mem_ready.2 ⟨hf, _, Array.getElem?_eq_getElem hjs, fun e he hb => ?_⟩
          have hlt := tc.back j _ (Array.getElem?_eq_getElem hjs) e he hb
          exact getD_tf (by rw [hsz]; omega) (ih e.on (by omega) (by omega))
        rw [hr] at this
        cases this
    have hmn : m = ops.size := by
      rcases hfirst.2.2 with h1 | ⟨⟨om, hom, _⟩, h1⟩
      · exact h1
      · exact absurd (all (m + 1) m (Nat.lt_succ_self _) (Array.getElem?_eq_some_iff.1 hom).1) h1
    subst hmn
    have e2 : frY ops st ops.size listed = (st ops.size).1 := by
      funext t
      unfold frY
      split
      · rw [if_neg]
        rintro ⟨j, h1, _, h3⟩
        have := dst_lt h3
        omega
      · rename_i hno
        exact (tc.fnone (fun j hj hd => hno ⟨j, hj, all (j + 1) j (Nat.lt_succ_self _) hj, hd⟩) (Nat.le_refl _)).symm
    have hout := hinv.out
    have hf := hinv.fr
    rw [s1] at hout hf
    rw [e2, s1] at hf
    exact hQ ι' a' w' hout hf hd
  · unfold undone
    refine Nat.le_trans List.countP_le_length ?_
    simp
  · have hno : ∀ j, j < ops.size → ¬ LS (Array.replicate ops.size false) j := fun j hj h => by unfold LS at h; simp [hj] at h
    have hno2 : ∀ j, HeapAt ops j → ¬ LS (Array.replicate ops.size false) j := fun j ⟨oj, hj, _⟩ => hno j (Array.getElem?_eq_some_iff.1 hj).1
    have e : frY ops st 0 (Array.replicate ops.size false) = fr := by
      funext t
      unfold frY
      rw [if_neg (fun ⟨j, hj, hl, _⟩ => hno j hj hl), s0]
    have hl : InvL P N ops st H ι w 0 ι (Array.replicate ops.size false) a { w with drawn := w.drawn + 1 } :=
      ⟨Nat.zero_le _, fun j hj => by omega, fun j oj _ hj hb hl => absurd hl (hno2 j ⟨oj, hj, hb⟩), ⟨fun _ => none, fun j _ hb hl => absurd hl (hno2 j hb), fun j k A _ _ hb _ hl => absurd hl (hno2 j hb)⟩, by rw [s0]; exact hout0, by rw [e, s0]; exact hfr⟩
    obtain ⟨m', ι2, k1, k2⟩ := adv tc hrel _ _ _ (Nat.le_refl _) hl
    exact ⟨by simp, fun j oj hj hl => absurd hl (hno j (Array.getElem?_eq_some_iff.1 hj).1), ⟨m', ι2, k1, k2⟩, rfl⟩
theorem chain_ok {H H' : LH} {fr fr' : Fr} {ι : Ren} {w : World} {a : Act} (hT : TOk P T) (hm : P.follows .mixedOrders = true) (hB : mixC ops prs = true) (h : lchain P T N ops prs 0 (fun _ => (fr, H)) ops.toList fr H = some (fr', H')) (hrel : Rel P H ι w) (hfr : FrR H.D ι N fr a.tmps) (id : Nat) {Q : Exit → Act → World → Prop}
    (hQ : ∀ ι' a' w', Out P H ι w H' ι' w' → FrR H'.D ι' N fr' a'.tmps → a'.defers = a.defers → Q .normal a' w') : (Code.region id ops true).wp P Q a w :=
  wp_region_any hm (chain_any hT hB h hrel hfr hQ)
end
end Go.Lg
/-
  A logical run of Go code: a whole function, and what a call comes to.
-/
set_option linter.unusedSimpArgs false
set_option linter.unusedVariables false
namespace Go.Lg
open Go.Tg Go.RowKit

def itemOk (L : Loud) (N : Nat) : Item → Bool
  | .code c => codeOk L N c
  | .inLoop c => codeOk L N c
  | _ => true
theorem exit_ok {L : Loud} {N id : Nat} : ∀ {k k' : List Item}, exitTo id k = some k' → (∀ x ∈ k, itemOk L N x = true) → ∀ x ∈ k', itemOk L N x = true
  | [], k', h, _ => by simp [exitTo] at h
  | y :: k, k', h, hk => by
    have ih := @exit_ok L N id k k'
    have hk2 : ∀ x ∈ k, itemOk L N x = true := fun x hx => hk x (List.mem_cons_of_mem _ hx)
    unfold exitTo at h
    split at h
    · rename_i e
      injection e with e1 e2
      subst e2
      split at h
      · injection h with h; subst h; exact hk2
      · exact ih h hk2
    · rename_i e
      injection e with e1 e2
      subst e2
      exact ih h hk2
    · rename_i e; cases e

section
variable {P : Program} {L : Loud} {T : Callee} {H H' : LH} {ι : Ren} {a : Act} {w : World} {v v' : Value} {fr fr' : Fr} {fn : Func}
theorem result_ok (hrel : Rel P H ι w) {N : Nat} (hfr : FrR H.D ι N fr a.tmps) {r : ResultVar} (h : lresult P fr H r = some v) :
    ∃ v', (match r with | .tmp t => pure (a.tmps.getD t undef) | .cell x t => do loadVar t (← asAddr (a.tmps.getD x undef)) : Sem Value).run P w = .ok v' w ∧ VR H.D ι v v' := by
  cases r with
  | tmp t =>
    simp only [lresult, Option.some.injEq] at h
    subst h
    exact ⟨_, rfl, hfr.2 t⟩
  | cell x t =>
    simp only [lresult] at h
    split at h
    · rename_i l off e
      have h1 := hfr.2 x
      rw [e] at h1
      obtain ⟨_, h2⟩ := vr_ptr h1
      obtain ⟨v', hr, hv⟩ := load_sound hrel h
      refine ⟨v', ?_, hv⟩
      show (do loadVar t (← asAddr (a.tmps.getD x undef)) : Sem Value).run P w = _
      rw [h2]
      simp only [Sem.run_bind, asAddr, Sem.run_pure, Result.andThen_ok, hr w rfl]
    · cases h
theorem results_list (hrel : Rel P H ι w) {N : Nat} (hfr : FrR H.D ι N fr a.tmps) (f : ResultVar → Sem Value) (hf1 : ∀ t, f (.tmp t) = pure (a.tmps.getD t undef)) (hf2 : ∀ x t, f (.cell x t) = do loadVar t (← asAddr (a.tmps.getD x undef))) : ∀ (rs : List ResultVar) (vs : List Value), rs.mapM (lresult P fr H) = some vs →
    ∃ us : List Value, (rs.mapM f).run P w = .ok us w ∧ vs.length = us.length ∧
      ∀ (i : Nat) (x y : Value), vs[i]? = some x → us[i]? = some y → VR H.D ι x y
  | [], vs, h => by
    simp only [List.mapM_nil, Option.pure_def, Option.some.injEq] at h
    subst h
    exact ⟨[], rfl, rfl, fun i x y hx => by simp at hx⟩
  | r :: rs, vs, h => by
    simp only [List.mapM_cons, Option.bind_eq_bind, Option.pure_def] at h
    cases h1 : lresult P fr H r with
    | none => simp [h1] at h
    | some u =>
      simp only [h1, Option.bind_some] at h
      cases h2 : rs.mapM (lresult P fr H) with
      | none => simp [h2] at h
      | some us =>
        simp only [h2, Option.bind_some, Option.some.injEq] at h
        subst h
        obtain ⟨u', hr, hv⟩ := result_ok hrel hfr h1
        obtain ⟨us', hrs, hl, hvs⟩ := results_list hrel hfr f hf1 hf2 rs us h2
        have hr : (f r).run P w = .ok u' w := by cases r <;> simpa only [hf1, hf2] using hr
        refine ⟨u' :: us', ?_, by simp [hl], fun i x y hx hy => ?_⟩
        · rw [List.mapM_cons, Sem.run_bind, hr]
          simp only [Result.andThen_ok, Sem.run_bind, hrs, Sem.run_pure]
        · cases i with
          | zero => simp at hx hy; subst hx hy; exact hv
          | succ i => exact hvs i x y (by simpa using hx) (by simpa using hy)
theorem results_ok (hrel : Rel P H ι w) {N : Nat} (hfr : FrR H.D ι N fr a.tmps) (h : lresults P fn fr H = some v) : ∃ v', (results fn a.tmps).run P w = .ok v' w ∧ VR H.D ι v v' := by
  unfold lresults at h
  cases hm : fn.results.toList.mapM (lresult P fr H) with
  | none => rw [hm] at h; cases h
  | some vs =>
    have key := fun f hf1 hf2 => results_list hrel hfr f hf1 hf2 fn.results.toList vs hm
    have hex : ∃ us : List Value, (results fn a.tmps).run P w = .ok (if h : us.toArray.size = 1 then us.toArray[0] else .tuple us.toArray) w ∧ vs.length = us.length ∧ ∀ (i : Nat) (x y : Value), vs[i]? = some x → us[i]? = some y → VR H.D ι x y := by
      unfold results
      rw [Array.mapM_eq_mapM_toList]
      simp only [Sem.run_bind, map_eq_pure_bind]
      generalize hF : (fun (x : ResultVar) => _) = F
      obtain ⟨us, hr, hl, hv⟩ := key F (fun t => by rw [← hF]) (fun x t => by rw [← hF])
      refine ⟨us, ?_, hl, hv⟩
      rw [hr]
      simp only [Result.andThen_ok, Sem.run_pure]
    obtain ⟨us, hrun, hl, hv⟩ := hex
    rw [hm] at h
    match vs, us, hl, h, hv, hrun with
    | [x], [y], _, h, hv, hrun =>
      simp only [Option.some.injEq] at h
      subst h
      exact ⟨y, hrun, hv 0 x y rfl rfl⟩
    | [], [], _, h, hv, hrun =>
      simp only [Option.some.injEq] at h
      subst h
      exact ⟨_, hrun, .flat _ rfl⟩
    | x :: x2 :: xs, y :: y2 :: ys, hl, h, hv, hrun =>
      simp only [Option.some.injEq] at h
      subst h
      refine ⟨_, hrun, ?_⟩
      rw [dif_neg (by simp)]
      exact .tuple _ _ (by simpa using hl) (fun i p q hp hq => hv i p q (by simpa using hp) (by simpa using hq))

theorem run_ok (hT : TOk P T) (hm : P.follows .mixedOrders = true) : ∀ (n : Nat) (todo : List Item) (fr : Fr) (H : LH) (ι : Ren) (a : Act) (w : World), run P L T fn n todo fr H = some (v, H') → (∀ x ∈ todo, itemOk L fn.ntmps x = true) →
    Rel P H ι w → FrR H.D ι fn.ntmps fr a.tmps → a.defers = [] → ∀ (b : Frame) (cs : List Frame), ∃ (a' : Act) (todo' : List Item) (w' : World) (ι' : Ren) (v' : Value),
      Steps P (lone (b.at a todo) cs w) (lone { b.at a' todo' with mode := .returning } cs w') ∧ a'.defers = [] ∧ (results fn a'.tmps).run P w' = .ok v' w' ∧ Out P H ι w H' ι' w' ∧ VR H'.D ι' v v' := by
  intro n
  induction n with
  | zero => intro todo fr H ι a w h; simp [run] at h
  | succ n ih =>
    intro todo fr H ι a w h hit hrel hfr hd b cs
    have fin : ∀ k, (lresults P fn fr H).map (fun v => (v, H)) = some (v, H') → Steps P (lone (b.at a todo) cs w) (lone { b.at a k with mode := .returning } cs w) → ∃ (a' : Act) (todo' : List Item) (w' : World) (ι' : Ren) (v' : Value),
        Steps P (lone (b.at a todo) cs w) (lone { b.at a' todo' with mode := .returning } cs w') ∧ a'.defers = [] ∧ (results fn a'.tmps).run P w' = .ok v' w' ∧ Out P H ι w H' ι' w' ∧ VR H'.D ι' v v' := by
      intro k hk hs
      simp only [Option.map_eq_some_iff, Prod.mk.injEq] at hk
      obtain ⟨u, hu, rfl, rfl⟩ := hk
      obtain ⟨v', hr, hv⟩ := results_ok hrel hfr hu
      exact ⟨a, k, w, ι, v', hs, hd, hr, Out.refl hrel, hv⟩
    have go : ∀ todo1, run P L T fn n todo1 fr H = some (v, H') → (∀ x ∈ todo1, itemOk L fn.ntmps x = true) → step P (lone (b.at a todo) cs w) = .next (lone (b.at a todo1) cs w) → ∃ (a' : Act) (todo' : List Item) (w' : World) (ι' : Ren) (v' : Value),
        Steps P (lone (b.at a todo) cs w) (lone { b.at a' todo' with mode := .returning } cs w') ∧ a'.defers = [] ∧ (results fn a'.tmps).run P w' = .ok v' w' ∧ Out P H ι w H' ι' w' ∧ VR H'.D ι' v v' := by
      intro todo1 h1 hi1 hs
      obtain ⟨a', t', w', ι', v', g1, g2⟩ := ih todo1 fr H ι a w h1 hi1 hrel hfr hd b cs
      exact ⟨a', t', w', ι', v', .head hs g1, g2⟩
    cases todo with
    | nil => exact fin [] (by simpa only [run] using h) (.one step_end)
    | cons it k =>
      have hk : ∀ x ∈ k, itemOk L fn.ntmps x = true := fun x hx => hit x (List.mem_cons_of_mem _ hx)
      have hx := hit it (List.mem_cons_self ..)
      cases it with
      | inBlock id => exact go k (by simpa only [run] using h) hk step_inBlock
      | inLoop c => exact go (.code c :: .inLoop c :: k) (by simpa only [run] using h) (fun z hz => by
          rcases List.mem_cons.1 hz with rfl | hz
          · exact hx
          · rcases List.mem_cons.1 hz with rfl | hz
            · exact hx
            · exact hk z hz) step_inLoop
      | code c =>
        cases c with
        | skip => exact go k (by simpa only [run] using h) hk step_skip
        | label l => exact go k (by simpa only [run] using h) hk step_label
        | seq x y =>
          simp only [itemOk, codeOk, Bool.and_eq_true] at hx
          exact go (.code x :: .code y :: k) (by simpa only [run] using h) (fun z hz => by
            rcases List.mem_cons.1 hz with rfl | hz
            · exact hx.1
            · rcases List.mem_cons.1 hz with rfl | hz
              · exact hx.2
              · exact hk z hz) step_seq
        | block id c => exact go (.code c :: .inBlock id :: k) (by simpa only [run] using h) (fun z hz => by
            rcases List.mem_cons.1 hz with rfl | hz
            · exact hx
            · rcases List.mem_cons.1 hz with rfl | hz
              · rfl
              · exact hk z hz) step_block
        | loop c => exact go (.code c :: .inLoop c :: k) (by simpa only [run] using h) (fun z hz => by
            rcases List.mem_cons.1 hz with rfl | hz
            · exact hx
            · rcases List.mem_cons.1 hz with rfl | hz
              · exact hx
              · exact hk z hz) step_loop
        | ret => exact fin (.code .ret :: k) (by simpa only [run] using h) (.one step_ret)
        | exit id =>
          simp only [run] at h
          cases hx2 : exitTo id k with
          | none => simp [hx2] at h
          | some k' =>
            simp only [hx2] at h
            exact go k' h (exit_ok hx2 hk) (step_exit hx2)
        | cond c x y =>
          simp only [itemOk, codeOk, Bool.and_eq_true] at hx
          simp only [run] at h
          have hc := hfr.ev c
          cases he : ev fr c with
          | bool t =>
            rw [he] at hc
            have hc' := vr_bool hc
            simp only [he] at h
            refine go (.code (if t then x else y) :: k) ?_ (fun z hz => ?_) (step_cond hc')
            · cases t <;> simpa using h
            · rcases List.mem_cons.1 hz with rfl | hz
              · cases t
                · exact hx.2
                · exact hx.1
              · exact hk z hz
          | _ => simp [he] at h
        | region id ops draw =>
          have reg : ∀ H1 fr1, run P L T fn n k fr1 H1 = some (v, H') → (Code.region id ops draw).wp P (fun e a' w' => e = .normal ∧ ∃ ι', Out P H ι w H1 ι' w' ∧ FrR H1.D ι' fn.ntmps fr1 a'.tmps ∧ a'.defers = a.defers) a w → ∃ (a' : Act) (todo' : List Item) (w' : World) (ι' : Ren) (v' : Value),
              Steps P (lone (b.at a (.code (.region id ops draw) :: k)) cs w) (lone { b.at a' todo' with mode := .returning } cs w') ∧ a'.defers = [] ∧ (results fn a'.tmps).run P w' = .ok v' w' ∧ Out P H ι w H' ι' w' ∧ VR H'.D ι' v v' := by
            intro H1 fr1 h1 hwp
            obtain ⟨e, a1, w1, ⟨rfl, ι1, ho1, hf1, hd1⟩, harr⟩ := hwp b k cs
            obtain ⟨a', t', w', ι', v', g1, g2, g3, g4, g5⟩ := ih k fr1 H1 ι1 a1 w1 h1 hk ho1.rel hf1 (by rw [hd1, hd]) b cs
            exact ⟨a', t', w', ι', v', Steps.trans harr g1, g2, g3, ho1.trans g4, g5⟩
          cases draw with
          | false =>
            simp only [run] at h
            cases hl : lops P T fn.ntmps ops ops.toList fr H with
            | none => simp [hl] at h
            | some r =>
              obtain ⟨fr1, H1⟩ := r
              simp only [hl] at h
              exact reg H1 fr1 h (wp_region_list (lops_ok hT ops.toList fr H ι a w hl hrel hfr _ (fun ι' a' w' ho hf hdd => ⟨rfl, ι', ho, hf, hdd⟩)))
          | true =>
            simp only [run] at h
            cases hl : ldraw P L T fn.ntmps id ops fr H with
            | none => simp [hl] at h
            | some r =>
              obtain ⟨fr1, H1⟩ := r
              simp only [hl] at h
              have hx' : drawOk L fn.ntmps id ops = true := hx
              unfold ldraw at hl
              unfold drawOk at hx'
              cases hc : L.ch fn.ntmps id ops.size with
              | none =>
                rw [hc] at hl hx'
                exact reg H1 fr1 h (mix_ok hT hm hx' hl hrel hfr id (fun ι' a' w' ho hf hdd => ⟨rfl, ι', ho, hf, hdd⟩))
              | some prs =>
                rw [hc] at hl hx'
                exact reg H1 fr1 h (chain_ok hT hm hx' hl hrel hfr id (fun ι' a' w' ho hf hdd => ⟨rfl, ι', ho, hf, hdd⟩))
        | _ => simp [run] at h
      | _ => simp [run] at h
end
end Go.Lg
/-
  A logical run of Go code: what a call comes to, at whatever depth.
-/
set_option linter.unusedSimpArgs false
set_option linter.unusedVariables false
namespace Go.Lg
open Go.Tg Go.RowKit

abbrev Ext := Env
def ExtOk (P : Program) (ext : Ext) : Prop := ∀ f s, ext f = some s → ∀ args H v H', s args H = some (v, H') → Ran P f args H v H'

section
variable {P : Program} {ext : Ext} {H H' : LH} {ι ι' : Ren} {w w' : World} {v v' : Value}
theorem out_trunc (hrel : Rel P H ι w) (hout : Out P H ι w H' ι' w') (hle : H.le H') : Out P H ι w H ι w' := by
  refine ⟨⟨hrel.dom, hrel.hol, fun l b hb => ?_, hrel.sep, pin_step hrel hout.chg (fun _ hk => .inl hk) rfl rfl⟩, Nat.le_refl _, fun _ h => h, fun _ _ => rfl, hout.chg, fun k hk => .inl hk, fun k hk => .inl hk, rfl⟩
  have hl := hrel.live hb
  obtain ⟨arr, t, f, hw, h1, h2, h3⟩ := hout.rel.blk l b (by rw [hle.2 l hl.1]; exact hb)
  rw [hout.same l hl] at hw h1 h2 h3
  obtain ⟨arr0, t0, f0, hw0, g1, g2, g3⟩ := hrel.blk l b hb
  refine ⟨arr, t, f, hw, h1, fun i x hx => ?_, h3⟩
  obtain ⟨y, hy, hv⟩ := h2 i x hx
  obtain ⟨y0, hy0, hv0⟩ := g2 i x hx
  exact ⟨y, hy, hv.back hv0 hout.same⟩
theorem trunc_ok (hrel : Rel P H ι w) (hout : Out P H ι w H' ι' w') (hv : VR H'.D ι' v v') : ∃ ι2 v2, v' = v2 ∧ Out P H ι w (trunc H (v, H')).2 ι2 w' ∧ VR (trunc H (v, H')).2.D ι2 (trunc H (v, H')).1 v2 := by
  unfold trunc
  split
  · rename_i h
    refine ⟨ι, v', rfl, out_trunc hrel hout h.2, ?_⟩
    rw [flat_eq hv h.1]
    exact .flat _ h.1
  · exact ⟨ι', v', rfl, hout, hv⟩
theorem enter_rel {N : Nat} {args : List Value} {args' : Array Value} (h1 : args.length = args'.size) (h2 : ∀ (i : Nat) (x y : Value), args[i]? = some x → args'[i]? = some y → VR H.D ι x y) (hN : args.length ≤ N) :
    FrR H.D ι N (enter args) (args' ++ Array.replicate (N - args'.size) undef) := by
  refine ⟨by simp; omega, fun t => ?_⟩
  unfold enter
  rw [Array.getD_eq_getD_getElem?, Array.getElem?_append]
  by_cases ht : t < args'.size
  · rw [if_pos ht]
    have e1 : args[t]? = some (args[t]'(by omega)) := List.getElem?_eq_getElem (by omega)
    have e2 := Array.getElem?_eq_getElem ht
    rw [List.getD_eq_getElem?_getD, e1, e2]
    exact h2 t _ _ e1 e2
  · rw [if_neg ht, List.getD_eq_getElem?_getD, List.getElem?_eq_none (by omega), Array.getElem?_replicate]
    split <;> exact .flat _ rfl
theorem lcall_ok (hext : ExtOk P ext) (hm : P.follows .mixedOrders = true) : ∀ n, TOk P (lcall P ext n) := by
  intro n
  induction n with
  | zero => intro f args H v H' h; simp [lcall] at h
  | succ n ih =>
    intro f args H v H' h
    unfold lcall at h
    split at h
    · rename_i s hs
      exact hext f s hs args H v H' h
    · split at h
      · rename_i fn hfn
        split at h
        · rename_i c hb
          split at h
          · rename_i hN
            obtain ⟨r, hr, e⟩ := Option.map_eq_some_iff.1 h
            obtain ⟨u, H1⟩ := r
            refine .inl ⟨⟨fn, hfn, by rw [hb]; rfl, hN.2.1⟩, ?_⟩
            intro ι w args' hrel hl hargs cs
            let b : Frame := { (default : Frame) with fn := f, kind := .normal }
            have henter : Frame.enter P f args' .normal = b.at { tmps := args' ++ Array.replicate (fn.ntmps - args'.size) undef, defers := [] } [.code c] := by
              simp [Frame.enter, Frame.at, hfn, hb, b]
            obtain ⟨a', t', w', ι', v', g1, g2, g3, g4, g5⟩ := run_ok ih hm n [.code c] (enter args) H ι { tmps := args' ++ Array.replicate (fn.ntmps - args'.size) undef, defers := [] } w hr
              (fun x hx => by rcases List.mem_cons.1 hx with rfl | hx; exact hN.2.2; cases hx) hrel (enter_rel hl hargs hN.1) rfl b cs
            rw [← henter] at g1
            obtain ⟨ι2, v2, hv2, k1, k2⟩ := trunc_ok hrel g4 g5
            rw [e] at k1 k2
            exact ⟨.returned v', w', _, ⟨ι2, v', rfl, k1, by rw [hv2]; exact k2⟩, g1, rfl, rfl, g2, rfl, fn, hfn, g3⟩
          · cases h
        · cases h
      · cases h
end

/-! ### more depth changes nothing -/
def Tle (T T' : Callee) : Prop := ∀ f args H r, T f args H = some r → T' f args H = some r
section
variable {P : Program} {T T' : Callee} {fr : Fr} {H : LH} {fn : Func} {L : Loud}
theorem lcallee_mono (h : Tle T T') {f : Value} {args : List Value} {r : Value × LH} (hr : lcallee P T f args H = some r) : lcallee P T' f args H = some r := by
  unfold lcallee at hr ⊢
  split at hr
  · split at hr
    · rw [if_pos ‹_›]; exact h _ _ _ _ hr
    · cases hr
  · cases hr
theorem lop_mono (h : Tle T T') {o : Oper} {r : Value × LH} (hr : lop P T o fr H = some r) : lop P T' o fr H = some r := by
  obtain ⟨dst, op, ty, pos, after, guard⟩ := o
  cases op with
  | call c =>
    simp only [lop] at hr ⊢
    split at hr
    · exact lcallee_mono h hr
    · exact hr
    · cases hr
  | makeFunc f _ _ => cases f <;> exact hr
  | slice _ _ _ _ mx => cases mx <;> exact hr
  | _ => exact hr
theorem lquiet_mono (h : Tle T T') {o : Oper} {r : Value} (hr : lquiet P T o fr H = some r) : lquiet P T' o fr H = some r := by
  obtain ⟨dst, op, ty, pos, after, guard⟩ := o
  cases op with
  | call c =>
    simp only [lquiet] at hr ⊢
    split at hr
    · split at hr
      · rename_i hc
        rw [lcallee_mono h hc]
        exact hr
      · cases hr
    · exact hr
    · exact hr
    · cases hr
  | makeFunc f _ _ => cases f <;> exact hr
  | slice _ _ _ _ mx => cases mx <;> exact hr
  | _ => exact hr
theorem lops_mono (h : Tle T T') {N : Nat} {all : Array Oper} : ∀ {os : List Oper} {fr : Fr} {H : LH} {r : Fr × LH}, lops P T N all os fr H = some r → lops P T' N all os fr H = some r
  | [], fr, H, r, hr => hr
  | o :: os, fr, H, r, hr => by
    unfold lops at hr ⊢
    split at hr
    · split at hr
      · rename_i ho
        rw [lop_mono h ho]
        simp only
        split at hr
        · exact lops_mono h hr
        · cases hr
      · cases hr
    · split at hr
      · exact lops_mono h hr
      · cases hr
    · cases hr
theorem lmixop_mono (h : Tle T T') {o : Oper} {H0 : LH} {r : Value × LH} (hr : lmixop P T o fr H0 H = some r) : lmixop P T' o fr H0 H = some r := by
  have key : lop P T o fr H = some r → lop P T' o fr H = some r := lop_mono h
  obtain ⟨dst, op, ty, pos, after, guard⟩ := o
  cases op with
  | call c =>
    simp only [lmixop] at hr ⊢
    cases hc : c.callee with
    | value f =>
      simp only [hc] at hr ⊢
      split at hr
      · rw [if_pos ‹_›]
        obtain ⟨u, hu, e⟩ := Option.map_eq_some_iff.1 hr
        exact Option.map_eq_some_iff.2 ⟨u, lquiet_mono h hu, e⟩
      · cases hr
    | builtin b => simp only [hc] at hr ⊢; cases b <;> exact hr
    | invoke x y => simp [hc] at hr
  | store _ _ _ => simp [lmixop] at hr
  | makeSlice _ _ _ => simp [lmixop] at hr
  | _ => simp only [lmixop] at hr ⊢; exact key hr
theorem lmix_mono {L : Loud} (h : Tle T T') {N : Nat} {all : Array Oper} {H0 : LH} : ∀ {os : List Oper} {fr : Fr} {H : LH} {r : Fr × LH}, lmix P L T N all H0 os fr H = some r → lmix P L T' N all H0 os fr H = some r
  | [], fr, H, r, hr => hr
  | o :: os, fr, H, r, hr => by
    unfold lmix at hr ⊢
    split at hr
    · rename_i hl
      rw [if_pos hl]
      exact lops_mono h hr
    · rename_i hl
      rw [if_neg hl]
      split at hr
      · cases hr
      · rename_i d hd
        split at hr
        · rename_i hdN
          split at hr
          · rename_i hw
            split at hr
            · rename_i v H1 hop
              simp only [if_pos hdN, lmixop_mono h hop]
              exact lmix_mono h hr
            · cases hr
          · rename_i hw
            simp only [if_pos hdN]
            exact lmix_mono h hr
          · cases hr
        · cases hr
theorem lchain_mono (h : Tle T T') {N : Nat} {all : Array Oper} {prs : List (Nat × Nat)} : ∀ {os : List Oper} {k : Nat} {old : Nat → Fr × LH} {fr : Fr} {H : LH} {r : Fr × LH}, lchain P T N all prs k old os fr H = some r → lchain P T' N all prs k old os fr H = some r
  | [], k, old, fr, H, r, hr => hr
  | o :: os, k, old, fr, H, r, hr => by
    unfold lchain at hr ⊢
    split at hr
    · split at hr
      · rename_i v H1 ho
        rw [lop_mono h ho]
        simp only
        split at hr
        · split at hr
          · rename_i hc
            rw [if_pos hc]
            exact lchain_mono h hr
          · cases hr
        · cases hr
      · cases hr
    · split at hr
      · split at hr
        · rename_i hc
          simp only [if_pos hc]
          exact lchain_mono h hr
        · cases hr
      · cases hr
    · cases hr
theorem ldraw_mono {L : Loud} (h : Tle T T') {N id : Nat} {ops : Array Oper} {fr : Fr} {H : LH} {r : Fr × LH} (hr : ldraw P L T N id ops fr H = some r) : ldraw P L T' N id ops fr H = some r := by
  unfold ldraw at hr ⊢
  cases hc : L.ch N id ops.size with
  | none => rw [hc] at hr; exact lmix_mono h hr
  | some prs => rw [hc] at hr; exact lchain_mono h hr
theorem run_mono (h : Tle T T') : ∀ {n n' : Nat} {todo : List Item} {fr : Fr} {H : LH} {r : Value × LH}, n ≤ n' → run P L T fn n todo fr H = some r → run P L T' fn n' todo fr H = some r := by
  intro n
  induction n with
  | zero => intro n' todo fr H r _ hr; simp [run] at hr
  | succ n ih =>
    intro n' todo fr H r hn hr
    obtain ⟨m, rfl⟩ : ∃ m, n' = m + 1 := ⟨n' - 1, by omega⟩
    have hnm : n ≤ m := by omega
    cases todo with
    | nil => simpa only [run] using hr
    | cons it k =>
      cases it with
      | inBlock id => simp only [run] at hr ⊢; exact ih hnm hr
      | inLoop c => simp only [run] at hr ⊢; exact ih hnm hr
      | code c =>
        cases c with
        | skip => simp only [run] at hr ⊢; exact ih hnm hr
        | label l => simp only [run] at hr ⊢; exact ih hnm hr
        | seq x y => simp only [run] at hr ⊢; exact ih hnm hr
        | block id c => simp only [run] at hr ⊢; exact ih hnm hr
        | loop c => simp only [run] at hr ⊢; exact ih hnm hr
        | ret => simpa only [run] using hr
        | exit id =>
          simp only [run] at hr ⊢
          split at hr
          · exact ih hnm hr
          · cases hr
        | cond c x y =>
          simp only [run] at hr ⊢
          split at hr
          · split at hr
            · rw [if_pos ‹_›]; exact ih hnm hr
            · rw [if_neg ‹_›]; exact ih hnm hr
          · cases hr
        | region id ops draw =>
          cases draw with
          | false =>
            simp only [run] at hr ⊢
            split at hr
            · rename_i hl
              rw [lops_mono h hl]
              exact ih hnm hr
            · cases hr
          | true =>
            simp only [run] at hr ⊢
            split at hr
            · rename_i hl
              rw [ldraw_mono h hl]
              exact ih hnm hr
            · cases hr
        | _ => simp [run] at hr
      | _ => simp [run] at hr
end
section
variable {P : Program} {ext : Ext}
theorem lcall_succ : ∀ n, Tle (lcall P ext n) (lcall P ext (n + 1)) := by
  intro n
  induction n with
  | zero => intro f args H r h; simp [lcall] at h
  | succ n ih =>
    intro f args H r h
    unfold lcall at h ⊢
    split at h
    · exact h
    · split at h
      · split at h
        · split at h
          · rw [if_pos ‹_›]
            obtain ⟨x, hx, e⟩ := Option.map_eq_some_iff.1 h
            exact Option.map_eq_some_iff.2 ⟨x, run_mono ih (Nat.le_succ n) hx, e⟩
          · cases h
        · cases h
      · cases h
theorem lcall_mono {n m : Nat} (h : n ≤ m) : Tle (lcall P ext n) (lcall P ext m) := by
  induction h with
  | refl => exact fun _ _ _ _ h => h
  | step _ ih => exact fun f a H r hr => lcall_succ _ f a H r (ih f a H r hr)

open Classical in
/-- WHAT A CALL COMES TO. -/
noncomputable def LC (P : Program) (ext : Ext) : Callee := fun f args H => if h : ∃ r n, lcall P ext n f args H = some r then some (Classical.choose h) else none
theorem LC_spec {f : FuncId} {args : List Value} {H : LH} {r : Value × LH} : LC P ext f args H = some r ↔ ∃ n, lcall P ext n f args H = some r := by
  unfold LC
  constructor
  · intro h
    split at h
    · rename_i hex
      injection h with h
      rw [← h]; exact Classical.choose_spec hex
    · cases h
  · rintro ⟨n, hn⟩
    have hex : ∃ r n, lcall P ext n f args H = some r := ⟨r, n, hn⟩
    rw [dif_pos hex]
    obtain ⟨m, hm⟩ := Classical.choose_spec hex
    have h1 := lcall_mono (Nat.le_max_left n m) _ _ _ _ hn
    have h2 := lcall_mono (Nat.le_max_right n m) _ _ _ _ hm
    rw [h1] at h2
    exact h2.symm
theorem LC_ok (hext : ExtOk P ext) (hm : P.follows .mixedOrders = true) : TOk P (LC P ext) := by
  intro f args H v H' h
  obtain ⟨n, hn⟩ := LC_spec.1 h
  exact lcall_ok hext hm n f args H v H' hn

/-- finitely many calls want finite depth -/
theorem lop_fin {o : Oper} {fr : Fr} {H : LH} {r : Value × LH} (hr : lop P (LC P ext) o fr H = some r) : ∃ k, lop P (lcall P ext k) o fr H = some r := by
  obtain ⟨dst, op, ty, pos, after, guard⟩ := o
  cases op with
  | call c =>
    simp only [lop] at hr ⊢
    cases hc : c.callee with
    | value f =>
      simp only [hc, lcallee] at hr ⊢
      split at hr
      · split at hr
        · rename_i h0
          obtain ⟨k, hk⟩ := LC_spec.1 hr
          exact ⟨k, by rw [if_pos h0]; exact hk⟩
        · cases hr
      · cases hr
    | builtin b => simp only [hc] at hr ⊢; exact ⟨0, hr⟩
    | invoke x y => simp [hc] at hr
  | makeFunc f _ _ => cases f <;> exact ⟨0, hr⟩
  | slice _ _ _ _ mx => cases mx <;> exact ⟨0, hr⟩
  | _ => exact ⟨0, hr⟩
theorem lquiet_fin {o : Oper} {fr : Fr} {H : LH} {r : Value} (hr : lquiet P (LC P ext) o fr H = some r) : ∃ k, lquiet P (lcall P ext k) o fr H = some r := by
  obtain ⟨dst, op, ty, pos, after, guard⟩ := o
  cases op with
  | call c =>
    simp only [lquiet] at hr ⊢
    cases hc : c.callee with
    | value f =>
      simp only [hc, lcallee] at hr ⊢
      split at hr
      · rename_i u H1 hcal
        split at hcal
        · rename_i g first captured hf
          split at hcal
          · rename_i h0
            obtain ⟨k, hk⟩ := LC_spec.1 hcal
            refine ⟨k, ?_⟩
            rw [if_pos h0, hk]
            exact hr
          · cases hcal
        · cases hcal
      · cases hr
    | builtin b =>
      cases b <;> exact ⟨0, by simpa only [lquiet, hc] using hr⟩
    | invoke x y => simp [hc] at hr
  | makeFunc f _ _ => cases f <;> exact ⟨0, hr⟩
  | slice _ _ _ _ mx => cases mx <;> exact ⟨0, hr⟩
  | _ => exact ⟨0, hr⟩
theorem lops_fin {N : Nat} {all : Array Oper} : ∀ {os : List Oper} {fr : Fr} {H : LH} {r : Fr × LH}, lops P (LC P ext) N all os fr H = some r → ∃ k, lops P (lcall P ext k) N all os fr H = some r
  | [], fr, H, r, hr => ⟨0, hr⟩
  | o :: os, fr, H, r, hr => by
    unfold lops at hr
    split at hr
    · rename_i hw
      split at hr
      · rename_i v H1 ho
        split at hr
        · rename_i fr1 hp
          obtain ⟨k1, h1⟩ := lop_fin ho
          obtain ⟨k2, h2⟩ := lops_fin hr
          refine ⟨max k1 k2, ?_⟩
          unfold lops
          rw [hw, lop_mono (lcall_mono (Nat.le_max_left k1 k2)) h1]
          simp only [hp]
          exact lops_mono (lcall_mono (Nat.le_max_right k1 k2)) h2
        · cases hr
      · cases hr
    · rename_i hw
      split at hr
      · rename_i fr1 hp
        obtain ⟨k2, h2⟩ := lops_fin hr
        refine ⟨k2, ?_⟩
        unfold lops
        rw [hw]
        simp only [hp]
        exact h2
      · cases hr
    · cases hr
theorem lmixop_fin {o : Oper} {fr : Fr} {H0 H : LH} {r : Value × LH} (hr : lmixop P (LC P ext) o fr H0 H = some r) : ∃ k, lmixop P (lcall P ext k) o fr H0 H = some r := by
  have key : lop P (LC P ext) o fr H = some r → ∃ k, lop P (lcall P ext k) o fr H = some r := lop_fin
  obtain ⟨dst, op, ty, pos, after, guard⟩ := o
  cases op with
  | call c =>
    simp only [lmixop] at hr ⊢
    cases hc : c.callee with
    | value f =>
      simp only [hc] at hr ⊢
      split at hr
      · obtain ⟨u, hu, e⟩ := Option.map_eq_some_iff.1 hr
        obtain ⟨k, hk⟩ := lquiet_fin hu
        refine ⟨k, ?_⟩
        rw [if_pos ‹_›]
        exact Option.map_eq_some_iff.2 ⟨u, hk, e⟩
      · cases hr
    | builtin b => simp only [hc] at hr ⊢; refine ⟨0, ?_⟩; cases b <;> exact hr
    | invoke x y => simp [hc] at hr
  | store _ _ _ => simp [lmixop] at hr
  | makeSlice _ _ _ => simp [lmixop] at hr
  | _ => simp only [lmixop] at hr ⊢; exact key hr
theorem lmix_fin {L : Loud} {N : Nat} {all : Array Oper} {H0 : LH} : ∀ {os : List Oper} {fr : Fr} {H : LH} {r : Fr × LH}, lmix P L (LC P ext) N all H0 os fr H = some r → ∃ k, lmix P L (lcall P ext k) N all H0 os fr H = some r
  | [], fr, H, r, hr => ⟨0, hr⟩
  | o :: os, fr, H, r, hr => by
    unfold lmix at hr
    split at hr
    · rename_i hl
      obtain ⟨k, hk⟩ := lops_fin hr
      refine ⟨k, ?_⟩
      unfold lmix
      rw [if_pos hl]; exact hk
    · rename_i hl
      split at hr
      · cases hr
      · rename_i d hd
        split at hr
        · rename_i hdN
          split at hr
          · rename_i hw
            split at hr
            · rename_i v H1 hop
              obtain ⟨k1, h1⟩ := lmixop_fin hop
              obtain ⟨k2, h2⟩ := lmix_fin hr
              refine ⟨max k1 k2, ?_⟩
              unfold lmix
              rw [if_neg hl]
              simp only [hd, if_pos hdN, hw, lmixop_mono (lcall_mono (Nat.le_max_left k1 k2)) h1]
              exact lmix_mono (lcall_mono (Nat.le_max_right k1 k2)) h2
            · cases hr
          · rename_i hw
            obtain ⟨k2, h2⟩ := lmix_fin hr
            refine ⟨k2, ?_⟩
            unfold lmix
            rw [if_neg hl]
            simp only [hd, if_pos hdN, hw]
            exact h2
          · cases hr
        · cases hr
theorem lchain_fin {N : Nat} {all : Array Oper} {prs : List (Nat × Nat)} : ∀ {os : List Oper} {k : Nat} {old : Nat → Fr × LH} {fr : Fr} {H : LH} {r : Fr × LH}, lchain P (LC P ext) N all prs k old os fr H = some r → ∃ n, lchain P (lcall P ext n) N all prs k old os fr H = some r
  | [], k, old, fr, H, r, hr => ⟨0, hr⟩
  | o :: os, k, old, fr, H, r, hr => by
    unfold lchain at hr
    split at hr
    · rename_i hw
      split at hr
      · rename_i v H1 ho
        split at hr
        · rename_i fr1 hp
          split at hr
          · rename_i hc
            obtain ⟨k1, h1⟩ := lop_fin ho
            obtain ⟨k2, h2⟩ := lchain_fin hr
            refine ⟨max k1 k2, ?_⟩
            unfold lchain
            rw [hw, lop_mono (lcall_mono (Nat.le_max_left k1 k2)) h1]
            simp only [hp]
            rw [if_pos hc]
            exact lchain_mono (lcall_mono (Nat.le_max_right k1 k2)) h2
          · cases hr
        · cases hr
      · cases hr
    · rename_i hw
      split at hr
      · rename_i fr1 hp
        split at hr
        · rename_i hc
          obtain ⟨k2, h2⟩ := lchain_fin hr
          refine ⟨k2, ?_⟩
          unfold lchain
          rw [hw]
          simp only [hp]
          rw [if_pos hc]
          exact h2
        · cases hr
      · cases hr
    · cases hr
theorem ldraw_fin {L : Loud} {N id : Nat} {ops : Array Oper} {fr : Fr} {H : LH} {r : Fr × LH} (hr : ldraw P L (LC P ext) N id ops fr H = some r) : ∃ n, ldraw P L (lcall P ext n) N id ops fr H = some r := by
  unfold ldraw at hr ⊢
  cases hc : L.ch N id ops.size with
  | none => rw [hc] at hr; exact lmix_fin hr
  | some prs => rw [hc] at hr; exact lchain_fin hr
theorem run_fin {fn : Func} : ∀ {n : Nat} {todo : List Item} {fr : Fr} {H : LH} {r : Value × LH}, run P ext.loud (LC P ext) fn n todo fr H = some r → ∃ k, run P ext.loud (lcall P ext k) fn n todo fr H = some r := by
  intro n
  induction n with
  | zero => intro todo fr H r hr; simp [run] at hr
  | succ n ih =>
    intro todo fr H r hr
    cases todo with
    | nil => exact ⟨0, by simpa only [run] using hr⟩
    | cons it k =>
      cases it with
      | inBlock id => simp only [run] at hr ⊢; exact ih hr
      | inLoop c => simp only [run] at hr ⊢; exact ih hr
      | code c =>
        cases c with
        | skip => simp only [run] at hr ⊢; exact ih hr
        | label l => simp only [run] at hr ⊢; exact ih hr
        | seq x y => simp only [run] at hr ⊢; exact ih hr
        | block id c => simp only [run] at hr ⊢; exact ih hr
        | loop c => simp only [run] at hr ⊢; exact ih hr
        | ret => exact ⟨0, by simpa only [run] using hr⟩
        | exit id =>
          simp only [run] at hr ⊢
          cases hx : exitTo id k with
          | none => simp [hx] at hr
          | some k' => simp only [hx] at hr ⊢; exact ih hr
        | cond c x y =>
          simp only [run] at hr ⊢
          cases he : ev fr c with
          | bool t =>
            simp only [he] at hr ⊢
            cases t <;> exact ih hr
          | _ => simp [he] at hr
        | region id ops draw =>
          cases draw with
          | false =>
            simp only [run] at hr ⊢
            split at hr
            · rename_i fr1 H1 hl
              obtain ⟨k1, h1⟩ := lops_fin hl
              obtain ⟨k2, h2⟩ := ih hr
              refine ⟨max k1 k2, ?_⟩
              rw [lops_mono (lcall_mono (Nat.le_max_left k1 k2)) h1]
              exact run_mono (lcall_mono (Nat.le_max_right k1 k2)) (Nat.le_refl n) h2
            · cases hr
          | true =>
            simp only [run] at hr ⊢
            split at hr
            · rename_i fr1 H1 hl
              obtain ⟨k1, h1⟩ := ldraw_fin hl
              obtain ⟨k2, h2⟩ := ih hr
              refine ⟨max k1 k2, ?_⟩
              rw [ldraw_mono (lcall_mono (Nat.le_max_left k1 k2)) h1]
              exact run_mono (lcall_mono (Nat.le_max_right k1 k2)) (Nat.le_refl n) h2
            · cases hr
        | _ => simp [run] at hr
      | _ => simp [run] at hr
/-- A function's body runs: that is what a call of it comes to. -/
theorem LC_body {f : FuncId} {fn : Func} {c : Code} {args : List Value} {H : LH} {n : Nat} {r : Value × LH} (he : ext f = none) (hf : P.funcs[f]? = some fn) (hb : fn.body = some c) (hN : args.length ≤ fn.ntmps) (hname : fn.name ≠ "runtime.NumGoroutine") (hcd : codeOk ext.loud fn.ntmps c = true)
    (hr : run P ext.loud (LC P ext) fn n [.code c] (enter args) H = some r) : LC P ext f args H = some (trunc H r) := by
  obtain ⟨k, hk⟩ := run_fin hr
  refine LC_spec.2 ⟨max n k + 1, ?_⟩
  unfold lcall
  simp only [he, hf, hb, if_pos (And.intro hN (And.intro hname hcd))]
  rw [run_mono (lcall_mono (Nat.le_max_right n k)) (Nat.le_max_left n k) hk]
  rfl
theorem LC_ext {f : FuncId} {s : List Value → LH → Option (Value × LH)} {args : List Value} {H : LH} {r : Value × LH} (he : ext f = some s) (hr : s args H = some r) : LC P ext f args H = some r :=
  LC_spec.2 ⟨1, by unfold lcall; simp only [he]; exact hr⟩
end
end Go.Lg
/-
  A logical run of Go code: rules by which a run is reckoned.
-/
set_option linter.unusedSimpArgs false
set_option linter.unusedVariables false
namespace Go.Lg
open Go.Tg Go.RowKit

def Runs (P : Program) (E : Ext) (fn : Func) (k : List Item) (fr : Fr) (H : LH) (Q : Value × LH → Prop) : Prop := ∃ n r, run P E.loud (LC P E) fn n k fr H = some r ∧ Q r
def ROps (P : Program) (E : Ext) (fn : Func) (all : Array Oper) (os : List Oper) (k : List Item) (fr : Fr) (H : LH) (Q : Value × LH → Prop) : Prop := ∃ n r, (match lops P (LC P E) fn.ntmps all os fr H with | some (fr', H') => run P E.loud (LC P E) fn n k fr' H' | none => none) = some r ∧ Q r
def RMix (P : Program) (E : Ext) (fn : Func) (all : Array Oper) (H0 : LH) (os : List Oper) (k : List Item) (fr : Fr) (H : LH) (Q : Value × LH → Prop) : Prop := ∃ n r, (match lmix P E.loud (LC P E) fn.ntmps all H0 os fr H with | some (fr', H') => run P E.loud (LC P E) fn n k fr' H' | none => none) = some r ∧ Q r
/-- in the text's order, with what floats -/
def RCh (P : Program) (E : Ext) (fn : Func) (all : Array Oper) (prs : List (Nat × Nat)) (j : Nat) (old : Nat → Fr × LH) (os : List Oper) (k : List Item) (fr : Fr) (H : LH) (Q : Value × LH → Prop) : Prop := ∃ n r, (match lchain P (LC P E) fn.ntmps all prs j old os fr H with | some (fr', H') => run P E.loud (LC P E) fn n k fr' H' | none => none) = some r ∧ Q r
/-- a region whose order is open -/
def RDr (P : Program) (E : Ext) (fn : Func) (x : Option (List (Nat × Nat))) (l : List Oper) (k : List Item) (fr : Fr) (H : LH) (Q : Value × LH → Prop) : Prop :=
  match x with
  | none => RMix P E fn ⟨l⟩ H l k fr H Q
  | some prs => RCh P E fn ⟨l⟩ prs 0 (fun _ => (fr, H)) l k fr H Q
def oldS (old : Nat → Fr × LH) (k : Nat) (x : Fr × LH) : Nat → Fr × LH := fun j => if j = k then x else old j
/-- a read yields the same where it floats -/
def ckR (P : Program) (k : Nat) (op : Op) (fr : Fr) (old : Nat → Fr × LH) (v : Value) : List (Nat × Nat) → Prop
  | [] => True
  | (i, j) :: ps => (i = k ∧ j < k → lop P T0 ⟨none, op, 0, "", #[], none⟩ fr (old j).2 = some (v, (old j).2)) ∧ ckR P k op fr old v ps
def ckOp (P : Program) (all : Array Oper) (o : Option Oper) (x : Fr × LH) (fr' : Fr) (H' : LH) : Prop :=
  match o with
  | some o => ∀ d, o.dst = some d → lwant all x.1 o = some true → lop P T0 o x.1 H' = some (fr' d, H')
  | none => True
def ckH (P : Program) (k : Nat) (all : Array Oper) (old : Nat → Fr × LH) (fr' : Fr) (H' : LH) : List (Nat × Nat) → Prop
  | [] => True
  | (i, j) :: ps => (j = k ∧ i < k → ckOp P all all[i]? (old i) fr' H') ∧ ckH P k all old fr' H' ps
/-- an operation has yielded -/
def Step (P : Program) (E : Ext) (fn : Func) (x : Option (Value × LH)) (d : Nat) (all : Array Oper) (os : List Oper) (k : List Item) (fr : Fr) (Q : Value × LH → Prop) : Prop :=
  match x with
  | some (v, H) => d < fn.ntmps ∧ ROps P E fn all os k (upd fr d v) H Q
  | none => False
def MStep (P : Program) (E : Ext) (fn : Func) (x : Option (Value × LH)) (d : Nat) (all : Array Oper) (H0 : LH) (os : List Oper) (k : List Item) (fr : Fr) (Q : Value × LH → Prop) : Prop :=
  match x with
  | some (v, H) => d < fn.ntmps ∧ RMix P E fn all H0 os k (upd fr d v) H Q
  | none => False
/-- a choice between two ways -/
def RSel (b : Bool) (A B : Prop) : Prop := match b with | true => A | false => B
/-- the results -/
def RRes (x : Option Value) (H : LH) (Q : Value × LH → Prop) : Prop := match x with | some v => Q (v, H) | none => False
def lopx (P : Program) (T : Callee) (op : Op) (fr : Fr) (H : LH) : Option (Value × LH) := lop P T ⟨none, op, 0, "", #[], none⟩ fr H
def lmixx (P : Program) (T : Callee) (op : Op) (fr : Fr) (H0 H : LH) : Option (Value × LH) := lmixop P T ⟨none, op, 0, "", #[], none⟩ fr H0 H
/-- is a guarded operation carried out? -/
def guardx (all : Array Oper) (fr : Fr) (j : Nat) (want : Bool) : Option Bool :=
  match (all[j]?).bind (·.dst) with
  | none => some false
  | some d => match fr d with
    | .bool b => some (b == want)
    | v => if flatB v then some false else none
def GStep (P : Program) (E : Ext) (fn : Func) (g : Option Bool) (op : Op) (d : Nat) (all : Array Oper) (os : List Oper) (k : List Item) (fr : Fr) (H : LH) (Q : Value × LH → Prop) : Prop :=
  match g with
  | some true => Step P E fn (lopx P (LC P E) op fr H) d all os k fr Q
  | some false => d < fn.ntmps ∧ ROps P E fn all os k (upd fr d undef) H Q
  | none => False
def GMStep (P : Program) (E : Ext) (fn : Func) (g : Option Bool) (op : Op) (d : Nat) (all : Array Oper) (H0 : LH) (os : List Oper) (k : List Item) (fr : Fr) (H : LH) (Q : Value × LH → Prop) : Prop :=
  match g with
  | some true => MStep P E fn (lmixx P (LC P E) op fr H0 H) d all H0 os k fr Q
  | some false => d < fn.ntmps ∧ RMix P E fn all H0 os k (upd fr d undef) H Q
  | none => False

section
variable {P : Program} {E : Ext} {fn : Func} {k : List Item} {fr : Fr} {H H' H0 : LH} {Q : Value × LH → Prop} {all : Array Oper} {os : List Oper} {ty : TypeId} {pos : String} {after : Array Edge} {d : Nat} {op : Op}
theorem lop_x (dst : Option Tmp) (g : Option (Nat × Bool)) (T : Callee) : lop P T ⟨dst, op, ty, pos, after, g⟩ fr H = lopx P T op fr H := rfl
theorem lmixop_x (dst : Option Tmp) (g : Option (Nat × Bool)) (T : Callee) : lmixop P T ⟨dst, op, ty, pos, after, g⟩ fr H0 H = lmixx P T op fr H0 H := by
  cases op <;> rfl
theorem ex_succ {p : Nat → Prop} (h0 : ¬ p 0) : (∃ n, p n) ↔ ∃ n, p (n + 1) := ⟨fun ⟨n, h⟩ => by cases n with | zero => exact absurd h h0 | succ n => exact ⟨n, h⟩, fun ⟨n, h⟩ => ⟨_, h⟩⟩
theorem run0 {L : Loud} {T : Callee} : run P L T fn 0 k fr H = none := rfl
theorem runs_nil : Runs P E fn [] fr H Q ↔ RRes (lresults P fn fr H) H Q := by
  unfold Runs; rw [ex_succ (by simp [run])]; simp only [run]; unfold RRes; cases lresults P fn fr H <;> simp
theorem runs_skip : Runs P E fn (.code .skip :: k) fr H Q ↔ Runs P E fn k fr H Q := by
  unfold Runs; rw [ex_succ (by simp [run])]; simp only [run]
theorem runs_label {l : Nat} : Runs P E fn (.code (.label l) :: k) fr H Q ↔ Runs P E fn k fr H Q := by
  unfold Runs; rw [ex_succ (by simp [run])]; simp only [run]
theorem runs_seq {x y : Code} : Runs P E fn (.code (.seq x y) :: k) fr H Q ↔ Runs P E fn (.code x :: .code y :: k) fr H Q := by
  unfold Runs; rw [ex_succ (by simp [run])]; simp only [run]
theorem runs_block {id : Nat} {x : Code} : Runs P E fn (.code (.block id x) :: k) fr H Q ↔ Runs P E fn (.code x :: .inBlock id :: k) fr H Q := by
  unfold Runs; rw [ex_succ (by simp [run])]; simp only [run]
theorem runs_inBlock {id : Nat} : Runs P E fn (.inBlock id :: k) fr H Q ↔ Runs P E fn k fr H Q := by
  unfold Runs; rw [ex_succ (by simp [run])]; simp only [run]
theorem runs_loop {x : Code} : Runs P E fn (.code (.loop x) :: k) fr H Q ↔ Runs P E fn (.inLoop x :: k) fr H Q := by
  unfold Runs; rw [ex_succ (by simp [run])]; rw [ex_succ (p := fun n => ∃ r, run P E.loud (LC P E) fn n (.inLoop x :: k) fr H = some r ∧ Q r) (by simp [run])]; simp only [run]
theorem runs_inLoop {x : Code} : Runs P E fn (.inLoop x :: k) fr H Q ↔ Runs P E fn (.code x :: .inLoop x :: k) fr H Q := by
  unfold Runs; rw [ex_succ (by simp [run])]; simp only [run]
theorem runs_ret : Runs P E fn (.code .ret :: k) fr H Q ↔ RRes (lresults P fn fr H) H Q := by
  unfold Runs; rw [ex_succ (by simp [run])]; simp only [run]; unfold RRes; cases lresults P fn fr H <;> simp
theorem runs_exit {id : Nat} : Runs P E fn (.code (.exit id) :: k) fr H Q ↔ match exitTo id k with | some k' => Runs P E fn k' fr H Q | none => False := by
  unfold Runs; rw [ex_succ (by simp [run])]; simp only [run]
  cases exitTo id k <;> simp
theorem runs_cond {c : Operand} {x y : Code} {b : Bool} (h : ev fr c = .bool b) : Runs P E fn (.code (.cond c x y) :: k) fr H Q ↔ if b = true then Runs P E fn (.code x :: k) fr H Q else Runs P E fn (.code y :: k) fr H Q := by
  unfold Runs; rw [ex_succ (by simp [run])]; simp only [run, h]
  cases b <;> simp
theorem runs_region {id : Nat} {l : List Oper} : Runs P E fn (.code (.region id ⟨l⟩ false) :: k) fr H Q ↔ ROps P E fn ⟨l⟩ l k fr H Q := by
  unfold Runs ROps; rw [ex_succ (by simp [run])]; simp only [run]; exact Iff.rfl
theorem runs_draw {id : Nat} {l : List Oper} : Runs P E fn (.code (.region id ⟨l⟩ true) :: k) fr H Q ↔ RDr P E fn (E.loud.ch fn.ntmps id l.length) l k fr H Q := by
  unfold Runs RDr RMix RCh; rw [ex_succ (by simp [run])]; simp only [run, ldraw]
  rw [show (⟨l⟩ : Array Oper).size = l.length from rfl]
  cases E.loud.ch fn.ntmps id l.length <;> exact Iff.rfl
theorem rops_nil : ROps P E fn all [] k fr H Q ↔ Runs P E fn k fr H Q := by
  unfold ROps Runs; simp only [lops]
theorem rmix_nil : RMix P E fn all H0 [] k fr H Q ↔ Runs P E fn k fr H Q := by
  unfold RMix Runs; simp only [lmix]
theorem rops_cons : ROps P E fn all (⟨some d, op, ty, pos, after, none⟩ :: os) k fr H Q ↔ Step P E fn (lopx P (LC P E) op fr H) d all os k fr Q := by
  unfold ROps Step; simp only [lops, lwant, lop_x]
  cases lopx P (LC P E) op fr H with
  | none => simp
  | some x =>
    obtain ⟨v, H1⟩ := x
    simp only [lput]
    by_cases hd : d < fn.ntmps
    · simp only [hd, ROps, true_and, if_true]
    · simp [hd]
theorem rops_cons0 : ROps P E fn all (⟨none, op, ty, pos, after, none⟩ :: os) k fr H Q ↔ match lopx P (LC P E) op fr H with | some (_, H') => ROps P E fn all os k fr H' Q | none => False := by
  unfold ROps; simp only [lops, lwant, lop_x]
  cases lopx P (LC P E) op fr H with
  | none => simp
  | some x => simp only [lput]
theorem rmix_cons : RMix P E fn all H0 (⟨some d, op, ty, pos, after, none⟩ :: os) k fr H Q ↔ RSel (loudOp E.loud op) (ROps P E fn all (⟨some d, op, ty, pos, after, none⟩ :: os) k fr H Q) (MStep P E fn (lmixx P (LC P E) op fr H0 H) d all H0 os k fr Q) := by
  unfold RMix RSel
  cases hl : loudOp E.loud op with
  | true => unfold ROps; simp only [lmix, hl, if_true]
  | false =>
    unfold MStep; simp only [lmix, hl, Bool.false_eq_true, if_false, lwant, lmixop_x]
    by_cases hd : d < fn.ntmps
    · simp only [if_pos hd]
      cases lmixx P (LC P E) op fr H0 H with
      | none => simp
      | some x => simp only [hd, RMix, true_and]
    · simp only [if_neg hd]
      cases lmixx P (LC P E) op fr H0 H with
      | none => simp
      | some x => simp [hd]
theorem rmix_cons0 : RMix P E fn all H0 (⟨none, op, ty, pos, after, none⟩ :: os) k fr H Q ↔ RSel (loudOp E.loud op) (ROps P E fn all (⟨none, op, ty, pos, after, none⟩ :: os) k fr H Q) False := by
  unfold RMix RSel
  cases hl : loudOp E.loud op with
  | true => unfold ROps; simp only [lmix, hl, if_true]
  | false => simp [lmix, hl]
theorem lwant_x {j : Nat} {want : Bool} {dst : Option Tmp} : lwant all fr ⟨dst, op, ty, pos, after, some (j, want)⟩ = guardx all fr j want := rfl
theorem rops_guard {j : Nat} {want : Bool} : ROps P E fn all (⟨some d, op, ty, pos, after, some (j, want)⟩ :: os) k fr H Q ↔ GStep P E fn (guardx all fr j want) op d all os k fr H Q := by
  unfold ROps GStep; simp only [lops, lwant_x, lop_x]
  cases guardx all fr j want with
  | none => simp
  | some b =>
    cases b with
    | true =>
      simp only [Step]
      cases lopx P (LC P E) op fr H with
      | none => simp
      | some x =>
        obtain ⟨v, H1⟩ := x
        simp only [lput]
        by_cases hd : d < fn.ntmps
        · simp only [hd, ROps, true_and, if_true]
        · simp [hd]
    | false =>
      simp only [lput]
      by_cases hd : d < fn.ntmps
      · simp only [hd, ROps, true_and, if_true]
      · simp [hd]
theorem rmix_guard {j : Nat} {want : Bool} : RMix P E fn all H0 (⟨some d, op, ty, pos, after, some (j, want)⟩ :: os) k fr H Q ↔ RSel (loudOp E.loud op) (ROps P E fn all (⟨some d, op, ty, pos, after, some (j, want)⟩ :: os) k fr H Q) (GMStep P E fn (guardx all fr j want) op d all H0 os k fr H Q) := by
  unfold RMix RSel
  cases hl : loudOp E.loud op with
  | true => unfold ROps; simp only [lmix, hl, if_true]
  | false =>
    unfold GMStep; simp only [lmix, hl, Bool.false_eq_true, if_false, lwant_x, lmixop_x]
    by_cases hd : d < fn.ntmps
    · simp only [if_pos hd]
      cases guardx all fr j want with
      | none => simp
      | some b =>
        cases b with
        | true =>
          unfold MStep
          simp only
          cases lmixx P (LC P E) op fr H0 H with
          | none => simp
          | some x => simp only [hd, RMix, true_and]
        | false => simp only [hd, RMix, true_and]
    · simp only [if_neg hd]
      cases guardx all fr j want with
      | none => simp
      | some b =>
        cases b with
        | true =>
          unfold MStep
          simp only
          cases lmixx P (LC P E) op fr H0 H with
          | none => simp
          | some x => simp [hd]
        | false => simp [hd]
theorem step_some {v : Value} : Step P E fn (some (v, H)) d all os k fr Q ↔ d < fn.ntmps ∧ ROps P E fn all os k (upd fr d v) H Q := Iff.rfl
theorem mstep_some {v : Value} : MStep P E fn (some (v, H)) d all H0 os k fr Q ↔ d < fn.ntmps ∧ RMix P E fn all H0 os k (upd fr d v) H Q := Iff.rfl
theorem rsel_true {A B : Prop} : RSel true A B ↔ A := Iff.rfl
theorem rsel_false {A B : Prop} : RSel false A B ↔ B := Iff.rfl
theorem gstep_true : GStep P E fn (some true) op d all os k fr H Q ↔ Step P E fn (lopx P (LC P E) op fr H) d all os k fr Q := Iff.rfl
theorem gstep_false : GStep P E fn (some false) op d all os k fr H Q ↔ d < fn.ntmps ∧ ROps P E fn all os k (upd fr d undef) H Q := Iff.rfl
theorem gmstep_true : GMStep P E fn (some true) op d all H0 os k fr H Q ↔ MStep P E fn (lmixx P (LC P E) op fr H0 H) d all H0 os k fr Q := Iff.rfl
theorem gmstep_false : GMStep P E fn (some false) op d all H0 os k fr H Q ↔ d < fn.ntmps ∧ RMix P E fn all H0 os k (upd fr d undef) H Q := Iff.rfl
theorem rdr_none {l : List Oper} : RDr P E fn none l k fr H Q ↔ RMix P E fn ⟨l⟩ H l k fr H Q := Iff.rfl
theorem rdr_some {l : List Oper} {prs : List (Nat × Nat)} : RDr P E fn (some prs) l k fr H Q ↔ RCh P E fn ⟨l⟩ prs 0 (fun _ => (fr, H)) l k fr H Q := Iff.rfl
theorem lchain_nil {T : Callee} {N : Nat} {j : Nat} {old : Nat → Fr × LH} : ∀ {os : List Oper} {j : Nat} {old : Nat → Fr × LH} {fr : Fr} {H : LH}, lchain P T N all [] j old os fr H = lops P T N all os fr H
  | [], j, old, fr, H => rfl
  | o :: os, j, old, fr, H => by
    unfold lchain lops
    split
    · split
      · split
        · rw [if_pos ⟨fun _ h => by simp at h, fun _ h => by simp at h⟩]; exact lchain_nil (j := j) (old := old)
        · rfl
      · rfl
    · split
      · rw [if_pos (fun _ h => by simp at h)]; exact lchain_nil (j := j) (old := old)
      · rfl
    · rfl
theorem rch_none {j : Nat} {old : Nat → Fr × LH} : RCh P E fn all [] j old os k fr H Q ↔ ROps P E fn all os k fr H Q := by
  unfold RCh ROps; rw [lchain_nil (j := j) (old := old)]
section
variable {prs : List (Nat × Nat)} {j : Nat} {old : Nat → Fr × LH}
theorem rch_nil : RCh P E fn all prs j old [] k fr H Q ↔ Runs P E fn k fr H Q := by
  unfold RCh Runs; simp only [lchain]
theorem ckR_iff {v : Value} (dst : Option Tmp) (g : Option (Nat × Bool)) : ∀ {prs : List (Nat × Nat)}, ckR P j op fr old v prs ↔ ∀ i, (j, i) ∈ prs → i < j → lop P T0 ⟨dst, op, ty, pos, after, g⟩ fr (old i).2 = some (v, (old i).2)
  | [] => by simp [ckR]
  | (a, b) :: ps => by
    have ih := ckR_iff (v := v) dst g (prs := ps)
    unfold ckR
    rw [ih]
    simp only [lop_x]
    constructor
    · rintro ⟨h1, h2⟩ i hi hij
      rcases List.mem_cons.1 hi with e | e
      · injection e with e1 e2
        subst e1 e2
        exact h1 ⟨rfl, hij⟩
      · exact h2 i e hij
    · intro h
      exact ⟨fun ⟨e, hb⟩ => h b (by rw [e]; exact List.mem_cons_self ..) hb, fun i hi hij => h i (List.mem_cons_of_mem _ hi) hij⟩
theorem ckH_iff {fr' : Fr} : ∀ {prs : List (Nat × Nat)}, ckH P j all old fr' H' prs ↔ ∀ i, (i, j) ∈ prs → i < j → ∀ oi d, all[i]? = some oi → oi.dst = some d → lwant all (old i).1 oi = some true → lop P T0 oi (old i).1 H' = some (fr' d, H')
  | [] => by simp [ckH]
  | (a, b) :: ps => by
    have ih := ckH_iff (fr' := fr') (prs := ps)
    unfold ckH
    rw [ih]
    constructor
    · rintro ⟨h1, h2⟩ i hi hij oi d ho hd hw
      rcases List.mem_cons.1 hi with e | e
      · injection e with e1 e2
        subst e1 e2
        have := h1 ⟨rfl, hij⟩
        unfold ckOp at this
        rw [ho] at this
        exact this d hd hw
      · exact h2 i e hij oi d ho hd hw
    · intro h
      refine ⟨fun ⟨e, hb⟩ => ?_, fun i hi hij => h i (List.mem_cons_of_mem _ hi) hij⟩
      unfold ckOp
      cases ho : all[a]? with
      | none => trivial
      | some oi => exact fun d hd hw => h a (by rw [e]; exact List.mem_cons_self ..) hb oi d ho hd hw
/-- an operation has yielded -/
def CStep (P : Program) (E : Ext) (fn : Func) (x : Option (Value × LH)) (d : Nat) (op : Op) (all : Array Oper) (prs : List (Nat × Nat)) (j : Nat) (old : Nat → Fr × LH) (os : List Oper) (k : List Item) (fr : Fr) (H : LH) (Q : Value × LH → Prop) : Prop :=
  match x with
  | some (v, H') => d < fn.ntmps ∧ ckR P j op fr old v prs ∧ ckH P j all old (upd fr d v) H' prs ∧ RCh P E fn all prs (j + 1) (oldS old j (fr, H)) os k (upd fr d v) H' Q
  | none => False
def CStep0 (P : Program) (E : Ext) (fn : Func) (x : Option (Value × LH)) (op : Op) (all : Array Oper) (prs : List (Nat × Nat)) (j : Nat) (old : Nat → Fr × LH) (os : List Oper) (k : List Item) (fr : Fr) (H : LH) (Q : Value × LH → Prop) : Prop :=
  match x with
  | some (v, H') => ckR P j op fr old v prs ∧ ckH P j all old fr H' prs ∧ RCh P E fn all prs (j + 1) (oldS old j (fr, H)) os k fr H' Q
  | none => False
def CG (P : Program) (E : Ext) (fn : Func) (g : Option Bool) (op : Op) (d : Nat) (all : Array Oper) (prs : List (Nat × Nat)) (j : Nat) (old : Nat → Fr × LH) (os : List Oper) (k : List Item) (fr : Fr) (H : LH) (Q : Value × LH → Prop) : Prop :=
  match g with
  | some true => CStep P E fn (lopx P (LC P E) op fr H) d op all prs j old os k fr H Q
  | some false => d < fn.ntmps ∧ ckH P j all old (upd fr d undef) H prs ∧ RCh P E fn all prs (j + 1) (oldS old j (fr, H)) os k (upd fr d undef) H Q
  | none => False
theorem lwant_no {dst : Option Tmp} : lwant all fr ⟨dst, op, ty, pos, after, none⟩ = some true := rfl
theorem rch_cons : RCh P E fn all prs j old (⟨some d, op, ty, pos, after, none⟩ :: os) k fr H Q ↔ CStep P E fn (lopx P (LC P E) op fr H) d op all prs j old os k fr H Q := by
  unfold RCh CStep; simp only [lchain, lwant_no]
  rw [show lopx P (LC P E) op fr H = lop P (LC P E) ⟨some d, op, ty, pos, after, none⟩ fr H from rfl]
  cases lop P (LC P E) ⟨some d, op, ty, pos, after, none⟩ fr H with
  | none => simp
  | some x =>
    obtain ⟨v, H1⟩ := x
    simp only [lput]
    by_cases hd : d < fn.ntmps
    · simp only [hd, if_true, true_and]
      have e1 := ckR_iff (P := P) (op := op) (fr := fr) (old := old) (j := j) (v := v) (ty := ty) (pos := pos) (after := after) (some d) none (prs := prs)
      by_cases hc : ckR P j op fr old v prs ∧ ckH P j all old (upd fr d v) H1 prs
      · rw [if_pos (And.intro (e1.1 hc.1) (ckH_iff.1 hc.2))]
        simp only [hc, true_and, RCh]
        exact Iff.rfl
      · rw [if_neg (fun h => hc (And.intro (e1.2 (And.left h)) (ckH_iff.2 (And.right h))))]
        constructor
        · rintro ⟨n, r, h, _⟩; simp at h
        · rintro ⟨h1, h2, _⟩; exact absurd ⟨h1, h2⟩ hc
    · simp [hd]
theorem rch_cons0 : RCh P E fn all prs j old (⟨none, op, ty, pos, after, none⟩ :: os) k fr H Q ↔ CStep0 P E fn (lopx P (LC P E) op fr H) op all prs j old os k fr H Q := by
  unfold RCh CStep0; simp only [lchain, lwant_no]
  rw [show lopx P (LC P E) op fr H = lop P (LC P E) ⟨none, op, ty, pos, after, none⟩ fr H from rfl]
  cases lop P (LC P E) ⟨none, op, ty, pos, after, none⟩ fr H with
  | none => simp
  | some x =>
    obtain ⟨v, H1⟩ := x
    simp only [lput]
    have e1 := ckR_iff (P := P) (op := op) (fr := fr) (old := old) (j := j) (v := v) (ty := ty) (pos := pos) (after := after) none none (prs := prs)
    by_cases hc : ckR P j op fr old v prs ∧ ckH P j all old fr H1 prs
    · rw [if_pos (And.intro (e1.1 hc.1) (ckH_iff.1 hc.2))]
      simp only [hc, true_and, RCh]
      exact Iff.rfl
    · rw [if_neg (fun h => hc (And.intro (e1.2 (And.left h)) (ckH_iff.2 (And.right h))))]
      constructor
      · rintro ⟨n, r, h, _⟩; simp at h
      · rintro ⟨h1, h2, _⟩; exact absurd ⟨h1, h2⟩ hc
theorem rch_guard {g : Nat} {want : Bool} : RCh P E fn all prs j old (⟨some d, op, ty, pos, after, some (g, want)⟩ :: os) k fr H Q ↔ CG P E fn (guardx all fr g want) op d all prs j old os k fr H Q := by
  unfold RCh CG; simp only [lchain, lwant_x]
  cases guardx all fr g want with
  | none => simp
  | some b =>
    cases b with
    | true =>
      simp only [CStep]
      rw [show lopx P (LC P E) op fr H = lop P (LC P E) ⟨some d, op, ty, pos, after, some (g, want)⟩ fr H from rfl]
      cases lop P (LC P E) ⟨some d, op, ty, pos, after, some (g, want)⟩ fr H with
      | none => simp
      | some x =>
        obtain ⟨v, H1⟩ := x
        simp only [lput]
        by_cases hd : d < fn.ntmps
        · simp only [hd, if_true, true_and]
          have e1 := ckR_iff (P := P) (op := op) (fr := fr) (old := old) (j := j) (v := v) (ty := ty) (pos := pos) (after := after) (some d) (some (g, want)) (prs := prs)
          by_cases hc : ckR P j op fr old v prs ∧ ckH P j all old (upd fr d v) H1 prs
          · rw [if_pos (And.intro (e1.1 hc.1) (ckH_iff.1 hc.2))]
            simp only [hc, true_and, RCh]
            exact Iff.rfl
          · rw [if_neg (fun h => hc (And.intro (e1.2 (And.left h)) (ckH_iff.2 (And.right h))))]
            constructor
            · rintro ⟨n, r, h, _⟩; simp at h
            · rintro ⟨h1, h2, _⟩; exact absurd ⟨h1, h2⟩ hc
        · simp [hd]
    | false =>
      simp only [lput]
      by_cases hd : d < fn.ntmps
      · simp only [hd, if_true, true_and]
        by_cases hc : ckH P j all old (upd fr d undef) H prs
        · rw [if_pos (ckH_iff.1 hc)]
          simp only [hc, true_and, RCh]
          exact Iff.rfl
        · rw [if_neg (fun h => hc (ckH_iff.2 h))]
          constructor
          · rintro ⟨n, r, h, _⟩; simp at h
          · rintro ⟨h1, _⟩; exact absurd h1 hc
      · simp [hd]
end
/-- a loop: a relation that each round hands on, a measure that each round lowers -/
theorem loop_ind {St : Type} (R : St → Fr → LH → Prop) (μ : St → Nat) {x : Code} (st : St) (h : R st fr H)
    (step : ∀ st fr H, R st fr H → (∀ st' fr' H', μ st' < μ st → R st' fr' H' → Runs P E fn (.inLoop x :: k) fr' H' Q) → Runs P E fn (.code x :: .inLoop x :: k) fr H Q) : Runs P E fn (.code (.loop x) :: k) fr H Q := by
  have key : ∀ m st fr H, μ st < m → R st fr H → Runs P E fn (.inLoop x :: k) fr H Q := by
    intro m
    induction m with
    | zero => intro st fr H hm; omega
    | succ m ih =>
      intro st fr H hm hR
      exact runs_inLoop.2 (step st fr H hR (fun st' fr' H' hlt hR' => ih st' fr' H' (by omega) hR'))
  exact runs_loop.2 (key (μ st + 1) st fr H (Nat.lt_succ_self _) h)
theorem LC_runs {f : FuncId} {c : Code} {args : List Value} (he : E f = none) (hf : P.funcs[f]? = some fn) (hb : fn.body = some c) (hN : args.length ≤ fn.ntmps) (hname : fn.name ≠ "runtime.NumGoroutine") (hcd : codeOk E.loud fn.ntmps c = true)
    (hr : Runs P E fn [.code c] (enter args) H Q) : ∃ r, LC P E f args H = some (trunc H r) ∧ Q r := by
  obtain ⟨n, r, hn, hq⟩ := hr
  exact ⟨r, LC_body he hf hb hN hname hcd hn, hq⟩
theorem trunc_flat {v : Value} (hv : flatB v = true) (hle : H.le H') : trunc H (v, H') = (v, H) := by
  unfold trunc; rw [if_pos ⟨hv, hle⟩]
theorem LC_pure {f : FuncId} {c : Code} {args : List Value} {v : Value} (he : E f = none) (hf : P.funcs[f]? = some fn) (hb : fn.body = some c) (hN : args.length ≤ fn.ntmps) (hname : fn.name ≠ "runtime.NumGoroutine") (hcd : codeOk E.loud fn.ntmps c = true)
    (hv : flatB v = true) (hr : Runs P E fn [.code c] (enter args) H (fun r => r.1 = v ∧ H.le r.2)) : LC P E f args H = some (v, H) := by
  obtain ⟨⟨v', H'⟩, h, rfl, hle⟩ := LC_runs he hf hb hN hname hcd hr
  rw [h, trunc_flat hv hle]
theorem le_refl : H.le H := ⟨Nat.le_refl _, fun _ _ => rfl⟩
end
end Go.Lg
/-
  A logical run of Go code: what operations come to on given values.
-/
set_option linter.unusedSimpArgs false
set_option linter.unusedVariables false
namespace Go.Lg
open Go.Tg Go.RowKit

section
variable {P : Program}
@[simp] theorem pureVal_bind {α β : Type} (s : Sem α) (f : α → Sem β) : pureVal P (s >>= f) = (pureVal P s).bind fun x => pureVal P (f x) := by
  show pureVal P (s.bind f) = _
  induction s with
  | pure a => rfl
  | program k ih => exact ih P
  | mark m k ih => exact ih
  | _ => rfl
@[simp] theorem pureVal_pure {α : Type} (x : α) : pureVal P (pure x : Sem α) = some x := rfl
@[simp] theorem pureVal_program : pureVal P program = some P := rfl
@[simp] theorem pureVal_und (t : TypeId) : pureVal P (underlying t) = P.underlying t := by
  unfold underlying
  rw [pureVal_bind, pureVal_program, Option.bind_some]
  cases P.underlying t <;> rfl
@[simp] theorem pureVal_sizeOf (t : TypeId) : pureVal P (sizeOf t) = sz P t := by
  unfold sizeOf typeInfo sz
  simp only [pureVal_bind, pureVal_program, Option.bind_some]
  cases P.info? t <;> rfl
end
/-- a string, a pointer, a slice from a row's head -/
def str (l : List UInt8) : Value := .string ⟨l.toArray⟩
theorem str_ba (s : ByteArray) : Value.string s = str s.data.toList := by cases s; rfl

attribute [simp ↓] runs_skip runs_label runs_seq runs_block runs_inBlock runs_region runs_draw rops_nil rmix_nil rops_cons rmix_cons rmix_cons0 rops_guard rmix_guard
@[congr] theorem rres_congr {x y : Option Value} {H : LH} {Q : Value × LH → Prop} (h : x = y) : RRes x H Q = RRes y H Q := by rw [h]
@[simp] theorem rres_some {v : Value} {H : LH} {Q : Value × LH → Prop} : RRes (some v) H Q ↔ Q (v, H) := Iff.rfl
@[simp] theorem rres_none {H : LH} {Q : Value × LH → Prop} : RRes none H Q ↔ False := Iff.rfl
attribute [simp ↓] rdr_none rdr_some rch_none rch_nil rch_cons rch_cons0 rch_guard
attribute [simp] runs_nil runs_ret step_some mstep_some gstep_true gstep_false gmstep_true gmstep_false rsel_true rsel_false

section
variable {P : Program} {E : Ext} {fn : Func} {k : List Item} {fr : Fr} {H H' H0 : LH} {Q : Value × LH → Prop} {all : Array Oper} {os : List Oper} {d : Nat} {op : Op} {T : Callee}
@[congr] theorem step_congr {x y : Option (Value × LH)} (h : x = y) : Step P E fn x d all os k fr Q = Step P E fn y d all os k fr Q := by rw [h]
@[congr] theorem mstep_congr {x y : Option (Value × LH)} (h : x = y) : MStep P E fn x d all H0 os k fr Q = MStep P E fn y d all H0 os k fr Q := by rw [h]
@[congr] theorem rsel_congr {x y : Bool} {A B : Prop} (h : x = y) : RSel x A B = RSel y A B := by rw [h]
@[congr] theorem gstep_congr {x y : Option Bool} (h : x = y) : GStep P E fn x op d all os k fr H Q = GStep P E fn y op d all os k fr H Q := by rw [h]
@[congr] theorem gmstep_congr {x y : Option Bool} (h : x = y) : GMStep P E fn x op d all H0 os k fr H Q = GMStep P E fn y op d all H0 os k fr H Q := by rw [h]
@[congr] theorem rdr_congr {x y : Option (List (Nat × Nat))} {l : List Oper} (h : x = y) : RDr P E fn x l k fr H Q = RDr P E fn y l k fr H Q := by rw [h]
section
variable {prs : List (Nat × Nat)} {j : Nat} {old : Nat → Fr × LH} {v : Value} {x : Fr × LH}
@[congr] theorem cstep_congr {x y : Option (Value × LH)} (h : x = y) : CStep P E fn x d op all prs j old os k fr H Q = CStep P E fn y d op all prs j old os k fr H Q := by rw [h]
@[congr] theorem cstep0_congr {x y : Option (Value × LH)} (h : x = y) : CStep0 P E fn x op all prs j old os k fr H Q = CStep0 P E fn y op all prs j old os k fr H Q := by rw [h]
@[congr] theorem cg_congr {x y : Option Bool} (h : x = y) : CG P E fn x op d all prs j old os k fr H Q = CG P E fn y op d all prs j old os k fr H Q := by rw [h]
@[simp] theorem cstep_some : CStep P E fn (some (v, H')) d op all prs j old os k fr H Q ↔ d < fn.ntmps ∧ ckR P j op fr old v prs ∧ ckH P j all old (upd fr d v) H' prs ∧ RCh P E fn all prs (j + 1) (oldS old j (fr, H)) os k (upd fr d v) H' Q := Iff.rfl
@[simp] theorem cstep_none : CStep P E fn none d op all prs j old os k fr H Q ↔ False := Iff.rfl
@[simp] theorem cstep0_some : CStep0 P E fn (some (v, H')) op all prs j old os k fr H Q ↔ ckR P j op fr old v prs ∧ ckH P j all old fr H' prs ∧ RCh P E fn all prs (j + 1) (oldS old j (fr, H)) os k fr H' Q := Iff.rfl
@[simp] theorem cstep0_none : CStep0 P E fn none op all prs j old os k fr H Q ↔ False := Iff.rfl
@[simp] theorem cg_true : CG P E fn (some true) op d all prs j old os k fr H Q ↔ CStep P E fn (lopx P (LC P E) op fr H) d op all prs j old os k fr H Q := Iff.rfl
@[simp] theorem cg_false : CG P E fn (some false) op d all prs j old os k fr H Q ↔ d < fn.ntmps ∧ ckH P j all old (upd fr d undef) H prs ∧ RCh P E fn all prs (j + 1) (oldS old j (fr, H)) os k (upd fr d undef) H Q := Iff.rfl
theorem cg_b {b : Bool} : CG P E fn (some b) op d all prs j old os k fr H Q ↔ (b = true → CStep P E fn (lopx P (LC P E) op fr H) d op all prs j old os k fr H Q) ∧ (b = false → d < fn.ntmps ∧ ckH P j all old (upd fr d undef) H prs ∧ RCh P E fn all prs (j + 1) (oldS old j (fr, H)) os k (upd fr d undef) H Q) := by cases b <;> simp
attribute [simp low] cg_b
@[simp ↓] theorem oldS_get {i : Nat} : oldS old j x i = if i = j then x else old i := rfl
@[simp ↓] theorem ckR_nil : ckR P j op fr old v [] ↔ True := Iff.rfl
@[simp ↓] theorem ckR_cons {a b : Nat} : ckR P j op fr old v ((a, b) :: prs) ↔ (a = j ∧ b < j → lopx P T0 op fr (old b).2 = some (v, (old b).2)) ∧ ckR P j op fr old v prs := Iff.rfl
@[simp ↓] theorem ckH_nil : ckH P j all old fr H' [] ↔ True := Iff.rfl
def lget : List Oper → Nat → Option Oper
  | [], _ => none
  | o :: _, 0 => some o
  | _ :: l, n + 1 => lget l n
theorem lget_eq : ∀ (l : List Oper) (j : Nat), l[j]? = lget l j
  | [], j => by cases j <;> rfl
  | o :: l, 0 => rfl
  | o :: l, n + 1 => lget_eq l n
@[simp ↓] theorem lget_zero {o : Oper} {l : List Oper} : lget (o :: l) 0 = some o := rfl
@[simp ↓] theorem lget_succ {o : Oper} {l : List Oper} {n : Nat} : lget (o :: l) (n + 1) = lget l n := rfl
@[simp ↓] theorem ckH_cons {a b : Nat} {l : List Oper} : ckH P j ⟨l⟩ old fr H' ((a, b) :: prs) ↔ (b = j ∧ a < j → ckOp P ⟨l⟩ (lget l a) (old a) fr H') ∧ ckH P j ⟨l⟩ old fr H' prs := by
  have e : (⟨l⟩ : Array Oper)[a]? = lget l a := by
    rw [← lget_eq]
    show (l.toArray)[a]? = _
    rw [List.getElem?_toArray]
  rw [← e]; exact Iff.rfl
@[simp ↓] theorem ckOp_plain {ty : TypeId} {pos : String} {after : Array Edge} {l : List Oper} : ckOp P ⟨l⟩ (some ⟨some d, op, ty, pos, after, none⟩) x fr H' ↔ lopx P T0 op x.1 H' = some (fr d, H') := by
  unfold ckOp
  constructor
  · intro h; exact h d rfl rfl
  · intro h d' hd _
    injection hd with hd
    subst hd; exact h
def gtr (x : Option Bool) : Prop := x = some true
@[simp] theorem gtr_some {b : Bool} : gtr (some b) ↔ b = true := by unfold gtr; simp
@[simp ↓] theorem ckOp_guard {ty : TypeId} {pos : String} {after : Array Edge} {l : List Oper} {g : Nat} {want : Bool} : ckOp P ⟨l⟩ (some ⟨some d, op, ty, pos, after, some (g, want)⟩) x fr H' ↔ (gtr (guardx ⟨l⟩ x.1 g want) → lopx P T0 op x.1 H' = some (fr d, H')) := by
  unfold ckOp gtr
  constructor
  · intro h hg; exact h d rfl hg
  · intro h d' hd hw
    injection hd with hd
    subst hd; exact h hw
end
@[simp] theorem step_none : Step P E fn none d all os k fr Q ↔ False := Iff.rfl
@[simp] theorem mstep_none : MStep P E fn none d all H0 os k fr Q ↔ False := Iff.rfl
@[simp ↓] theorem upd_get {v : Value} {t : Nat} : upd fr d v t = if t = d then v else fr t := rfl
@[simp ↓] theorem ev_tmp {t : Nat} : ev fr (.tmp t) = fr t := rfl
@[simp ↓] theorem ev_int {kd : IntKind} {n : Int} : ev fr (.const (.int kd n)) = .int kd n := rfl
@[simp ↓] theorem ev_bool {b : Bool} : ev fr (.const (.bool b)) = .bool b := rfl
@[simp ↓] theorem ev_str {l : List UInt8} : ev fr (.const (.string ⟨l.toArray⟩)) = str l := rfl
@[simp ↓] theorem ev_nil : ev fr (.const (.pointer none)) = .pointer none := rfl
@[simp ↓] theorem ev_nilslice : ev fr (.const (.slice none 0 0)) = .slice none 0 0 := rfl
@[simp ↓] theorem ev_func {f : FuncId} : ev fr (.func f) = .func (.func f) #[] #[] := rfl
def RCond (P : Program) (E : Ext) (fn : Func) (c : Value) (x y : Code) (k : List Item) (fr : Fr) (H : LH) (Q : Value × LH → Prop) : Prop :=
  match c with
  | .bool b => (b = true → Runs P E fn (.code x :: k) fr H Q) ∧ (b = false → Runs P E fn (.code y :: k) fr H Q)
  | _ => False
@[congr] theorem rcond_congr {c c' : Value} {x y : Code} (h : c = c') : RCond P E fn c x y k fr H Q = RCond P E fn c' x y k fr H Q := by rw [h]
@[simp ↓] theorem runs_cond' {c : Operand} {x y : Code} : Runs P E fn (.code (.cond c x y) :: k) fr H Q ↔ RCond P E fn (ev fr c) x y k fr H Q := by
  unfold RCond
  cases h : ev fr c with
  | bool b => rw [runs_cond h]; cases b <;> simp
  | _ =>
    simp only [iff_false]
    rintro ⟨n, r, hn, _⟩
    cases n with
    | zero => simp [run] at hn
    | succ n => simp [run, h] at hn
@[simp] theorem rcond_true {x y : Code} : RCond P E fn (.bool true) x y k fr H Q ↔ Runs P E fn (.code x :: k) fr H Q := by simp [RCond]
@[simp] theorem rcond_false {x y : Code} : RCond P E fn (.bool false) x y k fr H Q ↔ Runs P E fn (.code y :: k) fr H Q := by simp [RCond]
@[simp low] theorem rcond_b {b : Bool} {x y : Code} : RCond P E fn (.bool b) x y k fr H Q ↔ (b = true → Runs P E fn (.code x :: k) fr H Q) ∧ (b = false → Runs P E fn (.code y :: k) fr H Q) := Iff.rfl
@[simp ↓] theorem runs_exit' {id : Nat} : Runs P E fn (.code (.exit id) :: k) fr H Q ↔ match exitTo id k with | some k' => Runs P E fn k' fr H Q | none => False := runs_exit
@[simp] theorem exit_nil {id : Nat} : exitTo id [] = none := rfl
@[simp] theorem exit_block {id j : Nat} : exitTo id (.inBlock j :: k) = if j == id then some k else exitTo id k := rfl
@[simp] theorem exit_code {id : Nat} {c : Code} : exitTo id (.code c :: k) = exitTo id k := rfl
@[simp] theorem exit_loop {id : Nat} {c : Code} : exitTo id (.inLoop c :: k) = exitTo id k := rfl
def lnth : List Oper → Nat → Option Tmp
  | [], _ => none
  | o :: _, 0 => o.dst
  | _ :: l, n + 1 => lnth l n
theorem lnth_eq : ∀ (l : List Oper) (j : Nat), (l[j]?).bind (·.dst) = lnth l j
  | [], j => by cases j <;> rfl
  | o :: l, 0 => rfl
  | o :: l, n + 1 => lnth_eq l n
@[simp ↓] theorem lnth_zero {dst : Option Tmp} {op : Op} {ty : TypeId} {pos : String} {after : Array Edge} {g : Option (Nat × Bool)} {l : List Oper} : lnth (⟨dst, op, ty, pos, after, g⟩ :: l) 0 = dst := rfl
@[simp ↓] theorem lnth_succ {o : Oper} {l : List Oper} {n : Nat} : lnth (o :: l) (n + 1) = lnth l n := rfl
def gval (v : Value) (want : Bool) : Option Bool := match v with
  | .bool b => some (b == want)
  | v => if flatB v then some false else none
def gdst (d : Option Tmp) (fr : Fr) (want : Bool) : Option Bool := match d with
  | none => some false
  | some d => gval (fr d) want
@[simp ↓] theorem guardx_mk {l : List Oper} {j : Nat} {want : Bool} : guardx ⟨l⟩ fr j want = gdst (lnth l j) fr want := by
  unfold guardx
  rw [← lnth_eq]
  show (match (l.toArray[j]?).bind (·.dst) with | none => _ | some d => _) = _
  rw [List.getElem?_toArray]
  cases (l[j]?).bind (·.dst) <;> rfl
@[simp] theorem gdst_some {d : Nat} {want : Bool} : gdst (some d) fr want = gval (fr d) want := rfl
@[simp] theorem gval_true {b : Bool} : gval (.bool b) true = some b := by cases b <;> rfl
@[simp] theorem gval_false {b : Bool} : gval (.bool b) false = some (!b) := by cases b <;> rfl
@[simp] theorem gval_undef {want : Bool} : gval undef want = some false := rfl
theorem gstep_b {b : Bool} : GStep P E fn (some b) op d all os k fr H Q ↔ (b = true → Step P E fn (lopx P (LC P E) op fr H) d all os k fr Q) ∧ (b = false → d < fn.ntmps ∧ ROps P E fn all os k (upd fr d undef) H Q) := by cases b <;> simp
theorem gmstep_b {b : Bool} : GMStep P E fn (some b) op d all H0 os k fr H Q ↔ (b = true → MStep P E fn (lmixx P (LC P E) op fr H0 H) d all H0 os k fr Q) ∧ (b = false → d < fn.ntmps ∧ RMix P E fn all H0 os k (upd fr d undef) H Q) := by cases b <;> simp
attribute [simp low] gstep_b gmstep_b
/-! ### operations -/
@[simp ↓] theorem lopx_move {x : Operand} : lopx P T (.move x) fr H = some (ev fr x, H) := rfl
@[simp ↓] theorem lopx_assign {x : Operand} : lopx P T (.assign x) fr H = some (ev fr x, H) := rfl
def lpick (c a b : Value) (H : LH) : Option (Value × LH) := match c with | .bool t => some (if t then a else b, H) | _ => none
@[simp ↓] theorem lopx_pick {c x y : Operand} : lopx P T (.pick c x y) fr H = lpick (ev fr c) (ev fr x) (ev fr y) H := rfl
@[simp] theorem lpick_bool {t : Bool} {a b : Value} : lpick (.bool t) a b H = some (if t = true then a else b, H) := rfl
def withH (v : Option Value) (H : LH) : Option (Value × LH) := v.map fun v => (v, H)
@[simp] theorem withH_some {v : Value} : withH (some v) H = some (v, H) := rfl
@[simp ↓] theorem lopx_bin {op : BinOp} {t yt : TypeId} {x y : Operand} : lopx P T (.binOp op t x y yt) fr H = withH (lbin P op t (ev fr x) (ev fr y)) H := rfl
def lidx (P : Program) (t : TypeId) (x i : Value) : Option Value := if flatB x && flatB i then pureFlat P (Instr.index t x i) else none
@[simp ↓] theorem lopx_index {t : TypeId} {x i : Operand} : lopx P T (.index t x i) fr H = withH (lidx P t (ev fr x) (ev fr i)) H := by
  show (if flatB (ev fr x) && flatB (ev fr i) then _ else _) = withH (lidx _ _ _ _) _
  unfold lidx withH; split <;> rfl
def lun (P : Program) (op : UnOp) (x : Value) : Option Value := if flatB x then pureFlat P (Op.unary op x) else none
@[simp ↓] theorem lopx_un {op : UnOp} {t : TypeId} {x : Operand} : lopx P T (.unOp op t x) fr H = withH (lun P op (ev fr x)) H := by
  show (if flatB (ev fr x) then _ else _) = withH (lun _ _ _) _
  unfold lun withH; split <;> rfl
def lconv (P : Program) (s d : TypeId) (x : Value) (H : LH) : Option Value := if flatB x then pureFlat P (convert s d x) else lbstr P s d x H
@[simp ↓] theorem lopx_conv {s d : TypeId} {x : Operand} : lopx P T (.convert s d x) fr H = withH (lconv P s d (ev fr x) H) H := by
  show (if flatB (ev fr x) then _ else _) = withH (lconv _ _ _ _ _) _
  unfold lconv withH; split <;> rfl
def lextract (x : Value) (i : Nat) : Option Value := match x with | .tuple vs => vs[i]? | _ => none
@[simp ↓] theorem lopx_extract {x : Operand} {i : Nat} : lopx P T (.extract x i) fr H = withH (lextract (ev fr x) i) H := by
  show (match ev fr x with | .tuple vs => _ | _ => none) = withH (lextract _ _) _
  cases ev fr x <;> rfl
@[simp] theorem lextract_0 {a : Value} {l : List Value} : lextract (.tuple ⟨a :: l⟩) 0 = some a := rfl
@[simp] theorem lextract_1 {a b : Value} {l : List Value} : lextract (.tuple ⟨a :: b :: l⟩) 1 = some b := rfl
@[simp] theorem lextract_2 {a b c : Value} {l : List Value} : lextract (.tuple ⟨a :: b :: c :: l⟩) 2 = some c := rfl
@[simp] theorem lextract_3 {a b c d : Value} {l : List Value} : lextract (.tuple ⟨a :: b :: c :: d :: l⟩) 3 = some d := rfl
@[simp ↓] theorem lopx_call {f : Operand} {args : List Operand} {ts : Array TypeId} : lopx P T (.call ⟨.value f, ⟨args⟩, ts⟩) fr H = lcallee P T (ev fr f) (args.map (ev fr)) H := rfl
@[simp ↓] theorem lopx_builtin {b : Builtin} {args : List Operand} {ts : List TypeId} : lopx P T (.call ⟨.builtin b, ⟨args⟩, ⟨ts⟩⟩) fr H = lbuiltin P b ts (args.map (ev fr)) H := rfl
@[simp] theorem lcallee_func {g : FuncId} {args : List Value} : lcallee P T (.func (.func g) #[] #[]) args H = T g args H := by simp [lcallee]
/-! ### values -/
@[simp] theorem flat_int {kd : IntKind} {n : Int} : flatB (.int kd n) = true := by simp [flatB, flat1B, atomB, str]
@[simp] theorem flat_bool {b : Bool} : flatB (.bool b) = true := by simp [flatB, flat1B, atomB, str]
@[simp] theorem flat_str {l : List UInt8} : flatB (str l) = true := by simp [flatB, flat1B, atomB, str]
@[simp] theorem flat_string {s : ByteArray} : flatB (.string s) = true := by simp [flatB, flat1B, atomB, str]
@[simp] theorem flat_nil : flatB (.pointer none) = true := by simp [flatB, flat1B, atomB, str]
@[simp] theorem flat_nilslice : flatB (.slice none 0 0) = true := by simp [flatB, flat1B, atomB, str]
@[simp] theorem wrap64_in {n : Int} (h1 : -9223372036854775808 ≤ n) (h2 : n ≤ 9223372036854775807) : IntKind.i64.wrap n = n := IntWalk.i64_in _ ⟨h1, h2⟩
theorem lbin_ii {op : BinOp} {t : TypeId} {kd : IntKind} {a b : Int} {v : Value} (h : pureVal P (binOp op t (.int kd a) (.int kd b)) = some v) (hv : flatB v = true) : lbin P op t (.int kd a) (.int kd b) = some v := by
  have e : pureVal P (do eqGuard op t (.tmp 0) (.tmp 0) (.int kd a) (.int kd b); binOp op t (.int kd a) (.int kd b) : Sem Value) = some v := by
    rw [← h]; cases op <;> rfl
  show pureFlat P (do eqGuard op t (.tmp 0) (.tmp 0) _ _; binOp op t _ _) = some v
  unfold pureFlat
  rw [e]
  simp only [hv, if_true]
variable {t : TypeId} {kd : IntKind} {a b : Int}
@[simp] theorem lbin_add : lbin P .add t (.int kd a) (.int kd b) = some (.int kd (kd.wrap (a + b))) := lbin_ii (by simp [binOp, Op.intArith]) rfl
@[simp] theorem lbin_sub : lbin P .sub t (.int kd a) (.int kd b) = some (.int kd (kd.wrap (a - b))) := lbin_ii (by simp [binOp, Op.intArith]) rfl
@[simp] theorem lbin_mul : lbin P .mul t (.int kd a) (.int kd b) = some (.int kd (kd.wrap (a * b))) := lbin_ii (by simp [binOp, Op.intArith]) rfl
@[simp] theorem lbin_quo (h : b ≠ 0) : lbin P .quo t (.int kd a) (.int kd b) = some (.int kd (kd.wrap (a.tdiv b))) := lbin_ii (by simp [binOp, Op.intDiv, h]) rfl
@[simp] theorem lbin_rem (h : b ≠ 0) : lbin P .rem t (.int kd a) (.int kd b) = some (.int kd (a.tmod b)) := lbin_ii (by simp [binOp, Op.intDiv, h]) rfl
@[simp] theorem lbin_eq : lbin P .eql t (.int kd a) (.int kd b) = some (.bool (decide (a = b))) := lbin_ii (by by_cases h : a = b <;> simp [binOp, Op.intCmp, h]) rfl
@[simp] theorem lbin_ne : lbin P .neq t (.int kd a) (.int kd b) = some (.bool (decide (a ≠ b))) := lbin_ii (by
  simp only [binOp, Op.intCmp, ne_eq, not_true_eq_false, if_false]
  show some (Value.bool (a != b)) = _
  congr 2
  by_cases h : a = b <;> simp [h]) rfl
@[simp] theorem lbin_lt : lbin P .lss t (.int kd a) (.int kd b) = some (.bool (decide (a < b))) := lbin_ii (by simp [binOp, Op.intCmp]) rfl
@[simp] theorem lbin_le : lbin P .leq t (.int kd a) (.int kd b) = some (.bool (decide (a ≤ b))) := lbin_ii (by simp [binOp, Op.intCmp]) rfl
@[simp] theorem lbin_gt : lbin P .gtr t (.int kd a) (.int kd b) = some (.bool (decide (b < a))) := lbin_ii (by simp [binOp, Op.intCmp]) rfl
@[simp] theorem lbin_ge : lbin P .geq t (.int kd a) (.int kd b) = some (.bool (decide (b ≤ a))) := lbin_ii (by simp [binOp, Op.intCmp]) rfl
theorem lbin_ss {op : BinOp} {t : TypeId} {a b : List UInt8} {v : Value} (h : pureVal P (binOp op t (str a) (str b)) = some v) (hv : flatB v = true) : lbin P op t (str a) (str b) = some v := by
  have e : pureVal P (do eqGuard op t (.tmp 0) (.tmp 0) (str a) (str b); binOp op t (str a) (str b) : Sem Value) = some v := by
    rw [← h]; cases op <;> rfl
  show pureFlat P (do eqGuard op t (.tmp 0) (.tmp 0) _ _; binOp op t _ _) = some v
  unfold pureFlat
  rw [e]
  simp only [hv, if_true]
theorem ba_list (l : List UInt8) : (⟨l.toArray⟩ : ByteArray).toList = l := by rw [ba_toList]
theorem ba_size (l : List UInt8) : (⟨l.toArray⟩ : ByteArray).size = l.length := by show l.toArray.size = _; simp
variable {x y : List UInt8}
@[simp] theorem lbin_seq : lbin P .eql t (str x) (str y) = some (.bool (decide (x = y))) := lbin_ss (by
  simp only [str, binOp, Op.stringOp, ba_list]
  show some (Value.bool (x == y)) = _
  by_cases h : x = y <;> simp [h]) rfl
@[simp] theorem lbin_sne : lbin P .neq t (str x) (str y) = some (.bool (decide (x ≠ y))) := lbin_ss (by
  simp only [str, binOp, Op.stringOp, ba_list]
  show some (Value.bool (!(x == y))) = _
  by_cases h : x = y <;> simp [h]) rfl
@[simp] theorem lbin_cat (h : x.length + y.length ≤ 9223372036854775807) : lbin P .add t (str x) (str y) = some (str (x ++ y)) := lbin_ss (by
  simp only [str, binOp, Op.stringOp, ba_size]
  rw [if_neg (by rw [show IntKind.max .i64 = 9223372036854775807 from rfl]; omega)]
  show some (Value.string _) = _
  congr 2) rfl
theorem lbin_bb {op : BinOp} {t : TypeId} {a b : Bool} {v : Value} (h : pureVal P (binOp op t (.bool a) (.bool b)) = some v) (hv : flatB v = true) : lbin P op t (.bool a) (.bool b) = some v := by
  have e : pureVal P (do eqGuard op t (.tmp 0) (.tmp 0) (.bool a) (.bool b); binOp op t (.bool a) (.bool b) : Sem Value) = some v := by
    rw [← h]; cases op <;> rfl
  show pureFlat P (do eqGuard op t (.tmp 0) (.tmp 0) _ _; binOp op t _ _) = some v
  unfold pureFlat
  rw [e]
  simp only [hv, if_true]
@[simp] theorem lun_not {a : Bool} : lun P .not (.bool a) = some (.bool (!a)) := rfl
@[simp] theorem lun_neg {a : Int} : lun P .neg (.int kd a) = some (.int kd (kd.wrap (0 - a))) := rfl
/-- a string's byte -/
def at_ (l : List UInt8) (i : Int) : UInt8 := l.getD i.toNat 0
theorem lidx_str (hu : P.underlying t = some .string) {i : Int} (h0 : 0 ≤ i) (h1 : i < x.length) : lidx P t (str x) (.int kd i) = some (.int .u8 (at_ x i).toNat) := by
  have hlt : i.toNat < x.length := by omega
  have e : (⟨x.toArray⟩ : ByteArray)[i.toNat]? = some (at_ x i) := by
    unfold at_
    have : (⟨x.toArray⟩ : ByteArray)[i.toNat]? = x[i.toNat]? := by
      rw [getElem?_def, getElem?_def]
      simp only [ba_size]
      rfl
    rw [this, List.getD_eq_getElem?_getD, List.getElem?_eq_getElem hlt]; rfl
  have hp : pureVal P (Instr.index t (str x) (.int kd i)) = some (.int .u8 (at_ x i).toNat) := by
    simp only [Instr.index, str, asIntOf, pureVal_bind, pureVal_pure, Option.bind_some, pureVal_und, hu]
    rw [if_pos h0, e]; rfl
  show pureFlat P _ = _
  unfold pureFlat
  rw [hp]; rfl
theorem lbuiltin_len_str (hu : P.underlying t = some .string) : lbuiltin P .len [t] [str x] H = some (.int .i64 x.length, H) := by
  simp only [lbuiltin, str, hu, ba_size]
theorem lbuiltin_len_slice {e : TypeId} (hu : P.underlying t = some (.slice e)) {ad : Option Addr} {n c : Nat} : lbuiltin P .len [t] [.slice ad n c] H = some (.int .i64 n, H) := by
  simp only [lbuiltin, hu]
end
end Go.Lg
/-
  A logical run of Go code: what operations on memory, strings and slices come to.
-/
set_option linter.unusedSimpArgs false
set_option linter.unusedVariables false
namespace Go.Lg
open Go.Tg Go.RowKit

abbrev ptr (l off : Nat) : Value := .pointer (some ⟨l, off, none⟩)
abbrev sl (l n c : Nat) : Value := .slice (some ⟨l, 0, none⟩) n c
section
variable {P : Program} {E : Ext} {fn : Func} {k : List Item} {fr : Fr} {H H' : LH} {Q : Value × LH → Prop} {all : Array Oper} {os : List Oper} {d : Nat} {op : Op} {T : Callee} {b c : LB} {l m : Nat}

@[simp] theorem enter_get {args : List Value} {t : Nat} : enter args t = args.getD t undef := rfl
/-! ### the heap -/
@[simp] theorem get_new : (H.new b).get H.n = some b := by simp [LH.new]
theorem get_new' : (H.new b).get l = if l = H.n then some b else H.get l := rfl
@[simp] theorem get_new_ne (h : l ≠ H.n) : (H.new b).get l = H.get l := by simp [LH.new, h]
@[simp] theorem get_set : (H.set l b).get l = some b := by simp [LH.set]
@[simp] theorem get_set_ne (h : m ≠ l) : (H.set l b).get m = H.get m := by simp [LH.set, h]
@[simp] theorem get_kill : (H.kill l).get l = none := by simp [LH.kill]
@[simp] theorem get_kill_ne (h : m ≠ l) : (H.kill l).get m = H.get m := by simp [LH.kill, h]
@[simp] theorem n_new : (H.new b).n = H.n + 1 := by simp only [LH.new]
@[simp] theorem n_set : (H.set l b).n = H.n := by simp only [LH.set]
@[simp] theorem n_kill : (H.kill l).n = H.n := by simp only [LH.kill]
@[simp] theorem n_ro : H.ro.n = H.n := by simp only [LH.ro]
@[simp] theorem base_new : (H.new b).base = H.base := by simp only [LH.new]
@[simp] theorem base_set : (H.set l b).base = H.base := by simp only [LH.set]
@[simp] theorem base_kill : (H.kill l).base = H.base := by simp only [LH.kill]
@[simp] theorem base_ro : H.ro.base = H.base := by simp only [LH.ro]
@[simp] theorem ng_new : (H.new b).ng = H.ng := by simp only [LH.new]
@[simp] theorem ng_set : (H.set l b).ng = H.ng := by simp only [LH.set]
@[simp] theorem ng_kill : (H.kill l).ng = H.ng := by simp only [LH.kill]
@[simp] theorem ng_ro : H.ro.ng = H.ng := by simp only [LH.ro]
@[simp] theorem get_ro : H.ro.get l = (H.get l).map fun b => { b with rw := false } := by simp only [LH.ro]
@[simp] theorem set_set : (H.set l b).set l c = H.set l c := by
  unfold LH.set; simp only [LH.mk.injEq, true_and, and_true]; funext k; split <;> simp_all
@[simp] theorem new_set : (H.new b).set H.n c = H.new c := by
  unfold LH.new LH.set; simp only [LH.mk.injEq, true_and, and_true]; funext k; split <;> simp_all
@[simp] theorem le_self : H.le H := le_refl
theorem LH.le.trans {A B C : LH} (h : A.le B) (g : B.le C) : A.le C := ⟨Nat.le_trans h.1 g.1, fun l hl => (g.2 l (Nat.lt_of_lt_of_le hl h.1)).trans (h.2 l hl)⟩
theorem LH.le.new (h : H.le H') : H.le (H'.new b) := ⟨Nat.le_succ_of_le h.1, fun l hl => by
  have := h.1
  rw [get_new_ne (by omega)]; exact h.2 l hl⟩
theorem LH.le.set (h : H.le H') (hl : H.n ≤ l) : H.le (H'.set l b) := ⟨h.1, fun k hk => by rw [get_set_ne (by omega)]; exact h.2 k hk⟩
theorem LH.le.kill (h : H.le H') (hl : H.n ≤ l) : H.le (H'.kill l) := ⟨h.1, fun k hk => by rw [get_kill_ne (by omega)]; exact h.2 k hk⟩
/-! ### fields, loads, stores -/
/-- a field: its first cell, how many cells, whether it is a struct or an array -/
def fldi (P : Program) (s : TypeId) (f : Nat) : Option (Nat × Nat × Bool) :=
  match P.underlying s with
  | some (.struct fs) => match fs[f]? with
    | some fd => match sz P fd.type, aggB P fd.type with
      | some n, some g => some (fd.offset, n, g)
      | _, _ => none
    | none => none
  | _ => none
def lfaddr (i : Option (Nat × Nat × Bool)) (x : Value) (H : LH) : Option (Value × LH) :=
  match i, x with
  | some (o, n, _), .pointer (some ⟨l, off, none⟩) => if n = 0 then none else some (ptr l (off + o), H)
  | _, _ => none
theorem lopx_fieldAddr {s : TypeId} {x : Operand} {f : Nat} {i : Nat × Nat × Bool} (h : fldi P s f = some i) : lopx P T (.fieldAddr s x f) fr H = lfaddr (some i) (ev fr x) H := by
  unfold fldi at h
  show (match ev fr x, P.underlying s with | .pointer (some ⟨l, off, none⟩), some (.struct fs) => _ | _, _ => none) = _
  split at h
  · rename_i fs hu
    split at h
    · rename_i fd hf
      split at h
      · rename_i n g hs ha
        injection h with h
        subst h
        rw [hu]
        unfold lfaddr
        split
        · rename_i e1 e2
          injection e2 with e2
          injection e2 with e2
          subst e2
          simp only [hf, hs, e1]
        · rename_i h1
          split
          · rename_i e1 e2
            exact absurd rfl (h1 _ _ _ e2)
          · rfl
      · cases h
    · cases h
  · cases h
attribute [simp] lopx_fieldAddr
@[simp] theorem lfaddr_ptr {o n off : Nat} {g : Bool} (h : n ≠ 0) : lfaddr (some (o, n, g)) (ptr l off) H = some (ptr l (off + o), H) := by simp [lfaddr, h]
def lldb (a : Option Bool) (s : Option Nat) (cs : List Value) (off : Nat) : Option Value :=
  match a, s with
  | some true, some s => if off + s ≤ cs.length then some (.agg ((cs.drop off).take s).toArray) else none
  | some false, _ => cs[off]?
  | _, _ => none
def lld (P : Program) (t : TypeId) (x : Value) (H : LH) : Option Value := match x with
  | .pointer (some ⟨l, off, none⟩) => match H.get l with
    | some b => lldb (aggB P t) (sz P t) b.cells off
    | none => none
  | _ => none
theorem lload_eq {t : TypeId} {off : Nat} : lload P t l off H = lld P t (ptr l off) H := by
  cases h : H.get l with
  | none => simp only [lload, lld, h]
  | some b =>
    simp only [lload, lld, h, lldb]
    cases aggB P t with
    | none => rfl
    | some g => cases g <;> cases sz P t <;> simp [lcells]
@[simp ↓] theorem lopx_load {t : TypeId} {x : Operand} : lopx P T (.load t x) fr H = withH (lld P t (ev fr x) H) H := by
  show (match ev fr x with | .pointer (some ⟨l, off, none⟩) => (lload P t l off H).map fun v => (v, H) | _ => none) = _
  split
  · rename_i e; rw [e, lload_eq]; rfl
  · rename_i h
    unfold lld
    split
    · rename_i e; exact absurd e (h _ _)
    · rfl
theorem lld_ptr {t : TypeId} {off : Nat} (h : H.get l = some b) : lld P t (ptr l off) H = lldb (aggB P t) (sz P t) b.cells off := by simp [lld, h]
attribute [simp] lld_ptr
@[simp] theorem lldb_cell {s : Option Nat} {cs : List Value} {off : Nat} : lldb (some false) s cs off = cs[off]? := rfl
@[simp] theorem lldb_agg {s : Nat} {cs : List Value} {off : Nat} (h : off + s ≤ cs.length) : lldb (some true) (some s) cs off = some (.agg ((cs.drop off).take s).toArray) := by simp [lldb, h]
def lst (P : Program) (t : TypeId) (x v : Value) (H : LH) : Option (Value × LH) := match x with
  | .pointer (some ⟨l, off, none⟩) => (lstore P t l off v H).map fun H' => (undef, H')
  | _ => none
@[simp ↓] theorem lopx_store {t : TypeId} {x y : Operand} : lopx P T (.store t x y) fr H = lst P t (ev fr x) (ev fr y) H := rfl
theorem cells_one {v : Value} (h : cellB v = true) : v.cells = #[v] := by cases v <;> first | rfl | (simp [cellB] at h)
theorem lst_cell {t : TypeId} {off : Nat} {v : Value} (h : H.get l = some b) (hrw : b.rw = true) (hs : sz P t = some 1) (hv : cellB v = true) (ho : off < b.cells.length) :
    lst P t (ptr l off) v H = some (undef, H.set l ⟨b.cells.set off v, b.elem, true⟩) := by
  have e1 : splice b.cells off [v] = b.cells.set off v := by
    unfold splice
    rw [List.set_eq_take_append_cons_drop, if_pos ho]; simp
  simp only [lst, lstore, h, hs, cells_one hv]
  simp [hv, e1, hrw]
  omega
attribute [simp] lst_cell
theorem lst_agg {t : TypeId} {off n : Nat} {vs : List Value} (h : H.get l = some b) (hrw : b.rw = true) (hs : sz P t = some n) (hn : vs.length = n) (hv : vs.all cellB = true) (ho : off + n ≤ b.cells.length) :
    lst P t (ptr l off) (.agg ⟨vs⟩) H = some (undef, H.set l ⟨splice b.cells off vs, b.elem, true⟩) := by
  subst hn
  have hv' : ∀ x ∈ vs, cellB x = true := by simpa using hv
  simp only [lst, lstore, h, hs, Value.cells]
  simp [ho, hrw]
  exact hv'
attribute [simp] lst_agg
@[simp] theorem cell_int {kd : IntKind} {n : Int} : cellB (.int kd n) = true := by simp only [cellB]
@[simp] theorem cell_bool {x : Bool} : cellB (.bool x) = true := by simp only [cellB, str]
@[simp] theorem cell_str {x : List UInt8} : cellB (str x) = true := by simp only [cellB, str]
@[simp] theorem cell_ptr {x : Option Addr} : cellB (.pointer x) = true := by simp only [cellB, str]
@[simp] theorem cell_slice {x : Option Addr} {n c : Nat} : cellB (.slice x n c) = true := by simp only [cellB, str]
@[simp] theorem cell_func {f : Fn} {x y : Array Value} : cellB (.func f x y) = true := by simp only [cellB, str]
def Step0 (P : Program) (E : Ext) (fn : Func) (x : Option (Value × LH)) (all : Array Oper) (os : List Oper) (k : List Item) (fr : Fr) (Q : Value × LH → Prop) : Prop :=
  match x with
  | some (_, H) => ROps P E fn all os k fr H Q
  | none => False
@[congr] theorem step0_congr {x y : Option (Value × LH)} (h : x = y) : Step0 P E fn x all os k fr Q = Step0 P E fn y all os k fr Q := by rw [h]
@[simp] theorem step0_some {v : Value} : Step0 P E fn (some (v, H)) all os k fr Q ↔ ROps P E fn all os k fr H Q := Iff.rfl
@[simp] theorem step0_none : Step0 P E fn none all os k fr Q ↔ False := Iff.rfl
@[simp ↓] theorem rops_cons0' {ty : TypeId} {pos : String} {after : Array Edge} : ROps P E fn all (⟨none, op, ty, pos, after, none⟩ :: os) k fr H Q ↔ Step0 P E fn (lopx P (LC P E) op fr H) all os k fr Q := by
  rw [rops_cons0]; rfl
/-! ### results -/
def lres (P : Program) (rs : List ResultVar) (fr : Fr) (H : LH) : Option Value :=
  match rs.mapM (lresult P fr H) with
  | some [v] => some v
  | some vs => some (.tuple vs.toArray)
  | none => none
@[simp] theorem lresults_eq : lresults P fn fr H = lres P fn.results.toList fr H := rfl
def lres1 (P : Program) (r : ResultVar) (fr : Fr) (H : LH) : Option Value := match r with
  | .tmp t => some (fr t)
  | .cell a t => lld P t (fr a) H
theorem lresult_eq {x : ResultVar} : lresult P fr H x = lres1 P x fr H := by
  cases x with
  | tmp t => rfl
  | cell a t =>
    simp only [lresult, lres1]
    split
    · rename_i e; rw [e, lload_eq]
    · rename_i h
      unfold lld
      split
      · rename_i e; exact absurd e (h _ _)
      · rfl
@[simp] theorem lres1_tmp {t : Tmp} : lres1 P (.tmp t) fr H = some (fr t) := rfl
@[simp] theorem lres1_cell {a : Tmp} {t : TypeId} : lres1 P (.cell a t) fr H = lld P t (fr a) H := rfl
@[simp] theorem lres_nil : lres P [] fr H = some (.tuple #[]) := rfl
@[simp] theorem lres_one {x : ResultVar} : lres P [x] fr H = lres1 P x fr H := by
  simp only [lres, List.mapM_cons, List.mapM_nil, lresult_eq]
  cases lres1 P x fr H <;> rfl
@[simp] theorem lres_two {x y : ResultVar} : lres P [x, y] fr H = (lres1 P x fr H).bind fun a => (lres1 P y fr H).bind fun b => some (.tuple #[a, b]) := by
  simp only [lres, List.mapM_cons, List.mapM_nil, lresult_eq]
  cases lres1 P x fr H <;> cases lres1 P y fr H <;> rfl
@[simp] theorem lres_three {x y z : ResultVar} : lres P [x, y, z] fr H = (lres1 P x fr H).bind fun a => (lres1 P y fr H).bind fun b => (lres1 P z fr H).bind fun c => some (.tuple #[a, b, c]) := by
  simp only [lres, List.mapM_cons, List.mapM_nil, lresult_eq]
  cases lres1 P x fr H <;> cases lres1 P y fr H <;> cases lres1 P z fr H <;> rfl
@[simp] theorem lres_four {x y z u : ResultVar} : lres P [x, y, z, u] fr H = (lres1 P x fr H).bind fun a => (lres1 P y fr H).bind fun b => (lres1 P z fr H).bind fun c => (lres1 P u fr H).bind fun d => some (.tuple #[a, b, c, d]) := by
  simp only [lres, List.mapM_cons, List.mapM_nil, lresult_eq]
  cases lres1 P x fr H <;> cases lres1 P y fr H <;> cases lres1 P z fr H <;> cases lres1 P u fr H <;> rfl
/-! ### new blocks -/
def lbox (s : Option Nat) (e : TypeId) (v : Value) (H : LH) : Option (Value × LH) := if knownB v && s == some v.cells.size then some (ptr H.n 0, H.new ⟨v.cells.toList, e, true⟩) else none
@[simp ↓] theorem lopx_box {e : TypeId} {x : Operand} : lopx P T (.box e x) fr H = lbox (sz P e) e (ev fr x) H := rfl
@[simp] theorem lbox_agg {e : TypeId} {n : Nat} {vs : List Value} (h : vs.length = n) : lbox (some n) e (.agg ⟨vs⟩) H = some (ptr H.n 0, H.new ⟨vs, e, true⟩) := by simp [lbox, knownB, Value.cells, h]
@[simp] theorem lbox_cell {e : TypeId} {v : Value} (h : cellB v = true) : lbox (some 1) e v H = some (ptr H.n 0, H.new ⟨[v], e, true⟩) := by
  have : knownB v = true := by cases v <;> first | rfl | (simp [cellB] at h)
  simp [lbox, this, cells_one h]
def lalloc (s : Option Nat) (z : Option Value) (e : TypeId) (H : LH) : Option (Value × LH) := match z with
  | some z => if flatB z && s == some z.cells.size then some (ptr H.n 0, H.new ⟨z.cells.toList, e, true⟩) else none
  | none => none
@[simp ↓] theorem lopx_alloc {e : TypeId} : lopx P T (.alloc e) fr H = lalloc (sz P e) (zr P e) e H := rfl
@[simp] theorem lalloc_agg {e : TypeId} {n : Nat} {vs : List Value} (h : vs.length = n) (hf : vs.all atomB = true) : lalloc (some n) (some (.agg ⟨vs⟩)) e H = some (ptr H.n 0, H.new ⟨vs, e, true⟩) := by
  have : flatB (.agg ⟨vs⟩) = true := hf
  simp [lalloc, this, Value.cells, h]
@[simp] theorem lalloc_cell {e : TypeId} {v : Value} (h : cellB v = true) (hf : flatB v = true) : lalloc (some 1) (some v) e H = some (ptr H.n 0, H.new ⟨[v], e, true⟩) := by simp [lalloc, hf, cells_one h]
@[simp] theorem zr_str : Value.string ⟨#[]⟩ = str [] := rfl
@[simp ↓] theorem lopx_nilCheck {x : Operand} {ad : Addr} (h : ev fr x = .pointer (some ad)) : lopx P T (.nilCheck x) fr H = some (.pointer (some ad), H) := by
  show (match ev fr x with | .pointer (some a) => _ | .func (.func g) f c => _ | _ => none) = _
  rw [h]
/-! ### strings -/
/-- a part of a string -/
def sub (x : List UInt8) (i j : Int) : List UInt8 := (x.take j.toNat).drop i.toNat
def lbv (v : Value) : Option Int := match v with | .int _ i => some i | _ => none
def lssl (x : Value) (i j : Option Int) : Option Value := match x, i, j with
  | .string s, some i, some j => if 0 ≤ i ∧ i ≤ j ∧ j ≤ s.size then some (str (sub s.data.toList i j)) else none
  | _, _, _ => none
end
end Go.Lg
/-
  A logical run of Go code: parts of strings and rows, elements, append, conversions, structs.
-/
set_option linter.unusedSimpArgs false
set_option linter.unusedVariables false
namespace Go.Lg
open Go.Tg Go.RowKit

section
variable {P : Program} {E : Ext} {fn : Func} {k : List Item} {fr : Fr} {H H' : LH} {Q : Value × LH → Prop} {all : Array Oper} {os : List Oper} {d : Nat} {op : Op} {T : Callee} {b c : LB} {l m : Nat} {t e : TypeId} {kd kd' : IntKind} {x y : List UInt8} {i j : Int}
attribute [simp] lidx_str lbuiltin_len_str lbuiltin_len_slice
/-! ### parts -/
def evo (fr : Fr) (o : Option Operand) : Option Value := o.map (ev fr)
@[simp ↓] theorem evo_none : evo fr none = none := rfl
@[simp ↓] theorem evo_some {x : Operand} : evo fr (some x) = some (ev fr x) := rfl
def lbd (d : Nat) : Option Value → Option Nat
  | none => some d
  | some (.int _ i) => if 0 ≤ i then some i.toNat else none
  | _ => none
theorem lbound_eq {d : Nat} {o : Option Operand} : lbound fr d o = lbd d (evo fr o) := by
  cases o with
  | none => rfl
  | some x => simp only [lbound, evo, Option.map_some]; cases ev fr x <;> rfl
def lpart (P : Program) (t : TypeId) (x : Value) (lo hi : Option Value) : Option Value :=
  match P.underlying t, x with
  | some .string, .string s =>
    match lbd 0 lo, lbd s.size hi with
    | some a, some b => if a ≤ b ∧ b ≤ s.size then some (.string (s.extract a b)) else none
    | _, _ => none
  | some (.slice e), .slice a n c =>
    match lbd 0 lo, lbd n hi, sz P e with
    | some i, some j, some s => if i ≤ j ∧ j ≤ n then
        match a with
        | some ⟨l, o, none⟩ => some (.slice (some ⟨l, o + i * s, none⟩) (j - i) (c - i))
        | none => some (.slice none 0 0)
        | _ => none
      else none
    | _, _, _ => none
  | _, _ => none
@[simp ↓] theorem lopx_slice {x : Operand} {lo hi : Option Operand} : lopx P T (.slice t x lo hi none) fr H = withH (lpart P t (ev fr x) (evo fr lo) (evo fr hi)) H := by
  show (lslice P t (ev fr x) fr lo hi).map _ = _
  unfold lslice lpart withH
  simp only [lbound_eq]
  rfl
theorem ext_str {a b : Nat} : (⟨x.toArray⟩ : ByteArray).extract a b = ⟨((x.take b).drop a).toArray⟩ := by
  apply ByteArray.ext
  rw [ByteArray.data_extract, List.drop_take]
  simp
theorem lpart_str0 {u : Option TypeDesc} (hu : P.underlying t = some .string) {a b : Option Value} {p q : Nat} (ha : lbd 0 a = some p) (hb : lbd x.length b = some q) (h : p ≤ q ∧ q ≤ x.length) : lpart P t (str x) a b = some (str ((x.take q).drop p)) := by
  unfold lpart str
  simp only [hu, ha, ba_size, hb, if_pos h, ext_str]
theorem lbd_int {d : Nat} (h : 0 ≤ i) : lbd d (some (.int kd i)) = some i.toNat := by simp only [lbd, if_pos h]
@[simp] theorem lpart_str_nn (hu : P.underlying t = some .string) : lpart P t (str x) none none = some (str x) := by
  rw [lpart_str0 (u := none) hu rfl rfl ⟨Nat.zero_le _, Nat.le_refl _⟩]; simp
@[simp] theorem lpart_str_ns (hu : P.underlying t = some .string) (h0 : 0 ≤ j) (h1 : j ≤ x.length) : lpart P t (str x) none (some (.int kd j)) = some (str (x.take j.toNat)) := by
  rw [lpart_str0 (u := none) hu rfl (lbd_int h0) ⟨Nat.zero_le _, by omega⟩]; simp
@[simp] theorem lpart_str_sn (hu : P.underlying t = some .string) (h0 : 0 ≤ i) (h1 : i ≤ x.length) : lpart P t (str x) (some (.int kd i)) none = some (str (x.drop i.toNat)) := by
  rw [lpart_str0 (u := none) hu (lbd_int h0) rfl ⟨by omega, Nat.le_refl _⟩]; simp
@[simp] theorem lpart_str_ss (hu : P.underlying t = some .string) (h0 : 0 ≤ i) (h1 : i ≤ j) (h2 : j ≤ x.length) : lpart P t (str x) (some (.int kd i)) (some (.int kd' j)) = some (str (sub x i j)) :=
  lpart_str0 (u := none) hu (lbd_int h0) (lbd_int (by omega)) ⟨by omega, by omega⟩
theorem lpart_row0 {s o n c : Nat} (hu : P.underlying t = some (.slice e)) (hs : sz P e = some s) {a b : Option Value} {p q : Nat} (ha : lbd 0 a = some p) (hb : lbd n b = some q) (h : p ≤ q ∧ q ≤ n) : lpart P t (.slice (some ⟨l, o, none⟩) n c) a b = some (.slice (some ⟨l, o + p * s, none⟩) (q - p) (c - p)) := by
  unfold lpart
  simp only [hu, ha, hs, hb, if_pos h]
@[simp] theorem lpart_row_nn {s o n c : Nat} (hu : P.underlying t = some (.slice e)) (hs : sz P e = some s) : lpart P t (.slice (some ⟨l, o, none⟩) n c) none none = some (.slice (some ⟨l, o, none⟩) n c) := by
  rw [lpart_row0 hu hs rfl rfl ⟨Nat.zero_le _, Nat.le_refl _⟩]; simp
@[simp] theorem lpart_row_ns {s o n c : Nat} (hu : P.underlying t = some (.slice e)) (hs : sz P e = some s) (h0 : 0 ≤ j) (h1 : j ≤ n) : lpart P t (.slice (some ⟨l, o, none⟩) n c) none (some (.int kd j)) = some (.slice (some ⟨l, o, none⟩) j.toNat c) := by
  rw [lpart_row0 hu hs rfl (lbd_int h0) ⟨Nat.zero_le _, by omega⟩]; simp
@[simp] theorem lpart_row_sn {s o n c : Nat} (hu : P.underlying t = some (.slice e)) (hs : sz P e = some s) (h0 : 0 ≤ i) (h1 : i ≤ n) : lpart P t (.slice (some ⟨l, o, none⟩) n c) (some (.int kd i)) none = some (.slice (some ⟨l, o + i.toNat * s, none⟩) (n - i.toNat) (c - i.toNat)) := by
  rw [lpart_row0 hu hs (lbd_int h0) rfl ⟨by omega, Nat.le_refl _⟩]
@[simp] theorem lpart_row_ss {s o n c : Nat} (hu : P.underlying t = some (.slice e)) (hs : sz P e = some s) (h0 : 0 ≤ i) (h1 : i ≤ j) (h2 : j ≤ n) : lpart P t (.slice (some ⟨l, o, none⟩) n c) (some (.int kd i)) (some (.int kd' j)) = some (.slice (some ⟨l, o + i.toNat * s, none⟩) (j.toNat - i.toNat) (c - i.toNat)) :=
  lpart_row0 hu hs (lbd_int h0) (lbd_int (by omega)) ⟨by omega, by omega⟩
@[simp] theorem lpart_nil {s : Nat} (hu : P.underlying t = some (.slice e)) (hs : sz P e = some s) : lpart P t (.slice none 0 0) none none = some (.slice none 0 0) := by
  unfold lpart; simp [hu, lbd, hs]
/-! ### elements -/
def lixa (P : Program) (t : TypeId) (x i : Value) (H : LH) : Option (Value × LH) := match x, i, P.underlying t with
  | .slice (some ⟨l, off, none⟩) n _, .int _ k, some (.slice e) => match sz P e with
    | some s => if 0 ≤ k ∧ k < n then some (.pointer (some ⟨l, off + k.toNat * s, none⟩), H) else none
    | none => none
  | _, _, _ => none
@[simp ↓] theorem lopx_indexAddr {x i : Operand} : lopx P T (.indexAddr t x i) fr H = lixa P t (ev fr x) (ev fr i) H := rfl
@[simp] theorem lixa_row {s off n c : Nat} (hu : P.underlying t = some (.slice e)) (hs : sz P e = some s) (h0 : 0 ≤ i) (h1 : i < n) : lixa P t (.slice (some ⟨l, off, none⟩) n c) (.int kd i) H = some (ptr l (off + i.toNat * s), H) := by
  simp only [lixa, hu, hs, if_pos (And.intro h0 h1)]
/-! ### append -/
def lesrc (P : Program) (t : TypeId) (y : Value) (H : LH) : Option (Nat × List Value) :=
  match P.underlying t with
  | some (.slice e) => match lesz P e with
    | some s => lsrc s y H
    | none => none
  | _ => none
@[simp] theorem lesrc_nil {s : Nat} (hu : P.underlying t = some (.slice e)) (hs : lesz P e = some s) : lesrc P t (.slice none 0 0) H = some (0, []) := by
  simp only [lesrc, hu, hs, lsrc]
@[simp] theorem lesrc_row {s o n c : Nat} (hu : P.underlying t = some (.slice e)) (hs : lesz P e = some s) (hb : H.get l = some b) (hle : o + n * s ≤ b.cells.length) : lesrc P t (.slice (some ⟨l, o, none⟩) n c) H = some (n, (b.cells.drop o).take (n * s)) := by
  simp only [lesrc, hu, hs, lsrc, hb, lcells, if_pos hle, Option.map_some]
def lapp (P : Program) (t : TypeId) (x : Value) (src : Option (Nat × List Value)) (H : LH) : Option (Value × LH) :=
  match P.underlying t, src with
  | some (.slice e), some (m, new) =>
    match lesz P e with
    | some s =>
        if new.all cellB then
          match x with
          | .slice none 0 0 => if m = 0 then some (x, H) else if m ≤ maxElems then some (.slice (some ⟨H.n, 0, none⟩) m m, H.new ⟨new, e, true⟩) else none
          | .slice (some ⟨l, o, none⟩) n c =>
            match H.get l with
            | some b =>
              if b.rw = true ∧ b.elem = e ∧ o = 0 ∧ b.cells.length = c * s ∧ n ≤ c then
                if m = 0 then some (x, H)
                else if n + m ≤ c then some (.slice (some ⟨l, 0, none⟩) (n + m) c, H.set l { b with cells := splice b.cells (n * s) new })
                else if n = c ∧ n + m ≤ maxElems then some (.slice (some ⟨H.n, 0, none⟩) (n + m) (n + m), (H.kill l).new ⟨b.cells ++ new, e, true⟩)
                else none
              else none
            | none => none
          | _ => none
        else none
    | none => none
  | _, _ => none
theorem lappend_eq {x y : Value} : lappend P t t x y H = lapp P t x (lesrc P t y H) H := by
  unfold lappend lapp lesrc
  cases P.underlying t with
  | none => rfl
  | some u =>
    cases u <;> try rfl
    rename_i e
    dsimp only
    cases hz : lesz P e with
    | none => rfl
    | some s =>
      dsimp only
      rw [if_pos rfl]
      cases lsrc s y H with
      | none => rfl
      | some q =>
        obtain ⟨m, new⟩ := q
        simp only [hz]
        rfl
@[simp] theorem lbuiltin_append {x y : Value} : lbuiltin P .append [t, t] [x, y] H = lapp P t x (lesrc P t y H) H := by
  rw [← lappend_eq]; simp only [lbuiltin]
theorem lbuiltin_appends {u : TypeId} {x : Value} {z : List UInt8} (hne : t ≠ u) (ht : P.underlying t = some (.slice e)) (hu : P.underlying u = some .string) (hs : lesz P e = some 1) (hz : zr P e = some (.int .u8 0)) (hb : byts P e = some 1) :
    lbuiltin P .append [t, u] [x, str z] H = lapp P t x (some (z.length, z.map fun b => Value.int .u8 b.toNat)) H := by
  have e1 : lsrcS P u e 1 (str z) = some (z.length, z.map fun b => Value.int .u8 b.toNat) := by
    unfold lsrcS str
    simp only [hu, hz, hb, and_self, if_true]
    rw [ba_size]
    rfl
  show lappend P t u x (str z) H = _
  unfold lappend lapp
  simp only [ht, hs, if_neg hne, e1]
  rfl
variable {new : List Value} {s n cp : Nat}
@[simp] theorem lapp_nil (hu : P.underlying t = some (.slice e)) (hs : lesz P e = some s) (hc : new.all cellB = true) (hm : m ≠ 0) (hM : m ≤ maxElems) : lapp P t (.slice none 0 0) (some (m, new)) H = some (sl H.n m m, H.new ⟨new, e, true⟩) := by
  simp only [lapp, hu, hs, hc, hm, hM, if_true, if_false]
@[simp] theorem lapp_nil0 (hu : P.underlying t = some (.slice e)) (hs : lesz P e = some s) : lapp P t (.slice none 0 0) (some (0, [])) H = some (.slice none 0 0, H) := by
  simp [lapp, hu, hs]
theorem lapp_grow (hu : P.underlying t = some (.slice e)) (hs : lesz P e = some s) (hc : new.all cellB = true) (hm : m ≠ 0) (hM : n + m ≤ maxElems) (hb : H.get l = some b) (hrw : b.rw = true) (he : b.elem = e) (hl : b.cells.length = n * s) : lapp P t (sl l n n) (some (m, new)) H = some (sl H.n (n + m) (n + m), (H.kill l).new ⟨b.cells ++ new, e, true⟩) := by
  have h1 : ¬ n + m ≤ n := by omega
  simp only [lapp, hu, hs, hc, hb, if_true]
  rw [if_pos ⟨hrw, he, trivial, hl, Nat.le_refl _⟩, if_neg hm, if_neg h1, if_pos ⟨trivial, hM⟩]
theorem lapp_in (hu : P.underlying t = some (.slice e)) (hs : lesz P e = some s) (hc : new.all cellB = true) (hm : m ≠ 0) (hb : H.get l = some b) (hrw : b.rw = true) (he : b.elem = e) (hl : b.cells.length = cp * s) (hn : n + m ≤ cp) : lapp P t (sl l n cp) (some (m, new)) H = some (sl l (n + m) cp, H.set l { b with cells := splice b.cells (n * s) new }) := by
  simp only [lapp, hu, hs, hc, hb, if_true]
  rw [if_pos ⟨hrw, he, trivial, hl, by omega⟩, if_neg hm, if_pos hn]
/-! ### new rows -/
def denseB : List (Nat × Value) → Nat → Bool
  | [], _ => true
  | (i, v) :: ps, k => i == k && cellB v && denseB ps (k + 1)
@[simp] theorem denseB_nil {k : Nat} : denseB [] k = true := rfl
@[simp] theorem denseB_cons {k i : Nat} {v : Value} {ps : List (Nat × Value)} : denseB ((i, v) :: ps) k = (i == k && cellB v && denseB ps (k + 1)) := rfl
theorem fill_dense {pl : Nat → Option (Nat × Nat)} : ∀ (ps : List (Nat × Value)) (pre post : List Value), (∀ j, j < pre.length + ps.length → pl j = some (j, 1)) → denseB ps pre.length = true → post.length = ps.length → Instr.fill pl (pre ++ post).toArray ps = some (pre ++ ps.map Prod.snd).toArray
  | [], pre, post, _, _, h => by
    have : post = [] := List.length_eq_zero_iff.1 h
    subst this; simp [Instr.fill]
  | (i, v) :: ps, pre, post, hp, hd, h => by
    cases post with
    | nil => simp at h
    | cons z post =>
    simp only [denseB, Bool.and_eq_true, beq_iff_eq] at hd
    obtain ⟨⟨rfl, hv⟩, hd⟩ := hd
    have e1 := cells_one hv
    unfold Instr.fill
    rw [hp _ (by simp)]
    simp only [e1]
    rw [if_neg (by simp)]
    have e2 : ((#[v] : Array Value).zipIdx.foldl (fun cs (c, j) => cs.setIfInBounds (pre.length + j) c) (pre ++ z :: post).toArray) = ((pre ++ [v]) ++ post).toArray := by
      simp
    rw [e2, fill_dense ps (pre ++ [v]) post (fun j hj => hp j (by simp at hj ⊢; omega)) (by simpa using hd) (by simpa using h)]
    simp
theorem dense_known : ∀ (ps : List (Nat × Value)) (k : Nat), denseB ps k = true → (ps.all fun p => knownB p.2) = true
  | [], _, _ => rfl
  | (i, v) :: ps, k, h => by
    simp only [denseB, Bool.and_eq_true, beq_iff_eq] at h
    have : knownB v = true := by cases v <;> first | rfl | (have := h.1.2; simp [cellB] at this)
    simp only [List.all_cons, this, dense_known ps _ h.2, Bool.and_self]
@[simp ↓] theorem lopx_buildSlice {ps : List (Nat × Operand)} : lopx P T (.buildSlice t n ⟨ps⟩) fr H = lbuildSlice P t n (ps.map fun p => (p.1, ev fr p.2)) H := rfl
theorem lbs_dense {z : Value} {ps : List (Nat × Value)} (hu : P.underlying t = some (.slice e)) (hs : sz P e = some 1) (hz : zr P e = some z) (hf : flatB z = true) (hz1 : cellB z = true) (hn : n = ps.length) (hle : n ≤ 65536) (hd : denseB ps 0 = true) : lbuildSlice P t n ps H = some (sl H.n n n, H.new ⟨ps.map Prod.snd, e, true⟩) := by
  subst hn
  have hk : ∀ p ∈ ps, knownB p.2 = true := by simpa using dense_known ps 0 hd
  unfold lbuildSlice
  simp only [hu, hs, hz]
  rw [if_pos (by
    simp only [Bool.and_eq_true, decide_eq_true_eq, beq_iff_eq, List.all_eq_true]
    exact ⟨⟨⟨⟨hf, by omega⟩, by omega⟩, by rw [cells_one hz1]; rfl⟩, hk⟩)]
  have e0 : ((Array.range (ps.length * 1)).map fun j => z.cells[j % z.cells.size]!) = (([] : List Value) ++ List.replicate ps.length z).toArray := by
    rw [cells_one hz1]
    apply Array.ext
    · simp
    · intro i h1 h2
      simp [Nat.mod_one]
  rw [e0, fill_dense ps [] (List.replicate ps.length z) (fun j _ => by simp) hd (by simp)]
  simp
attribute [simp] lbs_dense
/-! ### conversions -/
@[simp] theorem lconv_ii {a c : TypeId} {k1 k2 : IntKind} {n : Int} (h1 : P.underlying a = some (.int k1)) (h2 : P.underlying c = some (.int k2)) : lconv P a c (.int k1 n) H = some (.int k2 (k2.wrap n)) := by
  have e : pureVal P (convert a c (.int k1 n)) = some (.int k2 (k2.wrap n)) := by
    simp only [convert, pureVal_bind, pureVal_und, h1, h2, Option.bind_some]
    rfl
  unfold lconv
  simp only [flat_int, if_true, pureFlat, e]
def lbs : List Value → Option (List UInt8)
  | [] => some []
  | v :: l => (lbyte v).bind fun b => (lbs l).map (b :: ·)
theorem lbs_eq : ∀ l : List Value, l.mapM lbyte = lbs l
  | [] => rfl
  | v :: l => by
    rw [List.mapM_cons, lbs_eq l, lbs]
    cases lbyte v <;> cases lbs l <;> rfl
def bv (x : UInt8) : Value := .int .u8 x.toNat
@[simp] theorem lbyte_bv {x : UInt8} : lbyte (.int .u8 x.toNat) = some x := by simp [lbyte]
@[simp] theorem lbs_nil : lbs [] = some [] := rfl
@[simp] theorem lbs_cons {v : Value} {l : List Value} : lbs (v :: l) = (lbyte v).bind fun b => (lbs l).map (b :: ·) := rfl
@[simp] theorem lbs_map : ∀ l : List UInt8, lbs (l.map bv) = some l
  | [] => rfl
  | a :: l => by simp only [List.map_cons, lbs, bv, lbyte_bv, Option.bind_some, lbs_map l, Option.map_some]
theorem lconv_bs {a c e : TypeId} {o n cp : Nat} {z : List UInt8} (h1 : P.underlying a = some (.slice e)) (h2 : P.underlying c = some .string) (h3 : P.underlying e = some (.int .u8)) (hb : H.get l = some b) (hle : o + n ≤ b.cells.length) (hz : lbs ((b.cells.drop o).take n) = some z) : lconv P a c (.slice (some ⟨l, o, none⟩) n cp) H = some (str z) := by
  have e1 : flatB (.slice (some ⟨l, o, none⟩) n cp) = false := by simp [flatB, flat1B, atomB]
  unfold lconv lbstr
  simp only [e1, h1, h2, h3, hb, lcells, if_pos hle, lbs_eq, hz, Option.map_some]
  rfl
/-! ### structs -/
/-- where the fields of a struct lie -/
def plc (P : Program) (t : TypeId) : Option (List (Nat × Nat)) := match P.underlying t with
  | some (.struct fs) => fs.toList.mapM (fun f => (P.info? f.type).map fun i => (f.offset, i.size))
  | _ => none
def plcB (P : Program) (t : TypeId) : Bool := (plc P t).isSome
def lfill (P : Program) (t : TypeId) (cs : List Value) (ps : List (Nat × Value)) : Option (List Value) := match plc P t with
  | some pl => (Instr.fill (pl.toArray[·]?) cs.toArray ps).map Array.toList
  | none => none
theorem mapM_get {α β : Type} {f : α → Option β} : ∀ {l : List α} {r : List β}, l.mapM f = some r → ∀ (i : Nat) x, l[i]? = some x → r[i]? = f x
  | [], r, h, i, x, hx => by simp at hx
  | a :: l, r, h, i, x, hx => by
    simp only [List.mapM_cons, Option.bind_eq_bind, Option.pure_def] at h
    cases ha : f a with
    | none => simp [ha] at h
    | some y =>
      simp only [ha, Option.bind_some] at h
      cases hl : l.mapM f with
      | none => simp [hl] at h
      | some ys =>
        simp only [hl, Option.bind_some, Option.some.injEq] at h
        subst h
        cases i with
        | zero => simp at hx; subst hx; simp [ha]
        | succ i => simpa using mapM_get hl i x (by simpa using hx)
theorem plc_get {pl : List (Nat × Nat)} (hp : plc P t = some pl) {i o n : Nat} {g : Bool} (hf : fldi P t i = some (o, n, g)) : pl[i]? = some (o, n) := by
  unfold fldi at hf
  unfold plc at hp
  split at hf
  · rename_i fs hu
    rw [hu] at hp
    split at hf
    · rename_i fd hfd
      split at hf
      · rename_i n' g' hs ha
        simp only [Option.some.injEq, Prod.mk.injEq] at hf
        obtain ⟨rfl, rfl, rfl⟩ := hf
        rw [mapM_get hp i fd (by simpa using hfd)]
        unfold sz at hs
        cases hi : P.info? fd.type with
        | none => simp [hi] at hs
        | some it => simp [hi] at hs; simp [hs]
      · cases hf
    · cases hf
  · cases hf
@[simp] theorem lfill_nil {cs : List Value} (h : plcB P t = true) : lfill P t cs [] = some cs := by
  unfold plcB at h
  unfold lfill
  cases hp : plc P t with
  | none => simp [hp] at h
  | some pl => rfl
theorem fold_splice : ∀ (vs : List Value) (pre cs : List Value) (off : Nat), off + pre.length + vs.length ≤ cs.length → (vs.toArray.zipIdx pre.length).foldl (fun cs (c, j) => cs.setIfInBounds (off + j) c) cs.toArray = (splice cs (off + pre.length) vs).toArray
  | [], pre, cs, off, h => by
    rw [show (([] : List Value).toArray.zipIdx pre.length) = #[] from by apply Array.ext <;> simp]
    simp [splice]
  | v :: vs, pre, cs, off, h => by
    have hh : off + pre.length < cs.length := by simp at h; omega
    have ih := fold_splice vs (pre ++ [v]) (cs.set (off + pre.length) v) off (by simp at h ⊢; omega)
    have e : (v :: vs).toArray.zipIdx pre.length = ((v, pre.length) :: (vs.zipIdx (pre.length + 1))).toArray := by simp
    rw [e]
    have e2 : (vs.toArray.zipIdx (pre ++ [v]).length) = (vs.zipIdx (pre.length + 1)).toArray := by simp
    rw [e2] at ih
    simp only [List.foldl_toArray', List.size_toArray, List.foldl_cons, List.setIfInBounds_toArray] at ih ⊢
    rw [ih]
    congr 1
    unfold splice
    simp only [List.length_append, List.length_cons, List.length_nil, Nat.zero_add, ← Nat.add_assoc]
    rw [List.take_set, List.drop_set, if_pos (by omega)]
    have e3 : (cs.take (off + pre.length + 1)).set (off + pre.length) v = cs.take (off + pre.length) ++ [v] := by
      rw [List.take_succ_eq_append_getElem hh, List.set_append, if_neg (by simp; omega)]
      simp [Nat.min_eq_left (Nat.le_of_lt hh)]
    rw [e3]
    simp [Nat.add_assoc, Nat.add_comm, Nat.add_left_comm]
theorem lfill_step {cs : List Value} {i o n : Nat} {g : Bool} {v : Value} {ps : List (Nat × Value)} (hf : fldi P t i = some (o, n, g)) (hn : v.cells.toList.length = n) (ho : o + n ≤ cs.length) : lfill P t cs ((i, v) :: ps) = lfill P t (splice cs o v.cells.toList) ps := by
  unfold lfill
  cases hp : plc P t with
  | none => rfl
  | some pl =>
    have h1 : pl.toArray[i]? = some (o, n) := by simpa using plc_get hp hf
    simp only [Instr.fill, h1]
    rw [if_neg (by simp at hn ⊢; omega)]
    have := fold_splice v.cells.toList [] cs o (by simp at hn ⊢; omega)
    simp only [List.length_nil, Nat.add_zero, Array.toArray_toList] at this
    rw [this]
@[simp] theorem lfill_cell {cs : List Value} {i o n : Nat} {g : Bool} {v : Value} {ps : List (Nat × Value)} (hf : fldi P t i = some (o, n, g)) (hn : n = 1) (hv : cellB v = true) (ho : o < cs.length) : lfill P t cs ((i, v) :: ps) = lfill P t (cs.set o v) ps := by
  subst hn
  rw [lfill_step hf (by rw [cells_one hv]; rfl) (by omega)]
  congr 1
  rw [cells_one hv]
  unfold splice
  rw [List.set_eq_take_append_cons_drop, if_pos ho]; simp
@[simp] theorem lfill_agg {cs vs : List Value} {i o n : Nat} {g : Bool} {ps : List (Nat × Value)} (hf : fldi P t i = some (o, n, g)) (hn : vs.length = n) (ho : o + n ≤ cs.length) : lfill P t cs ((i, .agg ⟨vs⟩) :: ps) = lfill P t (splice cs o vs) ps :=
  lfill_step hf hn ho
def lbE (P : Program) (t : TypeId) (z : Option Value) (ps : List (Nat × Value)) : Option Value :=
  match z with
  | some z => if ps.all (fun p => knownB p.2) && flatB z then (lfill P t z.cells.toList ps).map fun cs => .agg ⟨cs⟩ else none
  | none => none
theorem lbuild_eq {ps : List (Nat × Value)} : lbuild P t ps = lbE P t (zr P t) ps := by
  unfold lbuild lbE zr lfill plc
  cases hi : P.info? t with
  | none => simp
  | some it =>
    simp only [Option.bind_some]
    have hz : it.zero = none ∨ ∃ z, it.zero = some z := by cases it.zero <;> simp
    rcases hz with hz | ⟨z, hz⟩
    · simp [hz]
    · simp only [hz, Option.any_some]
      split
      · cases hu : P.underlying t with
        | none => rfl
        | some u =>
          cases u <;> try rfl
          rename_i fs
          simp only [Program.built, hi, hu, hz]
          cases fs.toList.mapM (fun f => (P.info? f.type).map fun i => (f.offset, i.size)) with
          | none => rfl
          | some pl =>
            simp only [Array.toArray_toList]
            cases Instr.fill (pl.toArray[·]?) z.cells ps with
            | none => rfl
            | some cs => rfl
      · rfl
@[simp ↓] theorem lopx_build {ps : List (Nat × Operand)} : lopx P T (.build t ⟨ps⟩) fr H = withH (lbE P t (zr P t) (ps.map fun p => (p.1, ev fr p.2))) H := by
  rw [← lbuild_eq]; rfl
def knownL : List (Nat × Value) → Bool
  | [] => true
  | (_, v) :: ps => knownB v && knownL ps
@[simp] theorem knownL_nil : knownL [] = true := rfl
@[simp] theorem knownL_cons {i : Nat} {v : Value} {ps : List (Nat × Value)} : knownL ((i, v) :: ps) = (knownB v && knownL ps) := rfl
theorem known_of_cell {v : Value} (h : cellB v = true) : knownB v = true := by cases v <;> first | rfl | (simp [cellB] at h)
attribute [simp] known_of_cell
@[simp] theorem known_agg {a : Array Value} : knownB (.agg a) = true := rfl
theorem knownL_eq : ∀ (ps : List (Nat × Value)), ps.all (fun p => knownB p.2) = knownL ps
  | [] => rfl
  | (i, v) :: ps => by simp only [List.all_cons, knownL, knownL_eq ps]
theorem lbE_agg {z : List Value} {ps : List (Nat × Value)} (hk : knownL ps = true) (hz : z.all atomB = true) : lbE P t (some (.agg ⟨z⟩)) ps = (lfill P t z ps).map fun cs => .agg ⟨cs⟩ := by
  have : flatB (.agg ⟨z⟩) = true := hz
  simp only [lbE, knownL_eq, hk, this, Bool.and_self, if_true, Value.cells]
attribute [simp] lbE_agg
/-! ### fields of struct values -/
def lfld (i : Option (Nat × Nat × Bool)) (x : Value) : Option Value := match i, x with
  | some (o, n, true), .agg cs => some (.agg (cs.extract o (o + n)))
  | some (o, _, false), .agg cs => cs[o]?
  | _, _ => none
theorem lopx_field {x : Operand} {f : Nat} {i : Nat × Nat × Bool} (h : fldi P t f = some i) : lopx P T (.field t x f) fr H = withH (lfld (some i) (ev fr x)) H := by
  unfold fldi at h
  show (match P.underlying t, ev fr x with | some (.struct fs), .agg cs => _ | _, _ => none) = _
  split at h
  · rename_i fs hu
    split at h
    · rename_i fd hf
      split at h
      · rename_i n g hs ha
        injection h with h
        subst h
        rw [hu]
        unfold lfld
        cases ev fr x <;> cases g <;> simp only [hf, hs, ha, withH, Option.map_some, Option.map_none]
      · cases h
    · cases h
  · cases h
attribute [simp] lopx_field
@[simp] theorem lfld_cell {o n : Nat} {cs : List Value} : lfld (some (o, n, false)) (.agg ⟨cs⟩) = cs[o]? := by simp [lfld]
@[simp] theorem lfld_agg {o n : Nat} {cs : List Value} : lfld (some (o, n, true)) (.agg ⟨cs⟩) = some (.agg ⟨(cs.drop o).take n⟩) := by simp [lfld]
/-! ### nil -/
@[simp] theorem lbin_pe {a : Option Addr} (hu : P.underlying t = some (.pointer e)) : lbin P .eql t (.pointer a) (.pointer none) = some (.bool a.isNone) := by
  cases a <;> simp [lbin, hu]
@[simp] theorem lbin_pn {a : Option Addr} (hu : P.underlying t = some (.pointer e)) : lbin P .neq t (.pointer a) (.pointer none) = some (.bool (!a.isNone)) := by
  cases a <;> simp [lbin, hu]
@[simp] theorem lbin_se {a : Option Addr} {n c : Nat} (hu : P.underlying t = some (.slice e)) : lbin P .eql t (.slice a n c) (.slice none 0 0) = some (.bool a.isNone) := by
  cases a <;> simp [lbin, hu]
@[simp] theorem lbin_sn {a : Option Addr} {n c : Nat} (hu : P.underlying t = some (.slice e)) : lbin P .neq t (.slice a n c) (.slice none 0 0) = some (.bool (!a.isNone)) := by
  cases a <;> simp [lbin, hu]
/-! ### greatest and least -/
@[simp] theorem lbuiltin_max {ts : List TypeId} {k k' : IntKind} {a b : Int} : lbuiltin P .max ts [.int k a, .int k' b] H = some (.int k (if a < b then b else a), H) := rfl
@[simp] theorem lbuiltin_min {ts : List TypeId} {k k' : IntKind} {a b : Int} : lbuiltin P .min ts [.int k a, .int k' b] H = some (.int k (if b < a then b else a), H) := rfl
/-! ### what a call leaves -/
theorem trunc_set {v : Value} (h : H.get l = some b) (hl : l < H.n) : trunc H (v, H.set l c) = (v, H.set l c) := by
  unfold trunc
  split
  · rename_i hc
    have := hc.2.2 l hl
    simp only [get_set, h, Option.some.injEq] at this
    have e : H.set l c = H := by
      cases H with
      | mk n g ho w0 ng =>
        simp only [LH.set, LH.mk.injEq, true_and, and_true]
        funext k
        split
        · rename_i e; subst e; rw [this]; exact h.symm
        · rfl
    rw [e]
  · rfl
theorem trunc_or (v : Value) (H H' : LH) : trunc H (v, H') = (v, H') ∨ trunc H (v, H') = (v, H) ∧ flatB v = true ∧ H.le H' := by
  unfold trunc
  split
  · exact .inr ⟨rfl, by assumption⟩
  · exact .inl rfl
end
end Go.Lg
