/-
  A logical run of Go code: regions whose order is open, with operations that allocate: every order comes to what the text's order comes to.
-/
import Derived.Test.YtgnefbngkhjfcaaDoorLgMix
set_option linter.unusedSimpArgs false
set_option linter.unusedVariables false
namespace Go.Lg
open Go.Tg Go.RowKit

section
variable {P : Program} {L : Loud} {T : Callee} {N n : Nat} {ops : Array Oper} {H0 H H' : LH} {st : Nat → Fr × LH} {fr fr' : Fr} {o : Oper} {v : Value}
def dstOf (ops : Array Oper) (j : Nat) : Option Tmp := (ops[j]?).bind (·.dst)
open Classical in
noncomputable def frS (ops : Array Oper) (n : Nat) (st : Nat → Fr × LH) (listed : Array Bool) : Fr := fun t => if ∃ j, j < n ∧ listed.getD j true = true ∧ dstOf ops j = some t then (st n).1 t else (st 0).1 t
open Classical in
noncomputable def frL (ops : Array Oper) (n : Nat) (st : Nat → Fr × LH) (H0 : LH) (listed : Array Bool) : Fr := fun t => if ∃ j, j < n ∧ listed.getD j true = true ∧ dstOf ops j = some t then (if ∃ j, j < n ∧ dstOf ops j = some t ∧ (st (j + 1)).2.n = H0.n then (st n).1 t else unk) else (st 0).1 t
def Un (n : Nat) (st : Nat → Fr × LH) (listed : Array Bool) (l : Nat) : Prop := ∃ j, j < n ∧ listed.getD j true = false ∧ (st j).2.n ≤ l ∧ l < (st (j + 1)).2.n
structure Tr (P : Program) (T : Callee) (N : Nat) (ops : Array Oper) (n : Nat) (H0 : LH) (st : Nat → Fr × LH) : Prop where
  sz : n ≤ ops.size
  h0 : (st 0).2 = H0
  step : ∀ i o, i < n → ops[i]? = some o → StepAt P T N ops H0 o (st i) (st (i + 1))
  inj : ∀ i k, i < n → k < n → dstOf ops i = dstOf ops k → i = k
  dep : ∀ i o t k, i < n → ops[i]? = some o → t ∈ Oper.looksAt ops o → dstOf ops k = some t → k < i ∧ Region.waitsFor .any ops i k = true
theorem lop_allocH (h : lop P T o fr H = some (v, H')) (hk : allocB o.op = true) : ∃ b, H' = H.new b := by
  unfold lop at h
  split at h <;> try (rename_i ho; rw [ho] at hk; cases hk; done)
  · split at h
    · simp only [Option.some.injEq, Prod.mk.injEq] at h; exact ⟨_, h.2.symm⟩
    · cases h
  · split at h
    · split at h
      · simp only [Option.some.injEq, Prod.mk.injEq] at h; exact ⟨_, h.2.symm⟩
      · cases h
    · cases h
  · unfold lbuildSlice at h
    split at h
    · split at h
      · split at h
        · split at h
          · split at h
            · simp only [Option.some.injEq, Prod.mk.injEq] at h; exact ⟨_, h.2.symm⟩
            · cases h
          · cases h
        · cases h
      · cases h
    · cases h
  · cases h
theorem lmixop_sub (h : lmixop P T o fr H0 H = some (v, H')) : Sub H H' := by
  rcases lmixop_cases h with ⟨rfl, _⟩ | ⟨rfl, _⟩ | ⟨rfl, _⟩ | ⟨h1, h2⟩
  · exact Sub.refl _
  · exact Sub.refl _
  · exact Sub.refl _
  · obtain ⟨b, rfl⟩ := lop_allocH h2 h1
    exact Sub.new _ _
namespace Tr
theorem op (tr : Tr P T N ops n H0 st) {i : Nat} (hi : i < n) : ∃ o, ops[i]? = some o ∧ StepAt P T N ops H0 o (st i) (st (i + 1)) :=
  ⟨_, Array.getElem?_eq_getElem (Nat.lt_of_lt_of_le hi tr.sz), tr.step i _ hi (Array.getElem?_eq_getElem (Nat.lt_of_lt_of_le hi tr.sz))⟩
theorem sub1 (tr : Tr P T N ops n H0 st) {i : Nat} (hi : i < n) : Sub (st i).2 (st (i + 1)).2 := by
  obtain ⟨o, ho, d, v, b, _, _, _, h, _⟩ := tr.op hi
  split at h
  · exact lmixop_sub h
  · rw [h.2]; exact Sub.refl _
theorem sub (tr : Tr P T N ops n H0 st) {i : Nat} : ∀ {j : Nat}, i ≤ j → j ≤ n → Sub (st i).2 (st j).2 := by
  intro j hij hj
  induction j with
  | zero => have : i = 0 := by omega
            subst this; exact Sub.refl _
  | succ j ih =>
    by_cases e : i = j + 1
    · subst e; exact Sub.refl _
    · exact (ih (by omega) (by omega)).trans (tr.sub1 (by omega))
theorem upd (tr : Tr P T N ops n H0 st) {i : Nat} (hi : i < n) : ∃ d v, dstOf ops i = some d ∧ d < N ∧ (st (i + 1)).1 = Lg.upd (st i).1 d v := by
  obtain ⟨o, ho, d, v, b, hd, hN, _, _, h⟩ := tr.op hi
  exact ⟨d, v, by simp [dstOf, ho, hd], hN, h⟩
theorem fdst (tr : Tr P T N ops n H0 st) {j : Nat} {d : Tmp} (hd : dstOf ops j = some d) : ∀ {i : Nat}, j < i → i ≤ n → (st i).1 d = (st (j + 1)).1 d := by
  intro i hji hi
  induction i with
  | zero => omega
  | succ i ih =>
    by_cases e : j = i
    · subst e; rfl
    · obtain ⟨d', v, hd', _, h⟩ := tr.upd (i := i) (by omega)
      rw [h]
      have hne : d ≠ d' := fun hx => e (tr.inj j i (by omega) (by omega) (by rw [hd, hd', hx]))
      show (if d = d' then v else (st i).1 d) = _
      rw [if_neg hne]
      exact ih (by omega) (by omega)
theorem fnone (tr : Tr P T N ops n H0 st) {t : Tmp} : ∀ {i : Nat}, (∀ j, j < i → dstOf ops j ≠ some t) → i ≤ n → (st i).1 t = (st 0).1 t := by
  intro i h hi
  induction i with
  | zero => rfl
  | succ i ih =>
    obtain ⟨d', v, hd', _, hu⟩ := tr.upd (i := i) (by omega)
    rw [hu]
    have hne : t ≠ d' := fun hx => h i (by omega) (by rw [hd', hx])
    show (if t = d' then v else (st i).1 t) = _
    rw [if_neg hne]
    exact ih (fun j hj => h j (by omega)) (by omega)
/-- what an operation that may come now looks at is as in the text's order -/
theorem agree (tr : Tr P T N ops n H0 st) {listed : Array Bool} {i : Nat} {o : Oper} (hi : i < n) (ho : ops[i]? = some o) (hr : ∀ k, Region.waitsFor .any ops i k = true → listed.getD k true = true) {t : Tmp} (ht : t ∈ Oper.looksAt ops o) : frS ops n st listed t = (st i).1 t := by
  unfold frS
  by_cases hex : ∃ k, dstOf ops k = some t
  · obtain ⟨k, hk⟩ := hex
    obtain ⟨h1, h2⟩ := tr.dep i o t k hi ho ht hk
    rw [if_pos ⟨k, by omega, hr k h2, hk⟩, tr.fdst hk (i := n) (by omega) (Nat.le_refl _), tr.fdst hk (i := i) h1 (by omega)]
  · rw [if_neg (fun ⟨j, _, _, hj⟩ => hex ⟨j, hj⟩)]
    exact (tr.fnone (fun j _ hj => hex ⟨j, hj⟩) (by omega)).symm
theorem agreeL (tr : Tr P T N ops n H0 st) {listed : Array Bool} {i : Nat} {o : Oper} (hi : i < n) (ho : ops[i]? = some o) (hr : ∀ k, Region.waitsFor .any ops i k = true → listed.getD k true = true) (hlow : (st i).2.n = H0.n) {t : Tmp} (ht : t ∈ Oper.looksAt ops o) : frL ops n st H0 listed t = (st i).1 t := by
  unfold frL
  by_cases hex : ∃ k, dstOf ops k = some t
  · obtain ⟨k, hk⟩ := hex
    obtain ⟨h1, h2⟩ := tr.dep i o t k hi ho ht hk
    have h3 : (st (k + 1)).2.n = H0.n := by
      have a1 := (tr.sub (i := 0) (j := k + 1) (by omega) (by omega)).n
      have a2 := (tr.sub (i := k + 1) (j := i) (by omega) (by omega)).n
      rw [tr.h0] at a1
      omega
    rw [if_pos ⟨k, by omega, hr k h2, hk⟩, if_pos ⟨k, by omega, hk, h3⟩, tr.fdst hk (i := n) (by omega) (Nat.le_refl _), tr.fdst hk (i := i) h1 (by omega)]
  · rw [if_neg (fun ⟨j, _, _, hj⟩ => hex ⟨j, hj⟩)]
    exact (tr.fnone (fun j _ hj => hex ⟨j, hj⟩) (by omega)).symm
theorem set_iff {listed : Array Bool} {i j : Nat} : (listed.setIfInBounds i true).getD j true = true ↔ listed.getD j true = true ∨ i = j := by
  by_cases e : i = j
  · subst e; simp [getD_set_self]
  · rw [getD_set_ne true e]; simp [e]
theorem frS_set (tr : Tr P T N ops n H0 st) {listed : Array Bool} {i : Nat} {d : Tmp} (hi : i < n) (hd : dstOf ops i = some d) : frS ops n st (listed.setIfInBounds i true) = Lg.upd (frS ops n st listed) d ((st n).1 d) := by
  funext t
  unfold frS Lg.upd
  by_cases e : t = d
  · subst e
    rw [if_pos rfl, if_pos ⟨i, hi, set_iff.2 (.inr rfl), hd⟩]
  · rw [if_neg e]
    have : (∃ j, j < n ∧ (listed.setIfInBounds i true).getD j true = true ∧ dstOf ops j = some t) ↔ ∃ j, j < n ∧ listed.getD j true = true ∧ dstOf ops j = some t := by
      constructor
      · rintro ⟨j, h1, h2, h3⟩
        rcases set_iff.1 h2 with h2 | h2
        · exact ⟨j, h1, h2, h3⟩
        · subst h2; rw [hd] at h3; injection h3 with h3; exact absurd h3.symm e
      · rintro ⟨j, h1, h2, h3⟩
        exact ⟨j, h1, set_iff.2 (.inl h2), h3⟩
    simp only [this]
theorem frL_set (tr : Tr P T N ops n H0 st) {listed : Array Bool} {i : Nat} {d : Tmp} (hi : i < n) (hd : dstOf ops i = some d) : ∃ x, (x = unk ∨ (x = (st n).1 d ∧ (st (i + 1)).2.n = H0.n)) ∧ frL ops n st H0 (listed.setIfInBounds i true) = Lg.upd (frL ops n st H0 listed) d x := by
  refine ⟨frL ops n st H0 (listed.setIfInBounds i true) d, ?_, ?_⟩
  · unfold frL
    rw [if_pos ⟨i, hi, set_iff.2 (.inr rfl), hd⟩]
    split
    · rename_i h
      obtain ⟨j, h1, h2, h3⟩ := h
      have : j = i := tr.inj j i h1 hi (by rw [h2, hd])
      subst this
      exact .inr ⟨rfl, h3⟩
    · exact .inl rfl
  · funext t
    unfold Lg.upd
    by_cases e : t = d
    · subst e; rw [if_pos rfl]
    · rw [if_neg e]
      unfold frL
      have : (∃ j, j < n ∧ (listed.setIfInBounds i true).getD j true = true ∧ dstOf ops j = some t) ↔ ∃ j, j < n ∧ listed.getD j true = true ∧ dstOf ops j = some t := by
        constructor
        · rintro ⟨j, h1, h2, h3⟩
          rcases set_iff.1 h2 with h2 | h2
          · exact ⟨j, h1, h2, h3⟩
          · subst h2; rw [hd] at h3; injection h3 with h3; exact absurd h3.symm e
        · rintro ⟨j, h1, h2, h3⟩
          exact ⟨j, h1, set_iff.2 (.inl h2), h3⟩
      simp only [this]
theorem un_set (tr : Tr P T N ops n H0 st) {listed : Array Bool} {i : Nat} (hi : i < n) (hun : listed.getD i true = false) (l : Nat) : Un n st (listed.setIfInBounds i true) l ↔ Un n st listed l ∧ ¬ ((st i).2.n ≤ l ∧ l < (st (i + 1)).2.n) := by
  constructor
  · rintro ⟨j, h1, h2, h3, h4⟩
    have hne : i ≠ j := fun e => by subst e; rw [getD_set_self] at h2; cases h2
    rw [getD_set_ne true hne] at h2
    refine ⟨⟨j, h1, h2, h3, h4⟩, fun ⟨h5, h6⟩ => ?_⟩
    rcases Nat.lt_or_gt_of_ne hne with h7 | h7
    · have := (tr.sub (i := i + 1) (j := j) (by omega) (by omega)).n
      omega
    · have := (tr.sub (i := j + 1) (j := i) (by omega) (by omega)).n
      omega
  · rintro ⟨⟨j, h1, h2, h3, h4⟩, h5⟩
    have hne : i ≠ j := fun e => by subst e; exact h5 ⟨h3, h4⟩
    exact ⟨j, h1, by rw [getD_set_ne true hne]; exact h2, h3, h4⟩
theorem un_all (tr : Tr P T N ops n H0 st) {listed : Array Bool} (hno : ∀ j, j < n → listed.getD j true = false) (l : Nat) (hl : l < (st n).2.n) : Un n st listed l ↔ H0.n ≤ l := by
  constructor
  · rintro ⟨j, h1, h2, h3, h4⟩
    have := (tr.sub (i := 0) (j := j) (by omega) (by omega)).n
    rw [tr.h0] at this
    omega
  · intro h
    have key : ∀ m, m ≤ n → l < (st m).2.n → ∃ j, j < m ∧ (st j).2.n ≤ l ∧ l < (st (j + 1)).2.n := by
      intro m
      induction m with
      | zero => intro _ h1; rw [tr.h0] at h1; omega
      | succ m ih =>
        intro hm h1
        rcases Nat.lt_or_ge l (st m).2.n with h2 | h2
        · obtain ⟨j, a, b, c⟩ := ih (by omega) h2
          exact ⟨j, by omega, b, c⟩
        · exact ⟨m, by omega, h2, h1⟩
    obtain ⟨j, a, b, c⟩ := key n (Nat.le_refl _) hl
    exact ⟨j, a, hno j a, b, c⟩
end Tr
theorem lwant_congr (h : ∀ t ∈ Oper.looksAt ops o, fr t = fr' t) : lwant ops fr o = lwant ops fr' o := by
  unfold lwant
  cases hg : o.guard with
  | none => rfl
  | some g =>
    obtain ⟨j, want⟩ := g
    simp only
    cases hd : (ops[j]?).bind (·.dst) with
    | none => rfl
    | some d =>
      simp only
      rw [h d (by simp [Oper.looksAt, hg, hd])]
theorem ev_congr (h : ∀ t ∈ Oper.looksAt ops o, fr t = fr' t) : ∀ x ∈ o.op.operands, ev fr x = ev fr' x := by
  intro x hx
  cases x with
  | tmp t =>
    refine h t ?_
    unfold Oper.looksAt
    refine List.mem_append_left _ (List.mem_filterMap.2 ⟨.tmp t, by simpa using hx, rfl⟩)
  | _ => rfl
end

section
variable {P : Program} {L : Loud} {T : Callee} {N n : Nat} {ops : Array Oper} {H0 HF : LH} {st : Nat → Fr × LH} {ι0 : Ren} {w0 : World} {a0 : Act} {r : Fr × LH}
/-- some of what may come in any order has not come yet -/
structure PA (P : Program) (N : Nat) (ops : Array Oper) (n : Nat) (H0 : LH) (st : Nat → Fr × LH) (ι0 : Ren) (w0 : World) (a0 : Act) (listed : Array Bool) (a : Act) (w : World) : Prop where
  inv : HeadInv .any ops n listed
  some_ : ∃ i, i < n ∧ listed.getD i true = false
  ex : ∃ ι, Out P H0 ι0 w0 ((st n).2.cut (Un n st listed)) ι w ∧ FrR ((st n).2.cut (Un n st listed)).D ι N (frS ops n st listed) a.tmps
  low : FrR H0.D ι0 N (frL ops n st H0 listed) a.tmps
  chg : Change (fun _ => False) w0 w
  defers : a.defers = a0.defers
/-- all that stands ahead of t has come -/
structure PB (P : Program) (T : Callee) (N : Nat) (ops : Array Oper) (n : Nat) (H0 : LH) (ι0 : Ren) (w0 : World) (a0 : Act) (r : Fr × LH) (t : Nat) (listed : Array Bool) (a : Act) (w : World) : Prop where
  le : t ≤ ops.size
  ge : n ≤ t
  size : listed.size = ops.size
  lst : ∀ j, j < ops.size → listed.getD j true = decide (j < t)
  ex : ∃ fr H ι, lops P T N ops (ops.toList.drop t) fr H = some r ∧ Out P H0 ι0 w0 H ι w ∧ FrR H.D ι N fr a.tmps
  defers : a.defers = a0.defers
theorem getD_ft {listed : Array Bool} {k : Nat} (h : listed.getD k false = true) : listed.getD k true = true := by
  rcases Nat.lt_or_ge k listed.size with h' | h'
  · simp [h'] at h ⊢; exact h
  · simp [Array.getElem?_eq_none h']
theorem getD_tf {listed : Array Bool} {k : Nat} (hk : k < listed.size) (h : listed.getD k true = true) : listed.getD k false = true := by
  simp [hk] at h ⊢; exact h
theorem not_true_false {listed : Array Bool} {k : Nat} : listed.getD k true = true ∨ listed.getD k true = false := by cases listed.getD k true <;> simp
theorem out_change (hrel : Rel P H0 ι0 w0) {w' : World} (hw' : Change (fun _ => False) w0 w') : Out P H0 ι0 w0 H0 ι0 w' :=
  ⟨rel_change hrel hw', Nat.le_refl _, fun _ h => h, fun _ _ => rfl, hw'.mono (fun _ _ h => h.elim), fun k hk => .inl hk⟩
/-- all that may come in any order has come -/
theorem pb_of_all (tr : Tr P T N ops n H0 st) (hf : lops P T N ops (ops.toList.drop n) (st n).1 (st n).2 = some r) {listed : Array Bool} {a : Act} {w : World} (inv : HeadInv .any ops n listed) (hall : ∀ i, i < n → listed.getD i true = true)
    (hex : ∃ ι, Out P H0 ι0 w0 ((st n).2.cut (Un n st listed)) ι w ∧ FrR ((st n).2.cut (Un n st listed)).D ι N (frS ops n st listed) a.tmps) (hd : a.defers = a0.defers) : PB P T N ops n H0 ι0 w0 a0 r n listed a w := by
  obtain ⟨ι, h1, h2⟩ := hex
  have e1 : (st n).2.cut (Un n st listed) = (st n).2 := cut_none (fun l ⟨j, hj, hl, _⟩ => by rw [hall j hj] at hl; cases hl)
  have e2 : frS ops n st listed = (st n).1 := by
    funext t
    unfold frS
    split
    · rfl
    · rename_i h
      exact (tr.fnone (fun j hj hd => h ⟨j, hj, hall j hj, hd⟩) (Nat.le_refl _)).symm
  rw [e1] at h1 h2
  rw [e2] at h2
  refine ⟨tr.sz, Nat.le_refl _, inv.size, fun j hj => ?_, ⟨_, _, ι, hf, h1, h2⟩, hd⟩
  rcases Nat.lt_or_ge j n with h | h
  · rw [hall j h]; simp [h]
  · rw [inv.tail j h hj]; simp; omega
/-- one of them comes -/
theorem pa_next (tr : Tr P T N ops n H0 st) (hf : lops P T N ops (ops.toList.drop n) (st n).1 (st n).2 = some r) {listed : Array Bool} {a : Act} {w w' : World} (pa : PA P N ops n H0 st ι0 w0 a0 listed a w) {i : Nat} (hi : i ∈ Region.ready .any ops listed) (hin : i < n) {d : Tmp} (hd : dstOf ops i = some d) (hdN : d < N)
    {ι ι' : Ren} {v' : Value} (hout0 : Out P H0 ι0 w0 ((st n).2.cut (Un n st listed)) ι w) (hfr0 : FrR ((st n).2.cut (Un n st listed)).D ι N (frS ops n st listed) a.tmps)
    (hout : Out P ((st n).2.cut (Un n st listed)) ι w ((st n).2.cut (Un n st (listed.setIfInBounds i true))) ι' w') (hv : VR ((st n).2.cut (Un n st (listed.setIfInBounds i true))).D ι' ((st n).1 d) v')
    (hlow : (st (i + 1)).2.n = H0.n → VR H0.D ι0 ((st n).1 d) v') (hchg : Change (fun _ => False) w w') :
    PA P N ops n H0 st ι0 w0 a0 (listed.setIfInBounds i true) (a.put (some d) v') w' ∨ ∃ t, PB P T N ops n H0 ι0 w0 a0 r t (listed.setIfInBounds i true) (a.put (some d) v') w' := by
  have inv := pa.inv.set hi hin
  have hout2 := hout0.trans hout
  have hfr2 : FrR ((st n).2.cut (Un n st (listed.setIfInBounds i true))).D ι' N (frS ops n st (listed.setIfInBounds i true)) (a.put (some d) v').tmps := by
    rw [tr.frS_set hin hd]
    exact (hfr0.mono hout.sub hout.same).put (d := some d) (v := (st n).1 d) (by simp [lput, hdN]) hv
  have hd2 : (a.put (some d) v').defers = a0.defers := by rw [put_defers]; exact pa.defers
  by_cases hex : ∃ j, j < n ∧ (listed.setIfInBounds i true).getD j true = false
  · left
    refine ⟨inv, hex, ⟨ι', hout2, hfr2⟩, ?_, pa.chg.trans hchg (fun _ h => h.elim), hd2⟩
    obtain ⟨x, hx, e⟩ := tr.frL_set (listed := listed) hin hd
    rw [e]
    refine pa.low.put (d := some d) (v := x) (by simp [lput, hdN]) ?_
    rcases hx with rfl | ⟨rfl, hx⟩
    · exact .any _
    · exact hlow hx
  · right
    exact ⟨n, pb_of_all tr hf inv (fun j hj => by
      rcases not_true_false (listed := listed.setIfInBounds i true) (k := j) with h | h
      · exact h
      · exact absurd ⟨j, hj, h⟩ hex) ⟨ι', hout2, hfr2⟩ hd2⟩
theorem pa_step (hT : TOk P T) (hrel : Rel P H0 ι0 w0) (tr : Tr P T N ops n H0 st) (hf : lops P T N ops (ops.toList.drop n) (st n).1 (st n).2 = some r) {listed : Array Bool} {a : Act} {w : World} (pa : PA P N ops n H0 st ι0 w0 a0 listed a w) {i : Nat} (hi : i ∈ Region.ready .any ops listed) (hin : i < n) {Q : Exit → Act → World → Prop} :
    wpOp P ops Q i (fun a' w' => PA P N ops n H0 st ι0 w0 a0 (listed.setIfInBounds i true) a' w' ∨ ∃ t, PB P T N ops n H0 ι0 w0 a0 r t (listed.setIfInBounds i true) a' w') a w := by
  obtain ⟨o, ho, d, v, b, hdo, hdN, hw, hv, hst⟩ := tr.op hin
  obtain ⟨hun, o', ho', hall⟩ := mem_ready.1 hi
  have e : o' = o := Option.some.inj (ho'.symm.trans ho)
  subst e
  have hd : dstOf ops i = some d := by simp [dstOf, ho, hdo]
  have hwait : ∀ k, Region.waitsFor .any ops i k = true → listed.getD k true = true := fun k hk => by
    obtain ⟨oj, hoj, e, he, hb, hon⟩ := Region.waitsFor_spec hk
    have : oj = o' := Option.some.inj (hoj.symm.trans ho)
    subst this
    rw [← hon]; exact getD_ft (hall e he hb)
  have hag : ∀ t ∈ Oper.looksAt ops o', frS ops n st listed t = (st i).1 t := fun t ht => tr.agree hin ho hwait ht
  have hvd : (st n).1 d = v := by
    rw [tr.fdst hd hin (Nat.le_refl _), hst]
    show (if d = d then v else _) = v
    rw [if_pos rfl]
  obtain ⟨ι, hout0, hfr0⟩ := pa.ex
  have hw' := want_eq hfr0 ((lwant_congr hag).trans hw)
  have hsub := tr.sub (i := i) (j := i + 1) (by omega) (by omega)
  have hsubF := tr.sub (i := i + 1) (j := n) (by omega) (Nat.le_refl _)
  have hsub0 := tr.sub (i := 0) (j := i) (by omega) (by omega)
  have hdomF : ∀ l, (st n).2.n ≤ l → (st n).2.get l = none := (tr.sub (i := 0) (j := n) (by omega) (Nat.le_refl _)).dom (by rw [tr.h0]; exact hrel.dom)
  have hcutq : (st (i + 1)).2 = (st i).2 → (st n).2.cut (Un n st (listed.setIfInBounds i true)) = (st n).2.cut (Un n st listed) := fun hh => cut_congr (fun l _ => by
    rw [tr.un_set hin hun l, hh]
    exact ⟨fun h => h.1, fun h => ⟨h, fun h2 => by omega⟩⟩) hdomF
  have hrel0w : Rel P H0 ι0 w := rel_change hrel pa.chg
  unfold wpOp
  simp only [ho]
  cases b with
  | false =>
    rw [if_neg (by simp)] at hv
    rw [if_neg (by rw [hw']; simp)]
    rw [hdo]
    have hv1 : (st n).1 d = undef := by rw [hvd, hv.1]
    refine pa_next tr hf pa hi hin hd hdN hout0 hfr0 (ι' := ι) ?_ ?_ (fun _ => ?_) (Change.refl _ _)
    · rw [hcutq hv.2]; exact Out.refl hout0.rel
    · rw [hv1]; exact .flat _ rfl
    · rw [hv1]; exact .flat _ rfl
  | true =>
    rw [if_pos rfl] at hv
    rw [if_pos hw']
    left
    -- a quiet one
    have quiet : (st (i + 1)).2 = (st i).2 → (∃ v', VR ((st n).2.cut (Un n st listed)).D ι v v' ∧ ((st (i + 1)).2.n = H0.n → VR H0.D ι0 v v') ∧ ∀ w1, Change (fun _ => False) w w1 → o'.quietAt P a (fun w' => Change (fun _ => False) w w') w1 v') →
        o'.wp P a w (fun a' w' => PA P N ops n H0 st ι0 w0 a0 (listed.setIfInBounds i true) a' w' ∨ ∃ t, PB P T N ops n H0 ι0 w0 a0 r t (listed.setIfInBounds i true) a' w') Q := by
      rintro hh ⟨v', h1, h2, h3⟩
      refine Oper.wp_of_quiet (C := fun w' => Change (fun _ => False) w w') (K := fun a' => a' = a.put o'.dst v') (Change.refl _ _) ?_ ⟨v', h3, rfl⟩
      rintro a' w' hw1 rfl
      rw [hdo]
      refine pa_next tr hf pa hi hin hd hdN hout0 hfr0 (ι' := ι) ?_ ?_ (fun hl => ?_) hw1
      · rw [hcutq hh]; exact out_change hout0.rel hw1
      · rw [hcutq hh, hvd]; exact h1
      · rw [hvd]; exact h2 hl
    have lowcase : (st (i + 1)).2 = (st i).2 → (st i).2.n = H0.n → lquiet P T o' (frL ops n st H0 listed) H0 = some v → ∃ v', VR ((st n).2.cut (Un n st listed)).D ι v v' ∧ ((st (i + 1)).2.n = H0.n → VR H0.D ι0 v v') ∧ ∀ w1, Change (fun _ => False) w w1 → o'.quietAt P a (fun w' => Change (fun _ => False) w w') w1 v' := by
      intro hh hl hq
      obtain ⟨v', h1, h2⟩ := quiet_ok hT hrel0w pa.low hq
      exact ⟨v', h1.mono hout0.sub hout0.same, fun _ => h1, h2⟩
    have hagL : (st i).2.n = H0.n → ∀ t ∈ Oper.looksAt ops o', frL ops n st H0 listed t = (st i).1 t := fun hl t ht => tr.agreeL hin ho hwait hl ht
    have hlowH : (st i).2.n = H0.n → ∀ l, (st i).2.get l = H0.get l := fun hl l => by
      have h00 := tr.h0
      rcases Nat.lt_or_ge l H0.n with hx | hx
      · rw [← h00]; exact hsub0.get l (by rw [h00]; exact hx)
      · rw [hrel.dom l hx]
        exact hsub0.dom (by rw [h00]; exact hrel.dom) l (by omega)
    have hlowE : (st i).2.n = H0.n → (st i).2 = H0 := fun hl => by
      have h1 : (st i).2.get = H0.get := funext (hlowH hl)
      have h2 : (st i).2.hole = H0.hole := funext (fun l => propext (by rw [← tr.h0]; exact hsub0.hole l))
      have h3 := hsub0.base
      have h4 := hsub0.ng
      rw [tr.h0] at h3 h4
      cases hq : (st i).2 with
      | mk a1 a2 a3 a4 a5 =>
        rw [hq] at hl h1 h2 h3 h4
        cases H0 with
        | mk b1 b2 b3 b4 b5 =>
          simp only at hl h1 h2 h3 h4
          subst hl h1 h2 h3 h4
          rfl
    have hget : ∀ l b, ((st n).2.cut (Un n st listed)).D l → (st i).2.get l = some b → ((st n).2.cut (Un n st listed)).get l = some b := fun l b hD hb => by
      have hlt : l < (st i).2.n := by
        rcases Nat.lt_or_ge l (st i).2.n with h | h
        · exact h
        · rw [hsub0.dom (by rw [tr.h0]; exact hrel.dom) l h] at hb; cases hb
      rw [cut_get, if_neg (cut_D.1 hD).2, (tr.sub (i := i) (j := n) (by omega) (Nat.le_refl _)).get l hlt]
      exact hb
    rcases lmixop_cases hv with ⟨hh, hk, hl⟩ | ⟨hh, hc, hq⟩ | ⟨hh, c, b, hop, hcb, hne, H1, hl⟩ | ⟨hk, hl⟩
    · refine quiet hh ?_
      by_cases hlow : (st i).2.n = H0.n
      · refine lowcase hh hlow ?_
        rw [lquiet_congr (ev_congr (hagL hlow))]
        rw [hlowE hlow] at hl
        exact lquiet_read hl hk
      · rw [← lop_congr (ev_congr hag)] at hl
        obtain ⟨_, v', h1, h2⟩ := lop_read' hout0.rel hfr0 hget hl hk
        refine ⟨v', h1, fun h3 => absurd (by rw [hh] at h3; exact h3) hlow, fun w1 hw1 => ?_⟩
        unfold Oper.quietAt
        rw [h2 w1 hw1]
        exact ⟨rfl, rfl⟩
    · refine quiet hh ?_
      by_cases hlow : (st i).2.n = H0.n
      · refine lowcase hh hlow ?_
        rw [lquiet_congr (ev_congr (hagL hlow))]
        exact hq
      · rcases hc with hc | ⟨c, f, hop, hcf, hf1, hf2⟩
        · exact absurd hc hlow
        · have hevS := ev_congr hag
          have hm : FrR H0.D ι0 N (fun t => if flatB (frS ops n st listed t) then frS ops n st listed t else unk) a.tmps := ⟨hfr0.1, fun t => by
            have ht := hfr0.2 t
            show VR _ _ (if flatB (frS ops n st listed t) then frS ops n st listed t else unk) _
            split
            · rename_i hfl
              rw [flat_eq ht hfl]; exact .flat _ hfl
            · exact .any _⟩
          have hev : ∀ x ∈ o'.op.operands, ev (fun t => if flatB (frS ops n st listed t) then frS ops n st listed t else unk) x = ev (st i).1 x := by
            intro x hx
            have hfl : flatB (ev (st i).1 x) = true := by
              rw [hop] at hx
              simp only [Op.operands, Call.operands, hcf, Array.mem_append, List.mem_toArray, List.mem_singleton] at hx
              rcases hx with rfl | hx
              · exact hf1
              · exact List.all_eq_true.1 hf2 _ (List.mem_map.2 ⟨x, by simpa using hx, rfl⟩)
            cases x with
            | tmp t =>
              have e1 : frS ops n st listed t = (st i).1 t := hevS (.tmp t) hx
              have hfl' : flatB ((st i).1 t) = true := hfl
              show (if flatB (frS ops n st listed t) then frS ops n st listed t else unk) = (st i).1 t
              rw [e1, if_pos hfl']
            | _ => rfl
          rw [← lquiet_congr hev] at hq
          obtain ⟨v', h1, h2⟩ := quiet_ok hT hrel0w hm hq
          exact ⟨v', h1.mono hout0.sub hout0.same, fun _ => h1, h2⟩
    · refine quiet hh ?_
      by_cases hlow : (st i).2.n = H0.n
      · refine lowcase hh hlow ?_
        rw [lquiet_congr (ev_congr (hagL hlow))]
        rw [hlowE hlow] at hl
        unfold lquiet
        simp only [hop, hcb]
        rw [hl]; rfl
      · have hevS := ev_congr hag
        have hargs : c.args.toList.map (ev (st i).1) = c.args.toList.map (ev (frS ops n st listed)) := List.map_congr_left (fun x hx => (hevS x (by rw [hop]; simp [Op.operands, Call.operands, hcb]; exact (by simpa using hx))).symm)
        rw [hargs] at hl
        obtain ⟨_, hl2⟩ := lbuiltin_any (H1 := (st n).2.cut (Un n st listed)) hne hl
        have hq : lquiet P T o' (frS ops n st listed) ((st n).2.cut (Un n st listed)) = some v := by
          unfold lquiet
          simp only [hop, hcb]
          rw [hl2]; rfl
        obtain ⟨v', h1, h2⟩ := quiet_ok hT hout0.rel hfr0 hq
        exact ⟨v', h1, fun h3 => absurd (by rw [hh] at h3; exact h3) hlow, h2⟩
    · rw [← lop_congr (ev_congr hag)] at hl
      obtain ⟨b, arr, s, hH, hrw, hs, hsz, hm, hc, hx⟩ := alloc_at hfr0 hl hk
      obtain ⟨v', hrun, hv'⟩ := hx w
      have hU : Un n st listed (st i).2.n := ⟨i, hin, hun, Nat.le_refl _, by rw [hH]; exact Nat.lt_succ_self _⟩
      have hb : (st n).2.get (st i).2.n = some b := by
        rw [hsubF.get _ (by rw [hH]; exact Nat.lt_succ_self _), hH]
        show (if (st i).2.n = (st i).2.n then some b else _) = _
        rw [if_pos rfl]
      have hkn : (st i).2.n < (st n).2.n := by
        have := hsubF.n
        rw [hH] at this
        exact this
      have hholeF : ∀ l, (st n).2.hole l → l < H0.n ∧ H0.get l = none := fun l hl => hrel.hol l (by rw [← tr.h0]; exact ((tr.sub (i := 0) (j := n) (by omega) (Nat.le_refl _)).hole l).1 hl)
      have h0n : H0.n ≤ (st i).2.n := by have := hsub0.n; rw [tr.h0] at this; exact this
      have hout := out_cut1 hout0.rel hU hb hkn (fun hh => by have := (hholeF _ hh).1; omega) hdomF (fun l hl => by
        obtain ⟨a1, a2⟩ := hholeF l hl
        refine ⟨by omega, ?_⟩
        rw [(tr.sub (i := 0) (j := n) (by omega) (Nat.le_refl _)).get l (by rw [tr.h0]; exact a1), tr.h0]; exact a2) hrw hs hsz hm hc
      have hcut : (st n).2.cut (fun l => Un n st listed l ∧ l ≠ (st i).2.n) = (st n).2.cut (Un n st (listed.setIfInBounds i true)) := cut_congr (fun l _ => by
        rw [tr.un_set hin hun l, hH]
        show _ ↔ _ ∧ ¬ ((st i).2.n ≤ l ∧ l < (st i).2.n + 1)
        constructor
        · rintro ⟨h1, h2⟩; exact ⟨h1, fun h3 => by omega⟩
        · rintro ⟨h1, h2⟩; exact ⟨h1, fun h3 => h2 (by omega)⟩) hdomF
      rw [hcut] at hout
      unfold Oper.wp
      rw [hrun]
      simp only [Oper.upon]
      rw [hdo]
      refine pa_next tr hf pa hi hin hd hdN hout0 hfr0 hout ?_ (fun hl => ?_) ?_
      · rw [hvd]
        refine hv' _ _ ?_ (by simp [Ren.add])
        rw [← hcut]
        exact cut_D.2 ⟨⟨hkn, fun hh => by have := (hholeF _ hh).1; omega⟩, fun h => h.2 rfl⟩
      · rw [hH] at hl
        have : (st i).2.n + 1 = H0.n := hl
        omega
      · exact (Change.refl _ w).alloc _
theorem pb_step (hT : TOk P T) (hB : ∀ i, i < ops.size → ∀ o, ops[i]? = some o → ∀ e ∈ o.after, Region.binds .any e = true → e.on < i) (hch : n < ops.size → Region.chainB .any ops n = true) {t : Nat} {listed : Array Bool} {a : Act} {w : World} (pb : PB P T N ops n H0 ι0 w0 a0 r t listed a w) {i : Nat} (hi : i ∈ Region.ready .any ops listed) {Q : Exit → Act → World → Prop} :
    wpOp P ops Q i (fun a' w' => PA P N ops n H0 st ι0 w0 a0 (listed.setIfInBounds i true) a' w' ∨ ∃ t, PB P T N ops n H0 ι0 w0 a0 r t (listed.setIfInBounds i true) a' w') a w := by
  obtain ⟨hun, o, ho, hall⟩ := mem_ready.1 hi
  have hilt : i < ops.size := (Array.getElem?_eq_some_iff.1 ho).1
  have hit : t ≤ i := by
    have := pb.lst i hilt
    rw [hun] at this
    rcases Nat.lt_or_ge i t with h | h
    · simp [h] at this
    · exact h
  have hie : i = t := by
    rcases Nat.lt_or_eq_of_le hit with h | h
    · exfalso
      have hc := hch (by have := pb.ge; omega)
      have h1 := List.all_eq_true.1 hc i (List.mem_range.2 hilt)
      simp only [Bool.or_eq_true, decide_eq_true_eq] at h1
      rcases h1 with h1 | h1
      · have := pb.ge; omega
      · obtain ⟨o', ho', e, he, hb, hon⟩ := Region.waitsFor_spec h1
        have : o' = o := Option.some.inj (ho'.symm.trans ho)
        subst this
        have h2 := getD_ft (hall e he hb)
        rw [hon, pb.lst (i - 1) (by omega)] at h2
        simp at h2; omega
    · exact h.symm
  subst hie
  obtain ⟨fr, H, ι, hl, hout, hfr⟩ := pb.ex
  have hdrop : ops.toList.drop i = o :: ops.toList.drop (i + 1) := by
    rw [List.drop_eq_getElem_cons (by simpa using hilt)]
    congr 1
    have := (Array.getElem?_eq_some_iff.1 ho).2
    simpa using this
  rw [hdrop] at hl
  have nxt : ∀ {fr' : Fr} {H' : LH} {ι' : Ren} {a' : Act} {w' : World}, lops P T N ops (ops.toList.drop (i + 1)) fr' H' = some r → Out P H0 ι0 w0 H' ι' w' → FrR H'.D ι' N fr' a'.tmps → a'.defers = a0.defers →
      PA P N ops n H0 st ι0 w0 a0 (listed.setIfInBounds i true) a' w' ∨ ∃ t, PB P T N ops n H0 ι0 w0 a0 r t (listed.setIfInBounds i true) a' w' := by
    intro fr' H' ι' a' w' g1 g2 g3 g4
    refine .inr ⟨i + 1, hilt, by have := pb.ge; omega, by simp [pb.size], fun j hj => ?_, ⟨fr', H', ι', g1, g2, g3⟩, g4⟩
    by_cases e : i = j
    · subst e; rw [getD_set_self]; simp
    · rw [getD_set_ne true e, pb.lst j hj]
      by_cases hji : j < i
      · simp [hji]; omega
      · simp [hji]; omega
  unfold lops at hl
  unfold wpOp
  simp only [ho]
  split at hl
  · rename_i hw
    rw [if_pos (want_eq hfr hw)]
    left
    split at hl
    · rename_i v H1 hop
      split at hl
      · rename_i fr1 hput
        refine lop_ok hT hout.rel hfr hop _ _ (fun ι' v' w' ho2 hvr => ?_)
        exact nxt hl (hout.trans ho2) ((hfr.mono ho2.sub ho2.same).put hput hvr) (by rw [put_defers]; exact pb.defers)
      · cases hl
    · cases hl
  · rename_i hw
    rw [if_neg (by rw [want_eq hfr hw]; simp)]
    split at hl
    · rename_i fr1 hput
      exact nxt hl hout (hfr.undef _ _ hput) (by rw [put_defers]; exact pb.defers)
    · cases hl
  · cases hl
end
/-- what the Bool tells -/
theorem mixB_spec {L : Loud} {ops : Array Oper} (h : mixB L ops = true) :
    (∀ i, i < ops.size → ∀ o, ops[i]? = some o → ∀ e ∈ o.after, Region.binds .any e = true → e.on < i) ∧
    (∀ i o t k, i < headN L ops.toList → ops[i]? = some o → t ∈ Oper.looksAt ops o → dstOf ops k = some t → k < i ∧ Region.waitsFor .any ops i k = true) ∧
    (∀ i k, i < headN L ops.toList → k < headN L ops.toList → dstOf ops i = dstOf ops k → i = k) ∧
    (headN L ops.toList < ops.size → Region.sinkB .any ops (headN L ops.toList) = true ∧ Region.chainB .any ops (headN L ops.toList) = true) := by
  unfold mixB at h
  simp only [Bool.and_eq_true] at h
  obtain ⟨⟨⟨h1, h2⟩, h3⟩, h4⟩ := h
  refine ⟨fun i hi o ho e he hb => ?_, fun i o t k hi ho ht hk => ?_, fun i k hi hk hd => ?_, fun hn => ?_⟩
  · have := List.all_eq_true.1 h1 i (List.mem_range.2 hi)
    simp only [ho] at this
    have := List.all_eq_true.1 this e (by simpa using he)
    rw [hb] at this
    simpa using this
  · have := List.all_eq_true.1 h2 i (List.mem_range.2 hi)
    simp only [ho] at this
    have := List.all_eq_true.1 this t ht
    have hks : k < ops.size := by
      unfold dstOf at hk
      cases hq : ops[k]? with
      | none => simp [hq] at hk
      | some x => exact (Array.getElem?_eq_some_iff.1 hq).1
    have := List.all_eq_true.1 this k (List.mem_range.2 hks)
    rw [show (ops[k]?).bind (·.dst) = some t from hk] at this
    simpa using this
  · have := List.all_eq_true.1 h3 i (List.mem_range.2 hi)
    have := List.all_eq_true.1 this k (List.mem_range.2 hk)
    simp only [Bool.or_eq_true, beq_iff_eq, bne_iff_ne] at this
    rcases this with h | h
    · exact h
    · exact absurd hd h
  · simp only [Bool.or_eq_true, decide_eq_true_eq, Bool.and_eq_true] at h4
    rcases h4 with h4 | h4
    · omega
    · exact h4
theorem headN_le (L : Loud) : ∀ l : List Oper, headN L l ≤ l.length
  | [] => Nat.le_refl _
  | o :: l => by
    have := headN_le L l
    unfold headN
    split
    · omega
    · simp; omega
/-- EVERY ORDER OF A REGION COMES TO WHAT THE TEXT'S ORDER COMES TO. -/
theorem mix_ok {P : Program} {L : Loud} {T : Callee} {N : Nat} {ops : Array Oper} {H H' : LH} {fr fr' : Fr} {ι : Ren} {w : World} {a : Act} (hT : TOk P T) (hm : P.follows .mixedOrders = true) (hB : mixB L ops = true) (h : lmix P L T N ops H ops.toList fr H = some (fr', H')) (hrel : Rel P H ι w) (hfr : FrR H.D ι N fr a.tmps) (id : Nat) {Q : Exit → Act → World → Prop}
    (hQ : ∀ ι' a' w', Out P H ι w H' ι' w' → FrR H'.D ι' N fr' a'.tmps → a'.defers = a.defers → Q .normal a' w') : (Code.region id ops true).wp P Q a w := by
  obtain ⟨b1, b2, b3, b4⟩ := mixB_spec hB
  obtain ⟨st, h0, hs, hf⟩ := trace_of ops.toList fr H h
  have hnle : headN L ops.toList ≤ ops.size := by simpa using headN_le L ops.toList
  have tr : Tr P T N ops (headN L ops.toList) H st := ⟨hnle, by rw [h0], fun i o hi ho => hs i o hi (by simpa using ho), fun i k hi hk hd => b3 i k hi hk hd, b2⟩
  generalize hn : headN L ops.toList = n at *
  have hw : Change (fun _ => False) w { w with drawn := w.drawn + 1 } := ⟨rfl, rfl, rfl, Nat.le_refl _, fun _ _ _ => rfl⟩
  have hrel' := rel_change hrel hw
  have hout0 := out_change hrel hw
  have st0 : st 0 = (fr, H) := h0
  let Inv : Array Bool → Act → World → Prop := fun listed a' w' => PA P N ops n H st ι w a listed a' w' ∨ ∃ t, PB P T N ops n H ι w a (fr', H') t listed a' w'
  refine wp_region_any hm (wpAny_inv (Inv := Inv) ?_ ?_ _ _ _ _ ?_ ?_)
  · rintro listed a' w' (pa | ⟨t, pb⟩) i hi
    · have hin : i < n := by
        rcases Nat.lt_or_ge i n with h1 | h1
        · exact h1
        · exfalso
          have hlt := (ready_lt hi).1
          obtain ⟨c1, c2⟩ := b4 (by omega)
          obtain ⟨j, hj, hjl⟩ := pa.some_
          exact tail_waits c1 c2 (by omega) pa.inv _ j rfl hj hjl i h1 hi
      exact pa_step hT hrel tr hf pa hi hin
    · exact pb_step hT b1 (fun hlt => (b4 hlt).2) pb hi
  · rintro listed a' w' (pa | ⟨t, pb⟩) hr
    · exfalso
      obtain ⟨j, hj, hjl⟩ := pa.some_
      -- the first that has not come may come
      have key : ∀ m, ∀ j, j < m → j < n → listed.getD j true = false → False := by
        intro m
        induction m with
        | zero => intro j hj; omega
        | succ m ih =>
          intro j hjm hjn hjl
          have hjs : j < ops.size := by omega
          have : j ∈ Region.ready .any ops listed := by
            refine mem_ready.2 ⟨hjl, _, Array.getElem?_eq_getElem hjs, fun e he hb => ?_⟩
            have hlt := b1 j hjs _ (Array.getElem?_eq_getElem hjs) e he hb
            rcases not_true_false (listed := listed) (k := e.on) with h1 | h1
            · exact getD_tf (by rw [pa.inv.size]; omega) h1
            · exact (ih e.on (by omega) (by omega) h1).elim
          rw [hr] at this
          cases this
      exact key (j + 1) j (by omega) hj hjl
    · have ht : t = ops.size := by
        rcases Nat.lt_or_eq_of_le pb.le with h1 | h1
        · exfalso
          have : t ∈ Region.ready .any ops listed := by
            refine mem_ready.2 ⟨by rw [pb.lst t h1]; simp, _, Array.getElem?_eq_getElem h1, fun e he hb => ?_⟩
            have hlt := b1 t h1 _ (Array.getElem?_eq_getElem h1) e he hb
            refine getD_tf (by rw [pb.size]; omega) ?_
            rw [pb.lst _ (by omega)]; simp [hlt]
          rw [hr] at this
          cases this
        · exact h1
      obtain ⟨fr1, H1, ι1, g1, g2, g3⟩ := pb.ex
      rw [ht, List.drop_eq_nil_of_le (by simp)] at g1
      simp only [lops, Option.some.injEq, Prod.mk.injEq] at g1
      obtain ⟨rfl, rfl⟩ := g1
      exact hQ ι1 a' w' g2 g3 pb.defers
  · unfold undone
    refine Nat.le_trans List.countP_le_length ?_
    simp
  · have hno : ∀ j, j < ops.size → (Array.replicate ops.size false).getD j true = false := fun j hj => by simp [hj]
    rcases Nat.eq_zero_or_pos n with hz | hz
    · right
      refine ⟨0, Nat.zero_le _, by omega, by simp, fun j hj => by rw [hno j hj]; simp, ⟨fr, H, ι, ?_, hout0, hfr⟩, rfl⟩
      have := hf
      rw [hz, st0] at this
      exact this
    · left
      have e1 : (st n).2.cut (fun l => H.n ≤ l) = (st n).2.cut (Un n st (Array.replicate ops.size false)) := cut_congr (fun l hl => (tr.un_all (fun j hj => hno j (by omega)) l hl).symm) ((tr.sub (i := 0) (j := n) (by omega) (Nat.le_refl _)).dom (by rw [st0]; exact hrel.dom))
      have hnone : ∀ t, ¬ ∃ j, j < n ∧ (Array.replicate ops.size false).getD j true = true ∧ dstOf ops j = some t := fun t ⟨j, hj, hl, _⟩ => by rw [hno j (by omega)] at hl; cases hl
      have e2 : frS ops n st (Array.replicate ops.size false) = fr := by
        funext t
        unfold frS
        rw [if_neg (hnone t), st0]
      have e3 : frL ops n st H (Array.replicate ops.size false) = fr := by
        funext t
        unfold frL
        rw [if_neg (hnone t), st0]
      have hsub : Sub H (st n).2 := by have := tr.sub (i := 0) (j := n) (by omega) (Nat.le_refl _); rw [st0] at this; exact this
      have hc := out_cut0 hrel' hsub
      refine ⟨⟨by simp, (fun j oj hoj hl => by rw [getD_replicate_false] at hl; cases hl), fun t ht hts => hno t hts⟩, ⟨0, hz, hno 0 (by omega)⟩, ⟨ι, ?_, ?_⟩, by rw [e3]; exact hfr, hw, rfl⟩
      · rw [← e1]; exact hout0.trans hc
      · rw [← e1, e2]; exact hfr.mono hc.sub hc.same
end Go.Lg
