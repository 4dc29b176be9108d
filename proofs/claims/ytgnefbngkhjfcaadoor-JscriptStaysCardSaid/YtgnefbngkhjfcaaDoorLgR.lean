/-
  A logical run of Go code: how its values and its heap stand to a real world.
-/
import Derived.Test.YtgnefbngkhjfcaaDoorLg
set_option linter.unusedSimpArgs false
set_option linter.unusedVariables false
namespace Go.Lg
open Go.Tg Go.RowKit

/-- where a logical block lies: the real block, the cell with which it begins there, and how many elements more its row has room for -/
structure Im where
  blk : Nat
  off : Nat
  slack : Nat
abbrev Ren := Nat → Im

inductive VR (n : Nat → Prop) (ι : Ren) : Value → Value → Prop
  | any (v) : VR n ι (.chan (some 0)) v
  | flat (v) : flatB v = true → VR n ι v v
  | ptr (l o) : n l → VR n ι (.pointer (some ⟨l, o, none⟩)) (.pointer (some ⟨(ι l).blk, (ι l).off + o, none⟩))
  | slice (l o k c) : n l → k ≤ c → VR n ι (.slice (some ⟨l, o, none⟩) k c) (.slice (some ⟨(ι l).blk, (ι l).off + o, none⟩) k (c + (ι l).slack))
  | slice0 (l o a) : n l → VR n ι (.slice (some ⟨l, o, none⟩) 0 0) (.slice (some a) 0 0)
  | agg (xs ys : Array Value) : xs.size = ys.size → (∀ (i : Nat) (v w : Value), xs[i]? = some v → ys[i]? = some w → VR n ι v w) → VR n ι (.agg xs) (.agg ys)
  | tuple (xs ys : Array Value) : xs.size = ys.size → (∀ (i : Nat) (v w : Value), xs[i]? = some v → ys[i]? = some w → VR n ι v w) → VR n ι (.tuple xs) (.tuple ys)
  | func (fn) (a b c d : Array Value) : a.size = b.size → c.size = d.size → (∀ (i : Nat) (v w : Value), a[i]? = some v → b[i]? = some w → VR n ι v w) → (∀ (i : Nat) (v w : Value), c[i]? = some v → d[i]? = some w → VR n ι v w) → VR n ι (.func fn a c) (.func fn b d)

theorem atom_eq {n : Nat → Prop} {ι : Ren} {v w : Value} (h : VR n ι v w) (hv : atomB v = true) : w = v := by
  cases h with
  | any => simp [atomB] at hv
  | flat => rfl
  | ptr => simp [atomB] at hv
  | slice => simp [atomB] at hv
  | slice0 => simp [atomB] at hv
  | agg => simp [atomB] at hv
  | tuple => simp [atomB] at hv
  | func fn a b c d h1 h2 h3 h4 =>
    cases fn <;> simp [atomB] at hv
    obtain ⟨e1, e2⟩ := hv
    have e3 : b = #[] := Array.eq_empty_of_size_eq_zero (by rw [← h1, e1]; rfl)
    have e4 : d = #[] := Array.eq_empty_of_size_eq_zero (by rw [← h2, e2]; rfl)
    rw [e1, e2, e3, e4]
theorem arr_eq {n : Nat → Prop} {ι : Ren} {xs ys : Array Value} (hs : xs.size = ys.size) (h : ∀ (i : Nat) (v w : Value), xs[i]? = some v → ys[i]? = some w → w = v) : ys = xs := by
  apply Array.ext hs.symm
  intro i h1 h2
  exact h i _ _ (Array.getElem?_eq_getElem h2) (Array.getElem?_eq_getElem h1)
theorem flat1_eq {n : Nat → Prop} {ι : Ren} {v w : Value} (h : VR n ι v w) (hv : flat1B v = true) : w = v := by
  cases h with
  | agg xs ys hs h =>
    rw [arr_eq (n := n) (ι := ι) hs fun i v w hx hy => atom_eq (h i v w hx hy) ?_]
    simp only [flat1B, List.all_eq_true] at hv
    exact hv v (by simpa using Array.mem_of_getElem? hx)
  | flat => rfl
  | any => simp [flat1B, atomB] at hv
  | ptr l o hl => exact atom_eq (n := n) (ι := ι) (.ptr l o hl) hv
  | slice l o k c hl hk => exact atom_eq (n := n) (ι := ι) (.slice l o k c hl hk) hv
  | slice0 l o a hl => exact atom_eq (n := n) (ι := ι) (.slice0 l o a hl) hv
  | tuple => simp [flat1B, atomB] at hv
  | func fn a b c d h1 h2 h3 h4 => exact atom_eq (n := n) (ι := ι) (.func fn a b c d h1 h2 h3 h4) hv
theorem flat_eq {n : Nat → Prop} {ι : Ren} {v w : Value} (h : VR n ι v w) (hv : flatB v = true) : w = v := by
  cases h with
  | tuple xs ys hs h =>
    rw [arr_eq (n := n) (ι := ι) hs fun i v w hx hy => flat1_eq (h i v w hx hy) ?_]
    simp only [flatB, List.all_eq_true] at hv
    exact hv v (by simpa using Array.mem_of_getElem? hx)
  | flat => rfl
  | any => simp [flatB, flat1B, atomB] at hv
  | ptr l o hl => exact flat1_eq (n := n) (ι := ι) (.ptr l o hl) hv
  | slice l o k c hl hk => exact flat1_eq (n := n) (ι := ι) (.slice l o k c hl hk) hv
  | slice0 l o a hl => exact flat1_eq (n := n) (ι := ι) (.slice0 l o a hl) hv
  | agg xs ys hs h => exact flat1_eq (n := n) (ι := ι) (.agg xs ys hs h) hv
  | func fn a b c d h1 h2 h3 h4 => exact flat1_eq (n := n) (ι := ι) (.func fn a b c d h1 h2 h3 h4) hv

/-- the same values under another numbering -/
theorem VR.mono {n n' : Nat → Prop} {ι ι' : Ren} {v w : Value} (h : VR n ι v w) (hn : ∀ l, n l → n' l) (hi : ∀ l, n l → ι' l = ι l) : VR n' ι' v w := by
  induction h with
  | any v => exact .any v
  | flat v h => exact .flat v h
  | ptr l o hl => rw [← hi l hl]; exact .ptr l o (hn l hl)
  | slice l o k c hl hk => rw [← hi l hl]; exact .slice l o k c (hn l hl) hk
  | slice0 l o a hl => exact .slice0 l o a (hn l hl)
  | agg xs ys hs _ ih => exact .agg xs ys hs ih
  | tuple xs ys hs _ ih => exact .tuple xs ys hs ih
  | func fn a b c d h1 h2 _ _ ih1 ih2 => exact .func fn a b c d h1 h2 ih1 ih2
/-- back to fewer blocks, of a value that has been there before -/
theorem VR.back {n n' : Nat → Prop} {ι ι' : Ren} {v w x : Value} (h : VR n' ι' v w) (h0 : VR n ι v x) (hi : ∀ l, n l → ι' l = ι l) : VR n ι v w := by
  induction h0 generalizing w with
  | any v => exact .any w
  | flat v hv => rw [flat_eq h hv]; exact .flat v hv
  | ptr l o hl =>
    cases h with
    | flat _ hv => simp [flatB, flat1B, atomB] at hv
    | ptr _ _ _ => rw [hi l hl]; exact .ptr l o hl
  | slice l o k c hl hk =>
    cases h with
    | flat _ hv => simp [flatB, flat1B, atomB] at hv
    | slice _ _ _ _ _ _ => rw [hi l hl]; exact .slice l o k c hl hk
    | slice0 _ _ a _ => exact .slice0 l o a hl
  | slice0 l o a hl =>
    cases h with
    | flat _ hv => simp [flatB, flat1B, atomB] at hv
    | slice _ _ _ _ _ _ => rw [hi l hl]; exact .slice l o 0 0 hl (Nat.le_refl _)
    | slice0 _ _ a _ => exact .slice0 l o a hl
  | agg xs ys hs _ ih =>
    cases h with
    | flat _ hv => exact .flat _ hv
    | agg _ zs hz hh =>
      refine .agg _ _ hz (fun i v w hx hy => ?_)
      have : i < ys.size := by rw [← hs]; exact (Array.getElem?_eq_some_iff.1 hx).1
      exact ih i v _ hx (Array.getElem?_eq_getElem this) (hh i v w hx hy)
  | tuple xs ys hs _ ih =>
    cases h with
    | flat _ hv => exact .flat _ hv
    | tuple _ zs hz hh =>
      refine .tuple _ _ hz (fun i v w hx hy => ?_)
      have : i < ys.size := by rw [← hs]; exact (Array.getElem?_eq_some_iff.1 hx).1
      exact ih i v _ hx (Array.getElem?_eq_getElem this) (hh i v w hx hy)
  | func fn a b c d h1 h2 _ _ ih1 ih2 =>
    cases h with
    | flat _ hv => exact .flat _ hv
    | func _ _ b' _ d' g1 g2 g3 g4 =>
      refine .func _ _ _ _ _ g1 g2 (fun i v w hx hy => ?_) (fun i v w hx hy => ?_)
      · have : i < b.size := by rw [← h1]; exact (Array.getElem?_eq_some_iff.1 hx).1
        exact ih1 i v _ hx (Array.getElem?_eq_getElem this) (g3 i v w hx hy)
      · have : i < d.size := by rw [← h2]; exact (Array.getElem?_eq_some_iff.1 hx).1
        exact ih2 i v _ hx (Array.getElem?_eq_getElem this) (g4 i v w hx hy)

/-- the real blocks that may be written -/
def RW (H : LH) (ι : Ren) (k : Nat) : Prop := ∃ l b, H.get l = some b ∧ b.rw = true ∧ (ι l).blk = k
/-- The logical heap H lies in the world w. -/
structure Rel (P : Program) (H : LH) (ι : Ren) (w : World) : Prop where
  dom : ∀ l, H.n ≤ l → H.get l = none
  hol : ∀ l, H.hole l → l < H.n ∧ H.get l = none
  blk : ∀ l b, H.get l = some b → ∃ arr t fr, w.heap[(ι l).blk]? = some (.cells arr t fr) ∧ (ι l).off + b.cells.length ≤ arr.size ∧
    (∀ i v, b.cells[i]? = some v → ∃ v', arr[(ι l).off + i]? = some v' ∧ VR H.D ι v v') ∧
    (b.rw = true → (ι l).off = 0 ∧ t = b.elem ∧ fr = (0, 0) ∧ ∃ s, sz P b.elem = some s ∧ arr.size = b.cells.length + (ι l).slack * s ∧ ∀ n, s ≠ 0 → b.cells.length = n * s → n + (ι l).slack ≤ maxLen)
  sep : ∀ l l' b b', H.get l = some b → H.get l' = some b' → b.rw = true → l ≠ l' → (ι l).blk ≠ (ι l').blk
  pin : ∀ g, g < H.ng → w.heap[g]? = H.base.heap[g]? ∧ g < w.heap.size ∧ ¬ RW H ι g

theorem Rel.live {P : Program} {H : LH} {ι : Ren} {w : World} (h : Rel P H ι w) {l : Nat} {b : LB} (hb : H.get l = some b) : H.D l := by
  refine ⟨?_, fun hh => ?_⟩
  · rcases Nat.lt_or_ge l H.n with h1 | h1
    · exact h1
    · rw [h.dom l h1] at hb; cases hb
  · rw [(h.hol l hh).2] at hb; cases hb

theorem pin_step {P : Program} {H H' : LH} {ι ι' : Ren} {w w' : World} (h : Rel P H ι w) (hc : Change (RW H ι) w w') (hrw : ∀ k, RW H' ι' k → RW H ι k ∨ w.heap.size ≤ k) (hb : H'.base = H.base) (hg : H'.ng = H.ng) : ∀ g, g < H'.ng → w'.heap[g]? = H'.base.heap[g]? ∧ g < w'.heap.size ∧ ¬ RW H' ι' g := by
  intro g hg'
  rw [hg] at hg'
  obtain ⟨h1, h2, h3⟩ := h.pin g hg'
  refine ⟨by rw [hb, hc.block g h2 h3]; exact h1, Nat.lt_of_lt_of_le h2 hc.size, fun h4 => ?_⟩
  rcases hrw g h4 with h5 | h5
  · exact h3 h5
  · omega
/-- What a step may do. -/
structure Out (P : Program) (H : LH) (ι : Ren) (w : World) (H' : LH) (ι' : Ren) (w' : World) : Prop where
  rel : Rel P H' ι' w'
  n : H.n ≤ H'.n
  sub : ∀ l, H.D l → H'.D l
  same : ∀ l, H.D l → ι' l = ι l
  chg : Change (RW H ι) w w'
  rw : ∀ k, RW H' ι' k → RW H ι k ∨ w.heap.size ≤ k

theorem Out.refl {P : Program} {H : LH} {ι : Ren} {w : World} (h : Rel P H ι w) : Out P H ι w H ι w := ⟨h, Nat.le_refl _, fun _ h => h, fun _ _ => rfl, Change.refl _ _, fun _ h => .inl h⟩
theorem Out.trans {P : Program} {H H1 H2 : LH} {ι ι1 ι2 : Ren} {w w1 w2 : World} (h : Out P H ι w H1 ι1 w1) (k : Out P H1 ι1 w1 H2 ι2 w2) : Out P H ι w H2 ι2 w2 :=
  ⟨k.rel, Nat.le_trans h.n k.n, fun l hl => k.sub l (h.sub l hl), fun l hl => (k.same l (h.sub l hl)).trans (h.same l hl), h.chg.trans k.chg h.rw,
    fun x hx => by
      rcases k.rw x hx with h1 | h1
      · exact h.rw x h1
      · exact .inr (Nat.le_trans h.chg.size h1)⟩

/-- frames -/
def FrR (n : Nat → Prop) (ι : Ren) (N : Nat) (fr : Fr) (tmps : Array Value) : Prop := tmps.size = N ∧ ∀ t, VR n ι (fr t) (tmps.getD t undef)
theorem FrR.mono {n n' : Nat → Prop} {ι ι' : Ren} {N : Nat} {fr : Fr} {tmps : Array Value} (h : FrR n ι N fr tmps) (hn : ∀ l, n l → n' l) (hi : ∀ l, n l → ι' l = ι l) : FrR n' ι' N fr tmps := ⟨h.1, fun t => (h.2 t).mono hn hi⟩
theorem FrR.ev {n : Nat → Prop} {ι : Ren} {N : Nat} {fr : Fr} {a : Act} (h : FrR n ι N fr a.tmps) (x : Operand) : VR n ι (ev fr x) (a.eval x) := by
  cases x with
  | tmp t => exact h.2 t
  | const v =>
    unfold Lg.ev; simp only
    split
    · exact .flat v ‹_›
    · exact .any _
  | global g => exact .any _
  | func f => exact .flat _ rfl
theorem flat_undef : flatB undef = true := rfl
theorem FrR.put {n : Nat → Prop} {ι : Ren} {N : Nat} {fr fr' : Fr} {a : Act} {d : Option Tmp} {v v' : Value} (h : FrR n ι N fr a.tmps) (hp : lput N fr d v = some fr') (hv : VR n ι v v') : FrR n ι N fr' (a.put d v').tmps := by
  cases d with
  | none => simp only [lput, Option.some.injEq] at hp; subst hp; exact h
  | some d =>
    simp only [lput] at hp
    split at hp
    · rename_i hd
      simp only [Option.some.injEq] at hp
      subst hp
      refine ⟨by simp [Act.put, h.1], fun t => ?_⟩
      have ht := h.2 t
      simp only [upd, Act.put, Array.getD_eq_getD_getElem?, Array.getElem?_setIfInBounds] at ht ⊢
      by_cases e : t = d
      · subst e; simp [h.1, hd]; exact hv
      · rw [if_neg e, if_neg (fun h => e h.symm)]; exact ht
    · cases hp
theorem put_defers (a : Act) (d : Option Tmp) (v : Value) : (a.put d v).defers = a.defers := by cases d <;> rfl
theorem FrR.undef (n : Nat → Prop) (ι : Ren) {N : Nat} {fr fr' : Fr} {a : Act} {d : Option Tmp} (h : FrR n ι N fr a.tmps) (hp : lput N fr d undef = some fr') : FrR n ι N fr' (a.put d Go.undef).tmps := h.put hp (.flat _ rfl)
/-- guards -/
theorem want_eq {n : Nat → Prop} {ι : Ren} {N : Nat} {fr : Fr} {a : Act} {ops : Array Oper} (h : FrR n ι N fr a.tmps) {o : Oper} {b : Bool} (hw : lwant ops fr o = some b) : Region.wanted o (yielded ops a.tmps) = b := by
  unfold lwant at hw
  unfold Region.wanted
  cases hg : o.guard with
  | none => simp only [hg, Option.some.injEq] at hw ⊢; exact hw
  | some g =>
    obtain ⟨j, want⟩ := g
    simp only [hg] at hw ⊢
    cases hd : (ops[j]?).bind (·.dst) with
    | none =>
      simp only [hd, Option.some.injEq] at hw; subst hw
      unfold yielded; rw [hd]; rfl
    | some d =>
      simp only [hd] at hw
      have ht := h.2 d
      have key : ∀ v, fr d = v → flatB v = true → yielded ops a.tmps j = (match v with | .bool b => some b | _ => none) := by
        intro v hv hf
        rw [hv] at ht
        have := flat_eq ht hf
        simp only [Array.getD_eq_getD_getElem?] at this
        unfold yielded
        rw [hd]
        simp only [Option.bind_some]
        cases hx : a.tmps[d]? with
        | none => rw [hx] at this; simp at this; subst this; simp [Go.undef]
        | some z => rw [hx] at this; simp at this; subst this; cases z <;> rfl
      cases hf : fr d with
      | bool c =>
        simp only [hf, Option.some.injEq] at hw
        rw [key _ hf rfl, ← hw]
        cases c <;> cases want <;> rfl
      | _ =>
        simp only [hf] at hw
        split at hw
        · simp only [Option.some.injEq] at hw
          rw [key _ hf ‹_›, ← hw]; rfl
        · cases hw
end Go.Lg
