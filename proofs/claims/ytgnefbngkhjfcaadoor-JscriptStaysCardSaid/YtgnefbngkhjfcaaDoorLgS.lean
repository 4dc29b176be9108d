/-
  A logical run of Go code: each operation does to the real world what it does to the logical one.
-/
import Derived.Test.YtgnefbngkhjfcaaDoorLgR
set_option linter.unusedSimpArgs false
set_option linter.unusedVariables false
namespace Go.Lg
open Go.Tg Go.RowKit

theorem pureVal_run {α : Type} {P : Program} {s : Sem α} {x : α} (h : pureVal P s = some x) (w : World) : s.run P w = .ok x w := by
  induction s with
  | pure a => simp only [pureVal, Option.some.injEq] at h; subst h; rfl
  | program k ih => exact ih P h
  | mark m k ih => exact ih h
  | _ => simp [pureVal] at h

/-- An operation is carried out: the value v, the heap H' behind it. -/
def OpOk (P : Program) (H : LH) (ι : Ren) (o : Oper) (a : Act) (w : World) (v : Value) (H' : LH) : Prop :=
  ∀ (K : Act → World → Prop) (Q : Exit → Act → World → Prop), (∀ ι' v' w', Out P H ι w H' ι' w' → VR H'.D ι' v v' → K (a.put o.dst v') w') → o.wp P a w K Q

section
variable {P : Program} {H H' : LH} {ι : Ren} {o : Oper} {a : Act} {w : World} {v v' : Value} {N : Nat} {fr : Fr}
theorem opok_world {w' : World} {ι' : Ren} (hrun : (execOp a.eval o).run P w = .ok (.value v') w') (hr : Out P H ι w H' ι' w') (hv : VR H'.D ι' v v') : OpOk P H ι o a w v H' := by
  intro K Q hK
  unfold Oper.wp
  rw [hrun]
  exact hK _ _ _ hr hv
theorem opok_value (hrun : (execOp a.eval o).run P w = .ok (.value v') w) (hr : Rel P H ι w) (hv : VR H.D ι v v') : OpOk P H ι o a w v H := opok_world hrun (Out.refl hr) hv
theorem opok_skip {w' : World} {ι' : Ren} (hrun : (execOp a.eval o).run P w = .ok .skip w') (hr : Out P H ι w H' ι' w') : OpOk P H ι o a w undef H' := by
  intro K Q hK
  unfold Oper.wp
  rw [hrun]
  exact hK _ _ _ hr (.flat _ rfl)

theorem vr_ptr {n : Nat → Prop} {l off : Nat} (h : VR n ι (.pointer (some ⟨l, off, none⟩)) v') : n l ∧ v' = .pointer (some ⟨(ι l).blk, (ι l).off + off, none⟩) := by
  cases h with
  | flat _ hv => simp [flatB, flat1B, atomB] at hv
  | ptr _ _ hl => exact ⟨hl, rfl⟩
theorem vr_agg {n : Nat → Prop} {cs : Array Value} (h : VR n ι (.agg cs) v') : ∃ ds, v' = .agg ds ∧ cs.size = ds.size ∧ ∀ (i : Nat) (x y : Value), cs[i]? = some x → ds[i]? = some y → VR n ι x y := by
  cases h with
  | flat _ hv =>
    refine ⟨cs, rfl, rfl, fun i x y hx hy => ?_⟩
    rw [hx] at hy
    injection hy with hy
    subst hy
    have hx2 : x ∈ cs.toList := by simpa using Array.mem_of_getElem? hx
    simp only [flatB, flat1B, List.all_eq_true] at hv
    have := hv x hx2
    refine .flat _ ?_
    cases x <;> first | exact this | (simp [atomB] at this)
  | agg _ ys hs h => exact ⟨ys, rfl, hs, h⟩
theorem flatB_of_flat1B {x : Value} (h : flat1B x = true) : flatB x = true := by
  cases x <;> first | exact h | (simp [flat1B, atomB] at h)
theorem vr_tuple {n : Nat → Prop} {cs : Array Value} (h : VR n ι (.tuple cs) v') : ∃ ds, v' = .tuple ds ∧ cs.size = ds.size ∧ ∀ (i : Nat) (x y : Value), cs[i]? = some x → ds[i]? = some y → VR n ι x y := by
  cases h with
  | flat _ hv =>
    refine ⟨cs, rfl, rfl, fun i x y hx hy => ?_⟩
    rw [hx] at hy
    injection hy with hy
    subst hy
    have hx2 : x ∈ cs.toList := by simpa using Array.mem_of_getElem? hx
    simp only [flatB, List.all_eq_true] at hv
    exact .flat _ (flatB_of_flat1B (hv x hx2))
  | tuple _ ys hs h => exact ⟨ys, rfl, hs, h⟩
theorem vr_cells {n : Nat → Prop} (h : VR n ι v v') (hk : knownB v = true) : v.cells.size = v'.cells.size ∧ ∀ (i : Nat) (x y : Value), v.cells[i]? = some x → v'.cells[i]? = some y → VR n ι x y := by
  have one : ∀ {u u' : Value}, VR n ι u u' → (∀ cs, u ≠ .agg cs) → (∀ cs, u' ≠ .agg cs) → u.cells.size = u'.cells.size ∧ ∀ (i : Nat) (x y : Value), u.cells[i]? = some x → u'.cells[i]? = some y → VR n ι x y := by
    intro u u' hh h1 h2
    have e1 : u.cells = #[u] := by cases u <;> first | rfl | exact absurd rfl (h1 _)
    have e2 : u'.cells = #[u'] := by cases u' <;> first | rfl | exact absurd rfl (h2 _)
    rw [e1, e2]
    refine ⟨rfl, fun i x y hx hy => ?_⟩
    match i, hx, hy with
    | 0, hx, hy =>
      simp at hx hy
      subst hx hy
      exact hh
  cases h with
  | any => simp [knownB] at hk
  | flat _ hv =>
    cases v with
    | agg cs =>
      obtain ⟨ds, e, hs, hh⟩ := vr_agg (n := n) (ι := ι) (.flat (.agg cs) hv)
      injection e with e
      subst e
      exact ⟨rfl, hh⟩
    | _ => exact one (.flat _ hv) (by simp) (by simp)
  | agg xs ys hs hh => exact ⟨hs, hh⟩
  | ptr l o hl => exact one (.ptr l o hl) (by simp) (by simp)
  | slice l o k c hl hkc => exact one (.slice l o k c hl hkc) (by simp) (by simp)
  | slice0 l o ad hl => exact one (.slice0 l o ad hl) (by simp) (by simp)
  | tuple xs ys hs hh => exact one (.tuple xs ys hs hh) (by simp) (by simp)
  | func fn a b c d h1 h2 h3 h4 => exact one (.func fn a b c d h1 h2 h3 h4) (by simp) (by simp)
theorem cell_one {n : Nat → Prop} {x y : Value} (h : VR n ι x y) (hc : cellB x = true) : y.oneCell' = true := by
  cases h with
  | any => simp [cellB] at hc
  | flat => cases x <;> first | rfl | (simp [cellB] at hc)
  | ptr => rfl
  | slice => rfl
  | slice0 => rfl
  | agg => simp [cellB] at hc
  | tuple => simp [cellB] at hc
  | func => rfl

/-- the cells of a block, as they lie in the world -/
theorem Rel.cell (h : Rel P H ι w) {l : Nat} {b : LB} (hb : H.get l = some b) {i : Nat} {x : Value} (hx : b.cells[i]? = some x) :
    ∃ y, w.cell? ⟨(ι l).blk, (ι l).off + i, none⟩ = some y ∧ VR H.D ι x y := by
  obtain ⟨arr, t, f, hw, hsz, hc, _⟩ := h.blk l b hb
  obtain ⟨y, hy, hv⟩ := hc i x hx
  exact ⟨y, by simp [World.cell?, hw, hy], hv⟩
theorem addr_add (b o i : Nat) : (⟨b, o, none⟩ : Addr).add i = ⟨b, o + i, none⟩ := by
  unfold Addr.add; split <;> simp_all
theorem run_isAgg {t : TypeId} {c : Bool} (h : aggB P t = some c) (w : World) : (isAgg t).run P w = .ok c w := by
  unfold aggB at h
  cases hu : P.underlying t with
  | none => simp [hu] at h
  | some d =>
    simp only [hu, Option.map_some, Option.some.injEq] at h
    unfold isAgg
    rw [Sem.run_bind, run_underlying hu w]
    cases d <;> (simp only [Result.andThen_ok, aggD] at *; subst h; rfl)
theorem run_sizeOf' {t : TypeId} {s : Nat} (h : sz P t = some s) (w : World) : (sizeOf t).run P w = .ok s w := by
  unfold sz at h
  cases hi : P.info? t with
  | none => simp [hi] at h
  | some i => simp [hi] at h; simp [sizeOf, typeInfo, hi, h]
theorem run_zero {t : TypeId} {z : Value} (h : zr P t = some z) (w : World) : (zeroValue t).run P w = .ok z w := by
  unfold zr at h
  cases hi : P.info? t with
  | none => simp [hi] at h
  | some i =>
    simp only [hi, Option.bind_some] at h
    simp [zeroValue, typeInfo, hi, h]

theorem load_sound (h : Rel P H ι w) {t : TypeId} {l off : Nat} (hl : lload P t l off H = some v) :
    ∃ v', (∀ w' : World, w'.heap[(ι l).blk]? = w.heap[(ι l).blk]? → (loadVar t ⟨(ι l).blk, (ι l).off + off, none⟩).run P w' = .ok v' w') ∧ VR H.D ι v v' := by
  unfold lload at hl
  split at hl
  · rename_i b hb
    split at hl
    · rename_i s ha hs
      simp only [lcells, Option.map_eq_some_iff] at hl
      obtain ⟨cs, hcs, rfl⟩ := hl
      split at hcs
      · rename_i hle
        simp only [Option.some.injEq] at hcs
        have hlen : cs.length = s := by rw [← hcs]; simp; omega
        have hget : ∀ j x, cs[j]? = some x → b.cells[off + j]? = some x := by
          intro j x hx
          rw [← hcs, List.getElem?_take] at hx
          split at hx
          · rw [List.getElem?_drop] at hx; exact hx
          · cases hx
        have hall : ∀ j, j < s → ∃ y, w.cell? ⟨(ι l).blk, (ι l).off + off + j, none⟩ = some y ∧ ∀ x, cs[j]? = some x → VR H.D ι x y := by
          intro j hj
          have hx : cs[j]? = some (cs[j]'(by omega)) := List.getElem?_eq_getElem (by omega)
          obtain ⟨y, hy, hv⟩ := h.cell hb (hget j _ hx)
          exact ⟨y, by rw [Nat.add_assoc]; exact hy, fun x hx' => by rw [hx] at hx'; injection hx' with hx'; rw [← hx']; exact hv⟩
        obtain ⟨f, hf⟩ : ∃ f : Nat → Value, ∀ j, j < s → w.cell? ⟨(ι l).blk, (ι l).off + off + j, none⟩ = some (f j) ∧ ∀ x, cs[j]? = some x → VR H.D ι x (f j) := by
          classical
          refine ⟨fun j => if hj : j < s then Classical.choose (hall j hj) else undef, fun j hj => ?_⟩
          simp only [dif_pos hj]
          exact Classical.choose_spec (hall j hj)
        have hrun := fun (w' : World) (hw' : w'.heap[(ι l).blk]? = w.heap[(ι l).blk]?) => run_loadCells (P := P) w' ⟨(ι l).blk, (ι l).off + off, none⟩ s f (fun j hj => by rw [addr_add, World.cell?_of_block (w := w) hw']; exact (hf j hj).1)
        refine ⟨.agg ((List.range s).map f).toArray, ?_, ?_⟩
        · intro w' hw'
          unfold loadVar
          rw [Sem.run_bind, run_isAgg ha]
          simp only [Result.andThen_ok, if_true, Sem.run_bind, run_sizeOf' hs]
          rw [hrun w' hw']
          rfl
        · refine .agg _ _ (by simp [hlen]) (fun i x y hx hy => ?_)
          simp only [List.getElem?_toArray] at hx
          have hi : i < s := by rw [← hlen]; exact (List.getElem?_eq_some_iff.1 hx).1
          simp [hi] at hy
          subst hy
          exact (hf i hi).2 x hx
      · cases hcs
    · rename_i ha
      obtain ⟨y, hy, hv⟩ := h.cell hb hl
      refine ⟨y, fun w' hw' => ?_, hv⟩
      unfold loadVar
      rw [Sem.run_bind, run_isAgg ha]
      have hy' := (World.cell?_of_block (w := w) (w' := w') (a := ⟨(ι l).blk, (ι l).off + off, none⟩) hw').trans hy
      simp [load, Sem.run, hy']
    · cases hl
  · cases hl

/-- a new block -/
def Ren.add (ι : Ren) (n : Nat) (x : Im) : Ren := fun l => if l = n then x else ι l
theorem rel_at (h : Rel P H ι w) {b : LB} {arr : Array Value} {slack s l0 : Nat} (hrw : b.rw = true) (hs : sz P b.elem = some s) (hsz : arr.size = b.cells.length + slack * s)
    (hm : ∀ n, s ≠ 0 → b.cells.length = n * s → n + slack ≤ maxLen) (hc : ∀ (i : Nat) x, b.cells[i]? = some x → ∃ y, arr[i]? = some y ∧ VR H.D ι x y)
    (hget : ∀ k, H'.get k = if k = l0 then some b else H.get k) (hD : ∀ k, H'.D k ↔ H.D k ∨ k = l0) (hfr : ¬ H.D l0) (hdom : ∀ l, H'.n ≤ l → H'.get l = none) (hhol : ∀ l, H'.hole l → l < H'.n ∧ H'.get l = none) (hn : H.n ≤ H'.n) (hbase : H'.base = H.base) (hng : H'.ng = H.ng) :
    Out P H ι w H' (ι.add l0 ⟨w.heap.size, 0, slack⟩) (w.alloc (.cells arr b.elem)) := by
  have hne0 : ∀ l, H.D l → l ≠ l0 := fun l hl e => hfr (e ▸ hl)
  have hsame : ∀ l, H.D l → (ι.add l0 ⟨w.heap.size, 0, slack⟩) l = ι l := fun l hl => by unfold Ren.add; rw [if_neg (hne0 l hl)]
  have hsub : ∀ l, H.D l → H'.D l := fun l hl => (hD l).2 (.inl hl)
  have hold : ∀ l b', H.get l = some b' → (ι l).blk < w.heap.size := fun l b' hb => by
    obtain ⟨arr', t, f, hw, _⟩ := h.blk l b' hb
    exact lt_of_block hw
  have hrwk : ∀ k, RW H' (ι.add l0 ⟨w.heap.size, 0, slack⟩) k → RW H ι k ∨ w.heap.size ≤ k := by
    rintro k ⟨l, b', hb', hrw', rfl⟩
    rw [hget] at hb'
    split at hb'
    · rename_i e; subst e; right; simp [Ren.add]
    · left; rw [hsame l (h.live hb')]; exact ⟨l, b', hb', hrw', rfl⟩
  refine ⟨⟨hdom, hhol, ?_, ?_, pin_step h ((Change.refl _ w).alloc _) hrwk hbase hng⟩, hn, hsub, hsame, (Change.refl _ w).alloc _, hrwk⟩
  · intro l b' hb'
    rw [hget] at hb'
    split at hb'
    · rename_i e
      subst e
      injection hb' with hb'
      subst hb'
      have e : (ι.add l ⟨w.heap.size, 0, slack⟩) l = ⟨w.heap.size, 0, slack⟩ := by simp [Ren.add]
      rw [e]
      refine ⟨arr, b.elem, (0, 0), heap_alloc_new w _, by simp; omega, fun i x hx => ?_, fun _ => ⟨rfl, rfl, rfl, s, hs, hsz, hm⟩⟩
      obtain ⟨y, hy, hv⟩ := hc i x hx
      exact ⟨y, by simpa using hy, hv.mono hsub hsame⟩
    · rw [hsame l (h.live hb')]
      obtain ⟨arr', t, f, hw, h1, h2, h3⟩ := h.blk l b' hb'
      refine ⟨arr', t, f, by rw [Below.heap_alloc _ _ _ (hold l b' hb')]; exact hw, h1, fun i x hx => ?_, h3⟩
      obtain ⟨y, hy, hv⟩ := h2 i x hx
      exact ⟨y, hy, hv.mono hsub hsame⟩
  · intro l l' b1 b2 h1 h2 hrw1 hne
    rw [hget] at h1 h2
    split at h1 <;> split at h2
    · omega
    · rename_i e1 e2
      rw [hsame l' (h.live h2), e1]
      have := hold l' b2 h2
      simp only [Ren.add, if_true]; omega
    · rename_i e1 e2
      rw [hsame l (h.live h1), e2]
      have := hold l b1 h1
      simp only [Ren.add, if_true]; omega
    · rw [hsame l (h.live h1), hsame l' (h.live h2)]
      exact h.sep l l' b1 b2 h1 h2 hrw1 hne
theorem Rel.top (h : Rel P H ι w) : ¬ H.hole H.n := fun hh => Nat.lt_irrefl _ (h.hol _ hh).1
theorem D_new (h : Rel P H ι w) {b : LB} (k : Nat) : (H.new b).D k ↔ H.D k ∨ k = H.n := by
  have := h.top
  show k < H.n + 1 ∧ ¬ H.hole k ↔ _
  unfold LH.D
  constructor
  · rintro ⟨h1, h2⟩
    rcases Nat.lt_or_ge k H.n with h3 | h3
    · exact .inl ⟨h3, h2⟩
    · exact .inr (by omega)
  · rintro (⟨h1, h2⟩ | rfl)
    · exact ⟨by omega, h2⟩
    · exact ⟨by omega, this⟩
theorem dom_new (h : Rel P H ι w) {b : LB} : (∀ l, (H.new b).n ≤ l → (H.new b).get l = none) ∧ (∀ l, (H.new b).hole l → l < (H.new b).n ∧ (H.new b).get l = none) ∧ ¬ H.D H.n := by
  refine ⟨fun l hl => ?_, fun l hl => ?_, fun hd => Nat.lt_irrefl _ hd.1⟩
  · show (if l = H.n then some b else H.get l) = none
    have : H.n + 1 ≤ l := hl
    rw [if_neg (by omega)]
    exact h.dom l (by omega)
  · have h1 : H.hole l := hl
    obtain ⟨h2, h3⟩ := h.hol l h1
    refine ⟨Nat.lt_succ_of_lt h2, ?_⟩
    show (if l = H.n then some b else H.get l) = none
    rw [if_neg (by omega), h3]
theorem rel_new (h : Rel P H ι w) {b : LB} {arr : Array Value} {slack s : Nat} (hrw : b.rw = true) (hs : sz P b.elem = some s) (hsz : arr.size = b.cells.length + slack * s)
    (hm : ∀ n, s ≠ 0 → b.cells.length = n * s → n + slack ≤ maxLen) (hc : ∀ (i : Nat) x, b.cells[i]? = some x → ∃ y, arr[i]? = some y ∧ VR H.D ι x y) :
    Out P H ι w (H.new b) (ι.add H.n ⟨w.heap.size, 0, slack⟩) (w.alloc (.cells arr b.elem)) :=
  let ⟨h1, h2, h3⟩ := dom_new h (b := b)
  rel_at h hrw hs hsz hm hc (fun _ => rfl) (D_new h) h3 h1 h2 (Nat.le_succ _) rfl rfl

/-- cells of a block are written -/
theorem rel_set (h : Rel P H ι w) {l : Nat} {b b' : LB} (hb : H.get l = some b) (hrw : b.rw = true) (he : b'.elem = b.elem) (hrw' : b'.rw = true) (hlen : b'.cells.length = b.cells.length)
    {arr arr' : Array Value} (hw : w.heap[(ι l).blk]? = some (.cells arr b.elem (0, 0))) (hsz : arr'.size = arr.size) (hc : ∀ (i : Nat) x, b'.cells[i]? = some x → ∃ y, arr'[i]? = some y ∧ VR H.D ι x y)
    {w' : World} (hw' : w'.heap[(ι l).blk]? = some (.cells arr' b.elem (0, 0))) (hch : Change (fun k => k = (ι l).blk) w w') : Out P H ι w (H.set l b') ι w' := by
  have hold : ∀ l b', H.get l = some b' → (ι l).blk < w.heap.size := fun l b' hb => by
    obtain ⟨arr', t, f, hw, _⟩ := h.blk l b' hb
    exact lt_of_block hw
  have hrwk : ∀ k, RW (H.set l b') ι k → RW H ι k ∨ w.heap.size ≤ k := by
    rintro k ⟨m, c, hk, hc1, rfl⟩
    change (if m = l then some b' else H.get m) = some c at hk
    left
    split at hk
    · rename_i e; subst e; exact ⟨m, b, hb, hrw, rfl⟩
    · exact ⟨m, c, hk, hc1, rfl⟩
  have hch2 : Change (RW H ι) w w' := hch.mono (fun k _ hk => ⟨l, b, hb, hrw, hk.symm⟩)
  refine ⟨⟨?_, ?_, ?_, ?_, pin_step h hch2 hrwk rfl rfl⟩, Nat.le_refl _, fun _ h => h, fun _ _ => rfl, hch2, hrwk⟩
  · intro k hk
    show (if k = l then some b' else H.get k) = none
    have := (h.live hb).1
    have hk' : H.n ≤ k := hk
    rw [if_neg (by omega)]
    exact h.dom k hk
  · intro k hk
    have hk' : H.hole k := hk
    refine ⟨(h.hol k hk').1, ?_⟩
    show (if k = l then some b' else H.get k) = none
    have hne : k ≠ l := fun e => (h.live hb).2 (e ▸ hk')
    rw [if_neg hne]
    exact (h.hol k hk').2
  · intro k c hk
    change (if k = l then some b' else H.get k) = some c at hk
    split at hk
    · rename_i e
      subst e
      injection hk with hk
      subst hk
      obtain ⟨arr0, t0, f0, hw0, h1, h2, h3⟩ := h.blk k b hb
      obtain ⟨g1, g2, g3, s, g4, g5, g6⟩ := h3 hrw
      rw [hw] at hw0
      injection hw0 with hw0
      injection hw0 with e1 e2 e3
      subst e1
      refine ⟨arr', b.elem, (0, 0), hw', by rw [hlen, hsz]; exact h1, fun i x hx => ?_, fun _ => ⟨g1, he.symm, rfl, s, by rw [he]; exact g4, by rw [hsz, hlen]; exact g5, by rw [hlen]; exact g6⟩⟩
      obtain ⟨y, hy, hv⟩ := hc i x hx
      exact ⟨y, by rw [g1, Nat.zero_add]; exact hy, hv⟩
    · rename_i hne
      obtain ⟨arr0, t0, f0, hw0, h1, h2, h3⟩ := h.blk k c hk
      exact ⟨arr0, t0, f0, by rw [hch.block _ (hold k c hk) (h.sep l k b c hb hk hrw (fun e => hne e.symm)).symm]; exact hw0, h1, h2, h3⟩
  · intro k k' c c' h1 h2 h3 hne
    change (if k = l then some b' else H.get k) = some c at h1
    change (if k' = l then some b' else H.get k') = some c' at h2
    split at h1 <;> split at h2
    · omega
    · rename_i e1 e2; subst e1; exact h.sep k k' b c' hb h2 hrw hne
    · rename_i e1 e2; subst e2; exact h.sep k k' c b h1 hb h3 hne
    · exact h.sep k k' c c' h1 h2 h3 hne
theorem splice_length {cs vs : List Value} {o : Nat} (h : o + vs.length ≤ cs.length) : (splice cs o vs).length = cs.length := by
  simp [splice]; omega
theorem splice_get {cs vs : List Value} {o : Nat} (h : o + vs.length ≤ cs.length) (i : Nat) : (splice cs o vs)[i]? = if i < o then cs[i]? else if i < o + vs.length then vs[i - o]? else cs[i]? := by
  unfold splice
  rw [List.append_assoc, List.getElem?_append, List.length_take, Nat.min_eq_left (by omega)]
  split
  · rw [List.getElem?_take, if_pos ‹_›]
  · rw [List.getElem?_append]
    split
    · rw [if_pos (by omega)]
    · rw [if_neg (by omega), List.getElem?_drop]
      congr 1; omega
theorem setRow_change {w : World} {g : Nat} (cs : Array Value) : Change (fun k => k = g) w (w.setRow g cs) := by
  refine ⟨rfl, rfl, rfl, by simp [World.setRow], fun k hk hne => ?_⟩
  simp only [World.setRow, Array.getElem?_modify]
  rw [if_neg (by omega)]
/-- cells of a row's block are written -/
theorem row_out (h : Rel P H ι w) {l o : Nat} {b : LB} {vs us : List Value} {arr : Array Value} (hb : H.get l = some b) (hrw : b.rw = true) (hle : o + vs.length ≤ b.cells.length) (hlen : us.length = vs.length)
    (hv : ∀ (i : Nat) x y, vs[i]? = some x → us[i]? = some y → VR H.D ι x y) (hw : w.heap[(ι l).blk]? = some (.cells arr b.elem (0, 0))) (hin : o + us.length ≤ arr.size) :
    Out P H ι w (H.set l { b with cells := splice b.cells o vs }) ι (w.setRow (ι l).blk (splice arr.toList o us).toArray) := by
  obtain ⟨arr1, t, f, hw1, h1, h2, h3⟩ := h.blk l b hb
  obtain ⟨g1, g2, g3, s, g4, g5, g6⟩ := h3 hrw
  rw [hw] at hw1
  injection hw1 with hw1
  injection hw1 with e1 e2 e3
  subst e1
  have hin' : o + us.length ≤ arr.toList.length := by simpa using hin
  have hsz : (splice arr.toList o us).toArray.size = arr.size := by simp [splice_length hin']
  refine rel_set (b' := { b with cells := splice b.cells o vs }) h hb hrw rfl hrw (splice_length hle) hw hsz (fun i x hx => ?_) ?_ (setRow_change _)
  · have hx' := hx
    simp only at hx'
    rw [splice_get hle] at hx'
    have ha := splice_get (cs := arr.toList) (vs := us) (o := o) hin' i
    rw [List.getElem?_toArray, ha]
    by_cases c1 : i < o
    · rw [if_pos c1] at hx' ⊢
      obtain ⟨y, hy, hv'⟩ := h2 i x hx'
      rw [g1, Nat.zero_add] at hy
      exact ⟨y, by simpa using hy, hv'⟩
    · rw [if_neg c1] at hx' ⊢
      by_cases c2 : i < o + vs.length
      · rw [if_pos c2] at hx'
        rw [if_pos (by omega)]
        have : i - o < us.length := by omega
        exact ⟨us[i - o], List.getElem?_eq_getElem this, hv _ _ _ hx' (List.getElem?_eq_getElem this)⟩
      · rw [if_neg c2] at hx'
        rw [if_neg (by omega)]
        obtain ⟨y, hy, hv'⟩ := h2 i x hx'
        rw [g1, Nat.zero_add] at hy
        exact ⟨y, by simpa using hy, hv'⟩
  · simp only [World.setRow, Array.getElem?_modify, hw]
    simp
theorem row_sound (h : Rel P H ι w) {l o : Nat} {b : LB} {vs us : List Value} (hb : H.get l = some b) (hrw : b.rw = true) (hle : o + vs.length ≤ b.cells.length) (hlen : us.length = vs.length)
    (hv : ∀ (i : Nat) x y, vs[i]? = some x → us[i]? = some y → VR H.D ι x y) (hone : ∀ u ∈ us, u.oneCell' = true) :
    ∃ w', (storeCells ⟨(ι l).blk, (ι l).off + o, none⟩ us).run P w = .ok () w' ∧ Out P H ι w (H.set l { b with cells := splice b.cells o vs }) ι w' := by
  obtain ⟨arr, t, f, hw, h1, h2, h3⟩ := h.blk l b hb
  obtain ⟨g1, rfl, rfl, s, g4, g5, g6⟩ := h3 hrw
  rw [g1] at h1 ⊢
  have hrun := run_storeCells_at (P := P) (ι l).blk (0 + o) b.elem us 0 arr w hw (by omega) hone
  refine ⟨_, hrun, ?_⟩
  have := row_out h hb hrw hle hlen hv hw (by omega)
  have e : (arr.toList.take (0 + o + 0) ++ us ++ arr.toList.drop (0 + o + 0 + us.length)) = splice arr.toList o us := by simp [splice]
  rw [e]
  exact this
theorem store_sound (h : Rel P H ι w) {t : TypeId} {l off : Nat} (hv : VR H.D ι v v') (hl : lstore P t l off v H = some H') :
    ∃ w', (storeVar t ⟨(ι l).blk, (ι l).off + off, none⟩ v').run P w = .ok () w' ∧ Out P H ι w H' ι w' := by
  unfold lstore at hl
  split at hl
  · rename_i b s hb hs
    split at hl
    · rename_i hc
      simp only [Bool.and_eq_true, beq_iff_eq, decide_eq_true_eq, List.all_eq_true] at hc
      obtain ⟨⟨⟨c1, c2⟩, c3⟩, c4⟩ := hc
      simp only [Option.some.injEq] at hl
      subst hl
      have hk : knownB v = true := by
        cases v <;> first | rfl | skip
        rename_i r
        have := c3 (.chan r) (by simp [Value.cells])
        simp [cellB] at this
      obtain ⟨k1, k2⟩ := vr_cells hv hk
      obtain ⟨w', hr, ho⟩ := row_sound (o := off) (vs := v.cells.toList) (us := v'.cells.toList) h hb c1 c4 (by simp [k1]) (fun i x y hx hy => k2 i x y (by simpa using hx) (by simpa using hy))
        (fun u hu => by
          obtain ⟨i, hi⟩ := List.getElem?_of_mem hu
          have hlt : i < v.cells.size := by rw [k1]; simpa using (List.getElem?_eq_some_iff.1 hi).1
          have hx : v.cells[i]? = some v.cells[i] := Array.getElem?_eq_getElem hlt
          exact cell_one (k2 i _ u hx (by simpa using hi)) (c3 _ (by simp)))
      refine ⟨w', ?_, ho⟩
      unfold storeVar
      have hz : v'.cells.size = s := by rw [← k1, ← c2]; simp
      simp only [Sem.run_bind, run_sizeOf' hs, Result.andThen_ok, hz, ne_eq, not_true_eq_false, if_false]
      exact hr
    · cases hl
  · cases hl
end
end Go.Lg
