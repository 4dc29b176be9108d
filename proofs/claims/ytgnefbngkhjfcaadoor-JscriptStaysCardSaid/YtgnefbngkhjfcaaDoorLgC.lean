/-
  A logical run of Go code: regions, code, calls.
-/
import Derived.Test.YtgnefbngkhjfcaaDoorLgQ
import Derived.Deep.Quiet
set_option linter.unusedSimpArgs false
set_option linter.unusedVariables false
namespace Go.Lg
open Go.Tg Go.RowKit

section
variable {P : Program} {T : Callee} {H H' H1 : LH} {ι : Ren} {o : Oper} {a : Act} {w : World} {v v' : Value} {N : Nat} {fr fr' : Fr}

theorem args_rel (hfr : FrR H.D ι N fr a.tmps) (args : Array Operand) : (args.toList.map (ev fr)).length = (args.map a.eval).size ∧ ∀ (i : Nat) (x y : Value), (args.toList.map (ev fr))[i]? = some x → (args.map a.eval)[i]? = some y → VR H.D ι x y := by
  refine ⟨by simp, fun i x y hx hy => ?_⟩
  rw [List.getElem?_map, Array.getElem?_toList] at hx
  rw [Array.getElem?_map] at hy
  cases h : args[i]? with
  | none => simp [h] at hx
  | some z =>
    simp only [h, Option.map_some, Option.some.injEq] at hx hy
    rw [← hx, ← hy]; exact hfr.ev z
theorem builtin_run (hrel : Rel P H ι w) {b : Builtin} {ats : List TypeId} {args : List Value} {args' : Array Value} {ty : TypeId} {cs : Array Bool} (hl : args.length = args'.size)
    (hv : ∀ (i : Nat) (x y : Value), args[i]? = some x → args'[i]? = some y → VR H.D ι x y) (h : lbuiltin P b ats args H = some (v, H')) :
    ∃ v' w' ι', (builtin b ats.toArray ty cs args').run P w = .ok (.value v') w' ∧ Out P H ι w H' ι' w' ∧ VR H'.D ι' v v' := by
  unfold lbuiltin at h
  split at h
  · rename_i t x
    obtain ⟨y, rfl⟩ : ∃ y, args' = #[y] := by
      obtain ⟨l⟩ := args'
      match l, hl with
      | [y], _ => exact ⟨y, rfl⟩
    have hxy := hv 0 x y rfl rfl
    split at h
    · rename_i s hu
      simp only [Option.some.injEq, Prod.mk.injEq] at h
      obtain ⟨rfl, rfl⟩ := h
      have := flat_eq hxy rfl
      subst this
      exact ⟨_, w, ι, by simp [builtin, Builtin.len_, Sem.run_bind, run_underlying hu, goInt], Out.refl hrel, .flat _ rfl⟩
    · rename_i b' n c hu
      simp only [Option.some.injEq, Prod.mk.injEq] at h
      obtain ⟨rfl, rfl⟩ := h
      obtain ⟨b2, c2, rfl, _⟩ := vr_slice hxy
      exact ⟨_, w, ι, by simp [builtin, Builtin.len_, Sem.run_bind, run_underlying hu, goInt], Out.refl hrel, .flat _ rfl⟩
    · cases h
  · rename_i t u x y
    split at h
    · rename_i e
      subst e
      obtain ⟨x', y', rfl⟩ : ∃ x' y', args' = #[x', y'] := by
        obtain ⟨l⟩ := args'
        match l, hl with
        | [y, z], _ => exact ⟨y, z, rfl⟩
      obtain ⟨v', w', ι', hr, ho, hvr⟩ := append_sound (ty := ty) hrel (hv 0 x x' rfl rfl) (hv 1 y y' rfl rfl) h
      refine ⟨v', w', ι', ?_, ho, hvr⟩
      simp only [builtin, Sem.run_bind, hr, Result.andThen_ok, Sem.run_pure]
    · cases h
  · rename_i k x k' y
    simp only [Option.some.injEq, Prod.mk.injEq] at h
    obtain ⟨rfl, rfl⟩ := h
    obtain ⟨x', y', rfl⟩ : ∃ x' y', args' = #[x', y'] := by
      obtain ⟨l⟩ := args'
      match l, hl with
      | [y, z], _ => exact ⟨y, z, rfl⟩
    have e1 := flat_eq (hv 0 _ x' rfl rfl) rfl
    have e2 := flat_eq (hv 1 _ y' rfl rfl) rfl
    subst e1 e2
    exact ⟨_, w, ι, by simp [builtin, Builtin.min_, Builtin.min2, Sem.run_bind], Out.refl hrel, .flat _ rfl⟩
  · rename_i k x k' y
    simp only [Option.some.injEq, Prod.mk.injEq] at h
    obtain ⟨rfl, rfl⟩ := h
    obtain ⟨x', y', rfl⟩ : ∃ x' y', args' = #[x', y'] := by
      obtain ⟨l⟩ := args'
      match l, hl with
      | [y, z], _ => exact ⟨y, z, rfl⟩
    have e1 := flat_eq (hv 0 _ x' rfl rfl) rfl
    have e2 := flat_eq (hv 1 _ y' rfl rfl) rfl
    subst e1 e2
    exact ⟨_, w, ι, by simp [builtin, Builtin.max_, Builtin.max2, Sem.run_bind], Out.refl hrel, .flat _ rfl⟩
  · cases h
theorem builtin_ok (hrel : Rel P H ι w) (hfr : FrR H.D ι N fr a.tmps) {c : Call} {b : Builtin} (ho : o.op = .call c) (hc : c.callee = .builtin b) (h : lbuiltin P b c.argTypes.toList (c.args.toList.map (ev fr)) H = some (v, H')) : OpOk P H ι o a w v H' := by
  obtain ⟨h1, h2⟩ := args_rel hfr c.args
  obtain ⟨v', w', ι', hr, hout, hvr⟩ := builtin_run (ty := o.type) (cs := c.args.map fun | .const _ => true | _ => false) hrel h1 h2 h
  refine opok_world (v' := v') ?_ hout hvr
  unfold execOp
  simp only [ho, resolve, hc, Sem.run_bind, Sem.run_pure, Result.andThen_ok, invoke]
  exact hr
theorem enter_run {g : FuncId} (hg : Entered P g) (args : Array Value) : (callFunc g args).run P w = .ok (.enter g args) w := by
  obtain ⟨fn, hf, hb, hn⟩ := hg
  unfold callFunc
  have h1 : (fn.name == "runtime.NumGoroutine") = false := by simpa using hn
  have h2 : fn.body.isNone = false := by cases hq : fn.body <;> simp_all
  have hp : (program).run P w = .ok P w := rfl
  simp only [Sem.run_bind, hp, Result.andThen_ok, hf, h1, h2, Bool.false_eq_true, if_false, Sem.run_pure]
theorem callee_run (hfr : FrR H.D ι N fr a.tmps) {c : Call} {f : Operand} (ho : o.op = .call c) (hc : c.callee = .value f) {g : FuncId} {first captured : Array Value} (hf : ev fr f = .func (.func g) first captured) (h0 : first.size = 0) (hg : Entered P g) :
    ∃ cap', (execOp a.eval o).run P w = .ok (.enter g ((c.args.map a.eval) ++ cap')) w ∧ captured.size = cap'.size ∧ ∀ (i : Nat) (x y : Value), captured[i]? = some x → cap'[i]? = some y → VR H.D ι x y := by
  have h1 := hfr.ev f
  rw [hf] at h1
  have h2 : ∃ cap', a.eval f = .func (.func g) #[] cap' ∧ captured.size = cap'.size ∧ ∀ (i : Nat) (x y : Value), captured[i]? = some x → cap'[i]? = some y → VR H.D ι x y := by
    generalize a.eval f = y at h1
    cases h1 with
    | flat _ hv =>
      have e0 : first = #[] := Array.eq_empty_of_size_eq_zero h0
      subst e0
      have e1 : captured = #[] := Array.eq_empty_of_size_eq_zero (by simpa [flatB, flat1B, atomB] using hv)
      subst e1
      exact ⟨_, rfl, rfl, fun i x y hx _ => by simp at hx⟩
    | func _ _ b _ d g1 g2 g3 g4 =>
      have e0 : b = #[] := Array.eq_empty_of_size_eq_zero (by rw [← g1]; exact h0)
      subst e0
      exact ⟨d, rfl, g2, g4⟩
  obtain ⟨cap', e, h3, h4⟩ := h2
  refine ⟨cap', ?_, h3, h4⟩
  unfold execOp
  simp only [ho, resolve, hc, e, Deferred.ofValue, Sem.run_bind, Sem.run_pure, Result.andThen_ok, invoke]
  rw [show (#[] ++ c.args.map a.eval ++ cap' : Array Value) = c.args.map a.eval ++ cap' by simp]
  exact enter_run hg _
theorem app_rel {n : Nat → Prop} {xs ys : List Value} {us vs : Array Value} (h1 : xs.length = us.size) (h2 : ys.length = vs.size) (g1 : ∀ (i : Nat) (x y : Value), xs[i]? = some x → us[i]? = some y → VR n ι x y) (g2 : ∀ (i : Nat) (x y : Value), ys[i]? = some x → vs[i]? = some y → VR n ι x y) :
    (xs ++ ys).length = (us ++ vs).size ∧ ∀ (i : Nat) (x y : Value), (xs ++ ys)[i]? = some x → (us ++ vs)[i]? = some y → VR n ι x y := by
  refine ⟨by simp [h1, h2], fun i x y hx hy => ?_⟩
  rw [List.getElem?_append] at hx
  rw [Array.getElem?_append] at hy
  rw [h1] at hx
  split at hx
  · rw [if_pos ‹_›] at hy; exact g1 i x y hx hy
  · rw [if_neg ‹_›] at hy; exact g2 _ x y hx hy
theorem call_ok (hT : TOk P T) (hrel : Rel P H ι w) (hfr : FrR H.D ι N fr a.tmps) {c : Call} {f : Operand} (ho : o.op = .call c) (hc : c.callee = .value f) (h : lcallee P T (ev fr f) (c.args.toList.map (ev fr)) H = some (v, H')) : OpOk P H ι o a w v H' := by
  unfold lcallee at h
  split at h
  · rename_i g first captured hf
    split at h
    · rename_i h0
      obtain ⟨hg, hcall⟩ := hT _ _ _ _ _ h
      obtain ⟨cap', hr, k1, k2⟩ := callee_run (w := w) hfr ho hc hf h0 hg
      obtain ⟨h1, h2⟩ := args_rel hfr c.args
      obtain ⟨m1, m2⟩ := app_rel (ys := captured.toList) h1 (by rw [Array.length_toList]; exact k1) h2 (fun i x y hx hy => k2 i x y (by simpa using hx) hy)
      intro K Q hK
      unfold Oper.wp
      rw [hr, Oper.upon_enter]
      refine (hcall ι w _ hrel m1 m2).mono ?_
      rintro e w' ⟨ι', v', rfl, hout, hvr⟩
      exact hK ι' v' w' hout hvr
    · cases h
  · cases h

/-- operations that leave memory as it is -/
def readB : Op → Bool
  | .store _ _ _ | .box _ _ | .alloc _ | .buildSlice _ _ _ | .call _ => false
  | _ => true
theorem vr_sliceD {n : Nat → Prop} {l o k c : Nat} (h : VR n ι (.slice (some ⟨l, o, none⟩) k c) v') : n l := by
  cases h with
  | flat _ hv => simp [flatB, flat1B, atomB] at hv
  | slice _ _ _ _ hl _ => exact hl
  | slice0 _ _ _ hl => exact hl
theorem lload_sub {t : TypeId} {l off : Nat} (hg : ∀ b, H1.get l = some b → H.get l = some b) (h : lload P t l off H1 = some v) : lload P t l off H = some v := by
  unfold lload at h ⊢
  split at h
  · rename_i b hb
    rw [hg b hb]
    exact h
  · cases h
theorem lbstr_sub {s d : TypeId} {x : Value} (hg : ∀ l o n c b, x = .slice (some ⟨l, o, none⟩) n c → H1.get l = some b → H.get l = some b) (h : lbstr P s d x H1 = some v) : lbstr P s d x H = some v := by
  unfold lbstr at h ⊢
  generalize P.underlying s = us at h ⊢
  generalize P.underlying d = ud at h ⊢
  split at h
  · split at h
    · rename_i hu
      split at h
      · rename_i b hb
        simp only [hu, hg _ _ _ _ b rfl hb]
        exact h
      · cases h
    · cases h
  · cases h
theorem lop_read' (hrel : Rel P H ι w) (hfr : FrR H.D ι N fr a.tmps) (hg : ∀ l b, H.D l → H1.get l = some b → H.get l = some b) (h : lop P T o fr H1 = some (v, H')) (hk : readB o.op = true) : H' = H1 ∧ ReadOk P H.D ι o a w v := by
  unfold lop at h
  split at h
  · rename_i x ho
    simp only [Option.some.injEq, Prod.mk.injEq] at h; obtain ⟨rfl, rfl⟩ := h
    exact ⟨rfl, (move_ok hfr (.inl ho)).read⟩
  · rename_i x ho
    simp only [Option.some.injEq, Prod.mk.injEq] at h; obtain ⟨rfl, rfl⟩ := h
    exact ⟨rfl, (move_ok hfr (.inr ho)).read⟩
  · rename_i c x y ho
    split at h
    · simp only [Option.some.injEq, Prod.mk.injEq] at h; obtain ⟨rfl, rfl⟩ := h
      exact ⟨rfl, (pick_ok hfr ho ‹_›).read⟩
    · cases h
  · rename_i ho
    rw [ho] at hk; cases hk
  · rename_i ho
    rw [ho] at hk; cases hk
  · rename_i t x ho
    split at h
    · rename_i hx
      simp only [Option.map_eq_some_iff, Prod.mk.injEq] at h
      obtain ⟨u, hu, rfl, rfl⟩ := h
      exact ⟨rfl, (load_ok hrel hfr ho hx (lload_sub (fun b hb => hg _ b (by have h1 := hfr.ev x; rw [hx] at h1; exact (vr_ptr h1).1) hb) hu))⟩
    · cases h
  · rename_i ho
    rw [ho] at hk; cases hk
  · rename_i x ho
    split at h
    · rename_i hx
      simp only [Option.some.injEq, Prod.mk.injEq] at h; obtain ⟨rfl, rfl⟩ := h
      exact ⟨rfl, (nilCheck_ok hfr ho hx).read⟩
    · rename_i hx
      simp only [Option.some.injEq, Prod.mk.injEq] at h; obtain ⟨rfl, rfl⟩ := h
      exact ⟨rfl, (nilCheckF_ok hfr ho hx).read⟩
    · cases h
  · rename_i s x f ho
    split at h
    · rename_i hx hu
      split at h
      · rename_i hf
        split at h
        · rename_i hs
          split at h
          · cases h
          · rename_i hm
            simp only [Option.some.injEq, Prod.mk.injEq] at h; obtain ⟨rfl, rfl⟩ := h
            exact ⟨rfl, (fieldAddr_ok hfr ho hx hu hf hs hm).read⟩
        · cases h
      · cases h
    · cases h
  · rename_i t x i ho
    split at h
    · rename_i hx hi hu
      split at h
      · rename_i hs
        split at h
        · rename_i hk
          simp only [Option.some.injEq, Prod.mk.injEq] at h; obtain ⟨rfl, rfl⟩ := h
          exact ⟨rfl, (indexAddr_ok hfr ho hx hi hu hs hk).read⟩
        · cases h
      · cases h
    · cases h
  · rename_i t x lo hi ho
    simp only [Option.map_eq_some_iff, Prod.mk.injEq] at h
    obtain ⟨u, hu, rfl, rfl⟩ := h
    exact ⟨rfl, (slice_ok hfr ho hu).read⟩
  · rename_i t x f ho
    split at h
    · rename_i hu hx
      split at h
      · rename_i hf
        split at h
        · rename_i ha hs
          simp only [Option.some.injEq, Prod.mk.injEq] at h; obtain ⟨rfl, rfl⟩ := h
          exact ⟨rfl, (field_ok hfr ho hx hu hf (.inl ⟨_, ha, hs, rfl⟩)).read⟩
        · rename_i ha
          simp only [Option.map_eq_some_iff, Prod.mk.injEq] at h
          obtain ⟨u, hu', rfl, rfl⟩ := h
          exact ⟨rfl, (field_ok hfr ho hx hu hf (.inr ⟨ha, hu'⟩)).read⟩
        · cases h
      · cases h
    · cases h
  · rename_i x i ho
    split at h
    · rename_i hx
      simp only [Option.map_eq_some_iff, Prod.mk.injEq] at h
      obtain ⟨u, hu, rfl, rfl⟩ := h
      exact ⟨rfl, (extract_ok hfr ho hx hu).read⟩
    · cases h
  · rename_i t parts ho
    simp only [Option.map_eq_some_iff, Prod.mk.injEq] at h
    obtain ⟨u, hu, rfl, rfl⟩ := h
    exact ⟨rfl, (build_ok hfr ho hu).read⟩
  · rename_i ho
    rw [ho] at hk; cases hk
  · rename_i g first captured ho
    split at h
    · rename_i h0
      simp only [Option.some.injEq, Prod.mk.injEq] at h; obtain ⟨rfl, rfl⟩ := h
      exact ⟨rfl, (makeFunc_ok hfr ho h0).read⟩
    · cases h
  · rename_i op t x y yt ho
    simp only [Option.map_eq_some_iff, Prod.mk.injEq] at h
    obtain ⟨u, hu, rfl, rfl⟩ := h
    exact ⟨rfl, (binOp_ok hfr ho hu).read⟩
  · rename_i op t x ho
    split at h
    · simp only [Option.map_eq_some_iff, Prod.mk.injEq] at h
      obtain ⟨u, hu, rfl, rfl⟩ := h
      exact ⟨rfl, (unOp_ok hfr ho ‹_› hu).read⟩
    · cases h
  · rename_i s d x ho
    split at h
    · simp only [Option.map_eq_some_iff, Prod.mk.injEq] at h
      obtain ⟨u, hu, rfl, rfl⟩ := h
      exact ⟨rfl, (convert_ok hfr ho ‹_› hu).read⟩
    · simp only [Option.map_eq_some_iff, Prod.mk.injEq] at h
      obtain ⟨u, hu, rfl, rfl⟩ := h
      exact ⟨rfl, bstr_ok hrel hfr ho (lbstr_sub (fun l o n c b hx hb => hg l b (by have h1 := hfr.ev x; rw [hx] at h1; exact vr_sliceD h1) hb) hu)⟩
  · rename_i t x i ho
    split at h
    · rename_i hc
      rw [Bool.and_eq_true] at hc
      simp only [Option.map_eq_some_iff, Prod.mk.injEq] at h
      obtain ⟨u, hu, rfl, rfl⟩ := h
      exact ⟨rfl, (index_ok hfr ho hc.1 hc.2 hu).read⟩
    · cases h
  · rename_i ho
    rw [ho] at hk; cases hk
  · cases h

theorem lop_read (hrel : Rel P H ι w) (hfr : FrR H.D ι N fr a.tmps) (h : lop P T o fr H = some (v, H')) (hk : readB o.op = true) : H' = H ∧ ReadOk P H.D ι o a w v :=
  lop_read' hrel hfr (fun _ _ _ h => h) h hk

theorem lop_ok (hT : TOk P T) (hrel : Rel P H ι w) (hfr : FrR H.D ι N fr a.tmps) (h : lop P T o fr H = some (v, H')) : OpOk P H ι o a w v H' := by
  cases hk : readB o.op
  case true =>
    obtain ⟨rfl, hr⟩ := lop_read hrel hfr h hk
    exact hr.opok hrel
  unfold lop at h
  split at h <;> try (rename_i ho; rw [ho] at hk; cases hk; done)
  · rename_i e x ho
    split at h
    · rename_i hc
      simp only [Option.some.injEq, Prod.mk.injEq] at h; obtain ⟨rfl, rfl⟩ := h
      simp only [Bool.and_eq_true, beq_iff_eq] at hc
      exact box_ok hrel hfr ho hc.1 hc.2
    · cases h
  · rename_i e ho
    split at h
    · rename_i z hz
      split at h
      · rename_i hc
        simp only [Option.some.injEq, Prod.mk.injEq] at h; obtain ⟨rfl, rfl⟩ := h
        simp only [Bool.and_eq_true, beq_iff_eq] at hc
        exact alloc_ok hrel ho hz hc.1 hc.2
      · cases h
    · cases h
  · rename_i t x y ho
    split at h
    · rename_i hx
      simp only [Option.map_eq_some_iff, Prod.mk.injEq] at h
      obtain ⟨u, hu, rfl, rfl⟩ := h
      exact store_ok hrel hfr ho hx hu
    · cases h
  · rename_i t len parts ho
    exact buildSlice_ok hrel hfr ho h
  · rename_i c ho
    split at h
    · exact call_ok hT hrel hfr ho ‹_› h
    · exact builtin_ok hrel hfr ho ‹_› h
    · cases h
  · cases h

theorem lops_ok (hT : TOk P T) {all : Array Oper} : ∀ (os : List Oper) (fr : Fr) (H : LH) (ι : Ren) (a : Act) (w : World), lops P T N all os fr H = some (fr', H') → Rel P H ι w → FrR H.D ι N fr a.tmps →
    ∀ Q : Exit → Act → World → Prop, (∀ ι' a' w', Out P H ι w H' ι' w' → FrR H'.D ι' N fr' a'.tmps → a'.defers = a.defers → Q .normal a' w') → wpList P all Q os a w
  | [], fr, H, ι, a, w, h, hrel, hfr, Q, hQ => by
    simp only [lops, Option.some.injEq, Prod.mk.injEq] at h
    obtain ⟨rfl, rfl⟩ := h
    exact hQ ι a w (Out.refl hrel) hfr rfl
  | o :: os, fr, H, ι, a, w, h, hrel, hfr, Q, hQ => by
    unfold lops at h
    unfold wpList
    split at h
    · rename_i hw
      rw [if_pos (want_eq hfr hw)]
      left
      split at h
      · rename_i v H1 hop
        split at h
        · rename_i fr1 hput
          refine lop_ok hT hrel hfr hop _ _ (fun ι' v' w' hout hvr => ?_)
          refine lops_ok hT os fr1 H1 ι' _ w' h hout.rel ((hfr.mono hout.sub hout.same).put hput hvr) Q (fun ι2 a2 w2 ho2 hf2 hd2 => ?_)
          exact hQ ι2 a2 w2 (hout.trans ho2) hf2 (by rw [hd2, put_defers])
        · cases h
      · cases h
    · rename_i hw
      rw [if_neg (by rw [want_eq hfr hw]; simp)]
      split at h
      · rename_i fr1 hput
        exact lops_ok hT os fr1 H ι _ w h hrel (hfr.undef _ _ hput) Q (fun ι2 a2 w2 ho2 hf2 hd2 => hQ ι2 a2 w2 ho2 hf2 (by rw [hd2, put_defers]))
      · cases h
    · cases h

theorem rel_change (h : Rel P H ι w) {w' : World} (hc : Change (fun _ => False) w w') : Rel P H ι w' := by
  refine ⟨h.dom, h.hol, fun l b hb => ?_, h.sep, pin_step h (hc.mono fun _ _ hf => hf.elim) (fun _ hk => .inl hk) rfl rfl⟩
  obtain ⟨arr, t, f, hw, h1, h2, h3⟩ := h.blk l b hb
  exact ⟨arr, t, f, by rw [hc.block _ (lt_of_block hw) (fun h => h)]; exact hw, h1, h2, h3⟩
theorem rw_ro {k : Nat} (h : RW H.ro ι k) : False := by
  obtain ⟨l, b, hb, hrw, _⟩ := h
  obtain ⟨c, hc, rfl⟩ := Option.map_eq_some_iff.1 hb
  cases hrw
theorem rel_ro (h : Rel P H ι w) : Rel P H.ro ι w := by
  refine ⟨fun l hl => ?_, fun l hl => ⟨(h.hol l hl).1, ?_⟩, fun l b hb => ?_, fun l l' b b' h1 h2 h3 => ?_, pin_step h (Change.refl _ _) (fun k hk => (rw_ro hk).elim) rfl rfl⟩
  · show (H.get l).map _ = none
    rw [h.dom l hl]; rfl
  · show (H.get l).map _ = none
    rw [(h.hol l hl).2]; rfl
  · obtain ⟨c, hc, rfl⟩ := Option.map_eq_some_iff.1 hb
    obtain ⟨arr, t, f, hw, g1, g2, g3⟩ := h.blk l c hc
    exact ⟨arr, t, f, hw, g1, g2, fun h => by cases h⟩
  · obtain ⟨c, hc, rfl⟩ := Option.map_eq_some_iff.1 h1
    cases h3
theorem builtin_read (hrel : Rel P H ι w) {b : Builtin} {ats : List TypeId} {args : List Value} {args' : Array Value} {ty : TypeId} {cs : Array Bool} (hl : args.length = args'.size) (hb : b ≠ .append)
    (hv : ∀ (i : Nat) (x y : Value), args[i]? = some x → args'[i]? = some y → VR H.D ι x y) (h : lbuiltin P b ats args H = some (v, H')) :
    ∃ v', VR H.D ι v v' ∧ ∀ w : World, (builtin b ats.toArray ty cs args').run P w = .ok (.value v') w := by
  unfold lbuiltin at h
  split at h
  · rename_i t x
    obtain ⟨y, rfl⟩ : ∃ y, args' = #[y] := by
      obtain ⟨l⟩ := args'
      match l, hl with
      | [y], _ => exact ⟨y, rfl⟩
    have hxy := hv 0 x y rfl rfl
    split at h
    · rename_i s hu
      simp only [Option.some.injEq, Prod.mk.injEq] at h
      obtain ⟨rfl, rfl⟩ := h
      have := flat_eq hxy rfl
      subst this
      exact ⟨_, .flat _ rfl, fun w => by simp [builtin, Builtin.len_, Sem.run_bind, run_underlying hu, goInt]⟩
    · rename_i b' n c hu
      simp only [Option.some.injEq, Prod.mk.injEq] at h
      obtain ⟨rfl, rfl⟩ := h
      obtain ⟨b2, c2, rfl, _⟩ := vr_slice hxy
      exact ⟨_, .flat _ rfl, fun w => by simp [builtin, Builtin.len_, Sem.run_bind, run_underlying hu, goInt]⟩
    · cases h
  · exact absurd rfl hb
  · rename_i k x k' y
    simp only [Option.some.injEq, Prod.mk.injEq] at h
    obtain ⟨rfl, rfl⟩ := h
    obtain ⟨x', y', rfl⟩ : ∃ x' y', args' = #[x', y'] := by
      obtain ⟨l⟩ := args'
      match l, hl with
      | [y, z], _ => exact ⟨y, z, rfl⟩
    have e1 := flat_eq (hv 0 _ x' rfl rfl) rfl
    have e2 := flat_eq (hv 1 _ y' rfl rfl) rfl
    subst e1 e2
    exact ⟨_, .flat _ rfl, fun w => by simp [builtin, Builtin.min_, Builtin.min2, Sem.run_bind]⟩
  · rename_i k x k' y
    simp only [Option.some.injEq, Prod.mk.injEq] at h
    obtain ⟨rfl, rfl⟩ := h
    obtain ⟨x', y', rfl⟩ : ∃ x' y', args' = #[x', y'] := by
      obtain ⟨l⟩ := args'
      match l, hl with
      | [y, z], _ => exact ⟨y, z, rfl⟩
    have e1 := flat_eq (hv 0 _ x' rfl rfl) rfl
    have e2 := flat_eq (hv 1 _ y' rfl rfl) rfl
    subst e1 e2
    exact ⟨_, .flat _ rfl, fun w => by simp [builtin, Builtin.max_, Builtin.max2, Sem.run_bind]⟩
  · cases h
/-- an operation of a region whose order is open -/
theorem quiet_ok (hT : TOk P T) (hrel : Rel P H ι w) (hfr : FrR H.D ι N fr a.tmps) (h : lquiet P T o fr H = some v) :
    ∃ v', VR H.D ι v v' ∧ ∀ w1, Change (fun _ => False) w w1 → o.quietAt P a (fun w' => Change (fun _ => False) w w') w1 v' := by
  have ofRead : ReadOk P H.D ι o a w v → ∃ v', VR H.D ι v v' ∧ ∀ w1, Change (fun _ => False) w w1 → o.quietAt P a (fun w' => Change (fun _ => False) w w') w1 v' := by
    rintro ⟨v', hv, hr⟩
    refine ⟨v', hv, fun w1 h1 => ?_⟩
    unfold Oper.quietAt
    rw [hr w1 h1]
    exact ⟨rfl, rfl⟩
  unfold lquiet at h
  split at h
  · cases h
  · cases h
  · cases h
  · cases h
  · rename_i c ho
    split at h
    · rename_i f hc
      split at h
      · rename_i u H1 hcal
        split at h
        · rename_i hflat
          injection h with h
          subst h
          unfold lcallee at hcal
          split at hcal
          · rename_i g first captured hf
            split at hcal
            · rename_i h0
              obtain ⟨hg, hcall⟩ := hT _ _ _ _ _ hcal
              refine ⟨u, .flat _ hflat, fun w1 hw1 => ?_⟩
              obtain ⟨cap', hr, k1, k2⟩ := callee_run (w := w1) hfr ho hc hf h0 hg
              obtain ⟨h1, h2⟩ := args_rel hfr c.args
              obtain ⟨m1, m2⟩ := app_rel (ys := captured.toList) h1 (by rw [Array.length_toList]; exact k1) h2 (fun i x y hx hy => k2 i x y (by simpa using hx) hy)
              unfold Oper.quietAt
              rw [hr]
              refine ⟨rfl, (hcall ι w1 _ (rel_ro (rel_change hrel hw1)) m1 m2).mono ?_⟩
              rintro e w' ⟨ι', v', rfl, hout, hvr⟩
              rw [flat_eq hvr hflat]
              exact ⟨rfl, hw1.trans hout.chg (fun i hi => (rw_ro hi).elim)⟩
            · cases hcal
          · cases hcal
        · cases h
      · cases h
    · cases h
    · rename_i b hne hc
      obtain ⟨⟨u, H1⟩, hu, e⟩ := Option.map_eq_some_iff.1 h
      simp only at e
      subst e
      obtain ⟨h1, h2⟩ := args_rel hfr c.args
      obtain ⟨v', hv, hr⟩ := builtin_read (ty := o.type) (cs := c.args.map fun | .const _ => true | _ => false) hrel h1 (fun e => hne e) h2 hu
      refine ofRead ⟨v', hv, fun w' _ => ?_⟩
      unfold execOp
      simp only [ho, resolve, hc, Sem.run_bind, Sem.run_pure, Result.andThen_ok, invoke]
      exact hr w'
    · cases h
  · rename_i h1 h2 h3 h4 h5
    obtain ⟨⟨u, H1⟩, hu, e⟩ := Option.map_eq_some_iff.1 h
    simp only at e
    subst e
    have hk : readB o.op = true := by
      unfold readB
      split <;> first | rfl | (exfalso; simp_all)
    exact ofRead (lop_read hrel hfr hu hk).2
theorem quiets_ok (hT : TOk P T) {all : Array Oper} (hrel : Rel P H ι w) : ∀ (os : List Oper) (fr : Fr) (a : Act), lquiets P T N all H os fr = some fr' → FrR H.D ι N fr a.tmps →
    ∀ Q : Act → Prop, (∀ a', FrR H.D ι N fr' a'.tmps → a'.defers = a.defers → Q a') → wpQuiet P all (fun w' => Change (fun _ => False) w w') Q os a
  | [], fr, a, h, hfr, Q, hQ => by
    simp only [lquiets, Option.some.injEq] at h
    subst h
    exact hQ a hfr rfl
  | o :: os, fr, a, h, hfr, Q, hQ => by
    unfold lquiets at h
    unfold wpQuiet
    split at h
    · rename_i hw
      rw [if_pos (want_eq hfr hw)]
      split at h
      · rename_i v hop
        split at h
        · rename_i fr1 hput
          obtain ⟨v', hv, hq⟩ := quiet_ok hT hrel hfr hop
          exact ⟨v', hq, quiets_ok hT hrel os fr1 _ h (hfr.put hput hv) Q (fun a' hf hd => hQ a' hf (by rw [hd, put_defers]))⟩
        · cases h
      · cases h
    · rename_i hw
      rw [if_neg (by rw [want_eq hfr hw]; simp)]
      split at h
      · rename_i fr1 hput
        exact quiets_ok hT hrel os fr1 _ h (hfr.undef _ _ hput) Q (fun a' hf hd => hQ a' hf (by rw [hd, put_defers]))
      · cases h
    · cases h
end
end Go.Lg
