/-
  A logical run of Go code: what a call comes to, at whatever depth.
-/
import Derived.Test.YtgnefbngkhjfcaaDoorLgRun
set_option linter.unusedSimpArgs false
set_option linter.unusedVariables false
namespace Go.Lg
open Go.Tg Go.RowKit

abbrev Ext := Env
def ExtOk (P : Program) (ext : Ext) : Prop := ∀ f s, ext f = some s → ∀ args H v H', s args H = some (v, H') → Entered P f ∧ CallOk P f args H v H'

section
variable {P : Program} {ext : Ext} {H H' : LH} {ι ι' : Ren} {w w' : World} {v v' : Value}
theorem out_trunc (hrel : Rel P H ι w) (hout : Out P H ι w H' ι' w') (hle : H.le H') : Out P H ι w H ι w' := by
  refine ⟨⟨hrel.dom, hrel.hol, fun l b hb => ?_, hrel.sep, pin_step hrel hout.chg (fun _ hk => .inl hk) rfl rfl⟩, Nat.le_refl _, fun _ h => h, fun _ _ => rfl, hout.chg, fun k hk => .inl hk⟩
  have hl := hrel.live hb
  obtain ⟨arr, t, f, hw, h1, h2, h3⟩ := hout.rel.blk l b (by rw [hle.2 l hl.1]; exact hb)
  rw [hout.same l hl] at hw h1 h2 h3
  obtain ⟨arr0, t0, f0, hw0, g1, g2, g3⟩ := hrel.blk l b hb
  refine ⟨arr, t, f, hw, h1, fun i x hx => ?_, h3⟩
  obtain ⟨y, hy, hv⟩ := h2 i x hx
  obtain ⟨y0, hy0, hv0⟩ := g2 i x hx
  exact ⟨y, hy, hv.back hv0 hout.same⟩
theorem trunc_ok (hrel : Rel P H ι w) (hout : Out P H ι w H' ι' w') (hv : VR H'.D ι' v v') : ∃ ι2 v2, v' = v2 ∧ Out P H ι w (trunc H (v, H')).2 ι2 w' ∧ VR (trunc H (v, H')).2.D ι2 (trunc H (v, H')).1 v2 := by
  unfold trunc
  split
  · rename_i h
    refine ⟨ι, v', rfl, out_trunc hrel hout h.2, ?_⟩
    rw [flat_eq hv h.1]
    exact .flat _ h.1
  · exact ⟨ι', v', rfl, hout, hv⟩
theorem enter_rel {N : Nat} {args : List Value} {args' : Array Value} (h1 : args.length = args'.size) (h2 : ∀ (i : Nat) (x y : Value), args[i]? = some x → args'[i]? = some y → VR H.D ι x y) (hN : args.length ≤ N) :
    FrR H.D ι N (enter args) (args' ++ Array.replicate (N - args'.size) undef) := by
  refine ⟨by simp; omega, fun t => ?_⟩
  unfold enter
  rw [Array.getD_eq_getD_getElem?, Array.getElem?_append]
  by_cases ht : t < args'.size
  · rw [if_pos ht]
    have e1 : args[t]? = some (args[t]'(by omega)) := List.getElem?_eq_getElem (by omega)
    have e2 := Array.getElem?_eq_getElem ht
    rw [List.getD_eq_getElem?_getD, e1, e2]
    exact h2 t _ _ e1 e2
  · rw [if_neg ht, List.getD_eq_getElem?_getD, List.getElem?_eq_none (by omega), Array.getElem?_replicate]
    split <;> exact .flat _ rfl
theorem lcall_ok (hext : ExtOk P ext) (hm : P.follows .mixedOrders = true) : ∀ n, TOk P (lcall P ext n) := by
  intro n
  induction n with
  | zero => intro f args H v H' h; simp [lcall] at h
  | succ n ih =>
    intro f args H v H' h
    unfold lcall at h
    split at h
    · rename_i s hs
      exact hext f s hs args H v H' h
    · split at h
      · rename_i fn hfn
        split at h
        · rename_i c hb
          split at h
          · rename_i hN
            obtain ⟨r, hr, e⟩ := Option.map_eq_some_iff.1 h
            obtain ⟨u, H1⟩ := r
            refine ⟨⟨fn, hfn, by rw [hb]; rfl, hN.2.1⟩, ?_⟩
            intro ι w args' hrel hl hargs cs
            let b : Frame := { (default : Frame) with fn := f, kind := .normal }
            have henter : Frame.enter P f args' .normal = b.at { tmps := args' ++ Array.replicate (fn.ntmps - args'.size) undef, defers := [] } [.code c] := by
              simp [Frame.enter, Frame.at, hfn, hb, b]
            obtain ⟨a', t', w', ι', v', g1, g2, g3, g4, g5⟩ := run_ok ih hm n [.code c] (enter args) H ι { tmps := args' ++ Array.replicate (fn.ntmps - args'.size) undef, defers := [] } w hr
              (fun x hx => by rcases List.mem_cons.1 hx with rfl | hx; exact hN.2.2; cases hx) hrel (enter_rel hl hargs hN.1) rfl b cs
            rw [← henter] at g1
            obtain ⟨ι2, v2, hv2, k1, k2⟩ := trunc_ok hrel g4 g5
            rw [e] at k1 k2
            exact ⟨.returned v', w', _, ⟨ι2, v', rfl, k1, by rw [hv2]; exact k2⟩, g1, rfl, rfl, g2, rfl, fn, hfn, g3⟩
          · cases h
        · cases h
      · cases h
end

/-! ### more depth changes nothing -/
def Tle (T T' : Callee) : Prop := ∀ f args H r, T f args H = some r → T' f args H = some r
section
variable {P : Program} {T T' : Callee} {fr : Fr} {H : LH} {fn : Func} {L : Loud}
theorem lcallee_mono (h : Tle T T') {f : Value} {args : List Value} {r : Value × LH} (hr : lcallee P T f args H = some r) : lcallee P T' f args H = some r := by
  unfold lcallee at hr ⊢
  split at hr
  · split at hr
    · rw [if_pos ‹_›]; exact h _ _ _ _ hr
    · cases hr
  · cases hr
theorem lop_mono (h : Tle T T') {o : Oper} {r : Value × LH} (hr : lop P T o fr H = some r) : lop P T' o fr H = some r := by
  obtain ⟨dst, op, ty, pos, after, guard⟩ := o
  cases op with
  | call c =>
    simp only [lop] at hr ⊢
    split at hr
    · exact lcallee_mono h hr
    · exact hr
    · cases hr
  | makeFunc f _ _ => cases f <;> exact hr
  | slice _ _ _ _ mx => cases mx <;> exact hr
  | _ => exact hr
theorem lquiet_mono (h : Tle T T') {o : Oper} {r : Value} (hr : lquiet P T o fr H = some r) : lquiet P T' o fr H = some r := by
  obtain ⟨dst, op, ty, pos, after, guard⟩ := o
  cases op with
  | call c =>
    simp only [lquiet] at hr ⊢
    split at hr
    · split at hr
      · rename_i hc
        rw [lcallee_mono h hc]
        exact hr
      · cases hr
    · exact hr
    · exact hr
    · cases hr
  | makeFunc f _ _ => cases f <;> exact hr
  | slice _ _ _ _ mx => cases mx <;> exact hr
  | _ => exact hr
theorem lops_mono (h : Tle T T') {N : Nat} {all : Array Oper} : ∀ {os : List Oper} {fr : Fr} {H : LH} {r : Fr × LH}, lops P T N all os fr H = some r → lops P T' N all os fr H = some r
  | [], fr, H, r, hr => hr
  | o :: os, fr, H, r, hr => by
    unfold lops at hr ⊢
    split at hr
    · split at hr
      · rename_i ho
        rw [lop_mono h ho]
        simp only
        split at hr
        · exact lops_mono h hr
        · cases hr
      · cases hr
    · split at hr
      · exact lops_mono h hr
      · cases hr
    · cases hr
theorem lmixop_mono (h : Tle T T') {o : Oper} {H0 : LH} {r : Value × LH} (hr : lmixop P T o fr H0 H = some r) : lmixop P T' o fr H0 H = some r := by
  have key : lop P T o fr H = some r → lop P T' o fr H = some r := lop_mono h
  obtain ⟨dst, op, ty, pos, after, guard⟩ := o
  cases op with
  | call c =>
    simp only [lmixop] at hr ⊢
    cases hc : c.callee with
    | value f =>
      simp only [hc] at hr ⊢
      split at hr
      · rw [if_pos ‹_›]
        obtain ⟨u, hu, e⟩ := Option.map_eq_some_iff.1 hr
        exact Option.map_eq_some_iff.2 ⟨u, lquiet_mono h hu, e⟩
      · cases hr
    | builtin b => simp only [hc] at hr ⊢; cases b <;> exact hr
    | invoke x y => simp [hc] at hr
  | store _ _ _ => simp [lmixop] at hr
  | _ => simp only [lmixop] at hr ⊢; exact key hr
theorem lmix_mono {L : Loud} (h : Tle T T') {N : Nat} {all : Array Oper} {H0 : LH} : ∀ {os : List Oper} {fr : Fr} {H : LH} {r : Fr × LH}, lmix P L T N all H0 os fr H = some r → lmix P L T' N all H0 os fr H = some r
  | [], fr, H, r, hr => hr
  | o :: os, fr, H, r, hr => by
    unfold lmix at hr ⊢
    split at hr
    · rename_i hl
      rw [if_pos hl]
      exact lops_mono h hr
    · rename_i hl
      rw [if_neg hl]
      split at hr
      · cases hr
      · rename_i d hd
        split at hr
        · rename_i hdN
          split at hr
          · rename_i hw
            split at hr
            · rename_i v H1 hop
              simp only [if_pos hdN, lmixop_mono h hop]
              exact lmix_mono h hr
            · cases hr
          · rename_i hw
            simp only [if_pos hdN]
            exact lmix_mono h hr
          · cases hr
        · cases hr
theorem run_mono (h : Tle T T') : ∀ {n n' : Nat} {todo : List Item} {fr : Fr} {H : LH} {r : Value × LH}, n ≤ n' → run P L T fn n todo fr H = some r → run P L T' fn n' todo fr H = some r := by
  intro n
  induction n with
  | zero => intro n' todo fr H r _ hr; simp [run] at hr
  | succ n ih =>
    intro n' todo fr H r hn hr
    obtain ⟨m, rfl⟩ : ∃ m, n' = m + 1 := ⟨n' - 1, by omega⟩
    have hnm : n ≤ m := by omega
    cases todo with
    | nil => simpa only [run] using hr
    | cons it k =>
      cases it with
      | inBlock id => simp only [run] at hr ⊢; exact ih hnm hr
      | inLoop c => simp only [run] at hr ⊢; exact ih hnm hr
      | code c =>
        cases c with
        | skip => simp only [run] at hr ⊢; exact ih hnm hr
        | label l => simp only [run] at hr ⊢; exact ih hnm hr
        | seq x y => simp only [run] at hr ⊢; exact ih hnm hr
        | block id c => simp only [run] at hr ⊢; exact ih hnm hr
        | loop c => simp only [run] at hr ⊢; exact ih hnm hr
        | ret => simpa only [run] using hr
        | exit id =>
          simp only [run] at hr ⊢
          split at hr
          · exact ih hnm hr
          · cases hr
        | cond c x y =>
          simp only [run] at hr ⊢
          split at hr
          · split at hr
            · rw [if_pos ‹_›]; exact ih hnm hr
            · rw [if_neg ‹_›]; exact ih hnm hr
          · cases hr
        | region id ops draw =>
          cases draw with
          | false =>
            simp only [run] at hr ⊢
            split at hr
            · rename_i hl
              rw [lops_mono h hl]
              exact ih hnm hr
            · cases hr
          | true =>
            simp only [run] at hr ⊢
            split at hr
            · rename_i hl
              rw [lmix_mono h hl]
              exact ih hnm hr
            · cases hr
        | _ => simp [run] at hr
      | _ => simp [run] at hr
end
section
variable {P : Program} {ext : Ext}
theorem lcall_succ : ∀ n, Tle (lcall P ext n) (lcall P ext (n + 1)) := by
  intro n
  induction n with
  | zero => intro f args H r h; simp [lcall] at h
  | succ n ih =>
    intro f args H r h
    unfold lcall at h ⊢
    split at h
    · exact h
    · split at h
      · split at h
        · split at h
          · rw [if_pos ‹_›]
            obtain ⟨x, hx, e⟩ := Option.map_eq_some_iff.1 h
            exact Option.map_eq_some_iff.2 ⟨x, run_mono ih (Nat.le_succ n) hx, e⟩
          · cases h
        · cases h
      · cases h
theorem lcall_mono {n m : Nat} (h : n ≤ m) : Tle (lcall P ext n) (lcall P ext m) := by
  induction h with
  | refl => exact fun _ _ _ _ h => h
  | step _ ih => exact fun f a H r hr => lcall_succ _ f a H r (ih f a H r hr)

open Classical in
/-- WHAT A CALL COMES TO. -/
noncomputable def LC (P : Program) (ext : Ext) : Callee := fun f args H => if h : ∃ r n, lcall P ext n f args H = some r then some (Classical.choose h) else none
theorem LC_spec {f : FuncId} {args : List Value} {H : LH} {r : Value × LH} : LC P ext f args H = some r ↔ ∃ n, lcall P ext n f args H = some r := by
  unfold LC
  constructor
  · intro h
    split at h
    · rename_i hex
      injection h with h
      rw [← h]; exact Classical.choose_spec hex
    · cases h
  · rintro ⟨n, hn⟩
    have hex : ∃ r n, lcall P ext n f args H = some r := ⟨r, n, hn⟩
    rw [dif_pos hex]
    obtain ⟨m, hm⟩ := Classical.choose_spec hex
    have h1 := lcall_mono (Nat.le_max_left n m) _ _ _ _ hn
    have h2 := lcall_mono (Nat.le_max_right n m) _ _ _ _ hm
    rw [h1] at h2
    exact h2.symm
theorem LC_ok (hext : ExtOk P ext) (hm : P.follows .mixedOrders = true) : TOk P (LC P ext) := by
  intro f args H v H' h
  obtain ⟨n, hn⟩ := LC_spec.1 h
  exact lcall_ok hext hm n f args H v H' hn

/-- finitely many calls want finite depth -/
theorem lop_fin {o : Oper} {fr : Fr} {H : LH} {r : Value × LH} (hr : lop P (LC P ext) o fr H = some r) : ∃ k, lop P (lcall P ext k) o fr H = some r := by
  obtain ⟨dst, op, ty, pos, after, guard⟩ := o
  cases op with
  | call c =>
    simp only [lop] at hr ⊢
    cases hc : c.callee with
    | value f =>
      simp only [hc, lcallee] at hr ⊢
      split at hr
      · split at hr
        · rename_i h0
          obtain ⟨k, hk⟩ := LC_spec.1 hr
          exact ⟨k, by rw [if_pos h0]; exact hk⟩
        · cases hr
      · cases hr
    | builtin b => simp only [hc] at hr ⊢; exact ⟨0, hr⟩
    | invoke x y => simp [hc] at hr
  | makeFunc f _ _ => cases f <;> exact ⟨0, hr⟩
  | slice _ _ _ _ mx => cases mx <;> exact ⟨0, hr⟩
  | _ => exact ⟨0, hr⟩
theorem lquiet_fin {o : Oper} {fr : Fr} {H : LH} {r : Value} (hr : lquiet P (LC P ext) o fr H = some r) : ∃ k, lquiet P (lcall P ext k) o fr H = some r := by
  obtain ⟨dst, op, ty, pos, after, guard⟩ := o
  cases op with
  | call c =>
    simp only [lquiet] at hr ⊢
    cases hc : c.callee with
    | value f =>
      simp only [hc, lcallee] at hr ⊢
      split at hr
      · rename_i u H1 hcal
        split at hcal
        · rename_i g first captured hf
          split at hcal
          · rename_i h0
            obtain ⟨k, hk⟩ := LC_spec.1 hcal
            refine ⟨k, ?_⟩
            rw [if_pos h0, hk]
            exact hr
          · cases hcal
        · cases hcal
      · cases hr
    | builtin b =>
      cases b <;> exact ⟨0, by simpa only [lquiet, hc] using hr⟩
    | invoke x y => simp [hc] at hr
  | makeFunc f _ _ => cases f <;> exact ⟨0, hr⟩
  | slice _ _ _ _ mx => cases mx <;> exact ⟨0, hr⟩
  | _ => exact ⟨0, hr⟩
theorem lops_fin {N : Nat} {all : Array Oper} : ∀ {os : List Oper} {fr : Fr} {H : LH} {r : Fr × LH}, lops P (LC P ext) N all os fr H = some r → ∃ k, lops P (lcall P ext k) N all os fr H = some r
  | [], fr, H, r, hr => ⟨0, hr⟩
  | o :: os, fr, H, r, hr => by
    unfold lops at hr
    split at hr
    · rename_i hw
      split at hr
      · rename_i v H1 ho
        split at hr
        · rename_i fr1 hp
          obtain ⟨k1, h1⟩ := lop_fin ho
          obtain ⟨k2, h2⟩ := lops_fin hr
          refine ⟨max k1 k2, ?_⟩
          unfold lops
          rw [hw, lop_mono (lcall_mono (Nat.le_max_left k1 k2)) h1]
          simp only [hp]
          exact lops_mono (lcall_mono (Nat.le_max_right k1 k2)) h2
        · cases hr
      · cases hr
    · rename_i hw
      split at hr
      · rename_i fr1 hp
        obtain ⟨k2, h2⟩ := lops_fin hr
        refine ⟨k2, ?_⟩
        unfold lops
        rw [hw]
        simp only [hp]
        exact h2
      · cases hr
    · cases hr
theorem lmixop_fin {o : Oper} {fr : Fr} {H0 H : LH} {r : Value × LH} (hr : lmixop P (LC P ext) o fr H0 H = some r) : ∃ k, lmixop P (lcall P ext k) o fr H0 H = some r := by
  have key : lop P (LC P ext) o fr H = some r → ∃ k, lop P (lcall P ext k) o fr H = some r := lop_fin
  obtain ⟨dst, op, ty, pos, after, guard⟩ := o
  cases op with
  | call c =>
    simp only [lmixop] at hr ⊢
    cases hc : c.callee with
    | value f =>
      simp only [hc] at hr ⊢
      split at hr
      · obtain ⟨u, hu, e⟩ := Option.map_eq_some_iff.1 hr
        obtain ⟨k, hk⟩ := lquiet_fin hu
        refine ⟨k, ?_⟩
        rw [if_pos ‹_›]
        exact Option.map_eq_some_iff.2 ⟨u, hk, e⟩
      · cases hr
    | builtin b => simp only [hc] at hr ⊢; refine ⟨0, ?_⟩; cases b <;> exact hr
    | invoke x y => simp [hc] at hr
  | store _ _ _ => simp [lmixop] at hr
  | _ => simp only [lmixop] at hr ⊢; exact key hr
theorem lmix_fin {L : Loud} {N : Nat} {all : Array Oper} {H0 : LH} : ∀ {os : List Oper} {fr : Fr} {H : LH} {r : Fr × LH}, lmix P L (LC P ext) N all H0 os fr H = some r → ∃ k, lmix P L (lcall P ext k) N all H0 os fr H = some r
  | [], fr, H, r, hr => ⟨0, hr⟩
  | o :: os, fr, H, r, hr => by
    unfold lmix at hr
    split at hr
    · rename_i hl
      obtain ⟨k, hk⟩ := lops_fin hr
      refine ⟨k, ?_⟩
      unfold lmix
      rw [if_pos hl]; exact hk
    · rename_i hl
      split at hr
      · cases hr
      · rename_i d hd
        split at hr
        · rename_i hdN
          split at hr
          · rename_i hw
            split at hr
            · rename_i v H1 hop
              obtain ⟨k1, h1⟩ := lmixop_fin hop
              obtain ⟨k2, h2⟩ := lmix_fin hr
              refine ⟨max k1 k2, ?_⟩
              unfold lmix
              rw [if_neg hl]
              simp only [hd, if_pos hdN, hw, lmixop_mono (lcall_mono (Nat.le_max_left k1 k2)) h1]
              exact lmix_mono (lcall_mono (Nat.le_max_right k1 k2)) h2
            · cases hr
          · rename_i hw
            obtain ⟨k2, h2⟩ := lmix_fin hr
            refine ⟨k2, ?_⟩
            unfold lmix
            rw [if_neg hl]
            simp only [hd, if_pos hdN, hw]
            exact h2
          · cases hr
        · cases hr
theorem run_fin {fn : Func} : ∀ {n : Nat} {todo : List Item} {fr : Fr} {H : LH} {r : Value × LH}, run P ext.loud (LC P ext) fn n todo fr H = some r → ∃ k, run P ext.loud (lcall P ext k) fn n todo fr H = some r := by
  intro n
  induction n with
  | zero => intro todo fr H r hr; simp [run] at hr
  | succ n ih =>
    intro todo fr H r hr
    cases todo with
    | nil => exact ⟨0, by simpa only [run] using hr⟩
    | cons it k =>
      cases it with
      | inBlock id => simp only [run] at hr ⊢; exact ih hr
      | inLoop c => simp only [run] at hr ⊢; exact ih hr
      | code c =>
        cases c with
        | skip => simp only [run] at hr ⊢; exact ih hr
        | label l => simp only [run] at hr ⊢; exact ih hr
        | seq x y => simp only [run] at hr ⊢; exact ih hr
        | block id c => simp only [run] at hr ⊢; exact ih hr
        | loop c => simp only [run] at hr ⊢; exact ih hr
        | ret => exact ⟨0, by simpa only [run] using hr⟩
        | exit id =>
          simp only [run] at hr ⊢
          cases hx : exitTo id k with
          | none => simp [hx] at hr
          | some k' => simp only [hx] at hr ⊢; exact ih hr
        | cond c x y =>
          simp only [run] at hr ⊢
          cases he : ev fr c with
          | bool t =>
            simp only [he] at hr ⊢
            cases t <;> exact ih hr
          | _ => simp [he] at hr
        | region id ops draw =>
          cases draw with
          | false =>
            simp only [run] at hr ⊢
            split at hr
            · rename_i fr1 H1 hl
              obtain ⟨k1, h1⟩ := lops_fin hl
              obtain ⟨k2, h2⟩ := ih hr
              refine ⟨max k1 k2, ?_⟩
              rw [lops_mono (lcall_mono (Nat.le_max_left k1 k2)) h1]
              exact run_mono (lcall_mono (Nat.le_max_right k1 k2)) (Nat.le_refl n) h2
            · cases hr
          | true =>
            simp only [run] at hr ⊢
            split at hr
            · rename_i fr1 H1 hl
              obtain ⟨k1, h1⟩ := lmix_fin hl
              obtain ⟨k2, h2⟩ := ih hr
              refine ⟨max k1 k2, ?_⟩
              rw [lmix_mono (lcall_mono (Nat.le_max_left k1 k2)) h1]
              exact run_mono (lcall_mono (Nat.le_max_right k1 k2)) (Nat.le_refl n) h2
            · cases hr
        | _ => simp [run] at hr
      | _ => simp [run] at hr
/-- A function's body runs: that is what a call of it comes to. -/
theorem LC_body {f : FuncId} {fn : Func} {c : Code} {args : List Value} {H : LH} {n : Nat} {r : Value × LH} (he : ext f = none) (hf : P.funcs[f]? = some fn) (hb : fn.body = some c) (hN : args.length ≤ fn.ntmps) (hname : fn.name ≠ "runtime.NumGoroutine") (hcd : codeOk ext.loud c = true)
    (hr : run P ext.loud (LC P ext) fn n [.code c] (enter args) H = some r) : LC P ext f args H = some (trunc H r) := by
  obtain ⟨k, hk⟩ := run_fin hr
  refine LC_spec.2 ⟨max n k + 1, ?_⟩
  unfold lcall
  simp only [he, hf, hb, if_pos (And.intro hN (And.intro hname hcd))]
  rw [run_mono (lcall_mono (Nat.le_max_right n k)) (Nat.le_max_left n k) hk]
  rfl
theorem LC_ext {f : FuncId} {s : List Value → LH → Option (Value × LH)} {args : List Value} {H : LH} {r : Value × LH} (he : ext f = some s) (hr : s args H = some r) : LC P ext f args H = some r :=
  LC_spec.2 ⟨1, by unfold lcall; simp only [he]; exact hr⟩
end
end Go.Lg
