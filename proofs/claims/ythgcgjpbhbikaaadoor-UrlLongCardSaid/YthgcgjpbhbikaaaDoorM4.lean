/-
  Texts joined, part 4: PgF, LgEv, LgEvB, LgEvC, LgEnd, Facts, LgRow, LgApp, LgQui, LgMore, LgNum, StBase.
-/
import Derived.Test.YthgcgjpbhbikaaaDoorM3
import Derived.Test.YthgcgjpbhbikaaaDoorRows
import Derived.Test.YthgcgjpbhbikaaaDoorM1
/-
  A logical run with throws, and ranges over functions: the model does so: operations, ranges, all of it.
-/
set_option linter.unusedSimpArgs false
set_option linter.unusedVariables false
namespace Go.Lg
open Go.Tg Go.RowKit

section
variable {P : Program} {E : PEnv}
theorem wp_plain {o : Oper} {a : Act} {w : World} {K : Act → World → Prop} (h : o.wp P a w K (fun _ _ _ => False)) : o.wp P a w K (fun e a' w' => ∃ ch, e = .panic ch ∧ False) := by
  revert h
  unfold Oper.wp Oper.upon
  split
  · exact id
  · exact id
  · exact id
  · intro h
    refine h.mono (fun e w'' => ?_)
    cases e with
    | returned v => exact id
    | panicked ch => exact False.elim
    | outgrown => rintro ⟨_, _, e⟩; exact e.elim
  · exact id
  · exact False.elim
  · exact id
variable {Y : Option YC} {rd : Nat} {fn : Func} {all : Array Oper} {o : Oper} {os : List Oper} {k : List Item} {fr fr1 : Fr} {H H1 H' : LH} {p p' : Option Code} {r : Res} {v : Value}
/-- behind an operation that has yielded v -/
theorem ops_next {ι ι1 : Ren} {b : Frame} {a a1 : Act} {w w1 : World} {cs : List Frame} {B : Nat} {X : Option Nat} {m : Nat} (h : Pre P E Y rd fn k fr H p ι b a w cs B X) {v' : Value} (ho : Out P H ι w H1 ι1 w1) (hv : VR H1.D ι1 v v') (hput : lput fn.ntmps fr o.dst v = some fr1) (ha : a1 = a.put o.dst v')
    (hs : Steps P (lone (b.atR a (.inRegion all (m :: List.range' (m + 1) (all.size - (m + 1))) :: k)) cs w) (lone (b.atR a1 (.inRegion all (List.range' (m + 1) (all.size - (m + 1))) :: k)) cs w1))
    (hos : os = all.toList.drop (m + 1)) (hm : m < all.size) (ih : Sound P E (.ops Y rd fn all os k fr1 H1 p r H' p')) : Post P E.pl E.tF Y fn p' r H' (b.atR a (.inRegion all (m :: List.range' (m + 1) (all.size - (m + 1))) :: k)) b cs ι H w B X := by
  refine post_out h.rel hs ho (ih (m + 1) ι1 b a1 w1 cs B X hos hm (h.out ho ?_ ?_ h.items))
  · rw [ha]; exact (h.fr.mono ho.sub ho.same).put hput hv
  · rw [ha, put_defers]; exact h.marks.out (X := none) ho.x h.rel (by simp)
theorem lop_defer {T : Callee} (h : lop P T o fr H = some (v, H1)) : isDefer o.op = false := by
  obtain ⟨d, op, ty, ps, af, g⟩ := o
  cases op <;> first | rfl | (simp [lop] at h)
theorem lopB_defer {T : Callee} (h : lopB P T o fr H = some (v, H1)) : isDefer o.op = false := by
  obtain ⟨d, op, ty, ps, af, g⟩ := o
  cases op <;> first | rfl | (simp [lopB, lop] at h)
theorem sound_oplain (hT : TOk P (LC P E.E)) (hw : lwant all fr o = some true) (hop : lopB P (LC P E.E) o fr H = some (v, H1)) (hput : lput fn.ntmps fr o.dst v = some fr1) (ih : Sound P E (.ops Y rd fn all os k fr1 H1 p r H' p')) : Sound P E (.ops Y rd fn all (o :: os) k fr H p r H' p') := by
  intro m ι b a w cs B X hos hm h
  obtain ⟨hlt, hget, hos', hr⟩ := drop_cons hos
  rw [hr]
  obtain ⟨a1, w1, ⟨ι1, v', ho, hv, ha⟩, hs⟩ := step_opR1 (P := P) (b := b) (k := k) (cs := cs) (rest := List.range' (m + 1) (all.size - (m + 1))) (K := fun a1 w1 => ∃ ι1 v', Out P H ι w H1 ι1 w1 ∧ VR H1.D ι1 v v' ∧ a1 = a.put o.dst v') hget (want_eq h.fr hw) (lopB_defer hop)
    (wp_plain (lopB_ok hT h.rel h.fr hop _ _ (fun ι' v' w' ho hv => ⟨ι', v', ho, hv, rfl⟩)))
  exact ops_next h ho hv hput ha hs hos' hlt ih
theorem sound_oskip (hw : lwant all fr o = some false) (hput : lput fn.ntmps fr o.dst undef = some fr1) (ih : Sound P E (.ops Y rd fn all os k fr1 H p r H' p')) : Sound P E (.ops Y rd fn all (o :: os) k fr H p r H' p') := by
  intro m ι b a w cs B X hos hm h
  obtain ⟨hlt, hget, hos', hr⟩ := drop_cons hos
  rw [hr]
  have hs := stepR_op_skip (P := P) (b := b) (a := a) (k := k) (cs := cs) (w := w) (ops := all) (i := m) (rest := List.range' (m + 1) (all.size - (m + 1))) (by
    rw [hget]; simp [want_eq h.fr hw])
  rw [hget] at hs
  exact ops_next h (Out.refl h.rel) (.flat _ rfl) hput rfl (.one hs) hos' hlt ih
theorem sound_omkf {g : FuncId} {first caps : Array Operand} (hw : lwant all fr o = some true) (hop : o.op = .makeFunc (.func g) first caps) (hput : lput fn.ntmps fr o.dst (.func (.func g) (first.map (ev fr)) (caps.map (ev fr))) = some fr1) (ih : Sound P E (.ops Y rd fn all os k fr1 H p r H' p')) : Sound P E (.ops Y rd fn all (o :: os) k fr H p r H' p') := by
  intro m ι b a w cs B X hos hm h
  obtain ⟨hlt, hget, hos', hr⟩ := drop_cons hos
  rw [hr]
  have hrun : (execOp a.eval o).run P w = .ok (.value (.func (.func g) (first.map a.eval) (caps.map a.eval))) w := by
    unfold execOp
    rw [hop]
    rfl
  obtain ⟨a1, w1, ⟨ha, hw1⟩, hs⟩ := step_opR1 (P := P) (b := b) (k := k) (cs := cs) (rest := List.range' (m + 1) (all.size - (m + 1))) (K := fun a1 w1 => a1 = a.put o.dst (.func (.func g) (first.map a.eval) (caps.map a.eval)) ∧ w1 = w) hget (want_eq h.fr hw) (by rw [hop]; rfl)
    (by unfold Oper.wp; rw [hrun]; exact ⟨rfl, rfl⟩)
  subst hw1
  refine ops_next h (Out.refl h.rel) ?_ hput ha hs hos' hlt ih
  refine .func _ _ _ _ _ (by simp) (by simp) (fun i x y hx hy => ?_) (fun i x y hx hy => ?_)
  all_goals
    simp only [Array.getElem?_map, Option.map_eq_some_iff] at hx hy
    obtain ⟨x', hx', rfl⟩ := hx
    obtain ⟨y', hy', rfl⟩ := hy
    rw [hx'] at hy'
    injection hy' with hy'
    subst hy'
    exact h.fr.ev x'
theorem clear_run {ι : Ren} {w : World} (hrel : Rel P H ι w) {t : TypeId} {v x' : Value} (hv : VR H.D ι v x') (h : lclr P t v H = some H1) :
    ∃ w1, (∀ (ty : TypeId) (cs : Array Bool), (builtin .clear #[t] ty cs #[x']).run P w = .ok (.value (.tuple #[])) w1) ∧ Out P H ι w H1 ι w1 := by
  unfold lclr at h
  split at h
  · rename_i e ad n c hu
    split at h
    · rename_i hn
      simp only [Option.some.injEq] at h
      subst h hn
      obtain ⟨b2, c2, rfl, _⟩ := vr_slice hv
      exact ⟨w, fun ty cs => by cases b2 <;> simp [builtin, Builtin.clear_, Sem.run_bind, run_underlying hu], Out.refl hrel⟩
    · rename_i hn
      split at h
      · rename_i l off z hz
        split at h
        · rename_i b hb
          split at h
          · rename_i hc
            obtain ⟨hrw, hall, hle⟩ := hc
            simp only [Option.some.injEq] at h
            subst h
            obtain ⟨n, rfl⟩ : ∃ m, n = m + 1 := ⟨n - 1, by omega⟩
            have hcell : ∀ x ∈ (Builtin.zeroCells z.cells (n + 1)).toList, cellB x = true ∧ flatB x = true := fun x hx => by
              have := List.all_eq_true.1 hall x hx
              simpa using this
            have hvr : ∀ (i : Nat) x y, (Builtin.zeroCells z.cells (n + 1)).toList[i]? = some x → (Builtin.zeroCells z.cells (n + 1)).toList[i]? = some y → VR H.D ι x y := fun i x y hx hy => by
              rw [hx] at hy
              injection hy with hy
              subst hy
              exact .flat _ (hcell _ (List.mem_of_getElem? hx)).2
            obtain ⟨w1, hr, ho⟩ := row_sound (o := off) hrel hb hrw hle rfl hvr (fun u hu' => cell_one (VR.flat (n := H.D) (ι := ι) u (hcell u hu').2) (hcell u hu').1)
            refine ⟨w1, fun ty cs => ?_, ho⟩
            have hX : ∃ c2, x' = .slice (some ⟨(ι l).blk, (ι l).off + off, none⟩) (n + 1) c2 := by
              cases hv with
              | flat _ hf => simp [flatB, flat1B, atomB] at hf
              | slice _ _ _ _ _ _ => exact ⟨_, rfl⟩
            obtain ⟨c2, rfl⟩ := hX
            simp [builtin, Builtin.clear_, Sem.run_bind, run_underlying hu, run_zero hz, hr]
          · cases h
        · cases h
      · cases h
  · cases h
theorem sound_oclear {x : Operand} {t : TypeId} (hw : lwant all fr o = some true) (hop : o.op = .call ⟨.builtin .clear, #[x], #[t]⟩) (hc : lclr P t (ev fr x) H = some H1) (hput : lput fn.ntmps fr o.dst (.tuple #[]) = some fr1) (ih : Sound P E (.ops Y rd fn all os k fr1 H1 p r H' p')) : Sound P E (.ops Y rd fn all (o :: os) k fr H p r H' p') := by
  intro m ι b a w cs B X hos hm h
  obtain ⟨hlt, hget, hos', hr⟩ := drop_cons hos
  rw [hr]
  obtain ⟨w1, hrun, hout⟩ := clear_run (P := P) h.rel (h.fr.ev x) hc
  have hrun2 : (execOp a.eval o).run P w = .ok (.value (.tuple #[])) w1 := by
    unfold execOp
    simp only [hop, resolve, Sem.run_bind, Sem.run_pure, Result.andThen_ok, invoke]
    rw [show (#[x] : Array Operand).map a.eval = #[a.eval x] by simp]
    exact hrun _ _
  obtain ⟨a1, w2, ⟨ha, hw2⟩, hs⟩ := step_opR1 (P := P) (b := b) (k := k) (cs := cs) (rest := List.range' (m + 1) (all.size - (m + 1))) (K := fun a1 w2 => a1 = a.put o.dst (.tuple #[]) ∧ w2 = w1) hget (want_eq h.fr hw) (by rw [hop]; rfl)
    (by unfold Oper.wp; rw [hrun2]; exact ⟨rfl, rfl⟩)
  subst hw2
  exact ops_next h hout (.flat _ rfl) hput ha hs hos' hlt ih
theorem sound_ocall {x : Operand} {args : Array Operand} {ts : Array TypeId} {g : FuncId} {first caps : Array Value} (hw : lwant all fr o = some true) (hop : o.op = .call ⟨.value x, args, ts⟩) (hx : ev fr x = .func (.func g) first caps)
    (hc : Sound P E (.call g (first.toList ++ args.toList.map (ev fr) ++ caps.toList) H (.ret v) H1)) (hput : lput fn.ntmps fr o.dst v = some fr1) (ih : Sound P E (.ops Y rd fn all os k fr1 H1 p r H' p')) : Sound P E (.ops Y rd fn all (o :: os) k fr H p r H' p') := by
  intro m ι b a w cs B X hos hm h
  obtain ⟨hlt, hget, hos', hr⟩ := drop_cons hos
  rw [hr]
  rcases step_opR (P := P) (b := b) (k := k) (cs := cs) (rest := List.range' (m + 1) (all.size - (m + 1))) hget (want_eq h.fr hw) (by rw [hop]; rfl) (call_wp h.rel h.fr hop hx hc.1 hc.2) with ⟨a1, w1, ⟨ι1, u, v', e, ha, ho, hv⟩, hs⟩ | ⟨ch, w1, ⟨_, _, _, e, _⟩, _⟩
  · injection e with e
    subst e
    exact ops_next h ho hv hput ha hs hos' hlt ih
  · cases e
theorem sound_ocallp {x : Operand} {args : Array Operand} {ts : Array TypeId} {g : FuncId} {first caps : Array Value} (hw : lwant all fr o = some true) (hop : o.op = .call ⟨.value x, args, ts⟩) (hx : ev fr x = .func (.func g) first caps)
    (hc : Sound P E (.call g (first.toList ++ args.toList.map (ev fr) ++ caps.toList) H (.pan v) H1)) : Sound P E (.ops Y rd fn all (o :: os) k fr H p (.pan v) H1 p) := by
  intro m ι b a w cs B X hos hm h
  obtain ⟨hlt, hget, hos', hr⟩ := drop_cons hos
  rw [hr]
  rcases step_opR (P := P) (b := b) (k := k) (cs := cs) (rest := List.range' (m + 1) (all.size - (m + 1))) hget (want_eq h.fr hw) (by rw [hop]; rfl) (call_wp h.rel h.fr hop hx hc.1 hc.2) with ⟨_, _, ⟨_, _, _, e, _⟩, _⟩ | ⟨ch, w1, ⟨ι1, u, v', e, rfl, ho, hv⟩, hs⟩
  · cases e
  · injection e with e
    subst e
    exact ⟨ι1, w1, ho.x, h.yat.out h.rel ho.x, a, _, v', hs, h.marks.out (X := none) ho.x h.rel (by simp), hv⟩
theorem sound_draw {id : Nat} {ops : Array Oper} (hT : TOk P (LC P E.E)) (hm : P.follows .mixedOrders = true) (hl : ldraw P E.pl (LC P E.E) fn.ntmps id ops fr H = some (fr1, H1)) (ih : Sound P E (.run Y rd fn k fr1 H1 p r H' p')) : Sound P E (.run Y rd fn (.code (.region id ops true) :: k) fr H p r H' p') := by
  intro ι b a w cs B X h
  obtain ⟨h1, h2⟩ := head_ok h.items
  simp only [itemOkR, codeOkR, Bool.and_eq_true] at h1
  obtain ⟨h1, h3⟩ := h1
  have hnd : ∀ (i : Nat) (o : Oper), ops[i]? = some o → isDefer o.op = false := fun i o ho => by
    have := List.all_eq_true.1 h3 o (Array.mem_toList_iff.2 (Array.mem_of_getElem? ho))
    simpa using this
  have key : wpAny P .any ops (fun e a1 w1 => e = .normal ∧ ∃ ι1, Out P H ι w H1 ι1 w1 ∧ FrR H1.D ι1 fn.ntmps fr1 a1.tmps ∧ a1.defers = a.defers) ops.size (Array.replicate ops.size false) a { w with drawn := w.drawn + 1 } := by
    unfold ldraw at hl
    unfold drawOk at h1
    cases hc : E.pl.ch fn.ntmps id ops.size with
    | none => rw [hc] at hl h1; exact mix_any hT h1 hl h.rel h.fr (fun ι' a' w' ho hf hd => ⟨rfl, ι', ho, hf, hd⟩)
    | some prs => rw [hc] at hl h1; exact chain_any hT h1 hl h.rel h.fr (fun ι' a' w' ho hf hd => ⟨rfl, ι', ho, hf, hd⟩)
  have hops := wpAny_sound ops.size (w.tape w.drawn (.order b.fn id)) _ a _ key
  have hst := stepR_region_draw (P := P) (b := b) (a := a) (k := k) (cs := cs) (w := w) (ops := ops) (id := id)
  simp only [Region.schedule, hm, Bool.true_or, if_true] at hst
  obtain ⟨a1, w1, ⟨ι1, ho, hf, hd⟩, hs⟩ := wp_opsR (b := b) (k := k) (cs := cs) hnd _ a _ hops
  refine post_out h.rel (.head hst hs) ho (ih ι1 b a1 w1 cs B X (h.out ho hf ?_ h2))
  rw [hd]; exact h.marks.out (X := none) ho.x h.rel (by simp)
theorem round_frame {l : Nat} {f : FuncId} {tmps : Array Value} {assign body : Code} : Frame.round l f tmps assign body .normal = ({ (default : Frame) with fn := f, kind := .normal, roundOf := some l } : Frame).atR { tmps := tmps, defers := [] } [.code assign, .beginRound, .code body] := by
  simp [Frame.round, Frame.atR]
theorem sound_oyield {yc : YC} {x : Operand} {args : Array Operand} {ts : Array TypeId} {j : Option Code} (hw : lwant all fr o = some true) (hop : o.op = .call ⟨.value x, args, ts⟩) (hx : ev fr x = tok yc.l) (hsz : args.size = yc.params.length) (hN : ∀ d ∈ yc.params, d < yc.fn.ntmps)
    (ihr : Sound P E (.run none 1 yc.fn [.code yc.assign, .beginRound, .code yc.body] (setL yc.fr (yc.params.zip (args.toList.map (ev fr)))) H none (.jump j) H1 none)) (hput : lput fn.ntmps fr o.dst (.bool j.isNone) = some fr1)
    (ih : Sound P E (.ops (some yc) 0 fn all os k fr1 H1 j r H' p')) : Sound P E (.ops (some yc) 0 fn all (o :: os) k fr H none r H' p') := by
  intro m ι b a w cs B X hos hm h
  obtain ⟨hlt, hget, hos', hr⟩ := drop_cons hos
  rw [hr]
  have hxv := h.fr.ev x
  rw [hx] at hxv
  obtain ⟨ex, hD⟩ := vr_tok hxv
  obtain ⟨_, ⟨okj, okA, okB⟩, rc, y1, y2, y3, y4, y5, y6, y7, y8⟩ := h.yat
  have hX := h.yx yc rfl
  have hst0 : rc.state = .ready := by simpa using y8
  have hlen : (args.map a.eval).size = rc.params.size := by
    rw [Array.size_map, hsz, ← y2]; simp
  have hrun : (execOp a.eval o).run P w = .ok (.round (ι yc.l).blk rc.fn ((rc.params.zip (args.map a.eval)).foldl (fun tmps (t, v) => tmps.setIfInBounds t v) rc.tmps) rc.assign rc.body) w := by
    unfold execOp
    simp only [hop, resolve, ex, Deferred.ofValue, Sem.run_bind, Sem.run_pure, Result.andThen_ok, invoke]
    rw [show (#[] ++ args.map a.eval : Array Value) = args.map a.eval by simp]
    exact run_yield y1 hlen
  let tm : Array Value := (rc.params.zip (args.map a.eval)).foldl (fun tmps (t, v) => tmps.setIfInBounds t v) rc.tmps
  let c0 : Frame := b.atR a (.inRegion all (m :: List.range' (m + 1) (all.size - (m + 1))) :: k)
  let b' : Frame := { (default : Frame) with fn := rc.fn, kind := .normal, roundOf := some (ι yc.l).blk }
  have hg := stepGR_op (P := P) (b := b) (k := k) (cs := cs) (w := w) (rest := List.range' (m + 1) (all.size - (m + 1))) hget (want_eq h.fr hw)
  rw [Oper.semAt_eq _ _ _ (not_defer (by rw [hop]; rfl))] at hg
  have hs0 : step P (lone c0 cs w) = .next (lone (b'.atR { tmps := tm, defers := [] } [.code rc.assign, .beginRound, .code rc.body]) (c0 :: cs) w) := by
    rw [← round_frame]
    exact step_lone_go (by rw [hg]; simp [stepG.apply, hrun, tm, c0])
  have hnd : ¬ (ι yc.l).blk < H.ng := (h.xok _ hX).2
  rw [y3, y4] at hs0
  have htm : FrR H.D ι yc.fn.ntmps (setL yc.fr (yc.params.zip (args.toList.map (ev fr)))) tm := by
    obtain ⟨h2, h3⟩ := args_rel h.fr args
    have := setL_rel yc.params (args.toList.map (ev fr)) (args.map a.eval).toList yc.fr rc.tmps y6 hN (by first | (simp; done) | simpa using h2) (fun i x y hx hy => h3 i x y hx (by simpa using hy))
    have e : tm = (yc.params.zip (args.map a.eval).toList).foldl (fun t (d, v) => t.setIfInBounds d v) rc.tmps := by
      show (rc.params.zip (args.map a.eval)).foldl _ _ = _
      rw [← Array.foldl_toList, Array.toList_zip, y2]
    rw [e]; exact this
  obtain ⟨ι1, w1, ho, _, ⟨_, hj⟩, lr, c, cs0, e1, e2, hs1, hrec⟩ := ihr ι b' { tmps := tm, defers := [] } w (c0 :: cs) w.heap.size (some (ι yc.l).blk)
    ⟨cons_ok okA (cons_ok rfl (cons_ok okB (by simp))), h.rel, htm, y5, rfl, (fun _ h => by cases h), (fun q hq => by injection hq with hq; subst hq; exact ⟨⟨rc, y1⟩, hnd⟩), (fun h => by cases h), fun _ => ⟨rfl, _, c0, cs, rc, rfl, rfl, rfl, rfl, y1, fun _ => hst0⟩, trivial, Nat.le_refl _, ng_le h.rel⟩
  injection e1 with e1
  injection e2 with e2 e3
  subst e1 e2 e3
  have hfin : c0.finish (.bool j.isNone) = b.atR (a.put o.dst (.bool j.isNone)) (.inRegion all (List.range' (m + 1) (all.size - (m + 1))) :: k) := by
    show (b.atR a (.inRegion all (m :: List.range' (m + 1) (all.size - (m + 1))) :: k)).finish _ = _
    rw [Frame.finish_atR, hget]; rfl
  rw [hfin] at hs1
  have hrec1 := hrec rc y1
  have hsame : ι1 yc.l = ι yc.l := ho.same _ hD
  have hoX : OutX P X H ι w H1 ι1 w1 := by rw [hX]; exact ho
  refine post_step (.head hs0 hs1) hoX (fun e => by cases e) (ih (m + 1) ι1 b _ w1 cs B X hos' hlt ⟨h.items, ho.rel, (h.fr.mono ho.sub ho.same).put hput (.flat _ rfl), h.fn, ⟨ho.sub _ hD, ⟨hj, okA, okB⟩, { rc with state := if j.isNone then .ready else .done, pending := j }, by rw [hsame]; exact hrec1, y2, y3, y4, y5, y6.mono ho.sub ho.same, rfl, rfl⟩, fun yc' hy => ?_, fun q hq => ?_, h.rd0, fun h => absurd rfl h, ?_, Nat.le_trans h.hB ho.chg.size, by rw [ho.ng]; exact h.hng⟩)
  · injection hy with hy; subst hy; rw [hsame]; exact hX
  · rw [hX] at hq; injection hq with hq; subst hq; exact ⟨⟨_, hrec1⟩, by rw [ho.ng]; exact hnd⟩
  · rw [put_defers]; exact h.marks.out hoX h.rel h.xl
theorem sound_range {x : Operand} {params : Array Tmp} {assign body : Code} {g : FuncId} {caps : Array Value} {gfn : Func} {gc : Code} {p1 : Option Code} (hx : ev fr x = .func (.func g) #[] caps) (hf : fnOk P E g gfn gc (tok H.n :: caps.toList))
    (ihg : Sound P E (.run (some ⟨H.n, fn, fr, params.toList, assign, body⟩) 0 gfn [.code gc] (enter (tok H.n :: caps.toList)) H.dead none (.ret v) H1 p1)) (ih : Sound P E (.run Y rd fn ((p1.map Item.code).toList ++ k) fr H1 p r H' p')) :
    Sound P E (.run Y rd fn (.code (.rangeFunc x params assign body) :: k) fr H p r H' p') := by
  intro ι b a w cs B X h
  obtain ⟨hx1, hx2⟩ := head_ok h.items
  have hok : codeOkR E.pl fn.ntmps assign = true ∧ codeOkR E.pl fn.ntmps body = true := by simpa [itemOkR, codeOkR] using hx1
  obtain ⟨l, mark, w1, dd, he, hl1, hc1, hl0, hmk⟩ := enter_loop h params assign body
  obtain ⟨g1, g2, g3, g4, g5⟩ := hf
  have hE : Entered P g := ⟨gfn, g1, by rw [g2]; rfl, g4⟩
  have hxv := h.fr.ev x
  rw [hx] at hxv
  obtain ⟨f', c', e, k1, k2, _, k4⟩ := vr_func hxv
  have ef : f' = #[] := Array.eq_empty_of_size_eq_zero k1.symm
  subst ef
  have hres : (resolve a.eval (rangeCall x l) 0).run P w1 = .ok { target := .fn (.func g) c', args := #[.func (.yield l) #[] #[]] } w1 := by
    simp only [resolve, rangeCall, e, Deferred.ofValue, Sem.run_pure]
    simp [Act.eval]
  obtain ⟨ar, har⟩ : ∃ z : Array Value, z = #[.func (.yield l) #[] #[]] ++ c' := ⟨_, rfl⟩
  have hinv : (invoke (.fn (.func g) c') #[.func (.yield l) #[] #[]]).run P w1 = .ok (.enter g ar) w1 := by
    simp only [invoke]
    rw [har]
    exact enter_run hE _
  have hstep := stepR_rangeFunc (P := P) (k := k) (cs := cs) he hres hinv
  let c0 : Frame := b.atR { a with defers := mark ++ a.defers } (.inRangeFunc l :: k)
  let b1 : Frame := { (default : Frame) with fn := g, kind := .normal }
  obtain ⟨a1, ha1⟩ : ∃ z : Act, z = { tmps := ar ++ Array.replicate (gfn.ntmps - ar.size) undef, defers := [] } := ⟨_, rfl⟩
  have henter : Frame.enter P g ar .normal = b1.atR a1 [.code gc] := by rw [ha1]; simp [Frame.enter, Frame.atR, g1, g2, b1]; rfl
  rw [henter] at hstep
  obtain ⟨ι1, hι1⟩ : ∃ z : Ren, z = ι.add H.n ⟨l, 0, 0⟩ := ⟨_, rfl⟩
  have hrel1 : Rel P H.dead ι1 w1 := by rw [hι1]; exact rel_dead h.rel hc1
  have hsub1 : ∀ l, H.D l → H.dead.D l := fun l hl => ⟨Nat.lt_succ_of_lt hl.1, hl.2⟩
  have hsame1 : ∀ l, H.D l → ι1 l = ι l := fun q hq => by rw [hι1]; unfold Ren.add; rw [if_neg (Nat.ne_of_lt hq.1)]
  have hDn : H.dead.D H.n := ⟨Nat.lt_succ_self _, h.rel.top⟩
  have hin : (ι1 H.n).blk = l := by rw [hι1]; unfold Ren.add; rw [if_pos rfl]
  have hargs : FrR H.dead.D ι1 gfn.ntmps (enter (tok H.n :: caps.toList)) a1.tmps := by
    rw [ha1]
    refine enter_rel (args' := ar) (by rw [har]; simp; omega) (fun i x y hx hy => ?_) g3
    rw [har] at hy
    cases i with
    | zero =>
      simp at hx hy
      subst hx
      have : y = .func (.yield l) #[] #[] := by
        have h0 : (#[.func (.yield l) #[] #[]] ++ c' : Array Value)[0]? = some (.func (.yield l) #[] #[]) := by rw [Array.getElem?_append]; simp
        rw [h0] at hy; injection hy with hy; exact hy.symm
      subst this
      have hh := VR.yld (n := H.dead.D) (ι := ι1) H.n hDn
      rwa [hin] at hh
    | succ i =>
      have hx' : caps[i]? = some x := by simpa using hx
      have hy' : c'[i]? = some y := by
        rw [Array.getElem?_append] at hy
        simpa using hy
      exact (k4 i x y hx' hy').mono hsub1 hsame1
  have hltl : l < w1.heap.size := (Array.getElem?_eq_some_iff.1 hl1).1
  have hngw := ng_le h.rel
  obtain ⟨ι2, w2, ho2, hy2, a', t', fr', s1, mk1, fr1, res1⟩ := ihg ι1 b1 a1 w1 (c0 :: cs) w1.heap.size (some l)
    ⟨cons_ok g5 (by simp), hrel1, hargs, g1, ⟨hDn, ⟨(fun c h => by cases h), hok.1, hok.2⟩, _, by rw [hin]; exact hl1, rfl, rfl, rfl, h.fn, h.fr.mono hsub1 hsame1, rfl, rfl⟩, (fun yc hy => by injection hy with hy; subst hy; rw [hin]), (fun q hq => by injection hq with hq; subst hq; exact ⟨⟨_, hl1⟩, by show ¬ l < H.ng; omega⟩), fun _ => rfl, (fun h => absurd rfl h), (by rw [ha1]; trivial), Nat.le_refl _, by have : H.dead.ng = H.ng := rfl; have := hc1.size; omega⟩
  obtain ⟨w3, s2, c3⟩ := marks_steps (P := P) (cs := c0 :: cs) a'.defers { b1.atR a' t' with mode := .returning } w2 (by simp) rfl mk1
  have hng2 : H1.ng = H.ng := ho2.ng
  have hrel3 : Rel P H1 ι2 w3 := rel_off ho2.rel c3 (fun q hq => by
    refine ⟨fun hi => ?_, by rw [hng2]; have := hc1.size; have := hq.1; omega⟩
    obtain ⟨arr, t, f, hw⟩ := img_cells ho2.rel hi
    rw [hq.2] at hw; cases hw)
  obtain ⟨v', hr3, _⟩ := results_ok hrel3 fr1 res1
  have s3 : step P (lone { b1.atR { a' with defers := [] } t' with mode := .returning } (c0 :: cs) w3) = .next (lone (c0.finish v') cs w3) := step_leave_returned ⟨rfl, rfl, rfl, gfn, g1, hr3⟩
  have efin : c0.finish v' = b.atR { a with defers := mark ++ a.defers } (.endRangeFunc l :: k) := finish_atR_inRangeFunc l v'
  rw [efin] at s3
  obtain ⟨hD2, ⟨okj, _, _⟩, rc, y1, _, _, _, _, _, y7, y8⟩ := hy2
  have hi2 : (ι2 H.n).blk = l := by rw [ho2.same _ hDn]; exact hin
  simp only [hi2] at y1
  have hl3 : w3.heap[l]? = some (.loop rc) := by
    rw [c3.block l (Array.getElem?_eq_some_iff.1 y1).1 (fun hq => by have := hq.2; rw [y1] at this; cases this)]; exact y1
  have hbusy : rc.state ≠ .busy := by rw [y8]; split <;> simp
  have s4 := stepR_endRangeFunc (P := P) (b := b) (a := { a with defers := mark ++ a.defers }) (k := k) (cs := cs) (run_endLoop (P := P) hl3 hbusy)
  have y7' : rc.pending = p1 := y7
  subst y7'
  have hi3 : ¬ Img H1 ι2 l := fun hi => by
    obtain ⟨arr, t, f, hw⟩ := img_cells hrel3 hi
    rw [hl3] at hw; cases hw
  have hrel4 : Rel P H1 ι2 (w3.putObj l (.loop { rc with state := .exhausted })) := rel_off hrel3 change_put (fun q hq => by subst hq; exact ⟨hi3, by rw [hng2]; omega⟩)
  obtain ⟨w4, hw4⟩ : ∃ z, z = w3.putObj l (.loop { rc with state := .exhausted }) := ⟨_, rfl⟩
  rw [← hw4] at hrel4 s4
  have c4 : Change (fun k => k = l) w3 w4 := by rw [hw4]; exact change_put
  have hout : Out P H ι w H1 ι2 w4 := by
    refine ⟨hrel4, Nat.le_trans (Nat.le_succ _) ho2.n, fun q hq => ho2.sub _ (hsub1 q hq), fun q hq => (ho2.same _ (hsub1 q hq)).trans (hsame1 q hq), ?_, fun q hq => ?_, fun q hq => ?_, hng2⟩
    · refine Change.trans (T := fun k => k = l) (Change.trans (Change.trans (hc1.mono (fun _ _ h => h.elim)) ho2.chg (fun q hq => ?_)) c3 (fun q hq => .inr (Nat.le_trans hc1.size hq.1))) c4 (fun q hq => by subst hq; exact .inr hl0)
      rcases hq with hq | hq
      · exact .inl (rw_dead h.rel (by rw [hι1] at hq; exact hq))
      · injection hq with hq; subst hq; exact .inr hl0
    · rcases ho2.rw q hq with h1 | h1
      · exact .inl (rw_dead h.rel (by rw [hι1] at h1; exact h1))
      · exact .inr (Nat.le_trans hc1.size h1)
    · rcases ho2.img q hq with h1 | h1
      · exact .inl (img_dead h.rel (by rw [hι1] at h1; exact h1))
      · exact .inr (Nat.le_trans hc1.size h1)
  refine post_out h.rel (.head hstep (Steps.trans s1 (Steps.trans s2 (.head s3 (.one s4))))) hout (ih ι2 b { a with defers := mark ++ a.defers } w4 cs B X (h.out hout (h.fr.mono hout.sub hout.same) ?_ (fun z hz => ?_)))
  · have mk1' : Marks B w1 (mark ++ a.defers) := hmk
    refine mk1'.keep (fun q hq hqw _ => ?_)
    have q1 : q ≠ l := fun e => by subst e; rw [hl1] at hqw; cases hqw
    have q2 : w2.heap[q]? = some (.deferred (some [])) := ho2.keep hrel1 hqw nocell_deferred (fun e => by injection e with e; exact q1 e.symm)
    rw [hw4, World.putObj_heap_other q1, c3.block q (Array.getElem?_eq_some_iff.1 q2).1 (fun hh => ?_)]
    · exact q2
    · have := (Array.getElem?_eq_some_iff.1 hqw).1
      have := hh.1
      omega
  · rcases List.mem_append.1 hz with hz | hz
    · cases hpd : rc.pending with
      | none => rw [hpd] at hz; cases hz
      | some c => rw [hpd] at hz; simp at hz; subst hz; exact okj c hpd _ _
    · exact hx2 z hz
/-- WHAT THE RELATION ASSERTS THE MODEL DOES. -/
theorem sound (hT : TOk P (LC P E.E)) (hm : P.follows .mixedOrders = true) (hpx : ∀ f s, E.px f = some s → ∀ args H r H', s args H r H' → Entered P f ∧ CallOkR P E.tF f args H r H') (hcat : ∀ f, E.cat = some f → CatOk P E.tF f) {j : J} (h : R P E j) : Sound P E j := by
  induction h with
  | @lc f args H v H' h2 h1 =>
    have h3 := (hT _ _ _ _ _ h1).call h2
    exact ⟨h2, fun ι w args' hrel hl ha => (h3 ι w args' hrel hl ha).mono (fun e w' ⟨ι', v', he, ho, hv⟩ => ⟨ι', ⟨v', he, hv⟩, ho⟩)⟩
  | px h1 h2 => exact hpx _ _ h1 _ _ _ _ h2
  | body h1 _ ih => exact sound_body h1 ih
  | trunc _ h1 h2 ih => exact sound_trunc ih h1 h2
  | cat h1 _ ih => exact sound_cat (hcat _ h1) ih _ (.inl ⟨⟨_, rfl⟩, rfl⟩)
  | catp h1 _ ih => exact sound_cat (hcat _ h1) ih _ (.inr ⟨_, _, rfl, rfl⟩)
  | nil0 h1 =>
    intro ι b a w cs B X h
    exact ⟨ι, w, OutX.refl h.rel, h.yat, a, [], _, .one (stepR_end (h.rd0 rfl)), h.marks, h.fr, h1⟩
  | ret0 h1 =>
    intro ι b a w cs B X h
    exact ⟨ι, w, OutX.refl h.rel, h.yat, a, _, _, .one (stepR_ret (h.rd0 rfl)), h.marks, h.fr, h1⟩
  | nil1 => exact sound_round (fun c h => by cases h) (fun b a w w' c cs lr v h1 h2 h3 => stepR_round_end h1 h2 h3)
  | ret1 => exact sound_round (fun c h L N => by injection h with h; subst h; rfl) (fun b a w w' c cs lr v h1 h2 h3 => stepR_round_ret h1 h2 h3)
  | exit1 hx => exact sound_round (fun c h L N => by injection h with h; subst h; rfl) (fun b a w w' c cs lr v h1 h2 h3 => stepR_round_exit h1 h2 hx h3)
  | beg _ ih => exact sound_beg ih
  | skip _ ih => intro ι b a w cs B X h; exact post_one h.rel stepR_skip (ih ι b a w cs B X (h.same (head_ok h.items).2))
  | label _ ih => intro ι b a w cs B X h; exact post_one h.rel stepR_label (ih ι b a w cs B X (h.same (head_ok h.items).2))
  | inBlock _ ih => intro ι b a w cs B X h; exact post_one h.rel stepR_inBlock (ih ι b a w cs B X (h.same (head_ok h.items).2))
  | inScope _ ih => intro ι b a w cs B X h; exact post_one h.rel (step_lone_go (by simp [stepG, stepG.exec, Frame.atR])) (ih ι b a w cs B X (h.same (head_ok h.items).2))
  | seq _ ih =>
    intro ι b a w cs B X h
    obtain ⟨h1, h2⟩ := head_ok h.items
    simp only [itemOkR, codeOkR, Bool.and_eq_true] at h1
    exact post_one h.rel stepR_seq (ih ι b a w cs B X (h.same (cons_ok h1.1 (cons_ok h1.2 h2))))
  | block _ ih =>
    intro ι b a w cs B X h
    obtain ⟨h1, h2⟩ := head_ok h.items
    exact post_one h.rel stepR_block (ih ι b a w cs B X (h.same (cons_ok h1 (cons_ok rfl h2))))
  | scope _ ih =>
    intro ι b a w cs B X h
    obtain ⟨h1, h2⟩ := head_ok h.items
    exact post_one h.rel (step_lone_go (by simp [stepG, stepG.exec, Frame.atR])) (ih ι b a w cs B X (h.same (cons_ok h1 (cons_ok h1 h2))))
  | loop _ ih =>
    intro ι b a w cs B X h
    obtain ⟨h1, h2⟩ := head_ok h.items
    exact post_one h.rel stepR_loop (ih ι b a w cs B X (h.same (cons_ok h1 (cons_ok h1 h2))))
  | inLoop _ ih =>
    intro ι b a w cs B X h
    obtain ⟨h1, h2⟩ := head_ok h.items
    exact post_one h.rel stepR_inLoop (ih ι b a w cs B X (h.same (cons_ok h1 (cons_ok h1 h2))))
  | exit hx _ ih => intro ι b a w cs B X h; exact post_one h.rel (stepR_exit hx) (ih ι b a w cs B X (h.same (exit_okR hx (head_ok h.items).2)))
  | goto hx _ ih => intro ι b a w cs B X h; exact post_one h.rel (stepR_goto hx) (ih ι b a w cs B X (h.same (goto_okR hx (head_ok h.items).2)))
  | @cond Y rd fn k fr H p r H' p' c x y t hc _ ih =>
    intro ι b a w cs B X h
    obtain ⟨h1, h2⟩ := head_ok h.items
    simp only [itemOkR, codeOkR, Bool.and_eq_true] at h1
    have hv := h.fr.ev c
    rw [hc] at hv
    refine post_one h.rel (stepR_cond (vr_bool hv)) (ih ι b a w cs B X (h.same (cons_ok ?_ h2)))
    cases t
    · exact h1.2
    · exact h1.1
  | @region Y rd fn k fr H p r H' p' id ops _ ih =>
    intro ι b a w cs B X h
    refine post_one h.rel stepR_region ?_
    have := ih 0 ι b a w cs B X (by simp) (Nat.zero_le _) (h.same (head_ok h.items).2)
    rw [Nat.sub_zero, ← List.range_eq_range'] at this
    exact this
  | draw h1 _ ih => exact sound_draw hT hm h1 ih
  | rangeF h1 h2 _ _ ih1 ih2 => exact sound_range h1 h2 ih1 ih2
  | @onil Y rd fn all k fr H p r H' p' _ ih =>
    intro m ι b a w cs B X hos hm h
    have hz : all.size - m = 0 := by
      have := congrArg List.length hos
      simp at this; omega
    rw [hz]
    exact post_one h.rel stepR_region_end (ih ι b a w cs B X h)
  | oskip h1 h2 _ ih => exact sound_oskip h1 h2 ih
  | oplain h1 _ h2 h3 _ ih => exact sound_oplain hT h1 h2 h3 ih
  | omkf h1 h2 _ h3 _ ih => exact sound_omkf h1 h2 h3 ih
  | oclear h1 h2 h3 h4 _ ih => exact sound_oclear h1 h2 h3 h4 ih
  | ocall h1 h2 h3 _ _ h5 _ ih1 ih2 => exact sound_ocall h1 h2 h3 ih1 h5 ih2
  | ocallp h1 h2 h3 _ _ ih => exact sound_ocallp h1 h2 h3 ih
  | oyield h1 h2 h3 h4 h5 _ h7 _ ih1 ih2 => exact sound_oyield h1 h2 h3 h4 h5 ih1 h7 ih2
end
end Go.Lg
/-
  A logical run of Go code: what operations come to on given values.
-/
set_option linter.unusedSimpArgs false
set_option linter.unusedVariables false
namespace Go.Lg
open Go.Tg Go.RowKit

section
variable {P : Program}
@[simp] theorem pureVal_bind {α β : Type} (s : Sem α) (f : α → Sem β) : pureVal P (s >>= f) = (pureVal P s).bind fun x => pureVal P (f x) := by
  show pureVal P (s.bind f) = _
  induction s with
  | pure a => rfl
  | program k ih => exact ih P
  | mark m k ih => exact ih
  | _ => rfl
@[simp] theorem pureVal_pure {α : Type} (x : α) : pureVal P (pure x : Sem α) = some x := rfl
@[simp] theorem pureVal_program : pureVal P program = some P := rfl
@[simp] theorem pureVal_und (t : TypeId) : pureVal P (underlying t) = P.underlying t := by
  unfold underlying
  rw [pureVal_bind, pureVal_program, Option.bind_some]
  cases P.underlying t <;> rfl
@[simp] theorem pureVal_sizeOf (t : TypeId) : pureVal P (sizeOf t) = sz P t := by
  unfold sizeOf typeInfo sz
  simp only [pureVal_bind, pureVal_program, Option.bind_some]
  cases P.info? t <;> rfl
end
/-- a string, a pointer, a slice from a row's head -/
def str (l : List UInt8) : Value := .string ⟨l.toArray⟩
theorem str_ba (s : ByteArray) : Value.string s = str s.data.toList := by cases s; rfl

attribute [simp ↓] runs_skip runs_label runs_seq runs_block runs_inBlock runs_region runs_draw rops_nil rmix_nil rops_cons rmix_cons rmix_cons0 rops_guard rmix_guard
@[congr] theorem rres_congr {x y : Option Value} {H : LH} {Q : Value × LH → Prop} (h : x = y) : RRes x H Q = RRes y H Q := by rw [h]
@[simp] theorem rres_some {v : Value} {H : LH} {Q : Value × LH → Prop} : RRes (some v) H Q ↔ Q (v, H) := Iff.rfl
@[simp] theorem rres_none {H : LH} {Q : Value × LH → Prop} : RRes none H Q ↔ False := Iff.rfl
attribute [simp ↓] rdr_none rdr_some rch_none rch_nil rch_cons rch_cons0 rch_guard rc0_nil rc0_cons rc0_cons0 rc0_guard
attribute [simp] runs_nil runs_ret step_some mstep_some gstep_true gstep_false gmstep_true gmstep_false rsel_true rsel_false

section
variable {P : Program} {E : Ext} {fn : Func} {k : List Item} {fr : Fr} {H H' H0 : LH} {Q : Value × LH → Prop} {all : Array Oper} {os : List Oper} {d : Nat} {op : Op} {T : Callee}
@[congr] theorem step_congr {x y : Option (Value × LH)} (h : x = y) : Step P E fn x d all os k fr Q = Step P E fn y d all os k fr Q := by rw [h]
@[congr] theorem mstep_congr {x y : Option (Value × LH)} (h : x = y) : MStep P E fn x d all H0 os k fr Q = MStep P E fn y d all H0 os k fr Q := by rw [h]
@[congr] theorem rsel_congr {x y : Bool} {A B : Prop} (h : x = y) : RSel x A B = RSel y A B := by rw [h]
@[congr] theorem gstep_congr {x y : Option Bool} (h : x = y) : GStep P E fn x op d all os k fr H Q = GStep P E fn y op d all os k fr H Q := by rw [h]
@[congr] theorem gmstep_congr {x y : Option Bool} (h : x = y) : GMStep P E fn x op d all H0 os k fr H Q = GMStep P E fn y op d all H0 os k fr H Q := by rw [h]
@[congr] theorem rdr_congr {x y : Option (List (Nat × Nat))} {l : List Oper} (h : x = y) : RDr P E fn x l k fr H Q = RDr P E fn y l k fr H Q := by rw [h]
@[congr] theorem c0step_congr {x y : Option (Value × LH)} (h : x = y) : C0Step P E fn x d all os k fr Q = C0Step P E fn y d all os k fr Q := by rw [h]
@[congr] theorem c0step0_congr {x y : Option (Value × LH)} (h : x = y) : C0Step0 P E fn x all os k fr Q = C0Step0 P E fn y all os k fr Q := by rw [h]
@[congr] theorem c0g_congr {x y : Option Bool} (h : x = y) : C0G P E fn x op d all os k fr H Q = C0G P E fn y op d all os k fr H Q := by rw [h]
@[simp] theorem c0step_some {v : Value} : C0Step P E fn (some (v, H)) d all os k fr Q ↔ d < fn.ntmps ∧ RC0 P E fn all os k (upd fr d v) H Q := Iff.rfl
@[simp] theorem c0step_none : C0Step P E fn none d all os k fr Q ↔ False := Iff.rfl
@[simp] theorem c0step0_some {v : Value} : C0Step0 P E fn (some (v, H)) all os k fr Q ↔ RC0 P E fn all os k fr H Q := Iff.rfl
@[simp] theorem c0step0_none : C0Step0 P E fn none all os k fr Q ↔ False := Iff.rfl
@[simp] theorem c0g_true : C0G P E fn (some true) op d all os k fr H Q ↔ C0Step P E fn (lopx P (LC P E) op fr H) d all os k fr Q := Iff.rfl
@[simp] theorem c0g_false : C0G P E fn (some false) op d all os k fr H Q ↔ d < fn.ntmps ∧ RC0 P E fn all os k (upd fr d undef) H Q := Iff.rfl
theorem c0g_b {b : Bool} : C0G P E fn (some b) op d all os k fr H Q ↔ (b = true → C0Step P E fn (lopx P (LC P E) op fr H) d all os k fr Q) ∧ (b = false → d < fn.ntmps ∧ RC0 P E fn all os k (upd fr d undef) H Q) := by cases b <;> simp
attribute [simp low] c0g_b
section
variable {prs : List (Nat × Nat)} {j : Nat} {old : Nat → Fr × LH} {v : Value} {x : Fr × LH}
@[congr] theorem cstep_congr {x y : Option (Value × LH)} (h : x = y) : CStep P E fn x d op all prs j old os k fr H Q = CStep P E fn y d op all prs j old os k fr H Q := by rw [h]
@[congr] theorem cstep0_congr {x y : Option (Value × LH)} (h : x = y) : CStep0 P E fn x op all prs j old os k fr H Q = CStep0 P E fn y op all prs j old os k fr H Q := by rw [h]
@[congr] theorem cg_congr {x y : Option Bool} (h : x = y) : CG P E fn x op d all prs j old os k fr H Q = CG P E fn y op d all prs j old os k fr H Q := by rw [h]
@[simp] theorem cstep_some : CStep P E fn (some (v, H')) d op all prs j old os k fr H Q ↔ d < fn.ntmps ∧ ckR P j op fr old v prs ∧ ckH P j all old (upd fr d v) H' prs ∧ RCh P E fn all prs (j + 1) (oldS old j (fr, H)) os k (upd fr d v) H' Q := Iff.rfl
@[simp] theorem cstep_none : CStep P E fn none d op all prs j old os k fr H Q ↔ False := Iff.rfl
@[simp] theorem cstep0_some : CStep0 P E fn (some (v, H')) op all prs j old os k fr H Q ↔ ckR P j op fr old v prs ∧ ckH P j all old fr H' prs ∧ RCh P E fn all prs (j + 1) (oldS old j (fr, H)) os k fr H' Q := Iff.rfl
@[simp] theorem cstep0_none : CStep0 P E fn none op all prs j old os k fr H Q ↔ False := Iff.rfl
@[simp] theorem cg_true : CG P E fn (some true) op d all prs j old os k fr H Q ↔ CStep P E fn (lopx P (LC P E) op fr H) d op all prs j old os k fr H Q := Iff.rfl
@[simp] theorem cg_false : CG P E fn (some false) op d all prs j old os k fr H Q ↔ d < fn.ntmps ∧ ckH P j all old (upd fr d undef) H prs ∧ RCh P E fn all prs (j + 1) (oldS old j (fr, H)) os k (upd fr d undef) H Q := Iff.rfl
theorem cg_b {b : Bool} : CG P E fn (some b) op d all prs j old os k fr H Q ↔ (b = true → CStep P E fn (lopx P (LC P E) op fr H) d op all prs j old os k fr H Q) ∧ (b = false → d < fn.ntmps ∧ ckH P j all old (upd fr d undef) H prs ∧ RCh P E fn all prs (j + 1) (oldS old j (fr, H)) os k (upd fr d undef) H Q) := by cases b <;> simp
attribute [simp low] cg_b
@[simp ↓] theorem oldS_get {i : Nat} : oldS old j x i = if i = j then x else old i := rfl
@[simp ↓] theorem ckR_nil : ckR P j op fr old v [] ↔ True := Iff.rfl
@[simp ↓] theorem ckR_cons {a b : Nat} : ckR P j op fr old v ((a, b) :: prs) ↔ (a = j ∧ b < j → lopx P T0 op fr (old b).2 = some (v, (old b).2)) ∧ ckR P j op fr old v prs := Iff.rfl
@[simp ↓] theorem ckH_nil : ckH P j all old fr H' [] ↔ True := Iff.rfl
def lget : List Oper → Nat → Option Oper
  | [], _ => none
  | o :: _, 0 => some o
  | _ :: l, n + 1 => lget l n
theorem lget_eq : ∀ (l : List Oper) (j : Nat), l[j]? = lget l j
  | [], j => by cases j <;> rfl
  | o :: l, 0 => rfl
  | o :: l, n + 1 => lget_eq l n
@[simp ↓] theorem lget_zero {o : Oper} {l : List Oper} : lget (o :: l) 0 = some o := rfl
@[simp ↓] theorem lget_succ {o : Oper} {l : List Oper} {n : Nat} : lget (o :: l) (n + 1) = lget l n := rfl
@[simp ↓] theorem ckH_cons {a b : Nat} {l : List Oper} : ckH P j ⟨l⟩ old fr H' ((a, b) :: prs) ↔ (b = j ∧ a < j → ckOp P ⟨l⟩ (lget l a) (old a) fr H') ∧ ckH P j ⟨l⟩ old fr H' prs := by
  have e : (⟨l⟩ : Array Oper)[a]? = lget l a := by
    rw [← lget_eq]
    show (l.toArray)[a]? = _
    rw [List.getElem?_toArray]
  rw [← e]; exact Iff.rfl
@[simp ↓] theorem ckOp_plain {ty : TypeId} {pos : String} {after : Array Edge} {l : List Oper} : ckOp P ⟨l⟩ (some ⟨some d, op, ty, pos, after, none⟩) x fr H' ↔ lopx P T0 op x.1 H' = some (fr d, H') := by
  unfold ckOp
  constructor
  · intro h; exact h d rfl rfl
  · intro h d' hd _
    injection hd with hd
    subst hd; exact h
def gtr (x : Option Bool) : Prop := x = some true
@[simp] theorem gtr_some {b : Bool} : gtr (some b) ↔ b = true := by unfold gtr; simp
@[simp ↓] theorem ckOp_guard {ty : TypeId} {pos : String} {after : Array Edge} {l : List Oper} {g : Nat} {want : Bool} : ckOp P ⟨l⟩ (some ⟨some d, op, ty, pos, after, some (g, want)⟩) x fr H' ↔ (gtr (guardx ⟨l⟩ x.1 g want) → lopx P T0 op x.1 H' = some (fr d, H')) := by
  unfold ckOp gtr
  constructor
  · intro h hg; exact h d rfl hg
  · intro h d' hd hw
    injection hd with hd
    subst hd; exact h hw
end
@[simp] theorem step_none : Step P E fn none d all os k fr Q ↔ False := Iff.rfl
@[simp] theorem mstep_none : MStep P E fn none d all H0 os k fr Q ↔ False := Iff.rfl
@[simp ↓] theorem upd_get {v : Value} {t : Nat} : upd fr d v t = if t = d then v else fr t := rfl
@[simp ↓] theorem ev_tmp {t : Nat} : ev fr (.tmp t) = fr t := rfl
@[simp ↓] theorem ev_int {kd : IntKind} {n : Int} : ev fr (.const (.int kd n)) = .int kd n := rfl
@[simp ↓] theorem ev_bool {b : Bool} : ev fr (.const (.bool b)) = .bool b := rfl
@[simp ↓] theorem ev_str {l : List UInt8} : ev fr (.const (.string ⟨l.toArray⟩)) = str l := rfl
@[simp ↓] theorem ev_nil : ev fr (.const (.pointer none)) = .pointer none := rfl
@[simp ↓] theorem ev_nilslice : ev fr (.const (.slice none 0 0)) = .slice none 0 0 := rfl
@[simp ↓] theorem ev_func {f : FuncId} : ev fr (.func f) = .func (.func f) #[] #[] := rfl
def RCond (P : Program) (E : Ext) (fn : Func) (c : Value) (x y : Code) (k : List Item) (fr : Fr) (H : LH) (Q : Value × LH → Prop) : Prop :=
  match c with
  | .bool b => (b = true → Runs P E fn (.code x :: k) fr H Q) ∧ (b = false → Runs P E fn (.code y :: k) fr H Q)
  | _ => False
@[congr] theorem rcond_congr {c c' : Value} {x y : Code} (h : c = c') : RCond P E fn c x y k fr H Q = RCond P E fn c' x y k fr H Q := by rw [h]
@[simp ↓] theorem runs_cond' {c : Operand} {x y : Code} : Runs P E fn (.code (.cond c x y) :: k) fr H Q ↔ RCond P E fn (ev fr c) x y k fr H Q := by
  unfold RCond
  cases h : ev fr c with
  | bool b => rw [runs_cond h]; cases b <;> simp
  | _ =>
    simp only [iff_false]
    rintro ⟨n, r, hn, _⟩
    cases n with
    | zero => simp [run] at hn
    | succ n => simp [run, h] at hn
@[simp] theorem rcond_true {x y : Code} : RCond P E fn (.bool true) x y k fr H Q ↔ Runs P E fn (.code x :: k) fr H Q := by simp [RCond]
@[simp] theorem rcond_false {x y : Code} : RCond P E fn (.bool false) x y k fr H Q ↔ Runs P E fn (.code y :: k) fr H Q := by simp [RCond]
@[simp low] theorem rcond_b {b : Bool} {x y : Code} : RCond P E fn (.bool b) x y k fr H Q ↔ (b = true → Runs P E fn (.code x :: k) fr H Q) ∧ (b = false → Runs P E fn (.code y :: k) fr H Q) := Iff.rfl
@[simp ↓] theorem runs_exit' {id : Nat} : Runs P E fn (.code (.exit id) :: k) fr H Q ↔ match exitTo id k with | some k' => Runs P E fn k' fr H Q | none => False := runs_exit
@[simp] theorem exit_nil {id : Nat} : exitTo id [] = none := rfl
@[simp] theorem exit_block {id j : Nat} : exitTo id (.inBlock j :: k) = if j == id then some k else exitTo id k := rfl
@[simp] theorem exit_code {id : Nat} {c : Code} : exitTo id (.code c :: k) = exitTo id k := rfl
@[simp] theorem exit_loop {id : Nat} {c : Code} : exitTo id (.inLoop c :: k) = exitTo id k := rfl
def lnth : List Oper → Nat → Option Tmp
  | [], _ => none
  | o :: _, 0 => o.dst
  | _ :: l, n + 1 => lnth l n
theorem lnth_eq : ∀ (l : List Oper) (j : Nat), (l[j]?).bind (·.dst) = lnth l j
  | [], j => by cases j <;> rfl
  | o :: l, 0 => rfl
  | o :: l, n + 1 => lnth_eq l n
@[simp ↓] theorem lnth_zero {dst : Option Tmp} {op : Op} {ty : TypeId} {pos : String} {after : Array Edge} {g : Option (Nat × Bool)} {l : List Oper} : lnth (⟨dst, op, ty, pos, after, g⟩ :: l) 0 = dst := rfl
@[simp ↓] theorem lnth_succ {o : Oper} {l : List Oper} {n : Nat} : lnth (o :: l) (n + 1) = lnth l n := rfl
def gval (v : Value) (want : Bool) : Option Bool := match v with
  | .bool b => some (b == want)
  | v => if flatB v then some false else none
def gdst (d : Option Tmp) (fr : Fr) (want : Bool) : Option Bool := match d with
  | none => some false
  | some d => gval (fr d) want
@[simp ↓] theorem guardx_mk {l : List Oper} {j : Nat} {want : Bool} : guardx ⟨l⟩ fr j want = gdst (lnth l j) fr want := by
  unfold guardx
  rw [← lnth_eq]
  show (match (l.toArray[j]?).bind (·.dst) with | none => _ | some d => _) = _
  rw [List.getElem?_toArray]
  cases (l[j]?).bind (·.dst) <;> rfl
@[simp] theorem gdst_some {d : Nat} {want : Bool} : gdst (some d) fr want = gval (fr d) want := rfl
@[simp] theorem gval_true {b : Bool} : gval (.bool b) true = some b := by cases b <;> rfl
@[simp] theorem gval_false {b : Bool} : gval (.bool b) false = some (!b) := by cases b <;> rfl
@[simp] theorem gval_undef {want : Bool} : gval undef want = some false := rfl
theorem gstep_b {b : Bool} : GStep P E fn (some b) op d all os k fr H Q ↔ (b = true → Step P E fn (lopxB P (LC P E) op fr H) d all os k fr Q) ∧ (b = false → d < fn.ntmps ∧ ROps P E fn all os k (upd fr d undef) H Q) := by cases b <;> simp
theorem gmstep_b {b : Bool} : GMStep P E fn (some b) op d all H0 os k fr H Q ↔ (b = true → MStep P E fn (lmixx P (LC P E) op fr H0 H) d all H0 os k fr Q) ∧ (b = false → d < fn.ntmps ∧ RMix P E fn all H0 os k (upd fr d undef) H Q) := by cases b <;> simp
attribute [simp low] gstep_b gmstep_b
/-! ### operations -/
@[simp ↓] theorem lopx_move {x : Operand} : lopx P T (.move x) fr H = some (ev fr x, H) := rfl
@[simp ↓] theorem lopx_assign {x : Operand} : lopx P T (.assign x) fr H = some (ev fr x, H) := rfl
def lpick (c a b : Value) (H : LH) : Option (Value × LH) := match c with | .bool t => some (if t then a else b, H) | _ => none
@[simp ↓] theorem lopx_pick {c x y : Operand} : lopx P T (.pick c x y) fr H = lpick (ev fr c) (ev fr x) (ev fr y) H := rfl
@[simp] theorem lpick_bool {t : Bool} {a b : Value} : lpick (.bool t) a b H = some (if t = true then a else b, H) := rfl
def withH (v : Option Value) (H : LH) : Option (Value × LH) := v.map fun v => (v, H)
@[simp] theorem withH_some {v : Value} : withH (some v) H = some (v, H) := rfl
@[simp ↓] theorem lopx_bin {op : BinOp} {t yt : TypeId} {x y : Operand} : lopx P T (.binOp op t x y yt) fr H = withH (lbin P op t (ev fr x) (ev fr y)) H := rfl
def lidx (P : Program) (t : TypeId) (x i : Value) : Option Value := if flatB x && flatB i then pureFlat P (Instr.index t x i) else none
@[simp ↓] theorem lopx_index {t : TypeId} {x i : Operand} : lopx P T (.index t x i) fr H = withH (lidx P t (ev fr x) (ev fr i)) H := by
  show (if flatB (ev fr x) && flatB (ev fr i) then _ else _) = withH (lidx _ _ _ _) _
  unfold lidx withH; split <;> rfl
def lun (P : Program) (op : UnOp) (x : Value) : Option Value := if flatB x then pureFlat P (Op.unary op x) else none
@[simp ↓] theorem lopx_un {op : UnOp} {t : TypeId} {x : Operand} : lopx P T (.unOp op t x) fr H = withH (lun P op (ev fr x)) H := by
  show (if flatB (ev fr x) then _ else _) = withH (lun _ _ _) _
  unfold lun withH; split <;> rfl
def lconv (P : Program) (s d : TypeId) (x : Value) (H : LH) : Option Value := if flatB x then pureFlat P (convert s d x) else lbstr P s d x H
@[simp ↓] theorem lopx_conv {s d : TypeId} {x : Operand} : lopx P T (.convert s d x) fr H = withH (lconv P s d (ev fr x) H) H := by
  show (if flatB (ev fr x) then _ else _) = withH (lconv _ _ _ _ _) _
  unfold lconv withH; split <;> rfl
def lextract (x : Value) (i : Nat) : Option Value := match x with | .tuple vs => vs[i]? | _ => none
@[simp ↓] theorem lopx_extract {x : Operand} {i : Nat} : lopx P T (.extract x i) fr H = withH (lextract (ev fr x) i) H := by
  show (match ev fr x with | .tuple vs => _ | _ => none) = withH (lextract _ _) _
  cases ev fr x <;> rfl
@[simp] theorem lextract_0 {a : Value} {l : List Value} : lextract (.tuple ⟨a :: l⟩) 0 = some a := rfl
@[simp] theorem lextract_1 {a b : Value} {l : List Value} : lextract (.tuple ⟨a :: b :: l⟩) 1 = some b := rfl
@[simp] theorem lextract_2 {a b c : Value} {l : List Value} : lextract (.tuple ⟨a :: b :: c :: l⟩) 2 = some c := rfl
@[simp] theorem lextract_3 {a b c d : Value} {l : List Value} : lextract (.tuple ⟨a :: b :: c :: d :: l⟩) 3 = some d := rfl
@[simp ↓] theorem lopx_call {f : Operand} {args : List Operand} {ts : Array TypeId} : lopx P T (.call ⟨.value f, ⟨args⟩, ts⟩) fr H = lcallee P T (ev fr f) (args.map (ev fr)) H := rfl
@[simp ↓] theorem lopx_builtin {b : Builtin} {args : List Operand} {ts : List TypeId} : lopx P T (.call ⟨.builtin b, ⟨args⟩, ⟨ts⟩⟩) fr H = lbuiltin P b ts (args.map (ev fr)) H := rfl
@[simp] theorem lcallee_func {g : FuncId} {args : List Value} : lcallee P T (.func (.func g) #[] #[]) args H = T g args H := by simp [lcallee]
/-! ### operations that stand in a row -/
@[simp ↓] theorem lopxB_move {x : Operand} : lopxB P T (.move x) fr H = lopx P T (.move x) fr H := rfl
@[simp ↓] theorem lopxB_assign {x : Operand} : lopxB P T (.assign x) fr H = lopx P T (.assign x) fr H := rfl
@[simp ↓] theorem lopxB_pick {c x y : Operand} : lopxB P T (.pick c x y) fr H = lopx P T (.pick c x y) fr H := rfl
@[simp ↓] theorem lopxB_alloc {t : TypeId} : lopxB P T (.alloc t) fr H = lopx P T (.alloc t) fr H := rfl
@[simp ↓] theorem lopxB_box {t : TypeId} {x : Operand} : lopxB P T (.box t x) fr H = lopx P T (.box t x) fr H := rfl
@[simp ↓] theorem lopxB_build {t : TypeId} {ps : Array (Nat × Operand)} : lopxB P T (.build t ps) fr H = lopx P T (.build t ps) fr H := rfl
@[simp ↓] theorem lopxB_buildSlice {t : TypeId} {n : Nat} {ps : Array (Nat × Operand)} : lopxB P T (.buildSlice t n ps) fr H = lopx P T (.buildSlice t n ps) fr H := rfl
@[simp ↓] theorem lopxB_load {t : TypeId} {x : Operand} : lopxB P T (.load t x) fr H = lopx P T (.load t x) fr H := rfl
@[simp ↓] theorem lopxB_store {t : TypeId} {x y : Operand} : lopxB P T (.store t x y) fr H = lopx P T (.store t x y) fr H := rfl
@[simp ↓] theorem lopxB_nilCheck {x : Operand} : lopxB P T (.nilCheck x) fr H = lopx P T (.nilCheck x) fr H := rfl
@[simp ↓] theorem lopxB_binOp {o : BinOp} {t u : TypeId} {x y : Operand} : lopxB P T (.binOp o t x y u) fr H = lopx P T (.binOp o t x y u) fr H := rfl
@[simp ↓] theorem lopxB_unOp {o : UnOp} {t : TypeId} {x : Operand} : lopxB P T (.unOp o t x) fr H = lopx P T (.unOp o t x) fr H := rfl
@[simp ↓] theorem lopxB_makeFunc {f : Fn} {g c : Array Operand} : lopxB P T (.makeFunc f g c) fr H = lopx P T (.makeFunc f g c) fr H := rfl
@[simp ↓] theorem lopxB_makeSlice {t : TypeId} {x y : Operand} : lopxB P T (.makeSlice t x y) fr H = lopx P T (.makeSlice t x y) fr H := rfl
@[simp ↓] theorem lopxB_slice {t : TypeId} {x : Operand} {lo hi mx : Option Operand} : lopxB P T (.slice t x lo hi mx) fr H = lopx P T (.slice t x lo hi mx) fr H := rfl
@[simp ↓] theorem lopxB_fieldAddr {t : TypeId} {x : Operand} {i : Nat} : lopxB P T (.fieldAddr t x i) fr H = lopx P T (.fieldAddr t x i) fr H := rfl
@[simp ↓] theorem lopxB_field {t : TypeId} {x : Operand} {i : Nat} : lopxB P T (.field t x i) fr H = lopx P T (.field t x i) fr H := rfl
@[simp ↓] theorem lopxB_indexAddr {t : TypeId} {x y : Operand} : lopxB P T (.indexAddr t x y) fr H = lopx P T (.indexAddr t x y) fr H := rfl
@[simp ↓] theorem lopxB_index {t : TypeId} {x y : Operand} : lopxB P T (.index t x y) fr H = lopx P T (.index t x y) fr H := rfl
@[simp ↓] theorem lopxB_extract {x : Operand} {i : Nat} : lopxB P T (.extract x i) fr H = lopx P T (.extract x i) fr H := rfl
@[simp ↓] theorem lopxB_call {c : Call} : lopxB P T (.call c) fr H = lopx P T (.call c) fr H := rfl
/-- a conversion -/
def lcvB (P : Program) (s d : TypeId) (v : Value) (H : LH) : Option (Value × LH) := match lbytesM P s d v H with
  | some r => some r
  | none => withH (lconv P s d v H) H
@[simp ↓] theorem lopxB_convert {s t : TypeId} {x : Operand} : lopxB P T (.convert s t x) fr H = lcvB P s t (ev fr x) H := by
  show (match lbytesM P s t (ev fr x) H with | some r => some r | none => lopx P T (.convert s t x) fr H) = _
  rw [lopx_conv]; rfl
theorem lbytes_no {s t : TypeId} {v : Value} (h : ∀ bs, v ≠ .string bs) : lbytes P s t v H = none := by
  unfold lbytes
  split
  · exact absurd rfl (h _)
  · rfl
theorem lcvB_no {s t : TypeId} {v : Value} (h : ∀ bs, v ≠ .string bs) (h2 : ∀ a n c, v ≠ .slice a n c) : lcvB P s t v H = withH (lconv P s t v H) H := by
  have e1 := lbytes_no (P := P) (H := H) (s := s) (t := t) h
  have e2 : lmark P s t v H = none := by
    unfold lmark
    split
    · exact absurd rfl (h2 _ _ _)
    · rfl
  unfold lcvB lbytesM; rw [e1, e2]
@[simp] theorem lcvB_int {s t : TypeId} {kd : IntKind} {n : Int} : lcvB P s t (.int kd n) H = withH (lconv P s t (.int kd n) H) H := lcvB_no (fun _ h => by cases h) (fun _ _ _ h => by cases h)
@[simp] theorem lcvB_float {s t : TypeId} {kd : FloatKind} {n : Nat} : lcvB P s t (.float kd n) H = withH (lconv P s t (.float kd n) H) H := lcvB_no (fun _ h => by cases h) (fun _ _ _ h => by cases h)
@[simp] theorem lcvB_slice {s t : TypeId} {a : Option Addr} {n c : Nat} (hne : s ≠ t) : lcvB P s t (.slice a n c) H = withH (lconv P s t (.slice a n c) H) H := by
  have e1 := lbytes_no (P := P) (H := H) (s := s) (t := t) (v := .slice a n c) (fun _ h => by cases h)
  have e2 : lmark P s t (.slice a n c) H = none := by
    unfold lmark
    split
    · split
      · split
        · rw [if_neg (fun h => hne h.1)]
        · rfl
      · rfl
    · rfl
  unfold lcvB lbytesM; rw [e1, e2]
theorem lcvB_mark {s e : TypeId} {l n c : Nat} {b : LB} (hs : P.underlying s = some (.slice e)) (he : P.underlying e = some (.int .u8)) (hz : sz P e = some 1) (hb : H.get l = some b) (hrw : b.rw = true) (hel : b.elem = e) (hn : 0 < n) : lcvB P s s (.slice (some ⟨l, 0, none⟩) n c) H = some (.slice (some ⟨l, 0, none⟩) n c, H.set l ⟨b.cells, MK P e, true⟩) := by
  have e1 := lbytes_no (P := P) (H := H) (s := s) (t := s) (v := .slice (some ⟨l, 0, none⟩) n c) (fun _ h => by cases h)
  unfold lcvB lbytesM lmark; rw [e1]
  simp only [hs, hb, he]
  rw [if_pos ⟨trivial, hrw, hel, hz, hn⟩]
@[simp] theorem lcvB_undef {s t : TypeId} : lcvB P s t undef H = withH (lconv P s t undef H) H := lcvB_no (fun _ h => by cases h) (fun _ _ _ h => by cases h)
theorem strCells_eq (l : List UInt8) : Lib.strCells ⟨l.toArray⟩ = l.map fun b => Value.int .u8 b.toNat := by simp [Lib.strCells]
@[simp] theorem lcvB_bytes {s t e : TypeId} {l : List UInt8} (hs : P.underlying s = some .string) (hd : P.underlying t = some (.slice e)) (he : P.underlying e = some (.int .u8)) (hz : sz P e = some 1) : lcvB P s t (str l) H = some (.slice (some ⟨H.n, 0, none⟩) l.length l.length, H.new ⟨l.map fun b => Value.int .u8 b.toNat, MK P e, decide (l.length ≤ maxLen)⟩) := by
  unfold lcvB lbytesM lbytes str
  simp only [hs, hd, he, hz, strCells_eq, if_true]
  rw [show (⟨l.toArray⟩ : ByteArray).size = l.length by show l.toArray.size = _; simp]
@[simp] theorem lcvB_strs {s t : TypeId} {l : List UInt8} (hd : P.underlying t = some .string) : lcvB P s t (str l) H = withH (lconv P s t (str l) H) H := by
  have : lbytes P s t (str l) H = none := by
    unfold lbytes
    split
    · rename_i h _; rw [hd] at h; cases h
    · rfl
  have e2 : lmark P s t (str l) H = none := by
    unfold lmark
    split
    · rename_i h; cases h
    · rfl
  unfold lcvB lbytesM; rw [this, e2]
/-! ### values -/
@[simp] theorem flat_int {kd : IntKind} {n : Int} : flatB (.int kd n) = true := by simp [flatB, flat1B, atomB, str]
@[simp] theorem flat_bool {b : Bool} : flatB (.bool b) = true := by simp [flatB, flat1B, atomB, str]
@[simp] theorem flat_str {l : List UInt8} : flatB (str l) = true := by simp [flatB, flat1B, atomB, str]
@[simp] theorem flat_string {s : ByteArray} : flatB (.string s) = true := by simp [flatB, flat1B, atomB, str]
@[simp] theorem flat_nil : flatB (.pointer none) = true := by simp [flatB, flat1B, atomB, str]
@[simp] theorem flat_nilslice : flatB (.slice none 0 0) = true := by simp [flatB, flat1B, atomB, str]
@[simp] theorem wrap64_in {n : Int} (h1 : -9223372036854775808 ≤ n) (h2 : n ≤ 9223372036854775807) : IntKind.i64.wrap n = n := IntWalk.i64_in _ ⟨h1, h2⟩
theorem lbin_ii {op : BinOp} {t : TypeId} {kd : IntKind} {a b : Int} {v : Value} (h : pureVal P (binOp op t (.int kd a) (.int kd b)) = some v) (hv : flatB v = true) : lbin P op t (.int kd a) (.int kd b) = some v := by
  have e : pureVal P (do eqGuard op t (.tmp 0) (.tmp 0) (.int kd a) (.int kd b); binOp op t (.int kd a) (.int kd b) : Sem Value) = some v := by
    rw [← h]; cases op <;> rfl
  show pureFlat P (do eqGuard op t (.tmp 0) (.tmp 0) _ _; binOp op t _ _) = some v
  unfold pureFlat
  rw [e]
  simp only [hv, if_true]
variable {t : TypeId} {kd : IntKind} {a b : Int}
@[simp] theorem lbin_add : lbin P .add t (.int kd a) (.int kd b) = some (.int kd (kd.wrap (a + b))) := lbin_ii (by simp [binOp, Op.intArith]) rfl
@[simp] theorem lbin_sub : lbin P .sub t (.int kd a) (.int kd b) = some (.int kd (kd.wrap (a - b))) := lbin_ii (by simp [binOp, Op.intArith]) rfl
@[simp] theorem lbin_mul : lbin P .mul t (.int kd a) (.int kd b) = some (.int kd (kd.wrap (a * b))) := lbin_ii (by simp [binOp, Op.intArith]) rfl
@[simp] theorem lbin_quo (h : b ≠ 0) : lbin P .quo t (.int kd a) (.int kd b) = some (.int kd (kd.wrap (a.tdiv b))) := lbin_ii (by simp [binOp, Op.intDiv, h]) rfl
@[simp] theorem lbin_rem (h : b ≠ 0) : lbin P .rem t (.int kd a) (.int kd b) = some (.int kd (a.tmod b)) := lbin_ii (by simp [binOp, Op.intDiv, h]) rfl
@[simp] theorem lbin_eq : lbin P .eql t (.int kd a) (.int kd b) = some (.bool (decide (a = b))) := lbin_ii (by by_cases h : a = b <;> simp [binOp, Op.intCmp, h]) rfl
@[simp] theorem lbin_ne : lbin P .neq t (.int kd a) (.int kd b) = some (.bool (decide (a ≠ b))) := lbin_ii (by
  simp only [binOp, Op.intCmp, ne_eq, not_true_eq_false, if_false]
  show some (Value.bool (a != b)) = _
  congr 2
  by_cases h : a = b <;> simp [h]) rfl
@[simp] theorem lbin_lt : lbin P .lss t (.int kd a) (.int kd b) = some (.bool (decide (a < b))) := lbin_ii (by simp [binOp, Op.intCmp]) rfl
@[simp] theorem lbin_le : lbin P .leq t (.int kd a) (.int kd b) = some (.bool (decide (a ≤ b))) := lbin_ii (by simp [binOp, Op.intCmp]) rfl
@[simp] theorem lbin_gt : lbin P .gtr t (.int kd a) (.int kd b) = some (.bool (decide (b < a))) := lbin_ii (by simp [binOp, Op.intCmp]) rfl
@[simp] theorem lbin_ge : lbin P .geq t (.int kd a) (.int kd b) = some (.bool (decide (b ≤ a))) := lbin_ii (by simp [binOp, Op.intCmp]) rfl
theorem lbin_ss {op : BinOp} {t : TypeId} {a b : List UInt8} {v : Value} (h : pureVal P (binOp op t (str a) (str b)) = some v) (hv : flatB v = true) : lbin P op t (str a) (str b) = some v := by
  have e : pureVal P (do eqGuard op t (.tmp 0) (.tmp 0) (str a) (str b); binOp op t (str a) (str b) : Sem Value) = some v := by
    rw [← h]; cases op <;> rfl
  show pureFlat P (do eqGuard op t (.tmp 0) (.tmp 0) _ _; binOp op t _ _) = some v
  unfold pureFlat
  rw [e]
  simp only [hv, if_true]
theorem ba_list (l : List UInt8) : (⟨l.toArray⟩ : ByteArray).toList = l := by rw [ba_toList]
theorem ba_size (l : List UInt8) : (⟨l.toArray⟩ : ByteArray).size = l.length := by show l.toArray.size = _; simp
variable {x y : List UInt8}
@[simp] theorem lbin_seq : lbin P .eql t (str x) (str y) = some (.bool (decide (x = y))) := lbin_ss (by
  simp only [str, binOp, Op.stringOp, ba_list]
  show some (Value.bool (x == y)) = _
  by_cases h : x = y <;> simp [h]) rfl
@[simp] theorem lbin_sne : lbin P .neq t (str x) (str y) = some (.bool (decide (x ≠ y))) := lbin_ss (by
  simp only [str, binOp, Op.stringOp, ba_list]
  show some (Value.bool (!(x == y))) = _
  by_cases h : x = y <;> simp [h]) rfl
@[simp] theorem lbin_cat (h : x.length + y.length ≤ 9223372036854775807) : lbin P .add t (str x) (str y) = some (str (x ++ y)) := lbin_ss (by
  simp only [str, binOp, Op.stringOp, ba_size]
  rw [if_neg (by rw [show IntKind.max .i64 = 9223372036854775807 from rfl]; omega)]
  show some (Value.string _) = _
  congr 2) rfl
theorem lbin_bb {op : BinOp} {t : TypeId} {a b : Bool} {v : Value} (h : pureVal P (binOp op t (.bool a) (.bool b)) = some v) (hv : flatB v = true) : lbin P op t (.bool a) (.bool b) = some v := by
  have e : pureVal P (do eqGuard op t (.tmp 0) (.tmp 0) (.bool a) (.bool b); binOp op t (.bool a) (.bool b) : Sem Value) = some v := by
    rw [← h]; cases op <;> rfl
  show pureFlat P (do eqGuard op t (.tmp 0) (.tmp 0) _ _; binOp op t _ _) = some v
  unfold pureFlat
  rw [e]
  simp only [hv, if_true]
@[simp] theorem lun_not {a : Bool} : lun P .not (.bool a) = some (.bool (!a)) := rfl
@[simp] theorem lun_neg {a : Int} : lun P .neg (.int kd a) = some (.int kd (kd.wrap (0 - a))) := rfl
/-- a string's byte -/
def at_ (l : List UInt8) (i : Int) : UInt8 := l.getD i.toNat 0
theorem lidx_str (hu : P.underlying t = some .string) {i : Int} (h0 : 0 ≤ i) (h1 : i < x.length) : lidx P t (str x) (.int kd i) = some (.int .u8 (at_ x i).toNat) := by
  have hlt : i.toNat < x.length := by omega
  have e : (⟨x.toArray⟩ : ByteArray)[i.toNat]? = some (at_ x i) := by
    unfold at_
    have : (⟨x.toArray⟩ : ByteArray)[i.toNat]? = x[i.toNat]? := by
      rw [getElem?_def, getElem?_def]
      simp only [ba_size]
      rfl
    rw [this, List.getD_eq_getElem?_getD, List.getElem?_eq_getElem hlt]; rfl
  have hp : pureVal P (Instr.index t (str x) (.int kd i)) = some (.int .u8 (at_ x i).toNat) := by
    simp only [Instr.index, str, asIntOf, pureVal_bind, pureVal_pure, Option.bind_some, pureVal_und, hu]
    rw [if_pos h0, e]; rfl
  show pureFlat P _ = _
  unfold pureFlat
  rw [hp]; rfl
theorem lbuiltin_len_str (hu : P.underlying t = some .string) : lbuiltin P .len [t] [str x] H = some (.int .i64 x.length, H) := by
  simp only [lbuiltin, str, hu, ba_size]
theorem lbuiltin_len_slice {e : TypeId} (hu : P.underlying t = some (.slice e)) {ad : Option Addr} {n c : Nat} : lbuiltin P .len [t] [.slice ad n c] H = some (.int .i64 n, H) := by
  simp only [lbuiltin, hu]
end
end Go.Lg
/-
  A logical run of Go code: what operations on memory, strings and slices come to.
-/
set_option linter.unusedSimpArgs false
set_option linter.unusedVariables false
namespace Go.Lg
open Go.Tg Go.RowKit

abbrev ptr (l off : Nat) : Value := .pointer (some ⟨l, off, none⟩)
abbrev sl (l n c : Nat) : Value := .slice (some ⟨l, 0, none⟩) n c
section
variable {P : Program} {E : Ext} {fn : Func} {k : List Item} {fr : Fr} {H H' : LH} {Q : Value × LH → Prop} {all : Array Oper} {os : List Oper} {d : Nat} {op : Op} {T : Callee} {b c : LB} {l m : Nat}

@[simp] theorem enter_get {args : List Value} {t : Nat} : enter args t = args.getD t undef := rfl
/-! ### the heap -/
@[simp] theorem get_new : (H.new b).get H.n = some b := by simp [LH.new]
theorem get_new' : (H.new b).get l = if l = H.n then some b else H.get l := rfl
@[simp] theorem get_new_ne (h : l ≠ H.n) : (H.new b).get l = H.get l := by simp [LH.new, h]
@[simp] theorem get_set : (H.set l b).get l = some b := by simp [LH.set]
@[simp] theorem get_set_ne (h : m ≠ l) : (H.set l b).get m = H.get m := by simp [LH.set, h]
@[simp] theorem get_kill : (H.kill l).get l = none := by simp [LH.kill]
@[simp] theorem get_kill_ne (h : m ≠ l) : (H.kill l).get m = H.get m := by simp [LH.kill, h]
@[simp] theorem n_new : (H.new b).n = H.n + 1 := by simp only [LH.new]
@[simp] theorem n_set : (H.set l b).n = H.n := by simp only [LH.set]
@[simp] theorem n_kill : (H.kill l).n = H.n := by simp only [LH.kill]
@[simp] theorem n_ro : H.ro.n = H.n := by simp only [LH.ro]
@[simp] theorem base_new : (H.new b).base = H.base := by simp only [LH.new]
@[simp] theorem base_set : (H.set l b).base = H.base := by simp only [LH.set]
@[simp] theorem base_kill : (H.kill l).base = H.base := by simp only [LH.kill]
@[simp] theorem base_ro : H.ro.base = H.base := by simp only [LH.ro]
@[simp] theorem ng_new : (H.new b).ng = H.ng := by simp only [LH.new]
@[simp] theorem ng_set : (H.set l b).ng = H.ng := by simp only [LH.set]
@[simp] theorem ng_kill : (H.kill l).ng = H.ng := by simp only [LH.kill]
@[simp] theorem ng_ro : H.ro.ng = H.ng := by simp only [LH.ro]
@[simp] theorem get_ro : H.ro.get l = (H.get l).map fun b => { b with rw := false } := by simp only [LH.ro]
@[simp] theorem set_set : (H.set l b).set l c = H.set l c := by
  unfold LH.set; simp only [LH.mk.injEq, true_and, and_true]; funext k; split <;> simp_all
@[simp] theorem new_set : (H.new b).set H.n c = H.new c := by
  unfold LH.new LH.set; simp only [LH.mk.injEq, true_and, and_true]; funext k; split <;> simp_all
@[simp] theorem le_self : H.le H := le_refl
theorem LH.le.trans {A B C : LH} (h : A.le B) (g : B.le C) : A.le C := ⟨Nat.le_trans h.1 g.1, fun l hl => (g.2 l (Nat.lt_of_lt_of_le hl h.1)).trans (h.2 l hl)⟩
theorem LH.le.new (h : H.le H') : H.le (H'.new b) := ⟨Nat.le_succ_of_le h.1, fun l hl => by
  have := h.1
  rw [get_new_ne (by omega)]; exact h.2 l hl⟩
theorem LH.le.set (h : H.le H') (hl : H.n ≤ l) : H.le (H'.set l b) := ⟨h.1, fun k hk => by rw [get_set_ne (by omega)]; exact h.2 k hk⟩
theorem LH.le.kill (h : H.le H') (hl : H.n ≤ l) : H.le (H'.kill l) := ⟨h.1, fun k hk => by rw [get_kill_ne (by omega)]; exact h.2 k hk⟩
/-! ### fields, loads, stores -/
/-- a field: its first cell, how many cells, whether it is a struct or an array -/
def fldi (P : Program) (s : TypeId) (f : Nat) : Option (Nat × Nat × Bool) :=
  match P.underlying s with
  | some (.struct fs) => match fs[f]? with
    | some fd => match sz P fd.type, aggB P fd.type with
      | some n, some g => some (fd.offset, n, g)
      | _, _ => none
    | none => none
  | _ => none
def lfaddr (i : Option (Nat × Nat × Bool)) (x : Value) (H : LH) : Option (Value × LH) :=
  match i, x with
  | some (o, n, _), .pointer (some ⟨l, off, none⟩) => if n = 0 then none else some (ptr l (off + o), H)
  | _, _ => none
theorem lopx_fieldAddr {s : TypeId} {x : Operand} {f : Nat} {i : Nat × Nat × Bool} (h : fldi P s f = some i) : lopx P T (.fieldAddr s x f) fr H = lfaddr (some i) (ev fr x) H := by
  unfold fldi at h
  show (match ev fr x, P.underlying s with | .pointer (some ⟨l, off, none⟩), some (.struct fs) => _ | _, _ => none) = _
  split at h
  · rename_i fs hu
    split at h
    · rename_i fd hf
      split at h
      · rename_i n g hs ha
        injection h with h
        subst h
        rw [hu]
        unfold lfaddr
        split
        · rename_i e1 e2
          injection e2 with e2
          injection e2 with e2
          subst e2
          simp only [hf, hs, e1]
        · rename_i h1
          split
          · rename_i e1 e2
            exact absurd rfl (h1 _ _ _ e2)
          · rfl
      · cases h
    · cases h
  · cases h
attribute [simp] lopx_fieldAddr
@[simp] theorem lfaddr_ptr {o n off : Nat} {g : Bool} (h : n ≠ 0) : lfaddr (some (o, n, g)) (ptr l off) H = some (ptr l (off + o), H) := by simp [lfaddr, h]
def lldb (a : Option Bool) (s : Option Nat) (cs : List Value) (off : Nat) : Option Value :=
  match a, s with
  | some true, some s => if off + s ≤ cs.length then some (.agg ((cs.drop off).take s).toArray) else none
  | some false, _ => cs[off]?
  | _, _ => none
def lld (P : Program) (t : TypeId) (x : Value) (H : LH) : Option Value := match x with
  | .pointer (some ⟨l, off, none⟩) => match H.get l with
    | some b => lldb (aggB P t) (sz P t) b.cells off
    | none => none
  | _ => none
theorem lload_eq {t : TypeId} {off : Nat} : lload P t l off H = lld P t (ptr l off) H := by
  cases h : H.get l with
  | none => simp only [lload, lld, h]
  | some b =>
    simp only [lload, lld, h, lldb]
    cases aggB P t with
    | none => rfl
    | some g => cases g <;> cases sz P t <;> simp [lcells]
@[simp ↓] theorem lopx_load {t : TypeId} {x : Operand} : lopx P T (.load t x) fr H = withH (lld P t (ev fr x) H) H := by
  show (match ev fr x with | .pointer (some ⟨l, off, none⟩) => (lload P t l off H).map fun v => (v, H) | _ => none) = _
  split
  · rename_i e; rw [e, lload_eq]; rfl
  · rename_i h
    unfold lld
    split
    · rename_i e; exact absurd e (h _ _)
    · rfl
theorem lld_ptr {t : TypeId} {off : Nat} (h : H.get l = some b) : lld P t (ptr l off) H = lldb (aggB P t) (sz P t) b.cells off := by simp [lld, h]
attribute [simp] lld_ptr
@[simp] theorem lldb_cell {s : Option Nat} {cs : List Value} {off : Nat} : lldb (some false) s cs off = cs[off]? := rfl
@[simp] theorem lldb_agg {s : Nat} {cs : List Value} {off : Nat} (h : off + s ≤ cs.length) : lldb (some true) (some s) cs off = some (.agg ((cs.drop off).take s).toArray) := by simp [lldb, h]
def lst (P : Program) (t : TypeId) (x v : Value) (H : LH) : Option (Value × LH) := match x with
  | .pointer (some ⟨l, off, none⟩) => (lstore P t l off v H).map fun H' => (undef, H')
  | _ => none
@[simp ↓] theorem lopx_store {t : TypeId} {x y : Operand} : lopx P T (.store t x y) fr H = lst P t (ev fr x) (ev fr y) H := rfl
theorem cells_one {v : Value} (h : cellB v = true) : v.cells = #[v] := by cases v <;> first | rfl | (simp [cellB] at h)
theorem lst_cell {t : TypeId} {off : Nat} {v : Value} (h : H.get l = some b) (hrw : b.rw = true) (hs : sz P t = some 1) (hv : cellB v = true) (ho : off < b.cells.length) :
    lst P t (ptr l off) v H = some (undef, H.set l ⟨b.cells.set off v, b.elem, true⟩) := by
  have e1 : splice b.cells off [v] = b.cells.set off v := by
    unfold splice
    rw [List.set_eq_take_append_cons_drop, if_pos ho]; simp
  simp only [lst, lstore, h, hs, cells_one hv]
  simp [hv, e1, hrw]
  omega
attribute [simp] lst_cell
theorem lst_agg {t : TypeId} {off n : Nat} {vs : List Value} (h : H.get l = some b) (hrw : b.rw = true) (hs : sz P t = some n) (hn : vs.length = n) (hv : vs.all cellB = true) (ho : off + n ≤ b.cells.length) :
    lst P t (ptr l off) (.agg ⟨vs⟩) H = some (undef, H.set l ⟨splice b.cells off vs, b.elem, true⟩) := by
  subst hn
  have hv' : ∀ x ∈ vs, cellB x = true := by simpa using hv
  simp only [lst, lstore, h, hs, Value.cells]
  simp [ho, hrw]
  exact hv'
attribute [simp] lst_agg
@[simp] theorem cell_int {kd : IntKind} {n : Int} : cellB (.int kd n) = true := by simp only [cellB]
@[simp] theorem cell_bool {x : Bool} : cellB (.bool x) = true := by simp only [cellB, str]
@[simp] theorem cell_str {x : List UInt8} : cellB (str x) = true := by simp only [cellB, str]
@[simp] theorem cell_ptr {x : Option Addr} : cellB (.pointer x) = true := by simp only [cellB, str]
@[simp] theorem cell_slice {x : Option Addr} {n c : Nat} : cellB (.slice x n c) = true := by simp only [cellB, str]
@[simp] theorem cell_func {f : Fn} {x y : Array Value} : cellB (.func f x y) = true := by simp only [cellB, str]
def Step0 (P : Program) (E : Ext) (fn : Func) (x : Option (Value × LH)) (all : Array Oper) (os : List Oper) (k : List Item) (fr : Fr) (Q : Value × LH → Prop) : Prop :=
  match x with
  | some (_, H) => ROps P E fn all os k fr H Q
  | none => False
@[congr] theorem step0_congr {x y : Option (Value × LH)} (h : x = y) : Step0 P E fn x all os k fr Q = Step0 P E fn y all os k fr Q := by rw [h]
@[simp] theorem step0_some {v : Value} : Step0 P E fn (some (v, H)) all os k fr Q ↔ ROps P E fn all os k fr H Q := Iff.rfl
@[simp] theorem step0_none : Step0 P E fn none all os k fr Q ↔ False := Iff.rfl
@[simp ↓] theorem rops_cons0' {ty : TypeId} {pos : String} {after : Array Edge} : ROps P E fn all (⟨none, op, ty, pos, after, none⟩ :: os) k fr H Q ↔ Step0 P E fn (lopxB P (LC P E) op fr H) all os k fr Q := by
  rw [rops_cons0]; rfl
/-! ### results -/
def lres (P : Program) (rs : List ResultVar) (fr : Fr) (H : LH) : Option Value :=
  match rs.mapM (lresult P fr H) with
  | some [v] => some v
  | some vs => some (.tuple vs.toArray)
  | none => none
@[simp] theorem lresults_eq : lresults P fn fr H = lres P fn.results.toList fr H := rfl
def lres1 (P : Program) (r : ResultVar) (fr : Fr) (H : LH) : Option Value := match r with
  | .tmp t => some (fr t)
  | .cell a t => lld P t (fr a) H
theorem lresult_eq {x : ResultVar} : lresult P fr H x = lres1 P x fr H := by
  cases x with
  | tmp t => rfl
  | cell a t =>
    simp only [lresult, lres1]
    split
    · rename_i e; rw [e, lload_eq]
    · rename_i h
      unfold lld
      split
      · rename_i e; exact absurd e (h _ _)
      · rfl
@[simp] theorem lres1_tmp {t : Tmp} : lres1 P (.tmp t) fr H = some (fr t) := rfl
@[simp] theorem lres1_cell {a : Tmp} {t : TypeId} : lres1 P (.cell a t) fr H = lld P t (fr a) H := rfl
@[simp] theorem lres_nil : lres P [] fr H = some (.tuple #[]) := rfl
@[simp] theorem lres_one {x : ResultVar} : lres P [x] fr H = lres1 P x fr H := by
  simp only [lres, List.mapM_cons, List.mapM_nil, lresult_eq]
  cases lres1 P x fr H <;> rfl
@[simp] theorem lres_two {x y : ResultVar} : lres P [x, y] fr H = (lres1 P x fr H).bind fun a => (lres1 P y fr H).bind fun b => some (.tuple #[a, b]) := by
  simp only [lres, List.mapM_cons, List.mapM_nil, lresult_eq]
  cases lres1 P x fr H <;> cases lres1 P y fr H <;> rfl
@[simp] theorem lres_three {x y z : ResultVar} : lres P [x, y, z] fr H = (lres1 P x fr H).bind fun a => (lres1 P y fr H).bind fun b => (lres1 P z fr H).bind fun c => some (.tuple #[a, b, c]) := by
  simp only [lres, List.mapM_cons, List.mapM_nil, lresult_eq]
  cases lres1 P x fr H <;> cases lres1 P y fr H <;> cases lres1 P z fr H <;> rfl
@[simp] theorem lres_four {x y z u : ResultVar} : lres P [x, y, z, u] fr H = (lres1 P x fr H).bind fun a => (lres1 P y fr H).bind fun b => (lres1 P z fr H).bind fun c => (lres1 P u fr H).bind fun d => some (.tuple #[a, b, c, d]) := by
  simp only [lres, List.mapM_cons, List.mapM_nil, lresult_eq]
  cases lres1 P x fr H <;> cases lres1 P y fr H <;> cases lres1 P z fr H <;> cases lres1 P u fr H <;> rfl
/-! ### new blocks -/
def lbox (s : Option Nat) (e : TypeId) (v : Value) (H : LH) : Option (Value × LH) := if knownB v && s == some v.cells.size then some (ptr H.n 0, H.new ⟨v.cells.toList, e, true⟩) else none
@[simp ↓] theorem lopx_box {e : TypeId} {x : Operand} : lopx P T (.box e x) fr H = lbox (sz P e) e (ev fr x) H := rfl
@[simp] theorem lbox_agg {e : TypeId} {n : Nat} {vs : List Value} (h : vs.length = n) : lbox (some n) e (.agg ⟨vs⟩) H = some (ptr H.n 0, H.new ⟨vs, e, true⟩) := by simp [lbox, knownB, Value.cells, h]
@[simp] theorem lbox_cell {e : TypeId} {v : Value} (h : cellB v = true) : lbox (some 1) e v H = some (ptr H.n 0, H.new ⟨[v], e, true⟩) := by
  have : knownB v = true := by cases v <;> first | rfl | (simp [cellB] at h)
  simp [lbox, this, cells_one h]
def lalloc (s : Option Nat) (z : Option Value) (e : TypeId) (H : LH) : Option (Value × LH) := match z with
  | some z => if flatB z && s == some z.cells.size then some (ptr H.n 0, H.new ⟨z.cells.toList, e, true⟩) else none
  | none => none
@[simp ↓] theorem lopx_alloc {e : TypeId} : lopx P T (.alloc e) fr H = lalloc (sz P e) (zr P e) e H := rfl
@[simp] theorem lalloc_agg {e : TypeId} {n : Nat} {vs : List Value} (h : vs.length = n) (hf : vs.all atomB = true) : lalloc (some n) (some (.agg ⟨vs⟩)) e H = some (ptr H.n 0, H.new ⟨vs, e, true⟩) := by
  have : flatB (.agg ⟨vs⟩) = true := hf
  simp [lalloc, this, Value.cells, h]
@[simp] theorem lalloc_cell {e : TypeId} {v : Value} (h : cellB v = true) (hf : flatB v = true) : lalloc (some 1) (some v) e H = some (ptr H.n 0, H.new ⟨[v], e, true⟩) := by simp [lalloc, hf, cells_one h]
@[simp] theorem zr_str : Value.string ⟨#[]⟩ = str [] := rfl
@[simp ↓] theorem lopx_nilCheck {x : Operand} {ad : Addr} (h : ev fr x = .pointer (some ad)) : lopx P T (.nilCheck x) fr H = some (.pointer (some ad), H) := by
  show (match ev fr x with | .pointer (some a) => _ | .func (.func g) f c => _ | _ => none) = _
  rw [h]
/-! ### strings -/
/-- a part of a string -/
def sub (x : List UInt8) (i j : Int) : List UInt8 := (x.take j.toNat).drop i.toNat
def lbv (v : Value) : Option Int := match v with | .int _ i => some i | _ => none
def lssl (x : Value) (i j : Option Int) : Option Value := match x, i, j with
  | .string s, some i, some j => if 0 ≤ i ∧ i ≤ j ∧ j ≤ s.size then some (str (sub s.data.toList i j)) else none
  | _, _, _ => none
end
end Go.Lg
/-
  A logical run of Go code: parts of strings and rows, elements, append, conversions, structs.
-/
set_option linter.unusedSimpArgs false
set_option linter.unusedVariables false
namespace Go.Lg
open Go.Tg Go.RowKit

section
variable {P : Program} {E : Ext} {fn : Func} {k : List Item} {fr : Fr} {H H' : LH} {Q : Value × LH → Prop} {all : Array Oper} {os : List Oper} {d : Nat} {op : Op} {T : Callee} {b c : LB} {l m : Nat} {t e : TypeId} {kd kd' : IntKind} {x y : List UInt8} {i j : Int}
attribute [simp] lidx_str lbuiltin_len_str lbuiltin_len_slice
/-! ### parts -/
def evo (fr : Fr) (o : Option Operand) : Option Value := o.map (ev fr)
@[simp ↓] theorem evo_none : evo fr none = none := rfl
@[simp ↓] theorem evo_some {x : Operand} : evo fr (some x) = some (ev fr x) := rfl
def lbd (d : Nat) : Option Value → Option Nat
  | none => some d
  | some (.int _ i) => if 0 ≤ i then some i.toNat else none
  | _ => none
theorem lbound_eq {d : Nat} {o : Option Operand} : lbound fr d o = lbd d (evo fr o) := by
  cases o with
  | none => rfl
  | some x => simp only [lbound, evo, Option.map_some]; cases ev fr x <;> rfl
def lpart (P : Program) (t : TypeId) (x : Value) (lo hi : Option Value) : Option Value :=
  match P.underlying t, x with
  | some .string, .string s =>
    match lbd 0 lo, lbd s.size hi with
    | some a, some b => if a ≤ b ∧ b ≤ s.size then some (.string (s.extract a b)) else none
    | _, _ => none
  | some (.slice e), .slice a n c =>
    match lbd 0 lo, lbd n hi, sz P e with
    | some i, some j, some s => if i ≤ j ∧ j ≤ n then
        match a with
        | some ⟨l, o, none⟩ => some (.slice (some ⟨l, o + i * s, none⟩) (j - i) (c - i))
        | none => some (.slice none 0 0)
        | _ => none
      else none
    | _, _, _ => none
  | _, _ => none
@[simp ↓] theorem lopx_slice {x : Operand} {lo hi : Option Operand} : lopx P T (.slice t x lo hi none) fr H = withH (lpart P t (ev fr x) (evo fr lo) (evo fr hi)) H := by
  show (lslice P t (ev fr x) fr lo hi).map _ = _
  unfold lslice lpart withH
  simp only [lbound_eq]
  rfl
theorem ext_str {a b : Nat} : (⟨x.toArray⟩ : ByteArray).extract a b = ⟨((x.take b).drop a).toArray⟩ := by
  apply ByteArray.ext
  rw [ByteArray.data_extract, List.drop_take]
  simp
theorem lpart_str0 {u : Option TypeDesc} (hu : P.underlying t = some .string) {a b : Option Value} {p q : Nat} (ha : lbd 0 a = some p) (hb : lbd x.length b = some q) (h : p ≤ q ∧ q ≤ x.length) : lpart P t (str x) a b = some (str ((x.take q).drop p)) := by
  unfold lpart str
  simp only [hu, ha, ba_size, hb, if_pos h, ext_str]
theorem lbd_int {d : Nat} (h : 0 ≤ i) : lbd d (some (.int kd i)) = some i.toNat := by simp only [lbd, if_pos h]
@[simp] theorem lpart_str_nn (hu : P.underlying t = some .string) : lpart P t (str x) none none = some (str x) := by
  rw [lpart_str0 (u := none) hu rfl rfl ⟨Nat.zero_le _, Nat.le_refl _⟩]; simp
@[simp] theorem lpart_str_ns (hu : P.underlying t = some .string) (h0 : 0 ≤ j) (h1 : j ≤ x.length) : lpart P t (str x) none (some (.int kd j)) = some (str (x.take j.toNat)) := by
  rw [lpart_str0 (u := none) hu rfl (lbd_int h0) ⟨Nat.zero_le _, by omega⟩]; simp
@[simp] theorem lpart_str_sn (hu : P.underlying t = some .string) (h0 : 0 ≤ i) (h1 : i ≤ x.length) : lpart P t (str x) (some (.int kd i)) none = some (str (x.drop i.toNat)) := by
  rw [lpart_str0 (u := none) hu (lbd_int h0) rfl ⟨by omega, Nat.le_refl _⟩]; simp
@[simp] theorem lpart_str_ss (hu : P.underlying t = some .string) (h0 : 0 ≤ i) (h1 : i ≤ j) (h2 : j ≤ x.length) : lpart P t (str x) (some (.int kd i)) (some (.int kd' j)) = some (str (sub x i j)) :=
  lpart_str0 (u := none) hu (lbd_int h0) (lbd_int (by omega)) ⟨by omega, by omega⟩
theorem lpart_row0 {s o n c : Nat} (hu : P.underlying t = some (.slice e)) (hs : sz P e = some s) {a b : Option Value} {p q : Nat} (ha : lbd 0 a = some p) (hb : lbd n b = some q) (h : p ≤ q ∧ q ≤ n) : lpart P t (.slice (some ⟨l, o, none⟩) n c) a b = some (.slice (some ⟨l, o + p * s, none⟩) (q - p) (c - p)) := by
  unfold lpart
  simp only [hu, ha, hs, hb, if_pos h]
@[simp] theorem lpart_row_nn {s o n c : Nat} (hu : P.underlying t = some (.slice e)) (hs : sz P e = some s) : lpart P t (.slice (some ⟨l, o, none⟩) n c) none none = some (.slice (some ⟨l, o, none⟩) n c) := by
  rw [lpart_row0 hu hs rfl rfl ⟨Nat.zero_le _, Nat.le_refl _⟩]; simp
@[simp] theorem lpart_row_ns {s o n c : Nat} (hu : P.underlying t = some (.slice e)) (hs : sz P e = some s) (h0 : 0 ≤ j) (h1 : j ≤ n) : lpart P t (.slice (some ⟨l, o, none⟩) n c) none (some (.int kd j)) = some (.slice (some ⟨l, o, none⟩) j.toNat c) := by
  rw [lpart_row0 hu hs rfl (lbd_int h0) ⟨Nat.zero_le _, by omega⟩]; simp
@[simp] theorem lpart_row_sn {s o n c : Nat} (hu : P.underlying t = some (.slice e)) (hs : sz P e = some s) (h0 : 0 ≤ i) (h1 : i ≤ n) : lpart P t (.slice (some ⟨l, o, none⟩) n c) (some (.int kd i)) none = some (.slice (some ⟨l, o + i.toNat * s, none⟩) (n - i.toNat) (c - i.toNat)) := by
  rw [lpart_row0 hu hs (lbd_int h0) rfl ⟨by omega, Nat.le_refl _⟩]
@[simp] theorem lpart_row_ss {s o n c : Nat} (hu : P.underlying t = some (.slice e)) (hs : sz P e = some s) (h0 : 0 ≤ i) (h1 : i ≤ j) (h2 : j ≤ n) : lpart P t (.slice (some ⟨l, o, none⟩) n c) (some (.int kd i)) (some (.int kd' j)) = some (.slice (some ⟨l, o + i.toNat * s, none⟩) (j.toNat - i.toNat) (c - i.toNat)) :=
  lpart_row0 hu hs (lbd_int h0) (lbd_int (by omega)) ⟨by omega, by omega⟩
@[simp] theorem lpart_nil {s : Nat} (hu : P.underlying t = some (.slice e)) (hs : sz P e = some s) : lpart P t (.slice none 0 0) none none = some (.slice none 0 0) := by
  unfold lpart; simp [hu, lbd, hs]
/-! ### elements -/
def lixa (P : Program) (t : TypeId) (x i : Value) (H : LH) : Option (Value × LH) := match x, i, P.underlying t with
  | .slice (some ⟨l, off, none⟩) n _, .int _ k, some (.slice e) => match sz P e with
    | some s => if 0 ≤ k ∧ k < n then some (.pointer (some ⟨l, off + k.toNat * s, none⟩), H) else none
    | none => none
  | _, _, _ => none
@[simp ↓] theorem lopx_indexAddr {x i : Operand} : lopx P T (.indexAddr t x i) fr H = lixa P t (ev fr x) (ev fr i) H := rfl
@[simp] theorem lixa_row {s off n c : Nat} (hu : P.underlying t = some (.slice e)) (hs : sz P e = some s) (h0 : 0 ≤ i) (h1 : i < n) : lixa P t (.slice (some ⟨l, off, none⟩) n c) (.int kd i) H = some (ptr l (off + i.toNat * s), H) := by
  simp only [lixa, hu, hs, if_pos (And.intro h0 h1)]
/-! ### append -/
def lesrc (P : Program) (t : TypeId) (y : Value) (H : LH) : Option (Nat × List Value) :=
  match P.underlying t with
  | some (.slice e) => match lesz P e with
    | some s => lsrc s y H
    | none => none
  | _ => none
@[simp] theorem lesrc_nil {s : Nat} (hu : P.underlying t = some (.slice e)) (hs : lesz P e = some s) : lesrc P t (.slice none 0 0) H = some (0, []) := by
  simp only [lesrc, hu, hs, lsrc]
@[simp] theorem lesrc_row {s o n c : Nat} (hu : P.underlying t = some (.slice e)) (hs : lesz P e = some s) (hb : H.get l = some b) (hle : o + n * s ≤ b.cells.length) : lesrc P t (.slice (some ⟨l, o, none⟩) n c) H = some (n, (b.cells.drop o).take (n * s)) := by
  simp only [lesrc, hu, hs, lsrc, hb, lcells, if_pos hle, Option.map_some]
def lapp (P : Program) (t : TypeId) (x : Value) (src : Option (Nat × List Value)) (H : LH) : Option (Value × LH) :=
  match P.underlying t, src with
  | some (.slice e), some (m, new) =>
    match lesz P e with
    | some s =>
        if new.all cellB then
          match x with
          | .slice none 0 0 => if m = 0 then some (x, H) else if m ≤ maxElems then some (.slice (some ⟨H.n, 0, none⟩) m m, H.new ⟨new, e, true⟩) else none
          | .slice (some ⟨l, o, none⟩) n c =>
            match H.get l with
            | some b =>
              if b.rw = true ∧ b.elem = e ∧ o = 0 ∧ b.cells.length = c * s ∧ n ≤ c then
                if m = 0 then some (x, H)
                else if n + m ≤ c then some (.slice (some ⟨l, 0, none⟩) (n + m) c, H.set l { b with cells := splice b.cells (n * s) new })
                else if n = c ∧ n + m ≤ maxElems then some (.slice (some ⟨H.n, 0, none⟩) (n + m) (n + m), (H.kill l).new ⟨b.cells ++ new, e, true⟩)
                else none
              else lappM P e s l o n c b m new H
            | none => none
          | _ => none
        else none
    | none => none
  | _, _ => none
theorem lappend_eq {x y : Value} : lappend P t t x y H = lapp P t x (lesrc P t y H) H := by
  unfold lappend lapp lesrc
  cases P.underlying t with
  | none => rfl
  | some u =>
    cases u <;> try rfl
    rename_i e
    dsimp only
    cases hz : lesz P e with
    | none => rfl
    | some s =>
      dsimp only
      rw [if_pos rfl]
      cases lsrc s y H with
      | none => rfl
      | some q =>
        obtain ⟨m, new⟩ := q
        simp only [hz]
        rfl
@[simp] theorem lbuiltin_append {x y : Value} : lbuiltin P .append [t, t] [x, y] H = lapp P t x (lesrc P t y H) H := by
  rw [← lappend_eq]; simp only [lbuiltin]
theorem lbuiltin_appends {u : TypeId} {x : Value} {z : List UInt8} (hne : t ≠ u) (ht : P.underlying t = some (.slice e)) (hu : P.underlying u = some .string) (hs : lesz P e = some 1) (hz : zr P e = some (.int .u8 0)) (hb : byts P e = some 1) :
    lbuiltin P .append [t, u] [x, str z] H = lapp P t x (some (z.length, z.map fun b => Value.int .u8 b.toNat)) H := by
  have e1 : lsrcS P u e 1 (str z) = some (z.length, z.map fun b => Value.int .u8 b.toNat) := by
    unfold lsrcS str
    simp only [hu, hz, hb, and_self, if_true]
    rw [ba_size]
    rfl
  show lappend P t u x (str z) H = _
  unfold lappend lapp
  simp only [ht, hs, if_neg hne, e1]
  rfl
variable {new : List Value} {s n cp : Nat}
@[simp] theorem lapp_nil (hu : P.underlying t = some (.slice e)) (hs : lesz P e = some s) (hc : new.all cellB = true) (hm : m ≠ 0) (hM : m ≤ maxElems) : lapp P t (.slice none 0 0) (some (m, new)) H = some (sl H.n m m, H.new ⟨new, e, true⟩) := by
  simp only [lapp, hu, hs, hc, hm, hM, if_true, if_false]
@[simp] theorem lapp_nil0 (hu : P.underlying t = some (.slice e)) (hs : lesz P e = some s) : lapp P t (.slice none 0 0) (some (0, [])) H = some (.slice none 0 0, H) := by
  simp [lapp, hu, hs]
theorem lapp_grow (hu : P.underlying t = some (.slice e)) (hs : lesz P e = some s) (hc : new.all cellB = true) (hm : m ≠ 0) (hM : n + m ≤ maxElems) (hb : H.get l = some b) (hrw : b.rw = true) (he : b.elem = e) (hl : b.cells.length = n * s) : lapp P t (sl l n n) (some (m, new)) H = some (sl H.n (n + m) (n + m), (H.kill l).new ⟨b.cells ++ new, e, true⟩) := by
  have h1 : ¬ n + m ≤ n := by omega
  simp only [lapp, hu, hs, hc, hb, if_true]
  rw [if_pos ⟨hrw, he, trivial, hl, Nat.le_refl _⟩, if_neg hm, if_neg h1, if_pos ⟨trivial, hM⟩]
theorem lapp_in (hu : P.underlying t = some (.slice e)) (hs : lesz P e = some s) (hc : new.all cellB = true) (hm : m ≠ 0) (hb : H.get l = some b) (hrw : b.rw = true) (he : b.elem = e) (hl : b.cells.length = cp * s) (hn : n + m ≤ cp) : lapp P t (sl l n cp) (some (m, new)) H = some (sl l (n + m) cp, H.set l { b with cells := splice b.cells (n * s) new }) := by
  simp only [lapp, hu, hs, hc, hb, if_true]
  rw [if_pos ⟨hrw, he, trivial, hl, by omega⟩, if_neg hm, if_pos hn]
theorem lapp_mk (hu : P.underlying t = some (.slice e)) (hs : lesz P e = some 1) (hc : new.all cellB = true) (hm : 0 < m) (hn : 0 < n) (hM : n + m ≤ maxElems) (hb : H.get l = some b) (hrw : b.rw = true) (he : b.elem = MK P e) (hne : MK P e ≠ e) (hl : b.cells.length = n) : lapp P t (sl l n n) (some (m, new)) H = some (sl H.n (n + m) (n + m), (H.kill l).new ⟨b.cells ++ new, MK P e, true⟩) := by
  simp only [lapp, hu, hs, hc, hb, if_true]
  rw [if_neg (fun h => hne (by rw [← he]; exact h.2.1))]
  unfold lappM
  rw [if_pos ⟨hrw, he, rfl, rfl, hl, rfl, hn, hm, hM⟩]
/-! ### new rows -/
def denseB : List (Nat × Value) → Nat → Bool
  | [], _ => true
  | (i, v) :: ps, k => i == k && cellB v && denseB ps (k + 1)
@[simp] theorem denseB_nil {k : Nat} : denseB [] k = true := rfl
@[simp] theorem denseB_cons {k i : Nat} {v : Value} {ps : List (Nat × Value)} : denseB ((i, v) :: ps) k = (i == k && cellB v && denseB ps (k + 1)) := rfl
theorem fill_dense {pl : Nat → Option (Nat × Nat)} : ∀ (ps : List (Nat × Value)) (pre post : List Value), (∀ j, j < pre.length + ps.length → pl j = some (j, 1)) → denseB ps pre.length = true → post.length = ps.length → Instr.fill pl (pre ++ post).toArray ps = some (pre ++ ps.map Prod.snd).toArray
  | [], pre, post, _, _, h => by
    have : post = [] := List.length_eq_zero_iff.1 h
    subst this; simp [Instr.fill]
  | (i, v) :: ps, pre, post, hp, hd, h => by
    cases post with
    | nil => simp at h
    | cons z post =>
    simp only [denseB, Bool.and_eq_true, beq_iff_eq] at hd
    obtain ⟨⟨rfl, hv⟩, hd⟩ := hd
    have e1 := cells_one hv
    unfold Instr.fill
    rw [hp _ (by simp)]
    simp only [e1]
    rw [if_neg (by simp)]
    have e2 : ((#[v] : Array Value).zipIdx.foldl (fun cs (c, j) => cs.setIfInBounds (pre.length + j) c) (pre ++ z :: post).toArray) = ((pre ++ [v]) ++ post).toArray := by
      simp
    rw [e2, fill_dense ps (pre ++ [v]) post (fun j hj => hp j (by simp at hj ⊢; omega)) (by simpa using hd) (by simpa using h)]
    simp
theorem dense_known : ∀ (ps : List (Nat × Value)) (k : Nat), denseB ps k = true → (ps.all fun p => knownB p.2) = true
  | [], _, _ => rfl
  | (i, v) :: ps, k, h => by
    simp only [denseB, Bool.and_eq_true, beq_iff_eq] at h
    have : knownB v = true := by cases v <;> first | rfl | (have := h.1.2; simp [cellB] at this)
    simp only [List.all_cons, this, dense_known ps _ h.2, Bool.and_self]
@[simp ↓] theorem lopx_buildSlice {ps : List (Nat × Operand)} : lopx P T (.buildSlice t n ⟨ps⟩) fr H = lbuildSlice P t n (ps.map fun p => (p.1, ev fr p.2)) H := rfl
theorem lbs_dense {z : Value} {ps : List (Nat × Value)} (hu : P.underlying t = some (.slice e)) (hs : sz P e = some 1) (hz : zr P e = some z) (hf : flatB z = true) (hz1 : cellB z = true) (hn : n = ps.length) (hle : n ≤ 65536) (hd : denseB ps 0 = true) : lbuildSlice P t n ps H = some (sl H.n n n, H.new ⟨ps.map Prod.snd, e, true⟩) := by
  subst hn
  have hk : ∀ p ∈ ps, knownB p.2 = true := by simpa using dense_known ps 0 hd
  unfold lbuildSlice
  simp only [hu, hs, hz]
  rw [if_pos (by
    simp only [Bool.and_eq_true, decide_eq_true_eq, beq_iff_eq, List.all_eq_true]
    exact ⟨⟨⟨⟨hf, by omega⟩, by omega⟩, by rw [cells_one hz1]; rfl⟩, hk⟩)]
  have e0 : ((Array.range (ps.length * 1)).map fun j => z.cells[j % z.cells.size]!) = (([] : List Value) ++ List.replicate ps.length z).toArray := by
    rw [cells_one hz1]
    apply Array.ext
    · simp
    · intro i h1 h2
      simp [Nat.mod_one]
  rw [e0, fill_dense ps [] (List.replicate ps.length z) (fun j _ => by simp) hd (by simp)]
  simp
attribute [simp] lbs_dense
/-! ### conversions -/
@[simp] theorem lconv_ii {a c : TypeId} {k1 k2 : IntKind} {n : Int} (h1 : P.underlying a = some (.int k1)) (h2 : P.underlying c = some (.int k2)) : lconv P a c (.int k1 n) H = some (.int k2 (k2.wrap n)) := by
  have e : pureVal P (convert a c (.int k1 n)) = some (.int k2 (k2.wrap n)) := by
    simp only [convert, pureVal_bind, pureVal_und, h1, h2, Option.bind_some]
    rfl
  unfold lconv
  simp only [flat_int, if_true, pureFlat, e]
def lbs : List Value → Option (List UInt8)
  | [] => some []
  | v :: l => (lbyte v).bind fun b => (lbs l).map (b :: ·)
theorem lbs_eq : ∀ l : List Value, l.mapM lbyte = lbs l
  | [] => rfl
  | v :: l => by
    rw [List.mapM_cons, lbs_eq l, lbs]
    cases lbyte v <;> cases lbs l <;> rfl
def bv (x : UInt8) : Value := .int .u8 x.toNat
@[simp] theorem lbyte_bv {x : UInt8} : lbyte (.int .u8 x.toNat) = some x := by simp [lbyte]
@[simp] theorem lbs_nil : lbs [] = some [] := rfl
@[simp] theorem lbs_cons {v : Value} {l : List Value} : lbs (v :: l) = (lbyte v).bind fun b => (lbs l).map (b :: ·) := rfl
@[simp] theorem lbs_map : ∀ l : List UInt8, lbs (l.map bv) = some l
  | [] => rfl
  | a :: l => by simp only [List.map_cons, lbs, bv, lbyte_bv, Option.bind_some, lbs_map l, Option.map_some]
theorem lconv_bs {a c e : TypeId} {o n cp : Nat} {z : List UInt8} (h1 : P.underlying a = some (.slice e)) (h2 : P.underlying c = some .string) (h3 : P.underlying e = some (.int .u8)) (hb : H.get l = some b) (hle : o + n ≤ b.cells.length) (hz : lbs ((b.cells.drop o).take n) = some z) : lconv P a c (.slice (some ⟨l, o, none⟩) n cp) H = some (str z) := by
  have e1 : flatB (.slice (some ⟨l, o, none⟩) n cp) = false := by simp [flatB, flat1B, atomB]
  unfold lconv lbstr
  simp only [e1, h1, h2, h3, hb, lcells, if_pos hle, lbs_eq, hz, Option.map_some]
  rfl
/-! ### structs -/
/-- where the fields of a struct lie -/
def plc (P : Program) (t : TypeId) : Option (List (Nat × Nat)) := match P.underlying t with
  | some (.struct fs) => fs.toList.mapM (fun f => (P.info? f.type).map fun i => (f.offset, i.size))
  | _ => none
def plcB (P : Program) (t : TypeId) : Bool := (plc P t).isSome
def lfill (P : Program) (t : TypeId) (cs : List Value) (ps : List (Nat × Value)) : Option (List Value) := match plc P t with
  | some pl => (Instr.fill (pl.toArray[·]?) cs.toArray ps).map Array.toList
  | none => none
theorem mapM_get {α β : Type} {f : α → Option β} : ∀ {l : List α} {r : List β}, l.mapM f = some r → ∀ (i : Nat) x, l[i]? = some x → r[i]? = f x
  | [], r, h, i, x, hx => by simp at hx
  | a :: l, r, h, i, x, hx => by
    simp only [List.mapM_cons, Option.bind_eq_bind, Option.pure_def] at h
    cases ha : f a with
    | none => simp [ha] at h
    | some y =>
      simp only [ha, Option.bind_some] at h
      cases hl : l.mapM f with
      | none => simp [hl] at h
      | some ys =>
        simp only [hl, Option.bind_some, Option.some.injEq] at h
        subst h
        cases i with
        | zero => simp at hx; subst hx; simp [ha]
        | succ i => simpa using mapM_get hl i x (by simpa using hx)
theorem plc_get {pl : List (Nat × Nat)} (hp : plc P t = some pl) {i o n : Nat} {g : Bool} (hf : fldi P t i = some (o, n, g)) : pl[i]? = some (o, n) := by
  unfold fldi at hf
  unfold plc at hp
  split at hf
  · rename_i fs hu
    rw [hu] at hp
    split at hf
    · rename_i fd hfd
      split at hf
      · rename_i n' g' hs ha
        simp only [Option.some.injEq, Prod.mk.injEq] at hf
        obtain ⟨rfl, rfl, rfl⟩ := hf
        rw [mapM_get hp i fd (by simpa using hfd)]
        unfold sz at hs
        cases hi : P.info? fd.type with
        | none => simp [hi] at hs
        | some it => simp [hi] at hs; simp [hs]
      · cases hf
    · cases hf
  · cases hf
@[simp] theorem lfill_nil {cs : List Value} (h : plcB P t = true) : lfill P t cs [] = some cs := by
  unfold plcB at h
  unfold lfill
  cases hp : plc P t with
  | none => simp [hp] at h
  | some pl => rfl
theorem fold_splice : ∀ (vs : List Value) (pre cs : List Value) (off : Nat), off + pre.length + vs.length ≤ cs.length → (vs.toArray.zipIdx pre.length).foldl (fun cs (c, j) => cs.setIfInBounds (off + j) c) cs.toArray = (splice cs (off + pre.length) vs).toArray
  | [], pre, cs, off, h => by
    rw [show (([] : List Value).toArray.zipIdx pre.length) = #[] from by apply Array.ext <;> simp]
    simp [splice]
  | v :: vs, pre, cs, off, h => by
    have hh : off + pre.length < cs.length := by simp at h; omega
    have ih := fold_splice vs (pre ++ [v]) (cs.set (off + pre.length) v) off (by simp at h ⊢; omega)
    have e : (v :: vs).toArray.zipIdx pre.length = ((v, pre.length) :: (vs.zipIdx (pre.length + 1))).toArray := by simp
    rw [e]
    have e2 : (vs.toArray.zipIdx (pre ++ [v]).length) = (vs.zipIdx (pre.length + 1)).toArray := by simp
    rw [e2] at ih
    simp only [List.foldl_toArray', List.size_toArray, List.foldl_cons, List.setIfInBounds_toArray] at ih ⊢
    rw [ih]
    congr 1
    unfold splice
    simp only [List.length_append, List.length_cons, List.length_nil, Nat.zero_add, ← Nat.add_assoc]
    rw [List.take_set, List.drop_set, if_pos (by omega)]
    have e3 : (cs.take (off + pre.length + 1)).set (off + pre.length) v = cs.take (off + pre.length) ++ [v] := by
      rw [List.take_succ_eq_append_getElem hh, List.set_append, if_neg (by simp; omega)]
      simp [Nat.min_eq_left (Nat.le_of_lt hh)]
    rw [e3]
    simp [Nat.add_assoc, Nat.add_comm, Nat.add_left_comm]
theorem lfill_step {cs : List Value} {i o n : Nat} {g : Bool} {v : Value} {ps : List (Nat × Value)} (hf : fldi P t i = some (o, n, g)) (hn : v.cells.toList.length = n) (ho : o + n ≤ cs.length) : lfill P t cs ((i, v) :: ps) = lfill P t (splice cs o v.cells.toList) ps := by
  unfold lfill
  cases hp : plc P t with
  | none => rfl
  | some pl =>
    have h1 : pl.toArray[i]? = some (o, n) := by simpa using plc_get hp hf
    simp only [Instr.fill, h1]
    rw [if_neg (by simp at hn ⊢; omega)]
    have := fold_splice v.cells.toList [] cs o (by simp at hn ⊢; omega)
    simp only [List.length_nil, Nat.add_zero, Array.toArray_toList] at this
    rw [this]
@[simp] theorem lfill_cell {cs : List Value} {i o n : Nat} {g : Bool} {v : Value} {ps : List (Nat × Value)} (hf : fldi P t i = some (o, n, g)) (hn : n = 1) (hv : cellB v = true) (ho : o < cs.length) : lfill P t cs ((i, v) :: ps) = lfill P t (cs.set o v) ps := by
  subst hn
  rw [lfill_step hf (by rw [cells_one hv]; rfl) (by omega)]
  congr 1
  rw [cells_one hv]
  unfold splice
  rw [List.set_eq_take_append_cons_drop, if_pos ho]; simp
@[simp] theorem lfill_agg {cs vs : List Value} {i o n : Nat} {g : Bool} {ps : List (Nat × Value)} (hf : fldi P t i = some (o, n, g)) (hn : vs.length = n) (ho : o + n ≤ cs.length) : lfill P t cs ((i, .agg ⟨vs⟩) :: ps) = lfill P t (splice cs o vs) ps :=
  lfill_step hf hn ho
def lbE (P : Program) (t : TypeId) (z : Option Value) (ps : List (Nat × Value)) : Option Value :=
  match z with
  | some z => if ps.all (fun p => knownB p.2) && flatB z then (lfill P t z.cells.toList ps).map fun cs => .agg ⟨cs⟩ else none
  | none => none
theorem lbuild_eq {ps : List (Nat × Value)} : lbuild P t ps = lbE P t (zr P t) ps := by
  unfold lbuild lbE zr lfill plc
  cases hi : P.info? t with
  | none => simp
  | some it =>
    simp only [Option.bind_some]
    have hz : it.zero = none ∨ ∃ z, it.zero = some z := by cases it.zero <;> simp
    rcases hz with hz | ⟨z, hz⟩
    · simp [hz]
    · simp only [hz, Option.any_some]
      split
      · cases hu : P.underlying t with
        | none => rfl
        | some u =>
          cases u <;> try rfl
          rename_i fs
          simp only [Program.built, hi, hu, hz]
          cases fs.toList.mapM (fun f => (P.info? f.type).map fun i => (f.offset, i.size)) with
          | none => rfl
          | some pl =>
            simp only [Array.toArray_toList]
            cases Instr.fill (pl.toArray[·]?) z.cells ps with
            | none => rfl
            | some cs => rfl
      · rfl
@[simp ↓] theorem lopx_build {ps : List (Nat × Operand)} : lopx P T (.build t ⟨ps⟩) fr H = withH (lbE P t (zr P t) (ps.map fun p => (p.1, ev fr p.2))) H := by
  rw [← lbuild_eq]; rfl
def knownL : List (Nat × Value) → Bool
  | [] => true
  | (_, v) :: ps => knownB v && knownL ps
@[simp] theorem knownL_nil : knownL [] = true := rfl
@[simp] theorem knownL_cons {i : Nat} {v : Value} {ps : List (Nat × Value)} : knownL ((i, v) :: ps) = (knownB v && knownL ps) := rfl
theorem known_of_cell {v : Value} (h : cellB v = true) : knownB v = true := by cases v <;> first | rfl | (simp [cellB] at h)
attribute [simp] known_of_cell
@[simp] theorem known_agg {a : Array Value} : knownB (.agg a) = true := rfl
theorem knownL_eq : ∀ (ps : List (Nat × Value)), ps.all (fun p => knownB p.2) = knownL ps
  | [] => rfl
  | (i, v) :: ps => by simp only [List.all_cons, knownL, knownL_eq ps]
theorem lbE_agg {z : List Value} {ps : List (Nat × Value)} (hk : knownL ps = true) (hz : z.all atomB = true) : lbE P t (some (.agg ⟨z⟩)) ps = (lfill P t z ps).map fun cs => .agg ⟨cs⟩ := by
  have : flatB (.agg ⟨z⟩) = true := hz
  simp only [lbE, knownL_eq, hk, this, Bool.and_self, if_true, Value.cells]
attribute [simp] lbE_agg
/-! ### fields of struct values -/
def lfld (i : Option (Nat × Nat × Bool)) (x : Value) : Option Value := match i, x with
  | some (o, n, true), .agg cs => some (.agg (cs.extract o (o + n)))
  | some (o, _, false), .agg cs => cs[o]?
  | _, _ => none
theorem lopx_field {x : Operand} {f : Nat} {i : Nat × Nat × Bool} (h : fldi P t f = some i) : lopx P T (.field t x f) fr H = withH (lfld (some i) (ev fr x)) H := by
  unfold fldi at h
  show (match P.underlying t, ev fr x with | some (.struct fs), .agg cs => _ | _, _ => none) = _
  split at h
  · rename_i fs hu
    split at h
    · rename_i fd hf
      split at h
      · rename_i n g hs ha
        injection h with h
        subst h
        rw [hu]
        unfold lfld
        cases ev fr x <;> cases g <;> simp only [hf, hs, ha, withH, Option.map_some, Option.map_none]
      · cases h
    · cases h
  · cases h
attribute [simp] lopx_field
@[simp] theorem lfld_cell {o n : Nat} {cs : List Value} : lfld (some (o, n, false)) (.agg ⟨cs⟩) = cs[o]? := by simp [lfld]
@[simp] theorem lfld_agg {o n : Nat} {cs : List Value} : lfld (some (o, n, true)) (.agg ⟨cs⟩) = some (.agg ⟨(cs.drop o).take n⟩) := by simp [lfld]
/-! ### nil -/
@[simp] theorem lbin_pe {a : Option Addr} (hu : P.underlying t = some (.pointer e)) : lbin P .eql t (.pointer a) (.pointer none) = some (.bool a.isNone) := by
  cases a <;> simp [lbin, hu]
@[simp] theorem lbin_pn {a : Option Addr} (hu : P.underlying t = some (.pointer e)) : lbin P .neq t (.pointer a) (.pointer none) = some (.bool (!a.isNone)) := by
  cases a <;> simp [lbin, hu]
@[simp] theorem lbin_se {a : Option Addr} {n c : Nat} (hu : P.underlying t = some (.slice e)) : lbin P .eql t (.slice a n c) (.slice none 0 0) = some (.bool a.isNone) := by
  cases a <;> simp [lbin, hu]
@[simp] theorem lbin_sn {a : Option Addr} {n c : Nat} (hu : P.underlying t = some (.slice e)) : lbin P .neq t (.slice a n c) (.slice none 0 0) = some (.bool (!a.isNone)) := by
  cases a <;> simp [lbin, hu]
/-! ### greatest and least -/
@[simp] theorem lbuiltin_max {ts : List TypeId} {k k' : IntKind} {a b : Int} : lbuiltin P .max ts [.int k a, .int k' b] H = some (.int k (if a < b then b else a), H) := rfl
@[simp] theorem lbuiltin_min {ts : List TypeId} {k k' : IntKind} {a b : Int} : lbuiltin P .min ts [.int k a, .int k' b] H = some (.int k (if b < a then b else a), H) := rfl
/-! ### what a call leaves -/
theorem trunc_set {v : Value} (h : H.get l = some b) (hl : l < H.n) : trunc H (v, H.set l c) = (v, H.set l c) := by
  unfold trunc
  split
  · rename_i hc
    have := hc.2.2 l hl
    simp only [get_set, h, Option.some.injEq] at this
    have e : H.set l c = H := by
      cases H with
      | mk n g ho w0 ng =>
        simp only [LH.set, LH.mk.injEq, true_and, and_true]
        funext k
        split
        · rename_i e; subst e; rw [this]; exact h.symm
        · rfl
    rw [e]
  · rfl
theorem trunc_or (v : Value) (H H' : LH) : trunc H (v, H') = (v, H') ∨ trunc H (v, H') = (v, H) ∧ flatB v = true ∧ H.le H' := by
  unfold trunc
  split
  · exact .inr ⟨rfl, by assumption⟩
  · exact .inl rfl
end
end Go.Lg
/-
  A logical run of Go code: library functions by their contracts; a law's end.
-/
set_option linter.unusedSimpArgs false
set_option linter.unusedVariables false
namespace Go.Lg
open Go.Tg Go.RowKit

section
variable {P : Program} {E : Ext} {H H' : LH} {ι : Ren} {w w' : World} {v v' : Value}
def ren0 : Ren := fun _ => ⟨0, 0, 0⟩
theorem rel_empty {w : World} {ng : Nat} (h : ng ≤ w.heap.size) : Rel P (LH.empty w ng) ren0 w :=
  ⟨fun _ _ => rfl, fun _ h => h.elim, (fun _ _ h => by cases h), (fun _ _ _ _ h => by cases h), fun g hg => ⟨rfl, Nat.lt_of_lt_of_le hg h, fun ⟨_, _, h, _⟩ => by cases h⟩⟩
theorem flats_rel {D : Nat → Prop} {ι : Ren} {args : List Value} (h : ∀ x ∈ args, flatB x = true) : args.length = args.toArray.size ∧ ∀ (i : Nat) (x y : Value), args[i]? = some x → args.toArray[i]? = some y → VR D ι x y := by
  refine ⟨by simp, fun i x y hx hy => ?_⟩
  rw [List.getElem?_toArray, hx] at hy
  injection hy with hy
  subst hy
  exact .flat _ (h x (List.mem_of_getElem? hx))
/-- a law of flat arguments -/
theorem law_flat {f : FuncId} {args : List Value} {ng : Nat} (hT : TOk P (LC P E)) (hf : ∀ x ∈ args, flatB x = true) (hng : ng ≤ w.heap.size) (h : LC P E f args (LH.empty w ng) = some (.bool true, H')) (he : Entered P f := by exact ⟨_, rfl, rfl, by decide⟩) :
    Calls P f args.toArray w fun e w' => e = .returned (.bool true) ∧ Change (fun _ => False) w w' := by
  have hc := (hT _ _ _ _ _ h).call he
  obtain ⟨h1, h2⟩ := flats_rel (D := (LH.empty w ng).D) (ι := ren0) hf
  refine (hc ren0 w args.toArray (rel_empty hng) h1 h2).mono ?_
  rintro e w' ⟨ι', v', rfl, ho, hv⟩
  rw [flat_eq hv rfl]
  exact ⟨rfl, ho.chg.mono (fun _ _ ⟨_, _, h, _⟩ => by cases h)⟩
/-- specifications of library functions -/
abbrev Spec := List Value → LH → Option (Value × LH)
def SpecOk (P : Program) (f : FuncId) (s : Spec) : Prop := ∀ args H v H', s args H = some (v, H') → Ran P f args H v H'
/-- the regions that go by the text's order: by the function's size and the region's number -/
def chT (n id k : Nat) : Option (List (Nat × Nat)) :=
  if n = 15 then (if id = 2 ∧ k = 6 then some [(2, 4)] else if id = 3 ∧ k = 10 then some [(7, 8)] else none) else
  if n = 22 then (if id = 6 ∧ k = 4 then some [(1, 2)] else none) else
  if n = 26 then (if id = 1 ∧ k = 9 then some [(2, 1)] else none) else
  if n = 27 then (if id = 5 ∧ k = 16 then some [] else none) else
  if n = 28 then (if id = 5 ∧ k = 10 then some [(5, 3)] else if id = 6 ∧ k = 8 then some [] else none) else
  if n = 29 then (if id = 4 ∧ k = 10 then some [(0, 2), (0, 3), (0, 7)] else none) else
  if n = 32 then (if id = 3 ∧ k = 16 then some [] else if id = 5 ∧ k = 12 then some [] else none) else
  if n = 34 then (if id = 3 ∧ k = 16 then some [] else none) else
  if n = 35 then (if id = 10 ∧ k = 4 then some [(0, 1)] else none) else
  if n = 36 then (if id = 5 ∧ k = 17 then some [(11, 6)] else none) else
  if n = 38 then (if id = 3 ∧ k = 24 then some [] else none) else
  if n = 39 then (if id = 4 ∧ k = 16 then some [(3, 9), (5, 9), (5, 11), (7, 9), (7, 11), (7, 13)] else if id = 6 ∧ k = 11 then some [(0, 5)] else if id = 7 ∧ k = 13 then some [(0, 5), (0, 9)] else none) else
  if n = 41 then (if id = 1 ∧ k = 15 then some [(1, 6), (1, 10), (1, 11), (1, 13), (3, 6), (3, 10), (3, 11), (3, 13), (5, 10), (5, 13)] else none) else
  if n = 42 then (if id = 5 ∧ k = 12 then some [(2, 7)] else none) else
  if n = 46 then (if id = 5 ∧ k = 18 then some [(5, 13)] else if id = 8 ∧ k = 13 then some [(4, 2), (4, 7), (4, 10), (6, 2)] else none) else
  if n = 49 then (if id = 6 ∧ k = 18 then some [] else none) else
  if n = 52 then (if id = 12 ∧ k = 9 then some [] else none) else
  if n = 53 then (if id = 6 ∧ k = 18 then some [] else none) else
  if n = 55 then (if id = 1 ∧ k = 9 then some [(2, 1)] else if id = 2 ∧ k = 10 then some [(0, 2), (0, 7), (1, 7), (6, 2), (6, 4), (6, 7), (6, 8)] else none) else
  if n = 56 then (if id = 9 ∧ k = 13 then some [(5, 0), (5, 4)] else if id = 10 ∧ k = 20 then some [] else none) else
  if n = 58 then (if id = 7 ∧ k = 19 then some [] else none) else
  if n = 59 then (if id = 5 ∧ k = 9 then some [(2, 7), (6, 7)] else none) else
  if n = 60 then (if id = 10 ∧ k = 12 then some [(5, 7)] else if id = 10 ∧ k = 20 then some [] else none) else
  if n = 62 then (if id = 8 ∧ k = 14 then some [] else if id = 9 ∧ k = 12 then some [] else none) else
  if n = 63 then (if id = 4 ∧ k = 21 then some [(4, 12), (4, 13), (6, 12), (6, 13), (6, 17), (10, 12)] else none) else
  if n = 65 then (if id = 10 ∧ k = 20 then some [] else none) else
  if n = 67 then (if id = 8 ∧ k = 16 then some [(9, 0), (9, 4), (11, 0), (11, 4)] else if id = 10 ∧ k = 20 then some [] else if id = 12 ∧ k = 8 then some [(3, 0), (3, 2)] else none) else
  if n = 68 then (if id = 6 ∧ k = 12 then some [(3, 8), (3, 9), (7, 8), (7, 9), (7, 10)] else none) else
  if n = 72 then (if id = 9 ∧ k = 17 then some [(9, 0), (9, 4)] else if id = 11 ∧ k = 17 then some [(0, 4), (0, 7), (0, 12)] else none) else
  if n = 76 then (if id = 6 ∧ k = 24 then some [] else none) else
  if n = 77 then (if id = 20 ∧ k = 10 then some [] else none) else
  if n = 79 then (if id = 9 ∧ k = 12 then some [(5, 3)] else none) else
  if n = 80 then (if id = 8 ∧ k = 13 then some [(3, 5), (8, 10)] else none) else
  if n = 82 then (if id = 6 ∧ k = 24 then some [] else if id = 9 ∧ k = 15 then some [] else if id = 21 ∧ k = 9 then some [] else none) else
  if n = 84 then (if id = 1 ∧ k = 16 then some [] else if id = 8 ∧ k = 16 then some [] else if id = 9 ∧ k = 11 then some [] else none) else
  if n = 89 then (if id = 9 ∧ k = 31 then some [(5, 1), (10, 1), (10, 8), (10, 17), (15, 1), (15, 8), (16, 1), (16, 8), (24, 1), (24, 8), (24, 17), (24, 19), (24, 20)] else none) else
  if n = 90 then (if id = 1 ∧ k = 16 then some [] else if id = 8 ∧ k = 16 then some [] else none) else
  if n = 108 then (if id = 15 ∧ k = 14 then some [] else none) else
  if n = 105 then (if id = 8 ∧ k = 18 then some [] else if id = 10 ∧ k = 19 then some [] else none) else
  if n = 133 then (if id = 11 ∧ k = 18 then some [] else if id = 17 ∧ k = 18 then some [] else if id = 23 ∧ k = 18 then some [] else none) else
  if n = 134 then (if id = 15 ∧ k = 10 then some [] else if id = 19 ∧ k = 8 then some [] else none) else
  if n = 136 then (if id = 10 ∧ k = 12 then some [(3, 8), (3, 9), (7, 8), (7, 9), (7, 10)] else none) else
  if n = 139 then (if id = 7 ∧ k = 21 then some [(11, 7), (15, 7)] else if id = 16 ∧ k = 17 then some [(9, 0), (9, 4)] else if id = 20 ∧ k = 18 then some [(11, 5)] else none) else
  if n = 141 then (if id = 11 ∧ k = 18 then some [] else if id = 15 ∧ k = 13 then some [(5, 8)] else if id = 17 ∧ k = 18 then some [] else if id = 23 ∧ k = 18 then some [] else none) else
  if n = 143 then (if id = 10 ∧ k = 8 then some [] else if id = 10 ∧ k = 11 then some [] else if id = 14 ∧ k = 10 then some [] else if id = 28 ∧ k = 9 then some [] else none) else
  if n = 151 then (if id = 19 ∧ k = 19 then some [(3, 1), (9, 7), (16, 14)] else if id = 21 ∧ k = 31 then some [(3, 1), (9, 7), (16, 14)] else none) else
  if n = 167 then (if id = 7 ∧ k = 15 then some [] else if id = 8 ∧ k = 15 then some [] else if id = 9 ∧ k = 15 then some [] else if id = 10 ∧ k = 15 then some [] else if id = 17 ∧ k = 15 then some [] else if id = 18 ∧ k = 15 then some [] else if id = 23 ∧ k = 15 then some [] else none) else
  if n = 168 then (if id = 1 ∧ k = 16 then some [] else if id = 8 ∧ k = 16 then some [] else if id = 10 ∧ k = 16 then some [] else if id = 18 ∧ k = 16 then some [] else if id = 21 ∧ k = 16 then some [] else none) else
  if n = 178 then (if id = 1 ∧ k = 16 then some [] else if id = 8 ∧ k = 16 then some [] else if id = 10 ∧ k = 16 then some [] else if id = 18 ∧ k = 16 then some [] else if id = 21 ∧ k = 16 then some [] else none) else
  if n = 201 then (if id = 17 ∧ k = 24 then some [] else if id = 19 ∧ k = 20 then some [(5, 1), (12, 1), (12, 8)] else none) else
  if n = 220 then (if id = 11 ∧ k = 18 then some [] else if id = 23 ∧ k = 18 then some [] else none) else
  none
def extLL (l : List (FuncId × Spec)) (loud : List FuncId) : Ext := ⟨fun f => (l.find? (fun p => p.1 == f)).map (·.2), ⟨fun f => loud.contains f, chT⟩⟩
@[simp] theorem extLL_ch {l : List (FuncId × Spec)} {loud : List FuncId} {n id k : Nat} : (extLL l loud).loud.ch n id k = chT n id k := rfl
attribute [simp] chT
abbrev extL (l : List (FuncId × Spec)) : Ext := extLL l []
theorem extL_ok {l : List (FuncId × Spec)} {loud : List FuncId} (h : ∀ p ∈ l, SpecOk P p.1 p.2) : ExtOk P (extLL l loud) := by
  intro f s hs args H v H' hr
  unfold extLL at hs
  obtain ⟨p, hp, rfl⟩ := Option.map_eq_some_iff.1 hs
  have h1 := List.find?_some hp
  have h2 := List.mem_of_find?_eq_some hp
  simp only [beq_iff_eq] at h1
  subst h1
  exact h p h2 args H v H' hr
/-- a function of flat arguments that leaves the world as it was -/
theorem callOk_flat {f : FuncId} {args : List Value} (hf : ∀ x ∈ args, flatB x = true) (hv : flatB v = true) (h : ∀ w, Calls P f args.toArray w fun e w' => e = .returned v ∧ w' = w) : CallOk P f args H v H := by
  intro ι w args' hrel h1 h2
  have e : args' = args.toArray := by
    apply Array.ext
    · simp [h1]
    · intro i h3 h4
      have hx : args[i]? = some (args[i]'(by simpa using h4)) := List.getElem?_eq_getElem _
      have := flat_eq (h2 i _ _ hx (Array.getElem?_eq_getElem h3)) (hf _ (List.getElem_mem _))
      rw [this]; simp
  subst e
  refine (h w).mono ?_
  rintro e w' ⟨rfl, rfl⟩
  exact ⟨ι, v, rfl, Out.refl hrel, .flat _ hv⟩
/-- a function of flat arguments that leaves all blocks as they were -/
theorem callOk_flatC {f : FuncId} {args : List Value} (hf : ∀ x ∈ args, flatB x = true) (hv : flatB v = true) (h : ∀ w, Calls P f args.toArray w fun e w' => e = .returned v ∧ Change (fun _ => False) w w') : CallOk P f args H v H := by
  intro ι w args' hrel h1 h2
  have e : args' = args.toArray := by
    apply Array.ext
    · simp [h1]
    · intro i h3 h4
      have hx : args[i]? = some (args[i]'(by simpa using h4)) := List.getElem?_eq_getElem _
      have := flat_eq (h2 i _ _ hx (Array.getElem?_eq_getElem h3)) (hf _ (List.getElem_mem _))
      rw [this]; simp
  subst e
  refine (h w).mono ?_
  rintro e w' ⟨rfl, hc⟩
  exact ⟨ι, v, rfl, out_change hrel hc, .flat _ hv⟩
/-- a function of flat arguments that makes a row of flat cells -/
theorem callOk_row {f : FuncId} {args : List Value} {cells : List Value} {e : TypeId} {k : Nat} (hf : ∀ x ∈ args, flatB x = true) (hc : ∀ x ∈ cells, flatB x = true) (hs : sz P e = some 1) (hk : cells.length = k) (hm : k ≤ maxLen)
    (h : ∀ ι w, Rel P H ι w → Calls P f args.toArray w fun x w' => x = .returned (.slice (some ⟨w.heap.size, 0, none⟩) k k) ∧ w' = w.alloc (.cells cells.toArray e)) : CallOk P f args H (sl H.n k k) (H.new ⟨cells, e, true⟩) := by
  intro ι w args' hrel h1 h2
  have e1 : args' = args.toArray := by
    apply Array.ext
    · simp [h1]
    · intro i h3 h4
      have hx : args[i]? = some (args[i]'(by simpa using h4)) := List.getElem?_eq_getElem _
      have := flat_eq (h2 i _ _ hx (Array.getElem?_eq_getElem h3)) (hf _ (List.getElem_mem _))
      rw [this]; simp
  subst e1
  refine (h ι w hrel).mono ?_
  rintro x w' ⟨rfl, rfl⟩
  have ho := rel_new hrel (b := ⟨cells, e, true⟩) (arr := cells.toArray) (slack := 0) rfl hs (by simp) (fun n hn hl => by simp at hl; omega) (fun i x hx => ⟨x, by simpa using hx, .flat _ (hc x (List.mem_of_getElem? hx))⟩)
  refine ⟨_, _, rfl, ho, ?_⟩
  have := VR.slice (n := (H.new ⟨cells, e, true⟩).D) (ι := ι.add H.n ⟨w.heap.size, 0, 0⟩) H.n 0 k k ((D_new hrel H.n).2 (.inr rfl)) (Nat.le_refl _)
  simpa [Ren.add] using this
/-- a package's variable, as it was in the beginning -/
theorem pin_block (hrel : Rel P H ι w) {g : Nat} (hg : g < H.ng) : w.heap[g]? = H.base.heap[g]? := (hrel.pin g hg).1
end
end Go.Lg
/-
  Closed facts on the types of this translation.
-/
set_option linter.unusedSimpArgs false
namespace Go.Proofs.YthgcgjpbhbikaaaDoor
open Go.Lg
attribute [simp] Tryd.underlying0
@[simp] theorem sz0 : sz Tryd.prog 0 = some 1 := by kernel_rfl
@[simp] theorem zr0 : zr Tryd.prog 0 = some (.tuple #[]) := by kernel_rfl
@[simp] theorem lesz0 : lesz Tryd.prog 0 = some 1 := by kernel_rfl
attribute [simp] Tryd.underlying1
attribute [simp] Tryd.underlying2
@[simp] theorem sz2 : sz Tryd.prog 2 = some 1 := by kernel_rfl
@[simp] theorem agg2 : aggB Tryd.prog 2 = some false := by kernel_rfl
@[simp] theorem zr2 : zr Tryd.prog 2 = some (.int .i64 0) := by kernel_rfl
@[simp] theorem lesz2 : lesz Tryd.prog 2 = some 1 := by kernel_rfl
attribute [simp] Tryd.underlying3
@[simp] theorem sz3 : sz Tryd.prog 3 = some 1 := by kernel_rfl
@[simp] theorem agg3 : aggB Tryd.prog 3 = some false := by kernel_rfl
@[simp] theorem zr3 : zr Tryd.prog 3 = some (.int .i64 0) := by kernel_rfl
@[simp] theorem lesz3 : lesz Tryd.prog 3 = some 1 := by kernel_rfl
attribute [simp] Tryd.underlying4
@[simp] theorem sz4 : sz Tryd.prog 4 = some 1 := by kernel_rfl
@[simp] theorem agg4 : aggB Tryd.prog 4 = some false := by kernel_rfl
@[simp] theorem zr4 : zr Tryd.prog 4 = some (.bool false) := by kernel_rfl
@[simp] theorem lesz4 : lesz Tryd.prog 4 = some 1 := by kernel_rfl
attribute [simp] Tryd.underlying5
@[simp] theorem sz5 : sz Tryd.prog 5 = some 1 := by kernel_rfl
@[simp] theorem agg5 : aggB Tryd.prog 5 = some false := by kernel_rfl
@[simp] theorem zr5 : zr Tryd.prog 5 = some (.int .u8 0) := by kernel_rfl
@[simp] theorem lesz5 : lesz Tryd.prog 5 = some 1 := by kernel_rfl
attribute [simp] Tryd.underlying6
@[simp] theorem sz6 : sz Tryd.prog 6 = some 1 := by kernel_rfl
@[simp] theorem agg6 : aggB Tryd.prog 6 = some false := by kernel_rfl
@[simp] theorem zr6 : zr Tryd.prog 6 = some (.int .u8 0) := by kernel_rfl
@[simp] theorem lesz6 : lesz Tryd.prog 6 = some 1 := by kernel_rfl
@[simp] theorem plc7 : plcB Tryd.prog 7 = true := by kernel_rfl
@[simp] theorem fld7_0 : fldi Tryd.prog 7 0 = some (0, 1, false) := by kernel_rfl
@[simp] theorem fld7_1 : fldi Tryd.prog 7 1 = some (1, 1, false) := by kernel_rfl
@[simp] theorem fld7_2 : fldi Tryd.prog 7 2 = some (2, 1, false) := by kernel_rfl
@[simp] theorem fld7_3 : fldi Tryd.prog 7 3 = some (3, 1, false) := by kernel_rfl
@[simp] theorem sz7 : sz Tryd.prog 7 = some 4 := by kernel_rfl
@[simp] theorem agg7 : aggB Tryd.prog 7 = some true := by kernel_rfl
@[simp] theorem zr7 : zr Tryd.prog 7 = some (.agg #[.int .i64 0, .int .i64 0, .bool false, .int .u8 0]) := by kernel_rfl
@[simp] theorem lesz7 : lesz Tryd.prog 7 = some 4 := by kernel_rfl
@[simp] theorem plc8 : plcB Tryd.prog 8 = true := by kernel_rfl
@[simp] theorem fld8_0 : fldi Tryd.prog 8 0 = some (0, 1, false) := by kernel_rfl
@[simp] theorem fld8_1 : fldi Tryd.prog 8 1 = some (1, 1, false) := by kernel_rfl
@[simp] theorem fld8_2 : fldi Tryd.prog 8 2 = some (2, 1, false) := by kernel_rfl
@[simp] theorem fld8_3 : fldi Tryd.prog 8 3 = some (3, 1, false) := by kernel_rfl
@[simp] theorem sz8 : sz Tryd.prog 8 = some 4 := by kernel_rfl
@[simp] theorem agg8 : aggB Tryd.prog 8 = some true := by kernel_rfl
@[simp] theorem zr8 : zr Tryd.prog 8 = some (.agg #[.int .i64 0, .int .i64 0, .bool false, .int .u8 0]) := by kernel_rfl
@[simp] theorem lesz8 : lesz Tryd.prog 8 = some 4 := by kernel_rfl
attribute [simp] Tryd.underlying9
@[simp] theorem sz9 : sz Tryd.prog 9 = some 1 := by kernel_rfl
@[simp] theorem agg9 : aggB Tryd.prog 9 = some false := by kernel_rfl
@[simp] theorem zr9 : zr Tryd.prog 9 = some (.string ⟨#[]⟩) := by kernel_rfl
@[simp] theorem lesz9 : lesz Tryd.prog 9 = some 1 := by kernel_rfl
attribute [simp] Tryd.underlying10
@[simp] theorem sz10 : sz Tryd.prog 10 = some 1 := by kernel_rfl
@[simp] theorem agg10 : aggB Tryd.prog 10 = some false := by kernel_rfl
@[simp] theorem zr10 : zr Tryd.prog 10 = some (.string ⟨#[]⟩) := by kernel_rfl
@[simp] theorem lesz10 : lesz Tryd.prog 10 = some 1 := by kernel_rfl
attribute [simp] Tryd.underlying11
@[simp] theorem sz11 : sz Tryd.prog 11 = some 1 := by kernel_rfl
@[simp] theorem agg11 : aggB Tryd.prog 11 = some false := by kernel_rfl
@[simp] theorem zr11 : zr Tryd.prog 11 = some (.string ⟨#[]⟩) := by kernel_rfl
@[simp] theorem lesz11 : lesz Tryd.prog 11 = some 1 := by kernel_rfl
attribute [simp] Tryd.underlying12
@[simp] theorem sz12 : sz Tryd.prog 12 = some 1 := by kernel_rfl
@[simp] theorem agg12 : aggB Tryd.prog 12 = some false := by kernel_rfl
@[simp] theorem zr12 : zr Tryd.prog 12 = some (.int .u64 0) := by kernel_rfl
@[simp] theorem lesz12 : lesz Tryd.prog 12 = some 1 := by kernel_rfl
@[simp] theorem plc13 : plcB Tryd.prog 13 = true := by kernel_rfl
@[simp] theorem fld13_0 : fldi Tryd.prog 13 0 = some (0, 1, false) := by kernel_rfl
@[simp] theorem fld13_1 : fldi Tryd.prog 13 1 = some (1, 1, false) := by kernel_rfl
@[simp] theorem sz13 : sz Tryd.prog 13 = some 2 := by kernel_rfl
@[simp] theorem agg13 : aggB Tryd.prog 13 = some true := by kernel_rfl
@[simp] theorem zr13 : zr Tryd.prog 13 = some (.agg #[.string ⟨#[]⟩, .int .u64 0]) := by kernel_rfl
@[simp] theorem lesz13 : lesz Tryd.prog 13 = some 2 := by kernel_rfl
@[simp] theorem plc14 : plcB Tryd.prog 14 = true := by kernel_rfl
@[simp] theorem fld14_0 : fldi Tryd.prog 14 0 = some (0, 1, false) := by kernel_rfl
@[simp] theorem fld14_1 : fldi Tryd.prog 14 1 = some (1, 1, false) := by kernel_rfl
@[simp] theorem sz14 : sz Tryd.prog 14 = some 2 := by kernel_rfl
@[simp] theorem agg14 : aggB Tryd.prog 14 = some true := by kernel_rfl
@[simp] theorem zr14 : zr Tryd.prog 14 = some (.agg #[.string ⟨#[]⟩, .int .u64 0]) := by kernel_rfl
@[simp] theorem lesz14 : lesz Tryd.prog 14 = some 2 := by kernel_rfl
attribute [simp] Tryd.underlying15
@[simp] theorem sz15 : sz Tryd.prog 15 = some 1 := by kernel_rfl
@[simp] theorem agg15 : aggB Tryd.prog 15 = some false := by kernel_rfl
@[simp] theorem zr15 : zr Tryd.prog 15 = some (.pointer none) := by kernel_rfl
@[simp] theorem lesz15 : lesz Tryd.prog 15 = some 1 := by kernel_rfl
attribute [simp] Tryd.underlying16
@[simp] theorem sz16 : sz Tryd.prog 16 = some 1 := by kernel_rfl
@[simp] theorem agg16 : aggB Tryd.prog 16 = some false := by kernel_rfl
@[simp] theorem zr16 : zr Tryd.prog 16 = some (.pointer none) := by kernel_rfl
@[simp] theorem lesz16 : lesz Tryd.prog 16 = some 1 := by kernel_rfl
attribute [simp] Tryd.underlying17
@[simp] theorem sz17 : sz Tryd.prog 17 = some 1 := by kernel_rfl
@[simp] theorem agg17 : aggB Tryd.prog 17 = some false := by kernel_rfl
@[simp] theorem zr17 : zr Tryd.prog 17 = some (.pointer none) := by kernel_rfl
@[simp] theorem lesz17 : lesz Tryd.prog 17 = some 1 := by kernel_rfl
@[simp] theorem plc18 : plcB Tryd.prog 18 = true := by kernel_rfl
@[simp] theorem fld18_0 : fldi Tryd.prog 18 0 = some (0, 1, false) := by kernel_rfl
@[simp] theorem sz18 : sz Tryd.prog 18 = some 1 := by kernel_rfl
@[simp] theorem agg18 : aggB Tryd.prog 18 = some true := by kernel_rfl
@[simp] theorem zr18 : zr Tryd.prog 18 = some (.agg #[.pointer none]) := by kernel_rfl
@[simp] theorem lesz18 : lesz Tryd.prog 18 = some 1 := by kernel_rfl
@[simp] theorem plc19 : plcB Tryd.prog 19 = true := by kernel_rfl
@[simp] theorem fld19_0 : fldi Tryd.prog 19 0 = some (0, 1, false) := by kernel_rfl
@[simp] theorem sz19 : sz Tryd.prog 19 = some 1 := by kernel_rfl
@[simp] theorem agg19 : aggB Tryd.prog 19 = some true := by kernel_rfl
@[simp] theorem zr19 : zr Tryd.prog 19 = some (.agg #[.pointer none]) := by kernel_rfl
@[simp] theorem lesz19 : lesz Tryd.prog 19 = some 1 := by kernel_rfl
attribute [simp] Tryd.underlying20
attribute [simp] Tryd.underlying21
@[simp] theorem sz21 : sz Tryd.prog 21 = some 1 := by kernel_rfl
@[simp] theorem agg21 : aggB Tryd.prog 21 = some false := by kernel_rfl
@[simp] theorem zr21 : zr Tryd.prog 21 = some (.int .i32 0) := by kernel_rfl
@[simp] theorem lesz21 : lesz Tryd.prog 21 = some 1 := by kernel_rfl
attribute [simp] Tryd.underlying22
@[simp] theorem sz22 : sz Tryd.prog 22 = some 1 := by kernel_rfl
@[simp] theorem agg22 : aggB Tryd.prog 22 = some false := by kernel_rfl
@[simp] theorem zr22 : zr Tryd.prog 22 = some (.int .u16 0) := by kernel_rfl
@[simp] theorem lesz22 : lesz Tryd.prog 22 = some 1 := by kernel_rfl
attribute [simp] Tryd.underlying23
@[simp] theorem sz23 : sz Tryd.prog 23 = some 1 := by kernel_rfl
@[simp] theorem agg23 : aggB Tryd.prog 23 = some false := by kernel_rfl
@[simp] theorem zr23 : zr Tryd.prog 23 = some (.slice none 0 0) := by kernel_rfl
@[simp] theorem lesz23 : lesz Tryd.prog 23 = some 1 := by kernel_rfl
@[simp] theorem plc24 : plcB Tryd.prog 24 = true := by kernel_rfl
@[simp] theorem fld24_0 : fldi Tryd.prog 24 0 = some (0, 1, false) := by kernel_rfl
@[simp] theorem fld24_1 : fldi Tryd.prog 24 1 = some (1, 1, false) := by kernel_rfl
@[simp] theorem fld24_2 : fldi Tryd.prog 24 2 = some (2, 1, false) := by kernel_rfl
@[simp] theorem fld24_3 : fldi Tryd.prog 24 3 = some (3, 1, false) := by kernel_rfl
@[simp] theorem fld24_4 : fldi Tryd.prog 24 4 = some (4, 1, false) := by kernel_rfl
@[simp] theorem sz24 : sz Tryd.prog 24 = some 5 := by kernel_rfl
@[simp] theorem agg24 : aggB Tryd.prog 24 = some true := by kernel_rfl
@[simp] theorem zr24 : zr Tryd.prog 24 = some (.agg #[.string ⟨#[]⟩, .string ⟨#[]⟩, .int .i64 0, .string ⟨#[]⟩, .string ⟨#[]⟩]) := by kernel_rfl
@[simp] theorem lesz24 : lesz Tryd.prog 24 = some 5 := by kernel_rfl
@[simp] theorem plc25 : plcB Tryd.prog 25 = true := by kernel_rfl
@[simp] theorem fld25_0 : fldi Tryd.prog 25 0 = some (0, 1, false) := by kernel_rfl
@[simp] theorem fld25_1 : fldi Tryd.prog 25 1 = some (1, 1, false) := by kernel_rfl
@[simp] theorem fld25_2 : fldi Tryd.prog 25 2 = some (2, 1, false) := by kernel_rfl
@[simp] theorem fld25_3 : fldi Tryd.prog 25 3 = some (3, 1, false) := by kernel_rfl
@[simp] theorem fld25_4 : fldi Tryd.prog 25 4 = some (4, 1, false) := by kernel_rfl
@[simp] theorem sz25 : sz Tryd.prog 25 = some 5 := by kernel_rfl
@[simp] theorem agg25 : aggB Tryd.prog 25 = some true := by kernel_rfl
@[simp] theorem zr25 : zr Tryd.prog 25 = some (.agg #[.string ⟨#[]⟩, .string ⟨#[]⟩, .int .i64 0, .string ⟨#[]⟩, .string ⟨#[]⟩]) := by kernel_rfl
@[simp] theorem lesz25 : lesz Tryd.prog 25 = some 5 := by kernel_rfl
attribute [simp] Tryd.underlying26
@[simp] theorem sz26 : sz Tryd.prog 26 = some 1 := by kernel_rfl
@[simp] theorem agg26 : aggB Tryd.prog 26 = some false := by kernel_rfl
@[simp] theorem zr26 : zr Tryd.prog 26 = some (.int .i64 0) := by kernel_rfl
@[simp] theorem lesz26 : lesz Tryd.prog 26 = some 1 := by kernel_rfl
attribute [simp] Tryd.underlying27
@[simp] theorem sz27 : sz Tryd.prog 27 = some 1 := by kernel_rfl
@[simp] theorem zr27 : zr Tryd.prog 27 = some (.tuple #[.agg #[.string ⟨#[]⟩, .string ⟨#[]⟩, .int .i64 0, .string ⟨#[]⟩, .string ⟨#[]⟩], .int .i64 0]) := by kernel_rfl
@[simp] theorem lesz27 : lesz Tryd.prog 27 = some 1 := by kernel_rfl
attribute [simp] Tryd.underlying28
attribute [simp] Tryd.underlying29
attribute [simp] Tryd.underlying30
attribute [simp] Tryd.underlying31
@[simp] theorem sz31 : sz Tryd.prog 31 = some 1 := by kernel_rfl
@[simp] theorem zr31 : zr Tryd.prog 31 = some (.tuple #[.string ⟨#[]⟩, .int .i64 0]) := by kernel_rfl
@[simp] theorem lesz31 : lesz Tryd.prog 31 = some 1 := by kernel_rfl
attribute [simp] Tryd.underlying32
attribute [simp] Tryd.underlying33
attribute [simp] Tryd.underlying34
@[simp] theorem sz34 : sz Tryd.prog 34 = some 1 := by kernel_rfl
@[simp] theorem zr34 : zr Tryd.prog 34 = some (.tuple #[.agg #[.string ⟨#[]⟩, .string ⟨#[]⟩, .int .i64 0, .string ⟨#[]⟩, .string ⟨#[]⟩], .string ⟨#[]⟩, .bool false]) := by kernel_rfl
@[simp] theorem lesz34 : lesz Tryd.prog 34 = some 1 := by kernel_rfl
attribute [simp] Tryd.underlying35
attribute [simp] Tryd.underlying36
attribute [simp] Tryd.underlying37
@[simp] theorem sz37 : sz Tryd.prog 37 = some 1 := by kernel_rfl
@[simp] theorem zr37 : zr Tryd.prog 37 = some (.tuple #[.int .i64 0, .int .i64 0]) := by kernel_rfl
@[simp] theorem lesz37 : lesz Tryd.prog 37 = some 1 := by kernel_rfl
attribute [simp] Tryd.underlying38
attribute [simp] Tryd.underlying39
attribute [simp] Tryd.underlying40
@[simp] theorem sz40 : sz Tryd.prog 40 = some 1 := by kernel_rfl
@[simp] theorem zr40 : zr Tryd.prog 40 = some (.tuple #[.string ⟨#[]⟩, .string ⟨#[]⟩]) := by kernel_rfl
@[simp] theorem lesz40 : lesz Tryd.prog 40 = some 1 := by kernel_rfl
attribute [simp] Tryd.underlying41
attribute [simp] Tryd.underlying42
@[simp] theorem sz42 : sz Tryd.prog 42 = some 1 := by kernel_rfl
@[simp] theorem zr42 : zr Tryd.prog 42 = some (.tuple #[.string ⟨#[]⟩, .string ⟨#[]⟩, .bool false]) := by kernel_rfl
@[simp] theorem lesz42 : lesz Tryd.prog 42 = some 1 := by kernel_rfl
attribute [simp] Tryd.underlying43
attribute [simp] Tryd.underlying44
attribute [simp] Tryd.underlying45
attribute [simp] Tryd.underlying46
attribute [simp] Tryd.underlying47
attribute [simp] Tryd.underlying48
attribute [simp] Tryd.underlying49
attribute [simp] Tryd.underlying50
@[simp] theorem sz50 : sz Tryd.prog 50 = some 1 := by kernel_rfl
@[simp] theorem agg50 : aggB Tryd.prog 50 = some false := by kernel_rfl
@[simp] theorem zr50 : zr Tryd.prog 50 = some (.slice none 0 0) := by kernel_rfl
@[simp] theorem lesz50 : lesz Tryd.prog 50 = some 1 := by kernel_rfl
attribute [simp] Tryd.underlying51
attribute [simp] Tryd.underlying52
attribute [simp] Tryd.underlying53
@[simp] theorem sz53 : sz Tryd.prog 53 = some 1 := by kernel_rfl
@[simp] theorem agg53 : aggB Tryd.prog 53 = some false := by kernel_rfl
@[simp] theorem zr53 : zr Tryd.prog 53 = some (.pointer none) := by kernel_rfl
@[simp] theorem lesz53 : lesz Tryd.prog 53 = some 1 := by kernel_rfl
@[simp] theorem plc54 : plcB Tryd.prog 54 = true := by kernel_rfl
@[simp] theorem fld54_0 : fldi Tryd.prog 54 0 = some (0, 1, false) := by kernel_rfl
@[simp] theorem fld54_1 : fldi Tryd.prog 54 1 = some (1, 1, false) := by kernel_rfl
@[simp] theorem sz54 : sz Tryd.prog 54 = some 2 := by kernel_rfl
@[simp] theorem agg54 : aggB Tryd.prog 54 = some true := by kernel_rfl
@[simp] theorem zr54 : zr Tryd.prog 54 = some (.agg #[.pointer none, .slice none 0 0]) := by kernel_rfl
@[simp] theorem lesz54 : lesz Tryd.prog 54 = some 2 := by kernel_rfl
@[simp] theorem plc55 : plcB Tryd.prog 55 = true := by kernel_rfl
@[simp] theorem fld55_0 : fldi Tryd.prog 55 0 = some (0, 1, false) := by kernel_rfl
@[simp] theorem fld55_1 : fldi Tryd.prog 55 1 = some (1, 1, false) := by kernel_rfl
@[simp] theorem sz55 : sz Tryd.prog 55 = some 2 := by kernel_rfl
@[simp] theorem agg55 : aggB Tryd.prog 55 = some true := by kernel_rfl
@[simp] theorem zr55 : zr Tryd.prog 55 = some (.agg #[.pointer none, .slice none 0 0]) := by kernel_rfl
@[simp] theorem lesz55 : lesz Tryd.prog 55 = some 2 := by kernel_rfl
attribute [simp] Tryd.underlying56
@[simp] theorem sz56 : sz Tryd.prog 56 = some 1 := by kernel_rfl
@[simp] theorem zr56 : zr Tryd.prog 56 = some (.tuple #[.string ⟨#[]⟩, .bool false]) := by kernel_rfl
@[simp] theorem lesz56 : lesz Tryd.prog 56 = some 1 := by kernel_rfl
attribute [simp] Tryd.underlying57
attribute [simp] Tryd.underlying58
attribute [simp] Tryd.underlying59
@[simp] theorem sz59 : sz Tryd.prog 59 = some 1 := by kernel_rfl
@[simp] theorem agg59 : aggB Tryd.prog 59 = some false := by kernel_rfl
@[simp] theorem zr59 : zr Tryd.prog 59 = some (.nilIface) := by kernel_rfl
@[simp] theorem lesz59 : lesz Tryd.prog 59 = some 1 := by kernel_rfl
attribute [simp] Tryd.underlying60
@[simp] theorem sz60 : sz Tryd.prog 60 = some 1 := by kernel_rfl
@[simp] theorem zr60 : zr Tryd.prog 60 = some (.tuple #[.int .i64 0, .nilIface]) := by kernel_rfl
@[simp] theorem lesz60 : lesz Tryd.prog 60 = some 1 := by kernel_rfl
attribute [simp] Tryd.underlying61
attribute [simp] Tryd.underlying62
attribute [simp] Tryd.underlying63
attribute [simp] Tryd.underlying64
@[simp] theorem sz64 : sz Tryd.prog 64 = some 1 := by kernel_rfl
@[simp] theorem agg64 : aggB Tryd.prog 64 = some false := by kernel_rfl
@[simp] theorem zr64 : zr Tryd.prog 64 = some (.int .u64 0) := by kernel_rfl
@[simp] theorem lesz64 : lesz Tryd.prog 64 = some 1 := by kernel_rfl
attribute [simp] Tryd.underlying65
attribute [simp] Tryd.underlying66
attribute [simp] Tryd.underlying67
attribute [simp] Tryd.underlying68
attribute [simp] Tryd.underlying69
attribute [simp] Tryd.underlying70
@[simp] theorem sz70 : sz Tryd.prog 70 = some 256 := by kernel_rfl
@[simp] theorem agg70 : aggB Tryd.prog 70 = some true := by kernel_rfl
@[simp] theorem zr70 : zr Tryd.prog 70 = some (.agg #[.bool false, .bool false, .bool false, .bool false, .bool false, .bool false, .bool false, .bool false, .bool false, .bool false, .bool false, .bool false, .bool false, .bool false, .bool false, .bool false, .bool false, .bool false, .bool false, .bool false, .bool false, .bool false, .bool false, .bool false, .bool false, .bool false, .bool false, .bool false, .bool false, .bool false, .bool false, .bool false, .bool false, .bool false, .bool false, .bool false, .bool false, .bool false, .bool false, .bool false, .bool false, .bool false, .bool false, .bool false, .bool false, .bool false, .bool false, .bool false, .bool false, .bool false, .bool false, .bool false, .bool false, .bool false, .bool false, .bool false, .bool false, .bool false, .bool false, .bool false, .bool false, .bool false, .bool false, .bool false, .bool false, .bool false, .bool false, .bool false, .bool false, .bool false, .bool false, .bool false, .bool false, .bool false, .bool false, .bool false, .bool false, .bool false, .bool false, .bool false, .bool false, .bool false, .bool false, .bool false, .bool false, .bool false, .bool false, .bool false, .bool false, .bool false, .bool false, .bool false, .bool false, .bool false, .bool false, .bool false, .bool false, .bool false, .bool false, .bool false, .bool false, .bool false, .bool false, .bool false, .bool false, .bool false, .bool false, .bool false, .bool false, .bool false, .bool false, .bool false, .bool false, .bool false, .bool false, .bool false, .bool false, .bool false, .bool false, .bool false, .bool false, .bool false, .bool false, .bool false, .bool false, .bool false, .bool false, .bool false, .bool false, .bool false, .bool false, .bool false, .bool false, .bool false, .bool false, .bool false, .bool false, .bool false, .bool false, .bool false, .bool false, .bool false, .bool false, .bool false, .bool false, .bool false, .bool false, .bool false, .bool false, .bool false, .bool false, .bool false, .bool false, .bool false, .bool false, .bool false, .bool false, .bool false, .bool false, .bool false, .bool false, .bool false, .bool false, .bool false, .bool false, .bool false, .bool false, .bool false, .bool false, .bool false, .bool false, .bool false, .bool false, .bool false, .bool false, .bool false, .bool false, .bool false, .bool false, .bool false, .bool false, .bool false, .bool false, .bool false, .bool false, .bool false, .bool false, .bool false, .bool false, .bool false, .bool false, .bool false, .bool false, .bool false, .bool false, .bool false, .bool false, .bool false, .bool false, .bool false, .bool false, .bool false, .bool false, .bool false, .bool false, .bool false, .bool false, .bool false, .bool false, .bool false, .bool false, .bool false, .bool false, .bool false, .bool false, .bool false, .bool false, .bool false, .bool false, .bool false, .bool false, .bool false, .bool false, .bool false, .bool false, .bool false, .bool false, .bool false, .bool false, .bool false, .bool false, .bool false, .bool false, .bool false, .bool false, .bool false, .bool false, .bool false, .bool false, .bool false, .bool false, .bool false, .bool false, .bool false, .bool false, .bool false, .bool false, .bool false, .bool false, .bool false, .bool false, .bool false, .bool false, .bool false, .bool false, .bool false]) := by kernel_rfl
@[simp] theorem lesz70 : lesz Tryd.prog 70 = some 256 := by kernel_rfl
attribute [simp] Tryd.underlying71
@[simp] theorem sz71 : sz Tryd.prog 71 = some 256 := by kernel_rfl
@[simp] theorem agg71 : aggB Tryd.prog 71 = some true := by kernel_rfl
@[simp] theorem zr71 : zr Tryd.prog 71 = some (.agg #[.bool false, .bool false, .bool false, .bool false, .bool false, .bool false, .bool false, .bool false, .bool false, .bool false, .bool false, .bool false, .bool false, .bool false, .bool false, .bool false, .bool false, .bool false, .bool false, .bool false, .bool false, .bool false, .bool false, .bool false, .bool false, .bool false, .bool false, .bool false, .bool false, .bool false, .bool false, .bool false, .bool false, .bool false, .bool false, .bool false, .bool false, .bool false, .bool false, .bool false, .bool false, .bool false, .bool false, .bool false, .bool false, .bool false, .bool false, .bool false, .bool false, .bool false, .bool false, .bool false, .bool false, .bool false, .bool false, .bool false, .bool false, .bool false, .bool false, .bool false, .bool false, .bool false, .bool false, .bool false, .bool false, .bool false, .bool false, .bool false, .bool false, .bool false, .bool false, .bool false, .bool false, .bool false, .bool false, .bool false, .bool false, .bool false, .bool false, .bool false, .bool false, .bool false, .bool false, .bool false, .bool false, .bool false, .bool false, .bool false, .bool false, .bool false, .bool false, .bool false, .bool false, .bool false, .bool false, .bool false, .bool false, .bool false, .bool false, .bool false, .bool false, .bool false, .bool false, .bool false, .bool false, .bool false, .bool false, .bool false, .bool false, .bool false, .bool false, .bool false, .bool false, .bool false, .bool false, .bool false, .bool false, .bool false, .bool false, .bool false, .bool false, .bool false, .bool false, .bool false, .bool false, .bool false, .bool false, .bool false, .bool false, .bool false, .bool false, .bool false, .bool false, .bool false, .bool false, .bool false, .bool false, .bool false, .bool false, .bool false, .bool false, .bool false, .bool false, .bool false, .bool false, .bool false, .bool false, .bool false, .bool false, .bool false, .bool false, .bool false, .bool false, .bool false, .bool false, .bool false, .bool false, .bool false, .bool false, .bool false, .bool false, .bool false, .bool false, .bool false, .bool false, .bool false, .bool false, .bool false, .bool false, .bool false, .bool false, .bool false, .bool false, .bool false, .bool false, .bool false, .bool false, .bool false, .bool false, .bool false, .bool false, .bool false, .bool false, .bool false, .bool false, .bool false, .bool false, .bool false, .bool false, .bool false, .bool false, .bool false, .bool false, .bool false, .bool false, .bool false, .bool false, .bool false, .bool false, .bool false, .bool false, .bool false, .bool false, .bool false, .bool false, .bool false, .bool false, .bool false, .bool false, .bool false, .bool false, .bool false, .bool false, .bool false, .bool false, .bool false, .bool false, .bool false, .bool false, .bool false, .bool false, .bool false, .bool false, .bool false, .bool false, .bool false, .bool false, .bool false, .bool false, .bool false, .bool false, .bool false, .bool false, .bool false, .bool false, .bool false, .bool false, .bool false, .bool false, .bool false, .bool false, .bool false, .bool false, .bool false, .bool false, .bool false, .bool false, .bool false, .bool false, .bool false, .bool false, .bool false, .bool false, .bool false, .bool false, .bool false]) := by kernel_rfl
@[simp] theorem lesz71 : lesz Tryd.prog 71 = some 256 := by kernel_rfl
attribute [simp] Tryd.underlying72
@[simp] theorem sz72 : sz Tryd.prog 72 = some 1 := by kernel_rfl
@[simp] theorem zr72 : zr Tryd.prog 72 = some (.tuple #[.agg #[.bool false, .bool false, .bool false, .bool false, .bool false, .bool false, .bool false, .bool false, .bool false, .bool false, .bool false, .bool false, .bool false, .bool false, .bool false, .bool false, .bool false, .bool false, .bool false, .bool false, .bool false, .bool false, .bool false, .bool false, .bool false, .bool false, .bool false, .bool false, .bool false, .bool false, .bool false, .bool false, .bool false, .bool false, .bool false, .bool false, .bool false, .bool false, .bool false, .bool false, .bool false, .bool false, .bool false, .bool false, .bool false, .bool false, .bool false, .bool false, .bool false, .bool false, .bool false, .bool false, .bool false, .bool false, .bool false, .bool false, .bool false, .bool false, .bool false, .bool false, .bool false, .bool false, .bool false, .bool false, .bool false, .bool false, .bool false, .bool false, .bool false, .bool false, .bool false, .bool false, .bool false, .bool false, .bool false, .bool false, .bool false, .bool false, .bool false, .bool false, .bool false, .bool false, .bool false, .bool false, .bool false, .bool false, .bool false, .bool false, .bool false, .bool false, .bool false, .bool false, .bool false, .bool false, .bool false, .bool false, .bool false, .bool false, .bool false, .bool false, .bool false, .bool false, .bool false, .bool false, .bool false, .bool false, .bool false, .bool false, .bool false, .bool false, .bool false, .bool false, .bool false, .bool false, .bool false, .bool false, .bool false, .bool false, .bool false, .bool false, .bool false, .bool false, .bool false, .bool false, .bool false, .bool false, .bool false, .bool false, .bool false, .bool false, .bool false, .bool false, .bool false, .bool false, .bool false, .bool false, .bool false, .bool false, .bool false, .bool false, .bool false, .bool false, .bool false, .bool false, .bool false, .bool false, .bool false, .bool false, .bool false, .bool false, .bool false, .bool false, .bool false, .bool false, .bool false, .bool false, .bool false, .bool false, .bool false, .bool false, .bool false, .bool false, .bool false, .bool false, .bool false, .bool false, .bool false, .bool false, .bool false, .bool false, .bool false, .bool false, .bool false, .bool false, .bool false, .bool false, .bool false, .bool false, .bool false, .bool false, .bool false, .bool false, .bool false, .bool false, .bool false, .bool false, .bool false, .bool false, .bool false, .bool false, .bool false, .bool false, .bool false, .bool false, .bool false, .bool false, .bool false, .bool false, .bool false, .bool false, .bool false, .bool false, .bool false, .bool false, .bool false, .bool false, .bool false, .bool false, .bool false, .bool false, .bool false, .bool false, .bool false, .bool false, .bool false, .bool false, .bool false, .bool false, .bool false, .bool false, .bool false, .bool false, .bool false, .bool false, .bool false, .bool false, .bool false, .bool false, .bool false, .bool false, .bool false, .bool false, .bool false, .bool false, .bool false, .bool false, .bool false, .bool false, .bool false, .bool false, .bool false, .bool false, .bool false, .bool false, .bool false, .bool false, .bool false, .bool false, .bool false, .bool false, .bool false, .bool false, .bool false, .bool false, .bool false, .bool false], .bool false]) := by kernel_rfl
@[simp] theorem lesz72 : lesz Tryd.prog 72 = some 1 := by kernel_rfl
attribute [simp] Tryd.underlying73
attribute [simp] Tryd.underlying74
attribute [simp] Tryd.underlying75
attribute [simp] Tryd.underlying76
attribute [simp] Tryd.underlying77
@[simp] theorem sz77 : sz Tryd.prog 77 = some 1 := by kernel_rfl
@[simp] theorem zr77 : zr Tryd.prog 77 = some (.tuple #[.int .i64 0, .bool false]) := by kernel_rfl
@[simp] theorem lesz77 : lesz Tryd.prog 77 = some 1 := by kernel_rfl
attribute [simp] Tryd.underlying78
attribute [simp] Tryd.underlying79
@[simp] theorem sz79 : sz Tryd.prog 79 = some 1 := by kernel_rfl
@[simp] theorem agg79 : aggB Tryd.prog 79 = some false := by kernel_rfl
@[simp] theorem zr79 : zr Tryd.prog 79 = some (.pointer none) := by kernel_rfl
@[simp] theorem lesz79 : lesz Tryd.prog 79 = some 1 := by kernel_rfl
attribute [simp] Tryd.underlying80
attribute [simp] Tryd.underlying81
attribute [simp] Tryd.underlying82
attribute [simp] Tryd.underlying83
attribute [simp] Tryd.underlying84
@[simp] theorem sz84 : sz Tryd.prog 84 = some 1 := by kernel_rfl
@[simp] theorem agg84 : aggB Tryd.prog 84 = some false := by kernel_rfl
@[simp] theorem zr84 : zr Tryd.prog 84 = some (.pointer none) := by kernel_rfl
@[simp] theorem lesz84 : lesz Tryd.prog 84 = some 1 := by kernel_rfl
attribute [simp] Tryd.underlying85
attribute [simp] Tryd.underlying86
attribute [simp] Tryd.underlying87
attribute [simp] Tryd.underlying88
attribute [simp] Tryd.underlying89
@[simp] theorem sz89 : sz Tryd.prog 89 = some 1 := by kernel_rfl
@[simp] theorem agg89 : aggB Tryd.prog 89 = some false := by kernel_rfl
@[simp] theorem zr89 : zr Tryd.prog 89 = some (.int .u32 0) := by kernel_rfl
@[simp] theorem lesz89 : lesz Tryd.prog 89 = some 1 := by kernel_rfl
attribute [simp] Tryd.underlying90
@[simp] theorem sz90 : sz Tryd.prog 90 = some 1 := by kernel_rfl
@[simp] theorem zr90 : zr Tryd.prog 90 = some (.tuple #[.int .u32 0, .int .u32 0]) := by kernel_rfl
@[simp] theorem lesz90 : lesz Tryd.prog 90 = some 1 := by kernel_rfl
attribute [simp] Tryd.underlying91
attribute [simp] Tryd.underlying92
@[simp] theorem sz92 : sz Tryd.prog 92 = some 1 := by kernel_rfl
@[simp] theorem zr92 : zr Tryd.prog 92 = some (.tuple #[.int .i32 0, .int .i64 0]) := by kernel_rfl
@[simp] theorem lesz92 : lesz Tryd.prog 92 = some 1 := by kernel_rfl
attribute [simp] Tryd.underlying93
attribute [simp] Tryd.underlying94
attribute [simp] Tryd.underlying95
@[simp] theorem sz95 : sz Tryd.prog 95 = some 24 := by kernel_rfl
@[simp] theorem agg95 : aggB Tryd.prog 95 = some true := by kernel_rfl
@[simp] theorem zr95 : zr Tryd.prog 95 = some (.agg #[.int .u8 0, .int .u8 0, .int .u8 0, .int .u8 0, .int .u8 0, .int .u8 0, .int .u8 0, .int .u8 0, .int .u8 0, .int .u8 0, .int .u8 0, .int .u8 0, .int .u8 0, .int .u8 0, .int .u8 0, .int .u8 0, .int .u8 0, .int .u8 0, .int .u8 0, .int .u8 0, .int .u8 0, .int .u8 0, .int .u8 0, .int .u8 0]) := by kernel_rfl
@[simp] theorem lesz95 : lesz Tryd.prog 95 = some 24 := by kernel_rfl
attribute [simp] Tryd.underlying96
@[simp] theorem sz96 : sz Tryd.prog 96 = some 1 := by kernel_rfl
@[simp] theorem agg96 : aggB Tryd.prog 96 = some false := by kernel_rfl
@[simp] theorem zr96 : zr Tryd.prog 96 = some (.int .u64 0) := by kernel_rfl
@[simp] theorem lesz96 : lesz Tryd.prog 96 = some 1 := by kernel_rfl
attribute [simp] Tryd.underlying97
attribute [simp] Tryd.underlying98
attribute [simp] Tryd.underlying99
@[simp] theorem sz99 : sz Tryd.prog 99 = some 1 := by kernel_rfl
@[simp] theorem zr99 : zr Tryd.prog 99 = some (.tuple #[.slice none 0 0, .string ⟨#[]⟩]) := by kernel_rfl
@[simp] theorem lesz99 : lesz Tryd.prog 99 = some 1 := by kernel_rfl
attribute [simp] Tryd.underlying100
attribute [simp] Tryd.underlying101
attribute [simp] Tryd.underlying102
@[simp] theorem sz102 : sz Tryd.prog 102 = some 20 := by kernel_rfl
@[simp] theorem agg102 : aggB Tryd.prog 102 = some true := by kernel_rfl
@[simp] theorem zr102 : zr Tryd.prog 102 = some (.agg #[.int .u64 0, .int .u64 0, .int .u64 0, .int .u64 0, .int .u64 0, .int .u64 0, .int .u64 0, .int .u64 0, .int .u64 0, .int .u64 0, .int .u64 0, .int .u64 0, .int .u64 0, .int .u64 0, .int .u64 0, .int .u64 0, .int .u64 0, .int .u64 0, .int .u64 0, .int .u64 0]) := by kernel_rfl
@[simp] theorem lesz102 : lesz Tryd.prog 102 = some 20 := by kernel_rfl
attribute [simp] Tryd.underlying103
@[simp] theorem sz103 : sz Tryd.prog 103 = some 65 := by kernel_rfl
@[simp] theorem agg103 : aggB Tryd.prog 103 = some true := by kernel_rfl
@[simp] theorem zr103 : zr Tryd.prog 103 = some (.agg #[.int .u8 0, .int .u8 0, .int .u8 0, .int .u8 0, .int .u8 0, .int .u8 0, .int .u8 0, .int .u8 0, .int .u8 0, .int .u8 0, .int .u8 0, .int .u8 0, .int .u8 0, .int .u8 0, .int .u8 0, .int .u8 0, .int .u8 0, .int .u8 0, .int .u8 0, .int .u8 0, .int .u8 0, .int .u8 0, .int .u8 0, .int .u8 0, .int .u8 0, .int .u8 0, .int .u8 0, .int .u8 0, .int .u8 0, .int .u8 0, .int .u8 0, .int .u8 0, .int .u8 0, .int .u8 0, .int .u8 0, .int .u8 0, .int .u8 0, .int .u8 0, .int .u8 0, .int .u8 0, .int .u8 0, .int .u8 0, .int .u8 0, .int .u8 0, .int .u8 0, .int .u8 0, .int .u8 0, .int .u8 0, .int .u8 0, .int .u8 0, .int .u8 0, .int .u8 0, .int .u8 0, .int .u8 0, .int .u8 0, .int .u8 0, .int .u8 0, .int .u8 0, .int .u8 0, .int .u8 0, .int .u8 0, .int .u8 0, .int .u8 0, .int .u8 0, .int .u8 0]) := by kernel_rfl
@[simp] theorem lesz103 : lesz Tryd.prog 103 = some 65 := by kernel_rfl
attribute [simp] Tryd.underlying104
attribute [simp] Tryd.underlying105
@[simp] theorem sz105 : sz Tryd.prog 105 = some 256 := by kernel_rfl
@[simp] theorem agg105 : aggB Tryd.prog 105 = some true := by kernel_rfl
@[simp] theorem zr105 : zr Tryd.prog 105 = some (.agg #[.int .u8 0, .int .u8 0, .int .u8 0, .int .u8 0, .int .u8 0, .int .u8 0, .int .u8 0, .int .u8 0, .int .u8 0, .int .u8 0, .int .u8 0, .int .u8 0, .int .u8 0, .int .u8 0, .int .u8 0, .int .u8 0, .int .u8 0, .int .u8 0, .int .u8 0, .int .u8 0, .int .u8 0, .int .u8 0, .int .u8 0, .int .u8 0, .int .u8 0, .int .u8 0, .int .u8 0, .int .u8 0, .int .u8 0, .int .u8 0, .int .u8 0, .int .u8 0, .int .u8 0, .int .u8 0, .int .u8 0, .int .u8 0, .int .u8 0, .int .u8 0, .int .u8 0, .int .u8 0, .int .u8 0, .int .u8 0, .int .u8 0, .int .u8 0, .int .u8 0, .int .u8 0, .int .u8 0, .int .u8 0, .int .u8 0, .int .u8 0, .int .u8 0, .int .u8 0, .int .u8 0, .int .u8 0, .int .u8 0, .int .u8 0, .int .u8 0, .int .u8 0, .int .u8 0, .int .u8 0, .int .u8 0, .int .u8 0, .int .u8 0, .int .u8 0, .int .u8 0, .int .u8 0, .int .u8 0, .int .u8 0, .int .u8 0, .int .u8 0, .int .u8 0, .int .u8 0, .int .u8 0, .int .u8 0, .int .u8 0, .int .u8 0, .int .u8 0, .int .u8 0, .int .u8 0, .int .u8 0, .int .u8 0, .int .u8 0, .int .u8 0, .int .u8 0, .int .u8 0, .int .u8 0, .int .u8 0, .int .u8 0, .int .u8 0, .int .u8 0, .int .u8 0, .int .u8 0, .int .u8 0, .int .u8 0, .int .u8 0, .int .u8 0, .int .u8 0, .int .u8 0, .int .u8 0, .int .u8 0, .int .u8 0, .int .u8 0, .int .u8 0, .int .u8 0, .int .u8 0, .int .u8 0, .int .u8 0, .int .u8 0, .int .u8 0, .int .u8 0, .int .u8 0, .int .u8 0, .int .u8 0, .int .u8 0, .int .u8 0, .int .u8 0, .int .u8 0, .int .u8 0, .int .u8 0, .int .u8 0, .int .u8 0, .int .u8 0, .int .u8 0, .int .u8 0, .int .u8 0, .int .u8 0, .int .u8 0, .int .u8 0, .int .u8 0, .int .u8 0, .int .u8 0, .int .u8 0, .int .u8 0, .int .u8 0, .int .u8 0, .int .u8 0, .int .u8 0, .int .u8 0, .int .u8 0, .int .u8 0, .int .u8 0, .int .u8 0, .int .u8 0, .int .u8 0, .int .u8 0, .int .u8 0, .int .u8 0, .int .u8 0, .int .u8 0, .int .u8 0, .int .u8 0, .int .u8 0, .int .u8 0, .int .u8 0, .int .u8 0, .int .u8 0, .int .u8 0, .int .u8 0, .int .u8 0, .int .u8 0, .int .u8 0, .int .u8 0, .int .u8 0, .int .u8 0, .int .u8 0, .int .u8 0, .int .u8 0, .int .u8 0, .int .u8 0, .int .u8 0, .int .u8 0, .int .u8 0, .int .u8 0, .int .u8 0, .int .u8 0, .int .u8 0, .int .u8 0, .int .u8 0, .int .u8 0, .int .u8 0, .int .u8 0, .int .u8 0, .int .u8 0, .int .u8 0, .int .u8 0, .int .u8 0, .int .u8 0, .int .u8 0, .int .u8 0, .int .u8 0, .int .u8 0, .int .u8 0, .int .u8 0, .int .u8 0, .int .u8 0, .int .u8 0, .int .u8 0, .int .u8 0, .int .u8 0, .int .u8 0, .int .u8 0, .int .u8 0, .int .u8 0, .int .u8 0, .int .u8 0, .int .u8 0, .int .u8 0, .int .u8 0, .int .u8 0, .int .u8 0, .int .u8 0, .int .u8 0, .int .u8 0, .int .u8 0, .int .u8 0, .int .u8 0, .int .u8 0, .int .u8 0, .int .u8 0, .int .u8 0, .int .u8 0, .int .u8 0, .int .u8 0, .int .u8 0, .int .u8 0, .int .u8 0, .int .u8 0, .int .u8 0, .int .u8 0, .int .u8 0, .int .u8 0, .int .u8 0, .int .u8 0, .int .u8 0, .int .u8 0, .int .u8 0, .int .u8 0, .int .u8 0, .int .u8 0, .int .u8 0, .int .u8 0, .int .u8 0, .int .u8 0, .int .u8 0, .int .u8 0, .int .u8 0, .int .u8 0, .int .u8 0, .int .u8 0, .int .u8 0, .int .u8 0, .int .u8 0, .int .u8 0, .int .u8 0, .int .u8 0, .int .u8 0]) := by kernel_rfl
@[simp] theorem lesz105 : lesz Tryd.prog 105 = some 256 := by kernel_rfl
@[simp] theorem plc106 : plcB Tryd.prog 106 = true := by kernel_rfl
@[simp] theorem fld106_0 : fldi Tryd.prog 106 0 = some (0, 1, false) := by kernel_rfl
@[simp] theorem fld106_1 : fldi Tryd.prog 106 1 = some (1, 1, false) := by kernel_rfl
@[simp] theorem sz106 : sz Tryd.prog 106 = some 2 := by kernel_rfl
@[simp] theorem agg106 : aggB Tryd.prog 106 = some true := by kernel_rfl
@[simp] theorem zr106 : zr Tryd.prog 106 = some (.agg #[.int .u8 0, .int .u8 0]) := by kernel_rfl
@[simp] theorem lesz106 : lesz Tryd.prog 106 = some 2 := by kernel_rfl
@[simp] theorem plc107 : plcB Tryd.prog 107 = true := by kernel_rfl
@[simp] theorem fld107_0 : fldi Tryd.prog 107 0 = some (0, 1, false) := by kernel_rfl
@[simp] theorem fld107_1 : fldi Tryd.prog 107 1 = some (1, 1, false) := by kernel_rfl
@[simp] theorem sz107 : sz Tryd.prog 107 = some 2 := by kernel_rfl
@[simp] theorem agg107 : aggB Tryd.prog 107 = some true := by kernel_rfl
@[simp] theorem zr107 : zr Tryd.prog 107 = some (.agg #[.int .u8 0, .int .u8 0]) := by kernel_rfl
@[simp] theorem lesz107 : lesz Tryd.prog 107 = some 2 := by kernel_rfl
attribute [simp] Tryd.underlying108
@[simp] theorem sz108 : sz Tryd.prog 108 = some 32 := by kernel_rfl
@[simp] theorem agg108 : aggB Tryd.prog 108 = some true := by kernel_rfl
@[simp] theorem zr108 : zr Tryd.prog 108 = some (.agg #[.int .u8 0, .int .u8 0, .int .u8 0, .int .u8 0, .int .u8 0, .int .u8 0, .int .u8 0, .int .u8 0, .int .u8 0, .int .u8 0, .int .u8 0, .int .u8 0, .int .u8 0, .int .u8 0, .int .u8 0, .int .u8 0, .int .u8 0, .int .u8 0, .int .u8 0, .int .u8 0, .int .u8 0, .int .u8 0, .int .u8 0, .int .u8 0, .int .u8 0, .int .u8 0, .int .u8 0, .int .u8 0, .int .u8 0, .int .u8 0, .int .u8 0, .int .u8 0]) := by kernel_rfl
@[simp] theorem lesz108 : lesz Tryd.prog 108 = some 32 := by kernel_rfl
attribute [simp] Tryd.underlying109
attribute [simp] Tryd.underlying110
@[simp] theorem sz110 : sz Tryd.prog 110 = some 32 := by kernel_rfl
@[simp] theorem agg110 : aggB Tryd.prog 110 = some true := by kernel_rfl
@[simp] theorem zr110 : zr Tryd.prog 110 = some (.agg #[.int .u8 0, .int .u8 0, .int .u8 0, .int .u8 0, .int .u8 0, .int .u8 0, .int .u8 0, .int .u8 0, .int .u8 0, .int .u8 0, .int .u8 0, .int .u8 0, .int .u8 0, .int .u8 0, .int .u8 0, .int .u8 0, .int .u8 0, .int .u8 0, .int .u8 0, .int .u8 0, .int .u8 0, .int .u8 0, .int .u8 0, .int .u8 0, .int .u8 0, .int .u8 0, .int .u8 0, .int .u8 0, .int .u8 0, .int .u8 0, .int .u8 0, .int .u8 0]) := by kernel_rfl
@[simp] theorem lesz110 : lesz Tryd.prog 110 = some 32 := by kernel_rfl
attribute [simp] Tryd.underlying111
@[simp] theorem sz111 : sz Tryd.prog 111 = some 64 := by kernel_rfl
@[simp] theorem agg111 : aggB Tryd.prog 111 = some true := by kernel_rfl
@[simp] theorem zr111 : zr Tryd.prog 111 = some (.agg #[.int .u8 0, .int .u8 0, .int .u8 0, .int .u8 0, .int .u8 0, .int .u8 0, .int .u8 0, .int .u8 0, .int .u8 0, .int .u8 0, .int .u8 0, .int .u8 0, .int .u8 0, .int .u8 0, .int .u8 0, .int .u8 0, .int .u8 0, .int .u8 0, .int .u8 0, .int .u8 0, .int .u8 0, .int .u8 0, .int .u8 0, .int .u8 0, .int .u8 0, .int .u8 0, .int .u8 0, .int .u8 0, .int .u8 0, .int .u8 0, .int .u8 0, .int .u8 0, .int .u8 0, .int .u8 0, .int .u8 0, .int .u8 0, .int .u8 0, .int .u8 0, .int .u8 0, .int .u8 0, .int .u8 0, .int .u8 0, .int .u8 0, .int .u8 0, .int .u8 0, .int .u8 0, .int .u8 0, .int .u8 0, .int .u8 0, .int .u8 0, .int .u8 0, .int .u8 0, .int .u8 0, .int .u8 0, .int .u8 0, .int .u8 0, .int .u8 0, .int .u8 0, .int .u8 0, .int .u8 0, .int .u8 0, .int .u8 0, .int .u8 0, .int .u8 0]) := by kernel_rfl
@[simp] theorem lesz111 : lesz Tryd.prog 111 = some 64 := by kernel_rfl
@[simp] theorem plc112 : plcB Tryd.prog 112 = true := by kernel_rfl
@[simp] theorem fld112_0 : fldi Tryd.prog 112 0 = some (0, 1, false) := by kernel_rfl
@[simp] theorem fld112_1 : fldi Tryd.prog 112 1 = some (1, 1, false) := by kernel_rfl
@[simp] theorem fld112_2 : fldi Tryd.prog 112 2 = some (2, 1, false) := by kernel_rfl
@[simp] theorem fld112_3 : fldi Tryd.prog 112 3 = some (3, 1, false) := by kernel_rfl
@[simp] theorem sz112 : sz Tryd.prog 112 = some 4 := by kernel_rfl
@[simp] theorem agg112 : aggB Tryd.prog 112 = some true := by kernel_rfl
@[simp] theorem zr112 : zr Tryd.prog 112 = some (.agg #[.pointer none, .pointer none, .pointer none, .string ⟨#[]⟩]) := by kernel_rfl
@[simp] theorem lesz112 : lesz Tryd.prog 112 = some 4 := by kernel_rfl
@[simp] theorem plc113 : plcB Tryd.prog 113 = true := by kernel_rfl
@[simp] theorem fld113_0 : fldi Tryd.prog 113 0 = some (0, 1, false) := by kernel_rfl
@[simp] theorem fld113_1 : fldi Tryd.prog 113 1 = some (1, 1, false) := by kernel_rfl
@[simp] theorem fld113_2 : fldi Tryd.prog 113 2 = some (2, 1, false) := by kernel_rfl
@[simp] theorem fld113_3 : fldi Tryd.prog 113 3 = some (3, 1, false) := by kernel_rfl
@[simp] theorem sz113 : sz Tryd.prog 113 = some 4 := by kernel_rfl
@[simp] theorem agg113 : aggB Tryd.prog 113 = some true := by kernel_rfl
@[simp] theorem zr113 : zr Tryd.prog 113 = some (.agg #[.pointer none, .pointer none, .pointer none, .string ⟨#[]⟩]) := by kernel_rfl
@[simp] theorem lesz113 : lesz Tryd.prog 113 = some 4 := by kernel_rfl
attribute [simp] Tryd.underlying114
@[simp] theorem sz114 : sz Tryd.prog 114 = some 0 := by kernel_rfl
@[simp] theorem agg114 : aggB Tryd.prog 114 = some true := by kernel_rfl
@[simp] theorem zr114 : zr Tryd.prog 114 = some (.agg #[]) := by kernel_rfl
@[simp] theorem plc115 : plcB Tryd.prog 115 = true := by kernel_rfl
@[simp] theorem fld115_0 : fldi Tryd.prog 115 0 = some (0, 0, true) := by kernel_rfl
@[simp] theorem sz115 : sz Tryd.prog 115 = some 0 := by kernel_rfl
@[simp] theorem agg115 : aggB Tryd.prog 115 = some true := by kernel_rfl
@[simp] theorem zr115 : zr Tryd.prog 115 = some (.agg #[]) := by kernel_rfl
@[simp] theorem plc116 : plcB Tryd.prog 116 = true := by kernel_rfl
@[simp] theorem fld116_0 : fldi Tryd.prog 116 0 = some (0, 0, true) := by kernel_rfl
@[simp] theorem sz116 : sz Tryd.prog 116 = some 0 := by kernel_rfl
@[simp] theorem agg116 : aggB Tryd.prog 116 = some true := by kernel_rfl
@[simp] theorem zr116 : zr Tryd.prog 116 = some (.agg #[]) := by kernel_rfl
attribute [simp] Tryd.underlying117
attribute [simp] Tryd.underlying118
@[simp] theorem sz118 : sz Tryd.prog 118 = some 1 := by kernel_rfl
@[simp] theorem agg118 : aggB Tryd.prog 118 = some false := by kernel_rfl
@[simp] theorem zr118 : zr Tryd.prog 118 = some (.int .u8 0) := by kernel_rfl
@[simp] theorem lesz118 : lesz Tryd.prog 118 = some 1 := by kernel_rfl
attribute [simp] Tryd.underlying119
@[simp] theorem sz119 : sz Tryd.prog 119 = some 1 := by kernel_rfl
@[simp] theorem agg119 : aggB Tryd.prog 119 = some false := by kernel_rfl
@[simp] theorem zr119 : zr Tryd.prog 119 = some (.int .u8 0) := by kernel_rfl
@[simp] theorem lesz119 : lesz Tryd.prog 119 = some 1 := by kernel_rfl
attribute [simp] Tryd.underlying120
attribute [simp] Tryd.underlying121
@[simp] theorem sz121 : sz Tryd.prog 121 = some 1 := by kernel_rfl
@[simp] theorem agg121 : aggB Tryd.prog 121 = some false := by kernel_rfl
@[simp] theorem zr121 : zr Tryd.prog 121 = some (.int .i32 0) := by kernel_rfl
@[simp] theorem lesz121 : lesz Tryd.prog 121 = some 1 := by kernel_rfl
attribute [simp] Tryd.underlying122
@[simp] theorem sz122 : sz Tryd.prog 122 = some 1 := by kernel_rfl
@[simp] theorem agg122 : aggB Tryd.prog 122 = some false := by kernel_rfl
@[simp] theorem zr122 : zr Tryd.prog 122 = some (.int .i32 0) := by kernel_rfl
@[simp] theorem lesz122 : lesz Tryd.prog 122 = some 1 := by kernel_rfl
@[simp] theorem plc123 : plcB Tryd.prog 123 = true := by kernel_rfl
@[simp] theorem fld123_0 : fldi Tryd.prog 123 0 = some (0, 1, false) := by kernel_rfl
@[simp] theorem fld123_1 : fldi Tryd.prog 123 1 = some (1, 1, false) := by kernel_rfl
@[simp] theorem fld123_2 : fldi Tryd.prog 123 2 = some (2, 1, false) := by kernel_rfl
@[simp] theorem fld123_3 : fldi Tryd.prog 123 3 = some (3, 1, false) := by kernel_rfl
@[simp] theorem fld123_4 : fldi Tryd.prog 123 4 = some (4, 1, false) := by kernel_rfl
@[simp] theorem fld123_5 : fldi Tryd.prog 123 5 = some (5, 1, false) := by kernel_rfl
@[simp] theorem fld123_6 : fldi Tryd.prog 123 6 = some (6, 1, false) := by kernel_rfl
@[simp] theorem fld123_7 : fldi Tryd.prog 123 7 = some (7, 1, false) := by kernel_rfl
@[simp] theorem fld123_8 : fldi Tryd.prog 123 8 = some (8, 1, false) := by kernel_rfl
@[simp] theorem fld123_9 : fldi Tryd.prog 123 9 = some (9, 1, false) := by kernel_rfl
@[simp] theorem fld123_10 : fldi Tryd.prog 123 10 = some (10, 1, false) := by kernel_rfl
@[simp] theorem sz123 : sz Tryd.prog 123 = some 11 := by kernel_rfl
@[simp] theorem agg123 : aggB Tryd.prog 123 = some true := by kernel_rfl
@[simp] theorem zr123 : zr Tryd.prog 123 = some (.agg #[.int .u64 0, .int .u64 0, .int .u32 0, .int .u8 0, .int .u8 0, .int .u8 0, .int .u8 0, .nilFunc, .pointer none, .int .i32 0, .int .i32 0]) := by kernel_rfl
@[simp] theorem lesz123 : lesz Tryd.prog 123 = some 11 := by kernel_rfl
@[simp] theorem plc124 : plcB Tryd.prog 124 = true := by kernel_rfl
@[simp] theorem fld124_0 : fldi Tryd.prog 124 0 = some (0, 1, false) := by kernel_rfl
@[simp] theorem fld124_1 : fldi Tryd.prog 124 1 = some (1, 1, false) := by kernel_rfl
@[simp] theorem fld124_2 : fldi Tryd.prog 124 2 = some (2, 1, false) := by kernel_rfl
@[simp] theorem fld124_3 : fldi Tryd.prog 124 3 = some (3, 1, false) := by kernel_rfl
@[simp] theorem fld124_4 : fldi Tryd.prog 124 4 = some (4, 1, false) := by kernel_rfl
@[simp] theorem fld124_5 : fldi Tryd.prog 124 5 = some (5, 1, false) := by kernel_rfl
@[simp] theorem fld124_6 : fldi Tryd.prog 124 6 = some (6, 1, false) := by kernel_rfl
@[simp] theorem fld124_7 : fldi Tryd.prog 124 7 = some (7, 1, false) := by kernel_rfl
@[simp] theorem fld124_8 : fldi Tryd.prog 124 8 = some (8, 1, false) := by kernel_rfl
@[simp] theorem fld124_9 : fldi Tryd.prog 124 9 = some (9, 1, false) := by kernel_rfl
@[simp] theorem fld124_10 : fldi Tryd.prog 124 10 = some (10, 1, false) := by kernel_rfl
@[simp] theorem sz124 : sz Tryd.prog 124 = some 11 := by kernel_rfl
@[simp] theorem agg124 : aggB Tryd.prog 124 = some true := by kernel_rfl
@[simp] theorem zr124 : zr Tryd.prog 124 = some (.agg #[.int .u64 0, .int .u64 0, .int .u32 0, .int .u8 0, .int .u8 0, .int .u8 0, .int .u8 0, .nilFunc, .pointer none, .int .i32 0, .int .i32 0]) := by kernel_rfl
@[simp] theorem lesz124 : lesz Tryd.prog 124 = some 11 := by kernel_rfl
set_option linter.all false
attribute [simp] Tryd.results0 Tryd.ntmps0
attribute [simp] Tryd.results1 Tryd.ntmps1
attribute [simp] Tryd.results2 Tryd.ntmps2
attribute [simp] Tryd.results3 Tryd.ntmps3
attribute [simp] Tryd.results4 Tryd.ntmps4
attribute [simp] Tryd.results5 Tryd.ntmps5
attribute [simp] Tryd.results6 Tryd.ntmps6
attribute [simp] Tryd.results7 Tryd.ntmps7
attribute [simp] Tryd.results8 Tryd.ntmps8
attribute [simp] Tryd.results9 Tryd.ntmps9
attribute [simp] Tryd.results10 Tryd.ntmps10
attribute [simp] Tryd.results11 Tryd.ntmps11
attribute [simp] Tryd.results12 Tryd.ntmps12
attribute [simp] Tryd.results13 Tryd.ntmps13
attribute [simp] Tryd.results14 Tryd.ntmps14
attribute [simp] Tryd.results15 Tryd.ntmps15
attribute [simp] Tryd.results16 Tryd.ntmps16
attribute [simp] Tryd.results17 Tryd.ntmps17
attribute [simp] Tryd.results18 Tryd.ntmps18
attribute [simp] Tryd.results19 Tryd.ntmps19
attribute [simp] Tryd.results20 Tryd.ntmps20
attribute [simp] Tryd.results21 Tryd.ntmps21
attribute [simp] Tryd.results22 Tryd.ntmps22
attribute [simp] Tryd.results23 Tryd.ntmps23
attribute [simp] Tryd.results24 Tryd.ntmps24
attribute [simp] Tryd.results25 Tryd.ntmps25
attribute [simp] Tryd.results26 Tryd.ntmps26
attribute [simp] Tryd.results27 Tryd.ntmps27
attribute [simp] Tryd.results28 Tryd.ntmps28
attribute [simp] Tryd.results29 Tryd.ntmps29
attribute [simp] Tryd.results30 Tryd.ntmps30
attribute [simp] Tryd.results31 Tryd.ntmps31
attribute [simp] Tryd.results32 Tryd.ntmps32
attribute [simp] Tryd.results33 Tryd.ntmps33
attribute [simp] Tryd.results34 Tryd.ntmps34
attribute [simp] Tryd.results35 Tryd.ntmps35
attribute [simp] Tryd.results36 Tryd.ntmps36
attribute [simp] Tryd.results37 Tryd.ntmps37
attribute [simp] Tryd.results38 Tryd.ntmps38
attribute [simp] Tryd.results39 Tryd.ntmps39
attribute [simp] Tryd.results40 Tryd.ntmps40
attribute [simp] Tryd.results41 Tryd.ntmps41
attribute [simp] Tryd.results42 Tryd.ntmps42
attribute [simp] Tryd.results43 Tryd.ntmps43
attribute [simp] Tryd.results44 Tryd.ntmps44
attribute [simp] Tryd.results45 Tryd.ntmps45
attribute [simp] Tryd.results46 Tryd.ntmps46
attribute [simp] Tryd.results47 Tryd.ntmps47
attribute [simp] Tryd.results48 Tryd.ntmps48
attribute [simp] Tryd.results49 Tryd.ntmps49
attribute [simp] Tryd.results50 Tryd.ntmps50
attribute [simp] Tryd.results51 Tryd.ntmps51
attribute [simp] Tryd.results52 Tryd.ntmps52
attribute [simp] Tryd.results53 Tryd.ntmps53
attribute [simp] Tryd.results54 Tryd.ntmps54
attribute [simp] Tryd.results55 Tryd.ntmps55
attribute [simp] Tryd.results56 Tryd.ntmps56
attribute [simp] Tryd.results57 Tryd.ntmps57
attribute [simp] Tryd.results58 Tryd.ntmps58
attribute [simp] Tryd.results59 Tryd.ntmps59
attribute [simp] Tryd.results60 Tryd.ntmps60
attribute [simp] Tryd.results61 Tryd.ntmps61
attribute [simp] Tryd.results62 Tryd.ntmps62
attribute [simp] Tryd.results63 Tryd.ntmps63
attribute [simp] Tryd.results64 Tryd.ntmps64
attribute [simp] Tryd.results65 Tryd.ntmps65
attribute [simp] Tryd.results66 Tryd.ntmps66
attribute [simp] Tryd.results67 Tryd.ntmps67
attribute [simp] Tryd.results68 Tryd.ntmps68
attribute [simp] Tryd.results69 Tryd.ntmps69
attribute [simp] Tryd.results70 Tryd.ntmps70
attribute [simp] Tryd.results71 Tryd.ntmps71
attribute [simp] Tryd.results72 Tryd.ntmps72
attribute [simp] Tryd.results73 Tryd.ntmps73
attribute [simp] Tryd.results74 Tryd.ntmps74
attribute [simp] Tryd.results75 Tryd.ntmps75
attribute [simp] Tryd.results76 Tryd.ntmps76
attribute [simp] Tryd.results77 Tryd.ntmps77
attribute [simp] Tryd.results78 Tryd.ntmps78
attribute [simp] Tryd.results79 Tryd.ntmps79
attribute [simp] Tryd.results80 Tryd.ntmps80
attribute [simp] Tryd.results81 Tryd.ntmps81
attribute [simp] Tryd.results82 Tryd.ntmps82
attribute [simp] Tryd.results83 Tryd.ntmps83
attribute [simp] Tryd.results84 Tryd.ntmps84
attribute [simp] Tryd.results85 Tryd.ntmps85
attribute [simp] Tryd.results86 Tryd.ntmps86
attribute [simp] Tryd.results87 Tryd.ntmps87
attribute [simp] Tryd.results88 Tryd.ntmps88
attribute [simp] Tryd.results89 Tryd.ntmps89
attribute [simp] Tryd.results90 Tryd.ntmps90
attribute [simp] Tryd.results91 Tryd.ntmps91
attribute [simp] Tryd.results92 Tryd.ntmps92
attribute [simp] Tryd.results93 Tryd.ntmps93
attribute [simp] Tryd.results94 Tryd.ntmps94
attribute [simp] Tryd.results95 Tryd.ntmps95
attribute [simp] Tryd.results96 Tryd.ntmps96
attribute [simp] Tryd.results97 Tryd.ntmps97
attribute [simp] Tryd.results98 Tryd.ntmps98
attribute [simp] Tryd.results99 Tryd.ntmps99
attribute [simp] Tryd.results100 Tryd.ntmps100
attribute [simp] Tryd.results101 Tryd.ntmps101
attribute [simp] Tryd.results102 Tryd.ntmps102
attribute [simp] Tryd.results103 Tryd.ntmps103
attribute [simp] Tryd.results104 Tryd.ntmps104
attribute [simp] Tryd.results105 Tryd.ntmps105
attribute [simp] Tryd.results106 Tryd.ntmps106
attribute [simp] Tryd.results107 Tryd.ntmps107
attribute [simp] Tryd.results108 Tryd.ntmps108
attribute [simp] Tryd.results109 Tryd.ntmps109
attribute [simp] Tryd.results110 Tryd.ntmps110
attribute [simp] Tryd.results111 Tryd.ntmps111
attribute [simp] Tryd.results112 Tryd.ntmps112
attribute [simp] Tryd.results113 Tryd.ntmps113
attribute [simp] Tryd.results114 Tryd.ntmps114
theorem mixed : Tryd.prog.follows .mixedOrders = true := by kernel_rfl
end Go.Proofs.YthgcgjpbhbikaaaDoor
/-
  A logical run of Go code: rows of cells that grow and shrink.
-/
set_option linter.unusedSimpArgs false
set_option linter.unusedVariables false
namespace Go.Lg
open Go.Tg Go.RowKit

section
variable {P : Program} {H H' : LH} {v x : Value} {xs : List Value} {e t : TypeId} {N : Nat} {b : LB}
/-- v is a row of the cells xs, in a block behind N -/
def Row (N : Nat) (H : LH) (e : TypeId) (v : Value) (xs : List Value) : Prop :=
  (v = .slice none 0 0 ∧ xs = []) ∨ ∃ k c rest, v = sl k xs.length c ∧ N ≤ k ∧ H.get k = some ⟨xs ++ rest, e, true⟩ ∧ c = xs.length + rest.length
/-- blocks that are no row's -/
def offRow (v : Value) (k : Nat) : Prop := ∀ n c, v ≠ sl k n c
theorem Row.nil : Row N H e (.slice none 0 0) [] := .inl ⟨rfl, rfl⟩
theorem Row.len (h : Row N H e v xs) (hu : P.underlying t = some (.slice e)) : lbuiltin P .len [t] [v] H' = some (.int .i64 xs.length, H') := by
  rcases h with ⟨rfl, rfl⟩ | ⟨k, c, rest, rfl, _⟩
  · exact lbuiltin_len_slice hu
  · exact lbuiltin_len_slice hu
theorem Row.cell (h : Row N H e v xs) : cellB v = true := by
  rcases h with ⟨rfl, rfl⟩ | ⟨k, c, rest, rfl, _⟩ <;> simp
theorem Row.keep (h : Row N H e v xs) (hk : ∀ k, N ≤ k → ¬ offRow v k → H'.get k = H.get k) : Row N H' e v xs := by
  rcases h with ⟨rfl, rfl⟩ | ⟨k, c, rest, rfl, h1, h2, h3⟩
  · exact .inl ⟨rfl, rfl⟩
  · exact .inr ⟨k, c, rest, rfl, h1, by rw [hk k h1 (fun h => h _ _ rfl)]; exact h2, h3⟩
theorem Row.off_of_elem (h : Row N H e v xs) {l : Nat} (hl : H.get l = some b) (hne : b.elem ≠ e) : offRow v l := by
  rcases h with ⟨rfl, rfl⟩ | ⟨k, c, rest, rfl, h1, h2, h3⟩
  · intro n c h; cases h
  · intro n c h
    injection h with h
    injection h with h
    injection h with h
    subst h
    rw [h2] at hl
    injection hl with hl
    subst hl
    exact hne rfl
theorem off_nil {k : Nat} : offRow (.slice none 0 0) k := fun n c h => by cases h
/-- one element more -/
theorem Row.push (h : Row N H e v xs) (hu : P.underlying t = some (.slice e)) (hs : lesz P e = some 1) (hx : cellB x = true) (hm : xs.length + 1 ≤ maxElems) (hN : N ≤ H.n) (hdom : ∀ l, H.n ≤ l → H.get l = none) :
    ∃ v' H', lapp P t v (some (1, [x])) H = some (v', H') ∧ Row N H' e v' (xs ++ [x]) ∧ H.n ≤ H'.n ∧ (∀ k, k < H.n → offRow v k → H'.get k = H.get k) ∧ (∀ k, k < H.n → offRow v k → offRow v' k) ∧ (∀ l, H'.n ≤ l → H'.get l = none) ∧ H'.base = H.base ∧ H'.ng = H.ng := by
  have hc : [x].all cellB = true := by simp [hx]
  rcases h with ⟨rfl, rfl⟩ | ⟨k, c, rest, rfl, h1, h2, h3⟩
  · refine ⟨_, _, lapp_nil hu hs hc (by omega) (by simp [maxElems]), .inr ⟨H.n, 1, [], rfl, hN, by simp, rfl⟩, by simp, fun k hk _ => get_new_ne (by omega), fun k hk _ n c h => ?_, fun l hl => ?_, rfl, rfl⟩
    · injection h with h
      injection h with h
      injection h with h
      omega
    · have : H.n + 1 ≤ l := hl
      rw [get_new_ne (by omega)]; exact hdom l (by omega)
  · have hklt : k < H.n := by
      rcases Nat.lt_or_ge k H.n with h | h
      · exact h
      · rw [hdom k h] at h2; cases h2
    cases rest with
    | nil =>
      simp only [List.length_nil, Nat.add_zero] at h3
      subst h3
      have ha := lapp_grow (P := P) (H := H) (t := t) (m := 1) (new := [x]) (n := xs.length) (s := 1) hu hs hc (by omega) hm h2 rfl rfl (by simp)
      simp only [List.append_nil] at ha h2
      refine ⟨_, _, ha, .inr ⟨H.n, xs.length + 1, [], by simp, hN, ?_, by simp⟩, by simp, fun j hj ho => ?_, fun j hj ho n c h => ?_, fun l hl => ?_, rfl, rfl⟩
      · rw [show H.n = (H.kill k).n from rfl, get_new]; simp
      · have hjk : j ≠ k := fun e => ho _ _ (by rw [e])
        rw [get_new_ne (by simp; omega), get_kill_ne hjk]
      · injection h with h
        injection h with h
        injection h with h
        omega
      · have : H.n + 1 ≤ l := hl
        rw [get_new_ne (by simp; omega), get_kill_ne (by omega)]; exact hdom l (by omega)
    | cons z rest =>
      have ha := lapp_in (P := P) (H := H) (t := t) (m := 1) (new := [x]) (n := xs.length) (cp := c) (s := 1) hu hs hc (by omega) h2 rfl rfl (by simp [h3]) (by simp [h3])
      refine ⟨_, _, ha, .inr ⟨k, c, rest, by simp, h1, ?_, by simp [h3]; omega⟩, by simp, fun j hj ho => ?_, fun j hj ho n c' h => ?_, fun l hl => ?_, rfl, rfl⟩
      · rw [get_set]
        congr 2
        simp [splice]
      · have hjk : j ≠ k := fun e => ho _ _ (by rw [e])
        rw [get_set_ne hjk]
      · injection h with h
        injection h with h
        injection h with h
        subst h
        exact ho _ _ rfl
      · have : H.n ≤ l := hl
        rw [get_set_ne (by omega)]; exact hdom l this
/-- fewer elements -/
theorem Row.take (h : Row N H e v xs) (hu : P.underlying t = some (.slice e)) (hs : sz P e = some 1) {j : Int} {kd : IntKind} (h0 : 0 ≤ j) (h1 : j < xs.length) : ∃ v', lpart P t v none (some (.int kd j)) = some v' ∧ Row N H e v' (xs.take j.toNat) ∧ ∀ k, offRow v k → offRow v' k := by
  rcases h with ⟨rfl, rfl⟩ | ⟨k, c, rest, rfl, g1, g2, g3⟩
  · simp at h1; omega
  · refine ⟨_, lpart_row_ns hu hs h0 (by omega), .inr ⟨k, c, xs.drop j.toNat ++ rest, ?_, g1, ?_, ?_⟩, fun i hi n c' h => ?_⟩
    · rw [List.length_take, Nat.min_eq_left (by omega)]
    · rw [← List.append_assoc, List.take_append_drop]; exact g2
    · simp; omega
    · injection h with h
      injection h with h
      injection h with h
      subst h
      exact hi _ _ rfl
/-- an element is read -/
theorem Row.at (h : Row N H e v xs) (hu : P.underlying t = some (.slice e)) (hs : sz P e = some 1) (ha : aggB P e = some false) {j : Int} {kd : IntKind} (h0 : 0 ≤ j) (h1 : j < xs.length) {d : Value} : ∃ p, lixa P t v (.int kd j) H' = some (p, H') ∧ lld P e p H = some (xs.getD j.toNat d) := by
  rcases h with ⟨rfl, rfl⟩ | ⟨k, c, rest, rfl, g1, g2, g3⟩
  · simp at h1; omega
  · refine ⟨_, lixa_row hu hs h0 (by omega), ?_⟩
    rw [lld_ptr g2, ha]
    simp only [lldb_cell, Nat.zero_add, Nat.mul_one]
    have hlt : j.toNat < xs.length := by omega
    rw [List.getElem?_append, if_pos hlt, List.getD_eq_getElem?_getD, List.getElem?_eq_getElem hlt]; rfl
end
end Go.Lg
/-
  A logical run of Go code: rows of elements of any size, that take many elements at once.
-/
set_option linter.unusedSimpArgs false
set_option linter.unusedVariables false
namespace Go.Lg
open Go.Tg Go.RowKit

section
variable {P : Program} {H H' : LH} {v x : Value} {xs new : List Value} {e t : TypeId} {N n m s : Nat} {b : LB}
/-- v is a row of n elements of s cells, in a block behind N -/
def RowN (N : Nat) (H : LH) (e : TypeId) (s : Nat) (v : Value) (n : Nat) (xs : List Value) : Prop :=
  xs.length = n * s ∧ ((v = .slice none 0 0 ∧ n = 0) ∨ ∃ k c rest, v = sl k n c ∧ N ≤ k ∧ k < H.n ∧ H.get k = some ⟨xs ++ rest, e, true⟩ ∧ n ≤ c ∧ (xs ++ rest).length = c * s)
theorem RowN.nil : RowN N H e s (.slice none 0 0) 0 [] := ⟨by simp, .inl ⟨rfl, rfl⟩⟩
theorem RowN.lt (h : RowN N H e s v n xs) : xs.length = n * s := h.1
theorem RowN.len (h : RowN N H e s v n xs) (hu : P.underlying t = some (.slice e)) : lbuiltin P .len [t] [v] H' = some (.int .i64 n, H') := by
  rcases h.2 with ⟨rfl, rfl⟩ | ⟨k, c, rest, rfl, _⟩
  · exact lbuiltin_len_slice hu
  · exact lbuiltin_len_slice hu
theorem RowN.cell (h : RowN N H e s v n xs) : cellB v = true := by
  rcases h.2 with ⟨rfl, rfl⟩ | ⟨k, c, rest, rfl, _⟩ <;> simp
theorem RowN.keep (h : RowN N H e s v n xs) (hn : H.n ≤ H'.n) (hk : ∀ k, N ≤ k → ¬ offRow v k → k < H.n → H'.get k = H.get k) : RowN N H' e s v n xs := by
  refine ⟨h.1, ?_⟩
  rcases h.2 with ⟨rfl, rfl⟩ | ⟨k, c, rest, rfl, h1, h2, h3, h4, h5⟩
  · exact .inl ⟨rfl, rfl⟩
  · exact .inr ⟨k, c, rest, rfl, h1, by omega, by rw [hk k h1 (fun h => h _ _ rfl) h2]; exact h3, h4, h5⟩
theorem RowN.off_of_elem (h : RowN N H e s v n xs) {l : Nat} (hl : H.get l = some b) (hne : b.elem ≠ e) : offRow v l := by
  rcases h.2 with ⟨rfl, rfl⟩ | ⟨k, c, rest, rfl, _, _, h2, _⟩
  · exact off_nil
  · intro n c h
    injection h with h
    injection h with h
    injection h with h
    subst h
    rw [h2] at hl
    injection hl with hl
    subst hl
    exact hne rfl
theorem RowN.off_ge (h : RowN N H e s v n xs) {l : Nat} (hl : H.n ≤ l) : offRow v l := by
  rcases h.2 with ⟨rfl, rfl⟩ | ⟨k, c, rest, rfl, _, h1, _⟩
  · exact off_nil
  · intro n c h
    injection h with h
    injection h with h
    injection h with h
    omega
theorem RowN.off_lt (h : RowN N H e s v n xs) {l : Nat} (hl : l < N) : offRow v l := by
  rcases h.2 with ⟨rfl, rfl⟩ | ⟨k, c, rest, rfl, h1, _⟩
  · exact off_nil
  · intro n c h
    injection h with h
    injection h with h
    injection h with h
    omega
/-- a row without room -/
def Full (v : Value) : Prop := ∀ k n c, v = sl k n c → c = n
theorem full_new {k n : Nat} : Full (sl k n n) := fun k' n' c' h => by
  injection h with _ h1 h2
  omega
theorem full_nil : Full (.slice none 0 0) := fun k n c h => by cases h
/-- what an append leaves -/
structure Kept (H H' : LH) (v v' : Value) : Prop where
  le : H.n ≤ H'.n
  get : ∀ k, k < H.n → offRow v k → H'.get k = H.get k
  off : ∀ k, k < H.n → offRow v k → offRow v' k
  base : H'.base = H.base
  ng : H'.ng = H.ng
/-- elements more -/
theorem RowN.app (h : RowN N H e s v n xs) (hu : P.underlying t = some (.slice e)) (hs : lesz P e = some s) (hc : new.all cellB = true) (hl : new.length = m * s) (hm : n + m ≤ maxElems) (hN : N ≤ H.n) (hf : m ≤ 1 ∨ Full v) :
    ∃ v' H', lapp P t v (some (m, new)) H = some (v', H') ∧ RowN N H' e s v' (n + m) (xs ++ new) ∧ Kept H H' v v' ∧ (Full v → Full v') := by
  have hlen : (xs ++ new).length = (n + m) * s := by rw [List.length_append, h.1, hl, Nat.add_mul]
  by_cases h0 : m = 0
  · subst h0
    have hn0 : new = [] := List.eq_nil_of_length_eq_zero (by rw [hl, Nat.zero_mul])
    subst hn0
    refine ⟨v, H, ?_, by simpa using h, ⟨Nat.le_refl _, fun _ _ _ => rfl, fun _ _ h => h, rfl, rfl⟩, fun h => h⟩
    rcases h.2 with ⟨rfl, rfl⟩ | ⟨k, c, rest, rfl, _, _, h2, h3, h4⟩
    · exact lapp_nil0 hu hs
    · simp only [lapp, hu, hs, hc, h2, if_true]
      rw [if_pos ⟨trivial, trivial, trivial, h4, h3⟩]
  rcases h.2 with ⟨rfl, rfl⟩ | ⟨k, c, rest, rfl, h1, h2, h3, h4, h5⟩
  · have hx : xs = [] := List.eq_nil_of_length_eq_zero (by rw [h.1, Nat.zero_mul])
    subst hx
    refine ⟨_, _, lapp_nil hu hs hc h0 (by omega), ⟨hlen, .inr ⟨H.n, m, [], by simp, hN, by simp, by simp, by omega, by simpa using hl⟩⟩, ⟨by simp, fun k hk _ => get_new_ne (by omega), fun k hk _ n c h => ?_, rfl, rfl⟩, fun _ => full_new⟩
    injection h with h
    injection h with h
    injection h with h
    omega
  · rcases Nat.lt_or_ge c (n + m) with hroom | hroom
    · by_cases hnc : n = c
      · subst hnc
        have hr : rest = [] := List.eq_nil_of_length_eq_zero (by rw [List.length_append, h.1] at h5; omega)
        subst hr
        rw [List.append_nil] at h3
        have ha := lapp_grow (P := P) (H := H) (t := t) (m := m) (new := new) (n := n) (s := s) hu hs hc h0 hm h3 rfl rfl h.1
        refine ⟨_, _, ha, ⟨hlen, .inr ⟨H.n, n + m, [], by simp, hN, by simp, ?_, Nat.le_refl _, by simpa using hlen⟩⟩, ⟨by simp, fun j hj ho => ?_, fun j hj ho n c h => ?_, rfl, rfl⟩, fun _ => full_new⟩
        · rw [show H.n = (H.kill k).n from rfl, get_new]; simp
        · have hjk : j ≠ k := fun e => ho _ _ (by rw [e])
          rw [get_new_ne (by simp; omega), get_kill_ne hjk]
        · injection h with h
          injection h with h
          injection h with h
          omega
      · exfalso
        rcases hf with hf | hf
        · omega
        · exact hnc (hf k n c rfl).symm
    · have ha := lapp_in (P := P) (H := H) (t := t) (m := m) (new := new) (n := n) (cp := c) (s := s) hu hs hc h0 h3 rfl rfl h5 hroom
      have hrest : rest.length = (c - n) * s := by
        rw [List.length_append, h.1] at h5
        rw [Nat.sub_mul]; omega
      have hmr : m * s ≤ (c - n) * s := Nat.mul_le_mul_right _ (by omega)
      refine ⟨_, _, ha, ⟨hlen, .inr ⟨k, c, rest.drop (m * s), rfl, h1, h2, ?_, hroom, ?_⟩⟩, ⟨Nat.le_refl _, fun j hj ho => ?_, fun j hj ho n c' h => ?_, rfl, rfl⟩, fun hf => absurd (hf k n c rfl) (by omega)⟩
      · rw [get_set]
        congr 2
        simp only [splice]
        rw [← h.1, List.take_left', List.drop_append, hl]
        · simp [List.drop_eq_nil_of_le]
        · rfl
      · rw [List.length_append, hlen, List.length_drop, hrest, ← Nat.sub_mul, ← Nat.add_mul]
        congr 1; omega
      · have hjk : j ≠ k := fun e => ho _ _ (by rw [e])
        rw [get_set_ne hjk]
      · injection h with h
        injection h with h
        injection h with h
        subst h
        exact ho _ _ rfl
end
end Go.Lg
/-
  A logical run of Go code: rules for regions whose order is open.
-/
set_option linter.unusedSimpArgs false
set_option linter.unusedVariables false
namespace Go.Lg
open Go.Tg Go.RowKit
section
variable {P : Program} {fr : Fr} {H H0 : LH} {T : Callee} {L : Loud} {t s : TypeId} {x y i c : Operand}
@[simp ↓] theorem lmixx_move : lmixx P T (.move x) fr H0 H = lopx P T (.move x) fr H := rfl
@[simp ↓] theorem loud_move : loudOp L (.move x) = false := rfl
@[simp ↓] theorem lmixx_assign : lmixx P T (.assign x) fr H0 H = lopx P T (.assign x) fr H := rfl
@[simp ↓] theorem loud_assign : loudOp L (.assign x) = false := rfl
@[simp ↓] theorem lmixx_pick : lmixx P T (.pick c x y) fr H0 H = lopx P T (.pick c x y) fr H := rfl
@[simp ↓] theorem loud_pick : loudOp L (.pick c x y) = false := rfl
@[simp ↓] theorem lmixx_box : lmixx P T (.box t x) fr H0 H = lopx P T (.box t x) fr H := rfl
@[simp ↓] theorem loud_box : loudOp L (.box t x) = false := rfl
@[simp ↓] theorem lmixx_alloc : lmixx P T (.alloc t) fr H0 H = lopx P T (.alloc t) fr H := rfl
@[simp ↓] theorem loud_alloc : loudOp L (.alloc t) = false := rfl
@[simp ↓] theorem lmixx_load : lmixx P T (.load t x) fr H0 H = lopx P T (.load t x) fr H := rfl
@[simp ↓] theorem loud_load : loudOp L (.load t x) = false := rfl
@[simp ↓] theorem lmixx_nilCheck : lmixx P T (.nilCheck x) fr H0 H = lopx P T (.nilCheck x) fr H := rfl
@[simp ↓] theorem loud_nilCheck : loudOp L (.nilCheck x) = false := rfl
@[simp ↓] theorem lmixx_fieldAddr {f : Nat} : lmixx P T (.fieldAddr t x f) fr H0 H = lopx P T (.fieldAddr t x f) fr H := rfl
@[simp ↓] theorem loud_fieldAddr {f : Nat} : loudOp L (.fieldAddr t x f) = false := rfl
@[simp ↓] theorem lmixx_indexAddr : lmixx P T (.indexAddr t x i) fr H0 H = lopx P T (.indexAddr t x i) fr H := rfl
@[simp ↓] theorem loud_indexAddr : loudOp L (.indexAddr t x i) = false := rfl
@[simp ↓] theorem lmixx_slice {lo hi mx : Option Operand} : lmixx P T (.slice t x lo hi mx) fr H0 H = lopx P T (.slice t x lo hi mx) fr H := rfl
@[simp ↓] theorem loud_slice {lo hi mx : Option Operand} : loudOp L (.slice t x lo hi mx) = false := rfl
@[simp ↓] theorem lmixx_field {f : Nat} : lmixx P T (.field t x f) fr H0 H = lopx P T (.field t x f) fr H := rfl
@[simp ↓] theorem loud_field {f : Nat} : loudOp L (.field t x f) = false := rfl
@[simp ↓] theorem lmixx_extract {f : Nat} : lmixx P T (.extract x f) fr H0 H = lopx P T (.extract x f) fr H := rfl
@[simp ↓] theorem loud_extract {f : Nat} : loudOp L (.extract x f) = false := rfl
@[simp ↓] theorem lmixx_build {ps : Array (Nat × Operand)} : lmixx P T (.build t ps) fr H0 H = lopx P T (.build t ps) fr H := rfl
@[simp ↓] theorem loud_build {ps : Array (Nat × Operand)} : loudOp L (.build t ps) = false := rfl
@[simp ↓] theorem lmixx_buildSlice {f : Nat} {ps : Array (Nat × Operand)} : lmixx P T (.buildSlice t f ps) fr H0 H = lopx P T (.buildSlice t f ps) fr H := rfl
@[simp ↓] theorem loud_buildSlice {f : Nat} {ps : Array (Nat × Operand)} : loudOp L (.buildSlice t f ps) = false := rfl
@[simp ↓] theorem lmixx_binOp {op : BinOp} : lmixx P T (.binOp op t x y s) fr H0 H = lopx P T (.binOp op t x y s) fr H := rfl
@[simp ↓] theorem loud_binOp {op : BinOp} : loudOp L (.binOp op t x y s) = false := rfl
@[simp ↓] theorem lmixx_unOp {uop : UnOp} : lmixx P T (.unOp uop t x) fr H0 H = lopx P T (.unOp uop t x) fr H := rfl
@[simp ↓] theorem loud_unOp {uop : UnOp} : loudOp L (.unOp uop t x) = false := rfl
/-- a conversion in a region whose order is open -/
def lcvQ (P : Program) (s d : TypeId) (v : Value) (H : LH) : Option (Value × LH) := match lbytes P s d v H with
  | some r => some r
  | none => withH (lconv P s d v H) H
@[simp ↓] theorem lmixx_convert : lmixx P T (.convert s t x) fr H0 H = lcvQ P s t (ev fr x) H := by
  show (match lbytes P s t (ev fr x) H with | some r => some r | none => lopx P T (.convert s t x) fr H) = _
  rw [lopx_conv]; rfl
theorem lcvQ_no {v : Value} (h : ∀ bs, v ≠ .string bs) : lcvQ P s t v H = withH (lconv P s t v H) H := by
  unfold lcvQ; rw [lbytes_no h]
@[simp] theorem lcvQ_int {kd : IntKind} {n : Int} : lcvQ P s t (.int kd n) H = withH (lconv P s t (.int kd n) H) H := lcvQ_no (fun _ h => by cases h)
@[simp] theorem lcvQ_float {kd : FloatKind} {n : Nat} : lcvQ P s t (.float kd n) H = withH (lconv P s t (.float kd n) H) H := lcvQ_no (fun _ h => by cases h)
@[simp] theorem lcvQ_slice {a : Option Addr} {n c : Nat} : lcvQ P s t (.slice a n c) H = withH (lconv P s t (.slice a n c) H) H := lcvQ_no (fun _ h => by cases h)
@[simp] theorem lcvQ_undef : lcvQ P s t undef H = withH (lconv P s t undef H) H := lcvQ_no (fun _ h => by cases h)
theorem lcvQ_str {l : List UInt8} : lcvQ P s t (str l) H = lcvB P s t (str l) H := by
  have e2 : lmark P s t (str l) H = none := by
    unfold lmark
    split
    · rename_i h; cases h
    · rfl
  unfold lcvQ lcvB lbytesM
  rw [e2]
  cases lbytes P s t (str l) H <;> rfl
@[simp] theorem lcvQ_bytes {e : TypeId} {l : List UInt8} (hs : P.underlying s = some .string) (hd : P.underlying t = some (.slice e)) (he : P.underlying e = some (.int .u8)) (hz : sz P e = some 1) : lcvQ P s t (str l) H = some (.slice (some ⟨H.n, 0, none⟩) l.length l.length, H.new ⟨l.map fun b => Value.int .u8 b.toNat, MK P e, decide (l.length ≤ maxLen)⟩) := by
  rw [lcvQ_str]; exact lcvB_bytes hs hd he hz
@[simp] theorem lcvQ_strs {l : List UInt8} (hd : P.underlying t = some .string) : lcvQ P s t (str l) H = withH (lconv P s t (str l) H) H := by
  rw [lcvQ_str]; exact lcvB_strs hd
@[simp ↓] theorem lmixx_makeSlice : lmixx P T (.makeSlice t x y) fr H0 H = lopx P T (.makeSlice t x y) fr H := rfl
@[simp ↓] theorem loud_convert : loudOp L (.convert s t x) = false := rfl
@[simp ↓] theorem lmixx_index : lmixx P T (.index t x i) fr H0 H = lopx P T (.index t x i) fr H := rfl
@[simp ↓] theorem loud_index : loudOp L (.index t x i) = false := rfl
@[simp ↓] theorem lmixx_makeFunc {g : Fn} {c1 c2 : Array Operand} : lmixx P T (.makeFunc g c1 c2) fr H0 H = lopx P T (.makeFunc g c1 c2) fr H := rfl
@[simp ↓] theorem loud_makeFunc {g : Fn} {c1 c2 : Array Operand} : loudOp L (.makeFunc g c1 c2) = false := rfl
@[simp ↓] theorem loud_store : loudOp L (.store t x y) = true := rfl
@[simp ↓] theorem loud_append {args : Array Operand} {ts : Array TypeId} : loudOp L (.call ⟨.builtin .append, args, ts⟩) = true := rfl
@[simp ↓] theorem loud_len {args : Array Operand} {ts : Array TypeId} : loudOp L (.call ⟨.builtin .len, args, ts⟩) = false := rfl
@[simp ↓] theorem loud_min {args : Array Operand} {ts : Array TypeId} : loudOp L (.call ⟨.builtin .min, args, ts⟩) = false := rfl
@[simp ↓] theorem loud_max {args : Array Operand} {ts : Array TypeId} : loudOp L (.call ⟨.builtin .max, args, ts⟩) = false := rfl
@[simp ↓] theorem loud_call {g : FuncId} {args : Array Operand} {ts : Array TypeId} : loudOp L (.call ⟨.value (.func g), args, ts⟩) = L g := rfl
@[simp ↓] theorem loud_callt {g : Tmp} {args : Array Operand} {ts : Array TypeId} : loudOp L (.call ⟨.value (.tmp g), args, ts⟩) = false := rfl
def sameH (x : Option (Value × LH)) (H : LH) : Option (Value × LH) := x.map fun r => (r.1, H)
@[simp] theorem sameH_some {v : Value} {H1 : LH} : sameH (some (v, H1)) H = some (v, H) := rfl
@[simp] theorem sameH_none : sameH none H = none := rfl
@[simp ↓] theorem lmixx_len {args : List Operand} {ts : List TypeId} : lmixx P T (.call ⟨.builtin .len, ⟨args⟩, ⟨ts⟩⟩) fr H0 H = sameH (lbuiltin P .len ts (args.map (ev fr)) H) H := rfl
@[simp ↓] theorem lmixx_min {args : List Operand} {ts : List TypeId} : lmixx P T (.call ⟨.builtin .min, ⟨args⟩, ⟨ts⟩⟩) fr H0 H = sameH (lbuiltin P .min ts (args.map (ev fr)) H) H := rfl
@[simp ↓] theorem lmixx_max {args : List Operand} {ts : List TypeId} : lmixx P T (.call ⟨.builtin .max, ⟨args⟩, ⟨ts⟩⟩) fr H0 H = sameH (lbuiltin P .max ts (args.map (ev fr)) H) H := rfl
/-- a call in an open order: of numbers and texts, or ahead of all new blocks -/
def mcall (b : Bool) (x : Option (Value × LH)) (H : LH) : Option (Value × LH) := match b, x with | true, some (v, _) => if flatB v then some (v, H) else none | _, _ => none
@[simp] theorem mcall_some {v : Value} {H1 : LH} (h : flatB v = true) : mcall true (some (v, H1)) H = some (v, H) := by simp [mcall, h]
@[simp] theorem mcall_none {b : Bool} : mcall b none H = none := by cases b <;> rfl
@[congr] theorem mcall_congr {b b' : Bool} {x x' : Option (Value × LH)} (h1 : b = b') (h2 : x = x') : mcall b x H = mcall b' x' H := by rw [h1, h2]
def flatL : List Value → Bool
  | [] => true
  | v :: l => flatB v && flatL l
@[simp] theorem flatL_nil : flatL [] = true := rfl
@[simp] theorem flatL_cons {v : Value} {l : List Value} : flatL (v :: l) = (flatB v && flatL l) := rfl
theorem flatL_eq : ∀ l : List Value, l.all flatB = flatL l
  | [] => rfl
  | v :: l => by simp only [List.all_cons, flatL, flatL_eq l]
def lowH (H0 H : LH) (f : Value) (args : List Value) : Bool := H.n == H0.n || (flatB f && flatL args)
@[simp] theorem lowH_same {f : Value} {args : List Value} : lowH H H f args = true := by simp [lowH]
@[simp] theorem lowH_flat {f : Value} {args : List Value} (h1 : flatB f = true) (h2 : flatL args = true) : lowH H0 H f args = true := by simp [lowH, h1, h2]
@[simp] theorem flat_fn {g : FuncId} : flatB (.func (.func g) #[] #[]) = true := rfl
@[simp ↓] theorem lmixx_call {f : Operand} {args : List Operand} {ts : Array TypeId} : lmixx P T (.call ⟨.value f, ⟨args⟩, ts⟩) fr H0 H = mcall (lowH H0 H (ev fr f) (args.map (ev fr))) (lcallee P T (ev fr f) (args.map (ev fr)) H0.ro) H := by
  show (if (H.n == H0.n || (flatB (ev fr f) && (args.map (ev fr)).all flatB)) = true then (match lcallee P T (ev fr f) (args.map (ev fr)) H0.ro with | some (v, _) => if flatB v then some v else none | none => none).map (fun v => (v, H)) else none) = _
  rw [flatL_eq]
  unfold lowH mcall
  cases (H.n == H0.n || (flatB (ev fr f) && flatL (args.map (ev fr)))) with
  | false => rfl
  | true =>
    rw [if_pos rfl]
    cases lcallee P T (ev fr f) (args.map (ev fr)) H0.ro with
    | none => rfl
    | some x =>
      obtain ⟨v, H1⟩ := x
      simp only
      split <;> rfl
end
end Go.Lg
/-
  A logical run of Go code: more rules.
-/
set_option linter.unusedSimpArgs false
set_option linter.unusedVariables false
namespace Go.Lg
open Go.Tg Go.RowKit
section
variable {P : Program} {H : LH} {t : TypeId} {a b : Bool}
theorem pureVal_equal_b (hu : P.underlying t = some .bool) : pureVal P (Op.equal t (.bool a) (.bool b)) = some (a == b) := by
  unfold Op.equal
  show pureVal P (Op.equalIn (9999 + 1) t (.bool a) (.bool b)) = _
  unfold Op.equalIn
  simp only [pureVal_bind, pureVal_und, hu, Option.bind_some, pureVal_pure]
@[simp] theorem lbin_beq (hu : P.underlying t = some .bool) : lbin P .eql t (.bool a) (.bool b) = some (.bool (a == b)) := lbin_bb (by simp only [binOp, pureVal_bind, pureVal_equal_b hu, Option.bind_some, pureVal_pure]) rfl
@[simp] theorem lbin_bne (hu : P.underlying t = some .bool) : lbin P .neq t (.bool a) (.bool b) = some (.bool (a != b)) := lbin_bb (by simp only [binOp, pureVal_bind, pureVal_equal_b hu, Option.bind_some, pureVal_pure]; rfl) rfl
@[simp ↓] theorem ev_str0 {fr : Fr} : ev fr (.const (.string ⟨#[]⟩)) = str [] := rfl
@[simp ↓] theorem ev_str1 {fr : Fr} : ev fr (.const (.string ByteArray.empty)) = str [] := rfl
@[simp] theorem ev_strc {fr : Fr} {l : List UInt8} : ev fr (.const (str l)) = str l := by
  show (if flatB (str l) then str l else unk) = _
  rw [if_pos flat_str]
@[simp] theorem get_new_eq {H : LH} {b : LB} {l : Nat} (h : l = H.n) : (H.new b).get l = some b := by subst h; exact get_new
@[simp] theorem new_set_eq {H : LH} {b c : LB} {l : Nat} (h : l = H.n) : (H.new b).set l c = H.new c := by subst h; exact new_set
@[simp ↓] theorem lopx_makeSlice {T : Callee} {fr : Fr} {x y : Operand} : lopx P T (.makeSlice t x y) fr H = lmake P t (ev fr x) (ev fr y) H := rfl
@[simp] theorem lmake_one {e : TypeId} {z : Value} {l c : Int} {k k' : IntKind} (hu : P.underlying t = some (.slice e)) (hs : lesz P e = some 1) (hz : zr P e = some z) (hf : flatB z = true) (hc : cellB z = true) (h0 : 0 ≤ l) (h1 : l ≤ c) (h2 : c ≤ 1048576) :
    lmake P t (.int k l) (.int k' c) H = some (.slice (some ⟨H.n, 0, none⟩) l.toNat c.toNat, H.new ⟨List.replicate c.toNat z, e, true⟩) := by
  unfold lesz at hs
  unfold zr at hz
  unfold lmake
  simp only [hu]
  cases hi : P.info? e with
  | none => simp [hi] at hs
  | some i =>
    simp only [hi, Option.bind_some] at hs hz
    rw [hz] at hs
    simp only at hs
    split at hs
    · rename_i hh
      simp only [Option.some.injEq] at hs
      simp only [hz]
      have hcs : z.cells = #[z] := cells_one hc
      rw [if_pos (by
        simp only [Bool.and_eq_true, decide_eq_true_eq, beq_iff_eq]
        refine ⟨⟨⟨⟨⟨⟨hf, by omega⟩, h0⟩, h1⟩, by rw [hs]; omega⟩, hh.2.2⟩, by rw [hcs, hs]; rfl⟩)]
      congr 3
      rw [hcs, hs, Nat.mul_one]
      congr 1
      apply List.ext_getElem
      · simp
      · intro i h1 h2
        simp [Nat.mod_one]
    · cases hs
end
end Go.Lg
/-
  A logical run of Go code: bits of numbers, shifts, floats.
-/
set_option linter.unusedSimpArgs false
set_option linter.unusedVariables false
namespace Go.Lg
open Go.Tg Go.RowKit
section
variable {P : Program} {H : LH} {t c : TypeId} {kd kd' : IntKind} {a b : Int} {k : FloatKind} {x y r : Nat}
/-! ### bits -/
def bAnd (kd : IntKind) (a b : Int) : Int := kd.wrap ((BitVec.ofInt kd.bits a &&& BitVec.ofInt kd.bits b).toNat)
def bOr (kd : IntKind) (a b : Int) : Int := kd.wrap ((BitVec.ofInt kd.bits a ||| BitVec.ofInt kd.bits b).toNat)
def bXor (kd : IntKind) (a b : Int) : Int := kd.wrap ((BitVec.ofInt kd.bits a ^^^ BitVec.ofInt kd.bits b).toNat)
def bNot (kd : IntKind) (a b : Int) : Int := kd.wrap ((BitVec.ofInt kd.bits a &&& ~~~ BitVec.ofInt kd.bits b).toNat)
@[simp] theorem lbin_and : lbin P .and t (.int kd a) (.int kd b) = some (.int kd (bAnd kd a b)) := lbin_ii (by simp [binOp, Op.intBits, bAnd]) rfl
@[simp] theorem lbin_or : lbin P .or t (.int kd a) (.int kd b) = some (.int kd (bOr kd a b)) := lbin_ii (by simp [binOp, Op.intBits, bOr]) rfl
@[simp] theorem lbin_xor : lbin P .xor t (.int kd a) (.int kd b) = some (.int kd (bXor kd a b)) := lbin_ii (by simp [binOp, Op.intBits, bXor]) rfl
@[simp] theorem lbin_andNot : lbin P .andNot t (.int kd a) (.int kd b) = some (.int kd (bNot kd a b)) := lbin_ii (by simp [binOp, Op.intBits, bNot]) rfl
theorem lbin_sh {op : BinOp} {v : Value} (h : pureVal P (binOp op t (.int kd a) (.int kd' b)) = some v) (hv : flatB v = true) : lbin P op t (.int kd a) (.int kd' b) = some v := by
  have e : pureVal P (do eqGuard op t (.tmp 0) (.tmp 0) (.int kd a) (.int kd' b); binOp op t (.int kd a) (.int kd' b) : Sem Value) = some v := by
    rw [← h]; cases op <;> rfl
  show pureFlat P (do eqGuard op t (.tmp 0) (.tmp 0) _ _; binOp op t _ _) = some v
  unfold pureFlat
  rw [e]
  simp only [hv, if_true]
@[simp] theorem lbin_shl (h : 0 ≤ b) : lbin P .shl t (.int kd a) (.int kd' b) = some (.int kd (kd.wrap (a * 2 ^ (min b.toNat kd.bits)))) := lbin_sh (by
  have : ¬ b < 0 := by omega
  simp [binOp, Op.shift, this]) rfl
@[simp] theorem lbin_shr (h : 0 ≤ b) : lbin P .shr t (.int kd a) (.int kd' b) = some (.int kd (a.fdiv (2 ^ (min b.toNat kd.bits)))) := lbin_sh (by
  have : ¬ b < 0 := by omega
  simp [binOp, Op.shift, this]) rfl
theorem ofInt_nat {n : Nat} {m : Nat} : (BitVec.ofInt n (m : Int)).toNat = m % 2 ^ n := by
  rw [BitVec.toNat_ofInt]; omega
theorem and64 {m n : Nat} (hm : m < 18446744073709551616) (hn : n < 18446744073709551616) : bAnd .u64 m n = ((m &&& n : Nat) : Int) := by
  unfold bAnd
  rw [BitVec.toNat_and, show IntKind.u64.bits = 64 from rfl, ofInt_nat, ofInt_nat, Nat.mod_eq_of_lt hm, Nat.mod_eq_of_lt hn]
  have := Nat.and_le_left (n := m) (m := n)
  rw [show IntKind.u64.wrap ((m &&& n : Nat) : Int) = ((m &&& n : Nat) : Int) % 18446744073709551616 from IntKind.wrap_u64 _]; omega
theorem or64 {m n : Nat} (hm : m < 18446744073709551616) (hn : n < 18446744073709551616) : bOr .u64 m n = ((m ||| n : Nat) : Int) := by
  unfold bOr
  rw [BitVec.toNat_or, show IntKind.u64.bits = 64 from rfl, ofInt_nat, ofInt_nat, Nat.mod_eq_of_lt hm, Nat.mod_eq_of_lt hn]
  have : (m ||| n) < 2 ^ 64 := Nat.or_lt_two_pow hm hn
  rw [show IntKind.u64.wrap ((m ||| n : Nat) : Int) = ((m ||| n : Nat) : Int) % 18446744073709551616 from IntKind.wrap_u64 _]; omega
/-- without the sign's bit -/
theorem not63 {m : Nat} (hm : m < 18446744073709551616) : bNot .u64 m 9223372036854775808 = ((m % 9223372036854775808 : Nat) : Int) := by
  unfold bNot
  have e : (BitVec.ofInt IntKind.u64.bits (m : Int) &&& ~~~ BitVec.ofInt IntKind.u64.bits 9223372036854775808).toNat = m % 9223372036854775808 := by
    rw [BitVec.toNat_and, show IntKind.u64.bits = 64 from rfl, ofInt_nat, Nat.mod_eq_of_lt hm]
    rw [show (~~~ BitVec.ofInt 64 9223372036854775808).toNat = 2 ^ 63 - 1 from rfl, Nat.and_two_pow_sub_one_eq_mod]
  rw [e, show IntKind.u64.wrap ((m % 9223372036854775808 : Nat) : Int) = ((m % 9223372036854775808 : Nat) : Int) % 18446744073709551616 from IntKind.wrap_u64 _]; omega
theorem sign63 {m : Nat} (hm : m < 18446744073709551616) : bAnd .u64 m 9223372036854775808 = if 9223372036854775808 ≤ m then 9223372036854775808 else 0 := by
  have := and64 (m := m) (n := 9223372036854775808) hm (by decide)
  rw [show ((9223372036854775808 : Nat) : Int) = 9223372036854775808 from rfl] at this
  rw [this]
  have e2 : (m &&& 9223372036854775808 : Nat) = if 9223372036854775808 ≤ m then 9223372036854775808 else 0 := by
    apply Nat.eq_of_testBit_eq
    intro i
    rw [Nat.testBit_and, show (9223372036854775808 : Nat) = 2 ^ 63 from rfl, Nat.testBit_two_pow]
    by_cases hi : 63 = i
    · subst hi
      rw [Nat.testBit_eq_decide_div_mod_eq]
      split
      · have : m / 2 ^ 63 % 2 = 1 := by omega
        rw [this, Nat.testBit_two_pow]; simp
      · have : m / 2 ^ 63 % 2 = 0 := by omega
        simp [this]
    · split
      · rw [Nat.testBit_two_pow]; simp [hi]
      · simp [hi]
  rw [e2]
  split <;> rfl
/-! ### floats -/
@[simp ↓] theorem ev_float {fr : Fr} : ev fr (.const (.float k x)) = .float k x := rfl
@[simp] theorem flat_float : flatB (.float k x) = true := by simp [flatB, flat1B, atomB]
@[simp] theorem cell_float : cellB (.float k x) = true := by simp only [cellB]
theorem lbin_ff {op : BinOp} {v : Value} (h : pureVal P (binOp op t (.float k x) (.float k y)) = some v) (hv : flatB v = true) : lbin P op t (.float k x) (.float k y) = some v := by
  have e : pureVal P (do eqGuard op t (.tmp 0) (.tmp 0) (.float k x) (.float k y); binOp op t (.float k x) (.float k y) : Sem Value) = some v := by
    rw [← h]; cases op <;> rfl
  show pureFlat P (do eqGuard op t (.tmp 0) (.tmp 0) _ _; binOp op t _ _) = some v
  unfold pureFlat
  rw [e]
  simp only [hv, if_true]
theorem lbin_fmul (h : k.format.mul x y = some r) : lbin P .mul t (.float k x) (.float k y) = some (.float k r) := lbin_ff (by
  simp only [binOp, Op.floatArith, ne_eq, not_true_eq_false, if_false, pureVal_bind, pureVal_pure, Option.bind_some, h]) rfl
theorem lbin_fdiv (h : k.format.div x y = some r) : lbin P .quo t (.float k x) (.float k y) = some (.float k r) := lbin_ff (by
  simp only [binOp, Op.floatArith, ne_eq, not_true_eq_false, if_false, pureVal_bind, pureVal_pure, Option.bind_some, h]) rfl
theorem lbin_feq : lbin P .eql t (.float k x) (.float k y) = some (.bool (k.format.order x y == some .eq)) := lbin_ff (by
  simp only [binOp, Op.floatCmp, ne_eq, not_true_eq_false, if_false, pureVal_pure]) rfl
theorem lbin_fne : lbin P .neq t (.float k x) (.float k y) = some (.bool (k.format.order x y != some .eq)) := lbin_ff (by
  simp only [binOp, Op.floatCmp, ne_eq, not_true_eq_false, if_false, pureVal_pure]) rfl
theorem lbin_flt : lbin P .lss t (.float k x) (.float k y) = some (.bool (k.format.order x y == some .lt)) := lbin_ff (by
  simp only [binOp, Op.floatCmp, ne_eq, not_true_eq_false, if_false, pureVal_pure]) rfl
theorem lbin_fgt : lbin P .gtr t (.float k x) (.float k y) = some (.bool (k.format.order x y == some .gt)) := lbin_ff (by
  simp only [binOp, Op.floatCmp, ne_eq, not_true_eq_false, if_false, pureVal_pure]) rfl
theorem lconv_if {n : Int} (h1 : P.underlying t = some (.int kd)) (h2 : P.underlying c = some (.float k)) : lconv P t c (.int kd n) H = some (.float k (k.nearest n)) := by
  have e : pureVal P (convert t c (.int kd n)) = some (.float k (k.nearest n)) := by
    simp only [convert, pureVal_bind, pureVal_und, h1, h2, Option.bind_some]
    rfl
  unfold lconv
  simp only [flat_int, if_true, pureFlat, e, flat_float]
attribute [simp] lbin_feq lbin_fne lbin_flt lbin_fgt lconv_if
end
end Go.Lg
/-
  Library functions by their contracts: what all need.
-/
set_option linter.unusedSimpArgs false
set_option linter.unusedVariables false
namespace Go.Lg
open Go.Tg Go.RowKit
/-- of flat arguments, a flat value -/
def flatSpec (g : List Value → Option Value) : Lg.Spec := fun args H => (g args).map fun v => (v, H)
theorem specOk_flat {P : Program} {f : FuncId} {g : List Value → Option Value} (he : Entered P f)
    (h : ∀ args v, g args = some v → (∀ x ∈ args, flatB x = true) ∧ flatB v = true ∧ ∀ w, Calls P f args.toArray w fun e w' => e = .returned v ∧ Change (fun _ => False) w w') : SpecOk P f (flatSpec g) := by
  intro args H v H' hs
  unfold flatSpec at hs
  obtain ⟨u, hu, e⟩ := Option.map_eq_some_iff.1 hs
  simp only [Prod.mk.injEq] at e
  obtain ⟨rfl, rfl⟩ := e
  obtain ⟨h1, h2, h3⟩ := h args u hu
  exact .inl ⟨he, callOk_flatC h1 h2 h3⟩
theorem specOk_ext {P : Program} {f : FuncId} {g : List Value → Option Value}
    (h : ∀ args v, g args = some v → (∀ x ∈ args, flatB x = true) ∧ flatB v = true ∧ ∀ w, (callFunc f args.toArray).run P w = .ok (.value v) w) : SpecOk P f (flatSpec g) := by
  intro args H v H' hs
  unfold flatSpec at hs
  obtain ⟨u, hu, e⟩ := Option.map_eq_some_iff.1 hs
  simp only [Prod.mk.injEq] at e
  obtain ⟨rfl, rfl⟩ := e
  exact .inr ⟨rfl, h args u hu⟩
theorem change_of_below {w w' : World} (h : Below w.heap.size w w') : Change (fun _ => False) w w' := ⟨h.os, h.tape, h.output, h.size, fun k hk _ => h.block k hk⟩
theorem same_mono {P : Program} {f : FuncId} {args : Array Value} {w : World} {v : Value} (h : Calls P f args w fun e w' => e = .returned v ∧ w' = w) : Calls P f args w fun e w' => e = .returned v ∧ Change (fun _ => False) w w' :=
  h.mono fun e w' ⟨h1, h2⟩ => ⟨h1, by rw [h2]; exact Change.refl _ _⟩
theorem below_mono {P : Program} {f : FuncId} {args : Array Value} {w : World} {v : Value} (h : Calls P f args w fun e w' => e = .returned v ∧ Below w.heap.size w w') : Calls P f args w fun e w' => e = .returned v ∧ Change (fun _ => False) w w' :=
  h.mono fun e w' ⟨h1, h2⟩ => ⟨h1, change_of_below h2⟩
theorem flat2 {x y : Value} (hx : flatB x = true) (hy : flatB y = true) : ∀ z ∈ [x, y], flatB z = true := by
  intro z hz
  rcases List.mem_cons.1 hz with rfl | hz
  · exact hx
  · rcases List.mem_cons.1 hz with rfl | hz
    · exact hy
    · cases hz
theorem flat1 {x : Value} (hx : flatB x = true) : ∀ z ∈ [x], flatB z = true := by
  intro z hz
  rcases List.mem_cons.1 hz with rfl | hz
  · exact hx
  · cases hz
theorem LC_flat {P : Program} {E : Ext} {f : FuncId} {g : List Value → Option Value} {args : List Value} {v : Value} {H : LH} (he : E f = some (flatSpec g)) (hg : g args = some v) : LC P E f args H = some (v, H) := LC_ext he (by simp [flatSpec, hg])
def asc (s : ByteArray) : Prop := ∀ (j : Nat) b, s.data.toList[j]? = some b → b.toNat < 128
def ascL (s : List UInt8) : Prop := ∀ b ∈ s, b.toNat < 128
theorem asc_of {s : List UInt8} (h : ascL s) : asc ⟨s.toArray⟩ := fun j b hb => h b (List.mem_of_getElem? (by simpa using hb))
end Go.Lg
namespace Go.Proofs.YthgcgjpbhbikaaaDoor
open Go.Lg Go.Tg
def gIndexByte : List Value → Option Value
  | [.string s, .int .u8 c] => some (.int .i64 (Lib.indexByte s.data.toList c.toNat.toUInt8))
  | _ => none
theorem ok_IndexByte : SpecOk Tryd.prog 34 (flatSpec gIndexByte) := specOk_flat ⟨_, Tryd.func34, rfl, by decide⟩ fun args v h => by
  unfold gIndexByte at h
  split at h
  · injection h with h; subst h
    exact ⟨flat2 rfl rfl, rfl, fun w => same_mono (Tryd.strings_IndexByte _ _ w)⟩
  · cases h
end Go.Proofs.YthgcgjpbhbikaaaDoor
