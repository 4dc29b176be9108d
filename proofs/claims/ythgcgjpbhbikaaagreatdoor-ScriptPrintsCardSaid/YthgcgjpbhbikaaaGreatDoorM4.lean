/-
  Texts joined, part 4: PgF, LgBase, LgEv, LgEvB, LgEvC, LgEnd, LgRow, HdPlain, ScPlain, ScRead.
-/
import Derived.Test.YthgcgjpbhbikaaaGreatDoorM3
import Derived.Test.YthgcgjpbhbikaaaGreatDoorM1
import Derived.Lib.ItoaNum
set_option linter.unusedSimpArgs false
set_option linter.unusedVariables false
namespace Go.Lg
open Go.Tg Go.RowKit

section
variable {P : Program} {E : PEnv}
theorem wp_plain {o : Oper} {a : Act} {w : World} {K : Act → World → Prop} (h : o.wp P a w K (fun _ _ _ => False)) : o.wp P a w K (fun e a' w' => ∃ ch, e = .panic ch ∧ False) := by
  revert h
  unfold Oper.wp Oper.upon
  split
  · exact id
  · exact id
  · exact id
  · intro h
    refine h.mono (fun e w'' => ?_)
    cases e with
    | returned v => exact id
    | panicked ch => exact False.elim
    | outgrown => rintro ⟨_, _, e⟩; exact e.elim
  · exact id
  · exact False.elim
  · exact id
variable {Y : Option YC} {rd : Nat} {fn : Func} {all : Array Oper} {o : Oper} {os : List Oper} {k : List Item} {fr fr1 : Fr} {H H1 H' : LH} {p p' : Option Code} {r : Res} {v : Value}
theorem ops_next {ι ι1 : Ren} {b : Frame} {a a1 : Act} {w w1 : World} {cs : List Frame} {B : Nat} {X : Option Nat} {m : Nat} (h : Pre P E Y rd fn k fr H p ι b a w cs B X) {v' : Value} (ho : Out P H ι w H1 ι1 w1) (hv : VR H1.D ι1 v v') (hput : lput fn.ntmps fr o.dst v = some fr1) (ha : a1 = a.put o.dst v')
    (hs : Steps P (lone (b.atR a (.inRegion all (m :: List.range' (m + 1) (all.size - (m + 1))) :: k)) cs w) (lone (b.atR a1 (.inRegion all (List.range' (m + 1) (all.size - (m + 1))) :: k)) cs w1))
    (hos : os = all.toList.drop (m + 1)) (hm : m < all.size) (ih : Sound P E (.ops Y rd fn all os k fr1 H1 p r H' p')) : Post P E.pl E.tF Y fn p' r H' (b.atR a (.inRegion all (m :: List.range' (m + 1) (all.size - (m + 1))) :: k)) b cs ι H w B X := by
  refine post_out h.rel hs ho (ih (m + 1) ι1 b a1 w1 cs B X hos hm (h.out ho ?_ ?_ h.items))
  · rw [ha]; exact (h.fr.mono ho.sub ho.same).put hput hv
  · rw [ha, put_defers]; exact h.marks.out (X := none) ho.x h.rel (by simp)
theorem lopB_defer {T : Callee} (h : lopB P T o fr H = some (v, H1)) : isDefer o.op = false := by
  obtain ⟨d, op, ty, ps, af, g⟩ := o
  cases op <;> first | rfl | (simp [lopB, lop] at h)
theorem sound_oplain (hT : TOk P (LC P E.E)) (hw : lwant all fr o = some true) (hop : lopB P (LC P E.E) o fr H = some (v, H1)) (hput : lput fn.ntmps fr o.dst v = some fr1) (ih : Sound P E (.ops Y rd fn all os k fr1 H1 p r H' p')) : Sound P E (.ops Y rd fn all (o :: os) k fr H p r H' p') := by
  intro m ι b a w cs B X hos hm h
  obtain ⟨hlt, hget, hos', hr⟩ := drop_cons hos
  rw [hr]
  obtain ⟨a1, w1, ⟨ι1, v', ho, hv, ha⟩, hs⟩ := step_opR1 (P := P) (b := b) (k := k) (cs := cs) (rest := List.range' (m + 1) (all.size - (m + 1))) (K := fun a1 w1 => ∃ ι1 v', Out P H ι w H1 ι1 w1 ∧ VR H1.D ι1 v v' ∧ a1 = a.put o.dst v') hget (want_eq h.fr hw) (lopB_defer hop)
    (wp_plain (lopB_ok hT h.rel h.fr hop _ _ (fun ι' v' w' ho hv => ⟨ι', v', ho, hv, rfl⟩)))
  exact ops_next h ho hv hput ha hs hos' hlt ih
theorem sound_oskip (hw : lwant all fr o = some false) (hput : lput fn.ntmps fr o.dst undef = some fr1) (ih : Sound P E (.ops Y rd fn all os k fr1 H p r H' p')) : Sound P E (.ops Y rd fn all (o :: os) k fr H p r H' p') := by
  intro m ι b a w cs B X hos hm h
  obtain ⟨hlt, hget, hos', hr⟩ := drop_cons hos
  rw [hr]
  have hs := stepR_op_skip (P := P) (b := b) (a := a) (k := k) (cs := cs) (w := w) (ops := all) (i := m) (rest := List.range' (m + 1) (all.size - (m + 1))) (by
    rw [hget]; simp [want_eq h.fr hw])
  rw [hget] at hs
  exact ops_next h (Out.refl h.rel) (.flat _ rfl) hput rfl (.one hs) hos' hlt ih
theorem sound_omkf {g : FuncId} {first caps : Array Operand} (hw : lwant all fr o = some true) (hop : o.op = .makeFunc (.func g) first caps) (hput : lput fn.ntmps fr o.dst (.func (.func g) (first.map (ev fr)) (caps.map (ev fr))) = some fr1) (ih : Sound P E (.ops Y rd fn all os k fr1 H p r H' p')) : Sound P E (.ops Y rd fn all (o :: os) k fr H p r H' p') := by
  intro m ι b a w cs B X hos hm h
  obtain ⟨hlt, hget, hos', hr⟩ := drop_cons hos
  rw [hr]
  have hrun : (execOp a.eval o).run P w = .ok (.value (.func (.func g) (first.map a.eval) (caps.map a.eval))) w := by
    unfold execOp
    rw [hop]
    rfl
  obtain ⟨a1, w1, ⟨ha, hw1⟩, hs⟩ := step_opR1 (P := P) (b := b) (k := k) (cs := cs) (rest := List.range' (m + 1) (all.size - (m + 1))) (K := fun a1 w1 => a1 = a.put o.dst (.func (.func g) (first.map a.eval) (caps.map a.eval)) ∧ w1 = w) hget (want_eq h.fr hw) (by rw [hop]; rfl)
    (by unfold Oper.wp; rw [hrun]; exact ⟨rfl, rfl⟩)
  subst hw1
  refine ops_next h (Out.refl h.rel) ?_ hput ha hs hos' hlt ih
  refine .func _ _ _ _ _ (by simp) (by simp) (fun i x y hx hy => ?_) (fun i x y hx hy => ?_)
  all_goals
    simp only [Array.getElem?_map, Option.map_eq_some_iff] at hx hy
    obtain ⟨x', hx', rfl⟩ := hx
    obtain ⟨y', hy', rfl⟩ := hy
    rw [hx'] at hy'
    injection hy' with hy'
    subst hy'
    exact h.fr.ev x'
theorem clear_run {ι : Ren} {w : World} (hrel : Rel P H ι w) {t : TypeId} {v x' : Value} (hv : VR H.D ι v x') (h : lclr P t v H = some H1) :
    ∃ w1, (∀ (ty : TypeId) (cs : Array Bool), (builtin .clear #[t] ty cs #[x']).run P w = .ok (.value (.tuple #[])) w1) ∧ Out P H ι w H1 ι w1 := by
  unfold lclr at h
  split at h
  · rename_i e ad n c hu
    split at h
    · rename_i hn
      simp only [Option.some.injEq] at h
      subst h hn
      obtain ⟨b2, c2, rfl, _⟩ := vr_slice hv
      exact ⟨w, fun ty cs => by cases b2 <;> simp [builtin, Builtin.clear_, Sem.run_bind, run_underlying hu], Out.refl hrel⟩
    · rename_i hn
      split at h
      · rename_i l off z hz
        split at h
        · rename_i b hb
          split at h
          · rename_i hc
            obtain ⟨hrw, hall, hle⟩ := hc
            simp only [Option.some.injEq] at h
            subst h
            obtain ⟨n, rfl⟩ : ∃ m, n = m + 1 := ⟨n - 1, by omega⟩
            have hcell : ∀ x ∈ (Builtin.zeroCells z.cells (n + 1)).toList, cellB x = true ∧ flatB x = true := fun x hx => by
              have := List.all_eq_true.1 hall x hx
              simpa using this
            have hvr : ∀ (i : Nat) x y, (Builtin.zeroCells z.cells (n + 1)).toList[i]? = some x → (Builtin.zeroCells z.cells (n + 1)).toList[i]? = some y → VR H.D ι x y := fun i x y hx hy => by
              rw [hx] at hy
              injection hy with hy
              subst hy
              exact .flat _ (hcell _ (List.mem_of_getElem? hx)).2
            obtain ⟨w1, hr, ho⟩ := row_sound (o := off) hrel hb hrw hle rfl hvr (fun u hu' => cell_one (VR.flat (n := H.D) (ι := ι) u (hcell u hu').2) (hcell u hu').1)
            refine ⟨w1, fun ty cs => ?_, ho⟩
            have hX : ∃ c2, x' = .slice (some ⟨(ι l).blk, (ι l).off + off, none⟩) (n + 1) c2 := by
              cases hv with
              | flat _ hf => simp [flatB, flat1B, atomB] at hf
              | slice _ _ _ _ _ _ => exact ⟨_, rfl⟩
            obtain ⟨c2, rfl⟩ := hX
            simp [builtin, Builtin.clear_, Sem.run_bind, run_underlying hu, run_zero hz, hr]
          · cases h
        · cases h
      · cases h
  · cases h
theorem sound_oclear {x : Operand} {t : TypeId} (hw : lwant all fr o = some true) (hop : o.op = .call ⟨.builtin .clear, #[x], #[t]⟩) (hc : lclr P t (ev fr x) H = some H1) (hput : lput fn.ntmps fr o.dst (.tuple #[]) = some fr1) (ih : Sound P E (.ops Y rd fn all os k fr1 H1 p r H' p')) : Sound P E (.ops Y rd fn all (o :: os) k fr H p r H' p') := by
  intro m ι b a w cs B X hos hm h
  obtain ⟨hlt, hget, hos', hr⟩ := drop_cons hos
  rw [hr]
  obtain ⟨w1, hrun, hout⟩ := clear_run (P := P) h.rel (h.fr.ev x) hc
  have hrun2 : (execOp a.eval o).run P w = .ok (.value (.tuple #[])) w1 := by
    unfold execOp
    simp only [hop, resolve, Sem.run_bind, Sem.run_pure, Result.andThen_ok, invoke]
    rw [show (#[x] : Array Operand).map a.eval = #[a.eval x] by simp]
    exact hrun _ _
  obtain ⟨a1, w2, ⟨ha, hw2⟩, hs⟩ := step_opR1 (P := P) (b := b) (k := k) (cs := cs) (rest := List.range' (m + 1) (all.size - (m + 1))) (K := fun a1 w2 => a1 = a.put o.dst (.tuple #[]) ∧ w2 = w1) hget (want_eq h.fr hw) (by rw [hop]; rfl)
    (by unfold Oper.wp; rw [hrun2]; exact ⟨rfl, rfl⟩)
  subst hw2
  exact ops_next h hout (.flat _ rfl) hput ha hs hos' hlt ih
theorem sound_ocall {x : Operand} {args : Array Operand} {ts : Array TypeId} {g : FuncId} {first caps : Array Value} (hw : lwant all fr o = some true) (hop : o.op = .call ⟨.value x, args, ts⟩) (hx : ev fr x = .func (.func g) first caps)
    (hc : Sound P E (.call g (first.toList ++ args.toList.map (ev fr) ++ caps.toList) H (.ret v) H1)) (hput : lput fn.ntmps fr o.dst v = some fr1) (ih : Sound P E (.ops Y rd fn all os k fr1 H1 p r H' p')) : Sound P E (.ops Y rd fn all (o :: os) k fr H p r H' p') := by
  intro m ι b a w cs B X hos hm h
  obtain ⟨hlt, hget, hos', hr⟩ := drop_cons hos
  rw [hr]
  rcases step_opR (P := P) (b := b) (k := k) (cs := cs) (rest := List.range' (m + 1) (all.size - (m + 1))) hget (want_eq h.fr hw) (by rw [hop]; rfl) (call_wp h.rel h.fr hop hx hc.1 hc.2) with ⟨a1, w1, ⟨ι1, u, v', e, ha, ho, hv⟩, hs⟩ | ⟨ch, w1, ⟨_, _, _, e, _⟩, _⟩
  · injection e with e
    subst e
    exact ops_next h ho hv hput ha hs hos' hlt ih
  · cases e
theorem sound_ocallp {x : Operand} {args : Array Operand} {ts : Array TypeId} {g : FuncId} {first caps : Array Value} (hw : lwant all fr o = some true) (hop : o.op = .call ⟨.value x, args, ts⟩) (hx : ev fr x = .func (.func g) first caps)
    (hc : Sound P E (.call g (first.toList ++ args.toList.map (ev fr) ++ caps.toList) H (.pan v) H1)) : Sound P E (.ops Y rd fn all (o :: os) k fr H p (.pan v) H1 p) := by
  intro m ι b a w cs B X hos hm h
  obtain ⟨hlt, hget, hos', hr⟩ := drop_cons hos
  rw [hr]
  rcases step_opR (P := P) (b := b) (k := k) (cs := cs) (rest := List.range' (m + 1) (all.size - (m + 1))) hget (want_eq h.fr hw) (by rw [hop]; rfl) (call_wp h.rel h.fr hop hx hc.1 hc.2) with ⟨_, _, ⟨_, _, _, e, _⟩, _⟩ | ⟨ch, w1, ⟨ι1, u, v', e, rfl, ho, hv⟩, hs⟩
  · cases e
  · injection e with e
    subst e
    exact ⟨ι1, w1, ho.x, h.yat.out h.rel ho.x, a, _, v', hs, h.marks.out (X := none) ho.x h.rel (by simp), hv⟩
theorem sound_draw {id : Nat} {ops : Array Oper} (hT : TOk P (LC P E.E)) (hm : P.follows .mixedOrders = true) (hl : ldraw P E.pl (LC P E.E) fn.ntmps id ops fr H = some (fr1, H1)) (ih : Sound P E (.run Y rd fn k fr1 H1 p r H' p')) : Sound P E (.run Y rd fn (.code (.region id ops true) :: k) fr H p r H' p') := by
  intro ι b a w cs B X h
  obtain ⟨h1, h2⟩ := head_ok h.items
  simp only [itemOkR, codeOkR, Bool.and_eq_true] at h1
  obtain ⟨h1, h3⟩ := h1
  have hnd : ∀ (i : Nat) (o : Oper), ops[i]? = some o → isDefer o.op = false := fun i o ho => by
    have := List.all_eq_true.1 h3 o (Array.mem_toList_iff.2 (Array.mem_of_getElem? ho))
    simpa using this
  have key : wpAny P .any ops (fun e a1 w1 => e = .normal ∧ ∃ ι1, Out P H ι w H1 ι1 w1 ∧ FrR H1.D ι1 fn.ntmps fr1 a1.tmps ∧ a1.defers = a.defers) ops.size (Array.replicate ops.size false) a { w with drawn := w.drawn + 1 } := by
    unfold ldraw at hl
    unfold drawOk at h1
    cases hc : E.pl.ch fn.ntmps id ops.size with
    | none => rw [hc] at hl h1; exact mix_any hT h1 hl h.rel h.fr (fun ι' a' w' ho hf hd => ⟨rfl, ι', ho, hf, hd⟩)
    | some prs => rw [hc] at hl h1; exact chain_any hT h1 hl h.rel h.fr (fun ι' a' w' ho hf hd => ⟨rfl, ι', ho, hf, hd⟩)
  have hops := wpAny_sound ops.size (w.tape w.drawn (.order b.fn id)) _ a _ key
  have hst := stepR_region_draw (P := P) (b := b) (a := a) (k := k) (cs := cs) (w := w) (ops := ops) (id := id)
  simp only [Region.schedule, hm, Bool.true_or, if_true] at hst
  obtain ⟨a1, w1, ⟨ι1, ho, hf, hd⟩, hs⟩ := wp_opsR (b := b) (k := k) (cs := cs) hnd _ a _ hops
  refine post_out h.rel (.head hst hs) ho (ih ι1 b a1 w1 cs B X (h.out ho hf ?_ h2))
  rw [hd]; exact h.marks.out (X := none) ho.x h.rel (by simp)
theorem round_frame {l : Nat} {f : FuncId} {tmps : Array Value} {assign body : Code} : Frame.round l f tmps assign body .normal = ({ (default : Frame) with fn := f, kind := .normal, roundOf := some l } : Frame).atR { tmps := tmps, defers := [] } [.code assign, .beginRound, .code body] := by
  simp [Frame.round, Frame.atR]
theorem sound_oyield {yc : YC} {x : Operand} {args : Array Operand} {ts : Array TypeId} {j : Option Code} (hw : lwant all fr o = some true) (hop : o.op = .call ⟨.value x, args, ts⟩) (hx : ev fr x = tok yc.l) (hsz : args.size = yc.params.length) (hN : ∀ d ∈ yc.params, d < yc.fn.ntmps)
    (ihr : Sound P E (.run none 1 yc.fn [.code yc.assign, .beginRound, .code yc.body] (setL yc.fr (yc.params.zip (args.toList.map (ev fr)))) H none (.jump j) H1 none)) (hput : lput fn.ntmps fr o.dst (.bool j.isNone) = some fr1)
    (ih : Sound P E (.ops (some yc) 0 fn all os k fr1 H1 j r H' p')) : Sound P E (.ops (some yc) 0 fn all (o :: os) k fr H none r H' p') := by
  intro m ι b a w cs B X hos hm h
  obtain ⟨hlt, hget, hos', hr⟩ := drop_cons hos
  rw [hr]
  have hxv := h.fr.ev x
  rw [hx] at hxv
  obtain ⟨ex, hD⟩ := vr_tok hxv
  obtain ⟨_, ⟨okj, okA, okB⟩, rc, y1, y2, y3, y4, y5, y6, y7, y8⟩ := h.yat
  have hX := h.yx yc rfl
  have hst0 : rc.state = .ready := by simpa using y8
  have hlen : (args.map a.eval).size = rc.params.size := by
    rw [Array.size_map, hsz, ← y2]; simp
  have hrun : (execOp a.eval o).run P w = .ok (.round (ι yc.l).blk rc.fn ((rc.params.zip (args.map a.eval)).foldl (fun tmps (t, v) => tmps.setIfInBounds t v) rc.tmps) rc.assign rc.body) w := by
    unfold execOp
    simp only [hop, resolve, ex, Deferred.ofValue, Sem.run_bind, Sem.run_pure, Result.andThen_ok, invoke]
    rw [show (#[] ++ args.map a.eval : Array Value) = args.map a.eval by simp]
    exact run_yield y1 hlen
  let tm : Array Value := (rc.params.zip (args.map a.eval)).foldl (fun tmps (t, v) => tmps.setIfInBounds t v) rc.tmps
  let c0 : Frame := b.atR a (.inRegion all (m :: List.range' (m + 1) (all.size - (m + 1))) :: k)
  let b' : Frame := { (default : Frame) with fn := rc.fn, kind := .normal, roundOf := some (ι yc.l).blk }
  have hg := stepGR_op (P := P) (b := b) (k := k) (cs := cs) (w := w) (rest := List.range' (m + 1) (all.size - (m + 1))) hget (want_eq h.fr hw)
  rw [Oper.semAt_eq _ _ _ (not_defer (by rw [hop]; rfl))] at hg
  have hs0 : step P (lone c0 cs w) = .next (lone (b'.atR { tmps := tm, defers := [] } [.code rc.assign, .beginRound, .code rc.body]) (c0 :: cs) w) := by
    rw [← round_frame]
    exact step_lone_go (by rw [hg]; simp [stepG.apply, hrun, tm, c0])
  have hnd : ¬ (ι yc.l).blk < H.ng := (h.xok _ hX).2
  rw [y3, y4] at hs0
  have htm : FrR H.D ι yc.fn.ntmps (setL yc.fr (yc.params.zip (args.toList.map (ev fr)))) tm := by
    obtain ⟨h2, h3⟩ := args_rel h.fr args
    have := setL_rel yc.params (args.toList.map (ev fr)) (args.map a.eval).toList yc.fr rc.tmps y6 hN (by first | (simp; done) | simpa using h2) (fun i x y hx hy => h3 i x y hx (by simpa using hy))
    have e : tm = (yc.params.zip (args.map a.eval).toList).foldl (fun t (d, v) => t.setIfInBounds d v) rc.tmps := by
      show (rc.params.zip (args.map a.eval)).foldl _ _ = _
      rw [← Array.foldl_toList, Array.toList_zip, y2]
    rw [e]; exact this
  obtain ⟨ι1, w1, ho, _, ⟨_, hj⟩, lr, c, cs0, e1, e2, hs1, hrec⟩ := ihr ι b' { tmps := tm, defers := [] } w (c0 :: cs) w.heap.size (some (ι yc.l).blk)
    ⟨cons_ok okA (cons_ok rfl (cons_ok okB (by simp))), h.rel, htm, y5, rfl, (fun _ h => by cases h), (fun q hq => by injection hq with hq; subst hq; exact ⟨⟨rc, y1⟩, hnd⟩), (fun h => by cases h), fun _ => ⟨rfl, _, c0, cs, rc, rfl, rfl, rfl, rfl, y1, fun _ => hst0⟩, trivial, Nat.le_refl _, ng_le h.rel⟩
  injection e1 with e1
  injection e2 with e2 e3
  subst e1 e2 e3
  have hfin : c0.finish (.bool j.isNone) = b.atR (a.put o.dst (.bool j.isNone)) (.inRegion all (List.range' (m + 1) (all.size - (m + 1))) :: k) := by
    show (b.atR a (.inRegion all (m :: List.range' (m + 1) (all.size - (m + 1))) :: k)).finish _ = _
    rw [Frame.finish_atR, hget]; rfl
  rw [hfin] at hs1
  have hrec1 := hrec rc y1
  have hsame : ι1 yc.l = ι yc.l := ho.same _ hD
  have hoX : OutX P X H ι w H1 ι1 w1 := by rw [hX]; exact ho
  refine post_step (.head hs0 hs1) hoX (fun e => by cases e) (ih (m + 1) ι1 b _ w1 cs B X hos' hlt ⟨h.items, ho.rel, (h.fr.mono ho.sub ho.same).put hput (.flat _ rfl), h.fn, ⟨ho.sub _ hD, ⟨hj, okA, okB⟩, { rc with state := if j.isNone then .ready else .done, pending := j }, by rw [hsame]; exact hrec1, y2, y3, y4, y5, y6.mono ho.sub ho.same, rfl, rfl⟩, fun yc' hy => ?_, fun q hq => ?_, h.rd0, fun h => absurd rfl h, ?_, Nat.le_trans h.hB ho.chg.size, by rw [ho.ng]; exact h.hng⟩)
  · injection hy with hy; subst hy; rw [hsame]; exact hX
  · rw [hX] at hq; injection hq with hq; subst hq; exact ⟨⟨_, hrec1⟩, by rw [ho.ng]; exact hnd⟩
  · rw [put_defers]; exact h.marks.out hoX h.rel h.xl
theorem sound_range {x : Operand} {params : Array Tmp} {assign body : Code} {g : FuncId} {caps : Array Value} {gfn : Func} {gc : Code} {p1 : Option Code} (hx : ev fr x = .func (.func g) #[] caps) (hf : fnOk P E g gfn gc (tok H.n :: caps.toList))
    (ihg : Sound P E (.run (some ⟨H.n, fn, fr, params.toList, assign, body⟩) 0 gfn [.code gc] (enter (tok H.n :: caps.toList)) H.dead none (.ret v) H1 p1)) (ih : Sound P E (.run Y rd fn ((p1.map Item.code).toList ++ k) fr H1 p r H' p')) :
    Sound P E (.run Y rd fn (.code (.rangeFunc x params assign body) :: k) fr H p r H' p') := by
  intro ι b a w cs B X h
  obtain ⟨hx1, hx2⟩ := head_ok h.items
  have hok : codeOkR E.pl fn.ntmps assign = true ∧ codeOkR E.pl fn.ntmps body = true := by simpa [itemOkR, codeOkR] using hx1
  obtain ⟨l, mark, w1, dd, he, hl1, hc1, hl0, hmk⟩ := enter_loop h params assign body
  obtain ⟨g1, g2, g3, g4, g5⟩ := hf
  have hE : Entered P g := ⟨gfn, g1, by rw [g2]; rfl, g4⟩
  have hxv := h.fr.ev x
  rw [hx] at hxv
  obtain ⟨f', c', e, k1, k2, _, k4⟩ := vr_func hxv
  have ef : f' = #[] := Array.eq_empty_of_size_eq_zero k1.symm
  subst ef
  have hres : (resolve a.eval (rangeCall x l) 0).run P w1 = .ok { target := .fn (.func g) c', args := #[.func (.yield l) #[] #[]] } w1 := by
    simp only [resolve, rangeCall, e, Deferred.ofValue, Sem.run_pure]
    simp [Act.eval]
  obtain ⟨ar, har⟩ : ∃ z : Array Value, z = #[.func (.yield l) #[] #[]] ++ c' := ⟨_, rfl⟩
  have hinv : (invoke (.fn (.func g) c') #[.func (.yield l) #[] #[]]).run P w1 = .ok (.enter g ar) w1 := by
    simp only [invoke]
    rw [har]
    exact enter_run hE _
  have hstep := stepR_rangeFunc (P := P) (k := k) (cs := cs) he hres hinv
  let c0 : Frame := b.atR { a with defers := mark ++ a.defers } (.inRangeFunc l :: k)
  let b1 : Frame := { (default : Frame) with fn := g, kind := .normal }
  obtain ⟨a1, ha1⟩ : ∃ z : Act, z = { tmps := ar ++ Array.replicate (gfn.ntmps - ar.size) undef, defers := [] } := ⟨_, rfl⟩
  have henter : Frame.enter P g ar .normal = b1.atR a1 [.code gc] := by rw [ha1]; simp [Frame.enter, Frame.atR, g1, g2, b1]; rfl
  rw [henter] at hstep
  obtain ⟨ι1, hι1⟩ : ∃ z : Ren, z = ι.add H.n ⟨l, 0, 0⟩ := ⟨_, rfl⟩
  have hrel1 : Rel P H.dead ι1 w1 := by rw [hι1]; exact rel_dead h.rel hc1
  have hsub1 : ∀ l, H.D l → H.dead.D l := fun l hl => ⟨Nat.lt_succ_of_lt hl.1, hl.2⟩
  have hsame1 : ∀ l, H.D l → ι1 l = ι l := fun q hq => by rw [hι1]; unfold Ren.add; rw [if_neg (Nat.ne_of_lt hq.1)]
  have hDn : H.dead.D H.n := ⟨Nat.lt_succ_self _, h.rel.top⟩
  have hin : (ι1 H.n).blk = l := by rw [hι1]; unfold Ren.add; rw [if_pos rfl]
  have hargs : FrR H.dead.D ι1 gfn.ntmps (enter (tok H.n :: caps.toList)) a1.tmps := by
    rw [ha1]
    refine enter_rel (args' := ar) (by rw [har]; simp; omega) (fun i x y hx hy => ?_) g3
    rw [har] at hy
    cases i with
    | zero =>
      simp at hx hy
      subst hx
      have : y = .func (.yield l) #[] #[] := by
        have h0 : (#[.func (.yield l) #[] #[]] ++ c' : Array Value)[0]? = some (.func (.yield l) #[] #[]) := by rw [Array.getElem?_append]; simp
        rw [h0] at hy; injection hy with hy; exact hy.symm
      subst this
      have hh := VR.yld (n := H.dead.D) (ι := ι1) H.n hDn
      rwa [hin] at hh
    | succ i =>
      have hx' : caps[i]? = some x := by simpa using hx
      have hy' : c'[i]? = some y := by
        rw [Array.getElem?_append] at hy
        simpa using hy
      exact (k4 i x y hx' hy').mono hsub1 hsame1
  have hltl : l < w1.heap.size := (Array.getElem?_eq_some_iff.1 hl1).1
  have hngw := ng_le h.rel
  obtain ⟨ι2, w2, ho2, hy2, a', t', fr', s1, mk1, fr1, res1⟩ := ihg ι1 b1 a1 w1 (c0 :: cs) w1.heap.size (some l)
    ⟨cons_ok g5 (by simp), hrel1, hargs, g1, ⟨hDn, ⟨(fun c h => by cases h), hok.1, hok.2⟩, _, by rw [hin]; exact hl1, rfl, rfl, rfl, h.fn, h.fr.mono hsub1 hsame1, rfl, rfl⟩, (fun yc hy => by injection hy with hy; subst hy; rw [hin]), (fun q hq => by injection hq with hq; subst hq; exact ⟨⟨_, hl1⟩, by show ¬ l < H.ng; omega⟩), fun _ => rfl, (fun h => absurd rfl h), (by rw [ha1]; trivial), Nat.le_refl _, by have : H.dead.ng = H.ng := rfl; have := hc1.size; omega⟩
  obtain ⟨w3, s2, c3⟩ := marks_steps (P := P) (cs := c0 :: cs) a'.defers { b1.atR a' t' with mode := .returning } w2 (by simp) rfl mk1
  have hng2 : H1.ng = H.ng := ho2.ng
  have hrel3 : Rel P H1 ι2 w3 := rel_off ho2.rel c3 (fun q hq => by
    refine ⟨fun hi => ?_, by rw [hng2]; have := hc1.size; have := hq.1; omega⟩
    obtain ⟨arr, t, f, hw⟩ := img_cells ho2.rel hi
    rw [hq.2] at hw; cases hw)
  obtain ⟨v', hr3, _⟩ := results_ok hrel3 fr1 res1
  have s3 : step P (lone { b1.atR { a' with defers := [] } t' with mode := .returning } (c0 :: cs) w3) = .next (lone (c0.finish v') cs w3) := step_leave_returned ⟨rfl, rfl, rfl, gfn, g1, hr3⟩
  have efin : c0.finish v' = b.atR { a with defers := mark ++ a.defers } (.endRangeFunc l :: k) := finish_atR_inRangeFunc l v'
  rw [efin] at s3
  obtain ⟨hD2, ⟨okj, _, _⟩, rc, y1, _, _, _, _, _, y7, y8⟩ := hy2
  have hi2 : (ι2 H.n).blk = l := by rw [ho2.same _ hDn]; exact hin
  simp only [hi2] at y1
  have hl3 : w3.heap[l]? = some (.loop rc) := by
    rw [c3.block l (Array.getElem?_eq_some_iff.1 y1).1 (fun hq => by have := hq.2; rw [y1] at this; cases this)]; exact y1
  have hbusy : rc.state ≠ .busy := by rw [y8]; split <;> simp
  have s4 := stepR_endRangeFunc (P := P) (b := b) (a := { a with defers := mark ++ a.defers }) (k := k) (cs := cs) (run_endLoop (P := P) hl3 hbusy)
  have y7' : rc.pending = p1 := y7
  subst y7'
  have hi3 : ¬ Img H1 ι2 l := fun hi => by
    obtain ⟨arr, t, f, hw⟩ := img_cells hrel3 hi
    rw [hl3] at hw; cases hw
  have hrel4 : Rel P H1 ι2 (w3.putObj l (.loop { rc with state := .exhausted })) := rel_off hrel3 change_put (fun q hq => by subst hq; exact ⟨hi3, by rw [hng2]; omega⟩)
  obtain ⟨w4, hw4⟩ : ∃ z, z = w3.putObj l (.loop { rc with state := .exhausted }) := ⟨_, rfl⟩
  rw [← hw4] at hrel4 s4
  have c4 : Change (fun k => k = l) w3 w4 := by rw [hw4]; exact change_put
  have hout : Out P H ι w H1 ι2 w4 := by
    refine ⟨hrel4, Nat.le_trans (Nat.le_succ _) ho2.n, fun q hq => ho2.sub _ (hsub1 q hq), fun q hq => (ho2.same _ (hsub1 q hq)).trans (hsame1 q hq), ?_, fun q hq => ?_, fun q hq => ?_, hng2⟩
    · refine Change.trans (T := fun k => k = l) (Change.trans (Change.trans (hc1.mono (fun _ _ h => h.elim)) ho2.chg (fun q hq => ?_)) c3 (fun q hq => .inr (Nat.le_trans hc1.size hq.1))) c4 (fun q hq => by subst hq; exact .inr hl0)
      rcases hq with hq | hq
      · exact .inl (rw_dead h.rel (by rw [hι1] at hq; exact hq))
      · injection hq with hq; subst hq; exact .inr hl0
    · rcases ho2.rw q hq with h1 | h1
      · exact .inl (rw_dead h.rel (by rw [hι1] at h1; exact h1))
      · exact .inr (Nat.le_trans hc1.size h1)
    · rcases ho2.img q hq with h1 | h1
      · exact .inl (img_dead h.rel (by rw [hι1] at h1; exact h1))
      · exact .inr (Nat.le_trans hc1.size h1)
  refine post_out h.rel (.head hstep (Steps.trans s1 (Steps.trans s2 (.head s3 (.one s4))))) hout (ih ι2 b { a with defers := mark ++ a.defers } w4 cs B X (h.out hout (h.fr.mono hout.sub hout.same) ?_ (fun z hz => ?_)))
  · have mk1' : Marks B w1 (mark ++ a.defers) := hmk
    refine mk1'.keep (fun q hq hqw _ => ?_)
    have q1 : q ≠ l := fun e => by subst e; rw [hl1] at hqw; cases hqw
    have q2 : w2.heap[q]? = some (.deferred (some [])) := ho2.keep hrel1 hqw nocell_deferred (fun e => by injection e with e; exact q1 e.symm)
    rw [hw4, World.putObj_heap_other q1, c3.block q (Array.getElem?_eq_some_iff.1 q2).1 (fun hh => ?_)]
    · exact q2
    · have := (Array.getElem?_eq_some_iff.1 hqw).1
      have := hh.1
      omega
  · rcases List.mem_append.1 hz with hz | hz
    · cases hpd : rc.pending with
      | none => rw [hpd] at hz; cases hz
      | some c => rw [hpd] at hz; simp at hz; subst hz; exact okj c hpd _ _
    · exact hx2 z hz
theorem sound (hT : TOk P (LC P E.E)) (hm : P.follows .mixedOrders = true) (hpx : ∀ f s, E.px f = some s → ∀ args H r H', s args H r H' → Entered P f ∧ CallOkR P E.tF f args H r H') (hcat : ∀ f, E.cat = some f → CatOk P E.tF f) {j : J} (h : R P E j) : Sound P E j := by
  induction h with
  | @lc f args H v H' h2 h1 =>
    have h3 := (hT _ _ _ _ _ h1).call h2
    exact ⟨h2, fun ι w args' hrel hl ha => (h3 ι w args' hrel hl ha).mono (fun e w' ⟨ι', v', he, ho, hv⟩ => ⟨ι', ⟨v', he, hv⟩, ho⟩)⟩
  | px h1 h2 => exact hpx _ _ h1 _ _ _ _ h2
  | body h1 _ ih => exact sound_body h1 ih
  | trunc _ h1 h2 ih => exact sound_trunc ih h1 h2
  | cat h1 _ ih => exact sound_cat (hcat _ h1) ih _ (.inl ⟨⟨_, rfl⟩, rfl⟩)
  | catp h1 _ ih => exact sound_cat (hcat _ h1) ih _ (.inr ⟨_, _, rfl, rfl⟩)
  | nil0 h1 =>
    intro ι b a w cs B X h
    exact ⟨ι, w, OutX.refl h.rel, h.yat, a, [], _, .one (stepR_end (h.rd0 rfl)), h.marks, h.fr, h1⟩
  | ret0 h1 =>
    intro ι b a w cs B X h
    exact ⟨ι, w, OutX.refl h.rel, h.yat, a, _, _, .one (stepR_ret (h.rd0 rfl)), h.marks, h.fr, h1⟩
  | nil1 => exact sound_round (fun c h => by cases h) (fun b a w w' c cs lr v h1 h2 h3 => stepR_round_end h1 h2 h3)
  | ret1 => exact sound_round (fun c h L N => by injection h with h; subst h; rfl) (fun b a w w' c cs lr v h1 h2 h3 => stepR_round_ret h1 h2 h3)
  | exit1 hx => exact sound_round (fun c h L N => by injection h with h; subst h; rfl) (fun b a w w' c cs lr v h1 h2 h3 => stepR_round_exit h1 h2 hx h3)
  | beg _ ih => exact sound_beg ih
  | skip _ ih => intro ι b a w cs B X h; exact post_one h.rel stepR_skip (ih ι b a w cs B X (h.same (head_ok h.items).2))
  | label _ ih => intro ι b a w cs B X h; exact post_one h.rel stepR_label (ih ι b a w cs B X (h.same (head_ok h.items).2))
  | inBlock _ ih => intro ι b a w cs B X h; exact post_one h.rel stepR_inBlock (ih ι b a w cs B X (h.same (head_ok h.items).2))
  | inScope _ ih => intro ι b a w cs B X h; exact post_one h.rel (step_lone_go (by simp [stepG, stepG.exec, Frame.atR])) (ih ι b a w cs B X (h.same (head_ok h.items).2))
  | seq _ ih =>
    intro ι b a w cs B X h
    obtain ⟨h1, h2⟩ := head_ok h.items
    simp only [itemOkR, codeOkR, Bool.and_eq_true] at h1
    exact post_one h.rel stepR_seq (ih ι b a w cs B X (h.same (cons_ok h1.1 (cons_ok h1.2 h2))))
  | block _ ih =>
    intro ι b a w cs B X h
    obtain ⟨h1, h2⟩ := head_ok h.items
    exact post_one h.rel stepR_block (ih ι b a w cs B X (h.same (cons_ok h1 (cons_ok rfl h2))))
  | scope _ ih =>
    intro ι b a w cs B X h
    obtain ⟨h1, h2⟩ := head_ok h.items
    exact post_one h.rel (step_lone_go (by simp [stepG, stepG.exec, Frame.atR])) (ih ι b a w cs B X (h.same (cons_ok h1 (cons_ok h1 h2))))
  | loop _ ih =>
    intro ι b a w cs B X h
    obtain ⟨h1, h2⟩ := head_ok h.items
    exact post_one h.rel stepR_loop (ih ι b a w cs B X (h.same (cons_ok h1 (cons_ok h1 h2))))
  | inLoop _ ih =>
    intro ι b a w cs B X h
    obtain ⟨h1, h2⟩ := head_ok h.items
    exact post_one h.rel stepR_inLoop (ih ι b a w cs B X (h.same (cons_ok h1 (cons_ok h1 h2))))
  | exit hx _ ih => intro ι b a w cs B X h; exact post_one h.rel (stepR_exit hx) (ih ι b a w cs B X (h.same (exit_okR hx (head_ok h.items).2)))
  | goto hx _ ih => intro ι b a w cs B X h; exact post_one h.rel (stepR_goto hx) (ih ι b a w cs B X (h.same (goto_okR hx (head_ok h.items).2)))
  | @cond Y rd fn k fr H p r H' p' c x y t hc _ ih =>
    intro ι b a w cs B X h
    obtain ⟨h1, h2⟩ := head_ok h.items
    simp only [itemOkR, codeOkR, Bool.and_eq_true] at h1
    have hv := h.fr.ev c
    rw [hc] at hv
    refine post_one h.rel (stepR_cond (vr_bool hv)) (ih ι b a w cs B X (h.same (cons_ok ?_ h2)))
    cases t
    · exact h1.2
    · exact h1.1
  | @region Y rd fn k fr H p r H' p' id ops _ ih =>
    intro ι b a w cs B X h
    refine post_one h.rel stepR_region ?_
    have := ih 0 ι b a w cs B X (by simp) (Nat.zero_le _) (h.same (head_ok h.items).2)
    rw [Nat.sub_zero, ← List.range_eq_range'] at this
    exact this
  | draw h1 _ ih => exact sound_draw hT hm h1 ih
  | rangeF h1 h2 _ _ ih1 ih2 => exact sound_range h1 h2 ih1 ih2
  | @onil Y rd fn all k fr H p r H' p' _ ih =>
    intro m ι b a w cs B X hos hm h
    have hz : all.size - m = 0 := by
      have := congrArg List.length hos
      simp at this; omega
    rw [hz]
    exact post_one h.rel stepR_region_end (ih ι b a w cs B X h)
  | oskip h1 h2 _ ih => exact sound_oskip h1 h2 ih
  | oplain h1 _ h2 h3 _ ih => exact sound_oplain hT h1 h2 h3 ih
  | omkf h1 h2 _ h3 _ ih => exact sound_omkf h1 h2 h3 ih
  | oclear h1 h2 h3 h4 _ ih => exact sound_oclear h1 h2 h3 h4 ih
  | ocall h1 h2 h3 _ _ h5 _ ih1 ih2 => exact sound_ocall h1 h2 h3 ih1 h5 ih2
  | ocallp h1 h2 h3 _ _ ih => exact sound_ocallp h1 h2 h3 ih
  | oyield h1 h2 h3 h4 h5 _ h7 _ ih1 ih2 => exact sound_oyield h1 h2 h3 h4 h5 ih1 h7 ih2
end
end Go.Lg

set_option linter.unusedSimpArgs false
set_option linter.unusedVariables false
namespace Go.Lg
open Go.Tg Go.RowKit
def Bs (H H' : LH) : Prop := H'.base = H.base ∧ H'.ng = H.ng
theorem Bs.refl (H : LH) : Bs H H := ⟨rfl, rfl⟩
theorem Bs.trans {H H1 H2 : LH} (h : Bs H H1) (k : Bs H1 H2) : Bs H H2 := ⟨k.1.trans h.1, k.2.trans h.2⟩
def BsT (T : Callee) : Prop := ∀ f args H v H', T f args H = some (v, H') → Bs H H'
section
variable {P : Program} {T : Callee} {fr fr' : Fr} {H H' H0 : LH} {o : Oper} {v x y : Value} {N : Nat}
theorem store_bs {t : TypeId} {l off : Nat} (h : lstore P t l off v H = some H') : Bs H H' := by
  unfold lstore at h
  split at h
  · split at h
    · injection h with h; subst h; exact ⟨rfl, rfl⟩
    · cases h
  · cases h
theorem buildSlice_bs {t : TypeId} {len : Nat} {ps : List (Nat × Value)} (h : lbuildSlice P t len ps H = some (v, H')) : Bs H H' := by
  unfold lbuildSlice at h
  (repeat' split at h) <;> first | (cases h; done) | (simp only [Option.some.injEq, Prod.mk.injEq] at h; obtain ⟨_, rfl⟩ := h; exact ⟨rfl, rfl⟩)
theorem make_bs {t : TypeId} (h : lmake P t x y H = some (v, H')) : Bs H H' := by
  unfold lmake at h
  (repeat' split at h) <;> first | (cases h; done) | (simp only [Option.some.injEq, Prod.mk.injEq] at h; obtain ⟨_, rfl⟩ := h; exact ⟨rfl, rfl⟩)
theorem appM_bs {e : TypeId} {s l o n c m : Nat} {b : LB} {new : List Value} (h : lappM P e s l o n c b m new H = some (v, H')) : Bs H H' := by
  unfold lappM at h
  (repeat' split at h) <;> first | (cases h; done) | (simp only [Option.some.injEq, Prod.mk.injEq] at h; obtain ⟨_, rfl⟩ := h; exact ⟨rfl, rfl⟩)
theorem append_bs {t u : TypeId} (h : lappend P t u x y H = some (v, H')) : Bs H H' := by
  unfold lappend at h
  (repeat' split at h) <;> first | (cases h; done) | exact appM_bs h | (simp only [Option.some.injEq, Prod.mk.injEq] at h; obtain ⟨_, rfl⟩ := h; exact ⟨rfl, rfl⟩)
theorem builtin_bs {b : Builtin} {ts : List TypeId} {args : List Value} (h : lbuiltin P b ts args H = some (v, H')) : Bs H H' := by
  unfold lbuiltin at h
  (repeat' split at h) <;> first | (cases h; done) | exact append_bs h | (simp only [Option.some.injEq, Prod.mk.injEq] at h; obtain ⟨_, rfl⟩ := h; exact ⟨rfl, rfl⟩)
theorem callee_bs (hT : BsT T) {f : Value} {args : List Value} (h : lcallee P T f args H = some (v, H')) : Bs H H' := by
  unfold lcallee at h
  split at h
  · exact hT _ _ _ _ _ h
  · cases h
theorem lop_bs (hT : BsT T) (h : lop P T o fr H = some (v, H')) : Bs H H' := by
  unfold lop at h
  split at h
  all_goals (repeat' split at h)
  all_goals first
    | (cases h; done)
    | exact builtin_bs h
    | exact callee_bs hT h
    | exact buildSlice_bs h
    | exact make_bs h
    | (simp only [Option.some.injEq, Prod.mk.injEq] at h; obtain ⟨_, rfl⟩ := h; exact ⟨rfl, rfl⟩)
    | (obtain ⟨u, hu, e⟩ := Option.map_eq_some_iff.1 h; simp only [Prod.mk.injEq] at e; obtain ⟨_, rfl⟩ := e; first | exact Bs.refl _ | exact store_bs hu)
theorem bytes_bs {s d : TypeId} (h : lbytes P s d x H = some (v, H')) : Bs H H' := by
  unfold lbytes at h
  (repeat' split at h) <;> first | (cases h; done) | (simp only [Option.some.injEq, Prod.mk.injEq] at h; obtain ⟨_, rfl⟩ := h; exact ⟨rfl, rfl⟩)
theorem mark_bs {s d : TypeId} (h : lmark P s d x H = some (v, H')) : Bs H H' := by
  unfold lmark at h
  (repeat' split at h) <;> first | (cases h; done) | (simp only [Option.some.injEq, Prod.mk.injEq] at h; obtain ⟨_, rfl⟩ := h; exact ⟨rfl, rfl⟩)
theorem bytesM_bs {s d : TypeId} (h : lbytesM P s d x H = some (v, H')) : Bs H H' := by
  unfold lbytesM at h
  split at h
  · rename_i r hr; injection h with h; subst h; exact bytes_bs hr
  · exact mark_bs h
theorem lopB_bs (hT : BsT T) (h : lopB P T o fr H = some (v, H')) : Bs H H' := by
  unfold lopB at h
  split at h
  · split at h
    · rename_i r hr; injection h with h; subst h; exact bytesM_bs hr
    · exact lop_bs hT h
  · exact lop_bs hT h
theorem lops_bs (hT : BsT T) {all : Array Oper} : ∀ {os : List Oper} {fr : Fr} {H : LH} {fr' : Fr} {H' : LH}, lops P T N all os fr H = some (fr', H') → Bs H H'
  | [], fr, H, fr', H', h => by
    simp only [lops, Option.some.injEq, Prod.mk.injEq] at h
    obtain ⟨_, rfl⟩ := h
    exact Bs.refl _
  | o :: os, fr, H, fr', H', h => by
    unfold lops at h
    split at h
    · split at h
      · rename_i v H1 ho
        split at h
        · exact (lopB_bs hT ho).trans (lops_bs hT h)
        · cases h
      · cases h
    · split at h
      · exact lops_bs hT h
      · cases h
    · cases h
theorem lmixop_bs (hT : BsT T) (h : lmixop P T o fr H0 H = some (v, H')) : Bs H H' := by
  unfold lmixop at h
  split at h
  · cases h
  · split at h
    · split at h
      · obtain ⟨u, _, e⟩ := Option.map_eq_some_iff.1 h
        simp only [Prod.mk.injEq] at e
        obtain ⟨_, rfl⟩ := e
        exact Bs.refl _
      · cases h
    · cases h
    · obtain ⟨u, _, e⟩ := Option.map_eq_some_iff.1 h
      simp only [Prod.mk.injEq] at e
      obtain ⟨_, rfl⟩ := e
      exact Bs.refl _
    · cases h
  · split at h
    · rename_i r hr; injection h with h; subst h; exact bytes_bs hr
    · exact lop_bs hT h
  · exact lop_bs hT h
theorem lmix_bs (hT : BsT T) {L : Loud} {all : Array Oper} : ∀ {os : List Oper} {fr : Fr} {H : LH} {fr' : Fr} {H' : LH}, lmix P L T N all H0 os fr H = some (fr', H') → Bs H H'
  | [], fr, H, fr', H', h => by
    simp only [lmix, Option.some.injEq, Prod.mk.injEq] at h
    obtain ⟨_, rfl⟩ := h
    exact Bs.refl _
  | o :: os, fr, H, fr', H', h => by
    unfold lmix at h
    split at h
    · exact lops_bs hT h
    · split at h
      · cases h
      · split at h
        · split at h
          · split at h
            · rename_i v H1 ho
              exact (lmixop_bs hT ho).trans (lmix_bs hT h)
            · cases h
          · exact lmix_bs hT h
          · cases h
        · cases h
theorem lchain_bs (hT : BsT T) {all : Array Oper} {prs : List (Nat × Nat)} : ∀ {os : List Oper} {k : Nat} {old : Nat → Fr × LH} {fr : Fr} {H : LH} {fr' : Fr} {H' : LH}, lchain P T N all prs k old os fr H = some (fr', H') → Bs H H'
  | [], k, old, fr, H, fr', H', h => by
    simp only [lchain, Option.some.injEq, Prod.mk.injEq] at h
    obtain ⟨_, rfl⟩ := h
    exact Bs.refl _
  | o :: os, k, old, fr, H, fr', H', h => by
    unfold lchain at h
    split at h
    · split at h
      · rename_i v H1 ho
        split at h
        · split at h
          · exact (lop_bs hT ho).trans (lchain_bs hT h)
          · cases h
        · cases h
      · cases h
    · split at h
      · split at h
        · exact lchain_bs hT h
        · cases h
      · cases h
    · cases h
theorem run_bs (hT : BsT T) {L : Loud} {fn : Func} : ∀ {n : Nat} {k : List Item} {fr : Fr} {H : LH} {v : Value} {H' : LH}, run P L T fn n k fr H = some (v, H') → Bs H H'
  | 0, _, _, _, _, _, h => by cases h
  | n + 1, k, fr, H, v, H', h => by
    unfold run at h
    split at h
    all_goals first
      | (cases h; done)
      | (obtain ⟨u, _, e⟩ := Option.map_eq_some_iff.1 h; simp only [Prod.mk.injEq] at e; obtain ⟨_, rfl⟩ := e; exact Bs.refl _)
      | exact run_bs hT h
      | skip
    all_goals (repeat' split at h)
    all_goals first
      | (cases h; done)
      | exact run_bs hT h
      | skip
    · rename_i fr1 H1 ho
      exact (lops_bs hT ho).trans (run_bs hT h)
    · rename_i fr1 H1 ho
      refine Bs.trans (H1 := H1) ?_ (run_bs hT h)
      unfold ldraw at ho
      split at ho
      · exact lmix_bs hT ho
      · exact lchain_bs hT ho
theorem trunc_bs {r : Value × LH} (h : Bs H r.2) : Bs H (trunc H r).2 := by
  unfold trunc
  split
  · exact Bs.refl _
  · exact h
theorem lcall_bs {E : Env} (hE : ∀ f s, E.ext f = some s → ∀ args H v H', s args H = some (v, H') → Bs H H') : ∀ n, BsT (lcall P E n)
  | 0, _, _, _, _, _, h => by cases h
  | n + 1, f, args, H, v, H', h => by
    unfold lcall at h
    split at h
    · rename_i s hs
      exact hE f s hs args H v H' h
    · split at h
      · split at h
        · split at h
          · obtain ⟨r, hr, e⟩ := Option.map_eq_some_iff.1 h
            have := trunc_bs (H := H) (r := r) (run_bs (lcall_bs hE n) hr)
            rw [e] at this
            exact this
          · cases h
        · cases h
      · cases h
theorem LC_bs {E : Env} (hE : ∀ f s, E.ext f = some s → ∀ args H v H', s args H = some (v, H') → Bs H H') {f : FuncId} {args : List Value} (h : LC P E f args H = some (v, H')) : Bs H H' := by
  obtain ⟨k, hk⟩ := LC_spec.1 h
  exact lcall_bs hE k f args H v H' hk
end
end Go.Lg

set_option linter.unusedSimpArgs false
set_option linter.unusedVariables false
namespace Go.Lg
open Go.Tg Go.RowKit

section
variable {P : Program}
@[simp] theorem pureVal_bind {α β : Type} (s : Sem α) (f : α → Sem β) : pureVal P (s >>= f) = (pureVal P s).bind fun x => pureVal P (f x) := by
  show pureVal P (s.bind f) = _
  induction s with
  | pure a => rfl
  | program k ih => exact ih P
  | mark m k ih => exact ih
  | _ => rfl
@[simp] theorem pureVal_pure {α : Type} (x : α) : pureVal P (pure x : Sem α) = some x := rfl
@[simp] theorem pureVal_program : pureVal P program = some P := rfl
@[simp] theorem pureVal_und (t : TypeId) : pureVal P (underlying t) = P.underlying t := by
  unfold underlying
  rw [pureVal_bind, pureVal_program, Option.bind_some]
  cases P.underlying t <;> rfl
@[simp] theorem pureVal_sizeOf (t : TypeId) : pureVal P (sizeOf t) = sz P t := by
  unfold sizeOf typeInfo sz
  simp only [pureVal_bind, pureVal_program, Option.bind_some]
  cases P.info? t <;> rfl
end
def str (l : List UInt8) : Value := .string ⟨l.toArray⟩
theorem str_ba (s : ByteArray) : Value.string s = str s.data.toList := by cases s; rfl

attribute [simp ↓] runs_skip runs_label runs_seq runs_block runs_inBlock runs_region runs_draw rops_nil rmix_nil rops_cons rmix_cons rmix_cons0 rops_guard rmix_guard
@[congr] theorem rres_congr {x y : Option Value} {H : LH} {Q : Value × LH → Prop} (h : x = y) : RRes x H Q = RRes y H Q := by rw [h]
@[simp] theorem rres_some {v : Value} {H : LH} {Q : Value × LH → Prop} : RRes (some v) H Q ↔ Q (v, H) := Iff.rfl
@[simp] theorem rres_none {H : LH} {Q : Value × LH → Prop} : RRes none H Q ↔ False := Iff.rfl
attribute [simp ↓] rdr_none rdr_some rch_none rch_nil rch_cons rch_cons0 rch_guard rc0_nil rc0_cons rc0_cons0 rc0_guard
attribute [simp] runs_nil runs_ret step_some mstep_some gstep_true gstep_false gmstep_true gmstep_false rsel_true rsel_false

section
variable {P : Program} {E : Ext} {fn : Func} {k : List Item} {fr : Fr} {H H' H0 : LH} {Q : Value × LH → Prop} {all : Array Oper} {os : List Oper} {d : Nat} {op : Op} {T : Callee}
@[congr] theorem step_congr {x y : Option (Value × LH)} (h : x = y) : Step P E fn x d all os k fr Q = Step P E fn y d all os k fr Q := by rw [h]
@[congr] theorem mstep_congr {x y : Option (Value × LH)} (h : x = y) : MStep P E fn x d all H0 os k fr Q = MStep P E fn y d all H0 os k fr Q := by rw [h]
@[congr] theorem rsel_congr {x y : Bool} {A B : Prop} (h : x = y) : RSel x A B = RSel y A B := by rw [h]
@[congr] theorem gstep_congr {x y : Option Bool} (h : x = y) : GStep P E fn x op d all os k fr H Q = GStep P E fn y op d all os k fr H Q := by rw [h]
@[congr] theorem gmstep_congr {x y : Option Bool} (h : x = y) : GMStep P E fn x op d all H0 os k fr H Q = GMStep P E fn y op d all H0 os k fr H Q := by rw [h]
@[congr] theorem rdr_congr {x y : Option (List (Nat × Nat))} {l : List Oper} (h : x = y) : RDr P E fn x l k fr H Q = RDr P E fn y l k fr H Q := by rw [h]
@[congr] theorem c0step_congr {x y : Option (Value × LH)} (h : x = y) : C0Step P E fn x d all os k fr Q = C0Step P E fn y d all os k fr Q := by rw [h]
@[congr] theorem c0step0_congr {x y : Option (Value × LH)} (h : x = y) : C0Step0 P E fn x all os k fr Q = C0Step0 P E fn y all os k fr Q := by rw [h]
@[congr] theorem c0g_congr {x y : Option Bool} (h : x = y) : C0G P E fn x op d all os k fr H Q = C0G P E fn y op d all os k fr H Q := by rw [h]
@[simp] theorem c0step_some {v : Value} : C0Step P E fn (some (v, H)) d all os k fr Q ↔ d < fn.ntmps ∧ RC0 P E fn all os k (upd fr d v) H Q := Iff.rfl
@[simp] theorem c0step_none : C0Step P E fn none d all os k fr Q ↔ False := Iff.rfl
@[simp] theorem c0step0_some {v : Value} : C0Step0 P E fn (some (v, H)) all os k fr Q ↔ RC0 P E fn all os k fr H Q := Iff.rfl
@[simp] theorem c0step0_none : C0Step0 P E fn none all os k fr Q ↔ False := Iff.rfl
@[simp] theorem c0g_true : C0G P E fn (some true) op d all os k fr H Q ↔ C0Step P E fn (lopx P (LC P E) op fr H) d all os k fr Q := Iff.rfl
@[simp] theorem c0g_false : C0G P E fn (some false) op d all os k fr H Q ↔ d < fn.ntmps ∧ RC0 P E fn all os k (upd fr d undef) H Q := Iff.rfl
theorem c0g_b {b : Bool} : C0G P E fn (some b) op d all os k fr H Q ↔ (b = true → C0Step P E fn (lopx P (LC P E) op fr H) d all os k fr Q) ∧ (b = false → d < fn.ntmps ∧ RC0 P E fn all os k (upd fr d undef) H Q) := by cases b <;> simp
attribute [simp low] c0g_b
section
variable {prs : List (Nat × Nat)} {j : Nat} {old : Nat → Fr × LH} {v : Value} {x : Fr × LH}
@[congr] theorem cstep_congr {x y : Option (Value × LH)} (h : x = y) : CStep P E fn x d op all prs j old os k fr H Q = CStep P E fn y d op all prs j old os k fr H Q := by rw [h]
@[congr] theorem cstep0_congr {x y : Option (Value × LH)} (h : x = y) : CStep0 P E fn x op all prs j old os k fr H Q = CStep0 P E fn y op all prs j old os k fr H Q := by rw [h]
@[congr] theorem cg_congr {x y : Option Bool} (h : x = y) : CG P E fn x op d all prs j old os k fr H Q = CG P E fn y op d all prs j old os k fr H Q := by rw [h]
@[simp] theorem cstep_some : CStep P E fn (some (v, H')) d op all prs j old os k fr H Q ↔ d < fn.ntmps ∧ ckR P j op fr old v prs ∧ ckH P j all old (upd fr d v) H' prs ∧ RCh P E fn all prs (j + 1) (oldS old j (fr, H)) os k (upd fr d v) H' Q := Iff.rfl
@[simp] theorem cstep_none : CStep P E fn none d op all prs j old os k fr H Q ↔ False := Iff.rfl
@[simp] theorem cstep0_some : CStep0 P E fn (some (v, H')) op all prs j old os k fr H Q ↔ ckR P j op fr old v prs ∧ ckH P j all old fr H' prs ∧ RCh P E fn all prs (j + 1) (oldS old j (fr, H)) os k fr H' Q := Iff.rfl
@[simp] theorem cstep0_none : CStep0 P E fn none op all prs j old os k fr H Q ↔ False := Iff.rfl
@[simp] theorem cg_true : CG P E fn (some true) op d all prs j old os k fr H Q ↔ CStep P E fn (lopx P (LC P E) op fr H) d op all prs j old os k fr H Q := Iff.rfl
@[simp] theorem cg_false : CG P E fn (some false) op d all prs j old os k fr H Q ↔ d < fn.ntmps ∧ ckH P j all old (upd fr d undef) H prs ∧ RCh P E fn all prs (j + 1) (oldS old j (fr, H)) os k (upd fr d undef) H Q := Iff.rfl
theorem cg_b {b : Bool} : CG P E fn (some b) op d all prs j old os k fr H Q ↔ (b = true → CStep P E fn (lopx P (LC P E) op fr H) d op all prs j old os k fr H Q) ∧ (b = false → d < fn.ntmps ∧ ckH P j all old (upd fr d undef) H prs ∧ RCh P E fn all prs (j + 1) (oldS old j (fr, H)) os k (upd fr d undef) H Q) := by cases b <;> simp
attribute [simp low] cg_b
@[simp ↓] theorem oldS_get {i : Nat} : oldS old j x i = if i = j then x else old i := rfl
@[simp ↓] theorem ckR_nil : ckR P j op fr old v [] ↔ True := Iff.rfl
@[simp ↓] theorem ckR_cons {a b : Nat} : ckR P j op fr old v ((a, b) :: prs) ↔ (a = j ∧ b < j → lopx P T0 op fr (old b).2 = some (v, (old b).2)) ∧ ckR P j op fr old v prs := Iff.rfl
@[simp ↓] theorem ckH_nil : ckH P j all old fr H' [] ↔ True := Iff.rfl
def lget : List Oper → Nat → Option Oper
  | [], _ => none
  | o :: _, 0 => some o
  | _ :: l, n + 1 => lget l n
theorem lget_eq : ∀ (l : List Oper) (j : Nat), l[j]? = lget l j
  | [], j => by cases j <;> rfl
  | o :: l, 0 => rfl
  | o :: l, n + 1 => lget_eq l n
@[simp ↓] theorem lget_zero {o : Oper} {l : List Oper} : lget (o :: l) 0 = some o := rfl
@[simp ↓] theorem lget_succ {o : Oper} {l : List Oper} {n : Nat} : lget (o :: l) (n + 1) = lget l n := rfl
@[simp ↓] theorem ckH_cons {a b : Nat} {l : List Oper} : ckH P j ⟨l⟩ old fr H' ((a, b) :: prs) ↔ (b = j ∧ a < j → ckOp P ⟨l⟩ (lget l a) (old a) fr H') ∧ ckH P j ⟨l⟩ old fr H' prs := by
  have e : (⟨l⟩ : Array Oper)[a]? = lget l a := by
    rw [← lget_eq]
    show (l.toArray)[a]? = _
    rw [List.getElem?_toArray]
  rw [← e]; exact Iff.rfl
@[simp ↓] theorem ckOp_plain {ty : TypeId} {pos : String} {after : Array Edge} {l : List Oper} : ckOp P ⟨l⟩ (some ⟨some d, op, ty, pos, after, none⟩) x fr H' ↔ lopx P T0 op x.1 H' = some (fr d, H') := by
  unfold ckOp
  constructor
  · intro h; exact h d rfl rfl
  · intro h d' hd _
    injection hd with hd
    subst hd; exact h
def gtr (x : Option Bool) : Prop := x = some true
@[simp] theorem gtr_some {b : Bool} : gtr (some b) ↔ b = true := by unfold gtr; simp
@[simp ↓] theorem ckOp_guard {ty : TypeId} {pos : String} {after : Array Edge} {l : List Oper} {g : Nat} {want : Bool} : ckOp P ⟨l⟩ (some ⟨some d, op, ty, pos, after, some (g, want)⟩) x fr H' ↔ (gtr (guardx ⟨l⟩ x.1 g want) → lopx P T0 op x.1 H' = some (fr d, H')) := by
  unfold ckOp gtr
  constructor
  · intro h hg; exact h d rfl hg
  · intro h d' hd hw
    injection hd with hd
    subst hd; exact h hw
end
@[simp] theorem step_none : Step P E fn none d all os k fr Q ↔ False := Iff.rfl
@[simp] theorem mstep_none : MStep P E fn none d all H0 os k fr Q ↔ False := Iff.rfl
@[simp ↓] theorem upd_get {v : Value} {t : Nat} : upd fr d v t = if t = d then v else fr t := rfl
@[simp ↓] theorem ev_tmp {t : Nat} : ev fr (.tmp t) = fr t := rfl
@[simp ↓] theorem ev_int {kd : IntKind} {n : Int} : ev fr (.const (.int kd n)) = .int kd n := rfl
@[simp ↓] theorem ev_bool {b : Bool} : ev fr (.const (.bool b)) = .bool b := rfl
@[simp ↓] theorem ev_str {l : List UInt8} : ev fr (.const (.string ⟨l.toArray⟩)) = str l := rfl
@[simp ↓] theorem ev_nil : ev fr (.const (.pointer none)) = .pointer none := rfl
@[simp ↓] theorem ev_nilslice : ev fr (.const (.slice none 0 0)) = .slice none 0 0 := rfl
@[simp ↓] theorem ev_func {f : FuncId} : ev fr (.func f) = .func (.func f) #[] #[] := rfl
def RCond (P : Program) (E : Ext) (fn : Func) (c : Value) (x y : Code) (k : List Item) (fr : Fr) (H : LH) (Q : Value × LH → Prop) : Prop :=
  match c with
  | .bool b => (b = true → Runs P E fn (.code x :: k) fr H Q) ∧ (b = false → Runs P E fn (.code y :: k) fr H Q)
  | _ => False
@[congr] theorem rcond_congr {c c' : Value} {x y : Code} (h : c = c') : RCond P E fn c x y k fr H Q = RCond P E fn c' x y k fr H Q := by rw [h]
@[simp ↓] theorem runs_cond' {c : Operand} {x y : Code} : Runs P E fn (.code (.cond c x y) :: k) fr H Q ↔ RCond P E fn (ev fr c) x y k fr H Q := by
  unfold RCond
  cases h : ev fr c with
  | bool b => rw [runs_cond h]; cases b <;> simp
  | _ =>
    simp only [iff_false]
    rintro ⟨n, r, hn, _⟩
    cases n with
    | zero => simp [run] at hn
    | succ n => simp [run, h] at hn
@[simp] theorem rcond_true {x y : Code} : RCond P E fn (.bool true) x y k fr H Q ↔ Runs P E fn (.code x :: k) fr H Q := by simp [RCond]
@[simp] theorem rcond_false {x y : Code} : RCond P E fn (.bool false) x y k fr H Q ↔ Runs P E fn (.code y :: k) fr H Q := by simp [RCond]
@[simp low] theorem rcond_b {b : Bool} {x y : Code} : RCond P E fn (.bool b) x y k fr H Q ↔ (b = true → Runs P E fn (.code x :: k) fr H Q) ∧ (b = false → Runs P E fn (.code y :: k) fr H Q) := Iff.rfl
@[simp ↓] theorem runs_exit' {id : Nat} : Runs P E fn (.code (.exit id) :: k) fr H Q ↔ match exitTo id k with | some k' => Runs P E fn k' fr H Q | none => False := runs_exit
@[simp] theorem exit_nil {id : Nat} : exitTo id [] = none := rfl
@[simp] theorem exit_block {id j : Nat} : exitTo id (.inBlock j :: k) = if j == id then some k else exitTo id k := rfl
@[simp] theorem exit_code {id : Nat} {c : Code} : exitTo id (.code c :: k) = exitTo id k := rfl
@[simp] theorem exit_loop {id : Nat} {c : Code} : exitTo id (.inLoop c :: k) = exitTo id k := rfl
def lnth : List Oper → Nat → Option Tmp
  | [], _ => none
  | o :: _, 0 => o.dst
  | _ :: l, n + 1 => lnth l n
theorem lnth_eq : ∀ (l : List Oper) (j : Nat), (l[j]?).bind (·.dst) = lnth l j
  | [], j => by cases j <;> rfl
  | o :: l, 0 => rfl
  | o :: l, n + 1 => lnth_eq l n
@[simp ↓] theorem lnth_zero {dst : Option Tmp} {op : Op} {ty : TypeId} {pos : String} {after : Array Edge} {g : Option (Nat × Bool)} {l : List Oper} : lnth (⟨dst, op, ty, pos, after, g⟩ :: l) 0 = dst := rfl
@[simp ↓] theorem lnth_succ {o : Oper} {l : List Oper} {n : Nat} : lnth (o :: l) (n + 1) = lnth l n := rfl
def gval (v : Value) (want : Bool) : Option Bool := match v with
  | .bool b => some (b == want)
  | v => if flatB v then some false else none
def gdst (d : Option Tmp) (fr : Fr) (want : Bool) : Option Bool := match d with
  | none => some false
  | some d => gval (fr d) want
@[simp ↓] theorem guardx_mk {l : List Oper} {j : Nat} {want : Bool} : guardx ⟨l⟩ fr j want = gdst (lnth l j) fr want := by
  unfold guardx
  rw [← lnth_eq]
  show (match (l.toArray[j]?).bind (·.dst) with | none => _ | some d => _) = _
  rw [List.getElem?_toArray]
  cases (l[j]?).bind (·.dst) <;> rfl
@[simp] theorem gdst_some {d : Nat} {want : Bool} : gdst (some d) fr want = gval (fr d) want := rfl
@[simp] theorem gval_true {b : Bool} : gval (.bool b) true = some b := by cases b <;> rfl
@[simp] theorem gval_false {b : Bool} : gval (.bool b) false = some (!b) := by cases b <;> rfl
@[simp] theorem gval_undef {want : Bool} : gval undef want = some false := rfl
theorem gstep_b {b : Bool} : GStep P E fn (some b) op d all os k fr H Q ↔ (b = true → Step P E fn (lopxB P (LC P E) op fr H) d all os k fr Q) ∧ (b = false → d < fn.ntmps ∧ ROps P E fn all os k (upd fr d undef) H Q) := by cases b <;> simp
theorem gmstep_b {b : Bool} : GMStep P E fn (some b) op d all H0 os k fr H Q ↔ (b = true → MStep P E fn (lmixx P (LC P E) op fr H0 H) d all H0 os k fr Q) ∧ (b = false → d < fn.ntmps ∧ RMix P E fn all H0 os k (upd fr d undef) H Q) := by cases b <;> simp
attribute [simp low] gstep_b gmstep_b
@[simp ↓] theorem lopx_move {x : Operand} : lopx P T (.move x) fr H = some (ev fr x, H) := rfl
@[simp ↓] theorem lopx_assign {x : Operand} : lopx P T (.assign x) fr H = some (ev fr x, H) := rfl
def lpick (c a b : Value) (H : LH) : Option (Value × LH) := match c with | .bool t => some (if t then a else b, H) | _ => none
@[simp ↓] theorem lopx_pick {c x y : Operand} : lopx P T (.pick c x y) fr H = lpick (ev fr c) (ev fr x) (ev fr y) H := rfl
@[simp] theorem lpick_bool {t : Bool} {a b : Value} : lpick (.bool t) a b H = some (if t = true then a else b, H) := rfl
def withH (v : Option Value) (H : LH) : Option (Value × LH) := v.map fun v => (v, H)
@[simp] theorem withH_some {v : Value} : withH (some v) H = some (v, H) := rfl
@[simp ↓] theorem lopx_bin {op : BinOp} {t yt : TypeId} {x y : Operand} : lopx P T (.binOp op t x y yt) fr H = withH (lbin P op t (ev fr x) (ev fr y)) H := rfl
def lidx (P : Program) (t : TypeId) (x i : Value) : Option Value := if flatB x && flatB i then pureFlat P (Instr.index t x i) else none
@[simp ↓] theorem lopx_index {t : TypeId} {x i : Operand} : lopx P T (.index t x i) fr H = withH (lidx P t (ev fr x) (ev fr i)) H := by
  show (if flatB (ev fr x) && flatB (ev fr i) then _ else _) = withH (lidx _ _ _ _) _
  unfold lidx withH; split <;> rfl
def lun (P : Program) (op : UnOp) (x : Value) : Option Value := if flatB x then pureFlat P (Op.unary op x) else none
@[simp ↓] theorem lopx_un {op : UnOp} {t : TypeId} {x : Operand} : lopx P T (.unOp op t x) fr H = withH (lun P op (ev fr x)) H := by
  show (if flatB (ev fr x) then _ else _) = withH (lun _ _ _) _
  unfold lun withH; split <;> rfl
def lconv (P : Program) (s d : TypeId) (x : Value) (H : LH) : Option Value := if flatB x then pureFlat P (convert s d x) else lbstr P s d x H
@[simp ↓] theorem lopx_conv {s d : TypeId} {x : Operand} : lopx P T (.convert s d x) fr H = withH (lconv P s d (ev fr x) H) H := by
  show (if flatB (ev fr x) then _ else _) = withH (lconv _ _ _ _ _) _
  unfold lconv withH; split <;> rfl
def lextract (x : Value) (i : Nat) : Option Value := match x with | .tuple vs => vs[i]? | _ => none
@[simp ↓] theorem lopx_extract {x : Operand} {i : Nat} : lopx P T (.extract x i) fr H = withH (lextract (ev fr x) i) H := by
  show (match ev fr x with | .tuple vs => _ | _ => none) = withH (lextract _ _) _
  cases ev fr x <;> rfl
@[simp] theorem lextract_0 {a : Value} {l : List Value} : lextract (.tuple ⟨a :: l⟩) 0 = some a := rfl
@[simp] theorem lextract_1 {a b : Value} {l : List Value} : lextract (.tuple ⟨a :: b :: l⟩) 1 = some b := rfl
@[simp] theorem lextract_2 {a b c : Value} {l : List Value} : lextract (.tuple ⟨a :: b :: c :: l⟩) 2 = some c := rfl
@[simp] theorem lextract_3 {a b c d : Value} {l : List Value} : lextract (.tuple ⟨a :: b :: c :: d :: l⟩) 3 = some d := rfl
@[simp ↓] theorem lopx_call {f : Operand} {args : List Operand} {ts : Array TypeId} : lopx P T (.call ⟨.value f, ⟨args⟩, ts⟩) fr H = lcallee P T (ev fr f) (args.map (ev fr)) H := rfl
@[simp ↓] theorem lopx_builtin {b : Builtin} {args : List Operand} {ts : List TypeId} : lopx P T (.call ⟨.builtin b, ⟨args⟩, ⟨ts⟩⟩) fr H = lbuiltin P b ts (args.map (ev fr)) H := rfl
@[simp] theorem lcallee_func {g : FuncId} {args : List Value} : lcallee P T (.func (.func g) #[] #[]) args H = T g args H := by simp [lcallee]
/-! ### operations that stand in a row -/
@[simp ↓] theorem lopxB_move {x : Operand} : lopxB P T (.move x) fr H = lopx P T (.move x) fr H := rfl
@[simp ↓] theorem lopxB_assign {x : Operand} : lopxB P T (.assign x) fr H = lopx P T (.assign x) fr H := rfl
@[simp ↓] theorem lopxB_pick {c x y : Operand} : lopxB P T (.pick c x y) fr H = lopx P T (.pick c x y) fr H := rfl
@[simp ↓] theorem lopxB_alloc {t : TypeId} : lopxB P T (.alloc t) fr H = lopx P T (.alloc t) fr H := rfl
@[simp ↓] theorem lopxB_box {t : TypeId} {x : Operand} : lopxB P T (.box t x) fr H = lopx P T (.box t x) fr H := rfl
@[simp ↓] theorem lopxB_build {t : TypeId} {ps : Array (Nat × Operand)} : lopxB P T (.build t ps) fr H = lopx P T (.build t ps) fr H := rfl
@[simp ↓] theorem lopxB_buildSlice {t : TypeId} {n : Nat} {ps : Array (Nat × Operand)} : lopxB P T (.buildSlice t n ps) fr H = lopx P T (.buildSlice t n ps) fr H := rfl
@[simp ↓] theorem lopxB_load {t : TypeId} {x : Operand} : lopxB P T (.load t x) fr H = lopx P T (.load t x) fr H := rfl
@[simp ↓] theorem lopxB_store {t : TypeId} {x y : Operand} : lopxB P T (.store t x y) fr H = lopx P T (.store t x y) fr H := rfl
@[simp ↓] theorem lopxB_nilCheck {x : Operand} : lopxB P T (.nilCheck x) fr H = lopx P T (.nilCheck x) fr H := rfl
@[simp ↓] theorem lopxB_binOp {o : BinOp} {t u : TypeId} {x y : Operand} : lopxB P T (.binOp o t x y u) fr H = lopx P T (.binOp o t x y u) fr H := rfl
@[simp ↓] theorem lopxB_unOp {o : UnOp} {t : TypeId} {x : Operand} : lopxB P T (.unOp o t x) fr H = lopx P T (.unOp o t x) fr H := rfl
@[simp ↓] theorem lopxB_makeFunc {f : Fn} {g c : Array Operand} : lopxB P T (.makeFunc f g c) fr H = lopx P T (.makeFunc f g c) fr H := rfl
@[simp ↓] theorem lopxB_makeSlice {t : TypeId} {x y : Operand} : lopxB P T (.makeSlice t x y) fr H = lopx P T (.makeSlice t x y) fr H := rfl
@[simp ↓] theorem lopxB_slice {t : TypeId} {x : Operand} {lo hi mx : Option Operand} : lopxB P T (.slice t x lo hi mx) fr H = lopx P T (.slice t x lo hi mx) fr H := rfl
@[simp ↓] theorem lopxB_fieldAddr {t : TypeId} {x : Operand} {i : Nat} : lopxB P T (.fieldAddr t x i) fr H = lopx P T (.fieldAddr t x i) fr H := rfl
@[simp ↓] theorem lopxB_field {t : TypeId} {x : Operand} {i : Nat} : lopxB P T (.field t x i) fr H = lopx P T (.field t x i) fr H := rfl
@[simp ↓] theorem lopxB_indexAddr {t : TypeId} {x y : Operand} : lopxB P T (.indexAddr t x y) fr H = lopx P T (.indexAddr t x y) fr H := rfl
@[simp ↓] theorem lopxB_index {t : TypeId} {x y : Operand} : lopxB P T (.index t x y) fr H = lopx P T (.index t x y) fr H := rfl
@[simp ↓] theorem lopxB_extract {x : Operand} {i : Nat} : lopxB P T (.extract x i) fr H = lopx P T (.extract x i) fr H := rfl
@[simp ↓] theorem lopxB_call {c : Call} : lopxB P T (.call c) fr H = lopx P T (.call c) fr H := rfl
def lcvB (P : Program) (s d : TypeId) (v : Value) (H : LH) : Option (Value × LH) := match lbytesM P s d v H with
  | some r => some r
  | none => withH (lconv P s d v H) H
@[simp ↓] theorem lopxB_convert {s t : TypeId} {x : Operand} : lopxB P T (.convert s t x) fr H = lcvB P s t (ev fr x) H := by
  show (match lbytesM P s t (ev fr x) H with | some r => some r | none => lopx P T (.convert s t x) fr H) = _
  rw [lopx_conv]; rfl
theorem lbytes_no {s t : TypeId} {v : Value} (h : ∀ bs, v ≠ .string bs) : lbytes P s t v H = none := by
  unfold lbytes
  split
  · exact absurd rfl (h _)
  · rfl
theorem lcvB_no {s t : TypeId} {v : Value} (h : ∀ bs, v ≠ .string bs) (h2 : ∀ a n c, v ≠ .slice a n c) : lcvB P s t v H = withH (lconv P s t v H) H := by
  have e1 := lbytes_no (P := P) (H := H) (s := s) (t := t) h
  have e2 : lmark P s t v H = none := by
    unfold lmark
    split
    · exact absurd rfl (h2 _ _ _)
    · rfl
  unfold lcvB lbytesM; rw [e1, e2]
@[simp] theorem lcvB_int {s t : TypeId} {kd : IntKind} {n : Int} : lcvB P s t (.int kd n) H = withH (lconv P s t (.int kd n) H) H := lcvB_no (fun _ h => by cases h) (fun _ _ _ h => by cases h)
@[simp] theorem lcvB_float {s t : TypeId} {kd : FloatKind} {n : Nat} : lcvB P s t (.float kd n) H = withH (lconv P s t (.float kd n) H) H := lcvB_no (fun _ h => by cases h) (fun _ _ _ h => by cases h)
@[simp] theorem lcvB_slice {s t : TypeId} {a : Option Addr} {n c : Nat} (hne : s ≠ t) : lcvB P s t (.slice a n c) H = withH (lconv P s t (.slice a n c) H) H := by
  have e1 := lbytes_no (P := P) (H := H) (s := s) (t := t) (v := .slice a n c) (fun _ h => by cases h)
  have e2 : lmark P s t (.slice a n c) H = none := by
    unfold lmark
    split
    · split
      · split
        · rw [if_neg (fun h => hne h.1)]
        · rfl
      · rfl
    · rfl
  unfold lcvB lbytesM; rw [e1, e2]
@[simp] theorem lcvB_undef {s t : TypeId} : lcvB P s t undef H = withH (lconv P s t undef H) H := lcvB_no (fun _ h => by cases h) (fun _ _ _ h => by cases h)
theorem strCells_eq (l : List UInt8) : Lib.strCells ⟨l.toArray⟩ = l.map fun b => Value.int .u8 b.toNat := by simp [Lib.strCells]
@[simp] theorem lcvB_bytes {s t e : TypeId} {l : List UInt8} (hs : P.underlying s = some .string) (hd : P.underlying t = some (.slice e)) (he : P.underlying e = some (.int .u8)) (hz : sz P e = some 1) : lcvB P s t (str l) H = some (.slice (some ⟨H.n, 0, none⟩) l.length l.length, H.new ⟨l.map fun b => Value.int .u8 b.toNat, MK P e, decide (l.length ≤ maxLen)⟩) := by
  unfold lcvB lbytesM lbytes str
  simp only [hs, hd, he, hz, strCells_eq, if_true]
  rw [show (⟨l.toArray⟩ : ByteArray).size = l.length by show l.toArray.size = _; simp]
@[simp] theorem lcvB_strs {s t : TypeId} {l : List UInt8} (hd : P.underlying t = some .string) : lcvB P s t (str l) H = withH (lconv P s t (str l) H) H := by
  have : lbytes P s t (str l) H = none := by
    unfold lbytes
    split
    · rename_i h _; rw [hd] at h; cases h
    · rfl
  have e2 : lmark P s t (str l) H = none := by
    unfold lmark
    split
    · rename_i h; cases h
    · rfl
  unfold lcvB lbytesM; rw [this, e2]
@[simp] theorem flat_int {kd : IntKind} {n : Int} : flatB (.int kd n) = true := by simp [flatB, flat1B, atomB, str]
@[simp] theorem flat_bool {b : Bool} : flatB (.bool b) = true := by simp [flatB, flat1B, atomB, str]
@[simp] theorem flat_str {l : List UInt8} : flatB (str l) = true := by simp [flatB, flat1B, atomB, str]
@[simp] theorem flat_string {s : ByteArray} : flatB (.string s) = true := by simp [flatB, flat1B, atomB, str]
@[simp] theorem flat_nil : flatB (.pointer none) = true := by simp [flatB, flat1B, atomB, str]
@[simp] theorem flat_nilslice : flatB (.slice none 0 0) = true := by simp [flatB, flat1B, atomB, str]
@[simp] theorem wrap64_in {n : Int} (h1 : -9223372036854775808 ≤ n) (h2 : n ≤ 9223372036854775807) : IntKind.i64.wrap n = n := IntWalk.i64_in _ ⟨h1, h2⟩
theorem lbin_ii {op : BinOp} {t : TypeId} {kd : IntKind} {a b : Int} {v : Value} (h : pureVal P (binOp op t (.int kd a) (.int kd b)) = some v) (hv : flatB v = true) : lbin P op t (.int kd a) (.int kd b) = some v := by
  have e : pureVal P (do eqGuard op t (.tmp 0) (.tmp 0) (.int kd a) (.int kd b); binOp op t (.int kd a) (.int kd b) : Sem Value) = some v := by
    rw [← h]; cases op <;> rfl
  show pureFlat P (do eqGuard op t (.tmp 0) (.tmp 0) _ _; binOp op t _ _) = some v
  unfold pureFlat
  rw [e]
  simp only [hv, if_true]
variable {t : TypeId} {kd : IntKind} {a b : Int}
@[simp] theorem lbin_add : lbin P .add t (.int kd a) (.int kd b) = some (.int kd (kd.wrap (a + b))) := lbin_ii (by simp [binOp, Op.intArith]) rfl
@[simp] theorem lbin_sub : lbin P .sub t (.int kd a) (.int kd b) = some (.int kd (kd.wrap (a - b))) := lbin_ii (by simp [binOp, Op.intArith]) rfl
@[simp] theorem lbin_mul : lbin P .mul t (.int kd a) (.int kd b) = some (.int kd (kd.wrap (a * b))) := lbin_ii (by simp [binOp, Op.intArith]) rfl
@[simp] theorem lbin_quo (h : b ≠ 0) : lbin P .quo t (.int kd a) (.int kd b) = some (.int kd (kd.wrap (a.tdiv b))) := lbin_ii (by simp [binOp, Op.intDiv, h]) rfl
@[simp] theorem lbin_rem (h : b ≠ 0) : lbin P .rem t (.int kd a) (.int kd b) = some (.int kd (a.tmod b)) := lbin_ii (by simp [binOp, Op.intDiv, h]) rfl
@[simp] theorem lbin_eq : lbin P .eql t (.int kd a) (.int kd b) = some (.bool (decide (a = b))) := lbin_ii (by by_cases h : a = b <;> simp [binOp, Op.intCmp, h]) rfl
@[simp] theorem lbin_ne : lbin P .neq t (.int kd a) (.int kd b) = some (.bool (decide (a ≠ b))) := lbin_ii (by
  simp only [binOp, Op.intCmp, ne_eq, not_true_eq_false, if_false]
  show some (Value.bool (a != b)) = _
  congr 2
  by_cases h : a = b <;> simp [h]) rfl
@[simp] theorem lbin_lt : lbin P .lss t (.int kd a) (.int kd b) = some (.bool (decide (a < b))) := lbin_ii (by simp [binOp, Op.intCmp]) rfl
@[simp] theorem lbin_le : lbin P .leq t (.int kd a) (.int kd b) = some (.bool (decide (a ≤ b))) := lbin_ii (by simp [binOp, Op.intCmp]) rfl
@[simp] theorem lbin_gt : lbin P .gtr t (.int kd a) (.int kd b) = some (.bool (decide (b < a))) := lbin_ii (by simp [binOp, Op.intCmp]) rfl
@[simp] theorem lbin_ge : lbin P .geq t (.int kd a) (.int kd b) = some (.bool (decide (b ≤ a))) := lbin_ii (by simp [binOp, Op.intCmp]) rfl
theorem lbin_ss {op : BinOp} {t : TypeId} {a b : List UInt8} {v : Value} (h : pureVal P (binOp op t (str a) (str b)) = some v) (hv : flatB v = true) : lbin P op t (str a) (str b) = some v := by
  have e : pureVal P (do eqGuard op t (.tmp 0) (.tmp 0) (str a) (str b); binOp op t (str a) (str b) : Sem Value) = some v := by
    rw [← h]; cases op <;> rfl
  show pureFlat P (do eqGuard op t (.tmp 0) (.tmp 0) _ _; binOp op t _ _) = some v
  unfold pureFlat
  rw [e]
  simp only [hv, if_true]
theorem ba_list (l : List UInt8) : (⟨l.toArray⟩ : ByteArray).toList = l := by rw [ba_toList]
theorem ba_size (l : List UInt8) : (⟨l.toArray⟩ : ByteArray).size = l.length := by show l.toArray.size = _; simp
variable {x y : List UInt8}
@[simp] theorem lbin_seq : lbin P .eql t (str x) (str y) = some (.bool (decide (x = y))) := lbin_ss (by
  simp only [str, binOp, Op.stringOp, ba_list]
  show some (Value.bool (x == y)) = _
  by_cases h : x = y <;> simp [h]) rfl
@[simp] theorem lbin_sne : lbin P .neq t (str x) (str y) = some (.bool (decide (x ≠ y))) := lbin_ss (by
  simp only [str, binOp, Op.stringOp, ba_list]
  show some (Value.bool (!(x == y))) = _
  by_cases h : x = y <;> simp [h]) rfl
@[simp] theorem lbin_cat (h : x.length + y.length ≤ 9223372036854775807) : lbin P .add t (str x) (str y) = some (str (x ++ y)) := lbin_ss (by
  simp only [str, binOp, Op.stringOp, ba_size]
  rw [if_neg (by rw [show IntKind.max .i64 = 9223372036854775807 from rfl]; omega)]
  show some (Value.string _) = _
  congr 2) rfl
theorem lbin_bb {op : BinOp} {t : TypeId} {a b : Bool} {v : Value} (h : pureVal P (binOp op t (.bool a) (.bool b)) = some v) (hv : flatB v = true) : lbin P op t (.bool a) (.bool b) = some v := by
  have e : pureVal P (do eqGuard op t (.tmp 0) (.tmp 0) (.bool a) (.bool b); binOp op t (.bool a) (.bool b) : Sem Value) = some v := by
    rw [← h]; cases op <;> rfl
  show pureFlat P (do eqGuard op t (.tmp 0) (.tmp 0) _ _; binOp op t _ _) = some v
  unfold pureFlat
  rw [e]
  simp only [hv, if_true]
@[simp] theorem lun_not {a : Bool} : lun P .not (.bool a) = some (.bool (!a)) := rfl
@[simp] theorem lun_neg {a : Int} : lun P .neg (.int kd a) = some (.int kd (kd.wrap (0 - a))) := rfl
def at_ (l : List UInt8) (i : Int) : UInt8 := l.getD i.toNat 0
theorem lidx_str (hu : P.underlying t = some .string) {i : Int} (h0 : 0 ≤ i) (h1 : i < x.length) : lidx P t (str x) (.int kd i) = some (.int .u8 (at_ x i).toNat) := by
  have hlt : i.toNat < x.length := by omega
  have e : (⟨x.toArray⟩ : ByteArray)[i.toNat]? = some (at_ x i) := by
    unfold at_
    have : (⟨x.toArray⟩ : ByteArray)[i.toNat]? = x[i.toNat]? := by
      rw [getElem?_def, getElem?_def]
      simp only [ba_size]
      rfl
    rw [this, List.getD_eq_getElem?_getD, List.getElem?_eq_getElem hlt]; rfl
  have hp : pureVal P (Instr.index t (str x) (.int kd i)) = some (.int .u8 (at_ x i).toNat) := by
    simp only [Instr.index, str, asIntOf, pureVal_bind, pureVal_pure, Option.bind_some, pureVal_und, hu]
    rw [if_pos h0, e]; rfl
  show pureFlat P _ = _
  unfold pureFlat
  rw [hp]; rfl
theorem lbuiltin_len_str (hu : P.underlying t = some .string) : lbuiltin P .len [t] [str x] H = some (.int .i64 x.length, H) := by
  simp only [lbuiltin, str, hu, ba_size]
theorem lbuiltin_len_slice {e : TypeId} (hu : P.underlying t = some (.slice e)) {ad : Option Addr} {n c : Nat} : lbuiltin P .len [t] [.slice ad n c] H = some (.int .i64 n, H) := by
  simp only [lbuiltin, hu]
end
end Go.Lg

set_option linter.unusedSimpArgs false
set_option linter.unusedVariables false
namespace Go.Lg
open Go.Tg Go.RowKit

abbrev ptr (l off : Nat) : Value := .pointer (some ⟨l, off, none⟩)
abbrev sl (l n c : Nat) : Value := .slice (some ⟨l, 0, none⟩) n c
section
variable {P : Program} {E : Ext} {fn : Func} {k : List Item} {fr : Fr} {H H' : LH} {Q : Value × LH → Prop} {all : Array Oper} {os : List Oper} {d : Nat} {op : Op} {T : Callee} {b c : LB} {l m : Nat}

@[simp] theorem enter_get {args : List Value} {t : Nat} : enter args t = args.getD t undef := rfl
@[simp] theorem get_new : (H.new b).get H.n = some b := by simp [LH.new]
theorem get_new' : (H.new b).get l = if l = H.n then some b else H.get l := rfl
@[simp] theorem get_new_ne (h : l ≠ H.n) : (H.new b).get l = H.get l := by simp [LH.new, h]
@[simp] theorem get_set : (H.set l b).get l = some b := by simp [LH.set]
@[simp] theorem get_set_ne (h : m ≠ l) : (H.set l b).get m = H.get m := by simp [LH.set, h]
@[simp] theorem get_kill : (H.kill l).get l = none := by simp [LH.kill]
@[simp] theorem get_kill_ne (h : m ≠ l) : (H.kill l).get m = H.get m := by simp [LH.kill, h]
@[simp] theorem n_new : (H.new b).n = H.n + 1 := by simp only [LH.new]
@[simp] theorem n_set : (H.set l b).n = H.n := by simp only [LH.set]
@[simp] theorem n_kill : (H.kill l).n = H.n := by simp only [LH.kill]
@[simp] theorem n_ro : H.ro.n = H.n := by simp only [LH.ro]
@[simp] theorem base_new : (H.new b).base = H.base := by simp only [LH.new]
@[simp] theorem base_set : (H.set l b).base = H.base := by simp only [LH.set]
@[simp] theorem base_kill : (H.kill l).base = H.base := by simp only [LH.kill]
@[simp] theorem base_ro : H.ro.base = H.base := by simp only [LH.ro]
@[simp] theorem ng_new : (H.new b).ng = H.ng := by simp only [LH.new]
@[simp] theorem ng_set : (H.set l b).ng = H.ng := by simp only [LH.set]
@[simp] theorem ng_kill : (H.kill l).ng = H.ng := by simp only [LH.kill]
@[simp] theorem ng_ro : H.ro.ng = H.ng := by simp only [LH.ro]
@[simp] theorem get_ro : H.ro.get l = (H.get l).map fun b => { b with rw := false } := by simp only [LH.ro]
@[simp] theorem set_set : (H.set l b).set l c = H.set l c := by
  unfold LH.set; simp only [LH.mk.injEq, true_and, and_true]; funext k; split <;> simp_all
@[simp] theorem new_set : (H.new b).set H.n c = H.new c := by
  unfold LH.new LH.set; simp only [LH.mk.injEq, true_and, and_true]; funext k; split <;> simp_all
@[simp] theorem le_self : H.le H := le_refl
theorem LH.le.trans {A B C : LH} (h : A.le B) (g : B.le C) : A.le C := ⟨Nat.le_trans h.1 g.1, fun l hl => (g.2 l (Nat.lt_of_lt_of_le hl h.1)).trans (h.2 l hl)⟩
theorem LH.le.new (h : H.le H') : H.le (H'.new b) := ⟨Nat.le_succ_of_le h.1, fun l hl => by
  have := h.1
  rw [get_new_ne (by omega)]; exact h.2 l hl⟩
theorem LH.le.set (h : H.le H') (hl : H.n ≤ l) : H.le (H'.set l b) := ⟨h.1, fun k hk => by rw [get_set_ne (by omega)]; exact h.2 k hk⟩
theorem LH.le.kill (h : H.le H') (hl : H.n ≤ l) : H.le (H'.kill l) := ⟨h.1, fun k hk => by rw [get_kill_ne (by omega)]; exact h.2 k hk⟩
def fldi (P : Program) (s : TypeId) (f : Nat) : Option (Nat × Nat × Bool) :=
  match P.underlying s with
  | some (.struct fs) => match fs[f]? with
    | some fd => match sz P fd.type, aggB P fd.type with
      | some n, some g => some (fd.offset, n, g)
      | _, _ => none
    | none => none
  | _ => none
def lfaddr (i : Option (Nat × Nat × Bool)) (x : Value) (H : LH) : Option (Value × LH) :=
  match i, x with
  | some (o, n, _), .pointer (some ⟨l, off, none⟩) => if n = 0 then none else some (ptr l (off + o), H)
  | _, _ => none
theorem lopx_fieldAddr {s : TypeId} {x : Operand} {f : Nat} {i : Nat × Nat × Bool} (h : fldi P s f = some i) : lopx P T (.fieldAddr s x f) fr H = lfaddr (some i) (ev fr x) H := by
  unfold fldi at h
  show (match ev fr x, P.underlying s with | .pointer (some ⟨l, off, none⟩), some (.struct fs) => _ | _, _ => none) = _
  split at h
  · rename_i fs hu
    split at h
    · rename_i fd hf
      split at h
      · rename_i n g hs ha
        injection h with h
        subst h
        rw [hu]
        unfold lfaddr
        split
        · rename_i e1 e2
          injection e2 with e2
          injection e2 with e2
          subst e2
          simp only [hf, hs, e1]
        · rename_i h1
          split
          · rename_i e1 e2
            exact absurd rfl (h1 _ _ _ e2)
          · rfl
      · cases h
    · cases h
  · cases h
attribute [simp] lopx_fieldAddr
@[simp] theorem lfaddr_ptr {o n off : Nat} {g : Bool} (h : n ≠ 0) : lfaddr (some (o, n, g)) (ptr l off) H = some (ptr l (off + o), H) := by simp [lfaddr, h]
def lldb (a : Option Bool) (s : Option Nat) (cs : List Value) (off : Nat) : Option Value :=
  match a, s with
  | some true, some s => if off + s ≤ cs.length then some (.agg ((cs.drop off).take s).toArray) else none
  | some false, _ => cs[off]?
  | _, _ => none
def lld (P : Program) (t : TypeId) (x : Value) (H : LH) : Option Value := match x with
  | .pointer (some ⟨l, off, none⟩) => match H.get l with
    | some b => lldb (aggB P t) (sz P t) b.cells off
    | none => none
  | _ => none
theorem lload_eq {t : TypeId} {off : Nat} : lload P t l off H = lld P t (ptr l off) H := by
  cases h : H.get l with
  | none => simp only [lload, lld, h]
  | some b =>
    simp only [lload, lld, h, lldb]
    cases aggB P t with
    | none => rfl
    | some g => cases g <;> cases sz P t <;> simp [lcells]
@[simp ↓] theorem lopx_load {t : TypeId} {x : Operand} : lopx P T (.load t x) fr H = withH (lld P t (ev fr x) H) H := by
  show (match ev fr x with | .pointer (some ⟨l, off, none⟩) => (lload P t l off H).map fun v => (v, H) | _ => none) = _
  split
  · rename_i e; rw [e, lload_eq]; rfl
  · rename_i h
    unfold lld
    split
    · rename_i e; exact absurd e (h _ _)
    · rfl
theorem lld_ptr {t : TypeId} {off : Nat} (h : H.get l = some b) : lld P t (ptr l off) H = lldb (aggB P t) (sz P t) b.cells off := by simp [lld, h]
attribute [simp] lld_ptr
@[simp] theorem lldb_cell {s : Option Nat} {cs : List Value} {off : Nat} : lldb (some false) s cs off = cs[off]? := rfl
@[simp] theorem lldb_agg {s : Nat} {cs : List Value} {off : Nat} (h : off + s ≤ cs.length) : lldb (some true) (some s) cs off = some (.agg ((cs.drop off).take s).toArray) := by simp [lldb, h]
def lst (P : Program) (t : TypeId) (x v : Value) (H : LH) : Option (Value × LH) := match x with
  | .pointer (some ⟨l, off, none⟩) => (lstore P t l off v H).map fun H' => (undef, H')
  | _ => none
@[simp ↓] theorem lopx_store {t : TypeId} {x y : Operand} : lopx P T (.store t x y) fr H = lst P t (ev fr x) (ev fr y) H := rfl
theorem cells_one {v : Value} (h : cellB v = true) : v.cells = #[v] := by cases v <;> first | rfl | (simp [cellB] at h)
theorem lst_cell {t : TypeId} {off : Nat} {v : Value} (h : H.get l = some b) (hrw : b.rw = true) (hs : sz P t = some 1) (hv : cellB v = true) (ho : off < b.cells.length) :
    lst P t (ptr l off) v H = some (undef, H.set l ⟨b.cells.set off v, b.elem, true⟩) := by
  have e1 : splice b.cells off [v] = b.cells.set off v := by
    unfold splice
    rw [List.set_eq_take_append_cons_drop, if_pos ho]; simp
  simp only [lst, lstore, h, hs, cells_one hv]
  simp [hv, e1, hrw]
  omega
attribute [simp] lst_cell
theorem lst_agg {t : TypeId} {off n : Nat} {vs : List Value} (h : H.get l = some b) (hrw : b.rw = true) (hs : sz P t = some n) (hn : vs.length = n) (hv : vs.all cellB = true) (ho : off + n ≤ b.cells.length) :
    lst P t (ptr l off) (.agg ⟨vs⟩) H = some (undef, H.set l ⟨splice b.cells off vs, b.elem, true⟩) := by
  subst hn
  have hv' : ∀ x ∈ vs, cellB x = true := by simpa using hv
  simp only [lst, lstore, h, hs, Value.cells]
  simp [ho, hrw]
  exact hv'
attribute [simp] lst_agg
@[simp] theorem cell_int {kd : IntKind} {n : Int} : cellB (.int kd n) = true := by simp only [cellB]
@[simp] theorem cell_bool {x : Bool} : cellB (.bool x) = true := by simp only [cellB, str]
@[simp] theorem cell_str {x : List UInt8} : cellB (str x) = true := by simp only [cellB, str]
@[simp] theorem cell_ptr {x : Option Addr} : cellB (.pointer x) = true := by simp only [cellB, str]
@[simp] theorem cell_slice {x : Option Addr} {n c : Nat} : cellB (.slice x n c) = true := by simp only [cellB, str]
@[simp] theorem cell_func {f : Fn} {x y : Array Value} : cellB (.func f x y) = true := by simp only [cellB, str]
def Step0 (P : Program) (E : Ext) (fn : Func) (x : Option (Value × LH)) (all : Array Oper) (os : List Oper) (k : List Item) (fr : Fr) (Q : Value × LH → Prop) : Prop :=
  match x with
  | some (_, H) => ROps P E fn all os k fr H Q
  | none => False
@[congr] theorem step0_congr {x y : Option (Value × LH)} (h : x = y) : Step0 P E fn x all os k fr Q = Step0 P E fn y all os k fr Q := by rw [h]
@[simp] theorem step0_some {v : Value} : Step0 P E fn (some (v, H)) all os k fr Q ↔ ROps P E fn all os k fr H Q := Iff.rfl
@[simp] theorem step0_none : Step0 P E fn none all os k fr Q ↔ False := Iff.rfl
@[simp ↓] theorem rops_cons0' {ty : TypeId} {pos : String} {after : Array Edge} : ROps P E fn all (⟨none, op, ty, pos, after, none⟩ :: os) k fr H Q ↔ Step0 P E fn (lopxB P (LC P E) op fr H) all os k fr Q := by
  rw [rops_cons0]; rfl
def lres (P : Program) (rs : List ResultVar) (fr : Fr) (H : LH) : Option Value :=
  match rs.mapM (lresult P fr H) with
  | some [v] => some v
  | some vs => some (.tuple vs.toArray)
  | none => none
@[simp] theorem lresults_eq : lresults P fn fr H = lres P fn.results.toList fr H := rfl
def lres1 (P : Program) (r : ResultVar) (fr : Fr) (H : LH) : Option Value := match r with
  | .tmp t => some (fr t)
  | .cell a t => lld P t (fr a) H
theorem lresult_eq {x : ResultVar} : lresult P fr H x = lres1 P x fr H := by
  cases x with
  | tmp t => rfl
  | cell a t =>
    simp only [lresult, lres1]
    split
    · rename_i e; rw [e, lload_eq]
    · rename_i h
      unfold lld
      split
      · rename_i e; exact absurd e (h _ _)
      · rfl
@[simp] theorem lres1_tmp {t : Tmp} : lres1 P (.tmp t) fr H = some (fr t) := rfl
@[simp] theorem lres1_cell {a : Tmp} {t : TypeId} : lres1 P (.cell a t) fr H = lld P t (fr a) H := rfl
@[simp] theorem lres_nil : lres P [] fr H = some (.tuple #[]) := rfl
@[simp] theorem lres_one {x : ResultVar} : lres P [x] fr H = lres1 P x fr H := by
  simp only [lres, List.mapM_cons, List.mapM_nil, lresult_eq]
  cases lres1 P x fr H <;> rfl
@[simp] theorem lres_two {x y : ResultVar} : lres P [x, y] fr H = (lres1 P x fr H).bind fun a => (lres1 P y fr H).bind fun b => some (.tuple #[a, b]) := by
  simp only [lres, List.mapM_cons, List.mapM_nil, lresult_eq]
  cases lres1 P x fr H <;> cases lres1 P y fr H <;> rfl
@[simp] theorem lres_three {x y z : ResultVar} : lres P [x, y, z] fr H = (lres1 P x fr H).bind fun a => (lres1 P y fr H).bind fun b => (lres1 P z fr H).bind fun c => some (.tuple #[a, b, c]) := by
  simp only [lres, List.mapM_cons, List.mapM_nil, lresult_eq]
  cases lres1 P x fr H <;> cases lres1 P y fr H <;> cases lres1 P z fr H <;> rfl
@[simp] theorem lres_four {x y z u : ResultVar} : lres P [x, y, z, u] fr H = (lres1 P x fr H).bind fun a => (lres1 P y fr H).bind fun b => (lres1 P z fr H).bind fun c => (lres1 P u fr H).bind fun d => some (.tuple #[a, b, c, d]) := by
  simp only [lres, List.mapM_cons, List.mapM_nil, lresult_eq]
  cases lres1 P x fr H <;> cases lres1 P y fr H <;> cases lres1 P z fr H <;> cases lres1 P u fr H <;> rfl
def lbox (s : Option Nat) (e : TypeId) (v : Value) (H : LH) : Option (Value × LH) := if knownB v && s == some v.cells.size then some (ptr H.n 0, H.new ⟨v.cells.toList, e, true⟩) else none
@[simp ↓] theorem lopx_box {e : TypeId} {x : Operand} : lopx P T (.box e x) fr H = lbox (sz P e) e (ev fr x) H := rfl
@[simp] theorem lbox_agg {e : TypeId} {n : Nat} {vs : List Value} (h : vs.length = n) : lbox (some n) e (.agg ⟨vs⟩) H = some (ptr H.n 0, H.new ⟨vs, e, true⟩) := by simp [lbox, knownB, Value.cells, h]
@[simp] theorem lbox_cell {e : TypeId} {v : Value} (h : cellB v = true) : lbox (some 1) e v H = some (ptr H.n 0, H.new ⟨[v], e, true⟩) := by
  have : knownB v = true := by cases v <;> first | rfl | (simp [cellB] at h)
  simp [lbox, this, cells_one h]
def lalloc (s : Option Nat) (z : Option Value) (e : TypeId) (H : LH) : Option (Value × LH) := match z with
  | some z => if flatB z && s == some z.cells.size then some (ptr H.n 0, H.new ⟨z.cells.toList, e, true⟩) else none
  | none => none
@[simp ↓] theorem lopx_alloc {e : TypeId} : lopx P T (.alloc e) fr H = lalloc (sz P e) (zr P e) e H := rfl
@[simp] theorem lalloc_agg {e : TypeId} {n : Nat} {vs : List Value} (h : vs.length = n) (hf : vs.all atomB = true) : lalloc (some n) (some (.agg ⟨vs⟩)) e H = some (ptr H.n 0, H.new ⟨vs, e, true⟩) := by
  have : flatB (.agg ⟨vs⟩) = true := hf
  simp [lalloc, this, Value.cells, h]
@[simp] theorem lalloc_cell {e : TypeId} {v : Value} (h : cellB v = true) (hf : flatB v = true) : lalloc (some 1) (some v) e H = some (ptr H.n 0, H.new ⟨[v], e, true⟩) := by simp [lalloc, hf, cells_one h]
@[simp] theorem zr_str : Value.string ⟨#[]⟩ = str [] := rfl
@[simp ↓] theorem lopx_nilCheck {x : Operand} {ad : Addr} (h : ev fr x = .pointer (some ad)) : lopx P T (.nilCheck x) fr H = some (.pointer (some ad), H) := by
  show (match ev fr x with | .pointer (some a) => _ | .func (.func g) f c => _ | _ => none) = _
  rw [h]
def sub (x : List UInt8) (i j : Int) : List UInt8 := (x.take j.toNat).drop i.toNat
def lbv (v : Value) : Option Int := match v with | .int _ i => some i | _ => none
def lssl (x : Value) (i j : Option Int) : Option Value := match x, i, j with
  | .string s, some i, some j => if 0 ≤ i ∧ i ≤ j ∧ j ≤ s.size then some (str (sub s.data.toList i j)) else none
  | _, _, _ => none
end
end Go.Lg

set_option linter.unusedSimpArgs false
set_option linter.unusedVariables false
namespace Go.Lg
open Go.Tg Go.RowKit

section
variable {P : Program} {E : Ext} {fn : Func} {k : List Item} {fr : Fr} {H H' : LH} {Q : Value × LH → Prop} {all : Array Oper} {os : List Oper} {d : Nat} {op : Op} {T : Callee} {b c : LB} {l m : Nat} {t e : TypeId} {kd kd' : IntKind} {x y : List UInt8} {i j : Int}
attribute [simp] lidx_str lbuiltin_len_str lbuiltin_len_slice
def evo (fr : Fr) (o : Option Operand) : Option Value := o.map (ev fr)
@[simp ↓] theorem evo_none : evo fr none = none := rfl
@[simp ↓] theorem evo_some {x : Operand} : evo fr (some x) = some (ev fr x) := rfl
def lbd (d : Nat) : Option Value → Option Nat
  | none => some d
  | some (.int _ i) => if 0 ≤ i then some i.toNat else none
  | _ => none
theorem lbound_eq {d : Nat} {o : Option Operand} : lbound fr d o = lbd d (evo fr o) := by
  cases o with
  | none => rfl
  | some x => simp only [lbound, evo, Option.map_some]; cases ev fr x <;> rfl
def lpart (P : Program) (t : TypeId) (x : Value) (lo hi : Option Value) : Option Value :=
  match P.underlying t, x with
  | some .string, .string s =>
    match lbd 0 lo, lbd s.size hi with
    | some a, some b => if a ≤ b ∧ b ≤ s.size then some (.string (s.extract a b)) else none
    | _, _ => none
  | some (.slice e), .slice a n c =>
    match lbd 0 lo, lbd n hi, sz P e with
    | some i, some j, some s => if i ≤ j ∧ j ≤ n then
        match a with
        | some ⟨l, o, none⟩ => some (.slice (some ⟨l, o + i * s, none⟩) (j - i) (c - i))
        | none => some (.slice none 0 0)
        | _ => none
      else none
    | _, _, _ => none
  | _, _ => none
@[simp ↓] theorem lopx_slice {x : Operand} {lo hi : Option Operand} : lopx P T (.slice t x lo hi none) fr H = withH (lpart P t (ev fr x) (evo fr lo) (evo fr hi)) H := by
  show (lslice P t (ev fr x) fr lo hi).map _ = _
  unfold lslice lpart withH
  simp only [lbound_eq]
  rfl
theorem ext_str {a b : Nat} : (⟨x.toArray⟩ : ByteArray).extract a b = ⟨((x.take b).drop a).toArray⟩ := by
  apply ByteArray.ext
  rw [ByteArray.data_extract, List.drop_take]
  simp
theorem lpart_str0 {u : Option TypeDesc} (hu : P.underlying t = some .string) {a b : Option Value} {p q : Nat} (ha : lbd 0 a = some p) (hb : lbd x.length b = some q) (h : p ≤ q ∧ q ≤ x.length) : lpart P t (str x) a b = some (str ((x.take q).drop p)) := by
  unfold lpart str
  simp only [hu, ha, ba_size, hb, if_pos h, ext_str]
theorem lbd_int {d : Nat} (h : 0 ≤ i) : lbd d (some (.int kd i)) = some i.toNat := by simp only [lbd, if_pos h]
@[simp] theorem lpart_str_nn (hu : P.underlying t = some .string) : lpart P t (str x) none none = some (str x) := by
  rw [lpart_str0 (u := none) hu rfl rfl ⟨Nat.zero_le _, Nat.le_refl _⟩]; simp
@[simp] theorem lpart_str_ns (hu : P.underlying t = some .string) (h0 : 0 ≤ j) (h1 : j ≤ x.length) : lpart P t (str x) none (some (.int kd j)) = some (str (x.take j.toNat)) := by
  rw [lpart_str0 (u := none) hu rfl (lbd_int h0) ⟨Nat.zero_le _, by omega⟩]; simp
@[simp] theorem lpart_str_sn (hu : P.underlying t = some .string) (h0 : 0 ≤ i) (h1 : i ≤ x.length) : lpart P t (str x) (some (.int kd i)) none = some (str (x.drop i.toNat)) := by
  rw [lpart_str0 (u := none) hu (lbd_int h0) rfl ⟨by omega, Nat.le_refl _⟩]; simp
@[simp] theorem lpart_str_ss (hu : P.underlying t = some .string) (h0 : 0 ≤ i) (h1 : i ≤ j) (h2 : j ≤ x.length) : lpart P t (str x) (some (.int kd i)) (some (.int kd' j)) = some (str (sub x i j)) :=
  lpart_str0 (u := none) hu (lbd_int h0) (lbd_int (by omega)) ⟨by omega, by omega⟩
theorem lpart_row0 {s o n c : Nat} (hu : P.underlying t = some (.slice e)) (hs : sz P e = some s) {a b : Option Value} {p q : Nat} (ha : lbd 0 a = some p) (hb : lbd n b = some q) (h : p ≤ q ∧ q ≤ n) : lpart P t (.slice (some ⟨l, o, none⟩) n c) a b = some (.slice (some ⟨l, o + p * s, none⟩) (q - p) (c - p)) := by
  unfold lpart
  simp only [hu, ha, hs, hb, if_pos h]
@[simp] theorem lpart_row_nn {s o n c : Nat} (hu : P.underlying t = some (.slice e)) (hs : sz P e = some s) : lpart P t (.slice (some ⟨l, o, none⟩) n c) none none = some (.slice (some ⟨l, o, none⟩) n c) := by
  rw [lpart_row0 hu hs rfl rfl ⟨Nat.zero_le _, Nat.le_refl _⟩]; simp
@[simp] theorem lpart_row_ns {s o n c : Nat} (hu : P.underlying t = some (.slice e)) (hs : sz P e = some s) (h0 : 0 ≤ j) (h1 : j ≤ n) : lpart P t (.slice (some ⟨l, o, none⟩) n c) none (some (.int kd j)) = some (.slice (some ⟨l, o, none⟩) j.toNat c) := by
  rw [lpart_row0 hu hs rfl (lbd_int h0) ⟨Nat.zero_le _, by omega⟩]; simp
@[simp] theorem lpart_row_sn {s o n c : Nat} (hu : P.underlying t = some (.slice e)) (hs : sz P e = some s) (h0 : 0 ≤ i) (h1 : i ≤ n) : lpart P t (.slice (some ⟨l, o, none⟩) n c) (some (.int kd i)) none = some (.slice (some ⟨l, o + i.toNat * s, none⟩) (n - i.toNat) (c - i.toNat)) := by
  rw [lpart_row0 hu hs (lbd_int h0) rfl ⟨by omega, Nat.le_refl _⟩]
@[simp] theorem lpart_row_ss {s o n c : Nat} (hu : P.underlying t = some (.slice e)) (hs : sz P e = some s) (h0 : 0 ≤ i) (h1 : i ≤ j) (h2 : j ≤ n) : lpart P t (.slice (some ⟨l, o, none⟩) n c) (some (.int kd i)) (some (.int kd' j)) = some (.slice (some ⟨l, o + i.toNat * s, none⟩) (j.toNat - i.toNat) (c - i.toNat)) :=
  lpart_row0 hu hs (lbd_int h0) (lbd_int (by omega)) ⟨by omega, by omega⟩
@[simp] theorem lpart_nil {s : Nat} (hu : P.underlying t = some (.slice e)) (hs : sz P e = some s) : lpart P t (.slice none 0 0) none none = some (.slice none 0 0) := by
  unfold lpart; simp [hu, lbd, hs]
def lixa (P : Program) (t : TypeId) (x i : Value) (H : LH) : Option (Value × LH) := match x, i, P.underlying t with
  | .slice (some ⟨l, off, none⟩) n _, .int _ k, some (.slice e) => match sz P e with
    | some s => if 0 ≤ k ∧ k < n then some (.pointer (some ⟨l, off + k.toNat * s, none⟩), H) else none
    | none => none
  | _, _, _ => none
@[simp ↓] theorem lopx_indexAddr {x i : Operand} : lopx P T (.indexAddr t x i) fr H = lixa P t (ev fr x) (ev fr i) H := rfl
@[simp] theorem lixa_row {s off n c : Nat} (hu : P.underlying t = some (.slice e)) (hs : sz P e = some s) (h0 : 0 ≤ i) (h1 : i < n) : lixa P t (.slice (some ⟨l, off, none⟩) n c) (.int kd i) H = some (ptr l (off + i.toNat * s), H) := by
  simp only [lixa, hu, hs, if_pos (And.intro h0 h1)]
def lesrc (P : Program) (t : TypeId) (y : Value) (H : LH) : Option (Nat × List Value) :=
  match P.underlying t with
  | some (.slice e) => match lesz P e with
    | some s => lsrc s y H
    | none => none
  | _ => none
@[simp] theorem lesrc_nil {s : Nat} (hu : P.underlying t = some (.slice e)) (hs : lesz P e = some s) : lesrc P t (.slice none 0 0) H = some (0, []) := by
  simp only [lesrc, hu, hs, lsrc]
@[simp] theorem lesrc_row {s o n c : Nat} (hu : P.underlying t = some (.slice e)) (hs : lesz P e = some s) (hb : H.get l = some b) (hle : o + n * s ≤ b.cells.length) : lesrc P t (.slice (some ⟨l, o, none⟩) n c) H = some (n, (b.cells.drop o).take (n * s)) := by
  simp only [lesrc, hu, hs, lsrc, hb, lcells, if_pos hle, Option.map_some]
def lapp (P : Program) (t : TypeId) (x : Value) (src : Option (Nat × List Value)) (H : LH) : Option (Value × LH) :=
  match P.underlying t, src with
  | some (.slice e), some (m, new) =>
    match lesz P e with
    | some s =>
        if new.all cellB then
          match x with
          | .slice none 0 0 => if m = 0 then some (x, H) else if m ≤ maxElems then some (.slice (some ⟨H.n, 0, none⟩) m m, H.new ⟨new, e, true⟩) else none
          | .slice (some ⟨l, o, none⟩) n c =>
            match H.get l with
            | some b =>
              if b.rw = true ∧ b.elem = e ∧ o = 0 ∧ b.cells.length = c * s ∧ n ≤ c then
                if m = 0 then some (x, H)
                else if n + m ≤ c then some (.slice (some ⟨l, 0, none⟩) (n + m) c, H.set l { b with cells := splice b.cells (n * s) new })
                else if n = c ∧ n + m ≤ maxElems then some (.slice (some ⟨H.n, 0, none⟩) (n + m) (n + m), (H.kill l).new ⟨b.cells ++ new, e, true⟩)
                else none
              else lappM P e s l o n c b m new H
            | none => none
          | _ => none
        else none
    | none => none
  | _, _ => none
theorem lappend_eq {x y : Value} : lappend P t t x y H = lapp P t x (lesrc P t y H) H := by
  unfold lappend lapp lesrc
  cases P.underlying t with
  | none => rfl
  | some u =>
    cases u <;> try rfl
    rename_i e
    dsimp only
    cases hz : lesz P e with
    | none => rfl
    | some s =>
      dsimp only
      rw [if_pos rfl]
      cases lsrc s y H with
      | none => rfl
      | some q =>
        obtain ⟨m, new⟩ := q
        simp only [hz]
        rfl
@[simp] theorem lbuiltin_append {x y : Value} : lbuiltin P .append [t, t] [x, y] H = lapp P t x (lesrc P t y H) H := by
  rw [← lappend_eq]; simp only [lbuiltin]
theorem lbuiltin_appends {u : TypeId} {x : Value} {z : List UInt8} (hne : t ≠ u) (ht : P.underlying t = some (.slice e)) (hu : P.underlying u = some .string) (hs : lesz P e = some 1) (hz : zr P e = some (.int .u8 0)) (hb : byts P e = some 1) :
    lbuiltin P .append [t, u] [x, str z] H = lapp P t x (some (z.length, z.map fun b => Value.int .u8 b.toNat)) H := by
  have e1 : lsrcS P u e 1 (str z) = some (z.length, z.map fun b => Value.int .u8 b.toNat) := by
    unfold lsrcS str
    simp only [hu, hz, hb, and_self, if_true]
    rw [ba_size]
    rfl
  show lappend P t u x (str z) H = _
  unfold lappend lapp
  simp only [ht, hs, if_neg hne, e1]
  rfl
variable {new : List Value} {s n cp : Nat}
@[simp] theorem lapp_nil (hu : P.underlying t = some (.slice e)) (hs : lesz P e = some s) (hc : new.all cellB = true) (hm : m ≠ 0) (hM : m ≤ maxElems) : lapp P t (.slice none 0 0) (some (m, new)) H = some (sl H.n m m, H.new ⟨new, e, true⟩) := by
  simp only [lapp, hu, hs, hc, hm, hM, if_true, if_false]
@[simp] theorem lapp_nil0 (hu : P.underlying t = some (.slice e)) (hs : lesz P e = some s) : lapp P t (.slice none 0 0) (some (0, [])) H = some (.slice none 0 0, H) := by
  simp [lapp, hu, hs]
theorem lapp_grow (hu : P.underlying t = some (.slice e)) (hs : lesz P e = some s) (hc : new.all cellB = true) (hm : m ≠ 0) (hM : n + m ≤ maxElems) (hb : H.get l = some b) (hrw : b.rw = true) (he : b.elem = e) (hl : b.cells.length = n * s) : lapp P t (sl l n n) (some (m, new)) H = some (sl H.n (n + m) (n + m), (H.kill l).new ⟨b.cells ++ new, e, true⟩) := by
  have h1 : ¬ n + m ≤ n := by omega
  simp only [lapp, hu, hs, hc, hb, if_true]
  rw [if_pos ⟨hrw, he, trivial, hl, Nat.le_refl _⟩, if_neg hm, if_neg h1, if_pos ⟨trivial, hM⟩]
theorem lapp_in (hu : P.underlying t = some (.slice e)) (hs : lesz P e = some s) (hc : new.all cellB = true) (hm : m ≠ 0) (hb : H.get l = some b) (hrw : b.rw = true) (he : b.elem = e) (hl : b.cells.length = cp * s) (hn : n + m ≤ cp) : lapp P t (sl l n cp) (some (m, new)) H = some (sl l (n + m) cp, H.set l { b with cells := splice b.cells (n * s) new }) := by
  simp only [lapp, hu, hs, hc, hb, if_true]
  rw [if_pos ⟨hrw, he, trivial, hl, by omega⟩, if_neg hm, if_pos hn]
def denseB : List (Nat × Value) → Nat → Bool
  | [], _ => true
  | (i, v) :: ps, k => i == k && cellB v && denseB ps (k + 1)
@[simp] theorem denseB_nil {k : Nat} : denseB [] k = true := rfl
@[simp] theorem denseB_cons {k i : Nat} {v : Value} {ps : List (Nat × Value)} : denseB ((i, v) :: ps) k = (i == k && cellB v && denseB ps (k + 1)) := rfl
theorem fill_dense {pl : Nat → Option (Nat × Nat)} : ∀ (ps : List (Nat × Value)) (pre post : List Value), (∀ j, j < pre.length + ps.length → pl j = some (j, 1)) → denseB ps pre.length = true → post.length = ps.length → Instr.fill pl (pre ++ post).toArray ps = some (pre ++ ps.map Prod.snd).toArray
  | [], pre, post, _, _, h => by
    have : post = [] := List.length_eq_zero_iff.1 h
    subst this; simp [Instr.fill]
  | (i, v) :: ps, pre, post, hp, hd, h => by
    cases post with
    | nil => simp at h
    | cons z post =>
    simp only [denseB, Bool.and_eq_true, beq_iff_eq] at hd
    obtain ⟨⟨rfl, hv⟩, hd⟩ := hd
    have e1 := cells_one hv
    unfold Instr.fill
    rw [hp _ (by simp)]
    simp only [e1]
    rw [if_neg (by simp)]
    have e2 : ((#[v] : Array Value).zipIdx.foldl (fun cs (c, j) => cs.setIfInBounds (pre.length + j) c) (pre ++ z :: post).toArray) = ((pre ++ [v]) ++ post).toArray := by
      simp
    rw [e2, fill_dense ps (pre ++ [v]) post (fun j hj => hp j (by simp at hj ⊢; omega)) (by simpa using hd) (by simpa using h)]
    simp
theorem dense_known : ∀ (ps : List (Nat × Value)) (k : Nat), denseB ps k = true → (ps.all fun p => knownB p.2) = true
  | [], _, _ => rfl
  | (i, v) :: ps, k, h => by
    simp only [denseB, Bool.and_eq_true, beq_iff_eq] at h
    have : knownB v = true := by cases v <;> first | rfl | (have := h.1.2; simp [cellB] at this)
    simp only [List.all_cons, this, dense_known ps _ h.2, Bool.and_self]
@[simp ↓] theorem lopx_buildSlice {ps : List (Nat × Operand)} : lopx P T (.buildSlice t n ⟨ps⟩) fr H = lbuildSlice P t n (ps.map fun p => (p.1, ev fr p.2)) H := rfl
theorem lbs_dense {z : Value} {ps : List (Nat × Value)} (hu : P.underlying t = some (.slice e)) (hs : sz P e = some 1) (hz : zr P e = some z) (hf : flatB z = true) (hz1 : cellB z = true) (hn : n = ps.length) (hle : n ≤ 65536) (hd : denseB ps 0 = true) : lbuildSlice P t n ps H = some (sl H.n n n, H.new ⟨ps.map Prod.snd, e, true⟩) := by
  subst hn
  have hk : ∀ p ∈ ps, knownB p.2 = true := by simpa using dense_known ps 0 hd
  unfold lbuildSlice
  simp only [hu, hs, hz]
  rw [if_pos (by
    simp only [Bool.and_eq_true, decide_eq_true_eq, beq_iff_eq, List.all_eq_true]
    exact ⟨⟨⟨⟨hf, by omega⟩, by omega⟩, by rw [cells_one hz1]; rfl⟩, hk⟩)]
  have e0 : ((Array.range (ps.length * 1)).map fun j => z.cells[j % z.cells.size]!) = (([] : List Value) ++ List.replicate ps.length z).toArray := by
    rw [cells_one hz1]
    apply Array.ext
    · simp
    · intro i h1 h2
      simp [Nat.mod_one]
  rw [e0, fill_dense ps [] (List.replicate ps.length z) (fun j _ => by simp) hd (by simp)]
  simp
attribute [simp] lbs_dense
@[simp] theorem lconv_ii {a c : TypeId} {k1 k2 : IntKind} {n : Int} (h1 : P.underlying a = some (.int k1)) (h2 : P.underlying c = some (.int k2)) : lconv P a c (.int k1 n) H = some (.int k2 (k2.wrap n)) := by
  have e : pureVal P (convert a c (.int k1 n)) = some (.int k2 (k2.wrap n)) := by
    simp only [convert, pureVal_bind, pureVal_und, h1, h2, Option.bind_some]
    rfl
  unfold lconv
  simp only [flat_int, if_true, pureFlat, e]
def lbs : List Value → Option (List UInt8)
  | [] => some []
  | v :: l => (lbyte v).bind fun b => (lbs l).map (b :: ·)
theorem lbs_eq : ∀ l : List Value, l.mapM lbyte = lbs l
  | [] => rfl
  | v :: l => by
    rw [List.mapM_cons, lbs_eq l, lbs]
    cases lbyte v <;> cases lbs l <;> rfl
def bv (x : UInt8) : Value := .int .u8 x.toNat
@[simp] theorem lbyte_bv {x : UInt8} : lbyte (.int .u8 x.toNat) = some x := by simp [lbyte]
@[simp] theorem lbs_nil : lbs [] = some [] := rfl
@[simp] theorem lbs_cons {v : Value} {l : List Value} : lbs (v :: l) = (lbyte v).bind fun b => (lbs l).map (b :: ·) := rfl
@[simp] theorem lbs_map : ∀ l : List UInt8, lbs (l.map bv) = some l
  | [] => rfl
  | a :: l => by simp only [List.map_cons, lbs, bv, lbyte_bv, Option.bind_some, lbs_map l, Option.map_some]
theorem lconv_bs {a c e : TypeId} {o n cp : Nat} {z : List UInt8} (h1 : P.underlying a = some (.slice e)) (h2 : P.underlying c = some .string) (h3 : P.underlying e = some (.int .u8)) (hb : H.get l = some b) (hle : o + n ≤ b.cells.length) (hz : lbs ((b.cells.drop o).take n) = some z) : lconv P a c (.slice (some ⟨l, o, none⟩) n cp) H = some (str z) := by
  have e1 : flatB (.slice (some ⟨l, o, none⟩) n cp) = false := by simp [flatB, flat1B, atomB]
  unfold lconv lbstr
  simp only [e1, h1, h2, h3, hb, lcells, if_pos hle, lbs_eq, hz, Option.map_some]
  rfl
def plc (P : Program) (t : TypeId) : Option (List (Nat × Nat)) := match P.underlying t with
  | some (.struct fs) => fs.toList.mapM (fun f => (P.info? f.type).map fun i => (f.offset, i.size))
  | _ => none
def plcB (P : Program) (t : TypeId) : Bool := (plc P t).isSome
def lfill (P : Program) (t : TypeId) (cs : List Value) (ps : List (Nat × Value)) : Option (List Value) := match plc P t with
  | some pl => (Instr.fill (pl.toArray[·]?) cs.toArray ps).map Array.toList
  | none => none
theorem mapM_get {α β : Type} {f : α → Option β} : ∀ {l : List α} {r : List β}, l.mapM f = some r → ∀ (i : Nat) x, l[i]? = some x → r[i]? = f x
  | [], r, h, i, x, hx => by simp at hx
  | a :: l, r, h, i, x, hx => by
    simp only [List.mapM_cons, Option.bind_eq_bind, Option.pure_def] at h
    cases ha : f a with
    | none => simp [ha] at h
    | some y =>
      simp only [ha, Option.bind_some] at h
      cases hl : l.mapM f with
      | none => simp [hl] at h
      | some ys =>
        simp only [hl, Option.bind_some, Option.some.injEq] at h
        subst h
        cases i with
        | zero => simp at hx; subst hx; simp [ha]
        | succ i => simpa using mapM_get hl i x (by simpa using hx)
theorem plc_get {pl : List (Nat × Nat)} (hp : plc P t = some pl) {i o n : Nat} {g : Bool} (hf : fldi P t i = some (o, n, g)) : pl[i]? = some (o, n) := by
  unfold fldi at hf
  unfold plc at hp
  split at hf
  · rename_i fs hu
    rw [hu] at hp
    split at hf
    · rename_i fd hfd
      split at hf
      · rename_i n' g' hs ha
        simp only [Option.some.injEq, Prod.mk.injEq] at hf
        obtain ⟨rfl, rfl, rfl⟩ := hf
        rw [mapM_get hp i fd (by simpa using hfd)]
        unfold sz at hs
        cases hi : P.info? fd.type with
        | none => simp [hi] at hs
        | some it => simp [hi] at hs; simp [hs]
      · cases hf
    · cases hf
  · cases hf
@[simp] theorem lfill_nil {cs : List Value} (h : plcB P t = true) : lfill P t cs [] = some cs := by
  unfold plcB at h
  unfold lfill
  cases hp : plc P t with
  | none => simp [hp] at h
  | some pl => rfl
theorem fold_splice : ∀ (vs : List Value) (pre cs : List Value) (off : Nat), off + pre.length + vs.length ≤ cs.length → (vs.toArray.zipIdx pre.length).foldl (fun cs (c, j) => cs.setIfInBounds (off + j) c) cs.toArray = (splice cs (off + pre.length) vs).toArray
  | [], pre, cs, off, h => by
    rw [show (([] : List Value).toArray.zipIdx pre.length) = #[] from by apply Array.ext <;> simp]
    simp [splice]
  | v :: vs, pre, cs, off, h => by
    have hh : off + pre.length < cs.length := by simp at h; omega
    have ih := fold_splice vs (pre ++ [v]) (cs.set (off + pre.length) v) off (by simp at h ⊢; omega)
    have e : (v :: vs).toArray.zipIdx pre.length = ((v, pre.length) :: (vs.zipIdx (pre.length + 1))).toArray := by simp
    rw [e]
    have e2 : (vs.toArray.zipIdx (pre ++ [v]).length) = (vs.zipIdx (pre.length + 1)).toArray := by simp
    rw [e2] at ih
    simp only [List.foldl_toArray', List.size_toArray, List.foldl_cons, List.setIfInBounds_toArray] at ih ⊢
    rw [ih]
    congr 1
    unfold splice
    simp only [List.length_append, List.length_cons, List.length_nil, Nat.zero_add, ← Nat.add_assoc]
    rw [List.take_set, List.drop_set, if_pos (by omega)]
    have e3 : (cs.take (off + pre.length + 1)).set (off + pre.length) v = cs.take (off + pre.length) ++ [v] := by
      rw [List.take_succ_eq_append_getElem hh, List.set_append, if_neg (by simp; omega)]
      simp [Nat.min_eq_left (Nat.le_of_lt hh)]
    rw [e3]
    simp [Nat.add_assoc, Nat.add_comm, Nat.add_left_comm]
theorem lfill_step {cs : List Value} {i o n : Nat} {g : Bool} {v : Value} {ps : List (Nat × Value)} (hf : fldi P t i = some (o, n, g)) (hn : v.cells.toList.length = n) (ho : o + n ≤ cs.length) : lfill P t cs ((i, v) :: ps) = lfill P t (splice cs o v.cells.toList) ps := by
  unfold lfill
  cases hp : plc P t with
  | none => rfl
  | some pl =>
    have h1 : pl.toArray[i]? = some (o, n) := by simpa using plc_get hp hf
    simp only [Instr.fill, h1]
    rw [if_neg (by simp at hn ⊢; omega)]
    have := fold_splice v.cells.toList [] cs o (by simp at hn ⊢; omega)
    simp only [List.length_nil, Nat.add_zero, Array.toArray_toList] at this
    rw [this]
@[simp] theorem lfill_cell {cs : List Value} {i o n : Nat} {g : Bool} {v : Value} {ps : List (Nat × Value)} (hf : fldi P t i = some (o, n, g)) (hn : n = 1) (hv : cellB v = true) (ho : o < cs.length) : lfill P t cs ((i, v) :: ps) = lfill P t (cs.set o v) ps := by
  subst hn
  rw [lfill_step hf (by rw [cells_one hv]; rfl) (by omega)]
  congr 1
  rw [cells_one hv]
  unfold splice
  rw [List.set_eq_take_append_cons_drop, if_pos ho]; simp
@[simp] theorem lfill_agg {cs vs : List Value} {i o n : Nat} {g : Bool} {ps : List (Nat × Value)} (hf : fldi P t i = some (o, n, g)) (hn : vs.length = n) (ho : o + n ≤ cs.length) : lfill P t cs ((i, .agg ⟨vs⟩) :: ps) = lfill P t (splice cs o vs) ps :=
  lfill_step hf hn ho
def lbE (P : Program) (t : TypeId) (z : Option Value) (ps : List (Nat × Value)) : Option Value :=
  match z with
  | some z => if ps.all (fun p => knownB p.2) && flatB z then (lfill P t z.cells.toList ps).map fun cs => .agg ⟨cs⟩ else none
  | none => none
theorem lbuild_eq {ps : List (Nat × Value)} : lbuild P t ps = lbE P t (zr P t) ps := by
  unfold lbuild lbE zr lfill plc
  cases hi : P.info? t with
  | none => simp
  | some it =>
    simp only [Option.bind_some]
    have hz : it.zero = none ∨ ∃ z, it.zero = some z := by cases it.zero <;> simp
    rcases hz with hz | ⟨z, hz⟩
    · simp [hz]
    · simp only [hz, Option.any_some]
      split
      · cases hu : P.underlying t with
        | none => rfl
        | some u =>
          cases u <;> try rfl
          rename_i fs
          simp only [Program.built, hi, hu, hz]
          cases fs.toList.mapM (fun f => (P.info? f.type).map fun i => (f.offset, i.size)) with
          | none => rfl
          | some pl =>
            simp only [Array.toArray_toList]
            cases Instr.fill (pl.toArray[·]?) z.cells ps with
            | none => rfl
            | some cs => rfl
      · rfl
@[simp ↓] theorem lopx_build {ps : List (Nat × Operand)} : lopx P T (.build t ⟨ps⟩) fr H = withH (lbE P t (zr P t) (ps.map fun p => (p.1, ev fr p.2))) H := by
  rw [← lbuild_eq]; rfl
def knownL : List (Nat × Value) → Bool
  | [] => true
  | (_, v) :: ps => knownB v && knownL ps
@[simp] theorem knownL_nil : knownL [] = true := rfl
@[simp] theorem knownL_cons {i : Nat} {v : Value} {ps : List (Nat × Value)} : knownL ((i, v) :: ps) = (knownB v && knownL ps) := rfl
theorem known_of_cell {v : Value} (h : cellB v = true) : knownB v = true := by cases v <;> first | rfl | (simp [cellB] at h)
attribute [simp] known_of_cell
@[simp] theorem known_agg {a : Array Value} : knownB (.agg a) = true := rfl
theorem knownL_eq : ∀ (ps : List (Nat × Value)), ps.all (fun p => knownB p.2) = knownL ps
  | [] => rfl
  | (i, v) :: ps => by simp only [List.all_cons, knownL, knownL_eq ps]
theorem lbE_agg {z : List Value} {ps : List (Nat × Value)} (hk : knownL ps = true) (hz : z.all atomB = true) : lbE P t (some (.agg ⟨z⟩)) ps = (lfill P t z ps).map fun cs => .agg ⟨cs⟩ := by
  have : flatB (.agg ⟨z⟩) = true := hz
  simp only [lbE, knownL_eq, hk, this, Bool.and_self, if_true, Value.cells]
attribute [simp] lbE_agg
def lfld (i : Option (Nat × Nat × Bool)) (x : Value) : Option Value := match i, x with
  | some (o, n, true), .agg cs => some (.agg (cs.extract o (o + n)))
  | some (o, _, false), .agg cs => cs[o]?
  | _, _ => none
theorem lopx_field {x : Operand} {f : Nat} {i : Nat × Nat × Bool} (h : fldi P t f = some i) : lopx P T (.field t x f) fr H = withH (lfld (some i) (ev fr x)) H := by
  unfold fldi at h
  show (match P.underlying t, ev fr x with | some (.struct fs), .agg cs => _ | _, _ => none) = _
  split at h
  · rename_i fs hu
    split at h
    · rename_i fd hf
      split at h
      · rename_i n g hs ha
        injection h with h
        subst h
        rw [hu]
        unfold lfld
        cases ev fr x <;> cases g <;> simp only [hf, hs, ha, withH, Option.map_some, Option.map_none]
      · cases h
    · cases h
  · cases h
attribute [simp] lopx_field
@[simp] theorem lfld_cell {o n : Nat} {cs : List Value} : lfld (some (o, n, false)) (.agg ⟨cs⟩) = cs[o]? := by simp [lfld]
@[simp] theorem lfld_agg {o n : Nat} {cs : List Value} : lfld (some (o, n, true)) (.agg ⟨cs⟩) = some (.agg ⟨(cs.drop o).take n⟩) := by simp [lfld]
/-! ### nil -/
@[simp] theorem lbin_pe {a : Option Addr} (hu : P.underlying t = some (.pointer e)) : lbin P .eql t (.pointer a) (.pointer none) = some (.bool a.isNone) := by
  cases a <;> simp [lbin, hu]
@[simp] theorem lbin_pn {a : Option Addr} (hu : P.underlying t = some (.pointer e)) : lbin P .neq t (.pointer a) (.pointer none) = some (.bool (!a.isNone)) := by
  cases a <;> simp [lbin, hu]
@[simp] theorem lbin_se {a : Option Addr} {n c : Nat} (hu : P.underlying t = some (.slice e)) : lbin P .eql t (.slice a n c) (.slice none 0 0) = some (.bool a.isNone) := by
  cases a <;> simp [lbin, hu]
@[simp] theorem lbin_sn {a : Option Addr} {n c : Nat} (hu : P.underlying t = some (.slice e)) : lbin P .neq t (.slice a n c) (.slice none 0 0) = some (.bool (!a.isNone)) := by
  cases a <;> simp [lbin, hu]
@[simp] theorem lbuiltin_max {ts : List TypeId} {k k' : IntKind} {a b : Int} : lbuiltin P .max ts [.int k a, .int k' b] H = some (.int k (if a < b then b else a), H) := rfl
@[simp] theorem lbuiltin_min {ts : List TypeId} {k k' : IntKind} {a b : Int} : lbuiltin P .min ts [.int k a, .int k' b] H = some (.int k (if b < a then b else a), H) := rfl
theorem trunc_or (v : Value) (H H' : LH) : trunc H (v, H') = (v, H') ∨ trunc H (v, H') = (v, H) ∧ flatB v = true ∧ H.le H' := by
  unfold trunc
  split
  · exact .inr ⟨rfl, by assumption⟩
  · exact .inl rfl
end
end Go.Lg

set_option linter.unusedSimpArgs false
set_option linter.unusedVariables false
namespace Go.Lg
open Go.Tg Go.RowKit

section
variable {P : Program} {E : Ext} {H H' : LH} {ι : Ren} {w w' : World} {v v' : Value}
def ren0 : Ren := fun _ => ⟨0, 0, 0⟩
theorem rel_empty {w : World} {ng : Nat} (h : ng ≤ w.heap.size) : Rel P (LH.empty w ng) ren0 w :=
  ⟨fun _ _ => rfl, fun _ h => h.elim, (fun _ _ h => by cases h), (fun _ _ _ _ h => by cases h), fun g hg => ⟨rfl, Nat.lt_of_lt_of_le hg h, fun ⟨_, _, h, _⟩ => by cases h⟩⟩
theorem flats_rel {D : Nat → Prop} {ι : Ren} {args : List Value} (h : ∀ x ∈ args, flatB x = true) : args.length = args.toArray.size ∧ ∀ (i : Nat) (x y : Value), args[i]? = some x → args.toArray[i]? = some y → VR D ι x y := by
  refine ⟨by simp, fun i x y hx hy => ?_⟩
  rw [List.getElem?_toArray, hx] at hy
  injection hy with hy
  subst hy
  exact .flat _ (h x (List.mem_of_getElem? hx))
abbrev Spec := List Value → LH → Option (Value × LH)
def SpecOk (P : Program) (f : FuncId) (s : Spec) : Prop := ∀ args H v H', s args H = some (v, H') → Ran P f args H v H'
def chT (n id k : Nat) : Option (List (Nat × Nat)) :=
  if n = 59 ∧ id = 3 ∧ k = 11 then some [(2, 0), (2, 8), (5, 8), (7, 0)] else
  if n = 27 ∧ id = 6 ∧ k = 18 then some [(7, 4), (10, 4), (10, 8), (13, 4), (13, 8), (13, 11)] else
  if n = 45 ∧ id = 3 ∧ k = 15 then some [(9, 11)] else
  if n = 65 ∧ id = 1 ∧ k = 11 then some [(2, 0), (2, 8), (5, 8), (7, 0)] else
  if n = 65 ∧ id = 4 ∧ k = 17 then some [(6, 4), (6, 9), (6, 12), (8, 4), (11, 4), (11, 9)] else
  if n = 49 ∧ id = 10 ∧ k = 5 then some [(0, 2)] else
  if n = 23 ∧ id = 1 ∧ k = 15 then some [(4, 2), (7, 2), (7, 5)] else
  if n = 23 ∧ id = 2 ∧ k = 9 then some [(2, 1)] else
  if n = 24 ∧ id = 1 ∧ k = 25 then some [(4, 2), (7, 2), (7, 5), (10, 2), (10, 5), (10, 8), (13, 2), (13, 5), (13, 8), (13, 11)] else
  if n = 92 ∧ id = 1 ∧ k = 6 then some [(2, 1)] else
  if n = 92 ∧ id = 3 ∧ k = 17 then some [(3, 1), (3, 2), (9, 8), (12, 8), (12, 10), (12, 11), (13, 8), (13, 10), (13, 11)] else
  if n = 92 ∧ id = 8 ∧ k = 32 then some [] else
  if n = 167 ∧ id = 23 ∧ k = 10 then some [] else
  if n = 15 then (if id = 2 ∧ k = 6 then some [(2, 4)] else if id = 3 ∧ k = 10 then some [(7, 8)] else none) else
  if n = 22 then (if id = 6 ∧ k = 4 then some [(1, 2)] else none) else
  if n = 26 then (if id = 1 ∧ k = 9 then some [(2, 1)] else none) else
  if n = 27 then (if id = 5 ∧ k = 16 then some [] else none) else
  if n = 28 then (if id = 5 ∧ k = 10 then some [(5, 3)] else if id = 6 ∧ k = 8 then some [] else none) else
  if n = 29 then (if id = 4 ∧ k = 10 then some [(0, 2), (0, 3), (0, 7)] else none) else
  if n = 32 then (if id = 3 ∧ k = 16 then some [] else if id = 5 ∧ k = 12 then some [] else none) else
  if n = 34 then (if id = 3 ∧ k = 16 then some [] else none) else
  if n = 35 then (if id = 10 ∧ k = 4 then some [(0, 1)] else none) else
  if n = 36 then (if id = 5 ∧ k = 17 then some [(11, 6)] else none) else
  if n = 38 then (if id = 3 ∧ k = 24 then some [] else none) else
  if n = 39 then (if id = 4 ∧ k = 16 then some [(3, 9), (5, 9), (5, 11), (7, 9), (7, 11), (7, 13)] else if id = 6 ∧ k = 11 then some [(0, 5)] else if id = 7 ∧ k = 13 then some [(0, 5), (0, 9)] else none) else
  if n = 41 then (if id = 1 ∧ k = 15 then some [(1, 6), (1, 10), (1, 11), (1, 13), (3, 6), (3, 10), (3, 11), (3, 13), (5, 10), (5, 13)] else none) else
  if n = 42 then (if id = 5 ∧ k = 12 then some [(2, 7)] else none) else
  if n = 46 then (if id = 5 ∧ k = 18 then some [(5, 13)] else if id = 8 ∧ k = 13 then some [(4, 2), (4, 7), (4, 10), (6, 2)] else none) else
  if n = 49 then (if id = 6 ∧ k = 18 then some [] else none) else
  if n = 52 then (if id = 12 ∧ k = 9 then some [] else none) else
  if n = 53 then (if id = 6 ∧ k = 18 then some [] else none) else
  if n = 55 then (if id = 1 ∧ k = 9 then some [(2, 1)] else if id = 2 ∧ k = 10 then some [(0, 2), (0, 7), (1, 7), (6, 2), (6, 4), (6, 7), (6, 8)] else none) else
  if n = 56 then (if id = 9 ∧ k = 13 then some [(5, 0), (5, 4)] else if id = 10 ∧ k = 20 then some [] else none) else
  if n = 58 then (if id = 7 ∧ k = 19 then some [] else none) else
  if n = 59 then (if id = 5 ∧ k = 9 then some [(2, 7), (6, 7)] else none) else
  if n = 60 then (if id = 10 ∧ k = 12 then some [(5, 7)] else if id = 10 ∧ k = 20 then some [] else none) else
  if n = 62 then (if id = 8 ∧ k = 14 then some [] else if id = 9 ∧ k = 12 then some [] else none) else
  if n = 63 then (if id = 4 ∧ k = 21 then some [(4, 12), (4, 13), (6, 12), (6, 13), (6, 17), (10, 12)] else none) else
  if n = 65 then (if id = 10 ∧ k = 20 then some [] else none) else
  if n = 67 then (if id = 8 ∧ k = 16 then some [(9, 0), (9, 4), (11, 0), (11, 4)] else if id = 10 ∧ k = 20 then some [] else if id = 12 ∧ k = 8 then some [(3, 0), (3, 2)] else none) else
  if n = 68 then (if id = 6 ∧ k = 12 then some [(3, 8), (3, 9), (7, 8), (7, 9), (7, 10)] else none) else
  if n = 72 then (if id = 9 ∧ k = 17 then some [(9, 0), (9, 4)] else if id = 11 ∧ k = 17 then some [(0, 4), (0, 7), (0, 12)] else none) else
  if n = 76 then (if id = 6 ∧ k = 24 then some [] else none) else
  if n = 77 then (if id = 20 ∧ k = 10 then some [] else none) else
  if n = 79 then (if id = 9 ∧ k = 12 then some [(5, 3)] else none) else
  if n = 80 then (if id = 8 ∧ k = 13 then some [(3, 5), (8, 10)] else none) else
  if n = 82 then (if id = 6 ∧ k = 24 then some [] else if id = 9 ∧ k = 15 then some [] else if id = 21 ∧ k = 9 then some [] else none) else
  if n = 84 then (if id = 1 ∧ k = 16 then some [] else if id = 8 ∧ k = 16 then some [] else if id = 9 ∧ k = 11 then some [] else none) else
  if n = 89 then (if id = 9 ∧ k = 31 then some [(5, 1), (10, 1), (10, 8), (10, 17), (15, 1), (15, 8), (16, 1), (16, 8), (24, 1), (24, 8), (24, 17), (24, 19), (24, 20)] else none) else
  if n = 90 then (if id = 1 ∧ k = 16 then some [] else if id = 8 ∧ k = 16 then some [] else none) else
  if n = 108 then (if id = 15 ∧ k = 14 then some [] else none) else
  if n = 105 then (if id = 8 ∧ k = 18 then some [] else if id = 10 ∧ k = 19 then some [] else none) else
  if n = 133 then (if id = 11 ∧ k = 18 then some [] else if id = 17 ∧ k = 18 then some [] else if id = 23 ∧ k = 18 then some [] else none) else
  if n = 134 then (if id = 15 ∧ k = 10 then some [] else if id = 19 ∧ k = 8 then some [] else none) else
  if n = 136 then (if id = 10 ∧ k = 12 then some [(3, 8), (3, 9), (7, 8), (7, 9), (7, 10)] else none) else
  if n = 139 then (if id = 7 ∧ k = 21 then some [(11, 7), (15, 7)] else if id = 16 ∧ k = 17 then some [(9, 0), (9, 4)] else if id = 20 ∧ k = 18 then some [(11, 5)] else none) else
  if n = 141 then (if id = 11 ∧ k = 18 then some [] else if id = 15 ∧ k = 13 then some [(5, 8)] else if id = 17 ∧ k = 18 then some [] else if id = 23 ∧ k = 18 then some [] else none) else
  if n = 143 then (if id = 10 ∧ k = 8 then some [] else if id = 10 ∧ k = 11 then some [] else if id = 14 ∧ k = 10 then some [] else if id = 28 ∧ k = 9 then some [] else none) else
  if n = 151 then (if id = 19 ∧ k = 19 then some [(3, 1), (9, 7), (16, 14)] else if id = 21 ∧ k = 31 then some [(3, 1), (9, 7), (16, 14)] else none) else
  if n = 167 then (if id = 7 ∧ k = 15 then some [] else if id = 8 ∧ k = 15 then some [] else if id = 9 ∧ k = 15 then some [] else if id = 10 ∧ k = 15 then some [] else if id = 17 ∧ k = 15 then some [] else if id = 18 ∧ k = 15 then some [] else if id = 23 ∧ k = 15 then some [] else none) else
  if n = 168 then (if id = 1 ∧ k = 16 then some [] else if id = 8 ∧ k = 16 then some [] else if id = 10 ∧ k = 16 then some [] else if id = 18 ∧ k = 16 then some [] else if id = 21 ∧ k = 16 then some [] else none) else
  if n = 178 then (if id = 1 ∧ k = 16 then some [] else if id = 8 ∧ k = 16 then some [] else if id = 10 ∧ k = 16 then some [] else if id = 18 ∧ k = 16 then some [] else if id = 21 ∧ k = 16 then some [] else none) else
  if n = 201 then (if id = 17 ∧ k = 24 then some [] else if id = 19 ∧ k = 20 then some [(5, 1), (12, 1), (12, 8)] else none) else
  if n = 220 then (if id = 11 ∧ k = 18 then some [] else if id = 23 ∧ k = 18 then some [] else none) else
  none
def extLL (l : List (FuncId × Spec)) (loud : List FuncId) : Ext := ⟨fun f => (l.find? (fun p => p.1 == f)).map (·.2), ⟨fun f => loud.contains f, chT⟩⟩
@[simp] theorem extLL_ch {l : List (FuncId × Spec)} {loud : List FuncId} {n id k : Nat} : (extLL l loud).loud.ch n id k = chT n id k := rfl
attribute [simp] chT
abbrev extL (l : List (FuncId × Spec)) : Ext := extLL l []
theorem extL_ok {l : List (FuncId × Spec)} {loud : List FuncId} (h : ∀ p ∈ l, SpecOk P p.1 p.2) : ExtOk P (extLL l loud) := by
  intro f s hs args H v H' hr
  unfold extLL at hs
  obtain ⟨p, hp, rfl⟩ := Option.map_eq_some_iff.1 hs
  have h1 := List.find?_some hp
  have h2 := List.mem_of_find?_eq_some hp
  simp only [beq_iff_eq] at h1
  subst h1
  exact h p h2 args H v H' hr
theorem callOk_flatC {f : FuncId} {args : List Value} (hf : ∀ x ∈ args, flatB x = true) (hv : flatB v = true) (h : ∀ w, Calls P f args.toArray w fun e w' => e = .returned v ∧ Change (fun _ => False) w w') : CallOk P f args H v H := by
  intro ι w args' hrel h1 h2
  have e : args' = args.toArray := by
    apply Array.ext
    · simp [h1]
    · intro i h3 h4
      have hx : args[i]? = some (args[i]'(by simpa using h4)) := List.getElem?_eq_getElem _
      have := flat_eq (h2 i _ _ hx (Array.getElem?_eq_getElem h3)) (hf _ (List.getElem_mem _))
      rw [this]; simp
  subst e
  refine (h w).mono ?_
  rintro e w' ⟨rfl, hc⟩
  exact ⟨ι, v, rfl, out_change hrel hc, .flat _ hv⟩
theorem callOk_row {f : FuncId} {args : List Value} {cells : List Value} {e : TypeId} {k : Nat} (hf : ∀ x ∈ args, flatB x = true) (hc : ∀ x ∈ cells, flatB x = true) (hs : sz P e = some 1) (hk : cells.length = k) (hm : k ≤ maxLen)
    (h : ∀ ι w, Rel P H ι w → Calls P f args.toArray w fun x w' => x = .returned (.slice (some ⟨w.heap.size, 0, none⟩) k k) ∧ w' = w.alloc (.cells cells.toArray e)) : CallOk P f args H (sl H.n k k) (H.new ⟨cells, e, true⟩) := by
  intro ι w args' hrel h1 h2
  have e1 : args' = args.toArray := by
    apply Array.ext
    · simp [h1]
    · intro i h3 h4
      have hx : args[i]? = some (args[i]'(by simpa using h4)) := List.getElem?_eq_getElem _
      have := flat_eq (h2 i _ _ hx (Array.getElem?_eq_getElem h3)) (hf _ (List.getElem_mem _))
      rw [this]; simp
  subst e1
  refine (h ι w hrel).mono ?_
  rintro x w' ⟨rfl, rfl⟩
  have ho := rel_new hrel (b := ⟨cells, e, true⟩) (arr := cells.toArray) (slack := 0) rfl hs (by simp) (fun n hn hl => by simp at hl; omega) (fun i x hx => ⟨x, by simpa using hx, .flat _ (hc x (List.mem_of_getElem? hx))⟩)
  refine ⟨_, _, rfl, ho, ?_⟩
  have := VR.slice (n := (H.new ⟨cells, e, true⟩).D) (ι := ι.add H.n ⟨w.heap.size, 0, 0⟩) H.n 0 k k ((D_new hrel H.n).2 (.inr rfl)) (Nat.le_refl _)
  simpa [Ren.add] using this
theorem pin_block (hrel : Rel P H ι w) {g : Nat} (hg : g < H.ng) : w.heap[g]? = H.base.heap[g]? := (hrel.pin g hg).1
end
end Go.Lg

set_option linter.unusedSimpArgs false
set_option linter.unusedVariables false
namespace Go.Lg
open Go.Tg Go.RowKit

section
variable {P : Program} {H H' : LH} {v x : Value} {xs : List Value} {e t : TypeId} {N : Nat} {b : LB}
def Row (N : Nat) (H : LH) (e : TypeId) (v : Value) (xs : List Value) : Prop :=
  (v = .slice none 0 0 ∧ xs = []) ∨ ∃ k c rest, v = sl k xs.length c ∧ N ≤ k ∧ H.get k = some ⟨xs ++ rest, e, true⟩ ∧ c = xs.length + rest.length
def offRow (v : Value) (k : Nat) : Prop := ∀ n c, v ≠ sl k n c
theorem Row.nil : Row N H e (.slice none 0 0) [] := .inl ⟨rfl, rfl⟩
theorem Row.len (h : Row N H e v xs) (hu : P.underlying t = some (.slice e)) : lbuiltin P .len [t] [v] H' = some (.int .i64 xs.length, H') := by
  rcases h with ⟨rfl, rfl⟩ | ⟨k, c, rest, rfl, _⟩
  · exact lbuiltin_len_slice hu
  · exact lbuiltin_len_slice hu
theorem Row.cell (h : Row N H e v xs) : cellB v = true := by
  rcases h with ⟨rfl, rfl⟩ | ⟨k, c, rest, rfl, _⟩ <;> simp
theorem Row.keep (h : Row N H e v xs) (hk : ∀ k, N ≤ k → ¬ offRow v k → H'.get k = H.get k) : Row N H' e v xs := by
  rcases h with ⟨rfl, rfl⟩ | ⟨k, c, rest, rfl, h1, h2, h3⟩
  · exact .inl ⟨rfl, rfl⟩
  · exact .inr ⟨k, c, rest, rfl, h1, by rw [hk k h1 (fun h => h _ _ rfl)]; exact h2, h3⟩
theorem Row.off_of_elem (h : Row N H e v xs) {l : Nat} (hl : H.get l = some b) (hne : b.elem ≠ e) : offRow v l := by
  rcases h with ⟨rfl, rfl⟩ | ⟨k, c, rest, rfl, h1, h2, h3⟩
  · intro n c h; cases h
  · intro n c h
    injection h with h
    injection h with h
    injection h with h
    subst h
    rw [h2] at hl
    injection hl with hl
    subst hl
    exact hne rfl
theorem off_nil {k : Nat} : offRow (.slice none 0 0) k := fun n c h => by cases h
theorem Row.push (h : Row N H e v xs) (hu : P.underlying t = some (.slice e)) (hs : lesz P e = some 1) (hx : cellB x = true) (hm : xs.length + 1 ≤ maxElems) (hN : N ≤ H.n) (hdom : ∀ l, H.n ≤ l → H.get l = none) :
    ∃ v' H', lapp P t v (some (1, [x])) H = some (v', H') ∧ Row N H' e v' (xs ++ [x]) ∧ H.n ≤ H'.n ∧ (∀ k, k < H.n → offRow v k → H'.get k = H.get k) ∧ (∀ k, k < H.n → offRow v k → offRow v' k) ∧ (∀ l, H'.n ≤ l → H'.get l = none) ∧ H'.base = H.base ∧ H'.ng = H.ng := by
  have hc : [x].all cellB = true := by simp [hx]
  rcases h with ⟨rfl, rfl⟩ | ⟨k, c, rest, rfl, h1, h2, h3⟩
  · refine ⟨_, _, lapp_nil hu hs hc (by omega) (by simp [maxElems]), .inr ⟨H.n, 1, [], rfl, hN, by simp, rfl⟩, by simp, fun k hk _ => get_new_ne (by omega), fun k hk _ n c h => ?_, fun l hl => ?_, rfl, rfl⟩
    · injection h with h
      injection h with h
      injection h with h
      omega
    · have : H.n + 1 ≤ l := hl
      rw [get_new_ne (by omega)]; exact hdom l (by omega)
  · have hklt : k < H.n := by
      rcases Nat.lt_or_ge k H.n with h | h
      · exact h
      · rw [hdom k h] at h2; cases h2
    cases rest with
    | nil =>
      simp only [List.length_nil, Nat.add_zero] at h3
      subst h3
      have ha := lapp_grow (P := P) (H := H) (t := t) (m := 1) (new := [x]) (n := xs.length) (s := 1) hu hs hc (by omega) hm h2 rfl rfl (by simp)
      simp only [List.append_nil] at ha h2
      refine ⟨_, _, ha, .inr ⟨H.n, xs.length + 1, [], by simp, hN, ?_, by simp⟩, by simp, fun j hj ho => ?_, fun j hj ho n c h => ?_, fun l hl => ?_, rfl, rfl⟩
      · rw [show H.n = (H.kill k).n from rfl, get_new]; simp
      · have hjk : j ≠ k := fun e => ho _ _ (by rw [e])
        rw [get_new_ne (by simp; omega), get_kill_ne hjk]
      · injection h with h
        injection h with h
        injection h with h
        omega
      · have : H.n + 1 ≤ l := hl
        rw [get_new_ne (by simp; omega), get_kill_ne (by omega)]; exact hdom l (by omega)
    | cons z rest =>
      have ha := lapp_in (P := P) (H := H) (t := t) (m := 1) (new := [x]) (n := xs.length) (cp := c) (s := 1) hu hs hc (by omega) h2 rfl rfl (by simp [h3]) (by simp [h3])
      refine ⟨_, _, ha, .inr ⟨k, c, rest, by simp, h1, ?_, by simp [h3]; omega⟩, by simp, fun j hj ho => ?_, fun j hj ho n c' h => ?_, fun l hl => ?_, rfl, rfl⟩
      · rw [get_set]
        congr 2
        simp [splice]
      · have hjk : j ≠ k := fun e => ho _ _ (by rw [e])
        rw [get_set_ne hjk]
      · injection h with h
        injection h with h
        injection h with h
        subst h
        exact ho _ _ rfl
      · have : H.n ≤ l := hl
        rw [get_set_ne (by omega)]; exact hdom l this
theorem Row.take (h : Row N H e v xs) (hu : P.underlying t = some (.slice e)) (hs : sz P e = some 1) {j : Int} {kd : IntKind} (h0 : 0 ≤ j) (h1 : j < xs.length) : ∃ v', lpart P t v none (some (.int kd j)) = some v' ∧ Row N H e v' (xs.take j.toNat) ∧ ∀ k, offRow v k → offRow v' k := by
  rcases h with ⟨rfl, rfl⟩ | ⟨k, c, rest, rfl, g1, g2, g3⟩
  · simp at h1; omega
  · refine ⟨_, lpart_row_ns hu hs h0 (by omega), .inr ⟨k, c, xs.drop j.toNat ++ rest, ?_, g1, ?_, ?_⟩, fun i hi n c' h => ?_⟩
    · rw [List.length_take, Nat.min_eq_left (by omega)]
    · rw [← List.append_assoc, List.take_append_drop]; exact g2
    · simp; omega
    · injection h with h
      injection h with h
      injection h with h
      subst h
      exact hi _ _ rfl
theorem Row.at (h : Row N H e v xs) (hu : P.underlying t = some (.slice e)) (hs : sz P e = some 1) (ha : aggB P e = some false) {j : Int} {kd : IntKind} (h0 : 0 ≤ j) (h1 : j < xs.length) {d : Value} : ∃ p, lixa P t v (.int kd j) H' = some (p, H') ∧ lld P e p H = some (xs.getD j.toNat d) := by
  rcases h with ⟨rfl, rfl⟩ | ⟨k, c, rest, rfl, g1, g2, g3⟩
  · simp at h1; omega
  · refine ⟨_, lixa_row hu hs h0 (by omega), ?_⟩
    rw [lld_ptr g2, ha]
    simp only [lldb_cell, Nat.zero_add, Nat.mul_one]
    have hlt : j.toNat < xs.length := by omega
    rw [List.getElem?_append, if_pos hlt, List.getD_eq_getElem?_getD, List.getElem?_eq_getElem hlt]; rfl
end
end Go.Lg

set_option linter.unusedSimpArgs false
set_option linter.unusedVariables false
namespace Tg.Hd
open Go.Lg (str)
abbrev Hdr := List UInt8 × List UInt8
def white (b : UInt8) : Bool := ([9, 10, 13, 32] : List UInt8).contains b
def trimE (s : List UInt8) : List UInt8 := (s.reverse.dropWhile white).reverse
def trim (s : List UInt8) : List UInt8 := (trimE s).dropWhile white
def signs : List UInt8 := [33, 35, 36, 37, 38, 39, 42, 43, 45, 46, 94, 95, 124, 126, 96]
def isL (b : UInt8) : Bool := (decide ((97 : Int) ≤ b.toNat) && decide ((b.toNat : Int) ≤ 122)) || (decide ((65 : Int) ≤ b.toNat) && decide ((b.toNat : Int) ≤ 90))
def isD (b : UInt8) : Bool := decide ((48 : Int) ≤ b.toNat) && decide ((b.toNat : Int) ≤ 57)
def tok (b : UInt8) : Bool := isL b || isD b || signs.contains b
def free (of s : List UInt8) : Bool := s.all fun b => !of.contains b
def fine (h : Hdr) : Bool := decide (h.1 ≠ []) && h.1.all tok && decide (trim h.2 = h.2) && free [0, 13, 10] h.2 && decide (h.2.length ≤ 8192)
def good (l : List Hdr) : Bool := decide (l.length ≤ 100) && l.all fine
def cells (l : List Hdr) : List Go.Value := l.flatMap fun h => [str h.1, str h.2]
theorem cells_cons (h : Hdr) (l : List Hdr) : cells (h :: l) = str h.1 :: str h.2 :: cells l := rfl
theorem cells_app (a b : List Hdr) : cells (a ++ b) = cells a ++ cells b := List.flatMap_append
theorem cells_len : ∀ l : List Hdr, (cells l).length = l.length * 2
  | [] => rfl
  | h :: l => by rw [cells_cons]; simp [cells_len l]; omega
theorem cells_at : ∀ {l : List Hdr} {i : Nat} (h : i < l.length) (r : List Go.Value), ((cells l ++ r).drop (i * 2)).take 2 = [str l[i].1, str l[i].2] ∧ (cells l ++ r)[i * 2]? = some (str l[i].1) ∧ (cells l ++ r)[i * 2 + 1]? = some (str l[i].2)
  | [], i, h, _ => by simp at h
  | x :: l, 0, h, r => by rw [cells_cons]; exact ⟨rfl, rfl, rfl⟩
  | x :: l, i + 1, h, r => by
    have ih := cells_at (l := l) (i := i) (by simpa using h) r
    rw [cells_cons, show (i + 1) * 2 = i * 2 + 2 by omega]
    exact ih
def lines : List UInt8 → List (List UInt8)
  | [] => [[]]
  | b :: r => if b = 10 then [] :: lines r else match lines r with
    | [] => [[b]]
    | p :: l => (b :: p) :: l
def stripR (t : List UInt8) : List UInt8 := if t.getLast? = some 13 then t.dropLast else t
def upto (c : UInt8) (t : List UInt8) : Nat := (t.takeWhile fun b => !(b == c)).length
def lineP (t : List UInt8) : Option Hdr :=
  if t.contains 58 then
    let h : Hdr := (t.take (upto 58 t), trim (t.drop (upto 58 t + 1)))
    if fine h then some h else none
  else none
def rows : List (List UInt8) → Nat → List Hdr → List Hdr × Int × Int
  | [], _, acc => if 100 < acc.length then ([], 0, 6) else (acc, 0, 0)
  | t :: l, n, acc => if stripR t = [] then rows l (n + 1) acc else match lineP (stripR t) with
    | none => ([], ((n + 1 : Nat) : Int), 2)
    | some h => rows l (n + 1) (acc ++ [h])
def parse (s : List UInt8) : List Hdr × Int × Int := rows (lines s) 0 []
def text (l : List Hdr) : List UInt8 := l.flatMap fun h => h.1 ++ [58, 32] ++ h.2 ++ [13, 10]
def few (l : List Hdr) (n : Nat) : List Hdr := (l.take n).map fun h => (h.1.take 30, h.2.take 100)
def same (a b : List UInt8) : Bool := decide (a.map Tg.Lo.low = b.map Tg.Lo.low)
end Tg.Hd

set_option linter.unusedSimpArgs false
set_option linter.unusedVariables false
namespace Tg.Sc
open Tg.Hd (Hdr)
structure Ev where
  kind : Int
  id : Int
  url : List UInt8
  src : List UInt8
  mode : List UInt8
  media : Int
  status : Int
  hdrs : List Hdr
  body : List UInt8
deriving DecidableEq
def hexd : List UInt8 := [48, 49, 50, 51, 52, 53, 54, 55, 56, 57, 97, 98, 99, 100, 101, 102]
def hd16 (n : Nat) : UInt8 := hexd.getD n 0
def mark (b : UInt8) : List UInt8 := [92, hd16 (b.toNat / 16), hd16 (b.toNat % 16)]
def odd (b : UInt8) : Bool := decide ((b.toNat : Int) < 33) || decide ((126 : Int) < b.toNat) || decide ((b.toNat : Int) = 92)
def sign (b : UInt8) : List UInt8 := if odd b = true then mark b else [b]
def esc (s : List UInt8) : List UInt8 := if s = [] then [45] else if s = [45] then mark 45 else s.flatMap sign
def hexv (b : UInt8) : Nat :=
  if (48 : Int) ≤ b.toNat ∧ (b.toNat : Int) ≤ 57 then b.toNat - 48
  else if (97 : Int) ≤ b.toNat ∧ (b.toNat : Int) ≤ 102 then b.toNat - 87
  else if (65 : Int) ≤ b.toNat ∧ (b.toNat : Int) ≤ 70 then b.toNat - 55 else 0
def byte2 (x y : UInt8) : UInt8 := UInt8.ofNat (hexv x * 16 + hexv y)
def dec : List UInt8 → List UInt8
  | 92 :: x :: y :: r => byte2 x y :: dec r
  | b :: r => b :: dec r
  | [] => []
def plainT (s : List UInt8) : List UInt8 := if s = [45] then [] else dec s
def plainB (s : List UInt8) : Bool := decide (esc (plainT s) = s)
theorem dec_nil : dec [] = [] := rfl
theorem dec_two (x y : UInt8) (r : List UInt8) : dec (92 :: x :: y :: r) = byte2 x y :: dec r := rfl
theorem dec_one {b : UInt8} (h : b ≠ 92) (r : List UInt8) : dec (b :: r) = b :: dec r := by
  rw [dec]
  intro x y r' e
  exact absurd e h
theorem dec_short {b : UInt8} {r : List UInt8} (h : r.length < 2) : dec (b :: r) = b :: dec r := by
  rw [dec]
  intro x y r' _ e
  rw [e] at h
  simp at h; omega
theorem hexv_hd : ∀ k : Fin 16, hexv (hd16 k.1) = k.1 := by decide +kernel
theorem hexv_lt (b : UInt8) : hexv b < 16 := by
  unfold hexv
  split
  · omega
  · split
    · omega
    · split <;> omega
theorem byte_mark (b : UInt8) : byte2 (hd16 (b.toNat / 16)) (hd16 (b.toNat % 16)) = b := by
  have hlt := b.toNat_lt
  unfold byte2
  rw [hexv_hd ⟨b.toNat / 16, by omega⟩, hexv_hd ⟨b.toNat % 16, by omega⟩]
  simp only
  rw [show b.toNat / 16 * 16 + b.toNat % 16 = b.toNat by omega]
  simp
theorem dec_mark (b : UInt8) (r : List UInt8) : dec (mark b ++ r) = b :: dec r := by
  show dec (92 :: hd16 (b.toNat / 16) :: hd16 (b.toNat % 16) :: r) = _
  rw [dec_two, byte_mark]
theorem dec_sign (b : UInt8) (r : List UInt8) : dec (sign b ++ r) = b :: dec r := by
  unfold sign
  split
  · exact dec_mark b r
  · rename_i h
    have hb : b ≠ 92 := fun e => by subst e; exact h (by decide)
    exact dec_one hb r
theorem dec_flat : ∀ s : List UInt8, dec (s.flatMap sign) = s
  | [] => by rfl
  | b :: s => by rw [List.flatMap_cons, dec_sign, dec_flat s]
theorem sign_ne (b : UInt8) : sign b ≠ [] := by unfold sign mark; split <;> simp
theorem plain_esc (s : List UInt8) : plainT (esc s) = s := by
  unfold esc
  split
  · rename_i h; subst h; rfl
  · split
    · rename_i h; subst h
      unfold plainT
      rw [if_neg (by decide)]
      have := dec_mark 45 []
      rw [List.append_nil] at this
      rw [this]; rfl
    · rename_i h0 h1
      unfold plainT
      rw [if_neg, dec_flat]
      intro e
      have := dec_flat s
      rw [e] at this
      have e2 : dec [45] = [45] := by rw [dec_one (by decide)]; rfl
      exact h1 (by rw [← this, e2])
theorem esc_len (s : List UInt8) : (esc s).length ≤ 3 * s.length + 1 := by
  have : ∀ s : List UInt8, (s.flatMap sign).length ≤ 3 * s.length := fun s => by
    induction s with
    | nil => simp
    | cons b s ih =>
      rw [List.flatMap_cons, List.length_append, List.length_cons]
      have : (sign b).length ≤ 3 := by unfold sign mark; split <;> simp
      omega
  unfold esc
  split
  · simp
  · split
    · rename_i h; subst h; simp [mark]
    · have := this s; omega
theorem dec_len : ∀ (n : Nat) (s : List UInt8), s.length ≤ n → (dec s).length ≤ s.length
  | 0, s, h => by
    cases s with
    | nil => simp [dec_nil]
    | cons => simp at h
  | n + 1, s, h => by
    cases s with
    | nil => simp [dec_nil]
    | cons b r =>
      by_cases hb : b = 92
      · cases r with
        | nil => rw [dec_short (by simp)]; simp [dec_nil]
        | cons x r =>
          cases r with
          | nil => rw [dec_short (by simp), dec_short (by simp)]; simp [dec_nil]
          | cons y r =>
            subst hb
            rw [dec_two]
            have := dec_len n r (by simp at h; omega)
            simp; omega
      · rw [dec_one hb]
        have := dec_len n r (by simp at h; omega)
        simp; omega
theorem plain_len (s : List UInt8) : (plainT s).length ≤ s.length := by
  unfold plainT
  split
  · simp
  · exact dec_len _ _ (Nat.le_refl _)
end Tg.Sc

set_option linter.unusedSimpArgs false
set_option linter.unusedVariables false
namespace Tg.Sc
open Tg.Hd (Hdr)
open Go.Lib (itoa decDigits)
def cutAt (c : UInt8) : List UInt8 → List (List UInt8)
  | [] => [[]]
  | b :: r => if b = c then [] :: cutAt c r else match cutAt c r with
    | [] => [[b]]
    | p :: l => (b :: p) :: l
def wl : List (List UInt8) → List UInt8
  | [] => []
  | [w] => w
  | w :: v :: l => w ++ 32 :: wl (v :: l)
def feeds (l : List (List UInt8)) : List UInt8 := l.flatMap fun s => s ++ [10]
def isD (b : UInt8) : Bool := decide ((48 : Int) ≤ b.toNat) && decide ((b.toNat : Int) ≤ 57)
def dval (s : List UInt8) : Nat := s.foldl (fun n b => 10 * n + (b.toNat - 48)) 0
def numP (s : List UInt8) : Nat := if s = [] ∨ s.all isD = false then 0 else if 9007199254740991 < dval s then 0 else dval s
def kwAsk : List UInt8 := [97, 115, 107]
def kwHead : List UInt8 := [104, 101, 97, 100]
def kwChunk : List UInt8 := [99, 104, 117, 110, 107]
def kwEnd : List UInt8 := [101, 110, 100]
def kwAbort : List UInt8 := [97, 98, 111, 114, 116]
def kwReset : List UInt8 := [114, 101, 115, 101, 116]
def words : List (List UInt8) := [kwAsk, kwHead, kwChunk, kwEnd, kwAbort, kwReset]
def modes : List (List UInt8) := [[110, 111, 45, 99, 111, 114, 115], [99, 111, 114, 115], [115, 97, 109, 101, 45, 111, 114, 105, 103, 105, 110], [110, 97, 118, 105, 103, 97, 116, 101]]
def kindP (w : List UInt8) : List (List UInt8) → Nat → Nat
  | [], _ => 0
  | x :: l, i => if x = w then i + 1 else kindP w l (i + 1)
def good (e : Ev) : Bool :=
  (decide (1 ≤ e.kind) && decide (e.kind ≤ 6)) && (if e.kind = 6 then decide (e.id = 0) else decide (1 ≤ e.id) && decide (e.id ≤ 1000000)) &&
  (if e.kind = 1 then decide (e.url.length ≤ 1000) && decide (e.src.length ≤ 1000) && (decide (0 ≤ e.media) && decide (e.media ≤ 2)) && modes.contains e.mode else decide (e.url = []) && decide (e.src = []) && decide (e.mode = []) && decide (e.media = 0)) &&
  (if e.kind = 2 then (decide (0 ≤ e.status) && decide (e.status ≤ 9999)) && Tg.Hd.good e.hdrs else decide (e.status = 0) && decide (e.hdrs = [])) &&
  (if e.kind = 3 then decide (e.body.length ≤ 10000) else decide (e.body = []))
def hline (h : Hdr) : List UInt8 := 124 :: (h.1 ++ 58 :: 32 :: esc h.2)
def headsL (word : List UInt8) (id status : Int) (l : List Hdr) : List (List UInt8) := wl [word, itoa id, itoa status, itoa l.length] :: l.map hline
def shown (e : Ev) : List (List UInt8) :=
  if e.kind = 1 then [wl [kwAsk, itoa e.id, itoa e.media, e.mode, esc e.url, esc e.src]]
  else if e.kind = 2 then headsL kwHead e.id e.status e.hdrs
  else if e.kind = 3 then [wl [kwChunk, itoa e.id, esc e.body]]
  else if e.kind = 6 then [kwReset]
  else if e.kind = 4 then [wl [kwEnd, itoa e.id]]
  else [wl [kwAbort, itoa e.id]]
def cutCB : List UInt8 → List UInt8 × List UInt8
  | 58 :: 32 :: r => ([], r)
  | b :: r => (b :: (cutCB r).1, (cutCB r).2)
  | [] => ([], [])
def noBar (s : List UInt8) : List UInt8 := match s with
  | 124 :: r => r
  | _ => s
def hdrP (s : List UInt8) : Hdr := ((cutCB (noBar s)).1, plainT (cutCB (noBar s)).2)
def ev0 : Ev := ⟨0, 0, [], [], [], 0, 0, [], []⟩
def eventP (line : List UInt8) : Ev × Nat :=
  let ws := cutAt 32 line
  let w := fun i => ws.getD i []
  let k := kindP (w 0) words 0
  let e : Ev := { ev0 with kind := k, id := numP (w 1) }
  if k = 1 then ({ e with media := numP (w 2), mode := w 3, url := plainT (w 4), src := plainT (w 5) }, 0)
  else if k = 2 then ({ e with status := numP (w 2) }, numP (w 3))
  else if k = 3 then ({ e with body := plainT (w 2) }, 0)
  else (e, 0)
def nextP (s : List UInt8) (r : List (List UInt8)) : Option (Ev × Nat) :=
  if r.length < (eventP s).2 then none
  else if good { (eventP s).1 with hdrs := (r.take (eventP s).2).map hdrP } = true ∧ shown { (eventP s).1 with hdrs := (r.take (eventP s).2).map hdrP } = s :: r.take (eventP s).2 then some ({ (eventP s).1 with hdrs := (r.take (eventP s).2).map hdrP }, (eventP s).2) else none
def evs (l : List (List UInt8)) : List Ev × Option (List (List UInt8)) :=
  match l with
  | [] => ([], none)
  | s :: r => match nextP s r with
    | none => ([], some (s :: r))
    | some (e, n) => (e :: (evs (r.drop n)).1, (evs (r.drop n)).2)
termination_by l.length
decreasing_by all_goals (simp; omega)
structure Setup where
  legacy : Bool
  look : Int
  depth : Int
  table : Int
  valid : Int
deriving DecidableEq
def set0 : Setup := ⟨false, 0, 0, 0, 0⟩
def fineS (c : Setup) : Bool := (decide (1445 ≤ c.look) && decide (c.look ≤ 1048576) && decide (0 ≤ c.depth) && decide (c.depth ≤ 200)) && (decide (1 ≤ c.table) && decide (c.table ≤ 1000)) && (decide (0 ≤ c.valid) && decide (c.valid ≤ 10000))
def kwSetup : List UInt8 := [115, 101, 116, 117, 112]
def kwLegacy : List UInt8 := [108, 101, 103, 97, 99, 121]
def kwOrb : List UInt8 := [111, 114, 98]
def setupT (c : Setup) : List UInt8 := wl [kwSetup, if c.legacy then kwLegacy else kwOrb, itoa c.look, itoa c.depth, itoa c.table, itoa c.valid]
def setP (line : List UInt8) : Setup :=
  let w := fun i => (cutAt 32 line).getD i []
  ⟨decide (w 1 = kwLegacy), numP (w 2), numP (w 3), numP (w 4), numP (w 5)⟩
def settings (line : List UInt8) : Option Setup := if fineS (setP line) = true ∧ setupT (setP line) = line then some (setP line) else none
def readL (al : List (List UInt8)) : Setup × List Ev × Int × Int :=
  match al.dropLast with
    | [] => (set0, [], 1, 2)
    | s0 :: r => match settings s0 with
      | none => (set0, [], 1, 2)
      | some c => match (evs r).2 with
        | some left => (set0, [], ((r.length - left.length + 2 : Nat) : Int), 2)
        | none => if al.getLast?.getD [] ≠ [] then (set0, [], ((r.length + 2 : Nat) : Int), 2)
          else if 5000 < (evs r).1.length then (set0, [], 0, 6) else (c, (evs r).1, 0, 0)
def readP (s : List UInt8) : Setup × List Ev × Int × Int := if 4194304 < s.length then (set0, [], 0, 6) else readL (cutAt 10 s)
def printT (c : Setup) (l : List Ev) : List UInt8 := setupT c ++ 10 :: feeds (l.flatMap shown)

theorem cut_ne (c : UInt8) (s : List UInt8) : cutAt c s ≠ [] := by
  cases s with
  | nil => simp [cutAt]
  | cons b r =>
    unfold cutAt
    split
    · simp
    · split <;> simp
theorem cut_app {c : UInt8} (r : List UInt8) : ∀ {a : List UInt8}, c ∉ a → cutAt c (a ++ c :: r) = a :: cutAt c r
  | [], _ => by rw [List.nil_append, cutAt, if_pos rfl]
  | b :: a, h => by
    have hb : b ≠ c := fun e => h (by simp [e])
    rw [List.cons_append, cutAt, if_neg hb, cut_app r (fun e => h (by simp [e]))]
theorem cut_one {c : UInt8} : ∀ {a : List UInt8}, c ∉ a → cutAt c a = [a]
  | [], _ => rfl
  | b :: a, h => by
    have hb : b ≠ c := fun e => h (by simp [e])
    rw [cutAt, if_neg hb, cut_one (fun e => h (by simp [e]))]
theorem cut_wl : ∀ {ws : List (List UInt8)}, ws ≠ [] → (∀ w ∈ ws, (32 : UInt8) ∉ w) → cutAt 32 (wl ws) = ws
  | [], h, _ => absurd rfl h
  | [w], _, h => by unfold wl; exact cut_one (h w (by simp))
  | w :: v :: l, _, h => by
    unfold wl
    rw [cut_app _ (h w (by simp)), cut_wl (by simp) (fun x hx => h x (by simp [hx]))]
theorem feeds_cons (s : List UInt8) (l : List (List UInt8)) : feeds (s :: l) = s ++ 10 :: feeds l := by unfold feeds; simp
theorem feeds_app (l m : List (List UInt8)) : feeds (l ++ m) = feeds l ++ feeds m := List.flatMap_append
theorem cut_feeds (rest : List UInt8) : ∀ {l : List (List UInt8)}, (∀ s ∈ l, (10 : UInt8) ∉ s) → cutAt 10 (feeds l ++ rest) = l ++ cutAt 10 rest
  | [], _ => rfl
  | s :: l, h => by
    rw [feeds_cons, List.append_assoc, List.cons_append, cut_app _ (h s (by simp)), cut_feeds rest (fun x hx => h x (by simp [hx]))]
    rfl
theorem dd_small {n : Nat} (h : n < 10) : decDigits n = [UInt8.ofNat (48 + n)] := by rw [decDigits, dif_pos h]
theorem dd_big {n : Nat} (h : ¬ n < 10) : decDigits n = decDigits (n / 10) ++ [UInt8.ofNat (48 + n % 10)] := by rw [decDigits, dif_neg h]
theorem dg_F : ∀ k : Fin 10, isD (UInt8.ofNat (48 + k.1)) = true ∧ (UInt8.ofNat (48 + k.1)).toNat - 48 = k.1 := by decide
theorem dval_app (a b : List UInt8) : dval (a ++ b) = b.foldl (fun n b => 10 * n + (b.toNat - 48)) (dval a) := by
  unfold dval; rw [List.foldl_append]
theorem dd_val (n : Nat) : dval (decDigits n) = n ∧ (decDigits n).all isD = true ∧ decDigits n ≠ [] := by
  by_cases h : n < 10
  · rw [dd_small h]
    obtain ⟨q1, q2⟩ := dg_F ⟨n, h⟩
    dsimp only at q1 q2
    generalize UInt8.ofNat (48 + n) = d at *
    refine ⟨?_, ?_, by simp⟩
    · show 10 * 0 + (d.toNat - 48) = n
      omega
    · rw [List.all_cons, q1]; rfl
  · have ih := dd_val (n / 10)
    obtain ⟨q1, q2⟩ := dg_F ⟨n % 10, by omega⟩
    dsimp only at q1 q2
    rw [dd_big h]
    generalize UInt8.ofNat (48 + n % 10) = d at *
    refine ⟨?_, ?_, by simp⟩
    · rw [dval_app, ih.1]
      show 10 * (n / 10) + (d.toNat - 48) = n
      omega
    · rw [List.all_append, ih.2.1, List.all_cons, q1]; rfl
termination_by n
theorem dd_pow : ∀ (k n : Nat), n < 10 ^ (k + 1) → (decDigits n).length ≤ k + 1
  | k, n, h => by
    by_cases h1 : n < 10
    · rw [dd_small h1]; simp
    · cases k with
      | zero => omega
      | succ k =>
        have := dd_pow k (n / 10) (by rw [Nat.pow_succ] at h; omega)
        rw [dd_big h1, List.length_append]
        simp only [List.length_cons, List.length_nil]
        omega
theorem itoa_short {n : Int} (h1 : -9223372036854775808 ≤ n) (h2 : n ≤ 9223372036854775807) : (itoa n).length ≤ 30 := by
  have e : (10 : Nat) ^ (19 + 1) = 100000000000000000000 := by decide
  unfold itoa
  split
  · have := dd_pow 19 n.natAbs (by rw [e]; omega)
    simp only [List.length_cons]; omega
  · have := dd_pow 19 n.toNat (by rw [e]; omega)
    omega
theorem isD_ne {b : UInt8} (h : isD b = true) : b ≠ 32 ∧ b ≠ 10 := by
  constructor <;> (intro e; subst e; revert h; decide)
theorem itoa_num {n : Int} (h0 : 0 ≤ n) (h : n ≤ 9007199254740991) : ((numP (itoa n) : Nat) : Int) = n ∧ (32 : UInt8) ∉ itoa n ∧ (10 : UInt8) ∉ itoa n := by
  have e : itoa n = decDigits n.toNat := by unfold itoa; rw [if_neg (by omega)]
  obtain ⟨h1, h2, h3⟩ := dd_val n.toNat
  rw [e]
  refine ⟨?_, fun hm => ?_, fun hm => ?_⟩
  · unfold numP
    rw [if_neg (fun g => by rcases g with g | g
                            · exact h3 g
                            · rw [h2] at g; cases g), h1, if_neg (by omega)]
    omega
  · exact (isD_ne (List.all_eq_true.mp h2 _ hm)).1 rfl
  · exact (isD_ne (List.all_eq_true.mp h2 _ hm)).2 rfl
theorem itoa_clean (n : Int) : (32 : UInt8) ∉ itoa n ∧ (10 : UInt8) ∉ itoa n := by
  unfold itoa
  split
  · obtain ⟨_, h2, _⟩ := dd_val n.natAbs
    have h2 := List.all_eq_true.mp h2
    constructor
    · intro hm
      rcases List.mem_cons.mp hm with e | hm
      · revert e; decide
      · exact (isD_ne (h2 _ hm)).1 rfl
    · intro hm
      rcases List.mem_cons.mp hm with e | hm
      · revert e; decide
      · exact (isD_ne (h2 _ hm)).2 rfl
  · obtain ⟨_, h2, _⟩ := dd_val n.toNat
    have h2 := List.all_eq_true.mp h2
    exact ⟨fun hm => (isD_ne (h2 _ hm)).1 rfl, fun hm => (isD_ne (h2 _ hm)).2 rfl⟩
theorem hd_F : ∀ k : Fin 16, hd16 k.1 ≠ 32 ∧ hd16 k.1 ≠ 10 := by decide
theorem mark_clean (b : UInt8) : (32 : UInt8) ∉ mark b ∧ (10 : UInt8) ∉ mark b := by
  have hlt := b.toNat_lt
  have h1 := hd_F ⟨b.toNat / 16, by omega⟩
  have h2 := hd_F ⟨b.toNat % 16, by omega⟩
  simp only at h1 h2
  unfold mark
  refine ⟨fun h => ?_, fun h => ?_⟩
  · simp only [List.mem_cons, List.not_mem_nil, or_false] at h
    rcases h with h | h | h
    · revert h; decide
    · exact h1.1 h.symm
    · exact h2.1 h.symm
  · simp only [List.mem_cons, List.not_mem_nil, or_false] at h
    rcases h with h | h | h
    · revert h; decide
    · exact h1.2 h.symm
    · exact h2.2 h.symm
theorem sign_clean (b : UInt8) : (32 : UInt8) ∉ sign b ∧ (10 : UInt8) ∉ sign b := by
  unfold sign
  split
  · exact mark_clean b
  · rename_i h
    constructor <;>
    · intro hm
      simp only [List.mem_cons, List.not_mem_nil, or_false] at hm
      subst hm
      exact h (by decide)
theorem esc_clean (s : List UInt8) : (32 : UInt8) ∉ esc s ∧ (10 : UInt8) ∉ esc s := by
  unfold esc
  split
  · decide
  · split
    · exact mark_clean 45
    · constructor
      · intro h
        obtain ⟨b, _, hb⟩ := List.mem_flatMap.mp h
        exact (sign_clean b).1 hb
      · intro h
        obtain ⟨b, _, hb⟩ := List.mem_flatMap.mp h
        exact (sign_clean b).2 hb
theorem cutCB_at {r : List UInt8} : ∀ {a : List UInt8}, (58 : UInt8) ∉ a → cutCB (a ++ 58 :: 32 :: r) = (a, r)
  | [], _ => rfl
  | b :: a, h => by
    have ih := cutCB_at (r := r) (a := a) (fun e => h (by simp [e]))
    have hb : b ≠ 58 := fun e => h (by simp [e])
    rw [List.cons_append, cutCB, ih]
    intro r' e _
    exact absurd e hb
theorem tok_ne {b : UInt8} (h : Tg.Hd.tok b = true) : b ≠ 58 ∧ b ≠ 10 ∧ b ≠ 32 := by
  refine ⟨?_, ?_, ?_⟩ <;> (intro e; subst e; revert h; decide)
theorem hdr_back {h : Hdr} (hf : Tg.Hd.fine h = true) : hdrP (hline h) = h ∧ (10 : UInt8) ∉ hline h := by
  unfold Tg.Hd.fine at hf
  simp only [Bool.and_eq_true, decide_eq_true_eq] at hf
  have ht := List.all_eq_true.mp hf.1.1.1.2
  constructor
  · unfold hdrP hline
    show ((cutCB (h.1 ++ 58 :: 32 :: esc h.2)).1, plainT (cutCB (h.1 ++ 58 :: 32 :: esc h.2)).2) = h
    rw [cutCB_at (fun hm => (tok_ne (ht _ hm)).1 rfl)]
    show (h.1, plainT (esc h.2)) = h
    rw [plain_esc]
  · unfold hline
    intro hm
    simp only [List.mem_cons, List.mem_append] at hm
    rcases hm with e | e | e | e | e
    · revert e; decide
    · exact (tok_ne (ht _ e)).2.1 rfl
    · revert e; decide
    · revert e; decide
    · exact (esc_clean h.2).2 e
theorem mode_clean {m : List UInt8} (h : modes.contains m = true) : (32 : UInt8) ∉ m ∧ (10 : UInt8) ∉ m := by
  unfold modes at h
  simp only [List.contains_cons, List.contains_nil, Bool.or_false, Bool.or_eq_true, beq_iff_eq] at h
  rcases h with h | h | h | h <;> (subst h; decide)
theorem wl_free {c : UInt8} (hc : c ≠ 32) : ∀ {ws : List (List UInt8)}, (∀ w ∈ ws, c ∉ w) → c ∉ wl ws
  | [], _ => by simp [wl]
  | [w], h => by unfold wl; exact h w (by simp)
  | w :: v :: l, h => by
    unfold wl
    intro hm
    simp only [List.mem_append, List.mem_cons] at hm
    rcases hm with e | e | e
    · exact h w (by simp) e
    · exact hc e
    · exact wl_free hc (fun x hx => h x (by simp [hx])) e
structure Lined (e : Ev) (s : List UInt8) (r : List (List UInt8)) : Prop where
  sh : shown e = s :: r
  ev : eventP s = ({ e with hdrs := [] }, r.length)
  hs : r.map hdrP = e.hdrs
  c1 : (10 : UInt8) ∉ s
  c2 : ∀ x ∈ r, (10 : UInt8) ∉ x
theorem lined {e : Ev} (hg : good e = true) : ∃ s r, Lined e s r := by
  obtain ⟨kind, id, url, src, mode, media, status, hdrs, body⟩ := e
  unfold good at hg
  simp only [Bool.and_eq_true, decide_eq_true_eq] at hg
  obtain ⟨⟨⟨⟨⟨k1, k6⟩, hid⟩, ha⟩, hh⟩, hb⟩ := hg
  have hk : kind = 1 ∨ kind = 2 ∨ kind = 3 ∨ kind = 4 ∨ kind = 5 ∨ kind = 6 := by omega
  have hi : ∀ (_ : kind ≠ 6), 1 ≤ id ∧ id ≤ 1000000 := fun h => by
    rw [if_neg h] at hid
    simpa using hid
  have hna : ∀ (_ : kind ≠ 1), url = [] ∧ src = [] ∧ mode = [] ∧ media = 0 := fun h => by
    rw [if_neg h] at ha
    simp only [Bool.and_eq_true, decide_eq_true_eq] at ha
    exact ⟨ha.1.1.1, ha.1.1.2, ha.1.2, ha.2⟩
  have hnh : ∀ (_ : kind ≠ 2), status = 0 ∧ hdrs = [] := fun h => by
    rw [if_neg h] at hh
    simpa using hh
  have hnb : ∀ (_ : kind ≠ 3), body = [] := fun h => by
    rw [if_neg h] at hb
    simpa using hb
  have clean : ∀ {ws : List (List UInt8)}, (∀ w ∈ ws, (32 : UInt8) ∉ w ∧ (10 : UInt8) ∉ w) → ws ≠ [] → cutAt 32 (wl ws) = ws ∧ (10 : UInt8) ∉ wl ws := fun h hne => ⟨cut_wl hne (fun w hw => (h w hw).1), wl_free (by decide) (fun w hw => (h w hw).2)⟩
  rcases hk with rfl | rfl | rfl | rfl | rfl | rfl
  · obtain ⟨h1, h2⟩ := hi (by decide)
    obtain ⟨rfl, rfl⟩ := hnh (by decide)
    obtain rfl := hnb (by decide)
    rw [if_pos rfl] at ha
    simp only [Bool.and_eq_true, decide_eq_true_eq] at ha
    obtain ⟨⟨_, hm1, hm2⟩, hmo⟩ := ha
    obtain ⟨i1, i2, i3⟩ := itoa_num (n := id) (by omega) (by omega)
    obtain ⟨m1, m2, m3⟩ := itoa_num (n := media) (by omega) (by omega)
    have mc := mode_clean hmo
    obtain ⟨c1, c2⟩ := clean (ws := [kwAsk, itoa id, itoa media, mode, esc url, esc src]) (by
      intro w hw
      simp only [List.mem_cons, List.not_mem_nil, or_false] at hw
      rcases hw with rfl | rfl | rfl | rfl | rfl | rfl
      · decide
      · exact ⟨i2, i3⟩
      · exact ⟨m2, m3⟩
      · exact mc
      · exact esc_clean _
      · exact esc_clean _) (by simp)
    refine ⟨_, [], rfl, ?_, rfl, c2, by simp⟩
    unfold eventP
    simp only [c1]
    simp only [List.getD_cons_zero, List.getD_cons_succ, plain_esc, i1, m1, show kindP kwAsk words 0 = 1 from rfl, if_true]
    rfl
  · obtain ⟨h1, h2⟩ := hi (by decide)
    obtain ⟨rfl, rfl, rfl, rfl⟩ := hna (by decide)
    obtain rfl := hnb (by decide)
    rw [if_pos rfl] at hh
    simp only [Bool.and_eq_true, decide_eq_true_eq] at hh
    obtain ⟨⟨s1, s2⟩, hgd⟩ := hh
    unfold Tg.Hd.good at hgd
    simp only [Bool.and_eq_true, decide_eq_true_eq] at hgd
    obtain ⟨hlen, hfine⟩ := hgd
    have hfine := List.all_eq_true.mp hfine
    obtain ⟨i1, i2, i3⟩ := itoa_num (n := id) (by omega) (by omega)
    obtain ⟨t1, t2, t3⟩ := itoa_num (n := status) (by omega) (by omega)
    obtain ⟨l1, l2, l3⟩ := itoa_num (n := (hdrs.length : Int)) (by omega) (by omega)
    have l1' : numP (itoa (hdrs.length : Int)) = hdrs.length := by omega
    obtain ⟨c1, c2⟩ := clean (ws := [kwHead, itoa id, itoa status, itoa (hdrs.length : Int)]) (by
      intro w hw
      simp only [List.mem_cons, List.not_mem_nil, or_false] at hw
      rcases hw with rfl | rfl | rfl | rfl
      · decide
      · exact ⟨i2, i3⟩
      · exact ⟨t2, t3⟩
      · exact ⟨l2, l3⟩) (by simp)
    refine ⟨_, hdrs.map hline, rfl, ?_, ?_, c2, ?_⟩
    · unfold eventP
      simp only [c1]
      simp only [List.getD_cons_zero, List.getD_cons_succ, i1, t1, l1', List.length_map, show kindP kwHead words 0 = 2 from rfl, if_true]
      rfl
    · rw [List.map_map]
      conv => rhs; rw [← List.map_id hdrs]
      exact List.map_congr_left fun h hm => (hdr_back (hfine h hm)).1
    · intro x hx
      obtain ⟨h, hm, rfl⟩ := List.mem_map.mp hx
      exact (hdr_back (hfine h hm)).2
  · obtain ⟨h1, h2⟩ := hi (by decide)
    obtain ⟨rfl, rfl⟩ := hnh (by decide)
    obtain ⟨rfl, rfl, rfl, rfl⟩ := hna (by decide)
    obtain ⟨i1, i2, i3⟩ := itoa_num (n := id) (by omega) (by omega)
    obtain ⟨c1, c2⟩ := clean (ws := [kwChunk, itoa id, esc body]) (by
      intro w hw
      simp only [List.mem_cons, List.not_mem_nil, or_false] at hw
      rcases hw with rfl | rfl | rfl
      · decide
      · exact ⟨i2, i3⟩
      · exact esc_clean _) (by simp)
    refine ⟨_, [], rfl, ?_, rfl, c2, by simp⟩
    unfold eventP
    simp only [c1]
    simp only [List.getD_cons_zero, List.getD_cons_succ, plain_esc, i1, show kindP kwChunk words 0 = 3 from rfl, if_true]
    rfl
  · obtain ⟨h1, h2⟩ := hi (by decide)
    obtain ⟨rfl, rfl⟩ := hnh (by decide)
    obtain ⟨rfl, rfl, rfl, rfl⟩ := hna (by decide)
    obtain rfl := hnb (by decide)
    obtain ⟨i1, i2, i3⟩ := itoa_num (n := id) (by omega) (by omega)
    obtain ⟨c1, c2⟩ := clean (ws := [kwEnd, itoa id]) (by
      intro w hw
      simp only [List.mem_cons, List.not_mem_nil, or_false] at hw
      rcases hw with rfl | rfl
      · decide
      · exact ⟨i2, i3⟩) (by simp)
    refine ⟨_, [], rfl, ?_, rfl, c2, by simp⟩
    unfold eventP
    simp only [c1]
    simp only [List.getD_cons_zero, List.getD_cons_succ, i1, show kindP kwEnd words 0 = 4 from rfl]
    rfl
  · obtain ⟨h1, h2⟩ := hi (by decide)
    obtain ⟨rfl, rfl⟩ := hnh (by decide)
    obtain ⟨rfl, rfl, rfl, rfl⟩ := hna (by decide)
    obtain rfl := hnb (by decide)
    obtain ⟨i1, i2, i3⟩ := itoa_num (n := id) (by omega) (by omega)
    obtain ⟨c1, c2⟩ := clean (ws := [kwAbort, itoa id]) (by
      intro w hw
      simp only [List.mem_cons, List.not_mem_nil, or_false] at hw
      rcases hw with rfl | rfl
      · decide
      · exact ⟨i2, i3⟩) (by simp)
    refine ⟨_, [], rfl, ?_, rfl, c2, by simp⟩
    unfold eventP
    simp only [c1]
    simp only [List.getD_cons_zero, List.getD_cons_succ, i1, show kindP kwAbort words 0 = 5 from rfl]
    rfl
  · rw [if_pos rfl] at hid
    obtain rfl : id = 0 := by simpa using hid
    obtain ⟨rfl, rfl⟩ := hnh (by decide)
    obtain ⟨rfl, rfl, rfl, rfl⟩ := hna (by decide)
    obtain rfl := hnb (by decide)
    exact ⟨kwReset, [], rfl, by decide +kernel, rfl, by decide, by simp⟩
theorem next_lined {e : Ev} {s : List UInt8} {r : List (List UInt8)} (hg : good e = true) (h : Lined e s r) (rest : List (List UInt8)) : nextP s (r ++ rest) = some (e, r.length) := by
  have ht : (r ++ rest).take r.length = r := List.take_left
  have he : ({ e with hdrs := e.hdrs } : Ev) = e := rfl
  unfold nextP
  rw [h.ev]
  simp only [ht, h.hs]
  rw [if_neg (by simp), if_pos ⟨hg, h.sh⟩]
theorem evs_shown : ∀ {l : List Ev}, (∀ e ∈ l, good e = true) → evs (l.flatMap shown) = (l, none)
  | [], _ => by rw [List.flatMap_nil]; unfold evs; rfl
  | e :: l, h => by
    obtain ⟨s, r, hl⟩ := lined (h e (by simp))
    have ih := evs_shown (l := l) (fun x hx => h x (by simp [hx]))
    rw [List.flatMap_cons, hl.sh, List.cons_append]
    unfold evs
    simp only [next_lined (h e (by simp)) hl]
    rw [show (r ++ l.flatMap shown).drop r.length = l.flatMap shown from List.drop_left, ih]
theorem shown_clean {l : List Ev} (h : ∀ e ∈ l, good e = true) : ∀ s ∈ l.flatMap shown, (10 : UInt8) ∉ s := by
  intro s hs
  obtain ⟨e, he, hs⟩ := List.mem_flatMap.mp hs
  obtain ⟨s0, r, hl⟩ := lined (h e he)
  rw [hl.sh] at hs
  rcases List.mem_cons.mp hs with rfl | hs
  · exact hl.c1
  · exact hl.c2 s hs
theorem set_clean (c : Setup) : cutAt 32 (setupT c) = [kwSetup, if c.legacy then kwLegacy else kwOrb, itoa c.look, itoa c.depth, itoa c.table, itoa c.valid] ∧ (10 : UInt8) ∉ setupT c := by
  have h : ∀ w ∈ [kwSetup, if c.legacy then kwLegacy else kwOrb, itoa c.look, itoa c.depth, itoa c.table, itoa c.valid], (32 : UInt8) ∉ w ∧ (10 : UInt8) ∉ w := by
    intro w hw
    simp only [List.mem_cons, List.not_mem_nil, or_false] at hw
    rcases hw with rfl | rfl | rfl | rfl | rfl | rfl
    · decide
    · split <;> decide
    · exact itoa_clean _
    · exact itoa_clean _
    · exact itoa_clean _
    · exact itoa_clean _
  exact ⟨cut_wl (by simp) (fun w hw => (h w hw).1), wl_free (by decide) (fun w hw => (h w hw).2)⟩
theorem settings_back {c : Setup} (h : fineS c = true) : settings (setupT c) = some c := by
  have hc := (set_clean c).1
  obtain ⟨legacy, look, depth, table, valid⟩ := c
  have h' := h
  unfold fineS at h'
  simp only [Bool.and_eq_true, decide_eq_true_eq] at h'
  obtain ⟨⟨⟨⟨⟨a1, a2⟩, a3⟩, a4⟩, a5, a6⟩, a7, a8⟩ := h'
  have e : setP (setupT ⟨legacy, look, depth, table, valid⟩) = ⟨legacy, look, depth, table, valid⟩ := by
    unfold setP
    rw [hc]
    simp only [List.getD_cons_zero, List.getD_cons_succ, (itoa_num (n := look) (by omega) (by omega)).1, (itoa_num (n := depth) (by omega) (by omega)).1, (itoa_num (n := table) (by omega) (by omega)).1, (itoa_num (n := valid) (by omega) (by omega)).1]
    cases legacy <;> rfl
  unfold settings
  rw [e, if_pos ⟨h, rfl⟩]
theorem read_print {c : Setup} {l : List Ev} (hc : fineS c = true) (hl : ∀ e ∈ l, good e = true) (hs : (printT c l).length ≤ 4194304) :
    readP (printT c l) = if 5000 < l.length then (set0, [], 0, 6) else (c, l, 0, 0) := by
  have e : cutAt 10 (printT c l) = setupT c :: (l.flatMap shown) ++ [[]] := by
    unfold printT
    rw [cut_app _ (set_clean c).2]
    have := cut_feeds [] (shown_clean hl)
    rw [List.append_nil] at this
    rw [this]; rfl
  unfold readP readL
  rw [if_neg (by omega), e, List.dropLast_append_of_ne_nil (by simp)]
  simp only [List.dropLast_singleton, List.append_nil, settings_back hc, evs_shown hl]
  rw [List.getLast?_append]
  simp
theorem next_some {s : List UInt8} {r : List (List UInt8)} {e : Ev} {n : Nat} (h : nextP s r = some (e, n)) : n ≤ r.length ∧ good e = true ∧ shown e = s :: r.take n ∧ n = (eventP s).2 := by
  unfold nextP at h
  split at h
  · cases h
  · split at h
    · rename_i h1 h2
      simp only [Option.some.injEq, Prod.mk.injEq] at h
      obtain ⟨rfl, rfl⟩ := h
      exact ⟨by omega, h2.1, h2.2, rfl⟩
    · cases h
theorem flat_len : ∀ l : List Ev, (∀ e ∈ l, good e = true) → l.length ≤ (l.flatMap shown).length
  | [], _ => by simp
  | e :: l, h => by
    have := flat_len l (fun x hx => h x (by simp [hx]))
    obtain ⟨s, r, hl⟩ := lined (h e (by simp))
    rw [List.flatMap_cons, hl.sh, List.length_append, List.length_cons, List.length_cons]
    omega
theorem feeds_len (l : List (List UInt8)) : l.length ≤ (feeds l).length := by
  induction l with
  | nil => simp
  | cons s l ih => rw [feeds_cons]; simp; omega
end Tg.Sc

