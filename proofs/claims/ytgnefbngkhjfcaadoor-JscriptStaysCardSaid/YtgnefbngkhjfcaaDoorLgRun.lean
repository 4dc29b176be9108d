/-
  A logical run of Go code: a whole function, and what a call comes to.
-/
import Derived.Test.YtgnefbngkhjfcaaDoorLgMixB
set_option linter.unusedSimpArgs false
set_option linter.unusedVariables false
namespace Go.Lg
open Go.Tg Go.RowKit

def itemOk (L : Loud) : Item → Bool
  | .code c => codeOk L c
  | .inLoop c => codeOk L c
  | _ => true
theorem exit_ok {L : Loud} {id : Nat} : ∀ {k k' : List Item}, exitTo id k = some k' → (∀ x ∈ k, itemOk L x = true) → ∀ x ∈ k', itemOk L x = true
  | [], k', h, _ => by simp [exitTo] at h
  | y :: k, k', h, hk => by
    have ih := @exit_ok L id k k'
    have hk2 : ∀ x ∈ k, itemOk L x = true := fun x hx => hk x (List.mem_cons_of_mem _ hx)
    unfold exitTo at h
    split at h
    · rename_i e
      injection e with e1 e2
      subst e2
      split at h
      · injection h with h; subst h; exact hk2
      · exact ih h hk2
    · rename_i e
      injection e with e1 e2
      subst e2
      exact ih h hk2
    · rename_i e; cases e

section
variable {P : Program} {L : Loud} {T : Callee} {H H' : LH} {ι : Ren} {a : Act} {w : World} {v v' : Value} {fr fr' : Fr} {fn : Func}
theorem result_ok (hrel : Rel P H ι w) {N : Nat} (hfr : FrR H.D ι N fr a.tmps) {r : ResultVar} (h : lresult P fr H r = some v) :
    ∃ v', (match r with | .tmp t => pure (a.tmps.getD t undef) | .cell x t => do loadVar t (← asAddr (a.tmps.getD x undef)) : Sem Value).run P w = .ok v' w ∧ VR H.D ι v v' := by
  cases r with
  | tmp t =>
    simp only [lresult, Option.some.injEq] at h
    subst h
    exact ⟨_, rfl, hfr.2 t⟩
  | cell x t =>
    simp only [lresult] at h
    split at h
    · rename_i l off e
      have h1 := hfr.2 x
      rw [e] at h1
      obtain ⟨_, h2⟩ := vr_ptr h1
      obtain ⟨v', hr, hv⟩ := load_sound hrel h
      refine ⟨v', ?_, hv⟩
      show (do loadVar t (← asAddr (a.tmps.getD x undef)) : Sem Value).run P w = _
      rw [h2]
      simp only [Sem.run_bind, asAddr, Sem.run_pure, Result.andThen_ok, hr w rfl]
    · cases h
theorem results_list (hrel : Rel P H ι w) {N : Nat} (hfr : FrR H.D ι N fr a.tmps) (f : ResultVar → Sem Value) (hf1 : ∀ t, f (.tmp t) = pure (a.tmps.getD t undef)) (hf2 : ∀ x t, f (.cell x t) = do loadVar t (← asAddr (a.tmps.getD x undef))) : ∀ (rs : List ResultVar) (vs : List Value), rs.mapM (lresult P fr H) = some vs →
    ∃ us : List Value, (rs.mapM f).run P w = .ok us w ∧ vs.length = us.length ∧
      ∀ (i : Nat) (x y : Value), vs[i]? = some x → us[i]? = some y → VR H.D ι x y
  | [], vs, h => by
    simp only [List.mapM_nil, Option.pure_def, Option.some.injEq] at h
    subst h
    exact ⟨[], rfl, rfl, fun i x y hx => by simp at hx⟩
  | r :: rs, vs, h => by
    simp only [List.mapM_cons, Option.bind_eq_bind, Option.pure_def] at h
    cases h1 : lresult P fr H r with
    | none => simp [h1] at h
    | some u =>
      simp only [h1, Option.bind_some] at h
      cases h2 : rs.mapM (lresult P fr H) with
      | none => simp [h2] at h
      | some us =>
        simp only [h2, Option.bind_some, Option.some.injEq] at h
        subst h
        obtain ⟨u', hr, hv⟩ := result_ok hrel hfr h1
        obtain ⟨us', hrs, hl, hvs⟩ := results_list hrel hfr f hf1 hf2 rs us h2
        have hr : (f r).run P w = .ok u' w := by cases r <;> simpa only [hf1, hf2] using hr
        refine ⟨u' :: us', ?_, by simp [hl], fun i x y hx hy => ?_⟩
        · rw [List.mapM_cons, Sem.run_bind, hr]
          simp only [Result.andThen_ok, Sem.run_bind, hrs, Sem.run_pure]
        · cases i with
          | zero => simp at hx hy; subst hx hy; exact hv
          | succ i => exact hvs i x y (by simpa using hx) (by simpa using hy)
theorem results_ok (hrel : Rel P H ι w) {N : Nat} (hfr : FrR H.D ι N fr a.tmps) (h : lresults P fn fr H = some v) : ∃ v', (results fn a.tmps).run P w = .ok v' w ∧ VR H.D ι v v' := by
  unfold lresults at h
  cases hm : fn.results.toList.mapM (lresult P fr H) with
  | none => rw [hm] at h; cases h
  | some vs =>
    have key := fun f hf1 hf2 => results_list hrel hfr f hf1 hf2 fn.results.toList vs hm
    have hex : ∃ us : List Value, (results fn a.tmps).run P w = .ok (if h : us.toArray.size = 1 then us.toArray[0] else .tuple us.toArray) w ∧ vs.length = us.length ∧ ∀ (i : Nat) (x y : Value), vs[i]? = some x → us[i]? = some y → VR H.D ι x y := by
      unfold results
      rw [Array.mapM_eq_mapM_toList]
      simp only [Sem.run_bind, map_eq_pure_bind]
      generalize hF : (fun (x : ResultVar) => _) = F
      obtain ⟨us, hr, hl, hv⟩ := key F (fun t => by rw [← hF]) (fun x t => by rw [← hF])
      refine ⟨us, ?_, hl, hv⟩
      rw [hr]
      simp only [Result.andThen_ok, Sem.run_pure]
    obtain ⟨us, hrun, hl, hv⟩ := hex
    rw [hm] at h
    match vs, us, hl, h, hv, hrun with
    | [x], [y], _, h, hv, hrun =>
      simp only [Option.some.injEq] at h
      subst h
      exact ⟨y, hrun, hv 0 x y rfl rfl⟩
    | [], [], _, h, hv, hrun =>
      simp only [Option.some.injEq] at h
      subst h
      exact ⟨_, hrun, .flat _ rfl⟩
    | x :: x2 :: xs, y :: y2 :: ys, hl, h, hv, hrun =>
      simp only [Option.some.injEq] at h
      subst h
      refine ⟨_, hrun, ?_⟩
      rw [dif_neg (by simp)]
      exact .tuple _ _ (by simpa using hl) (fun i p q hp hq => hv i p q (by simpa using hp) (by simpa using hq))

theorem run_ok (hT : TOk P T) (hm : P.follows .mixedOrders = true) : ∀ (n : Nat) (todo : List Item) (fr : Fr) (H : LH) (ι : Ren) (a : Act) (w : World), run P L T fn n todo fr H = some (v, H') → (∀ x ∈ todo, itemOk L x = true) →
    Rel P H ι w → FrR H.D ι fn.ntmps fr a.tmps → a.defers = [] → ∀ (b : Frame) (cs : List Frame), ∃ (a' : Act) (todo' : List Item) (w' : World) (ι' : Ren) (v' : Value),
      Steps P (lone (b.at a todo) cs w) (lone { b.at a' todo' with mode := .returning } cs w') ∧ a'.defers = [] ∧ (results fn a'.tmps).run P w' = .ok v' w' ∧ Out P H ι w H' ι' w' ∧ VR H'.D ι' v v' := by
  intro n
  induction n with
  | zero => intro todo fr H ι a w h; simp [run] at h
  | succ n ih =>
    intro todo fr H ι a w h hit hrel hfr hd b cs
    have fin : ∀ k, (lresults P fn fr H).map (fun v => (v, H)) = some (v, H') → Steps P (lone (b.at a todo) cs w) (lone { b.at a k with mode := .returning } cs w) → ∃ (a' : Act) (todo' : List Item) (w' : World) (ι' : Ren) (v' : Value),
        Steps P (lone (b.at a todo) cs w) (lone { b.at a' todo' with mode := .returning } cs w') ∧ a'.defers = [] ∧ (results fn a'.tmps).run P w' = .ok v' w' ∧ Out P H ι w H' ι' w' ∧ VR H'.D ι' v v' := by
      intro k hk hs
      simp only [Option.map_eq_some_iff, Prod.mk.injEq] at hk
      obtain ⟨u, hu, rfl, rfl⟩ := hk
      obtain ⟨v', hr, hv⟩ := results_ok hrel hfr hu
      exact ⟨a, k, w, ι, v', hs, hd, hr, Out.refl hrel, hv⟩
    have go : ∀ todo1, run P L T fn n todo1 fr H = some (v, H') → (∀ x ∈ todo1, itemOk L x = true) → step P (lone (b.at a todo) cs w) = .next (lone (b.at a todo1) cs w) → ∃ (a' : Act) (todo' : List Item) (w' : World) (ι' : Ren) (v' : Value),
        Steps P (lone (b.at a todo) cs w) (lone { b.at a' todo' with mode := .returning } cs w') ∧ a'.defers = [] ∧ (results fn a'.tmps).run P w' = .ok v' w' ∧ Out P H ι w H' ι' w' ∧ VR H'.D ι' v v' := by
      intro todo1 h1 hi1 hs
      obtain ⟨a', t', w', ι', v', g1, g2⟩ := ih todo1 fr H ι a w h1 hi1 hrel hfr hd b cs
      exact ⟨a', t', w', ι', v', .head hs g1, g2⟩
    cases todo with
    | nil => exact fin [] (by simpa only [run] using h) (.one step_end)
    | cons it k =>
      have hk : ∀ x ∈ k, itemOk L x = true := fun x hx => hit x (List.mem_cons_of_mem _ hx)
      have hx := hit it (List.mem_cons_self ..)
      cases it with
      | inBlock id => exact go k (by simpa only [run] using h) hk step_inBlock
      | inLoop c => exact go (.code c :: .inLoop c :: k) (by simpa only [run] using h) (fun z hz => by
          rcases List.mem_cons.1 hz with rfl | hz
          · exact hx
          · rcases List.mem_cons.1 hz with rfl | hz
            · exact hx
            · exact hk z hz) step_inLoop
      | code c =>
        cases c with
        | skip => exact go k (by simpa only [run] using h) hk step_skip
        | label l => exact go k (by simpa only [run] using h) hk step_label
        | seq x y =>
          simp only [itemOk, codeOk, Bool.and_eq_true] at hx
          exact go (.code x :: .code y :: k) (by simpa only [run] using h) (fun z hz => by
            rcases List.mem_cons.1 hz with rfl | hz
            · exact hx.1
            · rcases List.mem_cons.1 hz with rfl | hz
              · exact hx.2
              · exact hk z hz) step_seq
        | block id c => exact go (.code c :: .inBlock id :: k) (by simpa only [run] using h) (fun z hz => by
            rcases List.mem_cons.1 hz with rfl | hz
            · exact hx
            · rcases List.mem_cons.1 hz with rfl | hz
              · rfl
              · exact hk z hz) step_block
        | loop c => exact go (.code c :: .inLoop c :: k) (by simpa only [run] using h) (fun z hz => by
            rcases List.mem_cons.1 hz with rfl | hz
            · exact hx
            · rcases List.mem_cons.1 hz with rfl | hz
              · exact hx
              · exact hk z hz) step_loop
        | ret => exact fin (.code .ret :: k) (by simpa only [run] using h) (.one step_ret)
        | exit id =>
          simp only [run] at h
          cases hx2 : exitTo id k with
          | none => simp [hx2] at h
          | some k' =>
            simp only [hx2] at h
            exact go k' h (exit_ok hx2 hk) (step_exit hx2)
        | cond c x y =>
          simp only [itemOk, codeOk, Bool.and_eq_true] at hx
          simp only [run] at h
          have hc := hfr.ev c
          cases he : ev fr c with
          | bool t =>
            rw [he] at hc
            have hc' := vr_bool hc
            simp only [he] at h
            refine go (.code (if t then x else y) :: k) ?_ (fun z hz => ?_) (step_cond hc')
            · cases t <;> simpa using h
            · rcases List.mem_cons.1 hz with rfl | hz
              · cases t
                · exact hx.2
                · exact hx.1
              · exact hk z hz
          | _ => simp [he] at h
        | region id ops draw =>
          have reg : ∀ H1 fr1, run P L T fn n k fr1 H1 = some (v, H') → (Code.region id ops draw).wp P (fun e a' w' => e = .normal ∧ ∃ ι', Out P H ι w H1 ι' w' ∧ FrR H1.D ι' fn.ntmps fr1 a'.tmps ∧ a'.defers = a.defers) a w → ∃ (a' : Act) (todo' : List Item) (w' : World) (ι' : Ren) (v' : Value),
              Steps P (lone (b.at a (.code (.region id ops draw) :: k)) cs w) (lone { b.at a' todo' with mode := .returning } cs w') ∧ a'.defers = [] ∧ (results fn a'.tmps).run P w' = .ok v' w' ∧ Out P H ι w H' ι' w' ∧ VR H'.D ι' v v' := by
            intro H1 fr1 h1 hwp
            obtain ⟨e, a1, w1, ⟨rfl, ι1, ho1, hf1, hd1⟩, harr⟩ := hwp b k cs
            obtain ⟨a', t', w', ι', v', g1, g2, g3, g4, g5⟩ := ih k fr1 H1 ι1 a1 w1 h1 hk ho1.rel hf1 (by rw [hd1, hd]) b cs
            exact ⟨a', t', w', ι', v', Steps.trans harr g1, g2, g3, ho1.trans g4, g5⟩
          cases draw with
          | false =>
            simp only [run] at h
            cases hl : lops P T fn.ntmps ops ops.toList fr H with
            | none => simp [hl] at h
            | some r =>
              obtain ⟨fr1, H1⟩ := r
              simp only [hl] at h
              exact reg H1 fr1 h (wp_region_list (lops_ok hT ops.toList fr H ι a w hl hrel hfr _ (fun ι' a' w' ho hf hdd => ⟨rfl, ι', ho, hf, hdd⟩)))
          | true =>
            simp only [run] at h
            cases hl : lmix P L T fn.ntmps ops H ops.toList fr H with
            | none => simp [hl] at h
            | some r =>
              obtain ⟨fr1, H1⟩ := r
              simp only [hl] at h
              exact reg H1 fr1 h (mix_ok hT hm hx hl hrel hfr id (fun ι' a' w' ho hf hdd => ⟨rfl, ι', ho, hf, hdd⟩))
        | _ => simp [run] at h
      | _ => simp [run] at h
end
end Go.Lg
