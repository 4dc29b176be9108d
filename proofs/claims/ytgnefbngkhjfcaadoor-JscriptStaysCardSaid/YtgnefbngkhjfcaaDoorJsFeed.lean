/-
  The machine of layer 28 (jscript): bytes, pieces, all at once.
-/
import Derived.Test.YtgnefbngkhjfcaaDoorJsInWord
import Derived.Test.YtgnefbngkhjfcaaDoorJsTell
import Derived.Test.YtgnefbngkhjfcaaDoorJsNew
set_option linter.unusedSimpArgs false
set_option linter.unusedVariables false
set_option maxRecDepth 100000
namespace Go.Proofs.YtgnefbngkhjfcaaDoor
open Go.Lg Tg.Js

section
variable {N p : Nat} {H H' H1 : LH} {m m' m1 : M} {v v' : Value} {b : UInt8} {s : List UInt8}
theorem inRemark_stack (m : M) (b : UInt8) : (m.inRemark b).stack = m.stack ∧ (m.inRemark b).depth = m.depth := by
  unfold M.inRemark; dsimp only; repeat' split
  all_goals exact ⟨rfl, rfl⟩
theorem inLess_stack (m : M) (b : UInt8) : (m.inLess b).stack = m.stack ∧ (m.inLess b).depth = m.depth := by
  unfold M.inLess; repeat' split
  all_goals exact ⟨rfl, rfl⟩
theorem byte_ex (h : At N p H m v) (ht : Tab H) : ∃ H', LC Tryd.prog EJ 39 [ptr p 0, .int .u8 b.toNat] H = some (.tuple #[], H') ∧ Post N p H (m.byte b) H' := by
  refine meth_ex rfl Tryd.func39 rfl (Nat.le_of_ble_eq_true rfl) (by decide) (by kernel_rfl) h ?_
  have hg := h.get
  have hp := h.lt
  have en := fun m'' (g : m''.stack = m.stack ∧ m''.depth = m.depth) => h.setPost (m' := m'') g.1 g.2
  obtain ⟨H0, e0, p0⟩ := begin_ex (b := b) h
  obtain ⟨H1, e1, p1⟩ := inWord_ex (b := b) h ht
  obtain ⟨H2, e2, p2⟩ := inDollar_ex (b := b) h
  obtain ⟨H3, e3, p3⟩ := inSlash_ex (b := b) h
  have e4 := inRemark_l (b := b) hg hp
  have p4 := en _ (inRemark_stack m b)
  have e5 := inLess_l (b := b) hg hp
  have p5 := en _ (inLess_stack m b)
  have e6 := inText_l (b := b) hg hp
  have p6 := en _ (inText_stack m b)
  unfold M.byte
  by_cases c : m.at_ = 0
  · simp (config := { maxSteps := 4000000 }) [hg, hp, c, e0]; exact p0
  have f0 := eq_false c
  by_cases c : m.at_ = 1
  · simp (config := { maxSteps := 4000000 }) [hg, hp, c, e1]; exact p1
  have f1 := eq_false c
  by_cases c : m.at_ = 2
  · simp (config := { maxSteps := 4000000 }) [hg, hp, c, e1]; exact p1
  have f2 := eq_false c
  by_cases c : m.at_ = 8
  · simp (config := { maxSteps := 4000000 }) [hg, hp, c, e1]; exact p1
  have f8 := eq_false c
  by_cases c : m.at_ = 5
  · simp (config := { maxSteps := 4000000 }) [hg, hp, c, e2]; exact p2
  have f5 := eq_false c
  by_cases c : m.at_ = 9
  · simp (config := { maxSteps := 4000000 }) [hg, hp, c, e3]; exact p3
  have f9 := eq_false c
  by_cases c : m.at_ = 10
  · simp (config := { maxSteps := 4000000 }) [hg, hp, c, e4]; exact p4
  have f10 := eq_false c
  by_cases c : m.at_ = 11
  · simp (config := { maxSteps := 4000000 }) [hg, hp, c, e4]; exact p4
  have f11 := eq_false c
  by_cases c : m.at_ = 12
  · simp (config := { maxSteps := 4000000 }) [hg, hp, c, e4]; exact p4
  have f12 := eq_false c
  by_cases c : m.at_ = 13
  · simp (config := { maxSteps := 4000000 }) [hg, hp, c, e5]; exact p5
  have f13 := eq_false c
  by_cases c : m.at_ = 14
  · simp (config := { maxSteps := 4000000 }) [hg, hp, c, e5]; exact p5
  have f14 := eq_false c
  by_cases c : m.at_ = 15
  · simp (config := { maxSteps := 4000000 }) [hg, hp, c, e5]; exact p5
  have f15 := eq_false c
  simp (config := { maxSteps := 4000000 }) [hg, hp, f0, f1, f2, f8, f5, f9, f10, f11, f12, f13, f14, f15, e6]
  exact p6
/-- a method that hands something back -/
theorem meth_exv {u : Value} {f : FuncId} {fn : Func} {c : Code} {args : List Value} (he : EJ f = none) (hf : Tryd.prog.funcs[f]? = some fn) (hb : fn.body = some c) (hN : args.length ≤ fn.ntmps) (hname : fn.name ≠ "runtime.NumGoroutine") (hcd : codeOk EJ.loud c = true)
    (h : At N p H m v) (hr : Runs Tryd.prog EJ fn [.code c] (enter args) H (fun r => r.1 = u ∧ Post N p H m' r.2)) : ∃ H', LC Tryd.prog EJ f args H = some (u, H') ∧ Post N p H m' H' := by
  obtain ⟨⟨u', H'⟩, hl, hu, hp⟩ := LC_runs he hf hb hN hname hcd hr
  simp only at hu
  subst hu
  rcases trunc_or u' H H' with e | ⟨e, _, hle⟩
  · exact ⟨H', by rw [hl, e], hp⟩
  · refine ⟨H, by rw [hl, e], ?_⟩
    obtain ⟨⟨v', ha⟩, h2, h3, h4, h5⟩ := hp
    have hg := ha.get
    rw [hle.2 p h.lt, h.get] at hg
    injection hg with hg
    have hv := mb_inj hg
    subst hv
    refine ⟨⟨v, by rw [h.get, hg], h.lt, h.le, ?_, h.dom, ha.len, ha.depth⟩, Nat.le_refl _, fun _ _ => rfl, rfl, rfl⟩
    refine ha.row.keep (fun k hk hn => ?_)
    have hlt : k < H.n := by
      rcases h.row with ⟨rfl, _⟩ | ⟨k', c, rest, rfl, g1, g2, g3⟩
      · exact absurd off_nil hn
      · have : k = k' := by
          refine Classical.byContradiction (fun hne => hn (fun n c' hx => ?_))
          injection hx with hx
          injection hx with hx
          injection hx with hx
          omega
        subst this
        rcases Nat.lt_or_ge k H.n with h | h'
        · exact h
        · rw [h.dom k h'] at g2; cases g2
    exact (hle.2 k hlt).symm
theorem Tab.post (ht : Tab H) (hp : Post N p H m H') : Tab H' := ⟨by rw [hp.ng]; exact ht.1, by rw [hp.base]; exact ht.2⟩
theorem feed_take (m : M) (s : List UInt8) {i : Nat} (h : i < s.length) : m.feed (s.take (i + 1)) = (m.feed (s.take i)).step s[i] := by
  rw [List.take_succ_eq_append_getElem h, M.feed_append]; rfl
theorem feed_ex (h : At N p H m v) (ht : Tab H) (hs : s.length ≤ 1048576) : ∃ H', LC Tryd.prog EJ 15 [ptr p 0, str s] H = some (.int .i64 (m.feed s).tell, H') ∧ Post N p H (m.feed s) H' := by
  refine meth_exv rfl Tryd.func15 rfl (Nat.le_of_ble_eq_true rfl) (by decide) (by kernel_rfl) h ?_
  simp
  refine loop_ind (fun (i : Nat) fr' H' => fr' 0 = ptr p 0 ∧ fr' 1 = str s ∧ fr' 9 = .int .i64 s.length ∧ fr' 10 = .int .i64 i ∧ i ≤ s.length ∧ Post N p H (m.feed (s.take i)) H') (fun i => s.length - i) 0 ?_ ?_
  · exact ⟨by simp, by simp, by simp, by simp, Nat.zero_le _, h.post⟩
  rintro i fr' H' ⟨h0, h1, h9, h10, hi, hpo⟩ ih
  obtain ⟨⟨v1, a1⟩, _⟩ := id hpo
  have hg := a1.get
  have hp := a1.lt
  by_cases hlt : i < s.length
  · have hw : IntKind.i64.wrap ((i : Int) + 1) = ((i + 1 : Nat) : Int) := by rw [wrap64_in (by omega) (by omega)]; omega
    have hat : at_ s i = s[i] := by simp [at_, hlt]
    have hst := feed_take m s hlt
    cases hb : (m.feed (s.take i)).bad with
    | true =>
      rw [M.step_bad _ _ hb] at hst
      have hb' : (!(m.feed (s.take i)).bad) = false := by rw [hb]; rfl
      simp (config := { maxSteps := 4000000 }) [-Bool.not_eq_eq_eq_not, h0, h1, h9, h10, hlt, hg, hp, hb', hw]
      refine ih (i + 1) _ _ (by omega) ⟨by simp [h0], by simp [h1], by simp [h9], by simp, hlt, ?_⟩
      rw [hst]
      exact hpo.trans (a1.setPost rfl rfl)
    | false =>
      rw [M.step_good _ _ hb] at hst
      obtain ⟨H2, e2, p2⟩ := byte_ex (b := s[i]) a1 (ht.post hpo)
      obtain ⟨⟨v2, a2⟩, _⟩ := id p2
      have hg2 := a2.get
      have hp2 := a2.lt
      simp (config := { maxSteps := 4000000 }) [h0, h1, h9, h10, hlt, hg, hp, hb, hw, hat, e2, hg2, hp2]
      refine ih (i + 1) _ _ (by omega) ⟨by simp [h0], by simp [h1], by simp [h9], by simp, hlt, ?_⟩
      rw [hst]
      exact (hpo.trans p2).trans (a2.setPost rfl rfl)
  · have hi2 : s.take i = s := List.take_of_length_le (by omega)
    rw [hi2] at hpo a1
    have e := tell_l a1
    simp [h0, h1, h9, h10, hlt, e]
    exact hpo
theorem at_new {d : Int} (h0 : 0 ≤ d) (h1 : d ≤ 200) (hd : ∀ l, H.n ≤ l → H.get l = none) : At H.n H.n (H.new (mb (new d) (.slice none 0 0))) (new d) (.slice none 0 0) :=
  ⟨get_new, Nat.lt_succ_self _, Nat.le_refl _, .inl ⟨rfl, rfl⟩, fun l hl => by
    have : H.n + 1 ≤ l := hl
    rw [get_new_ne (by omega)]; exact hd l (by omega), h0, h1⟩
def clamp (d : Int) : Int := if (if d < 0 then 0 else d) > 200 then 200 else (if d < 0 then 0 else d)
end
end Go.Proofs.YtgnefbngkhjfcaaDoor
