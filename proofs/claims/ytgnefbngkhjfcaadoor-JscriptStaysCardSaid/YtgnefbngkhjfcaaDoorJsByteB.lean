/-
  The machine of layer 28 (jscript): a byte, second part.
-/
import Derived.Test.YtgnefbngkhjfcaaDoorJsByte
set_option linter.unusedSimpArgs false
set_option linter.unusedVariables false
set_option maxRecDepth 100000
namespace Go.Proofs.YtgnefbngkhjfcaaDoor
open Go.Lg Tg.Js

section
variable {N p : Nat} {H H' H1 : LH} {m m' m1 : M} {v v' : Value} {b : UInt8}
theorem At.newPost' {B : LB} (h : At N p H m v) (g1 : m'.stack = m.stack) (g2 : m'.depth = m.depth) : Post N p H m' ((H.new B).set p (mb m' v)) := by
  have h2 := (h.new (B := B)).set (m' := m') g1 g2
  have hp := h.lt
  have hN := h.le
  refine ⟨⟨v, h2⟩, Nat.le_succ _, fun k hk => ?_, rfl, rfl⟩
  rw [get_set_ne (by omega), get_new_ne (by omega)]
theorem inDollar_ex (h : At N p H m v) : ∃ H', LC Tryd.prog EJ 54 [ptr p 0, .int .u8 b.toNat] H = some (.tuple #[], H') ∧ Post N p H (m.inDollar b) H' := by
  refine meth_ex rfl Tryd.func54 rfl (Nat.le_of_ble_eq_true rfl) (by decide) (by kernel_rfl) h ?_
  have hg := h.get
  have hp := h.lt
  have h1 := h.set (m' := { m with at_ := 4 }) rfl rfl
  have hq := h.setPost (m' := { m with at_ := 4 }) rfl rfl
  obtain ⟨Hu, eu, pu⟩ := push_ex (b := 96) h1
  have pu' := hq.trans pu
  have eu' : LC Tryd.prog EJ 85 [ptr p 0, .int .u8 96] (H.set p (mb { m with at_ := 4 } v)) = some (.tuple #[], Hu) := eu
  have hit := inText_s (H := H) (m := { m with at_ := 4 }) (v := v) (b := b) hp
  have en := fun m'' g1 g2 => h.setPost (m' := m'') g1 g2
  by_cases c : b = 123
  · have c' := eq_true c
    simp (config := { maxSteps := 4000000 }) [hg, hp, c', eu']
    have e : m.inDollar b = ({ m with at_ := 4 } : M).push 96 := by unfold M.inDollar; simp [c]
    rw [e]; exact pu'
  · have c' := eq_false c
    simp (config := { maxSteps := 4000000 }) [hg, hp, c', hit]
    have e : m.inDollar b = ({ m with at_ := 4 } : M).inText b := by unfold M.inDollar; simp [c]
    rw [e]
    refine en _ ?_ ?_
    · unfold M.inText; repeat' split
      all_goals rfl
    · unfold M.inText; repeat' split
      all_goals rfl
theorem inText_stack (m : M) (b : UInt8) : (m.inText b).stack = m.stack ∧ (m.inText b).depth = m.depth := by
  unfold M.inText; repeat' split
  all_goals exact ⟨rfl, rfl⟩
theorem inSlash_ex (h : At N p H m v) : ∃ H', LC Tryd.prog EJ 55 [ptr p 0, .int .u8 b.toNat] H = some (.tuple #[], H') ∧ Post N p H (m.inSlash b) H' := by
  refine meth_ex rfl Tryd.func55 rfl (Nat.le_of_ble_eq_true rfl) (by decide) (by kernel_rfl) h ?_
  have hg := h.get
  have hp := h.lt
  have en := fun m'' g1 g2 => h.setPost (m' := m'') g1 g2
  by_cases c1 : b = 47
  · have f1 := eq_true c1
    simp (config := { maxSteps := 4000000 }) [hg, hp, f1]
    have e : m.inSlash b = { m with at_ := 10 } := by unfold M.inSlash; simp [c1]
    rw [e]; exact en { m with at_ := 10 } rfl rfl
  have f1 := eq_false c1
  by_cases c2 : b = 42
  · have f2 := eq_true c2
    simp (config := { maxSteps := 4000000 }) [hg, hp, f1, f2]
    have e : m.inSlash b = { m with at_ := 11 } := by unfold M.inSlash; simp [c2]
    rw [e]; exact en { m with at_ := 11 } rfl rfl
  have f2 := eq_false c2
  by_cases c3 : m.last = 1 ∨ m.last = 2
  · obtain ⟨Hs, es, ps⟩ := sign_ex (b := 47) h
    have es' : LC Tryd.prog EJ 83 [ptr p 0, .int .u8 47] H = some (.tuple #[], Hs) := es
    obtain ⟨v2, h2⟩ := ps.at_
    obtain ⟨Hb, eb, pb⟩ := begin_ex (b := b) h2
    have e : m.inSlash b = (m.sign 47).begin b := by unfold M.inSlash; rw [if_neg c1, if_neg c2, if_pos c3]
    rw [e]
    have pp := ps.trans pb
    by_cases c4 : m.last = 1
    · have f4 := eq_true c4
      simp (config := { maxSteps := 4000000 }) [hg, hp, f1, f2, f4, es', eb]
      exact pp
    · have f4 := eq_false c4
      have f5 : (m.last = 2) = True := eq_true (c3.resolve_left c4)
      simp (config := { maxSteps := 4000000 }) [hg, hp, f1, f2, f4, f5, es', eb]
      exact pp
  · have f4 : (m.last = 1) = False := eq_false (fun c => c3 (.inl c))
    have f5 : (m.last = 2) = False := eq_false (fun c => c3 (.inr c))
    have hpc := piece_l hg hp
    have hit := inText_s (H := H) (m := { m.piece with at_ := 6, by_ := 47 }) (v := v) (b := b) hp
    simp (config := { maxSteps := 4000000 }) [hg, hp, f1, f2, f4, f5, hpc, hit]
    have e : m.inSlash b = ({ m.piece with at_ := 6, by_ := 47 } : M).inText b := by unfold M.inSlash; rw [if_neg c1, if_neg c2, if_neg c3]
    rw [e]
    exact en _ (inText_stack _ _).1 (inText_stack _ _).2
end
end Go.Proofs.YtgnefbngkhjfcaaDoor
