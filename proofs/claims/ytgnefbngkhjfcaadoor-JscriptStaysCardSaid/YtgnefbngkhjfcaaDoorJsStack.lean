/-
  The machine of layer 28 (jscript): its stack.
-/
import Derived.Test.YtgnefbngkhjfcaaDoorJsMach
import Derived.Test.YtgnefbngkhjfcaaDoorLgQui
set_option linter.unusedSimpArgs false
set_option linter.unusedVariables false
namespace Go.Proofs.YtgnefbngkhjfcaaDoor
open Go.Lg Tg.Js

/-- the machine m lies in the block p; its own blocks lie behind N -/
structure At (N p : Nat) (H : LH) (m : M) (v : Value) : Prop where
  get : H.get p = some (mb m v)
  lt : p < H.n
  le : N ≤ p
  row : Row N H 5 v (m.stack.map bv)
  dom : ∀ l, H.n ≤ l → H.get l = none
  len : (m.stack.length : Int) ≤ m.depth
  depth : m.depth ≤ 200
structure Post (N p : Nat) (H : LH) (m : M) (H' : LH) : Prop where
  at_ : ∃ v, At N p H' m v
  n : H.n ≤ H'.n
  old : ∀ k, k < N → H'.get k = H.get k
  base : H'.base = H.base
  ng : H'.ng = H.ng
section
variable {N p : Nat} {H H' H1 : LH} {m m' m1 : M} {v v' : Value} {b : UInt8}
theorem At.off (h : At N p H m v) : offRow v p := h.row.off_of_elem h.get (by show (53 : Nat) ≠ 5; decide)
theorem Post.trans (h : Post N p H m1 H1) (k : Post N p H1 m' H') : Post N p H m' H' :=
  ⟨k.at_, Nat.le_trans h.n k.n, fun l hl => (k.old l hl).trans (h.old l hl), k.base.trans h.base, k.ng.trans h.ng⟩
theorem At.post (h : At N p H m v) : Post N p H m H := ⟨⟨v, h⟩, Nat.le_refl _, fun _ _ => rfl, rfl, rfl⟩
/-- fields are written, the stack stays -/
theorem At.set (h : At N p H m v) (hs : m'.stack = m.stack) (hd : m'.depth = m.depth) : At N p (H.set p (mb m' v)) m' v := by
  refine ⟨get_set, h.lt, h.le, ?_, fun l hl => ?_, by rw [hs, hd]; exact h.len, by rw [hd]; exact h.depth⟩
  · rw [hs]
    exact h.row.keep (fun k hk hn => get_set_ne (fun e => hn (e ▸ h.off)))
  · rw [get_set_ne (fun e => by have := h.lt; have : H.n ≤ l := hl; omega)]; exact h.dom l hl
theorem At.setPost (h : At N p H m v) (hs : m'.stack = m.stack) (hd : m'.depth = m.depth) : Post N p H m' (H.set p (mb m' v)) :=
  ⟨⟨v, h.set hs hd⟩, Nat.le_refl _, fun k hk => get_set_ne (by have := h.le; omega), rfl, rfl⟩
theorem mb_inj (h : mb m v = mb m' v') : v = v' := by
  have := congrArg LB.cells h
  simp only [mb, mc, List.cons.injEq] at this
  exact this.2.1
theorem meth_ex {f : FuncId} {fn : Func} {c : Code} {args : List Value} (he : EJ f = none) (hf : Tryd.prog.funcs[f]? = some fn) (hb : fn.body = some c) (hN : args.length ≤ fn.ntmps) (hname : fn.name ≠ "runtime.NumGoroutine") (hcd : codeOk EJ.loud c = true)
    (h : At N p H m v) (hr : Runs Tryd.prog EJ fn [.code c] (enter args) H (fun r => r.1 = .tuple #[] ∧ Post N p H m' r.2)) : ∃ H', LC Tryd.prog EJ f args H = some (.tuple #[], H') ∧ Post N p H m' H' := by
  obtain ⟨⟨u, H'⟩, hl, rfl, hp⟩ := LC_runs he hf hb hN hname hcd hr
  rcases trunc_or (.tuple #[]) H H' with e | ⟨e, _, hle⟩
  · exact ⟨H', by rw [hl, e], hp⟩
  · refine ⟨H, by rw [hl, e], ?_⟩
    obtain ⟨⟨v', ha⟩, h2, h3, h4, h5⟩ := hp
    have hg := ha.get
    rw [hle.2 p h.lt, h.get] at hg
    injection hg with hg
    have hv := mb_inj hg
    subst hv
    refine ⟨⟨v, by rw [h.get, hg], h.lt, h.le, ?_, h.dom, ha.len, ha.depth⟩, Nat.le_refl _, fun _ _ => rfl, rfl, rfl⟩
    refine ha.row.keep (fun k hk hn => ?_)
    have hlt : k < H.n := by
      rcases h.row with ⟨rfl, _⟩ | ⟨k', c, rest, rfl, g1, g2, g3⟩
      · exact absurd off_nil hn
      · have : k = k' := by
          refine Classical.byContradiction (fun hne => hn (fun n c' hx => ?_))
          injection hx with hx
          injection hx with hx
          injection hx with hx
          omega
        subst this
        rcases Nat.lt_or_ge k H.n with h | h'
        · exact h
        · rw [h.dom k h'] at g2; cases g2
    exact (hle.2 k hlt).symm
theorem At.keep (h : At N p H m v) (hn : H.n ≤ H'.n) (hk : ∀ k, k < H.n → H'.get k = H.get k) (hd : ∀ l, H'.n ≤ l → H'.get l = none) : At N p H' m v := by
  refine ⟨by rw [hk p h.lt]; exact h.get, Nat.lt_of_lt_of_le h.lt hn, h.le, ?_, hd, h.len, h.depth⟩
  refine h.row.keep (fun k hk1 hn1 => hk k ?_)
  rcases h.row with ⟨rfl, _⟩ | ⟨k', c, rest, rfl, g1, g2, g3⟩
  · exact absurd off_nil hn1
  · have : k = k' := by
      refine Classical.byContradiction (fun hne => hn1 (fun n c' hx => ?_))
      injection hx with hx
      injection hx with hx
      injection hx with hx
      omega
    subst this
    rcases Nat.lt_or_ge k H.n with h1 | h'
    · exact h1
    · rw [h.dom k h'] at g2; cases g2
theorem At.new (h : At N p H m v) {B : LB} : At N p (H.new B) m v :=
  h.keep (Nat.le_succ _) (fun k hk => get_new_ne (by omega)) (fun l hl => by have hl' : H.n + 1 ≤ l := hl; rw [get_new_ne (by omega)]; exact h.dom l (by omega))
theorem push_ex (h : At N p H m v) : ∃ H', LC Tryd.prog EJ 85 [ptr p 0, .int .u8 b.toNat] H = some (.tuple #[], H') ∧ Post N p H (m.push b) H' := by
  refine meth_ex rfl Tryd.func85 rfl (Nat.le_of_ble_eq_true rfl) (by decide) (by kernel_rfl) h ?_
  have hl := fun H' => h.row.len (H' := H') Tryd.underlying38
  have hg := h.get
  have hN := h.le
  have hp := h.lt
  by_cases hc : (m.stack.length : Int) = m.depth
  · simp +contextual [hg, hl, fail_l hg h.lt, hc]
    unfold M.push
    rw [if_pos hc]
    exact h.setPost rfl rfl
  · have h1 := h.new (B := ⟨[.int .u8 b.toNat], 5, true⟩)
    have hlen := h.len
    have hdep := h.depth
    obtain ⟨v', H', e1, e2, e3, e4, e5, e6, e7, e8⟩ := Row.push (P := Tryd.prog) (x := .int .u8 b.toNat) h1.row Tryd.underlying38 lesz5 (by simp) (by simp [maxElems]; omega) (by have := h1.le; have := h1.lt; omega) h1.dom
    have hg' : H'.get p = some (mb m v) := by rw [e4 p h1.lt h1.off]; exact h1.get
    have hc' := e2.cell
    have hp' : p < H'.n := Nat.lt_of_lt_of_le h1.lt e3
    simp +contextual [hg, hl, hc, e1, hg', hc', hp', ended_s]
    unfold M.push
    rw [if_neg hc]
    have ha : At N p (H'.set p (mb { m with stack := m.stack ++ [b] } v')) { m with stack := m.stack ++ [b] } v' := by
      refine ⟨get_set, hp', h.le, ?_, fun l hl => ?_, ?_, h.depth⟩
      · have := e2.keep (H' := H'.set p (mb { m with stack := m.stack ++ [b] } v')) (fun k hk hn => get_set_ne (fun e => hn (e ▸ e5 p h1.lt h1.off)))
        simpa [bv] using this
      · rw [get_set_ne (fun e => by have : H'.n ≤ l := hl; omega)]; exact e6 l hl
      · simp; omega
    have hb : Post N p H { m with stack := m.stack ++ [b] } (H'.set p (mb { m with stack := m.stack ++ [b] } v')) := by
      refine ⟨⟨v', ha⟩, by have : H.n + 1 ≤ H'.n := e3; show H.n ≤ H'.n; omega, fun k hk => ?_, e7, e8⟩
      rw [get_set_ne (by omega), e4 k (by show k < H.n + 1; omega) (fun n c hx => ?_), get_new_ne (by omega)]
      subst hx
      rcases h.row with ⟨hx, _⟩ | ⟨k', c', rest, hx, g1, _⟩
      · cases hx
      · injection hx with hx
        injection hx with hx
        injection hx with hx
        omega
    have hd := hb.trans (ha.setPost (m' := ({ m with stack := m.stack ++ [b] } : M).ended 0) rfl rfl)
    rw [set_set] at hd
    exact hd
theorem fail_ex (h : At N p H m v) : Post N p H m.fail (H.set p (mb m.fail v)) := h.setPost rfl rfl
set_option maxHeartbeats 4000000 in
theorem pop_ex (h : At N p H m v) : ∃ H', LC Tryd.prog EJ 99 [ptr p 0, .int .u8 b.toNat] H = some (.tuple #[], H') ∧ Post N p H (m.pop b) H' := by
  refine meth_ex rfl Tryd.func99 rfl (Nat.le_of_ble_eq_true rfl) (by decide) (by kernel_rfl) h ?_
  have hl := fun H' => h.row.len (H' := H') Tryd.underlying38
  have hg := h.get
  have hN := h.le
  have hp := h.lt
  have hlen := h.len
  have hdep := h.depth
  rcases List.eq_nil_or_concat m.stack with hs | ⟨xs, t, hs⟩
  · simp (config := { maxSteps := 4000000 }) +contextual [hg, hl, hs, fail_l hg h.lt]
    simpa [M.pop, hs] using fail_ex h
  · rw [List.concat_eq_append] at hs
    have hx : (m.stack.map bv).length = xs.length + 1 := by simp [hs]
    have hw : IntKind.i64.wrap (xs.length : Int) = xs.length := w64_in (by omega) (by rw [hs] at hlen; simp at hlen; omega)
    have hat := fun H' => Row.at (P := Tryd.prog) (H' := H') (kd := .i64) (j := xs.length) (d := .nilFunc) h.row Tryd.underlying38 sz5 agg5 (by omega) (by omega)
    obtain ⟨v', e1, e2, e3⟩ := Row.take (P := Tryd.prog) (kd := .i64) (j := xs.length) h.row Tryd.underlying38 sz5 (by omega) (by omega)
    have hgd : (m.stack.map bv).getD (xs.length : Int).toNat Value.nilFunc = .int .u8 t.toNat := by simp [hs, bv]
    obtain ⟨q, f1, f2⟩ := hat H
    rw [hgd] at f2
    have hf := fail_l hg h.lt
    have hpa := fun H => pair_l (H := H) (b := b)
    have hcv := e2.cell
    have hneg : ((xs.length : Int) < 0) = False := eq_false (by omega)
    have hen := fun m l => ended_s (H := H) (m := m) (v := v') (l := l) hp
    have htk : (m.stack.map bv).take (xs.length : Int).toNat = xs.map bv := by simp [hs]
    rw [htk] at e2
    have hlt : (xs.length : Int) ≤ m.depth := by rw [hs] at hlen; simp at hlen; omega
    have key : ∀ m'' : M, m''.stack = xs → m''.depth = m.depth → Post N p H m'' (H.set p (mb m'' v')) := fun m'' g1 g2 => by
      refine ⟨⟨v', get_set, hp, h.le, ?_, fun l hl => ?_, by rw [g1, g2]; exact hlt, by rw [g2]; exact hdep⟩, Nat.le_refl _, fun k hk => get_set_ne (by omega), rfl, rfl⟩
      · rw [g1]
        exact e2.keep (fun k hk hn => get_set_ne (fun e => hn (e ▸ e3 p h.off)))
      · rw [get_set_ne (fun e => by have hh : H.n ≤ l := hl; omega)]; exact h.dom l hl
    have hlast : m.stack.getLast? = some t := by simp [hs]
    have hdrop : m.stack.dropLast = xs := by simp [hs]
    by_cases hb : b = 125
    · have hb' : (b = 125) = True := eq_true hb
      by_cases ht : t = 96
      · have ht' : (t = 96) = True := eq_true ht
        simp (config := { maxSteps := 4000000 }) [hg, hl, hs, hw, e1, f1, f2, hf, hpa, hcv, hen, hp, hneg, hb', ht']
        have hpop : m.pop b = { m with stack := xs, at_ := 4, by_ := 96 } := by simp [M.pop, hlast, hdrop, hb, ht]
        rw [hpop]
        have hk := key ({ m with stack := xs, at_ := 4, by_ := 96 }) rfl rfl
        exact hk
      · have ht' : (t = 96) = False := eq_false ht
        by_cases hq : t = M.pair b
        · have hq' : (t = M.pair b) = True := eq_true hq
          by_cases hx0 : xs = []
          · have hx0' : (xs = []) = True := eq_true hx0
            simp (config := { maxSteps := 4000000 }) [hg, hl, hs, hw, e1, f1, f2, hf, hpa, hcv, hen, hp, hneg, hb', ht', hq', hx0']
            have hq2 : t = M.pair 125 := hb ▸ hq
            have hpop : m.pop b = { ({ m with stack := xs } : M).ended 2 with ends := w64 (m.ends + 1) } := by simp [M.pop, hlast, hdrop, hb, ht', hq2, hs, hx0, M.ended, M.pair]
            rw [hpop]
            have hk := key ({ ({ m with stack := xs } : M).ended 2 with ends := w64 (m.ends + 1) }) rfl rfl
            exact hk
          · simp (config := { maxSteps := 4000000 }) [hg, hl, hs, hw, e1, f1, f2, hf, hpa, hcv, hen, hp, hneg, hb', ht', hq', hx0]
            have hq2 : t = M.pair 125 := hb ▸ hq
            have hpop : m.pop b = ({ m with stack := xs } : M).ended 2 := by simp [M.pop, hlast, hdrop, hb, ht', hq2, hs, hx0, M.ended, M.pair]
            rw [hpop]
            have hk := key (({ m with stack := xs } : M).ended 2) rfl rfl
            exact hk
        · have hq' : (t = M.pair b) = False := eq_false hq
          simp (config := { maxSteps := 4000000 }) [hg, hl, hs, hw, e1, f1, f2, hf, hpa, hcv, hen, hp, hneg, hb', ht', hq']
          have hpop : m.pop b = m.fail := by
            unfold M.pop; rw [hlast]
            simp [ht', hq']
          rw [hpop]
          exact fail_ex h
    · have hb' : (b = 125) = False := eq_false hb
      by_cases hq : t = M.pair b
      · have hq' : (t = M.pair b) = True := eq_true hq
        simp (config := { maxSteps := 4000000 }) [hg, hl, hs, hw, e1, f1, f2, hf, hpa, hcv, hen, hp, hneg, hb', hq']
        have hpop : m.pop b = ({ m with stack := xs } : M).ended 1 := by
          unfold M.pop; rw [hlast]
          simp [hb', hq', hdrop]
        rw [hpop]
        have hk := key (({ m with stack := xs } : M).ended 1) rfl rfl
        exact hk
      · have hq' : (t = M.pair b) = False := eq_false hq
        simp (config := { maxSteps := 4000000 }) [hg, hl, hs, hw, e1, f1, f2, hf, hpa, hcv, hen, hp, hneg, hb', hq']
        have hpop : m.pop b = m.fail := by
          unfold M.pop; rw [hlast]
          simp [hb', hq']
        rw [hpop]
        exact fail_ex h
end
end Go.Proofs.YtgnefbngkhjfcaaDoor
