/-
  Texts joined, part 5: LgMore, LgObj, JsObj, JsStack, JsWord, JsByte, JsByteB, JsInWord, JsTell, JsNew, JsFeed, JnMach, JnObj, JnStack, JnByte, JnByteB, JnNumA, JnNumB, JnNumC, JnFeed, LxMach, JsLaws, LxFeed, LxWhole, LxOrb, LgEq, LxLaws, LxJson.
-/
import Derived.Test.YtgnefbngkhjfcaaDoorM3
import Derived.Test.YtgnefbngkhjfcaaDoorM4
import Derived.MapKept
/-
  A logical run of Go code: more rules.
-/
set_option linter.unusedSimpArgs false
set_option linter.unusedVariables false
namespace Go.Lg
open Go.Tg Go.RowKit
section
variable {P : Program} {H : LH} {t : TypeId} {a b : Bool}
theorem pureVal_equal_b (hu : P.underlying t = some .bool) : pureVal P (Op.equal t (.bool a) (.bool b)) = some (a == b) := by
  unfold Op.equal
  show pureVal P (Op.equalIn (9999 + 1) t (.bool a) (.bool b)) = _
  unfold Op.equalIn
  simp only [pureVal_bind, pureVal_und, hu, Option.bind_some, pureVal_pure]
@[simp] theorem lbin_beq (hu : P.underlying t = some .bool) : lbin P .eql t (.bool a) (.bool b) = some (.bool (a == b)) := lbin_bb (by simp only [binOp, pureVal_bind, pureVal_equal_b hu, Option.bind_some, pureVal_pure]) rfl
@[simp] theorem lbin_bne (hu : P.underlying t = some .bool) : lbin P .neq t (.bool a) (.bool b) = some (.bool (a != b)) := lbin_bb (by simp only [binOp, pureVal_bind, pureVal_equal_b hu, Option.bind_some, pureVal_pure]; rfl) rfl
@[simp ↓] theorem ev_str0 {fr : Fr} : ev fr (.const (.string ⟨#[]⟩)) = str [] := rfl
@[simp ↓] theorem ev_str1 {fr : Fr} : ev fr (.const (.string ByteArray.empty)) = str [] := rfl
@[simp] theorem ev_strc {fr : Fr} {l : List UInt8} : ev fr (.const (str l)) = str l := by
  show (if flatB (str l) then str l else unk) = _
  rw [if_pos flat_str]
@[simp] theorem get_new_eq {H : LH} {b : LB} {l : Nat} (h : l = H.n) : (H.new b).get l = some b := by subst h; exact get_new
@[simp] theorem new_set_eq {H : LH} {b c : LB} {l : Nat} (h : l = H.n) : (H.new b).set l c = H.new c := by subst h; exact new_set
@[simp ↓] theorem lopx_makeSlice {T : Callee} {fr : Fr} {x y : Operand} : lopx P T (.makeSlice t x y) fr H = lmake P t (ev fr x) (ev fr y) H := rfl
@[simp] theorem lmake_one {e : TypeId} {z : Value} {l c : Int} {k k' : IntKind} (hu : P.underlying t = some (.slice e)) (hs : lesz P e = some 1) (hz : zr P e = some z) (hf : flatB z = true) (hc : cellB z = true) (h0 : 0 ≤ l) (h1 : l ≤ c) (h2 : c ≤ 1048576) :
    lmake P t (.int k l) (.int k' c) H = some (.slice (some ⟨H.n, 0, none⟩) l.toNat c.toNat, H.new ⟨List.replicate c.toNat z, e, true⟩) := by
  unfold lesz at hs
  unfold zr at hz
  unfold lmake
  simp only [hu]
  cases hi : P.info? e with
  | none => simp [hi] at hs
  | some i =>
    simp only [hi, Option.bind_some] at hs hz
    rw [hz] at hs
    simp only at hs
    split at hs
    · rename_i hh
      simp only [Option.some.injEq] at hs
      simp only [hz]
      have hcs : z.cells = #[z] := cells_one hc
      rw [if_pos (by
        simp only [Bool.and_eq_true, decide_eq_true_eq, beq_iff_eq]
        refine ⟨⟨⟨⟨⟨⟨hf, by omega⟩, h0⟩, h1⟩, by rw [hs]; omega⟩, hh.2.2⟩, by rw [hcs, hs]; rfl⟩)]
      congr 3
      rw [hcs, hs, Nat.mul_one]
      congr 1
      apply List.ext_getElem
      · simp
      · intro i h1 h2
        simp [Nat.mod_one]
    · cases hs
end
end Go.Lg
/-
  A logical run of Go code: what an object's method may turn: the object's block, the block of its row, new blocks.
-/
set_option linter.unusedSimpArgs false
set_option linter.unusedVariables false
namespace Go.Lg
open Go.Tg Go.RowKit

/-- from the heap H, where the object p has the row v, to the heap H', where it has the row v' -/
structure Kp (p : Nat) (v : Value) (H : LH) (v' : Value) (H' : LH) : Prop where
  n : H.n ≤ H'.n
  keep : ∀ k, k < H.n → k ≠ p → offRow v k → H'.get k = H.get k
  off : ∀ k, k < H.n → k ≠ p → offRow v k → offRow v' k
  base : H'.base = H.base
  ng : H'.ng = H.ng
section
variable {p : Nat} {v v' v1 : Value} {H H' H1 : LH} {B : LB}
theorem Kp.refl : Kp p v H v H := ⟨Nat.le_refl _, fun _ _ _ _ => rfl, fun _ _ _ h => h, rfl, rfl⟩
theorem Kp.trans (h : Kp p v H v1 H1) (k : Kp p v1 H1 v' H') : Kp p v H v' H' :=
  ⟨Nat.le_trans h.n k.n, fun l hl hp ho => (k.keep l (Nat.lt_of_lt_of_le hl h.n) hp (h.off l hl hp ho)).trans (h.keep l hl hp ho),
    fun l hl hp ho => k.off l (Nat.lt_of_lt_of_le hl h.n) hp (h.off l hl hp ho), k.base.trans h.base, k.ng.trans h.ng⟩
theorem Kp.set (ho : ∀ k, offRow v k → offRow v' k) : Kp p v H v' (H.set p B) := ⟨Nat.le_refl _, fun _ _ hp _ => get_set_ne hp, fun k _ _ h => ho k h, rfl, rfl⟩
theorem Kp.new : Kp p v H v (H.new B) := ⟨Nat.le_succ _, fun _ hl _ _ => get_new_ne (by omega), fun _ _ _ h => h, rfl, rfl⟩
/-- what was there ahead of the object -/
theorem Kp.le (h : Kp p v H1 v' H') (hn : H.n ≤ H1.n) (hp : H.n ≤ p) (hv : ∀ k, k < H.n → offRow v k) (hg : ∀ k, k < H.n → H1.get k = H.get k) : H.le H' :=
  ⟨Nat.le_trans hn h.n, fun l hl => (h.keep l (by omega) (by omega) (hv l hl)).trans (hg l hl)⟩
end
end Go.Lg
/-
  The machine of layer 28 (jscript): where it lies.
-/
set_option linter.unusedSimpArgs false
set_option linter.unusedVariables false
namespace Go.Proofs.YtgnefbngkhjfcaaDoor
open Go.Lg Tg.Js

/-- the machine m lies in the block p -/
structure At (p : Nat) (H : LH) (m : M) (v : Value) : Prop where
  get : H.get p = some (mb m v)
  lt : p < H.n
  row : Row 0 H 5 v (m.stack.map bv)
  dom : ∀ l, H.n ≤ l → H.get l = none
  len : (m.stack.length : Int) ≤ (m.depth : Int)
  depth : (m.depth : Int) ≤ 200
structure Post (p : Nat) (H : LH) (m : M) (H' : LH) : Prop where
  at_ : ∃ v, At p H' m v
  fr : ∀ m0 v0 v, At p H m0 v0 → At p H' m v → Kp p v0 H v H'
section
variable {p : Nat} {H H' H1 : LH} {m m' m1 : M} {v v' : Value} {b : UInt8}
theorem mb_inj (h : mb m v = mb m' v') : v = v' := by
  have := congrArg LB.cells h
  simp only [mb, mc, List.cons.injEq] at this
  exact this.2.1
theorem At.same (h : At p H m v) (k : At p H m' v') : v = v' := by
  have h1 := h.get
  rw [k.get] at h1
  injection h1 with h1
  exact (mb_inj h1).symm
theorem At.off (h : At p H m v) : offRow v p := h.row.off_of_elem h.get (by show (53 : Nat) ≠ 5; decide)
theorem Post.trans (h : Post p H m1 H1) (k : Post p H1 m' H') : Post p H m' H' := by
  obtain ⟨v1, a1⟩ := h.at_
  exact ⟨k.at_, fun m0 v0 v a0 a => (h.fr m0 v0 v1 a0 a1).trans (k.fr _ v1 v a1 a)⟩
theorem At.mk_post (h : At p H m v) (k : At p H' m' v') (hk : Kp p v H v' H') : Post p H m' H' :=
  ⟨⟨v', k⟩, fun m0 v0 v2 a0 a => by rw [a0.same h, a.same k]; exact hk⟩
theorem At.post (h : At p H m v) : Post p H m H := h.mk_post h Kp.refl
/-- fields are written, the stack stays -/
theorem At.set (h : At p H m v) (hs : m'.stack = m.stack) (hd : m'.depth = m.depth) : At p (H.set p (mb m' v)) m' v := by
  refine ⟨get_set, h.lt, ?_, fun l hl => ?_, by rw [hs, hd]; exact h.len, by rw [hd]; exact h.depth⟩
  · rw [hs]
    exact h.row.keep (fun k hk hn => get_set_ne (fun e => hn (e ▸ h.off)))
  · rw [get_set_ne (fun e => by have := h.lt; have : H.n ≤ l := hl; omega)]; exact h.dom l hl
theorem At.setPost (h : At p H m v) (hs : m'.stack = m.stack) (hd : m'.depth = m.depth) : Post p H m' (H.set p (mb m' v)) := h.mk_post (h.set hs hd) (Kp.set (fun _ h => h))
theorem At.row_lt (h : At p H m v) {k : Nat} (hn : ¬ offRow v k) : k < H.n := by
  rcases h.row with ⟨rfl, _⟩ | ⟨k', c, rest, rfl, g1, g2, g3⟩
  · exact absurd off_nil hn
  · have : k = k' := by
      refine Classical.byContradiction (fun hne => hn (fun n c' hx => ?_))
      injection hx with hx
      injection hx with hx
      injection hx with hx
      omega
    subst this
    rcases Nat.lt_or_ge k H.n with h1 | h'
    · exact h1
    · rw [h.dom k h'] at g2; cases g2
theorem At.row_off (h : At p H m v) {k : Nat} {B : LB} (hk : H.get k = some B) (hne : B.elem ≠ 5) : offRow v k := h.row.off_of_elem hk hne
/-- a method that hands something back -/
theorem meth_exv {u : Value} {f : FuncId} {fn : Func} {c : Code} {args : List Value} (he : EJ f = none) (hf : Tryd.prog.funcs[f]? = some fn) (hb : fn.body = some c) (hN : args.length ≤ fn.ntmps) (hname : fn.name ≠ "runtime.NumGoroutine") (hcd : codeOk EJ.loud fn.ntmps c = true)
    (h : At p H m v) (hr : Runs Tryd.prog EJ fn [.code c] (enter args) H (fun r => r.1 = u ∧ Post p H m' r.2)) : ∃ H', LC Tryd.prog EJ f args H = some (u, H') ∧ Post p H m' H' := by
  obtain ⟨⟨u', H'⟩, hl, hu, hp⟩ := LC_runs he hf hb hN hname hcd hr
  simp only at hu
  subst hu
  rcases trunc_or u' H H' with e | ⟨e, _, hle⟩
  · exact ⟨H', by rw [hl, e], hp⟩
  · refine ⟨H, by rw [hl, e], ?_⟩
    obtain ⟨⟨v', ha⟩, _⟩ := hp
    have hg := ha.get
    rw [hle.2 p h.lt, h.get] at hg
    injection hg with hg
    have hv := mb_inj hg
    subst hv
    refine h.mk_post ⟨by rw [h.get, hg], h.lt, ?_, h.dom, ha.len, ha.depth⟩ Kp.refl
    exact ha.row.keep (fun k hk hn => (hle.2 k (h.row_lt hn)).symm)
theorem meth_ex {f : FuncId} {fn : Func} {c : Code} {args : List Value} (he : EJ f = none) (hf : Tryd.prog.funcs[f]? = some fn) (hb : fn.body = some c) (hN : args.length ≤ fn.ntmps) (hname : fn.name ≠ "runtime.NumGoroutine") (hcd : codeOk EJ.loud fn.ntmps c = true)
    (h : At p H m v) (hr : Runs Tryd.prog EJ fn [.code c] (enter args) H (fun r => r.1 = .tuple #[] ∧ Post p H m' r.2)) : ∃ H', LC Tryd.prog EJ f args H = some (.tuple #[], H') ∧ Post p H m' H' := meth_exv he hf hb hN hname hcd h hr
theorem At.keep (h : At p H m v) (hn : H.n ≤ H'.n) (hk : ∀ k, k < H.n → (k = p ∨ ¬ offRow v k) → H'.get k = H.get k) (hd : ∀ l, H'.n ≤ l → H'.get l = none) : At p H' m v := by
  refine ⟨by rw [hk p h.lt (.inl rfl)]; exact h.get, Nat.lt_of_lt_of_le h.lt hn, ?_, hd, h.len, h.depth⟩
  exact h.row.keep (fun k hk1 hn1 => hk k (h.row_lt hn1) (.inr hn1))
theorem At.new (h : At p H m v) {B : LB} : At p (H.new B) m v :=
  h.keep (Nat.le_succ _) (fun k hk _ => get_new_ne (by omega)) (fun l hl => by have hl' : H.n + 1 ≤ l := hl; rw [get_new_ne (by omega)]; exact h.dom l (by omega))
theorem At.newPost {B : LB} (h : At p H m v) (s1 : m1.stack = m.stack) (d1 : m1.depth = m.depth) (g1 : m'.stack = m.stack) (g2 : m'.depth = m.depth) : Post p H m' (((H.set p (mb m1 v)).new B).set p (mb m' v)) :=
  h.mk_post (((h.set s1 d1).new (B := B)).set (m' := m') (g1.trans s1.symm) (g2.trans d1.symm)) (((Kp.set (fun _ h => h)).trans Kp.new).trans (Kp.set (fun _ h => h)))
theorem At.newPost' {B : LB} (h : At p H m v) (g1 : m'.stack = m.stack) (g2 : m'.depth = m.depth) : Post p H m' ((H.new B).set p (mb m' v)) :=
  h.mk_post ((h.new (B := B)).set (m' := m') g1 g2) (Kp.new.trans (Kp.set (fun _ h => h)))
/-- one byte more on the stack -/
theorem At.pushed (h : At p H m v) (hc : (m.stack.length : Int) < (m.depth : Int)) : ∃ v' H', lapp Tryd.prog 38 v (some (1, [.int .u8 b.toNat])) (H.new ⟨[.int .u8 b.toNat], 5, true⟩) = some (v', H') ∧ cellB v' = true ∧ H'.get p = some (mb m v) ∧ p < H'.n ∧
    ∀ m'' : M, m''.stack = m.stack ++ [b] → m''.depth = m.depth → Post p H m'' (H'.set p (mb m'' v')) := by
  have h1 := h.new (B := ⟨[.int .u8 b.toNat], 5, true⟩)
  have hdep := h.depth
  obtain ⟨v', H', e1, e2, e3, e4, e5, e6, e7, e8⟩ := Row.push (P := Tryd.prog) (x := .int .u8 b.toNat) h1.row Tryd.underlying38 lesz5 (by simp) (by simp [maxElems]; omega) (Nat.zero_le _) h1.dom
  have hg' : H'.get p = some (mb m v) := by rw [e4 p h1.lt h1.off]; exact h1.get
  have hp' : p < H'.n := Nat.lt_of_lt_of_le h1.lt e3
  refine ⟨v', H', e1, e2.cell, hg', hp', fun m'' g1 g2 => ?_⟩
  have hoff : ∀ k, k < H.n + 1 → offRow v k → offRow v' k := fun k hk ho => e5 k hk ho
  have ha : At p (H'.set p (mb m'' v')) m'' v' := by
    refine ⟨get_set, hp', ?_, fun l hl => ?_, by rw [g1, g2]; simp; omega, by rw [g2]; exact h.depth⟩
    · have := e2.keep (H' := H'.set p (mb m'' v')) (fun k hk hn => get_set_ne (fun e => hn (e ▸ e5 p h1.lt h1.off)))
      rw [g1]
      simpa [bv] using this
    · rw [get_set_ne (fun e => by have : H'.n ≤ l := hl; omega)]; exact e6 l hl
  refine h.mk_post ha ⟨by have : H.n + 1 ≤ H'.n := e3; show H.n ≤ H'.n; omega, fun k hk hkp ho => ?_, fun k hk _ ho => hoff k (by omega) ho, e7, e8⟩
  rw [get_set_ne hkp, e4 k (by show k < H.n + 1; omega) ho, get_new_ne (by omega)]
/-- the last byte of the stack -/
theorem At.last (h : At p H m v) {xs : List UInt8} {t : UInt8} (hs : m.stack = xs ++ [t]) : IntKind.i64.wrap ((m.stack.length : Int) - 1) = xs.length ∧
    (∀ H', ∃ q, lixa Tryd.prog 38 v (.int .i64 xs.length) H' = some (q, H') ∧ lld Tryd.prog 5 q H = some (.int .u8 t.toNat)) ∧
    ∃ v', lpart Tryd.prog 38 v none (some (.int .i64 xs.length)) = some v' ∧ cellB v' = true ∧ ∀ m'' : M, m''.stack = xs → m''.depth = m.depth → ∀ m2 : M, Post p H m'' (H.set p (mb m'' v')) := by
  have hlen := h.len
  have hdep := h.depth
  have hx : (m.stack.map bv).length = xs.length + 1 := by simp [hs]
  have hl2 : m.stack.length = xs.length + 1 := by simp [hs]
  obtain ⟨v', e1, e2, e3⟩ := Row.take (P := Tryd.prog) (kd := .i64) (j := xs.length) h.row Tryd.underlying38 sz5 (by omega) (by omega)
  have hgd : (m.stack.map bv).getD (xs.length : Int).toNat Value.nilFunc = .int .u8 t.toNat := by simp [hs, bv]
  refine ⟨by rw [wrap64_in (by omega) (by omega)]; omega, fun H' => ?_, v', e1, e2.cell, fun m'' g1 g2 _ => ?_⟩
  · obtain ⟨q, f1, f2⟩ := Row.at (P := Tryd.prog) (H' := H') (kd := .i64) (j := xs.length) (d := .nilFunc) h.row Tryd.underlying38 sz5 agg5 (by omega) (by omega)
    rw [hgd] at f2
    exact ⟨q, f1, f2⟩
  · have htk : (m.stack.map bv).take (xs.length : Int).toNat = xs.map bv := by simp [hs]
    rw [htk] at e2
    refine h.mk_post (v' := v') ⟨get_set, h.lt, ?_, fun l hl => ?_, by rw [g1, g2]; omega, by rw [g2]; exact hdep⟩ (Kp.set e3)
    · rw [g1]
      exact e2.keep (fun k hk hn => get_set_ne (fun e => hn (e ▸ e3 p h.off)))
    · rw [get_set_ne (fun e => by have hh : H.n ≤ l := hl; have := h.lt; omega)]; exact h.dom l hl
end
end Go.Proofs.YtgnefbngkhjfcaaDoor
/-
  The machine of layer 28 (jscript): its stack.
-/
set_option linter.unusedSimpArgs false
set_option linter.unusedVariables false
namespace Go.Proofs.YtgnefbngkhjfcaaDoor
open Go.Lg Tg.Js

section
variable {p : Nat} {H H' H1 : LH} {m m' m1 : M} {v v' : Value} {b : UInt8}
theorem fail_ex (h : At p H m v) : Post p H m.fail (H.set p (mb m.fail v)) := h.setPost rfl rfl
theorem push_ex (h : At p H m v) : ∃ H', LC Tryd.prog EJ 85 [ptr p 0, .int .u8 b.toNat] H = some (.tuple #[], H') ∧ Post p H (m.push b) H' := by
  refine meth_ex rfl Tryd.func85 rfl (Nat.le_of_ble_eq_true rfl) (by decide) (by kernel_rfl) h ?_
  have hl := fun H' => h.row.len (H' := H') Tryd.underlying38
  have hg := h.get
  have hp := h.lt
  have hlen := h.len
  by_cases hc : (m.stack.length : Int) = m.depth
  · simp +contextual [hg, hl, fail_l hg h.lt, hc]
    unfold M.push
    rw [if_pos hc]
    exact h.setPost rfl rfl
  · obtain ⟨v', H', e1, hc', hg', hp', key⟩ := h.pushed (b := b) (by omega)
    simp +contextual [hg, hl, hc, e1, hg', hc', hp', ended_s]
    unfold M.push
    rw [if_neg hc]
    exact key _ rfl rfl
set_option maxHeartbeats 4000000 in
theorem pop_ex (h : At p H m v) : ∃ H', LC Tryd.prog EJ 99 [ptr p 0, .int .u8 b.toNat] H = some (.tuple #[], H') ∧ Post p H (m.pop b) H' := by
  refine meth_ex rfl Tryd.func99 rfl (Nat.le_of_ble_eq_true rfl) (by decide) (by kernel_rfl) h ?_
  have hl := fun H' => h.row.len (H' := H') Tryd.underlying38
  have hg := h.get
  have hp := h.lt
  have hlen := h.len
  have hdep := h.depth
  rcases List.eq_nil_or_concat m.stack with hs | ⟨xs, t, hs⟩
  · simp (config := { maxSteps := 4000000 }) +contextual [hg, hl, hs, fail_l hg h.lt]
    simpa [M.pop, hs] using fail_ex h
  · rw [List.concat_eq_append] at hs
    obtain ⟨hw0, hat, v', e1, hcv, key0⟩ := h.last hs
    have key := fun m'' g1 g2 => key0 m'' g1 g2 m
    obtain ⟨q, f1, f2⟩ := hat H
    have hw : IntKind.i64.wrap (xs.length : Int) = xs.length := w64_in (by omega) (by rw [hs] at hlen; simp at hlen; omega)
    have hf := fail_l hg h.lt
    have hpa := fun H => pair_l (H := H) (b := b)
    have hneg : ((xs.length : Int) < 0) = False := eq_false (by omega)
    have hen := fun m l => ended_s (H := H) (m := m) (v := v') (l := l) hp
    have hlast : m.stack.getLast? = some t := by simp [hs]
    have hdrop : m.stack.dropLast = xs := by simp [hs]
    by_cases hb : b = 125
    · have hb' : (b = 125) = True := eq_true hb
      by_cases ht : t = 96
      · have ht' : (t = 96) = True := eq_true ht
        simp (config := { maxSteps := 4000000 }) [hg, hl, hs, hw, e1, f1, f2, hf, hpa, hcv, hen, hp, hneg, hb', ht']
        have hpop : m.pop b = { m with stack := xs, at_ := 4, by_ := 96 } := by simp [M.pop, hlast, hdrop, hb, ht]
        rw [hpop]
        have hk := key ({ m with stack := xs, at_ := 4, by_ := 96 }) rfl rfl
        exact hk
      · have ht' : (t = 96) = False := eq_false ht
        by_cases hq : t = M.pair b
        · have hq' : (t = M.pair b) = True := eq_true hq
          by_cases hx0 : xs = []
          · have hx0' : (xs = []) = True := eq_true hx0
            simp (config := { maxSteps := 4000000 }) [hg, hl, hs, hw, e1, f1, f2, hf, hpa, hcv, hen, hp, hneg, hb', ht', hq', hx0']
            have hq2 : t = M.pair 125 := hb ▸ hq
            have hpop : m.pop b = { ({ m with stack := xs } : M).ended 2 with ends := w64 (m.ends + 1) } := by simp [M.pop, hlast, hdrop, hb, ht', hq2, hs, hx0, M.ended, M.pair]
            rw [hpop]
            have hk := key ({ ({ m with stack := xs } : M).ended 2 with ends := w64 (m.ends + 1) }) rfl rfl
            exact hk
          · simp (config := { maxSteps := 4000000 }) [hg, hl, hs, hw, e1, f1, f2, hf, hpa, hcv, hen, hp, hneg, hb', ht', hq', hx0]
            have hq2 : t = M.pair 125 := hb ▸ hq
            have hpop : m.pop b = ({ m with stack := xs } : M).ended 2 := by simp [M.pop, hlast, hdrop, hb, ht', hq2, hs, hx0, M.ended, M.pair]
            rw [hpop]
            have hk := key (({ m with stack := xs } : M).ended 2) rfl rfl
            exact hk
        · have hq' : (t = M.pair b) = False := eq_false hq
          simp (config := { maxSteps := 4000000 }) [hg, hl, hs, hw, e1, f1, f2, hf, hpa, hcv, hen, hp, hneg, hb', ht', hq']
          have hpop : m.pop b = m.fail := by
            unfold M.pop; rw [hlast]
            simp [ht', hq']
          rw [hpop]
          exact fail_ex h
    · have hb' : (b = 125) = False := eq_false hb
      by_cases hq : t = M.pair b
      · have hq' : (t = M.pair b) = True := eq_true hq
        simp (config := { maxSteps := 4000000 }) [hg, hl, hs, hw, e1, f1, f2, hf, hpa, hcv, hen, hp, hneg, hb', hq']
        have hpop : m.pop b = ({ m with stack := xs } : M).ended 1 := by
          unfold M.pop; rw [hlast]
          simp [hb', hq', hdrop]
        rw [hpop]
        have hk := key (({ m with stack := xs } : M).ended 1) rfl rfl
        exact hk
      · have hq' : (t = M.pair b) = False := eq_false hq
        simp (config := { maxSteps := 4000000 }) [hg, hl, hs, hw, e1, f1, f2, hf, hpa, hcv, hen, hp, hneg, hb', hq']
        have hpop : m.pop b = m.fail := by
          unfold M.pop; rw [hlast]
          simp [hb', hq']
        rw [hpop]
        exact fail_ex h
end
end Go.Proofs.YtgnefbngkhjfcaaDoor
/-
  The machine of layer 28 (jscript): its words.
-/
set_option linter.unusedSimpArgs false
set_option linter.unusedVariables false
set_option maxRecDepth 100000
namespace Go.Proofs.YtgnefbngkhjfcaaDoor
open Go.Lg Tg.Js

section
variable {H : LH} {b : UInt8} {l n : Nat} {B : LB} {xs : List (List UInt8)} {s : List UInt8}
theorem trunc_not {v : Value} {H' : LH} (h : flatB v = false) : trunc H (v, H') = (v, H') := by
  unfold trunc; rw [if_neg (by simp [h])]
theorem kw_lit : kwText = [97, 119, 97, 105, 116, 32, 98, 114, 101, 97, 107, 32, 99, 97, 115, 101, 32, 99, 97, 116, 99, 104, 32, 99, 108, 97, 115, 115, 32, 99, 111, 110, 115, 116, 32, 99, 111, 110, 116, 105, 110, 117, 101, 32, 100, 101, 102, 97, 117, 108, 116, 32, 100, 101, 108, 101, 116, 101, 32, 100, 111, 32, 101, 108, 115, 101, 32, 101, 120, 112, 111, 114, 116, 32, 101, 120, 116, 101, 110, 100, 115, 32, 102, 105, 110, 97, 108, 108, 121, 32, 102, 111, 114, 32, 102, 114, 111, 109, 32, 102, 117, 110, 99, 116, 105, 111, 110, 32, 103, 101, 116, 32, 105, 102, 32, 105, 109, 112, 111, 114, 116, 32, 105, 110, 32, 105, 110, 115, 116, 97, 110, 99, 101, 111, 102, 32, 108, 101, 116, 32, 110, 101, 119, 32, 111, 102, 32, 114, 101, 116, 117, 114, 110, 32, 115, 101, 116, 32, 115, 116, 97, 116, 105, 99, 32, 115, 119, 105, 116, 99, 104, 32, 116, 104, 114, 111, 119, 32, 116, 114, 121, 32, 116, 121, 112, 101, 111, 102, 32, 118, 97, 114, 32, 118, 111, 105, 100, 32, 119, 104, 105, 108, 101, 32, 119, 105, 116, 104, 32, 121, 105, 101, 108, 100, 32, 97, 115, 121, 110, 99, 32, 97, 115] := by decide +kernel
theorem fields_k (ht : Tab H) : LC Tryd.prog EJ 74 [str [97, 119, 97, 105, 116, 32, 98, 114, 101, 97, 107, 32, 99, 97, 115, 101, 32, 99, 97, 116, 99, 104, 32, 99, 108, 97, 115, 115, 32, 99, 111, 110, 115, 116, 32, 99, 111, 110, 116, 105, 110, 117, 101, 32, 100, 101, 102, 97, 117, 108, 116, 32, 100, 101, 108, 101, 116, 101, 32, 100, 111, 32, 101, 108, 115, 101, 32, 101, 120, 112, 111, 114, 116, 32, 101, 120, 116, 101, 110, 100, 115, 32, 102, 105, 110, 97, 108, 108, 121, 32, 102, 111, 114, 32, 102, 114, 111, 109, 32, 102, 117, 110, 99, 116, 105, 111, 110, 32, 103, 101, 116, 32, 105, 102, 32, 105, 109, 112, 111, 114, 116, 32, 105, 110, 32, 105, 110, 115, 116, 97, 110, 99, 101, 111, 102, 32, 108, 101, 116, 32, 110, 101, 119, 32, 111, 102, 32, 114, 101, 116, 117, 114, 110, 32, 115, 101, 116, 32, 115, 116, 97, 116, 105, 99, 32, 115, 119, 105, 116, 99, 104, 32, 116, 104, 114, 111, 119, 32, 116, 114, 121, 32, 116, 121, 112, 101, 111, 102, 32, 118, 97, 114, 32, 118, 111, 105, 100, 32, 119, 104, 105, 108, 101, 32, 119, 105, 116, 104, 32, 121, 105, 101, 108, 100, 32, 97, 115, 121, 110, 99, 32, 97, 115]] H = some (sl H.n 39 39, H.new ⟨keywords.map str, 9, true⟩) := by
  rw [← kw_lit]; exact fields_l ht
theorem keywords_l (ht : Tab H) : LC Tryd.prog EJ 51 [] H = some (sl H.n 39 39, H.new ⟨keywords.map str, 9, true⟩) := by
  obtain ⟨r, h, e⟩ := LC_runs (Q := fun r => r = (sl H.n 39 39, H.new ⟨keywords.map str, 9, true⟩)) (P := Tryd.prog) (E := EJ) (H := H) (args := []) rfl Tryd.func51 rfl (Nat.le_of_ble_eq_true rfl) (by decide) (by kernel_rfl) (by simp [fields_k ht])
  rw [h, e, trunc_not (by simp [flatB, flat1B, atomB])]
/-- where a text stands first among others, from a place on -/
def find (s : List UInt8) : List (List UInt8) → Int → Int
  | [], _ => -1
  | x :: xs, k => if s = x then k else find s xs (k + 1)
theorem index_l (h : H.get l = some B) (hb : B.cells = xs.map str) (hn : xs.length ≤ 1048576) : LC Tryd.prog EJ 73 [sl l xs.length n, str s] H = some (.int .i64 (find s xs 0), H) := by
  refine LC_pure rfl Tryd.func73 rfl (Nat.le_of_ble_eq_true rfl) (by decide) (by kernel_rfl) rfl ?_
  simp +contextual
  refine loop_ind (fun (i : Nat) fr' H' => fr' 0 = sl l xs.length n ∧ fr' 1 = str s ∧ fr' 7 = .int .i64 xs.length ∧ fr' 8 = .int .i64 i ∧ i ≤ xs.length ∧ find s (xs.drop i) i = find s xs 0 ∧ H' = H) (fun i => xs.length - i) 0 (by simp) ?_
  rintro i fr' H' ⟨h0, h1, h7, h8, hi, hh, rfl⟩ ih
  by_cases hlt : i < xs.length
  · obtain ⟨x, hx⟩ : ∃ x, xs[i]? = some x := ⟨_, List.getElem?_eq_getElem hlt⟩
    have hd : xs.drop i = x :: xs.drop (i + 1) := by
      rw [List.drop_eq_getElem_cons hlt]
      rw [List.getElem?_eq_getElem hlt] at hx
      injection hx with hx
      rw [hx]
    have hc : B.cells[i]? = some (str x) := by rw [hb]; simp [hx]
    have hw : IntKind.i64.wrap ((i : Int) + 1) = ((i + 1 : Nat) : Int) := by rw [wrap64_in (by omega) (by omega)]; omega
    rw [hd, find] at hh
    by_cases hs : s = x
    · have hs' : (s = x) = True := eq_true hs
      rw [if_pos hs] at hh
      simp [h0, h1, h7, h8, hlt, h, hc, hs', ← hh]
    · have hs' : (s = x) = False := eq_false hs
      rw [if_neg hs] at hh
      simp [h0, h1, h7, h8, hlt, h, hc, hs', hw]
      exact ih (i + 1) _ _ (by omega) ⟨by simp [h0], by simp [h1], by simp [h7], by simp, hlt, by simpa using hh, rfl⟩
  · have hd : xs.drop i = [] := List.drop_eq_nil_of_le (by omega)
    rw [hd, find] at hh
    simp [h0, h1, h7, h8, hlt, ← hh]
theorem find_mem : ∀ (xs : List (List UInt8)) (k : Int), 0 ≤ k → (0 ≤ find s xs k ↔ s ∈ xs)
  | [], k, h => by simp [find]
  | x :: xs, k, h => by
    unfold find
    by_cases hs : s = x
    · simp [hs, h]
    · rw [if_neg hs, find_mem xs (k + 1) (by omega)]; simp [hs]
theorem contains_l (h : H.get l = some B) (hb : B.cells = xs.map str) (hn : xs.length ≤ 1048576) : LC Tryd.prog EJ 50 [sl l xs.length n, str s] H = some (.bool (xs.contains s), H) := by
  refine LC_pure rfl Tryd.func50 rfl (Nat.le_of_ble_eq_true rfl) (by decide) (by kernel_rfl) rfl ?_
  have hi := index_l (s := s) (n := n) h hb hn
  have := find_mem (s := s) xs 0 (by decide)
  simp [hi, this]
theorem kw_len : keywords.length = 39 := by decide +kernel
theorem isKeyword_l (ht : Tab H) : LC Tryd.prog EJ 38 [str s] H = some (.bool (isKeyword s), H) := by
  refine LC_pure rfl Tryd.func38 rfl (Nat.le_of_ble_eq_true rfl) (by decide) (by kernel_rfl) rfl ?_
  have hk := keywords_l ht
  have hc := contains_l (H := H.new ⟨keywords.map str, 9, true⟩) (l := H.n) (n := 39) (s := s) (xs := keywords) get_new rfl (by rw [kw_len]; decide)
  rw [kw_len] at hc
  simp [hk, hc, isKeyword, le_refl.new]
end
end Go.Proofs.YtgnefbngkhjfcaaDoor
/-
  The machine of layer 28 (jscript): a byte.
-/
set_option linter.unusedSimpArgs false
set_option linter.unusedVariables false
set_option maxRecDepth 100000
namespace Go.Proofs.YtgnefbngkhjfcaaDoor
open Go.Lg Tg.Js

section
variable {p : Nat} {H H' H1 : LH} {m m' m1 : M} {v v' : Value} {b : UInt8}
theorem signs_lit : signs = [123, 125, 40, 41, 91, 93, 59, 44, 60, 62, 61, 33, 43, 45, 42, 47, 37, 38, 124, 94, 126, 63, 58, 46] := by decide +kernel
theorem signs_l : LC Tryd.prog EJ 82 [str [123, 125, 40, 41, 91, 93, 59, 44, 60, 62, 61, 33, 43, 45, 42, 47, 37, 38, 124, 94, 126, 63, 58, 46], .int .u8 b.toNat] H = some (.int .i64 (Lib.indexByte signs b), H) := by
  rw [← signs_lit]; exact indexByte_l
set_option maxHeartbeats 4000000 in
theorem sign_ex (h : At p H m v) : ∃ H', LC Tryd.prog EJ 83 [ptr p 0, .int .u8 b.toNat] H = some (.tuple #[], H') ∧ Post p H (m.sign b) H' := by
  refine meth_ex rfl Tryd.func83 rfl (Nat.le_of_ble_eq_true rfl) (by decide) (by kernel_rfl) h ?_
  have hg := h.get
  have hp := h.lt
  have h1 := h.set (m' := m.piece) rfl rfl
  have hq := h.setPost (m' := m.piece) rfl rfl
  obtain ⟨Hu, eu, pu⟩ := push_ex (b := b) h1
  obtain ⟨Ho, eo, po⟩ := pop_ex (b := b) h1
  have pu' := hq.trans pu
  have po' := hq.trans po
  have hpc := piece_l hg hp
  have hl := fun H' => h.row.len (H' := H') Tryd.underlying38
  have hen := fun m l => ended_s (H := H) (m := m) (v := v) (l := l) hp
  by_cases c1 : b = 40 ∨ b = 91 ∨ b = 123
  · have e : m.sign b = m.piece.push b := by unfold M.sign; rw [if_pos c1]
    rw [e]
    rcases c1 with c | c | c
    · have f40 : (b = 40) = True := eq_true c
      have f91 : (b = 91) = False := eq_false (by rw [c]; decide)
      have f123 : (b = 123) = False := eq_false (by rw [c]; decide)
      have f41 : (b = 41) = False := eq_false (by rw [c]; decide)
      have f93 : (b = 93) = False := eq_false (by rw [c]; decide)
      have f125 : (b = 125) = False := eq_false (by rw [c]; decide)
      have f59 : (b = 59) = False := eq_false (by rw [c]; decide)
      simp (config := { maxSteps := 4000000 }) [hpc, eu, f40, f91, f123, f41, f93, f125, f59, pu']
    · have f40 : (b = 40) = False := eq_false (by rw [c]; decide)
      have f91 : (b = 91) = True := eq_true c
      have f123 : (b = 123) = False := eq_false (by rw [c]; decide)
      have f41 : (b = 41) = False := eq_false (by rw [c]; decide)
      have f93 : (b = 93) = False := eq_false (by rw [c]; decide)
      have f125 : (b = 125) = False := eq_false (by rw [c]; decide)
      have f59 : (b = 59) = False := eq_false (by rw [c]; decide)
      simp (config := { maxSteps := 4000000 }) [hpc, eu, f40, f91, f123, f41, f93, f125, f59, pu']
    · have f40 : (b = 40) = False := eq_false (by rw [c]; decide)
      have f91 : (b = 91) = False := eq_false (by rw [c]; decide)
      have f123 : (b = 123) = True := eq_true c
      have f41 : (b = 41) = False := eq_false (by rw [c]; decide)
      have f93 : (b = 93) = False := eq_false (by rw [c]; decide)
      have f125 : (b = 125) = False := eq_false (by rw [c]; decide)
      have f59 : (b = 59) = False := eq_false (by rw [c]; decide)
      simp (config := { maxSteps := 4000000 }) [hpc, eu, f40, f91, f123, f41, f93, f125, f59, pu']
  · have f40 : (b = 40) = False := eq_false (fun c => c1 (.inl c))
    have f91 : (b = 91) = False := eq_false (fun c => c1 (.inr (.inl c)))
    have f123 : (b = 123) = False := eq_false (fun c => c1 (.inr (.inr c)))
    by_cases c2 : b = 41 ∨ b = 93 ∨ b = 125
    · have e : m.sign b = m.piece.pop b := by unfold M.sign; rw [if_neg c1, if_pos c2]
      rw [e]
      rcases c2 with c | c | c
      · have f40 : (b = 40) = False := eq_false (by rw [c]; decide)
        have f91 : (b = 91) = False := eq_false (by rw [c]; decide)
        have f123 : (b = 123) = False := eq_false (by rw [c]; decide)
        have f41 : (b = 41) = True := eq_true c
        have f93 : (b = 93) = False := eq_false (by rw [c]; decide)
        have f125 : (b = 125) = False := eq_false (by rw [c]; decide)
        have f59 : (b = 59) = False := eq_false (by rw [c]; decide)
        simp (config := { maxSteps := 4000000 }) [hpc, eo, f40, f91, f123, f41, f93, f125, f59, po']
      · have f40 : (b = 40) = False := eq_false (by rw [c]; decide)
        have f91 : (b = 91) = False := eq_false (by rw [c]; decide)
        have f123 : (b = 123) = False := eq_false (by rw [c]; decide)
        have f41 : (b = 41) = False := eq_false (by rw [c]; decide)
        have f93 : (b = 93) = True := eq_true c
        have f125 : (b = 125) = False := eq_false (by rw [c]; decide)
        have f59 : (b = 59) = False := eq_false (by rw [c]; decide)
        simp (config := { maxSteps := 4000000 }) [hpc, eo, f40, f91, f123, f41, f93, f125, f59, po']
      · have f40 : (b = 40) = False := eq_false (by rw [c]; decide)
        have f91 : (b = 91) = False := eq_false (by rw [c]; decide)
        have f123 : (b = 123) = False := eq_false (by rw [c]; decide)
        have f41 : (b = 41) = False := eq_false (by rw [c]; decide)
        have f93 : (b = 93) = False := eq_false (by rw [c]; decide)
        have f125 : (b = 125) = True := eq_true c
        have f59 : (b = 59) = False := eq_false (by rw [c]; decide)
        simp (config := { maxSteps := 4000000 }) [hpc, eo, f40, f91, f123, f41, f93, f125, f59, po']
    · have f41 : (b = 41) = False := eq_false (fun c => c2 (.inl c))
      have f93 : (b = 93) = False := eq_false (fun c => c2 (.inr (.inl c)))
      have f125 : (b = 125) = False := eq_false (fun c => c2 (.inr (.inr c)))
      have en := fun m'' g1 g2 => h.setPost (m' := m'') g1 g2
      by_cases c3 : b = 59
      · have f59 := eq_true c3
        by_cases c4 : m.stack = []
        · have e8 : (m.stack = []) = True := eq_true c4
          simp (config := { maxSteps := 4000000 }) [hpc, hl, hen, hp, f40, f91, f123, f41, f93, f125, f59, e8]
          have e : m.sign b = { m.piece.ended 0 with ends := w64 (m.ends + 1) } := by
            unfold M.sign; rw [if_neg c1, if_neg c2, if_pos c3]
            simp [M.ended, M.piece, c4]
          rw [e]
          have hk := en { m.piece.ended 0 with ends := w64 (m.ends + 1) } rfl rfl
          exact hk
        · have e8 : (m.stack = []) = False := eq_false c4
          simp (config := { maxSteps := 4000000 }) [hpc, hl, hen, hp, f40, f91, f123, f41, f93, f125, f59, e8]
          have e : m.sign b = m.piece.ended 0 := by
            unfold M.sign; rw [if_neg c1, if_neg c2, if_pos c3]
            simp [M.ended, M.piece, c4]
          rw [e]
          exact en (m.piece.ended 0) rfl rfl
      · have f59 := eq_false c3
        simp (config := { maxSteps := 4000000 }) [hpc, hl, hen, hp, f40, f91, f123, f41, f93, f125, f59]
        have e : m.sign b = m.piece.ended 0 := by
          unfold M.sign; rw [if_neg c1, if_neg c2, if_neg c3]
        rw [e]
        exact en (m.piece.ended 0) rfl rfl
theorem conv_b {H0 : LH} : lconv Tryd.prog 38 9 (sl H0.n 1 1) (H0.new ⟨[.int .u8 b.toNat], 5, true⟩) = some (str [b]) :=
  lconv_bs (e := 5) Tryd.underlying38 Tryd.underlying9 Tryd.underlying5 get_new (by simp) (by simp)
theorem idx_mem : ∀ (l : List UInt8) (c : UInt8), 0 ≤ Lib.indexByte l c ↔ c ∈ l
  | [], c => by simp [Lib.indexByte]
  | x :: l, c => by
    have ih := idx_mem l c
    have hge := Lib.indexByte_ge l c
    unfold Lib.indexByte
    by_cases hx : x = c
    · simp [hx]
    · have hx1 : (x == c) = false := by simp [hx]
      have hx2 : ¬ c = x := fun e => hx e.symm
      rw [hx1]
      simp only [Bool.false_eq_true, if_false, List.mem_cons, hx2, false_or]
      by_cases h1 : Lib.indexByte l c = -1
      · simp [h1] at ih ⊢; exact ih
      · have : (Lib.indexByte l c == -1) = false := by simp [h1]
        rw [this]
        simp only [Bool.false_eq_true, if_false]
        rw [← ih]; omega
set_option maxHeartbeats 4000000 in
theorem begin_ex (h : At p H m v) : ∃ H', LC Tryd.prog EJ 52 [ptr p 0, .int .u8 b.toNat] H = some (.tuple #[], H') ∧ Post p H (m.begin b) H' := by
  refine meth_ex rfl Tryd.func52 rfl (Nat.le_of_ble_eq_true rfl) (by decide) (by kernel_rfl) h ?_
  have hg := h.get
  have hp := h.lt
  have hne : (p = H.n) = False := eq_false (by omega)
  have hpc := piece_l hg hp
  have hfl := fail_l hg hp
  have hjo := joined_l hg
  have en := fun m'' g1 g2 => h.setPost (m' := m'') g1 g2
  obtain ⟨Hs, es, ps⟩ := sign_ex (b := b) h
  have hf := fun H => feed_l (H := H) (b := b)
  have hw := fun H => white_l (H := H) (b := b)
  have hi := fun H => inner_l (H := H) (b := b)
  have hd := fun H => digit_l (H := H) (b := b)
  have hcb : ∀ B, lconv Tryd.prog 38 9 (sl H.n 1 1) ((H.set p B).new ⟨[.int .u8 b.toNat], 5, true⟩) = some (str [b]) := fun B => conv_b (H0 := H.set p B)
  have hgn : ∀ A B, ((H.set p A).new B).get p = some A := fun A B => by rw [get_new_ne (by show p ≠ H.n; omega), get_set]
  by_cases c1 : feedB b = true
  · simp (config := { maxSteps := 4000000 }) [hf, c1, hg, hp]
    have e : m.begin b = { m with broken := true } := by unfold M.begin; rw [if_pos c1]
    rw [e]; exact en { m with broken := true } rfl rfl
  rw [Bool.not_eq_true] at c1
  by_cases c2 : white b = true
  · simp (config := { maxSteps := 4000000 }) [hf, hw, c1, c2, hg, hp]
    have e : m.begin b = m := by unfold M.begin; simp [c1, c2]
    rw [e]; exact h.post
  rw [Bool.not_eq_true] at c2
  by_cases c3 : inner b = true
  · by_cases c4 : m.joined = true
    · simp (config := { maxSteps := 4000000 }) [hf, hw, hi, hjo, hfl, c1, c2, c3, c4, hg, hp]
      have e : m.begin b = m.fail := by unfold M.begin; simp [c1, c2, c3, c4]
      rw [e]; exact en m.fail rfl rfl
    · rw [Bool.not_eq_true] at c4
      by_cases c5 : digit b = true
      · simp (config := { maxSteps := 4000000 }) [hf, hw, hi, hd, hjo, hpc, hcb, c1, c2, c3, c4, c5, hg, hp, hgn]
        have e : m.begin b = { m.piece with at_ := 2, said := [b] } := by unfold M.begin; simp [c1, c2, c3, c4, c5]
        rw [e]; exact h.newPost (m1 := m.piece) (m' := { m.piece with at_ := 2, said := [b] }) rfl rfl rfl rfl
      · rw [Bool.not_eq_true] at c5
        simp (config := { maxSteps := 4000000 }) [hf, hw, hi, hd, hjo, hpc, hcb, c1, c2, c3, c4, c5, hg, hp, hgn]
        have e : m.begin b = { m.piece with at_ := 1, said := [b] } := by unfold M.begin; simp [c1, c2, c3, c4, c5]
        rw [e]; exact h.newPost (m1 := m.piece) (m' := { m.piece with at_ := 1, said := [b] }) rfl rfl rfl rfl
  rw [Bool.not_eq_true] at c3
  by_cases c34 : b = 34 ∨ b = 39
  · have e : m.begin b = if m.joined then m.fail else { m.piece with at_ := 3, by_ := b } := by unfold M.begin; simp [c1, c2, c3, c34]
    rw [e]
    by_cases c4 : m.joined = true
    · rw [if_pos c4]
      rcases c34 with c | c
      · have f34 : (b = 34) = True := eq_true c
        simp (config := { maxSteps := 4000000 }) [hf, hw, hi, hjo, hfl, hpc, c1, c2, c3, hg, hp, c4, f34]
        exact en m.fail rfl rfl
      · have f34 : (b = 34) = False := eq_false (by rw [c]; decide)
        have f39 : (b = 39) = True := eq_true c
        simp (config := { maxSteps := 4000000 }) [hf, hw, hi, hjo, hfl, hpc, c1, c2, c3, hg, hp, c4, f34, f39]
        exact en m.fail rfl rfl
    · rw [if_neg c4]
      rw [Bool.not_eq_true] at c4
      rcases c34 with c | c
      · have f34 : (b = 34) = True := eq_true c
        simp (config := { maxSteps := 4000000 }) [hf, hw, hi, hjo, hfl, hpc, c1, c2, c3, hg, hp, c4, f34]
        exact en { m.piece with at_ := 3, by_ := b } rfl rfl
      · have f34 : (b = 34) = False := eq_false (by rw [c]; decide)
        have f39 : (b = 39) = True := eq_true c
        simp (config := { maxSteps := 4000000 }) [hf, hw, hi, hjo, hfl, hpc, c1, c2, c3, hg, hp, c4, f34, f39]
        exact en { m.piece with at_ := 3, by_ := b } rfl rfl
  have f34 : (b = 34) = False := eq_false (fun c => c34 (.inl c))
  have f39 : (b = 39) = False := eq_false (fun c => c34 (.inr c))
  by_cases c96 : b = 96
  · have f96 := eq_true c96
    simp (config := { maxSteps := 4000000 }) [hf, hw, hi, hjo, hfl, hpc, c1, c2, c3, hg, hp, f34, f39, f96]
    have e : m.begin b = { m.piece with at_ := 4, by_ := b } := by unfold M.begin; simp [c1, c2, c3, f34, f39, f96]
    rw [e]
    exact en { m.piece with at_ := 4, by_ := b } rfl rfl
  have f96 := eq_false c96
  by_cases c47 : b = 47
  · have f47 := eq_true c47
    simp (config := { maxSteps := 4000000 }) [hf, hw, hi, hjo, hfl, hpc, c1, c2, c3, hg, hp, f34, f39, f96, f47]
    have e : m.begin b = { m with at_ := 9 } := by unfold M.begin; simp [c1, c2, c3, f34, f39, f96, f47]
    rw [e]
    exact en { m with at_ := 9 } rfl rfl
  have f47 := eq_false c47
  have hss := fun H => signs_l (H := H) (b := b)
  have hbody : m.begin b = if b = 60 ∧ m.pieces = 0 then { m with at_ := 13 } else if signs.contains b then m.sign b else m.fail := by
    unfold M.begin; simp [c1, c2, c3, f34, f39, f96, f47]
  rw [hbody]
  have hmem := idx_mem signs b
  by_cases c60 : b = 60
  · have f60 := eq_true c60
    by_cases c0 : m.pieces = 0
    · simp (config := { maxSteps := 4000000 }) [hf, hw, hi, hfl, c1, c2, c3, hg, hp, f34, f39, f96, f47, f60, c0]
      have hk := en { m with at_ := 13 } rfl rfl
      simpa [c0] using hk
    · by_cases cs : 0 ≤ Lib.indexByte signs b
      · have cs' := eq_true cs
        simp (config := { maxSteps := 4000000 }) [hf, hw, hi, hfl, c1, c2, c3, hg, hp, f34, f39, f96, f47, f60, c0, hss, cs', es]
        exact (by rw [if_pos (hmem.1 cs)]; exact ps)
      · have cs' := eq_false cs
        simp (config := { maxSteps := 4000000 }) [hf, hw, hi, hfl, c1, c2, c3, hg, hp, f34, f39, f96, f47, f60, c0, hss, cs']
        exact (by rw [if_neg (fun hh => cs (hmem.2 hh))]; exact en m.fail rfl rfl)
  · have f60 := eq_false c60
    by_cases cs : 0 ≤ Lib.indexByte signs b
    · have cs' := eq_true cs
      simp (config := { maxSteps := 4000000 }) [hf, hw, hi, hfl, c1, c2, c3, hg, hp, f34, f39, f96, f47, f60, hss, cs', es]
      exact (by rw [if_pos (hmem.1 cs)]; exact ps)
    · have cs' := eq_false cs
      simp (config := { maxSteps := 4000000 }) [hf, hw, hi, hfl, c1, c2, c3, hg, hp, f34, f39, f96, f47, f60, hss, cs']
      exact (by rw [if_neg (fun hh => cs (hmem.2 hh))]; exact en m.fail rfl rfl)
end
end Go.Proofs.YtgnefbngkhjfcaaDoor
/-
  The machine of layer 28 (jscript): a byte, second part.
-/
set_option linter.unusedSimpArgs false
set_option linter.unusedVariables false
set_option maxRecDepth 100000
namespace Go.Proofs.YtgnefbngkhjfcaaDoor
open Go.Lg Tg.Js

section
variable {p : Nat} {H H' H1 : LH} {m m' m1 : M} {v v' : Value} {b : UInt8}
theorem inDollar_ex (h : At p H m v) : ∃ H', LC Tryd.prog EJ 54 [ptr p 0, .int .u8 b.toNat] H = some (.tuple #[], H') ∧ Post p H (m.inDollar b) H' := by
  refine meth_ex rfl Tryd.func54 rfl (Nat.le_of_ble_eq_true rfl) (by decide) (by kernel_rfl) h ?_
  have hg := h.get
  have hp := h.lt
  have h1 := h.set (m' := { m with at_ := 4 }) rfl rfl
  have hq := h.setPost (m' := { m with at_ := 4 }) rfl rfl
  obtain ⟨Hu, eu, pu⟩ := push_ex (b := 96) h1
  have pu' := hq.trans pu
  have eu' : LC Tryd.prog EJ 85 [ptr p 0, .int .u8 96] (H.set p (mb { m with at_ := 4 } v)) = some (.tuple #[], Hu) := eu
  have hit := inText_s (H := H) (m := { m with at_ := 4 }) (v := v) (b := b) hp
  have en := fun m'' g1 g2 => h.setPost (m' := m'') g1 g2
  by_cases c : b = 123
  · have c' := eq_true c
    simp (config := { maxSteps := 4000000 }) [hg, hp, c', eu']
    have e : m.inDollar b = ({ m with at_ := 4 } : M).push 96 := by unfold M.inDollar; simp [c]
    rw [e]; exact pu'
  · have c' := eq_false c
    simp (config := { maxSteps := 4000000 }) [hg, hp, c', hit]
    have e : m.inDollar b = ({ m with at_ := 4 } : M).inText b := by unfold M.inDollar; simp [c]
    rw [e]
    refine en _ ?_ ?_
    · unfold M.inText; repeat' split
      all_goals rfl
    · unfold M.inText; repeat' split
      all_goals rfl
theorem inText_stack (m : M) (b : UInt8) : (m.inText b).stack = m.stack ∧ (m.inText b).depth = m.depth := by
  unfold M.inText; repeat' split
  all_goals exact ⟨rfl, rfl⟩
theorem inSlash_ex (h : At p H m v) : ∃ H', LC Tryd.prog EJ 55 [ptr p 0, .int .u8 b.toNat] H = some (.tuple #[], H') ∧ Post p H (m.inSlash b) H' := by
  refine meth_ex rfl Tryd.func55 rfl (Nat.le_of_ble_eq_true rfl) (by decide) (by kernel_rfl) h ?_
  have hg := h.get
  have hp := h.lt
  have en := fun m'' g1 g2 => h.setPost (m' := m'') g1 g2
  by_cases c1 : b = 47
  · have f1 := eq_true c1
    simp (config := { maxSteps := 4000000 }) [hg, hp, f1]
    have e : m.inSlash b = { m with at_ := 10 } := by unfold M.inSlash; simp [c1]
    rw [e]; exact en { m with at_ := 10 } rfl rfl
  have f1 := eq_false c1
  by_cases c2 : b = 42
  · have f2 := eq_true c2
    simp (config := { maxSteps := 4000000 }) [hg, hp, f1, f2]
    have e : m.inSlash b = { m with at_ := 11 } := by unfold M.inSlash; simp [c2]
    rw [e]; exact en { m with at_ := 11 } rfl rfl
  have f2 := eq_false c2
  by_cases c3 : m.last = 1 ∨ m.last = 2
  · obtain ⟨Hs, es, ps⟩ := sign_ex (b := 47) h
    have es' : LC Tryd.prog EJ 83 [ptr p 0, .int .u8 47] H = some (.tuple #[], Hs) := es
    obtain ⟨v2, h2⟩ := ps.at_
    obtain ⟨Hb, eb, pb⟩ := begin_ex (b := b) h2
    have e : m.inSlash b = (m.sign 47).begin b := by unfold M.inSlash; rw [if_neg c1, if_neg c2, if_pos c3]
    rw [e]
    have pp := ps.trans pb
    by_cases c4 : m.last = 1
    · have f4 := eq_true c4
      simp (config := { maxSteps := 4000000 }) [hg, hp, f1, f2, f4, es', eb]
      exact pp
    · have f4 := eq_false c4
      have f5 : (m.last = 2) = True := eq_true (c3.resolve_left c4)
      simp (config := { maxSteps := 4000000 }) [hg, hp, f1, f2, f4, f5, es', eb]
      exact pp
  · have f4 : (m.last = 1) = False := eq_false (fun c => c3 (.inl c))
    have f5 : (m.last = 2) = False := eq_false (fun c => c3 (.inr c))
    have hpc := piece_l hg hp
    have hit := inText_s (H := H) (m := { m.piece with at_ := 6, by_ := 47 }) (v := v) (b := b) hp
    simp (config := { maxSteps := 4000000 }) [hg, hp, f1, f2, f4, f5, hpc, hit]
    have e : m.inSlash b = ({ m.piece with at_ := 6, by_ := 47 } : M).inText b := by unfold M.inSlash; rw [if_neg c1, if_neg c2, if_neg c3]
    rw [e]
    exact en _ (inText_stack _ _).1 (inText_stack _ _).2
end
end Go.Proofs.YtgnefbngkhjfcaaDoor
/-
  The machine of layer 28 (jscript): a byte within a word.
-/
set_option linter.unusedSimpArgs false
set_option linter.unusedVariables false
set_option maxRecDepth 100000
namespace Go.Proofs.YtgnefbngkhjfcaaDoor
open Go.Lg Tg.Js

section
variable {p : Nat} {H H' H1 : LH} {m m' m1 : M} {v v' : Value} {b : UInt8}
theorem inWord_ex (h : At p H m v) (ht : Tab H) : ∃ H', LC Tryd.prog EJ 53 [ptr p 0, .int .u8 b.toNat] H = some (.tuple #[], H') ∧ Post p H (m.inWord b) H' := by
  refine meth_ex rfl Tryd.func53 rfl (Nat.le_of_ble_eq_true rfl) (by decide) (by kernel_rfl) h ?_
  have hg := h.get
  have hp := h.lt
  have hi := fun H => inner_l (H := H) (b := b)
  have hkw := fun s => isKeyword_l (s := s) ht
  have hcb : lconv Tryd.prog 38 9 (sl H.n 1 1) (H.new ⟨[.int .u8 b.toNat], 5, true⟩) = some (str [b]) := conv_b (H0 := H)
  have hgn : ∀ B, (H.new B).get p = some (mb m v) := fun B => by rw [get_new_ne (by omega)]; exact hg
  have grow : ∀ (hc : inner b = true ∨ m.at_ = 2 ∧ b = 46), m.inWord b = if (m.said.length : Int) ≤ 10 then { m with said := m.said ++ [b] } else m := fun hc => by
    unfold M.inWord; rw [if_pos hc]
  have hkr := fun s => isKeyword_l (H := H.ro) (s := s) ht
  have en := fun m'' g1 g2 => h.setPost (m' := m'') g1 g2
  have hla : ∀ (hc : (m.said.length : Int) ≤ 10), (m.said.length + 1 ≤ 9223372036854775807) = True := fun hc => eq_true (by omega)
  have bad : ∀ (c1 : inner b = false) (c2 : ¬ (m.at_ = 2 ∧ b = 46)), m.inWord b = if m.at_ = 1 ∧ isKeyword m.said then (m.ended 3).begin b else (m.ended 1).begin b := fun c1 c2 => by
    unfold M.inWord; rw [if_neg (fun hc => by rcases hc with hc | hc; (rw [c1] at hc; cases hc); exact c2 hc)]
  by_cases c1 : inner b = true
  · rw [grow (.inl c1)]
    by_cases c2 : (m.said.length : Int) ≤ 10
    · have f2 := eq_true c2
      rw [if_pos c2]
      simp (config := { maxSteps := 4000000 }) [hg, hp, hi, c1, f2, hcb, hgn, hla c2]
      exact h.newPost' rfl rfl
    · have f2 := eq_false c2
      rw [if_neg c2]
      simp (config := { maxSteps := 4000000 }) [hg, hp, hi, c1, f2]
      exact h.post
  rw [Bool.not_eq_true] at c1
  by_cases c3 : m.at_ = 2
  · by_cases c4 : b = 46
    · have f4 := eq_true c4
      rw [grow (.inr ⟨c3, c4⟩)]
      by_cases c2 : (m.said.length : Int) ≤ 10
      · have f2 := eq_true c2
        rw [if_pos c2]
        simp (config := { maxSteps := 4000000 }) [hg, hp, hi, c1, c3, f4, f2, hcb, hgn, hla c2]
        exact h.newPost' rfl rfl
      · have f2 := eq_false c2
        rw [if_neg c2]
        simp (config := { maxSteps := 4000000 }) [hg, hp, hi, c1, c3, f4, f2]
        exact h.post
    · have f4 := eq_false c4
      have h1 := en (m.ended 1) rfl rfl
      obtain ⟨v1, a1⟩ := h1.at_
      obtain ⟨H2, e2, p2⟩ := begin_ex (b := b) a1
      rw [bad c1 (fun hc => c4 hc.2), if_neg (fun hc => by have := hc.1; omega)]
      have hl := ended_l (l := 1) hg hp
      simp (config := { maxSteps := 4000000 }) [hg, hp, hi, c1, c3, f4, hl, e2]
      exact h1.trans p2
  · have f3 := eq_false c3
    by_cases c5 : m.at_ = 1 ∧ isKeyword m.said = true
    · have h1 := en (m.ended 3) rfl rfl
      obtain ⟨v1, a1⟩ := h1.at_
      obtain ⟨H2, e2, p2⟩ := begin_ex (b := b) a1
      rw [bad c1 (fun hc => c3 hc.1), if_pos c5]
      have hl := ended_l (l := 3) hg hp
      simp (config := { maxSteps := 4000000 }) [hg, hp, hi, c1, c5.1, hkw, hkr, c5.2, hl, e2]
      exact h1.trans p2
    · have h1 := en (m.ended 1) rfl rfl
      obtain ⟨v1, a1⟩ := h1.at_
      obtain ⟨H2, e2, p2⟩ := begin_ex (b := b) a1
      rw [bad c1 (fun hc => c3 hc.1), if_neg c5]
      have hl := ended_l (l := 1) hg hp
      by_cases c6 : m.at_ = 1
      · have c7 : isKeyword m.said = false := by
          cases hk : isKeyword m.said with
          | true => exact absurd ⟨c6, hk⟩ c5
          | false => rfl
        simp (config := { maxSteps := 4000000 }) [hg, hp, hi, c1, c6, hkw, hkr, c7, hl, e2]
        exact h1.trans p2
      · have f6 := eq_false c6
        simp (config := { maxSteps := 4000000 }) [hg, hp, hi, c1, f3, f6, hkw, hkr, hl, e2]
        exact h1.trans p2
end
end Go.Proofs.YtgnefbngkhjfcaaDoor
/-
  The machine of layer 28 (jscript): what it tells.
-/
set_option linter.unusedSimpArgs false
set_option linter.unusedVariables false
set_option maxRecDepth 100000
namespace Go.Proofs.YtgnefbngkhjfcaaDoor
open Go.Lg Tg.Js

section
variable {H : LH} {b : UInt8} {l n : Nat} {B : LB} {xs : List Int} {s : Int}
/-- where a number stands first among others, from a place on -/
def findI (s : Int) : List Int → Int → Int
  | [], _ => -1
  | x :: xs, k => if s = x then k else findI s xs (k + 1)
theorem indexI_l (h : H.get l = some B) (hb : B.cells = xs.map (Value.int .i64)) (hn : xs.length ≤ 1048576) : LC Tryd.prog EJ 72 [sl l xs.length n, Value.int .i64 s] H = some (.int .i64 (findI s xs 0), H) := by
  refine LC_pure rfl Tryd.func72 rfl (Nat.le_of_ble_eq_true rfl) (by decide) (by kernel_rfl) rfl ?_
  simp +contextual
  refine loop_ind (fun (i : Nat) fr' H' => fr' 0 = sl l xs.length n ∧ fr' 1 = Value.int .i64 s ∧ fr' 7 = .int .i64 xs.length ∧ fr' 8 = .int .i64 i ∧ i ≤ xs.length ∧ findI s (xs.drop i) i = findI s xs 0 ∧ H' = H) (fun i => xs.length - i) 0 (by simp) ?_
  rintro i fr' H' ⟨h0, h1, h7, h8, hi, hh, rfl⟩ ih
  by_cases hlt : i < xs.length
  · obtain ⟨x, hx⟩ : ∃ x, xs[i]? = some x := ⟨_, List.getElem?_eq_getElem hlt⟩
    have hd : xs.drop i = x :: xs.drop (i + 1) := by
      rw [List.drop_eq_getElem_cons hlt]
      rw [List.getElem?_eq_getElem hlt] at hx
      injection hx with hx
      rw [hx]
    have hc : B.cells[i]? = some (Value.int .i64 x) := by rw [hb]; simp [hx]
    have hw : IntKind.i64.wrap ((i : Int) + 1) = ((i + 1 : Nat) : Int) := by rw [wrap64_in (by omega) (by omega)]; omega
    rw [hd, findI] at hh
    by_cases hs : s = x
    · have hs' : (s = x) = True := eq_true hs
      rw [if_pos hs] at hh
      simp [h0, h1, h7, h8, hlt, h, hc, hs', ← hh]
    · have hs' : (s = x) = False := eq_false hs
      rw [if_neg hs] at hh
      simp [h0, h1, h7, h8, hlt, h, hc, hs', hw]
      exact ih (i + 1) _ _ (by omega) ⟨by simp [h0], by simp [h1], by simp [h7], by simp, hlt, by simpa using hh, rfl⟩
  · have hd : xs.drop i = [] := List.drop_eq_nil_of_le (by omega)
    rw [hd, findI] at hh
    simp [h0, h1, h7, h8, hlt, ← hh]
theorem findI_mem : ∀ (xs : List Int) (k : Int), 0 ≤ k → (0 ≤ findI s xs k ↔ s ∈ xs)
  | [], k, h => by simp [findI]
  | x :: xs, k, h => by
    unfold findI
    by_cases hs : s = x
    · simp [hs, h]
    · rw [if_neg hs, findI_mem xs (k + 1) (by omega)]; simp [hs]
theorem containsI_l (h : H.get l = some B) (hb : B.cells = xs.map (Value.int .i64)) (hn : xs.length ≤ 1048576) : LC Tryd.prog EJ 49 [sl l xs.length n, Value.int .i64 s] H = some (.bool (xs.contains s), H) := by
  refine LC_pure rfl Tryd.func49 rfl (Nat.le_of_ble_eq_true rfl) (by decide) (by kernel_rfl) rfl ?_
  have hi := indexI_l (s := s) (n := n) h hb hn
  have := findI_mem (s := s) xs 0 (by decide)
  simp [hi, this]
theorem tell_g {p : Nat} {m : M} {v : Value} {B0 : LB} (hg : H.get p = some B0) (hc0 : B0.cells = (mb m v).cells) (hp : p < H.n) (hl : ∀ H', lbuiltin Tryd.prog .len [38] [v] H' = some (.int .i64 (m.stack.map bv).length, H')) : LC Tryd.prog EJ 37 [ptr p 0] H = some (.int .i64 m.tell, H) := by
  refine LC_pure rfl Tryd.func37 rfl (Nat.le_of_ble_eq_true rfl) (by decide) (by kernel_rfl) rfl ?_
  have hgn : ∀ B, (H.new B).get p = some B0 := fun B => by rw [get_new_ne (by omega)]; exact hg
  by_cases c1 : m.bad = true
  · simp (config := { maxSteps := 4000000 }) [hg, hc0, hp, c1, M.tell]
  · rw [Bool.not_eq_true] at c1
    by_cases c2 : m.stack = []
    · have f2 := eq_true c2
      have hc : LC Tryd.prog EJ 49 [sl H.n 5 5, .int .i64 m.at_] (H.new ⟨[.int .i64 0, .int .i64 1, .int .i64 2, .int .i64 8, .int .i64 10], 3, true⟩) = some (.bool (([0, 1, 2, 8, 10] : List Int).contains m.at_), H.new ⟨[.int .i64 0, .int .i64 1, .int .i64 2, .int .i64 8, .int .i64 10], 3, true⟩) :=
        containsI_l (l := H.n) (n := 5) (s := m.at_) (xs := [0, 1, 2, 8, 10]) get_new rfl (by decide)
      by_cases c3 : (([0, 1, 2, 8, 10] : List Int).contains m.at_) = true
      · have e : m.tell = 2 := by
          unfold M.tell; rw [c1, if_neg (by simp), if_pos ⟨c2, by simpa using c3⟩]
        rw [c3] at hc
        simp (config := { maxSteps := 4000000 }) [hg, hc0, hp, c1, hl, f2, hgn, hc, e, le_refl.new]
      · rw [Bool.not_eq_true] at c3
        have e : m.tell = 1 := by
          unfold M.tell; rw [c1, if_neg (by simp), if_neg (fun hh => by
            have h2 := hh.2
            have : (([0, 1, 2, 8, 10] : List Int).contains m.at_) = true := by simpa using h2
            rw [this] at c3; cases c3)]
        rw [c3] at hc
        simp (config := { maxSteps := 4000000 }) [hg, hc0, hp, c1, hl, f2, hgn, hc, e, le_refl.new]
    · have f2 := eq_false c2
      simp (config := { maxSteps := 4000000 }) [hg, hc0, hp, c1, hl, f2, hgn, M.tell]
theorem tell_l {p : Nat} {m : M} {v : Value} (h : At p H m v) : LC Tryd.prog EJ 37 [ptr p 0] H = some (.int .i64 m.tell, H) :=
  tell_g h.get rfl h.lt (fun H' => h.row.len (H' := H') Tryd.underlying38)
theorem tell_ro {p : Nat} {m : M} {v : Value} (h : At p H m v) : LC Tryd.prog EJ 37 [ptr p 0] H.ro = some (.int .i64 m.tell, H.ro) :=
  tell_g (B0 := { mb m v with rw := false }) (by rw [get_ro, h.get]; rfl) rfl h.lt (fun H' => h.row.len (H' := H') Tryd.underlying38)
end
end Go.Proofs.YtgnefbngkhjfcaaDoor
/-
  The machine of layer 28 (jscript): a new one.
-/
set_option linter.unusedSimpArgs false
set_option linter.unusedVariables false
set_option maxRecDepth 100000
namespace Go.Proofs.YtgnefbngkhjfcaaDoor
open Go.Lg Tg.Js

section
variable {H : LH}
@[simp] theorem atom_int {k : IntKind} {n : Int} : atomB (.int k n) = true := by simp only [atomB]
@[simp] theorem atom_bool {x : Bool} : atomB (.bool x) = true := by simp only [atomB]
@[simp] theorem atom_str {l : List UInt8} : atomB (str l) = true := by simp only [atomB, str]
@[simp] theorem atom_slice0 : atomB (.slice none 0 0) = true := by simp [atomB]
@[simp] theorem atom_ptr0 : atomB (.pointer none) = true := by simp only [atomB]
@[simp] theorem lfill_cell' {P : Program} {t : TypeId} {cs : List Value} {i : Nat} {q : Nat × Nat × Bool} {v : Value} {ps : List (Nat × Value)} (hf : fldi P t i = some q) (hn : q.2.1 = 1) (hv : cellB v = true) (ho : q.1 < cs.length) : lfill P t cs ((i, v) :: ps) = lfill P t (cs.set q.1 v) ps := by
  obtain ⟨o, n, g⟩ := q
  exact lfill_cell hf hn hv ho
theorem mb_new (d : Int) : (⟨[.int .i64 d, .slice none 0 0, .int .i64 0, .int .u8 0, .bool false, str [], .int .i64 0, .bool false, .bool false, .int .i64 (-1), .int .i64 0, .int .i64 0, .int .i64 0], 53, true⟩ : LB) = mb (new d) (.slice none 0 0) := rfl
theorem new_l {d : Int} (h0 : 0 ≤ d) (h1 : d ≤ 200) : ∃ r, LC Tryd.prog EJ 36 [.int .i64 d] H = some r ∧ r = (.tuple #[ptr H.n 0, .int .i64 0], H.new (mb (new d) (.slice none 0 0))) := by
  obtain ⟨r, h, e⟩ := LC_runs (Q := fun r => r = (.tuple #[ptr H.n 0, .int .i64 0], H.new (mb (new d) (.slice none 0 0)))) (P := Tryd.prog) (E := EJ) (H := H) (args := [.int .i64 d]) rfl Tryd.func36 rfl (Nat.le_of_ble_eq_true rfl) (by decide) (by kernel_rfl) (by
    have f1 : (d < 0) = False := eq_false (by omega)
    have f2 : (200 < d) = False := eq_false (by omega)
    simp (config := { maxSteps := 4000000 }) [f1, f2, mb_new])
  refine ⟨r, ?_, e⟩
  rw [h, e, trunc_not (by simp [flatB, flat1B, atomB])]
end
end Go.Proofs.YtgnefbngkhjfcaaDoor
/-
  The machine of layer 28 (jscript): bytes, pieces, all at once.
-/
set_option linter.unusedSimpArgs false
set_option linter.unusedVariables false
set_option maxRecDepth 100000
namespace Go.Proofs.YtgnefbngkhjfcaaDoor
open Go.Lg Tg.Js

section
variable {p : Nat} {H H' H1 : LH} {m m' m1 : M} {v v' : Value} {b : UInt8} {s : List UInt8}
theorem inRemark_stack (m : M) (b : UInt8) : (m.inRemark b).stack = m.stack ∧ (m.inRemark b).depth = m.depth := by
  unfold M.inRemark; dsimp only; repeat' split
  all_goals exact ⟨rfl, rfl⟩
theorem inLess_stack (m : M) (b : UInt8) : (m.inLess b).stack = m.stack ∧ (m.inLess b).depth = m.depth := by
  unfold M.inLess; repeat' split
  all_goals exact ⟨rfl, rfl⟩
theorem byte_ex (h : At p H m v) (ht : Tab H) : ∃ H', LC Tryd.prog EJ 39 [ptr p 0, .int .u8 b.toNat] H = some (.tuple #[], H') ∧ Post p H (m.byte b) H' := by
  refine meth_ex rfl Tryd.func39 rfl (Nat.le_of_ble_eq_true rfl) (by decide) (by kernel_rfl) h ?_
  have hg := h.get
  have hp := h.lt
  have en := fun m'' (g : m''.stack = m.stack ∧ m''.depth = m.depth) => h.setPost (m' := m'') g.1 g.2
  obtain ⟨H0, e0, p0⟩ := begin_ex (b := b) h
  obtain ⟨H1, e1, p1⟩ := inWord_ex (b := b) h ht
  obtain ⟨H2, e2, p2⟩ := inDollar_ex (b := b) h
  obtain ⟨H3, e3, p3⟩ := inSlash_ex (b := b) h
  have e4 := inRemark_l (b := b) hg hp
  have p4 := en _ (inRemark_stack m b)
  have e5 := inLess_l (b := b) hg hp
  have p5 := en _ (inLess_stack m b)
  have e6 := inText_l (b := b) hg hp
  have p6 := en _ (inText_stack m b)
  unfold M.byte
  by_cases c : m.at_ = 0
  · simp (config := { maxSteps := 4000000 }) [hg, hp, c, e0]; exact p0
  have f0 := eq_false c
  by_cases c : m.at_ = 1
  · simp (config := { maxSteps := 4000000 }) [hg, hp, c, e1]; exact p1
  have f1 := eq_false c
  by_cases c : m.at_ = 2
  · simp (config := { maxSteps := 4000000 }) [hg, hp, c, e1]; exact p1
  have f2 := eq_false c
  by_cases c : m.at_ = 8
  · simp (config := { maxSteps := 4000000 }) [hg, hp, c, e1]; exact p1
  have f8 := eq_false c
  by_cases c : m.at_ = 5
  · simp (config := { maxSteps := 4000000 }) [hg, hp, c, e2]; exact p2
  have f5 := eq_false c
  by_cases c : m.at_ = 9
  · simp (config := { maxSteps := 4000000 }) [hg, hp, c, e3]; exact p3
  have f9 := eq_false c
  by_cases c : m.at_ = 10
  · simp (config := { maxSteps := 4000000 }) [hg, hp, c, e4]; exact p4
  have f10 := eq_false c
  by_cases c : m.at_ = 11
  · simp (config := { maxSteps := 4000000 }) [hg, hp, c, e4]; exact p4
  have f11 := eq_false c
  by_cases c : m.at_ = 12
  · simp (config := { maxSteps := 4000000 }) [hg, hp, c, e4]; exact p4
  have f12 := eq_false c
  by_cases c : m.at_ = 13
  · simp (config := { maxSteps := 4000000 }) [hg, hp, c, e5]; exact p5
  have f13 := eq_false c
  by_cases c : m.at_ = 14
  · simp (config := { maxSteps := 4000000 }) [hg, hp, c, e5]; exact p5
  have f14 := eq_false c
  by_cases c : m.at_ = 15
  · simp (config := { maxSteps := 4000000 }) [hg, hp, c, e5]; exact p5
  have f15 := eq_false c
  simp (config := { maxSteps := 4000000 }) [hg, hp, f0, f1, f2, f8, f5, f9, f10, f11, f12, f13, f14, f15, e6]
  exact p6
theorem Tab.post {m0 : M} (ht : Tab H) (h0 : At p H m0 v) (hp : Post p H m H') : Tab H' := by
  obtain ⟨v', a⟩ := hp.at_
  have k := hp.fr _ _ _ h0 a
  exact ⟨by rw [k.ng]; exact ht.1, by rw [k.base]; exact ht.2⟩
theorem feed_take (m : M) (s : List UInt8) {i : Nat} (h : i < s.length) : m.feed (s.take (i + 1)) = (m.feed (s.take i)).step s[i] := by
  rw [List.take_succ_eq_append_getElem h, M.feed_append]; rfl
theorem feed_ex (h : At p H m v) (ht : Tab H) (hs : s.length ≤ 1048576) : ∃ H', LC Tryd.prog EJ 15 [ptr p 0, str s] H = some (.int .i64 (m.feed s).tell, H') ∧ Post p H (m.feed s) H' := by
  refine meth_exv rfl Tryd.func15 rfl (Nat.le_of_ble_eq_true rfl) (by decide) (by kernel_rfl) h ?_
  simp
  refine loop_ind (fun (i : Nat) fr' H' => fr' 0 = ptr p 0 ∧ fr' 1 = str s ∧ fr' 9 = .int .i64 s.length ∧ fr' 10 = .int .i64 i ∧ i ≤ s.length ∧ Post p H (m.feed (s.take i)) H') (fun i => s.length - i) 0 ?_ ?_
  · exact ⟨by simp, by simp, by simp, by simp, Nat.zero_le _, h.post⟩
  rintro i fr' H' ⟨h0, h1, h9, h10, hi, hpo⟩ ih
  obtain ⟨v1, a1⟩ := hpo.at_
  have hg := a1.get
  have hp := a1.lt
  by_cases hlt : i < s.length
  · have hw : IntKind.i64.wrap ((i : Int) + 1) = ((i + 1 : Nat) : Int) := by rw [wrap64_in (by omega) (by omega)]; omega
    have hat : at_ s i = s[i] := by simp [at_, hlt]
    have hst := feed_take m s hlt
    cases hb : (m.feed (s.take i)).bad with
    | true =>
      rw [M.step_bad _ _ hb] at hst
      have hb' : (!(m.feed (s.take i)).bad) = false := by rw [hb]; rfl
      simp (config := { maxSteps := 4000000 }) [-Bool.not_eq_eq_eq_not, h0, h1, h9, h10, hlt, hg, hp, hb', hw]
      refine ih (i + 1) _ _ (by omega) ⟨by simp [h0], by simp [h1], by simp [h9], by simp, hlt, ?_⟩
      rw [hst]
      exact hpo.trans (a1.setPost rfl rfl)
    | false =>
      rw [M.step_good _ _ hb] at hst
      obtain ⟨H2, e2, p2⟩ := byte_ex (b := s[i]) a1 (ht.post h hpo)
      obtain ⟨v2, a2⟩ := p2.at_
      have hg2 := a2.get
      have hp2 := a2.lt
      simp (config := { maxSteps := 4000000 }) [h0, h1, h9, h10, hlt, hg, hp, hb, hw, hat, e2, hg2, hp2]
      refine ih (i + 1) _ _ (by omega) ⟨by simp [h0], by simp [h1], by simp [h9], by simp, hlt, ?_⟩
      rw [hst]
      exact (hpo.trans p2).trans (a2.setPost rfl rfl)
  · have hi2 : s.take i = s := List.take_of_length_le (by omega)
    rw [hi2] at hpo a1
    have e := tell_l a1
    simp [h0, h1, h9, h10, hlt, e]
    exact hpo
theorem at_new {d : Int} (h0 : 0 ≤ d) (h1 : d ≤ 200) (hd : ∀ l, H.n ≤ l → H.get l = none) : At H.n (H.new (mb (new d) (.slice none 0 0))) (new d) (.slice none 0 0) :=
  ⟨get_new, Nat.lt_succ_self _, .inl ⟨rfl, rfl⟩, fun l hl => by
    have : H.n + 1 ≤ l := hl
    rw [get_new_ne (by omega)]; exact hd l (by omega), h0, h1⟩
def clamp (d : Int) : Int := if (if d < 0 then 0 else d) > 200 then 200 else (if d < 0 then 0 else d)
end
end Go.Proofs.YtgnefbngkhjfcaaDoor
/-
  The machine of layer 27 (json): its fields, and its methods that leave its stack as it is.
-/
set_option linter.unusedSimpArgs false
set_option linter.unusedVariables false
set_option maxRecDepth 100000
namespace Go.Proofs.YtgnefbngkhjfcaaDoor.Jn
open Go.Lg Tg.Json

/-- the machine's cells -/
def mc (m : M) (v : Value) : List Value := [.int .i64 (m.depth : Nat), v, .int .i64 (m.pos : Nat), .bool m.key, str m.rest, .int .i64 (m.hex : Nat), .bool m.begun, .int .i64 (m.state : Nat), .int .i64 m.place, .int .i64 (m.seen : Nat)]
def mb (m : M) (v : Value) : LB := ⟨mc m v, 84, true⟩
section
variable {H : LH} {b : UInt8} {m : M} {v : Value} {p : Nat}
@[simp] theorem mb_len : (mb m v).cells.length = 10 := by simp only [mb, mc]; simp only [List.length_cons, List.length_nil]
@[simp] theorem mb_rw : (mb m v).rw = true := by simp only [mb]
theorem mb_elem : (mb m v).elem = 84 := rfl
@[simp] theorem ld_depth : (mb m v).cells[0]? = some (.int .i64 (m.depth : Nat)) := rfl
@[simp] theorem lg_depth {hl : 0 < (mb m v).cells.length} : (mb m v).cells[0]'hl = (.int .i64 (m.depth : Nat)) := rfl
@[simp] theorem st_depth {x : Nat} : (⟨(mb m v).cells.set 0 (.int .i64 (x : Nat)), (mb m v).elem, true⟩ : LB) = mb { m with depth := x } v := rfl
@[simp] theorem ld_pos : (mb m v).cells[2]? = some (.int .i64 (m.pos : Nat)) := rfl
@[simp] theorem lg_pos {hl : 2 < (mb m v).cells.length} : (mb m v).cells[2]'hl = (.int .i64 (m.pos : Nat)) := rfl
@[simp] theorem st_pos {x : Nat} : (⟨(mb m v).cells.set 2 (.int .i64 (x : Nat)), (mb m v).elem, true⟩ : LB) = mb { m with pos := x } v := rfl
@[simp] theorem st_pos0 : (⟨(mb m v).cells.set 2 (.int .i64 0), (mb m v).elem, true⟩ : LB) = mb { m with pos := 0 } v := rfl
@[simp] theorem st_pos1 : (⟨(mb m v).cells.set 2 (.int .i64 1), (mb m v).elem, true⟩ : LB) = mb { m with pos := 1 } v := rfl
@[simp] theorem st_pos2 : (⟨(mb m v).cells.set 2 (.int .i64 2), (mb m v).elem, true⟩ : LB) = mb { m with pos := 2 } v := rfl
@[simp] theorem st_pos3 : (⟨(mb m v).cells.set 2 (.int .i64 3), (mb m v).elem, true⟩ : LB) = mb { m with pos := 3 } v := rfl
@[simp] theorem st_pos4 : (⟨(mb m v).cells.set 2 (.int .i64 4), (mb m v).elem, true⟩ : LB) = mb { m with pos := 4 } v := rfl
@[simp] theorem st_pos5 : (⟨(mb m v).cells.set 2 (.int .i64 5), (mb m v).elem, true⟩ : LB) = mb { m with pos := 5 } v := rfl
@[simp] theorem st_pos6 : (⟨(mb m v).cells.set 2 (.int .i64 6), (mb m v).elem, true⟩ : LB) = mb { m with pos := 6 } v := rfl
@[simp] theorem st_pos7 : (⟨(mb m v).cells.set 2 (.int .i64 7), (mb m v).elem, true⟩ : LB) = mb { m with pos := 7 } v := rfl
@[simp] theorem st_pos8 : (⟨(mb m v).cells.set 2 (.int .i64 8), (mb m v).elem, true⟩ : LB) = mb { m with pos := 8 } v := rfl
@[simp] theorem st_pos9 : (⟨(mb m v).cells.set 2 (.int .i64 9), (mb m v).elem, true⟩ : LB) = mb { m with pos := 9 } v := rfl
@[simp] theorem st_pos10 : (⟨(mb m v).cells.set 2 (.int .i64 10), (mb m v).elem, true⟩ : LB) = mb { m with pos := 10 } v := rfl
@[simp] theorem st_pos11 : (⟨(mb m v).cells.set 2 (.int .i64 11), (mb m v).elem, true⟩ : LB) = mb { m with pos := 11 } v := rfl
@[simp] theorem st_pos12 : (⟨(mb m v).cells.set 2 (.int .i64 12), (mb m v).elem, true⟩ : LB) = mb { m with pos := 12 } v := rfl
@[simp] theorem st_pos13 : (⟨(mb m v).cells.set 2 (.int .i64 13), (mb m v).elem, true⟩ : LB) = mb { m with pos := 13 } v := rfl
@[simp] theorem st_pos14 : (⟨(mb m v).cells.set 2 (.int .i64 14), (mb m v).elem, true⟩ : LB) = mb { m with pos := 14 } v := rfl
@[simp] theorem st_pos15 : (⟨(mb m v).cells.set 2 (.int .i64 15), (mb m v).elem, true⟩ : LB) = mb { m with pos := 15 } v := rfl
@[simp] theorem st_pos16 : (⟨(mb m v).cells.set 2 (.int .i64 16), (mb m v).elem, true⟩ : LB) = mb { m with pos := 16 } v := rfl
@[simp] theorem st_pos17 : (⟨(mb m v).cells.set 2 (.int .i64 17), (mb m v).elem, true⟩ : LB) = mb { m with pos := 17 } v := rfl
@[simp] theorem ld_key : (mb m v).cells[3]? = some (.bool m.key) := rfl
@[simp] theorem lg_key {hl : 3 < (mb m v).cells.length} : (mb m v).cells[3]'hl = (.bool m.key) := rfl
@[simp] theorem st_key {x : Bool} : (⟨(mb m v).cells.set 3 (.bool x), (mb m v).elem, true⟩ : LB) = mb { m with key := x } v := rfl
@[simp] theorem ld_rest : (mb m v).cells[4]? = some (str m.rest) := rfl
@[simp] theorem lg_rest {hl : 4 < (mb m v).cells.length} : (mb m v).cells[4]'hl = (str m.rest) := rfl
@[simp] theorem st_rest {x : List UInt8} : (⟨(mb m v).cells.set 4 (str x), (mb m v).elem, true⟩ : LB) = mb { m with rest := x } v := rfl
@[simp] theorem ld_hex : (mb m v).cells[5]? = some (.int .i64 (m.hex : Nat)) := rfl
@[simp] theorem lg_hex {hl : 5 < (mb m v).cells.length} : (mb m v).cells[5]'hl = (.int .i64 (m.hex : Nat)) := rfl
@[simp] theorem st_hex {x : Nat} : (⟨(mb m v).cells.set 5 (.int .i64 (x : Nat)), (mb m v).elem, true⟩ : LB) = mb { m with hex := x } v := rfl
@[simp] theorem st_hex4 : (⟨(mb m v).cells.set 5 (.int .i64 4), (mb m v).elem, true⟩ : LB) = mb { m with hex := 4 } v := rfl
@[simp] theorem ld_begun : (mb m v).cells[6]? = some (.bool m.begun) := rfl
@[simp] theorem lg_begun {hl : 6 < (mb m v).cells.length} : (mb m v).cells[6]'hl = (.bool m.begun) := rfl
@[simp] theorem st_begun {x : Bool} : (⟨(mb m v).cells.set 6 (.bool x), (mb m v).elem, true⟩ : LB) = mb { m with begun := x } v := rfl
@[simp] theorem ld_state : (mb m v).cells[7]? = some (.int .i64 (m.state : Nat)) := rfl
@[simp] theorem lg_state {hl : 7 < (mb m v).cells.length} : (mb m v).cells[7]'hl = (.int .i64 (m.state : Nat)) := rfl
@[simp] theorem st_state {x : Nat} : (⟨(mb m v).cells.set 7 (.int .i64 (x : Nat)), (mb m v).elem, true⟩ : LB) = mb { m with state := x } v := rfl
@[simp] theorem st_state0 : (⟨(mb m v).cells.set 7 (.int .i64 0), (mb m v).elem, true⟩ : LB) = mb { m with state := 0 } v := rfl
@[simp] theorem st_state3 : (⟨(mb m v).cells.set 7 (.int .i64 3), (mb m v).elem, true⟩ : LB) = mb { m with state := 3 } v := rfl
@[simp] theorem ld_place : (mb m v).cells[8]? = some (.int .i64 m.place) := rfl
@[simp] theorem lg_place {hl : 8 < (mb m v).cells.length} : (mb m v).cells[8]'hl = (.int .i64 m.place) := rfl
@[simp] theorem st_place {x : Int} : (⟨(mb m v).cells.set 8 (.int .i64 x), (mb m v).elem, true⟩ : LB) = mb { m with place := x } v := rfl
@[simp] theorem ld_seen : (mb m v).cells[9]? = some (.int .i64 (m.seen : Nat)) := rfl
@[simp] theorem lg_seen {hl : 9 < (mb m v).cells.length} : (mb m v).cells[9]'hl = (.int .i64 (m.seen : Nat)) := rfl
@[simp] theorem st_seen {x : Nat} : (⟨(mb m v).cells.set 9 (.int .i64 (x : Nat)), (mb m v).elem, true⟩ : LB) = mb { m with seen := x } v := rfl
@[simp] theorem ld_stack : (mb m v).cells[1]? = some v := rfl
@[simp] theorem lg_stack {hl : 1 < (mb m v).cells.length} : (mb m v).cells[1]'hl = v := rfl
@[simp] theorem st_stack {x : Value} : (⟨(mb m v).cells.set 1 x, (mb m v).elem, true⟩ : LB) = mb m x := rfl
theorem dig_eq : Tg.Json.digit b = Tg.Js.digit b := by
  unfold Tg.Json.digit Tg.Js.digit
  simp only [UInt8.le_iff_toNat_le]
  congr 1 <;> · congr 1; apply propext; simp; omega
theorem digit_j : LC Tryd.prog EJ 81 [.int .u8 b.toNat] H = some (.bool (Tg.Json.digit b), H) := by rw [dig_eq]; exact digit_l
theorem digit_ji : LC Tryd.prog EJ 97 [.int .u8 b.toNat] H = some (.bool (Tg.Json.digit b), H) := by rw [dig_eq]; exact digit_in
theorem white_j : LC Tryd.prog EJ 88 [.int .u8 b.toNat] H = some (.bool (Tg.Json.white b), H) := by
  refine LC_pure rfl Tryd.func88 rfl (Nat.le_of_ble_eq_true rfl) (by decide) (by kernel_rfl) rfl ?_
  simp +contextual [Tg.Json.white, -Int.not_le, -Int.not_lt]
  intro h1 h2 h3; rw [Bool.eq_iff_iff]; simp [h1, h2, h3]
theorem ended_j {q : Nat} : LC Tryd.prog EJ 110 [.int .i64 (q : Nat)] H = some (.bool (Tg.Json.ended q), H) := by
  refine LC_pure rfl Tryd.func110 rfl (Nat.le_of_ble_eq_true rfl) (by decide) (by kernel_rfl) rfl ?_
  have e : ∀ k : Nat, ((q : Int) = (k : Int)) = (q = k) := fun k => propext (by omega)
  have e1 := e 11
  have e2 := e 12
  have e3 := e 14
  have e4 := e 17
  simp at e1 e2 e3 e4
  simp +contextual [Tg.Json.ended, e1, e2, e3, e4, -Int.not_le, -Int.not_lt]
  intro h1 h2 h3; rw [Bool.eq_iff_iff]; simp [h1, h2, h3]
/-- a sign's number -/
def hexv (b : UInt8) : Int := if Tg.Json.digit b then b.toNat - 48 else if (97 ≤ b && b ≤ 102) then b.toNat - 97 + 10 else if (65 ≤ b && b ≤ 70) then b.toNat - 65 + 10 else 0
theorem le97 : ((97 : Int) ≤ b.toNat) = (97 ≤ b) := by rw [UInt8.le_iff_toNat_le]; apply propext; simp; omega
theorem le102 : ((b.toNat : Int) ≤ 102) = (b ≤ 102) := by rw [UInt8.le_iff_toNat_le]; apply propext; simp; omega
theorem le65 : ((65 : Int) ≤ b.toNat) = (65 ≤ b) := by rw [UInt8.le_iff_toNat_le]; apply propext; simp; omega
theorem le70 : ((b.toNat : Int) ≤ 70) = (b ≤ 70) := by rw [UInt8.le_iff_toNat_le]; apply propext; simp; omega
theorem lt32 : ((b.toNat : Int) < 32) = (b < 32) := by rw [UInt8.lt_iff_toNat_lt]; apply propext; simp; omega
theorem fail_l {st : Nat} (h : H.get p = some (mb m v)) (hp : p < H.n) : LC Tryd.prog EJ 103 [ptr p 0, .int .i64 (st : Nat)] H = some (.tuple #[], H.set p (mb (m.fail st) v)) := by
  refine own rfl Tryd.func103 rfl (Nat.le_of_ble_eq_true rfl) (by decide) (by kernel_rfl) h hp ?_
  simp (config := { maxSteps := 2000000 }) +contextual [h, hp, set_self h, M.fail, -Int.not_le, -Int.not_lt]
theorem fail0_l (h : H.get p = some (mb m v)) (hp : p < H.n) : LC Tryd.prog EJ 103 [ptr p 0, .int .i64 0] H = some (.tuple #[], H.set p (mb (m.fail 0) v)) := fail_l (st := 0) h hp
theorem fail3_l (h : H.get p = some (mb m v)) (hp : p < H.n) : LC Tryd.prog EJ 103 [ptr p 0, .int .i64 3] H = some (.tuple #[], H.set p (mb (m.fail 3) v)) := fail_l (st := 3) h hp
end
end Go.Proofs.YtgnefbngkhjfcaaDoor.Jn
/-
  The machine of layer 27 (json): where it lies.
-/
set_option linter.unusedSimpArgs false
set_option linter.unusedVariables false
namespace Go.Proofs.YtgnefbngkhjfcaaDoor.Jn
open Go.Lg Tg.Json

/-- the machine m lies in the block p -/
structure At (p : Nat) (H : LH) (m : M) (v : Value) : Prop where
  get : H.get p = some (mb m v)
  lt : p < H.n
  row : Row 0 H 5 v (m.stack.map bv)
  dom : ∀ l, H.n ≤ l → H.get l = none
  len : (m.stack.length : Int) ≤ (m.depth : Int)
  depth : (m.depth : Int) ≤ 200
structure Post (p : Nat) (H : LH) (m : M) (H' : LH) : Prop where
  at_ : ∃ v, At p H' m v
  fr : ∀ m0 v0 v, At p H m0 v0 → At p H' m v → Kp p v0 H v H'
section
variable {p : Nat} {H H' H1 : LH} {m m' m1 : M} {v v' : Value} {b : UInt8}
theorem mb_inj (h : mb m v = mb m' v') : v = v' := by
  have := congrArg LB.cells h
  simp only [mb, mc, List.cons.injEq] at this
  exact this.2.1
theorem At.same (h : At p H m v) (k : At p H m' v') : v = v' := by
  have h1 := h.get
  rw [k.get] at h1
  injection h1 with h1
  exact (mb_inj h1).symm
theorem At.off (h : At p H m v) : offRow v p := h.row.off_of_elem h.get (by show (84 : Nat) ≠ 5; decide)
theorem Post.trans (h : Post p H m1 H1) (k : Post p H1 m' H') : Post p H m' H' := by
  obtain ⟨v1, a1⟩ := h.at_
  exact ⟨k.at_, fun m0 v0 v a0 a => (h.fr m0 v0 v1 a0 a1).trans (k.fr _ v1 v a1 a)⟩
theorem At.mk_post (h : At p H m v) (k : At p H' m' v') (hk : Kp p v H v' H') : Post p H m' H' :=
  ⟨⟨v', k⟩, fun m0 v0 v2 a0 a => by rw [a0.same h, a.same k]; exact hk⟩
theorem At.post (h : At p H m v) : Post p H m H := h.mk_post h Kp.refl
/-- fields are written, the stack stays -/
theorem At.set (h : At p H m v) (hs : m'.stack = m.stack) (hd : m'.depth = m.depth) : At p (H.set p (mb m' v)) m' v := by
  refine ⟨get_set, h.lt, ?_, fun l hl => ?_, by rw [hs, hd]; exact h.len, by rw [hd]; exact h.depth⟩
  · rw [hs]
    exact h.row.keep (fun k hk hn => get_set_ne (fun e => hn (e ▸ h.off)))
  · rw [get_set_ne (fun e => by have := h.lt; have : H.n ≤ l := hl; omega)]; exact h.dom l hl
theorem At.setPost (h : At p H m v) (hs : m'.stack = m.stack) (hd : m'.depth = m.depth) : Post p H m' (H.set p (mb m' v)) := h.mk_post (h.set hs hd) (Kp.set (fun _ h => h))
theorem At.row_lt (h : At p H m v) {k : Nat} (hn : ¬ offRow v k) : k < H.n := by
  rcases h.row with ⟨rfl, _⟩ | ⟨k', c, rest, rfl, g1, g2, g3⟩
  · exact absurd off_nil hn
  · have : k = k' := by
      refine Classical.byContradiction (fun hne => hn (fun n c' hx => ?_))
      injection hx with hx
      injection hx with hx
      injection hx with hx
      omega
    subst this
    rcases Nat.lt_or_ge k H.n with h1 | h'
    · exact h1
    · rw [h.dom k h'] at g2; cases g2
theorem At.row_off (h : At p H m v) {k : Nat} {B : LB} (hk : H.get k = some B) (hne : B.elem ≠ 5) : offRow v k := h.row.off_of_elem hk hne
/-- a method that hands something back -/
theorem meth_exv {u : Value} {f : FuncId} {fn : Func} {c : Code} {args : List Value} (he : EJ f = none) (hf : Tryd.prog.funcs[f]? = some fn) (hb : fn.body = some c) (hN : args.length ≤ fn.ntmps) (hname : fn.name ≠ "runtime.NumGoroutine") (hcd : codeOk EJ.loud fn.ntmps c = true)
    (h : At p H m v) (hr : Runs Tryd.prog EJ fn [.code c] (enter args) H (fun r => r.1 = u ∧ Post p H m' r.2)) : ∃ H', LC Tryd.prog EJ f args H = some (u, H') ∧ Post p H m' H' := by
  obtain ⟨⟨u', H'⟩, hl, hu, hp⟩ := LC_runs he hf hb hN hname hcd hr
  simp only at hu
  subst hu
  rcases trunc_or u' H H' with e | ⟨e, _, hle⟩
  · exact ⟨H', by rw [hl, e], hp⟩
  · refine ⟨H, by rw [hl, e], ?_⟩
    obtain ⟨⟨v', ha⟩, _⟩ := hp
    have hg := ha.get
    rw [hle.2 p h.lt, h.get] at hg
    injection hg with hg
    have hv := mb_inj hg
    subst hv
    refine h.mk_post ⟨by rw [h.get, hg], h.lt, ?_, h.dom, ha.len, ha.depth⟩ Kp.refl
    exact ha.row.keep (fun k hk hn => (hle.2 k (h.row_lt hn)).symm)
theorem meth_ex {f : FuncId} {fn : Func} {c : Code} {args : List Value} (he : EJ f = none) (hf : Tryd.prog.funcs[f]? = some fn) (hb : fn.body = some c) (hN : args.length ≤ fn.ntmps) (hname : fn.name ≠ "runtime.NumGoroutine") (hcd : codeOk EJ.loud fn.ntmps c = true)
    (h : At p H m v) (hr : Runs Tryd.prog EJ fn [.code c] (enter args) H (fun r => r.1 = .tuple #[] ∧ Post p H m' r.2)) : ∃ H', LC Tryd.prog EJ f args H = some (.tuple #[], H') ∧ Post p H m' H' := meth_exv he hf hb hN hname hcd h hr
theorem At.keep (h : At p H m v) (hn : H.n ≤ H'.n) (hk : ∀ k, k < H.n → (k = p ∨ ¬ offRow v k) → H'.get k = H.get k) (hd : ∀ l, H'.n ≤ l → H'.get l = none) : At p H' m v := by
  refine ⟨by rw [hk p h.lt (.inl rfl)]; exact h.get, Nat.lt_of_lt_of_le h.lt hn, ?_, hd, h.len, h.depth⟩
  exact h.row.keep (fun k hk1 hn1 => hk k (h.row_lt hn1) (.inr hn1))
theorem At.new (h : At p H m v) {B : LB} : At p (H.new B) m v :=
  h.keep (Nat.le_succ _) (fun k hk _ => get_new_ne (by omega)) (fun l hl => by have hl' : H.n + 1 ≤ l := hl; rw [get_new_ne (by omega)]; exact h.dom l (by omega))
theorem At.newPost {B : LB} (h : At p H m v) (s1 : m1.stack = m.stack) (d1 : m1.depth = m.depth) (g1 : m'.stack = m.stack) (g2 : m'.depth = m.depth) : Post p H m' (((H.set p (mb m1 v)).new B).set p (mb m' v)) :=
  h.mk_post (((h.set s1 d1).new (B := B)).set (m' := m') (g1.trans s1.symm) (g2.trans d1.symm)) (((Kp.set (fun _ h => h)).trans Kp.new).trans (Kp.set (fun _ h => h)))
theorem At.newPost' {B : LB} (h : At p H m v) (g1 : m'.stack = m.stack) (g2 : m'.depth = m.depth) : Post p H m' ((H.new B).set p (mb m' v)) :=
  h.mk_post ((h.new (B := B)).set (m' := m') g1 g2) (Kp.new.trans (Kp.set (fun _ h => h)))
/-- one byte more on the stack -/
theorem At.pushed (h : At p H m v) (hc : (m.stack.length : Int) < (m.depth : Int)) : ∃ v' H', lapp Tryd.prog 38 v (some (1, [.int .u8 b.toNat])) (H.new ⟨[.int .u8 b.toNat], 5, true⟩) = some (v', H') ∧ cellB v' = true ∧ H'.get p = some (mb m v) ∧ p < H'.n ∧
    ∀ m'' : M, m''.stack = m.stack ++ [b] → m''.depth = m.depth → Post p H m'' (H'.set p (mb m'' v')) := by
  have h1 := h.new (B := ⟨[.int .u8 b.toNat], 5, true⟩)
  have hdep := h.depth
  obtain ⟨v', H', e1, e2, e3, e4, e5, e6, e7, e8⟩ := Row.push (P := Tryd.prog) (x := .int .u8 b.toNat) h1.row Tryd.underlying38 lesz5 (by simp) (by simp [maxElems]; omega) (Nat.zero_le _) h1.dom
  have hg' : H'.get p = some (mb m v) := by rw [e4 p h1.lt h1.off]; exact h1.get
  have hp' : p < H'.n := Nat.lt_of_lt_of_le h1.lt e3
  refine ⟨v', H', e1, e2.cell, hg', hp', fun m'' g1 g2 => ?_⟩
  have hoff : ∀ k, k < H.n + 1 → offRow v k → offRow v' k := fun k hk ho => e5 k hk ho
  have ha : At p (H'.set p (mb m'' v')) m'' v' := by
    refine ⟨get_set, hp', ?_, fun l hl => ?_, by rw [g1, g2]; simp; omega, by rw [g2]; exact h.depth⟩
    · have := e2.keep (H' := H'.set p (mb m'' v')) (fun k hk hn => get_set_ne (fun e => hn (e ▸ e5 p h1.lt h1.off)))
      rw [g1]
      simpa [bv] using this
    · rw [get_set_ne (fun e => by have : H'.n ≤ l := hl; omega)]; exact e6 l hl
  refine h.mk_post ha ⟨by have : H.n + 1 ≤ H'.n := e3; show H.n ≤ H'.n; omega, fun k hk hkp ho => ?_, fun k hk _ ho => hoff k (by omega) ho, e7, e8⟩
  rw [get_set_ne hkp, e4 k (by show k < H.n + 1; omega) ho, get_new_ne (by omega)]
/-- the last byte of the stack -/
theorem At.last (h : At p H m v) {xs : List UInt8} {t : UInt8} (hs : m.stack = xs ++ [t]) : IntKind.i64.wrap ((m.stack.length : Int) - 1) = xs.length ∧
    (∀ H', ∃ q, lixa Tryd.prog 38 v (.int .i64 xs.length) H' = some (q, H') ∧ lld Tryd.prog 5 q H = some (.int .u8 t.toNat)) ∧
    ∃ v', lpart Tryd.prog 38 v none (some (.int .i64 xs.length)) = some v' ∧ cellB v' = true ∧ ∀ m'' : M, m''.stack = xs → m''.depth = m.depth → ∀ m2 : M, Post p H m'' (H.set p (mb m'' v')) := by
  have hlen := h.len
  have hdep := h.depth
  have hx : (m.stack.map bv).length = xs.length + 1 := by simp [hs]
  have hl2 : m.stack.length = xs.length + 1 := by simp [hs]
  obtain ⟨v', e1, e2, e3⟩ := Row.take (P := Tryd.prog) (kd := .i64) (j := xs.length) h.row Tryd.underlying38 sz5 (by omega) (by omega)
  have hgd : (m.stack.map bv).getD (xs.length : Int).toNat Value.nilFunc = .int .u8 t.toNat := by simp [hs, bv]
  refine ⟨by rw [wrap64_in (by omega) (by omega)]; omega, fun H' => ?_, v', e1, e2.cell, fun m'' g1 g2 _ => ?_⟩
  · obtain ⟨q, f1, f2⟩ := Row.at (P := Tryd.prog) (H' := H') (kd := .i64) (j := xs.length) (d := .nilFunc) h.row Tryd.underlying38 sz5 agg5 (by omega) (by omega)
    rw [hgd] at f2
    exact ⟨q, f1, f2⟩
  · have htk : (m.stack.map bv).take (xs.length : Int).toNat = xs.map bv := by simp [hs]
    rw [htk] at e2
    refine h.mk_post (v' := v') ⟨get_set, h.lt, ?_, fun l hl => ?_, by rw [g1, g2]; omega, by rw [g2]; exact hdep⟩ (Kp.set e3)
    · rw [g1]
      exact e2.keep (fun k hk hn => get_set_ne (fun e => hn (e ▸ e3 p h.off)))
    · rw [get_set_ne (fun e => by have hh : H.n ≤ l := hl; have := h.lt; omega)]; exact h.dom l hl
end
end Go.Proofs.YtgnefbngkhjfcaaDoor.Jn
/-
  The machine of layer 27 (json): its stack.
-/
set_option linter.unusedSimpArgs false
set_option linter.unusedVariables false
set_option maxRecDepth 100000
namespace Go.Proofs.YtgnefbngkhjfcaaDoor.Jn
open Go.Lg Tg.Json

section
variable {p : Nat} {H H' H1 : LH} {m m' m1 : M} {v v' : Value} {b : UInt8}
theorem push_ex {q : Nat} {k : Int} (h : At p H m v) (hk : ((q : Nat) : Int) = k) (hs : ∀ (m : M) (v : Value), (⟨(mb m v).cells.set 2 (.int .i64 k), (mb m v).elem, true⟩ : LB) = mb { m with pos := q } v) : ∃ H', LC Tryd.prog EJ 119 [ptr p 0, .int .u8 b.toNat, .int .i64 k] H = some (.tuple #[], H') ∧ Post p H (m.push b q) H' := by
  refine meth_ex rfl Tryd.func119 rfl (Nat.le_of_ble_eq_true rfl) (by decide) (by kernel_rfl) h ?_
  have hl := fun H' => h.row.len (H' := H') Tryd.underlying38
  have hg := h.get
  have hp := h.lt
  have hlen := h.len
  by_cases hc : m.stack.length = m.depth
  · have hc' : ((m.stack.length : Int) = (m.depth : Int)) = True := eq_true (by omega)
    simp +contextual [hg, hl, fail3_l hg h.lt, hc', hp]
    unfold M.push
    rw [if_pos hc]
    exact h.setPost rfl rfl
  · have hc' : ((m.stack.length : Int) = (m.depth : Int)) = False := eq_false (by omega)
    obtain ⟨v', H', e1, hcl, hg', hp', key⟩ := h.pushed (b := b) (by omega)
    simp +contextual [hg, hl, hc', e1, hg', hcl, hp, hp', hs]
    unfold M.push
    rw [if_neg hc]
    exact key _ rfl rfl
theorem top_l (h : At p H m v) : LC Tryd.prog EJ 120 [ptr p 0] H = some (.int .u8 m.top.toNat, H) := by
  refine LC_pure rfl Tryd.func120 rfl (Nat.le_of_ble_eq_true rfl) (by decide) (by kernel_rfl) rfl ?_
  have hl := fun H' => h.row.len (H' := H') Tryd.underlying38
  have hg := h.get
  have hp := h.lt
  rcases List.eq_nil_or_concat m.stack with hs | ⟨xs, t, hs⟩
  · have ht : m.top = 0 := by simp [M.top, hs]
    simp (config := { maxSteps := 4000000 }) [hg, hp, hl, hs, ht]
  · rw [List.concat_eq_append] at hs
    obtain ⟨hw0, hat, _⟩ := h.last hs
    obtain ⟨q, f1, f2⟩ := hat H
    have ht : m.top = t := by simp [M.top, hs]
    have hne : (m.stack = []) = False := eq_false (by simp [hs])
    have hn0 : ((m.stack.length : Int) = 0) = False := eq_false (by simp [hs]; omega)
    simp (config := { maxSteps := 4000000 }) [hg, hp, hl, hn0, hne, hw0, f1, f2, ht]
theorem pop_ex (h : At p H m v) (hne : m.stack ≠ []) : ∃ H', LC Tryd.prog EJ 100 [ptr p 0] H = some (.tuple #[], H') ∧ Post p H m.pop H' := by
  refine meth_ex rfl Tryd.func100 rfl (Nat.le_of_ble_eq_true rfl) (by decide) (by kernel_rfl) h ?_
  have hl := fun H' => h.row.len (H' := H') Tryd.underlying38
  have hg := h.get
  have hp := h.lt
  rcases List.eq_nil_or_concat m.stack with hs | ⟨xs, t, hs⟩
  · exact absurd hs hne
  · rw [List.concat_eq_append] at hs
    obtain ⟨hw0, _, v', e1, hcv, key⟩ := h.last hs
    simp (config := { maxSteps := 4000000 }) [hg, hp, hl, hw0, e1, hcv]
    exact key m.pop (by simp [M.pop, hs]) rfl m
end
end Go.Proofs.YtgnefbngkhjfcaaDoor.Jn
/-
  The machine of layer 27 (json): a byte, by where it stands.
-/
set_option linter.unusedSimpArgs false
set_option linter.unusedVariables false
set_option maxRecDepth 100000
namespace Go.Proofs.YtgnefbngkhjfcaaDoor.Jn
open Go.Lg Tg.Json

section
variable {p : Nat} {H H' H1 : LH} {m m' m1 : M} {v v' : Value} {b : UInt8}
theorem inText_ex (h : At p H m v) : ∃ H', LC Tryd.prog EJ 105 [ptr p 0, .int .u8 b.toNat] H = some (.tuple #[], H') ∧ Post p H (m.inText b) H' := by
  refine meth_ex rfl Tryd.func105 rfl (Nat.le_of_ble_eq_true rfl) (by decide) (by kernel_rfl) h ?_
  have hg := h.get
  have hp := h.lt
  have en := fun m'' (g : m''.stack = m.stack) (d : m''.depth = m.depth) => h.setPost (m' := m'') g d
  unfold M.inText
  by_cases c1 : b = 34
  · have f1 := eq_true c1
    rw [if_pos c1]
    cases hk : m.key with
    | true => simp (config := { maxSteps := 4000000 }) [hg, hp, f1, hk]; exact en _ rfl rfl
    | false => simp (config := { maxSteps := 4000000 }) [hg, hp, f1, hk]; exact en _ rfl rfl
  · have f1 := eq_false c1
    rw [if_neg c1]
    by_cases c2 : b = 92
    · have f2 := eq_true c2
      rw [if_pos c2]
      simp (config := { maxSteps := 4000000 }) [hg, hp, f1, f2]; exact en _ rfl rfl
    · have f2 := eq_false c2
      rw [if_neg c2]
      by_cases c3 : b < 32
      · have f3 := eq_true c3
        rw [if_pos c3]
        simp (config := { maxSteps := 4000000 }) [hg, hp, f1, f2, lt32, f3, fail0_l hg hp]; exact en _ rfl rfl
      · have f3 := eq_false c3
        rw [if_neg c3]
        simp (config := { maxSteps := 4000000 }) [hg, hp, f1, f2, lt32, f3]; exact h.post
theorem esc_lit : ([34, 92, 47, 98, 102, 110, 114, 116] : List UInt8).contains b = esc b := by
  rw [Bool.eq_iff_iff]
  simp [esc, or_assoc]
theorem inSlash_ex (h : At p H m v) : ∃ H', LC Tryd.prog EJ 106 [ptr p 0, .int .u8 b.toNat] H = some (.tuple #[], H') ∧ Post p H (m.inSlash b) H' := by
  refine meth_ex rfl Tryd.func106 rfl (Nat.le_of_ble_eq_true rfl) (by decide) (by kernel_rfl) h ?_
  have hg := h.get
  have hp := h.lt
  have en := fun m'' (g : m''.stack = m.stack) (d : m''.depth = m.depth) => h.setPost (m' := m'') g d
  have hx : (0 ≤ Lib.indexByte [34, 92, 47, 98, 102, 110, 114, 116] b) = (esc b = true) := by
    rw [← esc_lit]
    apply propext
    rw [idx_mem]; simp
  unfold M.inSlash
  by_cases c1 : b = 117
  · have f1 := eq_true c1
    rw [if_pos c1]
    simp (config := { maxSteps := 4000000 }) [hg, hp, f1]; exact en _ rfl rfl
  · have f1 := eq_false c1
    rw [if_neg c1]
    cases c2 : esc b with
    | true =>
      rw [if_pos rfl]
      simp (config := { maxSteps := 4000000 }) [hg, hp, f1, hx, c2]; exact en _ rfl rfl
    | false =>
      rw [if_neg (by simp)]
      simp (config := { maxSteps := 4000000 }) [hg, hp, f1, hx, c2, fail0_l hg hp]; exact en _ rfl rfl
theorem hex_l : ∃ n : Int, LC Tryd.prog EJ 121 [.int .u8 b.toNat] H = some (.tuple #[.int .i64 n, .bool (Tg.Json.hex b)], H) := by
  have le9 : Tg.Json.hex b = (Tg.Json.digit b || ((97 ≤ b && b ≤ 102) || (65 ≤ b && b ≤ 70))) := by unfold Tg.Json.hex; rw [Bool.or_assoc]
  have key : ∀ (w : Value) (Q : Value × LH → Prop), True := fun _ _ => trivial
  have hd := digit_ji (H := H) (b := b)
  by_cases c0 : Tg.Json.digit b = true
  · refine ⟨IntKind.i64.wrap (IntKind.u8.wrap ((b.toNat : Int) - 48)), ?_⟩
    rw [le9, c0, Bool.true_or]
    refine LC_pure rfl Tryd.func121 rfl (Nat.le_of_ble_eq_true rfl) (by decide) (by kernel_rfl) (by simp [flatB, flat1B, atomB]) ?_
    simp (config := { maxSteps := 4000000 }) [hd, c0]
  rw [Bool.not_eq_true] at c0
  rw [le9, c0, Bool.false_or]
  by_cases c1 : 97 ≤ b
  · by_cases c2 : b ≤ 102
    · refine ⟨IntKind.i64.wrap (IntKind.i64.wrap (IntKind.u8.wrap ((b.toNat : Int) - 97)) + 10), ?_⟩
      have e : ((decide (97 ≤ b) && decide (b ≤ 102)) || (decide (65 ≤ b) && decide (b ≤ 70))) = true := by simp [c1, c2]
      rw [e]
      refine LC_pure rfl Tryd.func121 rfl (Nat.le_of_ble_eq_true rfl) (by decide) (by kernel_rfl) (by simp [flatB, flat1B, atomB]) ?_
      simp (config := { maxSteps := 4000000 }) [hd, c0, le97, le102, eq_true c1, eq_true c2]
    · have c4 : ¬ b ≤ 70 := fun h => c2 (by rw [UInt8.le_iff_toNat_le] at h ⊢; simp at h ⊢; omega)
      refine ⟨0, ?_⟩
      have e : ((decide (97 ≤ b) && decide (b ≤ 102)) || (decide (65 ≤ b) && decide (b ≤ 70))) = false := by simp [c2, c4]
      rw [e]
      refine LC_pure rfl Tryd.func121 rfl (Nat.le_of_ble_eq_true rfl) (by decide) (by kernel_rfl) (by simp [flatB, flat1B, atomB]) ?_
      by_cases c3 : 65 ≤ b
      · simp (config := { maxSteps := 4000000 }) [hd, c0, le97, le102, le65, le70, eq_true c1, eq_false c2, eq_true c3, eq_false c4]
      · simp (config := { maxSteps := 4000000 }) [hd, c0, le97, le102, le65, le70, eq_true c1, eq_false c2, eq_false c3, eq_false c4]
  · by_cases c3 : 65 ≤ b
    · by_cases c4 : b ≤ 70
      · refine ⟨IntKind.i64.wrap (IntKind.i64.wrap (IntKind.u8.wrap ((b.toNat : Int) - 65)) + 10), ?_⟩
        have e : ((decide (97 ≤ b) && decide (b ≤ 102)) || (decide (65 ≤ b) && decide (b ≤ 70))) = true := by simp [c3, c4]
        rw [e]
        refine LC_pure rfl Tryd.func121 rfl (Nat.le_of_ble_eq_true rfl) (by decide) (by kernel_rfl) (by simp [flatB, flat1B, atomB]) ?_
        simp (config := { maxSteps := 4000000 }) [hd, c0, le97, le102, le65, le70, eq_false c1, eq_true c3, eq_true c4]
      · refine ⟨0, ?_⟩
        have e : ((decide (97 ≤ b) && decide (b ≤ 102)) || (decide (65 ≤ b) && decide (b ≤ 70))) = false := by simp [c1, c4]
        rw [e]
        refine LC_pure rfl Tryd.func121 rfl (Nat.le_of_ble_eq_true rfl) (by decide) (by kernel_rfl) (by simp [flatB, flat1B, atomB]) ?_
        simp (config := { maxSteps := 4000000 }) [hd, c0, le97, le102, le65, le70, eq_false c1, eq_true c3, eq_false c4]
    · refine ⟨0, ?_⟩
      have e : ((decide (97 ≤ b) && decide (b ≤ 102)) || (decide (65 ≤ b) && decide (b ≤ 70))) = false := by simp [c1, c3]
      rw [e]
      refine LC_pure rfl Tryd.func121 rfl (Nat.le_of_ble_eq_true rfl) (by decide) (by kernel_rfl) (by simp [flatB, flat1B, atomB]) ?_
      simp (config := { maxSteps := 4000000 }) [hd, c0, le97, le102, le65, le70, eq_false c1, eq_false c3]
theorem inUnicode_ex (h : At p H m v) (h1 : 1 ≤ m.hex) (h4 : m.hex ≤ 4) : ∃ H', LC Tryd.prog EJ 107 [ptr p 0, .int .u8 b.toNat] H = some (.tuple #[], H') ∧ Post p H (m.inUnicode b) H' := by
  refine meth_ex rfl Tryd.func107 rfl (Nat.le_of_ble_eq_true rfl) (by decide) (by kernel_rfl) h ?_
  have hg := h.get
  have hp := h.lt
  have en := fun m'' (g : m''.stack = m.stack) (d : m''.depth = m.depth) => h.setPost (m' := m'') g d
  obtain ⟨n, hx⟩ := hex_l (H := H) (b := b)
  have hw : IntKind.i64.wrap ((m.hex : Int) - 1) = ((m.hex - 1 : Nat) : Int) := by rw [wrap64_in (by omega) (by omega)]; omega
  unfold M.inUnicode
  cases c1 : Tg.Json.hex b with
  | false =>
    rw [if_neg (by simp)]
    simp (config := { maxSteps := 4000000 }) [hg, hp, hx, c1, fail0_l hg hp]; exact en _ rfl rfl
  | true =>
    rw [if_pos rfl]
    by_cases c2 : m.hex - 1 = 0
    · have f2 : (((m.hex - 1 : Nat) : Int) = 0) = True := eq_true (by omega)
      rw [if_pos c2]
      simp (config := { maxSteps := 4000000 }) [hg, hp, hx, c1, hw, f2]
      exact ⟨fun _ => en { m with pos := 6, hex := m.hex - 1 } rfl rfl, fun hh => absurd c2 hh⟩
    · have f2 : (((m.hex - 1 : Nat) : Int) = 0) = False := eq_false (by omega)
      rw [if_neg c2]
      simp (config := { maxSteps := 4000000 }) [hg, hp, hx, c1, hw, f2]
      exact ⟨fun hh => absurd hh c2, fun _ => en { m with hex := m.hex - 1 } rfl rfl⟩
theorem inWord_ex (h : At p H m v) (hr : m.rest ≠ []) : ∃ H', LC Tryd.prog EJ 108 [ptr p 0, .int .u8 b.toNat] H = some (.tuple #[], H') ∧ Post p H (m.inWord b) H' := by
  refine meth_ex rfl Tryd.func108 rfl (Nat.le_of_ble_eq_true rfl) (by decide) (by kernel_rfl) h ?_
  have hg := h.get
  have hp := h.lt
  have en := fun m'' (g : m''.stack = m.stack) (d : m''.depth = m.depth) => h.setPost (m' := m'') g d
  obtain ⟨c, r, hcr⟩ : ∃ c r, m.rest = c :: r := by
    cases hm : m.rest with
    | nil => exact absurd hm hr
    | cons c r => exact ⟨c, r, rfl⟩
  have hat : at_ (c :: r) 0 = c := rfl
  have hpos : ((0 : Int) < (r.length : Int) + 1) = True := eq_true (by omega)
  have hpos2 : ((1 : Int) ≤ (r.length : Int) + 1) = True := eq_true (by omega)
  unfold M.inWord
  by_cases c1 : b = c
  · subst c1
    rw [if_pos (by rw [hcr]; rfl)]
    by_cases c2 : r = []
    · have f2 := eq_true c2
      rw [if_pos (by rw [hcr]; exact c2)]
      simp (config := { maxSteps := 4000000 }) [hg, hp, hcr, hat, hpos, hpos2, f2]
      exact en _ rfl rfl
    · have f2 := eq_false c2
      rw [if_neg (by rw [hcr]; exact c2)]
      simp (config := { maxSteps := 4000000 }) [hg, hp, hcr, hat, hpos, hpos2, f2]
      exact en _ rfl rfl
  · have f1 := eq_false c1
    rw [if_neg (by rw [hcr]; exact fun hx => c1 (by simpa using hx.symm))]
    simp (config := { maxSteps := 4000000 }) [hg, hp, hcr, hat, hpos, f1, fail0_l hg hp]
    exact en _ rfl rfl
end
end Go.Proofs.YtgnefbngkhjfcaaDoor.Jn
/-
  The machine of layer 27 (json): a byte, by where it stands: values, names, numbers.
-/
set_option linter.unusedSimpArgs false
set_option linter.unusedVariables false
set_option maxRecDepth 100000
namespace Go.Proofs.YtgnefbngkhjfcaaDoor.Jn
open Go.Lg Tg.Json

section
variable {p : Nat} {H H' H1 : LH} {m m' m1 : M} {v v' : Value} {b : UInt8}
set_option maxHeartbeats 4000000 in
theorem begin_ex (h : At p H m v) : ∃ H', LC Tryd.prog EJ 101 [ptr p 0, .int .u8 b.toNat] H = some (.tuple #[], H') ∧ Post p H (m.first b) H' := by
  refine meth_ex rfl Tryd.func101 rfl (Nat.le_of_ble_eq_true rfl) (by decide) (by kernel_rfl) h ?_
  have hg := h.get
  have hp := h.lt
  have en := fun m'' (g : m''.stack = m.stack) (d : m''.depth = m.depth) => h.setPost (m' := m'') g d
  have hd := fun H => digit_j (H := H) (b := b)
  unfold M.first
  by_cases c1 : b = 91
  · obtain ⟨H2, e2, p2⟩ := push_ex (b := 91) (q := 1) (k := 1) h rfl (fun _ _ => rfl)
    have e2' : LC Tryd.prog EJ 119 [ptr p 0, .int .u8 91, .int .i64 1] H = some (.tuple #[], H2) := e2
    subst c1
    simp (config := { maxSteps := 4000000 }) [hg, hp, e2']; exact p2
  have f1 := eq_false c1
  rw [if_neg c1]
  by_cases c2 : b = 123
  · obtain ⟨H2, e2, p2⟩ := push_ex (b := 123) (q := 3) (k := 3) h rfl (fun _ _ => rfl)
    have e2' : LC Tryd.prog EJ 119 [ptr p 0, .int .u8 123, .int .i64 3] H = some (.tuple #[], H2) := e2
    subst c2
    simp (config := { maxSteps := 4000000 }) [hg, hp, e2']; exact p2
  have f2 := eq_false c2
  rw [if_neg c2]
  by_cases c3 : b = 34
  · rw [if_pos c3]
    simp (config := { maxSteps := 4000000 }) [hg, hp, f1, f2, eq_true c3]; exact en _ rfl rfl
  have f3 := eq_false c3
  rw [if_neg c3]
  by_cases c4 : b = 45
  · rw [if_pos c4]
    simp (config := { maxSteps := 4000000 }) [hg, hp, f1, f2, f3, eq_true c4]; exact en _ rfl rfl
  have f4 := eq_false c4
  rw [if_neg c4]
  by_cases c5 : b = 48
  · rw [if_pos c5]
    simp (config := { maxSteps := 4000000 }) [hg, hp, f1, f2, f3, f4, eq_true c5]; exact en _ rfl rfl
  have f5 := eq_false c5
  rw [if_neg c5]
  cases c6 : Tg.Json.digit b with
  | true =>
    rw [if_pos rfl]
    simp (config := { maxSteps := 4000000 }) [hg, hp, f1, f2, f3, f4, f5, hd, c6]; exact en _ rfl rfl
  | false =>
    rw [if_neg (by simp)]
    by_cases c7 : b = 116
    · rw [if_pos c7]
      simp (config := { maxSteps := 4000000 }) [hg, hp, f1, f2, f3, f4, f5, hd, c6, eq_true c7]; exact en _ rfl rfl
    have f7 := eq_false c7
    rw [if_neg c7]
    by_cases c8 : b = 102
    · rw [if_pos c8]
      simp (config := { maxSteps := 4000000 }) [hg, hp, f1, f2, f3, f4, f5, hd, c6, f7, eq_true c8]; exact en _ rfl rfl
    have f8 := eq_false c8
    rw [if_neg c8]
    by_cases c9 : b = 110
    · rw [if_pos c9]
      simp (config := { maxSteps := 4000000 }) [hg, hp, f1, f2, f3, f4, f5, hd, c6, f7, f8, eq_true c9]; exact en _ rfl rfl
    have f9 := eq_false c9
    rw [if_neg c9]
    simp (config := { maxSteps := 4000000 }) [hg, hp, f1, f2, f3, f4, f5, hd, c6, f7, f8, f9, fail0_l hg hp]; exact en _ rfl rfl
theorem top_ne {k : UInt8} (hk : k ≠ 0) (h : m.top = k) : m.stack ≠ [] := by
  intro hs
  rw [M.top, hs] at h
  exact hk h.symm
set_option maxHeartbeats 4000000 in
theorem after_ex (h : At p H m v) : ∃ H', LC Tryd.prog EJ 104 [ptr p 0, .int .u8 b.toNat] H = some (.tuple #[], H') ∧ Post p H (m.after b) H' := by
  refine meth_ex rfl Tryd.func104 rfl (Nat.le_of_ble_eq_true rfl) (by decide) (by kernel_rfl) h ?_
  have hg := h.get
  have hp := h.lt
  have a5 := h.set (m' := { m with pos := 5 }) rfl rfl
  have p5 := h.setPost (m' := { m with pos := 5 }) rfl rfl
  have ht := top_l a5
  have hf := fail0_l a5.get a5.lt
  have hw := fun H => white_j (H := H) (b := b)
  have en := fun m'' (g : m''.stack = m.stack) (d : m''.depth = m.depth) => h.setPost (m' := m'') g d
  have hfail : ∀ (h' : ({ m with pos := 5 } : M).after b = ({ m with pos := 5 } : M).fail 0), True := fun _ => trivial
  unfold M.after
  simp only
  generalize hn : ({ m with pos := 5 } : M) = n at *
  have hn1 : n.stack = m.stack := by rw [← hn]
  have hn2 : n.depth = m.depth := by rw [← hn]
  cases c1 : Tg.Json.white b with
  | true =>
    rw [if_pos rfl]
    simp (config := { maxSteps := 4000000 }) [hg, hp, hn, ht, hw, c1]; exact p5
  | false =>
    rw [if_neg (by simp)]
    by_cases c2 : b = 44
    · have e2' := eq_true c2
      have n93 : (b = 93) = False := eq_false (by rw [c2]; decide)
      have n125 : (b = 125) = False := eq_false (by rw [c2]; decide)
      by_cases t1 : n.top = 91
      · rw [if_pos ⟨c2, t1⟩]
        simp (config := { maxSteps := 4000000 }) [hg, hp, hn, ht, hw, c1, e2', n93, n125, t1]; subst hn; exact en _ rfl rfl
      · rw [if_neg (fun hx => t1 hx.2)]
        by_cases t2 : n.top = 123
        · rw [if_pos ⟨c2, t2⟩]
          simp (config := { maxSteps := 4000000 }) [hg, hp, hn, ht, hw, c1, e2', n93, n125, t2]; subst hn; exact en _ rfl rfl
        · rw [if_neg (fun hx => t2 hx.2), if_neg (by rintro (hx | hx) <;> exact absurd (c2.symm.trans hx.1) (by decide))]
          simp (config := { maxSteps := 4000000 }) [hg, hp, hn, ht, hw, c1, e2', n93, n125, eq_false t1, eq_false t2, hf]; exact en _ hn1 hn2
    · have f2 := eq_false c2
      rw [if_neg (fun hx => c2 hx.1), if_neg (fun hx => c2 hx.1)]
      by_cases c3 : b = 93
      · have e3' := eq_true c3
        have n125 : (b = 125) = False := eq_false (by rw [c3]; decide)
        by_cases t1 : n.top = 91
        · obtain ⟨H2, e2, p2⟩ := pop_ex a5 (top_ne (k := 91) (by decide) t1)
          rw [if_pos (.inl ⟨c3, t1⟩)]
          simp (config := { maxSteps := 4000000 }) [hg, hp, hn, ht, hw, c1, f2, e3', n125, t1, e2]; exact p5.trans p2
        · rw [if_neg (by rintro (hx | hx); exact t1 hx.2; exact absurd (c3.symm.trans hx.1) (by decide))]
          simp (config := { maxSteps := 4000000 }) [hg, hp, hn, ht, hw, c1, f2, e3', n125, eq_false t1, hf]; exact en _ hn1 hn2
      · have f3 := eq_false c3
        by_cases c4 : b = 125
        · have e4' := eq_true c4
          by_cases t1 : n.top = 123
          · obtain ⟨H2, e2, p2⟩ := pop_ex a5 (top_ne (k := 123) (by decide) t1)
            rw [if_pos (.inr ⟨c4, t1⟩)]
            simp (config := { maxSteps := 4000000 }) [hg, hp, hn, ht, hw, c1, f2, f3, e4', t1, e2]; exact p5.trans p2
          · rw [if_neg (by rintro (hx | hx); exact absurd (c4.symm.trans hx.1) (by decide); exact t1 hx.2)]
            simp (config := { maxSteps := 4000000 }) [hg, hp, hn, ht, hw, c1, f2, f3, e4', eq_false t1, hf]; exact en _ hn1 hn2
        · have f4 := eq_false c4
          rw [if_neg (by rintro (hx | hx); exact c3 hx.1; exact c4 hx.1)]
          simp (config := { maxSteps := 4000000 }) [hg, hp, hn, ht, hw, c1, f2, f3, f4, hf]; exact en _ hn1 hn2
theorem pos_eq {k : Nat} (hk : m.pos = k) (j : Nat) : ((m.pos : Int) = (j : Int)) = (k = j) := by rw [hk]; exact propext (by omega)
theorem names_ex (h : At p H m v) (h3 : m.pos = 3 → m.stack ≠ []) : ∃ H', LC Tryd.prog EJ 102 [ptr p 0, .int .u8 b.toNat] H = some (.tuple #[], H') ∧ Post p H (m.names b) H' := by
  refine meth_ex rfl Tryd.func102 rfl (Nat.le_of_ble_eq_true rfl) (by decide) (by kernel_rfl) h ?_
  have hg := h.get
  have hp := h.lt
  have hw := fun H => white_j (H := H) (b := b)
  have en := fun m'' (g : m''.stack = m.stack) (d : m''.depth = m.depth) => h.setPost (m' := m'') g d
  have q3 : ((m.pos : Int) = 3) = (m.pos = 3) := propext (by omega)
  unfold M.names
  cases c1 : Tg.Json.white b with
  | true =>
    rw [if_pos rfl]
    simp (config := { maxSteps := 4000000 }) [hg, hp, hw, c1]; exact h.post
  | false =>
    rw [if_neg (by simp)]
    by_cases c2 : b = 34
    · rw [if_pos c2]
      simp (config := { maxSteps := 4000000 }) [hg, hp, hw, c1, eq_true c2]; exact en _ rfl rfl
    have f2 := eq_false c2
    rw [if_neg c2]
    by_cases c3 : b = 125
    · by_cases c4 : m.pos = 3
      · obtain ⟨H2, e2, p2⟩ := pop_ex h (h3 c4)
        rw [if_pos ⟨c3, c4⟩]
        simp (config := { maxSteps := 4000000 }) [hg, hp, hw, c1, f2, eq_true c3, q3, eq_true c4, e2]; exact p2
      · rw [if_neg (fun hx => c4 hx.2)]
        simp (config := { maxSteps := 4000000 }) [hg, hp, hw, c1, f2, eq_true c3, q3, eq_false c4, fail0_l hg hp]; exact en _ rfl rfl
    · rw [if_neg (fun hx => c3 hx.1)]
      simp (config := { maxSteps := 4000000 }) [hg, hp, hw, c1, f2, eq_false c3, fail0_l hg hp]; exact en _ rfl rfl
end
end Go.Proofs.YtgnefbngkhjfcaaDoor.Jn
/-
  The machine of layer 27 (json): a byte within a number.
-/
set_option linter.unusedSimpArgs false
set_option linter.unusedVariables false
set_option maxRecDepth 100000
namespace Go.Proofs.YtgnefbngkhjfcaaDoor.Jn
open Go.Lg Tg.Json

section
variable {p : Nat} {H H' H1 : LH} {m m' m1 : M} {v v' : Value} {b : UInt8}
theorem num_eq {X : M} (h : At p H m v) (e : m.inNumber b = X) (hs : X.stack = m.stack) (hd : X.depth = m.depth) : Post p H (m.inNumber b) (H.set p (mb X v)) := by rw [e]; exact h.setPost hs hd
theorem num_af {Ha : LH} (pa : Post p H (m.after b) Ha) (e : m.inNumber b = m.after b) : Post p H (m.inNumber b) Ha := by rw [e]; exact pa

set_option maxHeartbeats 4000000 in
theorem num10_ex (h : At p H m v) (hk : m.pos = 10) : ∃ H', LC Tryd.prog EJ 109 [ptr p 0, .int .u8 b.toNat] H = some (.tuple #[], H') ∧ Post p H (m.inNumber b) H' := by
  refine meth_ex rfl Tryd.func109 rfl (Nat.le_of_ble_eq_true rfl) (by decide) (by kernel_rfl) h ?_
  have hg := h.get
  have hp := h.lt
  have hki : (m.pos : Int) = 10 := by rw [hk]; rfl
  have hd := fun H => digit_j (H := H) (b := b)
  have hf := fail0_l hg hp
  have he : ∀ H : LH, LC Tryd.prog EJ 110 [.int .i64 10] H = some (.bool false, H) := fun H => ended_j (q := 10)
  obtain ⟨Ha, ea, pa⟩ := after_ex (b := b) h
  cases cd : Tg.Json.digit b with
  | true =>
    have n46 : (b = 46) = False := eq_false (fun hx => by rw [hx] at cd; exact absurd cd (by decide))
    have n101 : (b = 101) = False := eq_false (fun hx => by rw [hx] at cd; exact absurd cd (by decide))
    have n69 : (b = 69) = False := eq_false (fun hx => by rw [hx] at cd; exact absurd cd (by decide))
    have n43 : (b = 43) = False := eq_false (fun hx => by rw [hx] at cd; exact absurd cd (by decide))
    have n45 : (b = 45) = False := eq_false (fun hx => by rw [hx] at cd; exact absurd cd (by decide))
    by_cases c48 : b = 48
    · have n48 := eq_true c48
      simp (config := { maxSteps := 8000000 }) [hg, hp, hki, hd, he, hf, ea, cd, n46, n101, n69, n43, n45, n48]
      exact num_eq h (by unfold M.inNumber; simp [hk, isE, Tg.Json.ended, cd, n46, n101, n69, n43, n45, n48]) rfl rfl
    · have n48 := eq_false c48
      simp (config := { maxSteps := 8000000 }) [hg, hp, hki, hd, he, hf, ea, cd, n46, n101, n69, n43, n45, n48]
      exact num_eq h (by unfold M.inNumber; simp [hk, isE, Tg.Json.ended, cd, n46, n101, n69, n43, n45, n48]) rfl rfl
  | false =>
    have n48 : (b = 48) = False := eq_false (fun hx => by rw [hx] at cd; exact absurd cd (by decide))
    by_cases c101 : b = 101
    · have n101 := eq_true c101
      have n69 : (b = 69) = False := eq_false (by rw [c101]; decide)
      simp (config := { maxSteps := 8000000 }) [hg, hp, hki, hd, he, hf, ea, cd, n48, n101, n69]
      exact num_eq h (by unfold M.inNumber; simp [hk, isE, Tg.Json.ended, cd, n48, n101, n69]) rfl rfl
    have n101 := eq_false c101
    by_cases c69 : b = 69
    · have n69 := eq_true c69
      simp (config := { maxSteps := 8000000 }) [hg, hp, hki, hd, he, hf, ea, cd, n48, n101, n69]
      exact num_eq h (by unfold M.inNumber; simp [hk, isE, Tg.Json.ended, cd, n48, n101, n69]) rfl rfl
    have n69 := eq_false c69
    simp (config := { maxSteps := 8000000 }) [hg, hp, hki, hd, he, hf, ea, cd, n48, n101, n69]
    exact num_eq h (by unfold M.inNumber; simp [hk, isE, Tg.Json.ended, cd, n48, n101, n69]) rfl rfl
set_option maxHeartbeats 4000000 in
theorem num11_ex (h : At p H m v) (hk : m.pos = 11) : ∃ H', LC Tryd.prog EJ 109 [ptr p 0, .int .u8 b.toNat] H = some (.tuple #[], H') ∧ Post p H (m.inNumber b) H' := by
  refine meth_ex rfl Tryd.func109 rfl (Nat.le_of_ble_eq_true rfl) (by decide) (by kernel_rfl) h ?_
  have hg := h.get
  have hp := h.lt
  have hki : (m.pos : Int) = 11 := by rw [hk]; rfl
  have hd := fun H => digit_j (H := H) (b := b)
  have hf := fail0_l hg hp
  have he : ∀ H : LH, LC Tryd.prog EJ 110 [.int .i64 11] H = some (.bool true, H) := fun H => ended_j (q := 11)
  obtain ⟨Ha, ea, pa⟩ := after_ex (b := b) h
  cases cd : Tg.Json.digit b with
  | true =>
    have n46 : (b = 46) = False := eq_false (fun hx => by rw [hx] at cd; exact absurd cd (by decide))
    have n101 : (b = 101) = False := eq_false (fun hx => by rw [hx] at cd; exact absurd cd (by decide))
    have n69 : (b = 69) = False := eq_false (fun hx => by rw [hx] at cd; exact absurd cd (by decide))
    have n43 : (b = 43) = False := eq_false (fun hx => by rw [hx] at cd; exact absurd cd (by decide))
    have n45 : (b = 45) = False := eq_false (fun hx => by rw [hx] at cd; exact absurd cd (by decide))
    simp (config := { maxSteps := 8000000 }) [hg, hp, hki, hd, he, hf, ea, cd, n46, n101, n69, n43, n45]
    exact num_af pa (by unfold M.inNumber; simp [hk, isE, Tg.Json.ended, cd, n46, n101, n69, n43, n45])
  | false =>
    have n48 : (b = 48) = False := eq_false (fun hx => by rw [hx] at cd; exact absurd cd (by decide))
    by_cases c46 : b = 46
    · have n46 := eq_true c46
      have n101 : (b = 101) = False := eq_false (by rw [c46]; decide)
      have n69 : (b = 69) = False := eq_false (by rw [c46]; decide)
      have n43 : (b = 43) = False := eq_false (by rw [c46]; decide)
      have n45 : (b = 45) = False := eq_false (by rw [c46]; decide)
      simp (config := { maxSteps := 8000000 }) [hg, hp, hki, hd, he, hf, ea, cd, n48, n46, n101, n69, n43, n45]
      exact num_eq h (by unfold M.inNumber; simp [hk, isE, Tg.Json.ended, cd, n48, n46, n101, n69, n43, n45]) rfl rfl
    have n46 := eq_false c46
    by_cases c101 : b = 101
    · have n101 := eq_true c101
      have n46 : (b = 46) = False := eq_false (by rw [c101]; decide)
      have n69 : (b = 69) = False := eq_false (by rw [c101]; decide)
      have n43 : (b = 43) = False := eq_false (by rw [c101]; decide)
      have n45 : (b = 45) = False := eq_false (by rw [c101]; decide)
      simp (config := { maxSteps := 8000000 }) [hg, hp, hki, hd, he, hf, ea, cd, n48, n46, n101, n69, n43, n45]
      exact num_eq h (by unfold M.inNumber; simp [hk, isE, Tg.Json.ended, cd, n48, n46, n101, n69, n43, n45]) rfl rfl
    have n101 := eq_false c101
    by_cases c69 : b = 69
    · have n69 := eq_true c69
      have n46 : (b = 46) = False := eq_false (by rw [c69]; decide)
      have n101 : (b = 101) = False := eq_false (by rw [c69]; decide)
      have n43 : (b = 43) = False := eq_false (by rw [c69]; decide)
      have n45 : (b = 45) = False := eq_false (by rw [c69]; decide)
      simp (config := { maxSteps := 8000000 }) [hg, hp, hki, hd, he, hf, ea, cd, n48, n46, n101, n69, n43, n45]
      exact num_eq h (by unfold M.inNumber; simp [hk, isE, Tg.Json.ended, cd, n48, n46, n101, n69, n43, n45]) rfl rfl
    have n69 := eq_false c69
    simp (config := { maxSteps := 8000000 }) [hg, hp, hki, hd, he, hf, ea, cd, n48, n46, n101, n69]
    exact num_af pa (by unfold M.inNumber; simp [hk, isE, Tg.Json.ended, cd, n48, n46, n101, n69])
set_option maxHeartbeats 4000000 in
theorem num12_ex (h : At p H m v) (hk : m.pos = 12) : ∃ H', LC Tryd.prog EJ 109 [ptr p 0, .int .u8 b.toNat] H = some (.tuple #[], H') ∧ Post p H (m.inNumber b) H' := by
  refine meth_ex rfl Tryd.func109 rfl (Nat.le_of_ble_eq_true rfl) (by decide) (by kernel_rfl) h ?_
  have hg := h.get
  have hp := h.lt
  have hki : (m.pos : Int) = 12 := by rw [hk]; rfl
  have hd := fun H => digit_j (H := H) (b := b)
  have hf := fail0_l hg hp
  have he : ∀ H : LH, LC Tryd.prog EJ 110 [.int .i64 12] H = some (.bool true, H) := fun H => ended_j (q := 12)
  obtain ⟨Ha, ea, pa⟩ := after_ex (b := b) h
  cases cd : Tg.Json.digit b with
  | true =>
    have n46 : (b = 46) = False := eq_false (fun hx => by rw [hx] at cd; exact absurd cd (by decide))
    have n101 : (b = 101) = False := eq_false (fun hx => by rw [hx] at cd; exact absurd cd (by decide))
    have n69 : (b = 69) = False := eq_false (fun hx => by rw [hx] at cd; exact absurd cd (by decide))
    have n43 : (b = 43) = False := eq_false (fun hx => by rw [hx] at cd; exact absurd cd (by decide))
    have n45 : (b = 45) = False := eq_false (fun hx => by rw [hx] at cd; exact absurd cd (by decide))
    simp (config := { maxSteps := 8000000 }) [hg, hp, hki, hd, he, hf, ea, cd, n46, n101, n69, n43, n45]
    exact num_eq h (by unfold M.inNumber; simp [hk, isE, Tg.Json.ended, cd, n46, n101, n69, n43, n45]) rfl rfl
  | false =>
    have n48 : (b = 48) = False := eq_false (fun hx => by rw [hx] at cd; exact absurd cd (by decide))
    by_cases c46 : b = 46
    · have n46 := eq_true c46
      have n101 : (b = 101) = False := eq_false (by rw [c46]; decide)
      have n69 : (b = 69) = False := eq_false (by rw [c46]; decide)
      have n43 : (b = 43) = False := eq_false (by rw [c46]; decide)
      have n45 : (b = 45) = False := eq_false (by rw [c46]; decide)
      simp (config := { maxSteps := 8000000 }) [hg, hp, hki, hd, he, hf, ea, cd, n48, n46, n101, n69, n43, n45]
      exact num_eq h (by unfold M.inNumber; simp [hk, isE, Tg.Json.ended, cd, n48, n46, n101, n69, n43, n45]) rfl rfl
    have n46 := eq_false c46
    by_cases c101 : b = 101
    · have n101 := eq_true c101
      have n46 : (b = 46) = False := eq_false (by rw [c101]; decide)
      have n69 : (b = 69) = False := eq_false (by rw [c101]; decide)
      have n43 : (b = 43) = False := eq_false (by rw [c101]; decide)
      have n45 : (b = 45) = False := eq_false (by rw [c101]; decide)
      simp (config := { maxSteps := 8000000 }) [hg, hp, hki, hd, he, hf, ea, cd, n48, n46, n101, n69, n43, n45]
      exact num_eq h (by unfold M.inNumber; simp [hk, isE, Tg.Json.ended, cd, n48, n46, n101, n69, n43, n45]) rfl rfl
    have n101 := eq_false c101
    by_cases c69 : b = 69
    · have n69 := eq_true c69
      have n46 : (b = 46) = False := eq_false (by rw [c69]; decide)
      have n101 : (b = 101) = False := eq_false (by rw [c69]; decide)
      have n43 : (b = 43) = False := eq_false (by rw [c69]; decide)
      have n45 : (b = 45) = False := eq_false (by rw [c69]; decide)
      simp (config := { maxSteps := 8000000 }) [hg, hp, hki, hd, he, hf, ea, cd, n48, n46, n101, n69, n43, n45]
      exact num_eq h (by unfold M.inNumber; simp [hk, isE, Tg.Json.ended, cd, n48, n46, n101, n69, n43, n45]) rfl rfl
    have n69 := eq_false c69
    simp (config := { maxSteps := 8000000 }) [hg, hp, hki, hd, he, hf, ea, cd, n48, n46, n101, n69]
    exact num_af pa (by unfold M.inNumber; simp [hk, isE, Tg.Json.ended, cd, n48, n46, n101, n69])
end
end Go.Proofs.YtgnefbngkhjfcaaDoor.Jn
/-
  The machine of layer 27 (json): a byte within a number.
-/
set_option linter.unusedSimpArgs false
set_option linter.unusedVariables false
set_option maxRecDepth 100000
namespace Go.Proofs.YtgnefbngkhjfcaaDoor.Jn
open Go.Lg Tg.Json

section
variable {p : Nat} {H H' H1 : LH} {m m' m1 : M} {v v' : Value} {b : UInt8}
theorem num_eqB {X : M} (h : At p H m v) (e : m.inNumber b = X) (hs : X.stack = m.stack) (hd : X.depth = m.depth) : Post p H (m.inNumber b) (H.set p (mb X v)) := by rw [e]; exact h.setPost hs hd
theorem num_afB {Ha : LH} (pa : Post p H (m.after b) Ha) (e : m.inNumber b = m.after b) : Post p H (m.inNumber b) Ha := by rw [e]; exact pa

set_option maxHeartbeats 4000000 in
theorem num13_ex (h : At p H m v) (hk : m.pos = 13) : ∃ H', LC Tryd.prog EJ 109 [ptr p 0, .int .u8 b.toNat] H = some (.tuple #[], H') ∧ Post p H (m.inNumber b) H' := by
  refine meth_ex rfl Tryd.func109 rfl (Nat.le_of_ble_eq_true rfl) (by decide) (by kernel_rfl) h ?_
  have hg := h.get
  have hp := h.lt
  have hki : (m.pos : Int) = 13 := by rw [hk]; rfl
  have hd := fun H => digit_j (H := H) (b := b)
  have hf := fail0_l hg hp
  have he : ∀ H : LH, LC Tryd.prog EJ 110 [.int .i64 13] H = some (.bool false, H) := fun H => ended_j (q := 13)
  obtain ⟨Ha, ea, pa⟩ := after_ex (b := b) h
  cases cd : Tg.Json.digit b with
  | true =>
    have n46 : (b = 46) = False := eq_false (fun hx => by rw [hx] at cd; exact absurd cd (by decide))
    have n101 : (b = 101) = False := eq_false (fun hx => by rw [hx] at cd; exact absurd cd (by decide))
    have n69 : (b = 69) = False := eq_false (fun hx => by rw [hx] at cd; exact absurd cd (by decide))
    have n43 : (b = 43) = False := eq_false (fun hx => by rw [hx] at cd; exact absurd cd (by decide))
    have n45 : (b = 45) = False := eq_false (fun hx => by rw [hx] at cd; exact absurd cd (by decide))
    simp (config := { maxSteps := 8000000 }) [hg, hp, hki, hd, he, hf, ea, cd, n46, n101, n69, n43, n45]
    exact num_eqB h (by unfold M.inNumber; simp [hk, isE, Tg.Json.ended, cd, n46, n101, n69, n43, n45]) rfl rfl
  | false =>
    have n48 : (b = 48) = False := eq_false (fun hx => by rw [hx] at cd; exact absurd cd (by decide))
    by_cases c101 : b = 101
    · have n101 := eq_true c101
      have n69 : (b = 69) = False := eq_false (by rw [c101]; decide)
      simp (config := { maxSteps := 8000000 }) [hg, hp, hki, hd, he, hf, ea, cd, n48, n101, n69]
      exact num_eqB h (by unfold M.inNumber; simp [hk, isE, Tg.Json.ended, cd, n48, n101, n69]) rfl rfl
    have n101 := eq_false c101
    by_cases c69 : b = 69
    · have n69 := eq_true c69
      simp (config := { maxSteps := 8000000 }) [hg, hp, hki, hd, he, hf, ea, cd, n48, n101, n69]
      exact num_eqB h (by unfold M.inNumber; simp [hk, isE, Tg.Json.ended, cd, n48, n101, n69]) rfl rfl
    have n69 := eq_false c69
    simp (config := { maxSteps := 8000000 }) [hg, hp, hki, hd, he, hf, ea, cd, n48, n101, n69]
    exact num_eqB h (by unfold M.inNumber; simp [hk, isE, Tg.Json.ended, cd, n48, n101, n69]) rfl rfl
set_option maxHeartbeats 4000000 in
theorem num14_ex (h : At p H m v) (hk : m.pos = 14) : ∃ H', LC Tryd.prog EJ 109 [ptr p 0, .int .u8 b.toNat] H = some (.tuple #[], H') ∧ Post p H (m.inNumber b) H' := by
  refine meth_ex rfl Tryd.func109 rfl (Nat.le_of_ble_eq_true rfl) (by decide) (by kernel_rfl) h ?_
  have hg := h.get
  have hp := h.lt
  have hki : (m.pos : Int) = 14 := by rw [hk]; rfl
  have hd := fun H => digit_j (H := H) (b := b)
  have hf := fail0_l hg hp
  have he : ∀ H : LH, LC Tryd.prog EJ 110 [.int .i64 14] H = some (.bool true, H) := fun H => ended_j (q := 14)
  obtain ⟨Ha, ea, pa⟩ := after_ex (b := b) h
  cases cd : Tg.Json.digit b with
  | true =>
    have n46 : (b = 46) = False := eq_false (fun hx => by rw [hx] at cd; exact absurd cd (by decide))
    have n101 : (b = 101) = False := eq_false (fun hx => by rw [hx] at cd; exact absurd cd (by decide))
    have n69 : (b = 69) = False := eq_false (fun hx => by rw [hx] at cd; exact absurd cd (by decide))
    have n43 : (b = 43) = False := eq_false (fun hx => by rw [hx] at cd; exact absurd cd (by decide))
    have n45 : (b = 45) = False := eq_false (fun hx => by rw [hx] at cd; exact absurd cd (by decide))
    simp (config := { maxSteps := 8000000 }) [hg, hp, hki, hd, he, hf, ea, cd, n46, n101, n69, n43, n45]
    exact num_eqB h (by unfold M.inNumber; simp [hk, isE, Tg.Json.ended, cd, n46, n101, n69, n43, n45]) rfl rfl
  | false =>
    have n48 : (b = 48) = False := eq_false (fun hx => by rw [hx] at cd; exact absurd cd (by decide))
    by_cases c101 : b = 101
    · have n101 := eq_true c101
      have n46 : (b = 46) = False := eq_false (by rw [c101]; decide)
      have n69 : (b = 69) = False := eq_false (by rw [c101]; decide)
      have n43 : (b = 43) = False := eq_false (by rw [c101]; decide)
      have n45 : (b = 45) = False := eq_false (by rw [c101]; decide)
      simp (config := { maxSteps := 8000000 }) [hg, hp, hki, hd, he, hf, ea, cd, n48, n46, n101, n69, n43, n45]
      exact num_eqB h (by unfold M.inNumber; simp [hk, isE, Tg.Json.ended, cd, n48, n46, n101, n69, n43, n45]) rfl rfl
    have n101 := eq_false c101
    by_cases c69 : b = 69
    · have n69 := eq_true c69
      have n46 : (b = 46) = False := eq_false (by rw [c69]; decide)
      have n101 : (b = 101) = False := eq_false (by rw [c69]; decide)
      have n43 : (b = 43) = False := eq_false (by rw [c69]; decide)
      have n45 : (b = 45) = False := eq_false (by rw [c69]; decide)
      simp (config := { maxSteps := 8000000 }) [hg, hp, hki, hd, he, hf, ea, cd, n48, n46, n101, n69, n43, n45]
      exact num_eqB h (by unfold M.inNumber; simp [hk, isE, Tg.Json.ended, cd, n48, n46, n101, n69, n43, n45]) rfl rfl
    have n69 := eq_false c69
    simp (config := { maxSteps := 8000000 }) [hg, hp, hki, hd, he, hf, ea, cd, n48, n101, n69]
    exact num_afB pa (by unfold M.inNumber; simp [hk, isE, Tg.Json.ended, cd, n48, n101, n69])
set_option maxHeartbeats 4000000 in
theorem num15_ex (h : At p H m v) (hk : m.pos = 15) : ∃ H', LC Tryd.prog EJ 109 [ptr p 0, .int .u8 b.toNat] H = some (.tuple #[], H') ∧ Post p H (m.inNumber b) H' := by
  refine meth_ex rfl Tryd.func109 rfl (Nat.le_of_ble_eq_true rfl) (by decide) (by kernel_rfl) h ?_
  have hg := h.get
  have hp := h.lt
  have hki : (m.pos : Int) = 15 := by rw [hk]; rfl
  have hd := fun H => digit_j (H := H) (b := b)
  have hf := fail0_l hg hp
  have he : ∀ H : LH, LC Tryd.prog EJ 110 [.int .i64 15] H = some (.bool false, H) := fun H => ended_j (q := 15)
  obtain ⟨Ha, ea, pa⟩ := after_ex (b := b) h
  cases cd : Tg.Json.digit b with
  | true =>
    have n46 : (b = 46) = False := eq_false (fun hx => by rw [hx] at cd; exact absurd cd (by decide))
    have n101 : (b = 101) = False := eq_false (fun hx => by rw [hx] at cd; exact absurd cd (by decide))
    have n69 : (b = 69) = False := eq_false (fun hx => by rw [hx] at cd; exact absurd cd (by decide))
    have n43 : (b = 43) = False := eq_false (fun hx => by rw [hx] at cd; exact absurd cd (by decide))
    have n45 : (b = 45) = False := eq_false (fun hx => by rw [hx] at cd; exact absurd cd (by decide))
    simp (config := { maxSteps := 8000000 }) [hg, hp, hki, hd, he, hf, ea, cd, n46, n101, n69, n43, n45]
    exact num_eqB h (by unfold M.inNumber; simp [hk, isE, Tg.Json.ended, cd, n46, n101, n69, n43, n45]) rfl rfl
  | false =>
    have n48 : (b = 48) = False := eq_false (fun hx => by rw [hx] at cd; exact absurd cd (by decide))
    by_cases c43 : b = 43
    · have n43 := eq_true c43
      have n46 : (b = 46) = False := eq_false (by rw [c43]; decide)
      have n101 : (b = 101) = False := eq_false (by rw [c43]; decide)
      have n69 : (b = 69) = False := eq_false (by rw [c43]; decide)
      have n45 : (b = 45) = False := eq_false (by rw [c43]; decide)
      simp (config := { maxSteps := 8000000 }) [hg, hp, hki, hd, he, hf, ea, cd, n48, n46, n101, n69, n43, n45]
      exact num_eqB h (by unfold M.inNumber; simp [hk, isE, Tg.Json.ended, cd, n48, n46, n101, n69, n43, n45]) rfl rfl
    have n43 := eq_false c43
    by_cases c45 : b = 45
    · have n45 := eq_true c45
      have n46 : (b = 46) = False := eq_false (by rw [c45]; decide)
      have n101 : (b = 101) = False := eq_false (by rw [c45]; decide)
      have n69 : (b = 69) = False := eq_false (by rw [c45]; decide)
      have n43 : (b = 43) = False := eq_false (by rw [c45]; decide)
      simp (config := { maxSteps := 8000000 }) [hg, hp, hki, hd, he, hf, ea, cd, n48, n46, n101, n69, n43, n45]
      exact num_eqB h (by unfold M.inNumber; simp [hk, isE, Tg.Json.ended, cd, n48, n46, n101, n69, n43, n45]) rfl rfl
    have n45 := eq_false c45
    by_cases c101 : b = 101
    · have n101 := eq_true c101
      have n69 : (b = 69) = False := eq_false (by rw [c101]; decide)
      simp (config := { maxSteps := 8000000 }) [hg, hp, hki, hd, he, hf, ea, cd, n48, n43, n45, n101, n69]
      exact num_eqB h (by unfold M.inNumber; simp [hk, isE, Tg.Json.ended, cd, n48, n43, n45, n101, n69]) rfl rfl
    have n101 := eq_false c101
    by_cases c69 : b = 69
    · have n69 := eq_true c69
      simp (config := { maxSteps := 8000000 }) [hg, hp, hki, hd, he, hf, ea, cd, n48, n43, n45, n101, n69]
      exact num_eqB h (by unfold M.inNumber; simp [hk, isE, Tg.Json.ended, cd, n48, n43, n45, n101, n69]) rfl rfl
    have n69 := eq_false c69
    simp (config := { maxSteps := 8000000 }) [hg, hp, hki, hd, he, hf, ea, cd, n48, n43, n45, n101, n69]
    exact num_eqB h (by unfold M.inNumber; simp [hk, isE, Tg.Json.ended, cd, n48, n43, n45, n101, n69]) rfl rfl
end
end Go.Proofs.YtgnefbngkhjfcaaDoor.Jn
/-
  The machine of layer 27 (json): a byte within a number.
-/
set_option linter.unusedSimpArgs false
set_option linter.unusedVariables false
set_option maxRecDepth 100000
namespace Go.Proofs.YtgnefbngkhjfcaaDoor.Jn
open Go.Lg Tg.Json

section
variable {p : Nat} {H H' H1 : LH} {m m' m1 : M} {v v' : Value} {b : UInt8}

set_option maxHeartbeats 4000000 in
theorem num16_ex (h : At p H m v) (hk : m.pos = 16) : ∃ H', LC Tryd.prog EJ 109 [ptr p 0, .int .u8 b.toNat] H = some (.tuple #[], H') ∧ Post p H (m.inNumber b) H' := by
  refine meth_ex rfl Tryd.func109 rfl (Nat.le_of_ble_eq_true rfl) (by decide) (by kernel_rfl) h ?_
  have hg := h.get
  have hp := h.lt
  have hki : (m.pos : Int) = 16 := by rw [hk]; rfl
  have hd := fun H => digit_j (H := H) (b := b)
  have hf := fail0_l hg hp
  have he : ∀ H : LH, LC Tryd.prog EJ 110 [.int .i64 16] H = some (.bool false, H) := fun H => ended_j (q := 16)
  obtain ⟨Ha, ea, pa⟩ := after_ex (b := b) h
  cases cd : Tg.Json.digit b with
  | true =>
    have n46 : (b = 46) = False := eq_false (fun hx => by rw [hx] at cd; exact absurd cd (by decide))
    have n101 : (b = 101) = False := eq_false (fun hx => by rw [hx] at cd; exact absurd cd (by decide))
    have n69 : (b = 69) = False := eq_false (fun hx => by rw [hx] at cd; exact absurd cd (by decide))
    have n43 : (b = 43) = False := eq_false (fun hx => by rw [hx] at cd; exact absurd cd (by decide))
    have n45 : (b = 45) = False := eq_false (fun hx => by rw [hx] at cd; exact absurd cd (by decide))
    simp (config := { maxSteps := 8000000 }) [hg, hp, hki, hd, he, hf, ea, cd, n46, n101, n69, n43, n45]
    exact num_eq h (by unfold M.inNumber; simp [hk, isE, Tg.Json.ended, cd, n46, n101, n69, n43, n45]) rfl rfl
  | false =>
    have n48 : (b = 48) = False := eq_false (fun hx => by rw [hx] at cd; exact absurd cd (by decide))
    by_cases c101 : b = 101
    · have n101 := eq_true c101
      have n69 : (b = 69) = False := eq_false (by rw [c101]; decide)
      simp (config := { maxSteps := 8000000 }) [hg, hp, hki, hd, he, hf, ea, cd, n48, n101, n69]
      exact num_eq h (by unfold M.inNumber; simp [hk, isE, Tg.Json.ended, cd, n48, n101, n69]) rfl rfl
    have n101 := eq_false c101
    by_cases c69 : b = 69
    · have n69 := eq_true c69
      simp (config := { maxSteps := 8000000 }) [hg, hp, hki, hd, he, hf, ea, cd, n48, n101, n69]
      exact num_eq h (by unfold M.inNumber; simp [hk, isE, Tg.Json.ended, cd, n48, n101, n69]) rfl rfl
    have n69 := eq_false c69
    simp (config := { maxSteps := 8000000 }) [hg, hp, hki, hd, he, hf, ea, cd, n48, n101, n69]
    exact num_eq h (by unfold M.inNumber; simp [hk, isE, Tg.Json.ended, cd, n48, n101, n69]) rfl rfl
set_option maxHeartbeats 4000000 in
theorem num17_ex (h : At p H m v) (hk : m.pos = 17) : ∃ H', LC Tryd.prog EJ 109 [ptr p 0, .int .u8 b.toNat] H = some (.tuple #[], H') ∧ Post p H (m.inNumber b) H' := by
  refine meth_ex rfl Tryd.func109 rfl (Nat.le_of_ble_eq_true rfl) (by decide) (by kernel_rfl) h ?_
  have hg := h.get
  have hp := h.lt
  have hki : (m.pos : Int) = 17 := by rw [hk]; rfl
  have hd := fun H => digit_j (H := H) (b := b)
  have hf := fail0_l hg hp
  have he : ∀ H : LH, LC Tryd.prog EJ 110 [.int .i64 17] H = some (.bool true, H) := fun H => ended_j (q := 17)
  obtain ⟨Ha, ea, pa⟩ := after_ex (b := b) h
  cases cd : Tg.Json.digit b with
  | true =>
    have n46 : (b = 46) = False := eq_false (fun hx => by rw [hx] at cd; exact absurd cd (by decide))
    have n101 : (b = 101) = False := eq_false (fun hx => by rw [hx] at cd; exact absurd cd (by decide))
    have n69 : (b = 69) = False := eq_false (fun hx => by rw [hx] at cd; exact absurd cd (by decide))
    have n43 : (b = 43) = False := eq_false (fun hx => by rw [hx] at cd; exact absurd cd (by decide))
    have n45 : (b = 45) = False := eq_false (fun hx => by rw [hx] at cd; exact absurd cd (by decide))
    simp (config := { maxSteps := 8000000 }) [hg, hp, hki, hd, he, hf, ea, cd, n46, n101, n69, n43, n45]
    exact num_eq h (by unfold M.inNumber; simp [hk, isE, Tg.Json.ended, cd, n46, n101, n69, n43, n45]) rfl rfl
  | false =>
    have n48 : (b = 48) = False := eq_false (fun hx => by rw [hx] at cd; exact absurd cd (by decide))
    by_cases c101 : b = 101
    · have n101 := eq_true c101
      have n69 : (b = 69) = False := eq_false (by rw [c101]; decide)
      simp (config := { maxSteps := 8000000 }) [hg, hp, hki, hd, he, hf, ea, cd, n48, n101, n69]
      exact num_af pa (by unfold M.inNumber; simp [hk, isE, Tg.Json.ended, cd, n48, n101, n69])
    have n101 := eq_false c101
    by_cases c69 : b = 69
    · have n69 := eq_true c69
      simp (config := { maxSteps := 8000000 }) [hg, hp, hki, hd, he, hf, ea, cd, n48, n101, n69]
      exact num_af pa (by unfold M.inNumber; simp [hk, isE, Tg.Json.ended, cd, n48, n101, n69])
    have n69 := eq_false c69
    simp (config := { maxSteps := 8000000 }) [hg, hp, hki, hd, he, hf, ea, cd, n48, n101, n69]
    exact num_af pa (by unfold M.inNumber; simp [hk, isE, Tg.Json.ended, cd, n48, n101, n69])
theorem inNumber_ex (h : At p H m v) (h10 : 10 ≤ m.pos) (h17 : m.pos ≤ 17) : ∃ H', LC Tryd.prog EJ 109 [ptr p 0, .int .u8 b.toNat] H = some (.tuple #[], H') ∧ Post p H (m.inNumber b) H' := by
  have : m.pos = 10 ∨ m.pos = 11 ∨ m.pos = 12 ∨ m.pos = 13 ∨ m.pos = 14 ∨ m.pos = 15 ∨ m.pos = 16 ∨ m.pos = 17 := by omega
  rcases this with hk | hk | hk | hk | hk | hk | hk | hk
  · exact num10_ex h hk
  · exact num11_ex h hk
  · exact num12_ex h hk
  · exact num13_ex h hk
  · exact num14_ex h hk
  · exact num15_ex h hk
  · exact num16_ex h hk
  · exact num17_ex h hk
end
end Go.Proofs.YtgnefbngkhjfcaaDoor.Jn
/-
  The machine of layer 27 (json): bytes, all at once.
-/
set_option linter.unusedSimpArgs false
set_option linter.unusedVariables false
set_option maxRecDepth 100000
namespace Go.Proofs.YtgnefbngkhjfcaaDoor.Jn
open Go.Lg Tg.Json

section
variable {p : Nat} {H H' H1 : LH} {m m' m1 : M} {v v' : Value} {b : UInt8} {s : List UInt8}
set_option maxHeartbeats 4000000 in
theorem byte_ex (h : At p H m v) (hw : JWF m) : ∃ H', LC Tryd.prog EJ 89 [ptr p 0, .int .u8 b.toNat] H = some (.tuple #[], H') ∧ Post p H (m.byte b) H' := by
  refine meth_ex rfl Tryd.func89 rfl (Nat.le_of_ble_eq_true rfl) (by decide) (by kernel_rfl) h ?_
  have hg := h.get
  have hp := h.lt
  have en := fun m'' (g : m''.stack = m.stack) (d : m''.depth = m.depth) => h.setPost (m' := m'') g d
  have hwh := fun H => white_j (H := H) (b := b)
  have hf := fail0_l hg hp
  have key : ∀ k, m.pos = k → ∀ j : Nat, ((m.pos : Int) = (j : Int)) = (k = j) := fun k hk j => pos_eq hk j
  have e0 : ((m.pos : Int) = 0) = (m.pos = 0) := propext (by omega)
  have e1 : ((m.pos : Int) = 1) = (m.pos = 1) := propext (by omega)
  have e2 : ((m.pos : Int) = 2) = (m.pos = 2) := propext (by omega)
  have e3 : ((m.pos : Int) = 3) = (m.pos = 3) := propext (by omega)
  have e4 : ((m.pos : Int) = 4) = (m.pos = 4) := propext (by omega)
  have e5 : ((m.pos : Int) = 5) = (m.pos = 5) := propext (by omega)
  have e6 : ((m.pos : Int) = 6) = (m.pos = 6) := propext (by omega)
  have e7 : ((m.pos : Int) = 7) = (m.pos = 7) := propext (by omega)
  have e8 : ((m.pos : Int) = 8) = (m.pos = 8) := propext (by omega)
  have e9 : ((m.pos : Int) = 9) = (m.pos = 9) := propext (by omega)
  obtain ⟨Hb, eb, pb⟩ := begin_ex (b := b) h
  obtain ⟨Ha, ea, pa⟩ := after_ex (b := b) h
  obtain ⟨Ht, et, pt⟩ := inText_ex (b := b) h
  obtain ⟨Hs, es, ps⟩ := inSlash_ex (b := b) h
  unfold M.byte
  by_cases c0 : m.pos = 0
  · have f0 := eq_true c0
    rw [if_pos (.inl c0)]
    have f1 : (m.pos = 1) = False := eq_false (by omega)
    cases cw : Tg.Json.white b with
    | true =>
      rw [if_pos rfl]
      simp (config := { maxSteps := 4000000 }) [hg, hp, e0, f0, hwh, cw]; exact h.post
    | false =>
      rw [if_neg (by simp), if_neg (fun hx => by omega)]
      by_cases cb : b = 93
      · simp (config := { maxSteps := 4000000 }) [hg, hp, e0, f0, e1, f1, hwh, cw, eq_true cb, eb]; exact pb
      · simp (config := { maxSteps := 4000000 }) [hg, hp, e0, f0, e1, f1, hwh, cw, eq_false cb, eb]; exact pb
  have f0 := eq_false c0
  by_cases c1 : m.pos = 1
  · have f1 := eq_true c1
    rw [if_pos (.inr c1)]
    cases cw : Tg.Json.white b with
    | true =>
      rw [if_pos rfl]
      simp (config := { maxSteps := 4000000 }) [hg, hp, e0, f0, e1, f1, hwh, cw]; exact h.post
    | false =>
      rw [if_neg (by simp)]
      by_cases cb : b = 93
      · obtain ⟨H2, e2, p2⟩ := pop_ex h (hw.first (.inl c1))
        rw [if_pos ⟨cb, c1⟩]
        simp (config := { maxSteps := 4000000 }) [hg, hp, e0, f0, e1, f1, hwh, cw, eq_true cb, e2]; exact p2
      · rw [if_neg (fun hx => cb hx.1)]
        simp (config := { maxSteps := 4000000 }) [hg, hp, e0, f0, e1, f1, hwh, cw, eq_false cb, eb]; exact pb
  have f1 := eq_false c1
  rw [if_neg (by rintro (hx | hx); exact c0 hx; exact c1 hx)]
  by_cases c2 : m.pos = 2
  · have f2 := eq_true c2
    obtain ⟨Hn, en, pn⟩ := names_ex (b := b) h (fun h3 => hw.first (.inr h3))
    rw [if_pos (.inl c2)]
    simp (config := { maxSteps := 4000000 }) [hg, hp, e0, f0, e1, f1, e2, f2, en]; exact pn
  have f2 := eq_false c2
  by_cases c3 : m.pos = 3
  · have f3 := eq_true c3
    obtain ⟨Hn, en, pn⟩ := names_ex (b := b) h (fun h3 => hw.first (.inr h3))
    rw [if_pos (.inr c3)]
    simp (config := { maxSteps := 4000000 }) [hg, hp, e0, f0, e1, f1, e2, f2, e3, f3, en]; exact pn
  have f3 := eq_false c3
  rw [if_neg (by rintro (hx | hx); exact c2 hx; exact c3 hx)]
  by_cases c4 : m.pos = 4
  · have f4 := eq_true c4
    rw [if_pos c4]
    cases cw : Tg.Json.white b with
    | true =>
      rw [if_pos rfl]
      simp (config := { maxSteps := 4000000 }) [hg, hp, e0, f0, e1, f1, e2, f2, e3, f3, e4, f4, hwh, cw]; exact h.post
    | false =>
      rw [if_neg (by simp)]
      by_cases cb : b = 58
      · rw [if_pos cb]
        simp (config := { maxSteps := 4000000 }) [hg, hp, e0, f0, e1, f1, e2, f2, e3, f3, e4, f4, hwh, cw, eq_true cb]; exact en _ rfl rfl
      · rw [if_neg cb]
        simp (config := { maxSteps := 4000000 }) [hg, hp, e0, f0, e1, f1, e2, f2, e3, f3, e4, f4, hwh, cw, eq_false cb, hf]; exact en _ rfl rfl
  have f4 := eq_false c4
  rw [if_neg c4]
  by_cases c5 : m.pos = 5
  · rw [if_pos c5]
    simp (config := { maxSteps := 4000000 }) [hg, hp, e0, f0, e1, f1, e2, f2, e3, f3, e4, f4, e5, eq_true c5, ea]; exact pa
  have f5 := eq_false c5
  rw [if_neg c5]
  by_cases c6 : m.pos = 6
  · rw [if_pos c6]
    simp (config := { maxSteps := 4000000 }) [hg, hp, e0, f0, e1, f1, e2, f2, e3, f3, e4, f4, e5, f5, e6, eq_true c6, et]; exact pt
  have f6 := eq_false c6
  rw [if_neg c6]
  by_cases c7 : m.pos = 7
  · rw [if_pos c7]
    simp (config := { maxSteps := 4000000 }) [hg, hp, e0, f0, e1, f1, e2, f2, e3, f3, e4, f4, e5, f5, e6, f6, e7, eq_true c7, es]; exact ps
  have f7 := eq_false c7
  rw [if_neg c7]
  by_cases c8 : m.pos = 8
  · obtain ⟨Hu, eu, pu⟩ := inUnicode_ex (b := b) h (hw.hex1 c8) hw.hex
    rw [if_pos c8]
    simp (config := { maxSteps := 4000000 }) [hg, hp, e0, f0, e1, f1, e2, f2, e3, f3, e4, f4, e5, f5, e6, f6, e7, f7, e8, eq_true c8, eu]; exact pu
  have f8 := eq_false c8
  rw [if_neg c8]
  by_cases c9 : m.pos = 9
  · obtain ⟨Hu, eu, pu⟩ := inWord_ex (b := b) h (hw.rest c9)
    rw [if_pos c9]
    simp (config := { maxSteps := 4000000 }) [hg, hp, e0, f0, e1, f1, e2, f2, e3, f3, e4, f4, e5, f5, e6, f6, e7, f7, e8, f8, e9, eq_true c9, eu]; exact pu
  have f9 := eq_false c9
  rw [if_neg c9]
  obtain ⟨Hu, eu, pu⟩ := inNumber_ex (b := b) h (by omega) hw.pos
  simp (config := { maxSteps := 4000000 }) [hg, hp, e0, f0, e1, f1, e2, f2, e3, f3, e4, f4, e5, f5, e6, f6, e7, f7, e8, f8, e9, f9, eu]; exact pu
theorem tell_l (h : At p H m v) : LC Tryd.prog EJ 90 [ptr p 0] H = some (.int .i64 (m.tell : Nat), H) := by
  refine LC_pure rfl Tryd.func90 rfl (Nat.le_of_ble_eq_true rfl) (by decide) (by kernel_rfl) rfl ?_
  have hl := fun H' => h.row.len (H' := H') Tryd.underlying38
  have hg := h.get
  have hp := h.lt
  have e1 : ((m.state : Int) = 1) = (m.state = 1) := propext (by omega)
  have e5 : ((m.pos : Int) = 5) = (m.pos = 5) := propext (by omega)
  have he := fun H => ended_j (H := H) (q := m.pos)
  have hn : ((m.stack.length : Int) = 0) = (m.stack = []) := propext (by rw [← List.length_eq_zero_iff]; omega)
  unfold M.tell
  by_cases c1 : m.state = 1
  · by_cases c2 : m.stack = []
    · by_cases c3 : m.pos = 5
      · rw [if_pos ⟨c1, c2, .inl c3⟩]
        simp (config := { maxSteps := 4000000 }) [hg, hp, hl, e1, eq_true c1, hn, eq_true c2, e5, eq_true c3]
      · cases c4 : Tg.Json.ended m.pos with
        | true =>
          rw [if_pos ⟨c1, c2, .inr rfl⟩]
          simp (config := { maxSteps := 4000000 }) [hg, hp, hl, e1, eq_true c1, hn, eq_true c2, e5, eq_false c3, he, c4]
        | false =>
          rw [if_neg (by rintro ⟨_, _, hx | hx⟩; exact c3 hx; cases hx)]
          simp (config := { maxSteps := 4000000 }) [hg, hp, hl, e1, eq_true c1, hn, eq_true c2, e5, eq_false c3, he, c4]
    · rw [if_neg (fun hx => c2 hx.2.1)]
      simp (config := { maxSteps := 4000000 }) [hg, hp, hl, e1, eq_true c1, hn, eq_false c2]
  · rw [if_neg (fun hx => c1 hx.1)]
    simp (config := { maxSteps := 4000000 }) [hg, hp, hl, e1, eq_false c1]
theorem beg_jwf {m : M} (h : JWF m) (b : UInt8) : JWF (m.beg b) := h.beg b
set_option maxHeartbeats 4000000 in
theorem feed_ex (h : At p H m v) (hw : JWF m) (hs : s.length ≤ 1048576) (hse : m.seen ≤ 1099511627776) : ∃ H', LC Tryd.prog EJ 66 [ptr p 0, str s] H = some (.int .i64 ((m.feed s).tell : Nat), H') ∧ Post p H (m.feed s) H' := by
  refine meth_exv rfl Tryd.func66 rfl (Nat.le_of_ble_eq_true rfl) (by decide) (by kernel_rfl) h ?_
  simp
  refine loop_ind (fun (i : Nat) fr' H' => fr' 0 = ptr p 0 ∧ fr' 1 = str s ∧ fr' 9 = .int .i64 s.length ∧ fr' 10 = .int .i64 i ∧ i ≤ s.length ∧ Post p H (m.feed (s.take i)) H') (fun i => s.length - i) 0 ?_ ?_
  · exact ⟨by simp, by simp, by simp, by simp, Nat.zero_le _, h.post⟩
  rintro i fr' H' ⟨h0, h1, h9, h10, hi, hpo⟩ ih
  obtain ⟨v1, a1⟩ := hpo.at_
  have hg := a1.get
  have hp := a1.lt
  have hwf : JWF (m.feed (s.take i)) := hw.feed
  have hsn : (m.feed (s.take i)).seen ≤ 1099511627776 + 1048576 := by rw [seen_feed]; simp; omega
  by_cases hlt : i < s.length
  · have hwr : IntKind.i64.wrap ((i : Int) + 1) = ((i + 1 : Nat) : Int) := by rw [wrap64_in (by omega) (by omega)]; omega
    have hat : at_ s i = s[i] := by simp [at_, hlt]
    have hst : m.feed (s.take (i + 1)) = (m.feed (s.take i)).feed1 s[i] := by rw [List.take_succ_eq_append_getElem hlt, feed_append]; rfl
    generalize m.feed (s.take i) = m1 at *
    generalize hb : s[i] = b at *
    have hws : IntKind.i64.wrap ((m1.seen : Int) + 1) = ((m1.seen + 1 : Nat) : Int) := by rw [wrap64_in (by omega) (by omega)]; omega
    have hwh := fun H => white_j (H := H) (b := b)
    have e1 : ((m1.state : Int) = 1) = (m1.state = 1) := propext (by omega)
    have pb : Post p H' (m1.beg b) (H'.set p (mb (m1.beg b) v1)) := a1.setPost rfl rfl
    have ab : At p (H'.set p (mb (m1.beg b) v1)) (m1.beg b) v1 := a1.set rfl rfl
    have hbg : ∀ x, x = (m1.begun || !Tg.Json.white b) → mb { m1 with begun := x } v1 = mb (m1.beg b) v1 := fun x hx => by rw [hx]; rfl
    have gb := ab.get
    have lb := ab.lt
    have hws2 : IntKind.i64.wrap (((m1.beg b).seen : Int) + 1) = ((m1.seen + 1 : Nat) : Int) := hws
    by_cases ho : m1.state = 1
    · have fo := eq_true ho
      have fo2 : (((m1.beg b).state : Int) = 1) = True := eq_true (by show ((m1.state : Int) = 1); omega)
      obtain ⟨H2, e2, p2⟩ := byte_ex (b := b) ab (hwf.beg b)
      obtain ⟨v2, a2⟩ := p2.at_
      have hg2 := a2.get
      have hp2 := a2.lt
      have hws3 : IntKind.i64.wrap ((((m1.beg b).byte b).seen : Int) + 1) = ((m1.seen + 1 : Nat) : Int) := by rw [seen_byte]; exact hws
      rw [feed1_open ho] at hst
      cases hbb : m1.begun with
      | true =>
        have hb2 := hbg true (by rw [hbb]; rfl)
        simp (config := { maxSteps := 4000000 }) [h0, h1, h9, h10, hlt, hg, hp, hbb, hwr, hat, hb, hb2, gb, fo2, e2, hg2, hp2, hws3]
        refine ih (i + 1) _ _ (by omega) ⟨by simp [h0], by simp [h1], by simp [h9], by simp, hlt, ?_⟩
        rw [hst]
        exact ((hpo.trans pb).trans p2).trans (a2.setPost rfl rfl)
      | false =>
        have hb2 := hbg (!Tg.Json.white b) (by rw [hbb]; rfl)
        simp (config := { maxSteps := 4000000 }) [h0, h1, h9, h10, hlt, hg, hp, hbb, hwr, hat, hb, hwh, hb2, gb, fo2, e2, hg2, hp2, hws3]
        refine ih (i + 1) _ _ (by omega) ⟨by simp [h0], by simp [h1], by simp [h9], by simp, hlt, ?_⟩
        rw [hst]
        exact ((hpo.trans pb).trans p2).trans (a2.setPost rfl rfl)
    · have fo2 : (((m1.beg b).state : Int) = 1) = False := eq_false (by show ¬ ((m1.state : Int) = 1); omega)
      have hst2 : m1.feed1 b = { m1.beg b with seen := m1.seen + 1 } := by unfold M.feed1; simp only; rw [if_neg ho]; rfl
      rw [hst2] at hst
      cases hbb : m1.begun with
      | true =>
        have hb2 := hbg true (by rw [hbb]; rfl)
        simp (config := { maxSteps := 4000000 }) [h0, h1, h9, h10, hlt, hg, hp, hbb, hwr, hat, hb, hb2, gb, fo2, hws2]
        refine ih (i + 1) _ _ (by omega) ⟨by simp [h0], by simp [h1], by simp [h9], by simp, hlt, ?_⟩
        rw [hst]
        exact hpo.trans (a1.setPost rfl rfl)
      | false =>
        have hb2 := hbg (!Tg.Json.white b) (by rw [hbb]; rfl)
        simp (config := { maxSteps := 4000000 }) [h0, h1, h9, h10, hlt, hg, hp, hbb, hwr, hat, hb, hwh, hb2, gb, fo2, hws2]
        refine ih (i + 1) _ _ (by omega) ⟨by simp [h0], by simp [h1], by simp [h9], by simp, hlt, ?_⟩
        rw [hst]
        exact hpo.trans (a1.setPost rfl rfl)
  · have hi2 : s.take i = s := List.take_of_length_le (by omega)
    rw [hi2] at hpo a1
    have e := tell_l a1
    simp [h0, h1, h9, h10, hlt, e]
    exact hpo
theorem state_l (h : At p H m v) : LC Tryd.prog EJ 70 [ptr p 0] H = some (.int .i64 (m.tell : Nat), H) := by
  refine LC_pure rfl Tryd.func70 rfl (Nat.le_of_ble_eq_true rfl) (by decide) (by kernel_rfl) rfl ?_
  simp [tell_l h]
theorem begun_l (h : At p H m v) : LC Tryd.prog EJ 68 [ptr p 0] H = some (.bool m.begun, H) := by
  refine LC_pure rfl Tryd.func68 rfl (Nat.le_of_ble_eq_true rfl) (by decide) (by kernel_rfl) rfl ?_
  have hg := h.get
  simp [hg]
theorem mb_new {d : Nat} : (⟨[.int .i64 d, .slice none 0 0, .int .i64 0, .bool false, str [], .int .i64 0, .bool false, .int .i64 1, .int .i64 (-1), .int .i64 0], 84, true⟩ : LB) = mb (M.start d) (.slice none 0 0) := rfl
theorem new_l {d : Nat} (h1 : d ≤ 200) : LC Tryd.prog EJ 65 [.int .i64 (d : Nat)] H = some (.tuple #[ptr H.n 0, .int .i64 0], H.new (mb (M.start d) (.slice none 0 0))) := by
  obtain ⟨r, h, e⟩ := LC_runs (Q := fun r => r = (.tuple #[ptr H.n 0, .int .i64 0], H.new (mb (M.start d) (.slice none 0 0)))) (P := Tryd.prog) (E := EJ) (H := H) (args := [.int .i64 (d : Nat)]) rfl Tryd.func65 rfl (Nat.le_of_ble_eq_true rfl) (by decide) (by kernel_rfl) (by
    have f1 : ((d : Int) < 0) = False := eq_false (by omega)
    have f2 : (200 < (d : Int)) = False := eq_false (by omega)
    simp (config := { maxSteps := 4000000 }) [f1, f2, mb_new])
  rw [h, e, trunc_not (by simp [flatB, flat1B, atomB])]
theorem at_new {d : Nat} (h1 : d ≤ 200) (hd : ∀ l, H.n ≤ l → H.get l = none) : At H.n (H.new (mb (M.start d) (.slice none 0 0))) (M.start d) (.slice none 0 0) :=
  ⟨get_new, Nat.lt_succ_self _, .inl ⟨rfl, rfl⟩, fun l hl => by
    have : H.n + 1 ≤ l := hl
    rw [get_new_ne (by omega)]; exact hd l (by omega), by simp [M.start], by simp [M.start]; omega⟩
end
end Go.Proofs.YtgnefbngkhjfcaaDoor.Jn
/-
  The machine of layer 29 (lexer): where it lies, with the machines of both layers below.
-/
set_option linter.unusedSimpArgs false
set_option linter.unusedVariables false
set_option maxRecDepth 100000
namespace Go.Proofs.YtgnefbngkhjfcaaDoor.Jn
open Go.Lg Tg.Json
section
variable {p : Nat} {H H' : LH} {m m' : M} {v v' : Value}
theorem At.back (h : At p H m v) (ha : At p H' m' v') (hle : H.le H') : At p H m' v' := by
  have hg := ha.get
  rw [hle.2 p h.lt, h.get] at hg
  injection hg with hg
  have hv := mb_inj hg
  subst hv
  exact ⟨by rw [h.get, hg], h.lt, ha.row.keep (fun k hk hn => (hle.2 k (h.row_lt hn)).symm), h.dom, ha.len, ha.depth⟩
end
end Go.Proofs.YtgnefbngkhjfcaaDoor.Jn
namespace Go.Proofs.YtgnefbngkhjfcaaDoor
open Go.Lg
section
open Tg.Js
variable {p : Nat} {H H' : LH} {m m' : M} {v v' : Value}
theorem At.back (h : At p H m v) (ha : At p H' m' v') (hle : H.le H') : At p H m' v' := by
  have hg := ha.get
  rw [hle.2 p h.lt, h.get] at hg
  injection hg with hg
  have hv := mb_inj hg
  subst hv
  exact ⟨by rw [h.get, hg], h.lt, ha.row.keep (fun k hk hn => (hle.2 k (h.row_lt hn)).symm), h.dom, ha.len, ha.depth⟩
end
end Go.Proofs.YtgnefbngkhjfcaaDoor
namespace Go.Proofs.YtgnefbngkhjfcaaDoor.Lx
open Go.Lg Tg.Lx

/-- the machine's cells -/
def lc (m : L) (pj ps : Nat) : List Value := [ptr pj 0, ptr ps 0, .int .i64 m.verdict, str m.reason, .int .i64 m.at_, .int .i64 m.seen, .bool m.ended]
def lb (m : L) (pj ps : Nat) : LB := ⟨lc m pj ps, 64, true⟩
section
variable {H : LH} {b : UInt8} {m : L} {p pj ps : Nat}
@[simp] theorem lb_len : (lb m pj ps).cells.length = 7 := by simp only [lb, lc]; simp only [List.length_cons, List.length_nil]
@[simp] theorem lb_rw : (lb m pj ps).rw = true := by simp only [lb]
@[simp] theorem ld_j : (lb m pj ps).cells[0]? = some (ptr pj 0) := rfl
@[simp] theorem lg_j {hl : 0 < (lb m pj ps).cells.length} : (lb m pj ps).cells[0]'hl = ptr pj 0 := rfl
@[simp] theorem ld_s : (lb m pj ps).cells[1]? = some (ptr ps 0) := rfl
@[simp] theorem lg_s {hl : 1 < (lb m pj ps).cells.length} : (lb m pj ps).cells[1]'hl = ptr ps 0 := rfl
@[simp] theorem ld_verdict : (lb m pj ps).cells[2]? = some (.int .i64 m.verdict) := rfl
@[simp] theorem lg_verdict {hl : 2 < (lb m pj ps).cells.length} : (lb m pj ps).cells[2]'hl = .int .i64 m.verdict := rfl
@[simp] theorem st_verdict {x : Int} : (⟨(lb m pj ps).cells.set 2 (.int .i64 x), (lb m pj ps).elem, true⟩ : LB) = lb { m with verdict := x } pj ps := rfl
@[simp] theorem ld_reason : (lb m pj ps).cells[3]? = some (str m.reason) := rfl
@[simp] theorem lg_reason {hl : 3 < (lb m pj ps).cells.length} : (lb m pj ps).cells[3]'hl = str m.reason := rfl
@[simp] theorem st_reason {x : List UInt8} : (⟨(lb m pj ps).cells.set 3 (str x), (lb m pj ps).elem, true⟩ : LB) = lb { m with reason := x } pj ps := rfl
@[simp] theorem ld_at : (lb m pj ps).cells[4]? = some (.int .i64 m.at_) := rfl
@[simp] theorem lg_at {hl : 4 < (lb m pj ps).cells.length} : (lb m pj ps).cells[4]'hl = .int .i64 m.at_ := rfl
@[simp] theorem st_at {x : Int} : (⟨(lb m pj ps).cells.set 4 (.int .i64 x), (lb m pj ps).elem, true⟩ : LB) = lb { m with at_ := x } pj ps := rfl
@[simp] theorem ld_seen : (lb m pj ps).cells[5]? = some (.int .i64 m.seen) := rfl
@[simp] theorem lg_seen {hl : 5 < (lb m pj ps).cells.length} : (lb m pj ps).cells[5]'hl = .int .i64 m.seen := rfl
@[simp] theorem st_seen {x : Int} : (⟨(lb m pj ps).cells.set 5 (.int .i64 x), (lb m pj ps).elem, true⟩ : LB) = lb { m with seen := x } pj ps := rfl
@[simp] theorem ld_ended : (lb m pj ps).cells[6]? = some (.bool m.ended) := rfl
@[simp] theorem lg_ended {hl : 6 < (lb m pj ps).cells.length} : (lb m pj ps).cells[6]'hl = .bool m.ended := rfl
@[simp] theorem st_ended {x : Bool} : (⟨(lb m pj ps).cells.set 6 (.bool x), (lb m pj ps).elem, true⟩ : LB) = lb { m with ended := x } pj ps := rfl
/-- all that lies of a lexer: its own block, both machines, their rows; all of it behind what was there in H0 -/
structure At (H0 : LH) (p pj ps : Nat) (vj vs : Value) (H : LH) (m : L) : Prop where
  get : H.get p = some (lb m pj ps)
  lt : p < H.n
  aj : Jn.At pj H m.j vj
  aS : Go.Proofs.YtgnefbngkhjfcaaDoor.At ps H m.s vs
  d1 : p ≠ pj
  d2 : p ≠ ps
  d3 : pj ≠ ps
  o1 : offRow vj p
  o2 : offRow vs p
  o3 : offRow vj ps
  o4 : offRow vs pj
  o5 : ∀ k, offRow vj k ∨ offRow vs k
  tab : Tab H
  wf : Tg.Json.JWF m.j
  n0 : H0.n ≤ H.n
  b0 : H0.n ≤ p ∧ H0.n ≤ pj ∧ H0.n ≤ ps
  r0 : ∀ k, k < H0.n → offRow vj k ∧ offRow vs k
  keep : ∀ k, k < H0.n → H.get k = H0.get k
def Post (H0 : LH) (p pj ps : Nat) (m : L) (H : LH) : Prop := ∃ vj vs, At H0 p pj ps vj vs H m
variable {H0 H' : LH} {m' : L} {vj vs vj' vs' : Value}
theorem At.post (h : At H0 p pj ps vj vs H m) : Post H0 p pj ps m H := ⟨_, _, h⟩
theorem At.le (h : At H0 p pj ps vj vs H m) : H0.le H := ⟨h.n0, h.keep⟩
/-- the lexer's own cells are written -/
theorem At.set (h : At H0 p pj ps vj vs H m) (hj : m'.j = m.j) (hs : m'.s = m.s) : At H0 p pj ps vj vs (H.set p (lb m' pj ps)) m' := by
  refine ⟨get_set, h.lt, ?_, ?_, h.d1, h.d2, h.d3, h.o1, h.o2, h.o3, h.o4, h.o5, h.tab, by rw [hj]; exact h.wf, h.n0, h.b0, h.r0, fun k hk => ?_⟩
  · rw [hj]
    exact h.aj.keep (Nat.le_refl _) (fun k hk hx => get_set_ne (fun e => by rcases hx with hx | hx; exact h.d1 (e.symm.trans hx); exact hx (e ▸ h.o1))) (fun l hl => by have hl' : H.n ≤ l := hl; have := h.lt; rw [get_set_ne (by omega)]; exact h.aj.dom l hl')
  · rw [hs]
    exact h.aS.keep (Nat.le_refl _) (fun k hk hx => get_set_ne (fun e => by rcases hx with hx | hx; exact h.d2 (e.symm.trans hx); exact hx (e ▸ h.o2))) (fun l hl => by have hl' : H.n ≤ l := hl; have := h.lt; rw [get_set_ne (by omega)]; exact h.aS.dom l hl')
  · rw [get_set_ne (by have := h.b0.1; omega)]; exact h.keep k hk
/-- a new block -/
theorem At.new (h : At H0 p pj ps vj vs H m) {B : LB} : At H0 p pj ps vj vs (H.new B) m :=
  ⟨by rw [get_new_ne (by have := h.lt; omega)]; exact h.get, Nat.lt_succ_of_lt h.lt, h.aj.new, h.aS.new, h.d1, h.d2, h.d3, h.o1, h.o2, h.o3, h.o4, h.o5, h.tab, h.wf, Nat.le_succ_of_le h.n0, h.b0, h.r0,
    fun k hk => by have := h.n0; rw [get_new_ne (by omega)]; exact h.keep k hk⟩
/-- the machine of JSON has gone on -/
theorem At.goJ (h : At H0 p pj ps vj vs H m) {j' : Tg.Json.M} (hp : Jn.Post pj H j' H') (hw : Tg.Json.JWF j') : ∃ vj', At H0 p pj ps vj' vs H' { m with j := j' } := by
  obtain ⟨vj', ha⟩ := hp.at_
  have k := hp.fr _ _ _ h.aj ha
  have hlt := h.aS.lt
  refine ⟨vj', by rw [k.keep p h.lt h.d1 h.o1]; exact h.get, Nat.lt_of_lt_of_le h.lt k.n, ha, ?_, h.d1, h.d2, h.d3, k.off p h.lt h.d1 h.o1, h.o2, k.off ps hlt (Ne.symm h.d3) h.o3, h.o4, fun q => ?_, ⟨by rw [k.ng]; exact h.tab.1, by rw [k.base]; exact h.tab.2⟩, hw, Nat.le_trans h.n0 k.n, h.b0, fun q hq => ?_, fun q hq => ?_⟩
  · refine h.aS.keep k.n (fun q hq hx => ?_) ha.dom
    rcases hx with rfl | hx
    · exact k.keep _ hq (Ne.symm h.d3) h.o3
    · refine k.keep q hq (fun e => hx (e ▸ h.o4)) ?_
      rcases h.o5 q with h5 | h5
      · exact h5
      · exact absurd h5 hx
  · by_cases hx : offRow vs q
    · exact .inr hx
    · refine .inl (k.off q (h.aS.row_lt hx) (fun e => hx (e ▸ h.o4)) ?_)
      rcases h.o5 q with h5 | h5
      · exact h5
      · exact absurd h5 hx
  · have := h.b0.2.1
    have hn := h.n0
    exact ⟨k.off q (by omega) (by omega) (h.r0 q hq).1, (h.r0 q hq).2⟩
  · have := h.b0.2.1
    have hn := h.n0
    rw [k.keep q (by omega) (by omega) (h.r0 q hq).1]; exact h.keep q hq
theorem At.goS (h : At H0 p pj ps vj vs H m) {s' : Tg.Js.M} (hp : Go.Proofs.YtgnefbngkhjfcaaDoor.Post ps H s' H') : ∃ vs', At H0 p pj ps vj vs' H' { m with s := s' } := by
  obtain ⟨vs', ha⟩ := hp.at_
  have k := hp.fr _ _ _ h.aS ha
  have hlt := h.aj.lt
  refine ⟨vs', by rw [k.keep p h.lt h.d2 h.o2]; exact h.get, Nat.lt_of_lt_of_le h.lt k.n, ?_, ha, h.d1, h.d2, h.d3, h.o1, k.off p h.lt h.d2 h.o2, h.o3, k.off pj hlt h.d3 h.o4, fun q => ?_, ⟨by rw [k.ng]; exact h.tab.1, by rw [k.base]; exact h.tab.2⟩, h.wf, Nat.le_trans h.n0 k.n, h.b0, fun q hq => ?_, fun q hq => ?_⟩
  · refine h.aj.keep k.n (fun q hq hx => ?_) ha.dom
    rcases hx with rfl | hx
    · exact k.keep _ hq h.d3 h.o4
    · refine k.keep q hq (fun e => hx (e ▸ h.o3)) ?_
      rcases h.o5 q with h5 | h5
      · exact absurd h5 hx
      · exact h5
  · by_cases hx : offRow vj q
    · exact .inl hx
    · refine .inr (k.off q (h.aj.row_lt hx) (fun e => hx (e ▸ h.o3)) ?_)
      rcases h.o5 q with h5 | h5
      · exact absurd h5 hx
      · exact h5
  · have := h.b0.2.2
    have hn := h.n0
    exact ⟨(h.r0 q hq).1, k.off q (by omega) (by omega) (h.r0 q hq).2⟩
  · have := h.b0.2.2
    have hn := h.n0
    rw [k.keep q (by omega) (by omega) (h.r0 q hq).2]; exact h.keep q hq
/-- a method of the lexer -/
theorem meth_exv {u : Value} {f : FuncId} {fn : Func} {c : Code} {args : List Value} (he : EJ f = none) (hf : Tryd.prog.funcs[f]? = some fn) (hb : fn.body = some c) (hN : args.length ≤ fn.ntmps) (hname : fn.name ≠ "runtime.NumGoroutine") (hcd : codeOk EJ.loud fn.ntmps c = true)
    (h : At H0 p pj ps vj vs H m) (hr : Runs Tryd.prog EJ fn [.code c] (enter args) H (fun r => r.1 = u ∧ Post H0 p pj ps m' r.2)) : ∃ H', LC Tryd.prog EJ f args H = some (u, H') ∧ Post H0 p pj ps m' H' := by
  obtain ⟨⟨u', H'⟩, hl, hu, hp⟩ := LC_runs he hf hb hN hname hcd hr
  simp only at hu
  subst hu
  rcases trunc_or u' H H' with e | ⟨e, _, hle⟩
  · exact ⟨H', by rw [hl, e], hp⟩
  · refine ⟨H, by rw [hl, e], ?_⟩
    obtain ⟨vj', vs', ha⟩ := hp
    refine ⟨vj', vs', ?_, h.lt, h.aj.back ha.aj hle, h.aS.back ha.aS hle, h.d1, h.d2, h.d3, ha.o1, ha.o2, ha.o3, ha.o4, ha.o5, h.tab, ha.wf, h.n0, h.b0, ha.r0, h.keep⟩
    rw [← hle.2 p h.lt]; exact ha.get
end
end Go.Proofs.YtgnefbngkhjfcaaDoor.Lx
/-
  The laws of layer 28 (jscript): what they come to.
-/
set_option linter.unusedSimpArgs false
set_option linter.unusedVariables false
set_option maxRecDepth 100000
namespace Go.Proofs.YtgnefbngkhjfcaaDoor
open Go.Lg Tg.Js

section
variable {p : Nat} {H H' H1 : LH} {m m' m1 : M} {v v' : Value} {b : UInt8} {s t : List UInt8}
theorem cut_l {k : Int} (h0 : 0 ≤ k) : LC Tryd.prog EJ 10 [str s, .int .i64 k] H = some (str (s.take k.toNat), H) := by
  refine LC_pure rfl Tryd.func10 rfl (Nat.le_of_ble_eq_true rfl) (by decide) (by kernel_rfl) (by simp) ?_
  by_cases hc : k < s.length
  · have f := eq_true hc
    have f2 := eq_true (show k ≤ s.length by omega)
    have f3 := eq_true h0
    simp [f, f2, f3]
  · have f := eq_false hc
    have e : s.take k.toNat = s := List.take_of_length_le (by omega)
    simp [f, e]
theorem New_l {d : Int} (h0 : 0 ≤ d) (h1 : d ≤ 200) : LC Tryd.prog EJ 36 [.int .i64 d] H = some (.tuple #[ptr H.n 0, .int .i64 0], H.new (mb (new d) (.slice none 0 0))) := by
  obtain ⟨r, h, e⟩ := new_l (H := H) h0 h1
  rw [h, e]
theorem whole_l {d : Int} (hd : ∀ l, H.n ≤ l → H.get l = none) (ht : Tab H) (hs : s.length ≤ 1048576) : LC Tryd.prog EJ 11 [str s, .int .i64 d] H = some (.tuple #[.int .i64 ((new (clamp d)).feed s).tell, .int .i64 ((new (clamp d)).feed s).place, .int .i64 ((new (clamp d)).feed s).ends], H) := by
  have hc : 0 ≤ clamp d ∧ clamp d ≤ 200 := by unfold clamp; repeat' split
                                              all_goals omega
  have ha := at_new (H := H) hc.1 hc.2 hd
  obtain ⟨H2, e2, p2⟩ := feed_ex ha (show Tab _ from ⟨ht.1, ht.2⟩) hs
  obtain ⟨v2, a2⟩ := p2.at_
  have hk2 := p2.fr _ _ _ ha a2
  have hg := a2.get
  have hp := a2.lt
  have e3 := tell_ro a2
  refine LC_pure rfl Tryd.func11 rfl (Nat.le_of_ble_eq_true rfl) (by decide) (by kernel_rfl) (by simp [flatB, flat1B, atomB]) ?_
  have hcl : (if 200 < (if d < 0 then (0 : Int) else d) then (200 : Int) else if d < 0 then 0 else d) = clamp d := by unfold clamp; rfl
  simp (config := { maxSteps := 4000000 }) [hcl, New_l hc.1 hc.2, e2, hg, hp, e3]
  have hle : H.le H2 := hk2.le (Nat.le_succ _) (Nat.le_refl _) (fun k _ => off_nil) (fun k hk => get_new_ne (by omega))
  exact hle
theorem clamp_in {d : Int} (h0 : 0 ≤ d) (h1 : d ≤ 200) : clamp d = d := by
  unfold clamp
  rw [if_neg (show ¬ d < 0 by omega), if_neg (by omega)]
theorem lit1 : w "var x = 1;" = [118, 97, 114, 32, 120, 32, 61, 32, 49, 59] := by decide +kernel
theorem lit2 : w "Hello world" = [72, 101, 108, 108, 111, 32, 119, 111, 114, 108, 100] := by decide +kernel
theorem lives_l (hd : ∀ l, H.n ≤ l → H.get l = none) (ht : Tab H) : LC Tryd.prog EJ 12 [] H = some (.bool true, H) := by
  refine LC_pure rfl Tryd.func12 rfl (Nat.le_of_ble_eq_true rfl) (by decide) (by kernel_rfl) rfl ?_
  have h1 := whole_l (s := w "var x = 1;") (d := 5) hd ht (by rw [lit1]; decide)
  have h2 := whole_l (s := w "Hello world") (d := 5) hd ht (by rw [lit2]; decide)
  have hc : clamp 5 = 5 := by decide
  rw [hc, lives1.1, lives1.2, lit1] at h1
  rw [hc, lives2.1, lives2.2, lit2] at h2
  simp [h1, h2]
theorem none_l (hd : ∀ l, H.n ≤ l → H.get l = none) (ht : Tab H) : LC Tryd.prog EJ 5 [str s] H = some (.bool true, H) := by
  refine LC_pure rfl Tryd.func5 rfl (Nat.le_of_ble_eq_true rfl) (by decide) (by kernel_rfl) rfl ?_
  have h0 : LC Tryd.prog EJ 15 [.pointer none, str s] H = some (.int .i64 0, H) := by
    refine LC_pure rfl Tryd.func15 rfl (Nat.le_of_ble_eq_true rfl) (by decide) (by kernel_rfl) rfl ?_
    simp
  have h1 : LC Tryd.prog EJ 16 [.pointer none] H = some (.int .i64 0, H) := by
    refine LC_pure rfl Tryd.func16 rfl (Nat.le_of_ble_eq_true rfl) (by decide) (by kernel_rfl) rfl ?_
    simp
  have h2 : LC Tryd.prog EJ 17 [.pointer none] H = some (.int .i64 (-1), H) := by
    refine LC_pure rfl Tryd.func17 rfl (Nat.le_of_ble_eq_true rfl) (by decide) (by kernel_rfl) rfl ?_
    simp
  have h3 : LC Tryd.prog EJ 18 [.pointer none] H = some (.int .i64 0, H) := by
    refine LC_pure rfl Tryd.func18 rfl (Nat.le_of_ble_eq_true rfl) (by decide) (by kernel_rfl) rfl ?_
    simp
  have h4 : LC Tryd.prog EJ 19 [.pointer none] H = some (.int .i64 0, H) := by
    refine LC_pure rfl Tryd.func19 rfl (Nat.le_of_ble_eq_true rfl) (by decide) (by kernel_rfl) rfl ?_
    simp
  have h5 : LC Tryd.prog EJ 20 [.pointer none] H = some (.int .i64 0, H) := by
    refine LC_pure rfl Tryd.func20 rfl (Nat.le_of_ble_eq_true rfl) (by decide) (by kernel_rfl) rfl ?_
    simp
  have h6 : LC Tryd.prog EJ 21 [.pointer none] H = some (.int .i64 0, H) := by
    refine LC_pure rfl Tryd.func21 rfl (Nat.le_of_ble_eq_true rfl) (by decide) (by kernel_rfl) rfl ?_
    simp
  have h7 := lives_l hd ht
  simp [h0, h1, h2, h3, h4, h5, h6, h7]
theorem Keyword_l (ht : Tab H) : LC Tryd.prog EJ 13 [str s] H = some (.bool (isKeyword s), H) := by
  refine LC_pure rfl Tryd.func13 rfl (Nat.le_of_ble_eq_true rfl) (by decide) (by kernel_rfl) rfl ?_
  simp [isKeyword_l ht]
theorem stays_l {d : UInt8} (hd : ∀ l, H.n ≤ l → H.get l = none) (ht : Tab H) : LC Tryd.prog EJ 3 [str s, str t, .int .u8 d.toNat] H = some (.bool true, H) := by
  refine LC_pure rfl Tryd.func3 rfl (Nat.le_of_ble_eq_true rfl) (by decide) (by kernel_rfl) rfl ?_
  have hs := cut_l (H := H) (s := s) (k := 200) (by decide)
  have htt := cut_l (H := H) (s := t) (k := 100) (by decide)
  have l1 : (s.take (200 : Int).toNat).length ≤ 200 := by simp; omega
  have l2 : (t.take (100 : Int).toNat).length ≤ 100 := by simp; omega
  generalize s.take (200 : Int).toNat = s' at *
  generalize t.take (100 : Int).toNat = t' at *
  have hq : (d.toNat : Int).tmod 20 = ((d.toNat % 20 : Nat) : Int) := by rw [Int.tmod_eq_emod_of_nonneg (by omega)]; omega
  have hcl : clamp ((d.toNat % 20 : Nat) : Int) = ((d.toNat % 20 : Nat) : Int) := clamp_in (by omega) (by omega)
  have hw : IntKind.i64.wrap ((d.toNat % 20 : Nat) : Int) = ((d.toNat % 20 : Nat) : Int) := w64_in (by omega) (by omega)
  generalize ((d.toNat % 20 : Nat) : Int) = D at *
  have w1 := whole_l (s := s') (d := D) hd ht (by omega)
  have w2 := whole_l (s := s' ++ t') (d := D) hd ht (by simp; omega)
  rw [hcl] at w1 w2
  have h7 := lives_l hd ht
  have hcat : (s'.length + t'.length ≤ 9223372036854775807) = True := eq_true (by omega)
  obtain ⟨k1, k2⟩ := M.stays D s' t' (by omega) (by omega)
  by_cases hc : ((new D).feed s').tell = 0
  · obtain ⟨a1, a2, a3, a4, a5⟩ := k1 hc
    simp (config := { maxSteps := 4000000 }) [hs, htt, hq, hw, w1, w2, h7, hcat, hc, a1, a2, a3, a4, a5]
  · obtain ⟨a1, a2, a3⟩ := k2 hc
    have f := eq_false hc
    rcases a2 with a2 | a2
    · simp (config := { maxSteps := 4000000 }) [hs, htt, hq, hw, w1, w2, h7, hcat, f, a1, a2, a3]
    · by_cases a4 : ((new D).feed (s' ++ t')).place = -1
      · simp (config := { maxSteps := 4000000 }) [hs, htt, hq, hw, w1, w2, h7, hcat, f, a1, a4, a3]
      · have f4 := eq_false a4
        simp (config := { maxSteps := 4000000 }) [hs, htt, hq, hw, w1, w2, h7, hcat, f, a1, f4, a2, a3]
end
end Go.Proofs.YtgnefbngkhjfcaaDoor
/-
  The machine of layer 29 (lexer): bytes, the end, all at once.
-/
set_option linter.unusedSimpArgs false
set_option linter.unusedVariables false
set_option maxRecDepth 100000
namespace Go.Proofs.YtgnefbngkhjfcaaDoor.Lx
open Go.Lg Tg.Lx

section
variable {H H' H0 : LH} {b : UInt8} {m m' : L} {p pj ps : Nat} {vj vs : Value} {s : List UInt8}
theorem settle_l {v : Int} {r : List UInt8} (hg : H.get p = some (lb m pj ps)) (hp : p < H.n) : LC Tryd.prog EJ 69 [ptr p 0, .int .i64 v, str r] H = some (.tuple #[], H.set p (lb (m.settle v r) pj ps)) := by
  refine own rfl Tryd.func69 rfl (Nat.le_of_ble_eq_true rfl) (by decide) (by kernel_rfl) hg hp ?_
  simp (config := { maxSteps := 2000000 }) [hg, hp, L.settle]
theorem ends_l {ms : Tg.Js.M} (h : Go.Proofs.YtgnefbngkhjfcaaDoor.At ps H ms vs) : LC Tryd.prog EJ 19 [ptr ps 0] H = some (.int .i64 ms.ends, H) := by
  refine LC_pure rfl Tryd.func19 rfl (Nat.le_of_ble_eq_true rfl) (by decide) (by kernel_rfl) rfl ?_
  have hg := h.get
  simp [hg]
theorem sstate_l {ms : Tg.Js.M} (h : Go.Proofs.YtgnefbngkhjfcaaDoor.At ps H ms vs) : LC Tryd.prog EJ 16 [ptr ps 0] H = some (.int .i64 ms.tell, H) := by
  refine LC_pure rfl Tryd.func16 rfl (Nat.le_of_ble_eq_true rfl) (by decide) (by kernel_rfl) rfl ?_
  simp [tell_l h]
theorem tellJ3 {j : Tg.Json.M} (n : Nat) : ((j.tell : Int) = (n : Int)) = (j.tell = n) := propext (by omega)
theorem look_ex (h : At H0 p pj ps vj vs H m) : ∃ H', LC Tryd.prog EJ 67 [ptr p 0] H = some (.tuple #[], H') ∧ Post H0 p pj ps m.look H' := by
  refine meth_exv rfl Tryd.func67 rfl (Nat.le_of_ble_eq_true rfl) (by decide) (by kernel_rfl) h ?_
  have hg := h.get
  have hp := h.lt
  have hj := Jn.state_l h.aj
  have hs := sstate_l h.aS
  have he := ends_l h.aS
  have hse := fun v r => settle_l (v := v) (r := r) hg hp
  have e3 : ((m.j.tell : Int) = 3) = (m.j.tell = 3) := tellJ3 3
  have e0 : ((m.j.tell : Int) = 0) = (m.j.tell = 0) := tellJ3 0
  have en := fun v r => (h.set (m' := m.settle v r) rfl rfl).post
  unfold L.look
  by_cases c1 : m.j.tell = 3
  · rw [if_pos c1]
    simp (config := { maxSteps := 4000000 }) [hg, hp, hj, hs, he, e3, eq_true c1, hse]
    exact en _ _
  rw [if_neg c1]
  have f1 := eq_false c1
  by_cases c2 : m.s.tell = 0
  · rw [if_pos c2]
    simp (config := { maxSteps := 4000000 }) [hg, hp, hj, hs, he, e3, f1, eq_true c2, hse]
    exact en _ _
  rw [if_neg c2]
  have f2 := eq_false c2
  by_cases c3 : m.j.tell = 0
  · have f3 := eq_true c3
    by_cases c4 : 0 < m.s.ends
    · rw [if_pos ⟨c3, c4⟩]
      simp (config := { maxSteps := 4000000 }) [hg, hp, hj, hs, he, e3, f1, f2, e0, f3, eq_true c4, hse]
      exact en _ _
    · rw [if_neg (fun hx => c4 hx.2)]
      simp (config := { maxSteps := 4000000 }) [hg, hp, hj, hs, he, e3, f1, f2, e0, f3, eq_false c4, hse]
      exact h.post
  · rw [if_neg (fun hx => c3 hx.1)]
    simp (config := { maxSteps := 4000000 }) [hg, hp, hj, hs, he, e3, f1, f2, e0, eq_false c3, hse]
    exact h.post
theorem jseen_step (m : L) (b : UInt8) : (m.step b).j.seen ≤ m.j.seen + 1 := by
  unfold L.step
  split
  · show m.j.seen ≤ _; omega
  · have : ((m.see.take1 b).look).j = m.j.feed [b] := by
      rcases L.look_cases (m.see.take1 b) with e | ⟨v, r, _, e⟩ <;> rw [e] <;> rfl
    rw [this, Tg.Json.seen_feed]; simp
theorem jseen_feed (t : List UInt8) : ∀ m : L, (m.feed t).j.seen ≤ m.j.seen + t.length := by
  induction t with
  | nil => intro m; exact Nat.le_refl _
  | cons b r ih =>
    intro m
    have h1 := ih (m.step b)
    have h2 := jseen_step m b
    show ((m.step b).feed r).j.seen ≤ _
    simp only [List.length_cons]; omega
set_option maxHeartbeats 4000000 in
theorem feed0_ex (h : At H0 p pj ps vj vs H m) (hs : s.length ≤ 1048576) (hse : m.j.seen ≤ 549755813888) : ∃ H', LC Tryd.prog EJ 44 [ptr p 0, str s] H = some (.int .i64 (m.feed s).verdict, H') ∧ Post H0 p pj ps (m.feed s) H' := by
  refine meth_exv rfl Tryd.func44 rfl (Nat.le_of_ble_eq_true rfl) (by decide) (by kernel_rfl) h ?_
  simp
  refine loop_ind (fun (i : Nat) fr' H' => fr' 0 = ptr p 0 ∧ fr' 1 = str s ∧ fr' 7 = .int .i64 s.length ∧ fr' 8 = .int .i64 i ∧ i ≤ s.length ∧ Post H0 p pj ps (m.feed (s.take i)) H') (fun i => s.length - i) 0 ?_ ?_
  · exact ⟨by simp, by simp, by simp, by simp, Nat.zero_le _, h.post⟩
  rintro i fr' H' ⟨h0, h1, h9, h10, hi, vj1, vs1, a1⟩ ih
  have hg := a1.get
  have hp := a1.lt
  have hsn : (m.feed (s.take i)).j.seen ≤ 1099511627776 := by have := jseen_feed (s.take i) m; simp at this; omega
  by_cases hlt : i < s.length
  · have hwr : IntKind.i64.wrap ((i : Int) + 1) = ((i + 1 : Nat) : Int) := by rw [wrap64_in (by omega) (by omega)]; omega
    have hst := L.feed_take m s hlt
    have hsub : sub s (i : Int) ((i : Int) + 1) = [s[i]] := by
      unfold sub
      have e1 : ((i : Int)).toNat = i := by omega
      have e2 : ((i : Int) + 1).toNat = i + 1 := by omega
      rw [e1, e2, List.take_succ_eq_append_getElem hlt, List.drop_append_of_le_length (by simp; omega)]
      rw [List.drop_eq_nil_of_le (by simp; omega)]; rfl
    have hb1 : ((i : Int) ≤ (i : Int) + 1) = True := eq_true (by omega)
    have hb2 : ((i : Int) + 1 ≤ (s.length : Int)) = True := eq_true (by omega)
    generalize m.feed (s.take i) = m1 at *
    generalize s[i] = b at *
    have aS := a1.set (m' := m1.see) rfl rfl
    have gs := aS.get
    have ls := aS.lt
    have hsee : lb { m1 with seen := IntKind.i64.wrap (m1.seen + 1) } pj ps = lb m1.see pj ps := rfl
    unfold L.step at hst
    by_cases c1 : m1.verdict = 0
    · have f1 : (m1.see.verdict = 0) = True := eq_true c1
      cases c2 : m1.ended with
      | true =>
        rw [if_pos (.inr c2)] at hst
        have f2 : m1.see.ended = true := c2
        simp (config := { maxSteps := 4000000 }) [h0, h1, h9, h10, hlt, hg, hp, hwr, hsee, gs, f1, f2]
        refine ih (i + 1) _ _ (by omega) ⟨by simp [h0], by simp [h1], by simp [h9], by simp, hlt, ?_⟩
        rw [hst]; exact aS.post
      | false =>
        rw [if_neg (by rintro (hx | hx); exact hx c1; rw [c2] at hx; cases hx)] at hst
        have f2 : m1.see.ended = false := c2
        obtain ⟨H2, e2, p2⟩ := Jn.feed_ex (s := [b]) aS.aj aS.wf (by simp) hsn
        obtain ⟨vj2, a2⟩ := aS.goJ p2 aS.wf.feed
        obtain ⟨H3, e3, p3⟩ := feed_ex (s := [b]) a2.aS a2.tab (by simp)
        obtain ⟨vs3, a3⟩ := a2.goS p3
        obtain ⟨H4, e4, vj4, vs4, a4⟩ := look_ex a3
        have g2 := a2.get
        have g3 := a3.get
        simp (config := { maxSteps := 4000000 }) [h0, h1, h9, h10, hlt, hg, hp, hwr, hsee, gs, f1, f2, hsub, hb1, hb2, e2, g2, e3, g3, e4]
        refine ih (i + 1) _ _ (by omega) ⟨by simp [h0], by simp [h1], by simp [h9], by simp, hlt, ?_⟩
        rw [hst]; exact ⟨_, _, a4⟩
    · rw [if_pos (.inl c1)] at hst
      have f1 : (m1.see.verdict = 0) = False := eq_false c1
      simp (config := { maxSteps := 4000000 }) [h0, h1, h9, h10, hlt, hg, hp, hwr, hsee, gs, f1]
      refine ih (i + 1) _ _ (by omega) ⟨by simp [h0], by simp [h1], by simp [h9], by simp, hlt, ?_⟩
      rw [hst]; exact aS.post
  · have hi2 : s.take i = s := List.take_of_length_le (by omega)
    rw [hi2] at a1 hg
    simp [h0, h1, h9, h10, hlt, hg]
    exact a1.post
theorem end0_ex (h : At H0 p pj ps vj vs H m) : ∃ H', LC Tryd.prog EJ 45 [ptr p 0] H = some (.int .i64 m.fin.verdict, H') ∧ Post H0 p pj ps m.fin H' := by
  refine meth_exv rfl Tryd.func45 rfl (Nat.le_of_ble_eq_true rfl) (by decide) (by kernel_rfl) h ?_
  have hg := h.get
  have hp := h.lt
  have ae := h.set (m' := { m with ended := true }) rfl rfl
  have ge := ae.get
  have le := ae.lt
  have hj := Jn.state_l ae.aj
  have hb := Jn.begun_l ae.aj
  have hs := sstate_l ae.aS
  have hse := fun v r => settle_l (v := v) (r := r) ge le
  have en := fun v r => (h.set (m' := ({ m with ended := true } : L).settle v r) rfl rfl)
  have sv : ∀ v r, (({ m with ended := true } : L).settle v r).verdict = v := fun _ _ => rfl
  have e0 : ((m.j.tell : Int) = 0) = (m.j.tell = 0) := tellJ3 0
  unfold L.fin
  by_cases c1 : m.verdict ≠ 0
  · rw [if_pos c1]
    have f1 := eq_false c1
    simp (config := { maxSteps := 4000000 }) [hg, hp, ge, le, c1]
    exact ae.post
  rw [if_neg c1]
  have f1 : (m.verdict = 0) = True := eq_true (Classical.byContradiction c1)
  cases c2 : m.j.begun with
  | false =>
    rw [if_pos rfl]
    have hb' := hb
    rw [show ({ m with ended := true } : L).j.begun = false from c2] at hb'
    simp (config := { maxSteps := 4000000 }) [hg, hp, ge, le, f1, hb', hse, sv]
    exact (en _ _).post
  | true =>
    rw [if_neg (by simp)]
    have hb' := hb
    rw [show ({ m with ended := true } : L).j.begun = true from c2] at hb'
    by_cases c3 : m.j.tell ≠ 0
    · rw [if_pos c3]
      have f3 : (m.j.tell = 0) = False := eq_false c3
      simp (config := { maxSteps := 4000000 }) [hg, hp, ge, le, f1, hb', hj, f3, hse, sv]
      exact (en _ _).post
    · rw [if_neg c3]
      have f3 : (m.j.tell = 0) = True := eq_true (by omega)
      by_cases c4 : m.s.tell = 2
      · rw [if_pos c4]
        simp (config := { maxSteps := 4000000 }) [hg, hp, ge, le, f1, hb', hj, f3, hs, eq_true c4, hse, sv]
        exact (en _ _).post
      · rw [if_neg c4]
        simp (config := { maxSteps := 4000000 }) [hg, hp, ge, le, f1, hb', hj, f3, hs, eq_false c4, hse, sv]
        exact (en _ _).post
end
end Go.Proofs.YtgnefbngkhjfcaaDoor.Lx
/-
  The machine of layer 29 (lexer): a new one, all at once; layer 32 (orbparse).
-/
set_option linter.unusedSimpArgs false
set_option linter.unusedVariables false
set_option maxRecDepth 100000
namespace Go.Proofs.YtgnefbngkhjfcaaDoor.Lx
open Go.Lg Tg.Lx

section
variable {H H' H0 : LH} {b : UInt8} {m m' : L} {p pj ps : Nat} {vj vs : Value} {s : List UInt8}
/-- the heap with a new lexer -/
def fresh (d : Nat) (H : LH) : LH := ((H.new (Jn.mb (Tg.Json.M.start d) (.slice none 0 0))).new (Go.Proofs.YtgnefbngkhjfcaaDoor.mb (Tg.Js.new d) (.slice none 0 0))).new (lb (L.new d) H.n (H.n + 1))
theorem lb_new {d pj ps : Nat} : (⟨[ptr pj 0, ptr ps 0, .int .i64 0, str [], .int .i64 (-1), .int .i64 0, .bool false], 64, true⟩ : LB) = lb (L.new d) pj ps := rfl
theorem fresh_l {d : Nat} (h1 : d ≤ 200) : LC Tryd.prog EJ 43 [.int .i64 (d : Nat)] H = some (.tuple #[ptr (H.n + 2) 0, .int .i64 0], fresh d H) := by
  obtain ⟨r, h, e⟩ := LC_runs (Q := fun r => r = (.tuple #[ptr (H.n + 2) 0, .int .i64 0], fresh d H)) (P := Tryd.prog) (E := EJ) (H := H) (args := [.int .i64 (d : Nat)]) rfl Tryd.func43 rfl (Nat.le_of_ble_eq_true rfl) (by decide) (by kernel_rfl) (by
    have e1 := Jn.new_l (H := H) h1
    have e2 : LC Tryd.prog EJ 36 [.int .i64 (d : Nat)] (H.new (Jn.mb (Tg.Json.M.start d) (.slice none 0 0))) = some (.tuple #[ptr (H.n + 1) 0, .int .i64 0], (H.new (Jn.mb (Tg.Json.M.start d) (.slice none 0 0))).new (Go.Proofs.YtgnefbngkhjfcaaDoor.mb (Tg.Js.new d) (.slice none 0 0))) := New_l (by omega) (by omega)
    simp (config := { maxSteps := 4000000 }) [e1, e2, lb_new (d := d), fresh])
  rw [h, e, trunc_not (by simp [flatB, flat1B, atomB])]
theorem at_fresh {d : Nat} (h1 : d ≤ 200) (hd : ∀ l, H.n ≤ l → H.get l = none) (ht : Tab H) : At H (H.n + 2) H.n (H.n + 1) (.slice none 0 0) (.slice none 0 0) (fresh d H) (L.new d) := by
  have aj := Jn.at_new (H := H) h1 hd
  have aT := at_new (H := H.new (Jn.mb (Tg.Json.M.start d) (.slice none 0 0))) (d := (d : Int)) (by omega) (by omega) aj.dom
  have aT' := aT.new (B := lb (L.new d) H.n (H.n + 1))
  have aj' := (aj.new (B := Go.Proofs.YtgnefbngkhjfcaaDoor.mb (Tg.Js.new d) (.slice none 0 0))).new (B := lb (L.new d) H.n (H.n + 1))
  refine ⟨get_new, Nat.lt_succ_self _, aj', aT', by omega, by omega, by omega, off_nil, off_nil, off_nil, off_nil, fun _ => .inl off_nil, ⟨ht.1, ht.2⟩, Tg.Json.JWF.start h1, ?_, ⟨by omega, Nat.le_refl _, by omega⟩, fun _ _ => ⟨off_nil, off_nil⟩, fun k hk => ?_⟩
  · show H.n ≤ H.n + 1 + 1 + 1; omega
  · unfold fresh
    rw [get_new_ne (by show k ≠ H.n + 1 + 1; omega), get_new_ne (by show k ≠ H.n + 1; omega), get_new_ne (by omega)]
/-- what is judged -/
def jv (v : Int) (r : List UInt8) (a : Int) : Value := .agg ⟨[.int .i64 v, str r, .int .i64 a, .bool false]⟩
@[simp] theorem flat_jv {v : Int} {r : List UInt8} {a : Int} : flatB (jv v r a) = true := by simp [jv, flatB, flat1B]
def jb (v : Int) (r : List UInt8) (a : Int) : LB := ⟨[.int .i64 v, str r, .int .i64 a, .bool false], 42, true⟩
@[simp] theorem jb_cells {v : Int} {r : List UInt8} {a : Int} : (jb v r a).cells = [.int .i64 v, str r, .int .i64 a, .bool false] := by simp only [jb]
@[simp] theorem jb_rw {v : Int} {r : List UInt8} {a : Int} : (jb v r a).rw = true := by simp only [jb]
/-- all at once, in plain words -/
def wholeP (s : List UInt8) (d : Nat) (en : Bool) : L := if en then ((L.new d).feed s).fin else (L.new d).feed s
def atP (m : L) : Int := if m.at_ < 0 then 0 else m.at_
theorem clampN (d : Int) : ∃ D : Nat, (D : Int) = clamp d ∧ D ≤ 200 := by
  have hc : 0 ≤ clamp d ∧ clamp d ≤ 200 := by unfold clamp; repeat' split
                                              all_goals omega
  exact ⟨(clamp d).toNat, by omega, by omega⟩
theorem whole_l {d : Int} {en : Bool} {D : Nat} (hD : (D : Int) = clamp d) (h2 : D ≤ 200) (hd : ∀ l, H.n ≤ l → H.get l = none) (ht : Tab H) (hs : s.length ≤ 1048576) :
    LC Tryd.prog EJ 42 [str s, .int .i64 d, .bool en] H = some (jv (wholeP s D en).verdict (wholeP s D en).reason (atP (wholeP s D en)), H) := by
  refine LC_pure rfl Tryd.func42 rfl (Nat.le_of_ble_eq_true rfl) (by decide) (by kernel_rfl) flat_jv ?_
  have hcl : (if 200 < (if d < 0 then (0 : Int) else d) then (200 : Int) else if d < 0 then 0 else d) = (D : Int) := by rw [hD]; unfold clamp; rfl
  have hd1 : ∀ l, (H.new (jb 0 [] 0)).n ≤ l → (H.new (jb 0 [] 0)).get l = none := fun l hl => by
    have hl' : H.n + 1 ≤ l := hl
    rw [get_new_ne (by omega)]; exact hd l (by omega)
  have hjb : (⟨[.int .i64 0, str [], .int .i64 0, .bool false], 42, true⟩ : LB) = jb 0 [] 0 := rfl
  have ef : LC Tryd.prog EJ 43 [.int .i64 (D : Nat)] (H.new (jb 0 [] 0)) = some (.tuple #[ptr (H.n + 3) 0, .int .i64 0], fresh D (H.new (jb 0 [] 0))) := fresh_l h2
  have a0 := at_fresh (H := H.new (jb 0 [] 0)) h2 hd1 ⟨ht.1, ht.2⟩
  have a0' : At (H.new (jb 0 [] 0)) (H.n + 3) (H.n + 1) (H.n + 2) (.slice none 0 0) (.slice none 0 0) (fresh D (H.new (jb 0 [] 0))) (L.new D) := a0
  obtain ⟨H1, e1, vj1, vs1, a1⟩ := feed0_ex a0' hs (by show (0 : Nat) ≤ _; omega)
  cases en with
  | false =>
    have hm : wholeP s D false = (L.new D).feed s := rfl
    rw [hm]
    generalize (L.new D).feed s = m at *
    have g1 := a1.get
    have k1 : H1.get H.n = some (jb 0 [] 0) := by rw [a1.keep H.n (Nat.lt_succ_self _)]; exact get_new
    have hle : H.le H1 := le_refl.new.trans a1.le
    have k1n : H.n < H1.n := Nat.lt_of_lt_of_le (Nat.lt_succ_self _) a1.n0
    have hat : (if m.at_ < 0 then (0 : Int) else m.at_) = atP m := rfl
    simp (config := { maxSteps := 4000000 }) [hjb, hcl, ef, e1, g1, k1, hat, jv, splice, hle.set]
  | true =>
    have hm : wholeP s D true = ((L.new D).feed s).fin := rfl
    rw [hm]
    generalize (L.new D).feed s = m at *
    obtain ⟨H2, e2, vj2, vs2, a2⟩ := end0_ex a1
    generalize m.fin = m2 at *
    have g2 := a2.get
    have k2 : H2.get H.n = some (jb 0 [] 0) := by rw [a2.keep H.n (Nat.lt_succ_self _)]; exact get_new
    have hle : H.le H2 := le_refl.new.trans a2.le
    have hat : (if m2.at_ < 0 then (0 : Int) else m2.at_) = atP m2 := rfl
    simp (config := { maxSteps := 4000000 }) [hjb, hcl, ef, e1, e2, g2, k2, hat, jv, splice, hle.set]
end
end Go.Proofs.YtgnefbngkhjfcaaDoor.Lx
/-
  Layer 32 (orbparse), and the laws of layers 29 and 32 that need no reference.
-/
set_option linter.unusedSimpArgs false
set_option linter.unusedVariables false
set_option maxRecDepth 100000
namespace Go.Proofs.YtgnefbngkhjfcaaDoor.Lx
open Go.Lg Tg.Lx

section
variable {H H' H0 : LH} {b : UInt8} {m m' : L} {p pj ps : Nat} {vj vs : Value} {s t : List UInt8}
/-- rules -/
def rv (l : Bool) (k d : Int) : Value := .agg ⟨[.bool l, .int .i64 k, .int .i64 d]⟩
@[simp] theorem flat_rv {l : Bool} {k d : Int} : flatB (rv l k d) = true := by simp [rv, flatB, flat1B]
def lim (k : Int) : Int := if 1048576 < (if k < 1445 then (1445 : Int) else k) then 1048576 else if k < 1445 then 1445 else k
def snAt (n : Int) : Int := if 1445 < (if n < 0 then (0 : Int) else n) then 1445 else if n < 0 then 0 else n
theorem limit_l {l : Bool} {k d : Int} : LC Tryd.prog EJ 46 [rv l k d] H = some (.int .i64 (lim k), H) := by
  refine LC_pure rfl Tryd.func46 rfl (Nat.le_of_ble_eq_true rfl) (by decide) (by kernel_rfl) rfl ?_
  simp [rv, lim, le_refl.new]
theorem snAt_l {n : Int} : LC Tryd.prog EJ 47 [.int .i64 n] H = some (.int .i64 (snAt n), H) := by
  refine LC_pure rfl Tryd.func47 rfl (Nat.le_of_ble_eq_true rfl) (by decide) (by kernel_rfl) rfl ?_
  simp [snAt]
theorem lim_in (k : Int) : 1445 ≤ lim k ∧ lim k ≤ 1048576 := by
  unfold lim; repeat' split
  all_goals omega
/-- what is judged: a verdict, why, where -/
structure J where
  v : Int
  r : List UInt8
  a : Int
def ofP (s : List UInt8) (k : Int) (D : Nat) (en : Bool) : J :=
  let m := wholeP (s.take (if lim k < s.length then lim k else s.length).toNat) D (en && decide ((s.length : Int) < lim k))
  if m.verdict ≠ 0 then ⟨m.verdict, m.reason, if atP m < snAt s.length then snAt s.length else atP m⟩
  else if lim k ≤ (s.length : Int) then ⟨2, L.rLimit, lim k⟩
  else ⟨m.verdict, m.reason, atP m⟩
def J.val (j : J) : Value := jv j.v j.r j.a
@[simp] theorem flat_jval {j : J} : flatB j.val = true := flat_jv
theorem of_l {l : Bool} {k d : Int} {en : Bool} {D : Nat} (hD : (D : Int) = clamp d) (h2 : D ≤ 200) (hd : ∀ l, H.n ≤ l → H.get l = none) (ht : Tab H) (hs : s.length ≤ 9223372036854775807) :
    LC Tryd.prog EJ 27 [str s, rv l k d, .bool en] H = some ((ofP s k D en).val, H) := by
  refine LC_pure rfl Tryd.func27 rfl (Nat.le_of_ble_eq_true rfl) (by decide) (by kernel_rfl) flat_jval ?_
  obtain ⟨hk1, hk2⟩ := lim_in k
  unfold ofP
  dsimp only
  have hl : ∀ H, LC Tryd.prog EJ 46 [.agg ⟨[.bool l, .int .i64 k, .int .i64 d]⟩] H = some (.int .i64 (lim k), H) := fun H => limit_l
  generalize lim k = K at *
  have ha := fun H => snAt_l (H := H) (n := s.length)
  generalize snAt s.length = q at *
  have hmin : (if (K : Int) < s.length then K else (s.length : Int)) ≤ s.length := by split <;> omega
  have hmin0 : 0 ≤ (if (K : Int) < s.length then K else (s.length : Int)) := by split <;> omega
  generalize hN : (if (K : Int) < s.length then K else (s.length : Int)) = N at *
  have hlen : (s.take N.toNat).length ≤ 1048576 := by
    have : N ≤ 1048576 := by rw [← hN]; split <;> omega
    simp; omega
  generalize hu : s.take N.toNat = u at *
  have B1 : ∀ (en2 : Bool), LC Tryd.prog EJ 42 [str u, .int .i64 d, .bool en2] ((H.new ⟨[.bool l, .int .i64 k, .int .i64 d], 40, true⟩).new (jb 0 [] 0)).ro = some (jv (wholeP u D en2).verdict (wholeP u D en2).reason (atP (wholeP u D en2)), ((H.new ⟨[.bool l, .int .i64 k, .int .i64 d], 40, true⟩).new (jb 0 [] 0)).ro) := fun en2 => by
    refine whole_l hD h2 (fun j hj => ?_) ⟨ht.1, ht.2⟩ hlen
    have hj' : H.n + 1 + 1 ≤ j := hj
    rw [get_ro, get_new_ne (by show j ≠ H.n + 1; omega), get_new_ne (by omega), hd j (by omega)]; rfl
  have hjb : (⟨[.int .i64 0, str [], .int .i64 0, .bool false], 42, true⟩ : LB) = jb 0 [] 0 := rfl
  have hle : H.le (((H.new ⟨[.bool l, .int .i64 k, .int .i64 d], 40, true⟩).new (jb 0 [] 0)).new (jb 0 [] 0)) := le_refl.new.new.new
  have hfa : ∀ (v : Int) (r : List UInt8) (a : Int), flatB (.agg ⟨[.int .i64 v, str r, .int .i64 a, .bool false]⟩) = true := fun v r a => flat_jv
  have c1 : ((s.length : Int) < K) = True ∧ (K ≤ (s.length : Int)) = False ∨ ((s.length : Int) < K) = False ∧ (K ≤ (s.length : Int)) = True := by
    rcases Int.lt_or_le (s.length : Int) K with h1 | h1
    · exact .inl ⟨eq_true h1, eq_false (by omega)⟩
    · exact .inr ⟨eq_false (by omega), eq_true h1⟩
  obtain ⟨en2, h2e⟩ : ∃ en2, en2 = (en && decide ((s.length : Int) < K)) := ⟨_, rfl⟩
  rw [← h2e]
  have B2 := B1 en2
  generalize wholeP u D en2 = m at *
  have c2 : m.verdict = 0 ∨ m.verdict ≠ 0 := Decidable.em _
  generalize atP m = am at *
  rcases c1 with ⟨f1, f2⟩ | ⟨f1, f2⟩ <;> cases en <;> simp only [f1, decide_true, decide_false, Bool.true_and, Bool.false_and] at h2e <;> subst h2e <;> rcases c2 with f3 | f3 <;> simp (config := { maxSteps := 4000000, maxDischargeDepth := 9 }) [rv, jv, J.val, hl, ha, hjb, hN, hu, hmin, hmin0, f1, f2, f3, B2, hfa, splice, L.rLimit, LH.le.set, LH.le.new]
end
end Go.Proofs.YtgnefbngkhjfcaaDoor.Lx
/-
  A logical run of Go code: structs compared, part by part.
-/
set_option linter.unusedSimpArgs false
set_option linter.unusedVariables false
set_option maxRecDepth 100000
namespace Go.Lg
theorem pureVal_map {α β : Type} {P : Program} (s : Sem α) (f : α → β) : pureVal P (f <$> s) = (pureVal P s).map f := by
  show pureVal P (s >>= fun x => pure (f x)) = _
  rw [pureVal_bind]; cases pureVal P s <;> rfl
theorem eqIn_int {P : Program} {d : Nat} {t : TypeId} {k : IntKind} {a b : Int} (hu : P.underlying t = some (.int k)) : pureVal P (Op.equalIn (d + 1) t (.int k a) (.int k b)) = some (a == b) := by
  unfold Op.equalIn
  simp only [pureVal_bind, pureVal_und, hu, Option.bind_some, pureVal_pure, if_true]
theorem eqIn_str {P : Program} {d : Nat} {t : TypeId} {a b : List UInt8} (hu : P.underlying t = some .string) : pureVal P (Op.equalIn (d + 1) t (str a) (str b)) = some (decide (a = b)) := by
  unfold Op.equalIn
  simp only [pureVal_bind, pureVal_und, hu, Option.bind_some, str]
  show some _ = _
  congr 1
  rw [Bool.eq_iff_iff, Go.MapKept.bytes_beq]; simp
theorem eqIn_bool {P : Program} {d : Nat} {t : TypeId} {a b : Bool} (hu : P.underlying t = some .bool) : pureVal P (Op.equalIn (d + 1) t (.bool a) (.bool b)) = some (a == b) := by
  unfold Op.equalIn
  simp only [pureVal_bind, pureVal_und, hu, Option.bind_some, pureVal_pure]
theorem part_cell {P : Program} {t : TypeId} {cs : Array Value} {o : Nat} {v : Value} (ha : aggB P t = some false) (h : cs[o]? = some v) : pureVal P (part t cs o) = some v := by
  unfold part
  have : pureVal P (isAgg t) = some false := by
    unfold aggB at ha
    unfold isAgg
    obtain ⟨d, hd, hf⟩ := Option.map_eq_some_iff.1 ha
    simp only [pureVal_bind, pureVal_und, hd, Option.bind_some]
    cases d <;> first | rfl | (simp [aggD] at hf)
  simp only [pureVal_bind, this, Option.bind_some, h]
  rfl
/-- two aggregates of a type that is guarded by nothing -/
theorem lbin_agg {P : Program} {t : TypeId} {xs ys : List Value} {b : Bool} (hx : flatB (.agg ⟨xs⟩) = true) (hy : flatB (.agg ⟨ys⟩) = true) (hg : P.eqGuardType P.depth t = false)
    (he : pureVal P (Op.equalIn Op.maxDepth t (.agg ⟨xs⟩) (.agg ⟨ys⟩)) = some b) : lbin P .eql t (.agg ⟨xs⟩) (.agg ⟨ys⟩) = some (.bool b) := by
  unfold lbin
  simp only
  rw [if_pos (by rw [hx, hy]; rfl)]
  unfold pureFlat eqGuard
  simp only [binOp, Op.equal, pureVal_bind]
  have e1 : ∀ X Y : Value, pureVal P (if (!true) = true then (pure () : Sem Unit) else do
      let __do_lift ← program
      let __do_lift_1 ← program
      if (!__do_lift.eqGuardType __do_lift_1.depth t) = true then pure ()
      else do
        let __do_lift ← Op.eqGuardIn Op.maxDepth t X Y
        if __do_lift = true then unsupported (Unsupported.noEntry "binop/eql: two nil values of an interface type with methods, in a part of a struct or an array") else pure ()) = some () := by
    intro X Y
    rw [if_neg (by decide)]
    simp only [pureVal_bind, pureVal_program, Option.bind_some, hg, Bool.not_false, if_true, pureVal_pure]
  rw [e1, he]
  rfl
end Go.Lg
/-
  The laws of layers 29 and 32 that need no reference: what they come to.
-/
set_option linter.unusedSimpArgs false
set_option linter.unusedVariables false
set_option maxRecDepth 100000
namespace Go.Proofs.YtgnefbngkhjfcaaDoor.Lx
open Go.Lg Tg.Lx

section
variable {H H' H0 : LH} {b : UInt8} {s t : List UInt8}
theorem live1 : (wholeP [120, 61, 49, 59] 9 false).verdict = 1 ∧ atP (wholeP [120, 61, 49, 59] 9 false) = 4 := by decide +kernel
theorem live2 : (wholeP [91, 49, 93] 9 true).verdict = 2 ∧ (wholeP [91, 49, 93] 9 true).reason = [106, 115, 111, 110] := by decide +kernel
theorem live3 : (ofP [120, 61, 49, 59] 1445 9 false).v = 1 ∧ (ofP [120, 61, 49, 59] 1445 9 false).r = [115, 99, 114, 105, 112, 116] ∧ (ofP [120, 61, 49, 59] 1445 9 false).a = 4 := by decide +kernel
theorem lives29_l (hd : ∀ l, H.n ≤ l → H.get l = none) (ht : Tab H) : LC Tryd.prog EJ 23 [] H = some (.bool true, H) := by
  refine LC_pure rfl Tryd.func23 rfl (Nat.le_of_ble_eq_true rfl) (by decide) (by kernel_rfl) rfl ?_
  have h1 := whole_l (s := [120, 61, 49, 59]) (d := 9) (en := false) (D := 9) (by decide) (by decide) hd ht (by decide)
  have h2 := whole_l (s := [91, 49, 93]) (d := 9) (en := true) (D := 9) (by decide) (by decide) hd ht (by decide)
  rw [live1.1, live1.2] at h1
  rw [live2.1, live2.2] at h2
  generalize (wholeP [120, 61, 49, 59] 9 false).reason = r1 at *
  generalize atP (wholeP [91, 49, 93] 9 true) = a2 at *
  simp (config := { maxSteps := 4000000, maxDischargeDepth := 9 }) [h1, h2, jv, splice, LH.le.set, LH.le.new]
theorem jstood : Tryd.prog.stoodInHeld 42 = false := by kernel_rfl
theorem jguard : Tryd.prog.eqGuardType Tryd.prog.depth 42 = false := by kernel_rfl
theorem jv_eq {v v' a a' : Int} {r r' : List UInt8} : lbin Tryd.prog .eql 42 (jv v r a) (jv v' r' a') = some (.bool (decide (v = v') && decide (r = r') && decide (a = a'))) := by
  refine lbin_agg flat_jv flat_jv jguard ?_
  show pureVal Tryd.prog (Op.equalIn ((9998 + 1) + 1) _ _ _) = _
  unfold Op.equalIn
  simp only [pureVal_bind, pureVal_und, Tryd.underlying42, Option.bind_some, pureVal_program, jstood, Bool.false_eq_true, if_false, pureVal_pure]
  by_cases h1 : v = v' <;> by_cases h2 : r = r' <;> by_cases h3 : a = a' <;>
    simp [← Array.forIn_toList, pureVal_bind, part_cell, eqIn_int, eqIn_str, eqIn_bool, h1, h2, h3, Tryd.underlying3, Tryd.underlying9, Tryd.underlying4]
theorem lives32_l (hd : ∀ l, H.n ≤ l → H.get l = none) (ht : Tab H) : LC Tryd.prog EJ 28 [] H = some (.bool true, H) := by
  refine LC_pure rfl Tryd.func28 rfl (Nat.le_of_ble_eq_true rfl) (by decide) (by kernel_rfl) rfl ?_
  have h1 : LC Tryd.prog EJ 27 [str [120, 61, 49, 59], .agg ⟨[.bool false, .int .i64 1445, .int .i64 9]⟩, .bool false] H = _ := of_l (s := [120, 61, 49, 59]) (l := false) (k := 1445) (d := 9) (en := false) (D := 9) (by decide) (by decide) hd ht (by decide)
  unfold J.val at h1
  rw [live3.1, live3.2.1, live3.2.2] at h1
  have e := jv_eq (v := 1) (v' := 1) (a := 4) (a' := 4) (r := [115, 99, 114, 105, 112, 116]) (r' := [115, 99, 114, 105, 112, 116])
  unfold jv at h1 e
  simp (config := { maxSteps := 4000000 }) [h1, e]
theorem none29_l (hd : ∀ l, H.n ≤ l → H.get l = none) (ht : Tab H) : LC Tryd.prog EJ 8 [str s] H = some (.bool true, H) := by
  refine LC_pure rfl Tryd.func8 rfl (Nat.le_of_ble_eq_true rfl) (by decide) (by kernel_rfl) rfl ?_
  have h0 : LC Tryd.prog EJ 25 [.pointer none, str s] H = some (.int .i64 2, H) := by
    refine LC_pure rfl Tryd.func25 rfl (Nat.le_of_ble_eq_true rfl) (by decide) (by kernel_rfl) rfl ?_
    simp
  have h1 : LC Tryd.prog EJ 26 [.pointer none] H = some (.int .i64 2, H) := by
    refine LC_pure rfl Tryd.func26 rfl (Nat.le_of_ble_eq_true rfl) (by decide) (by kernel_rfl) rfl ?_
    simp
  have h2 : LC Tryd.prog EJ 29 [.pointer none] H = some (.int .i64 2, H) := by
    refine LC_pure rfl Tryd.func29 rfl (Nat.le_of_ble_eq_true rfl) (by decide) (by kernel_rfl) rfl ?_
    simp
  have h3 : LC Tryd.prog EJ 30 [.pointer none] H = some (str [110, 111, 110, 101], H) := by
    refine LC_pure rfl Tryd.func30 rfl (Nat.le_of_ble_eq_true rfl) (by decide) (by kernel_rfl) flat_str ?_
    simp
  have h4 : LC Tryd.prog EJ 31 [.pointer none] H = some (.int .i64 (-1), H) := by
    refine LC_pure rfl Tryd.func31 rfl (Nat.le_of_ble_eq_true rfl) (by decide) (by kernel_rfl) rfl ?_
    simp
  have h5 : LC Tryd.prog EJ 32 [.pointer none] H = some (.int .i64 0, H) := by
    refine LC_pure rfl Tryd.func32 rfl (Nat.le_of_ble_eq_true rfl) (by decide) (by kernel_rfl) rfl ?_
    simp
  have h7 := lives29_l hd ht
  simp [h0, h1, h2, h3, h4, h5, h7]

/-! ### a body of blanks -/
theorem lim1445 : lim 1445 = 1445 := by decide
theorem take_lim (t : List UInt8) : t.take (if (1445 : Int) < t.length then (1445 : Int) else t.length).toNat = t.take 1445 := by
  split
  · rfl
  · rw [List.take_of_length_le (by omega), List.take_of_length_le (by omega)]
theorem ofP_1445 (t : List UInt8) (D : Nat) (en : Bool) : ofP t 1445 D en =
    (if (wholeP (t.take 1445) D (en && decide ((t.length : Int) < 1445))).verdict ≠ 0 then ⟨(wholeP (t.take 1445) D (en && decide ((t.length : Int) < 1445))).verdict, (wholeP (t.take 1445) D (en && decide ((t.length : Int) < 1445))).reason, if atP (wholeP (t.take 1445) D (en && decide ((t.length : Int) < 1445))) < snAt t.length then snAt t.length else atP (wholeP (t.take 1445) D (en && decide ((t.length : Int) < 1445)))⟩
     else if (1445 : Int) ≤ (t.length : Int) then ⟨2, L.rLimit, 1445⟩ else ⟨(wholeP (t.take 1445) D (en && decide ((t.length : Int) < 1445))).verdict, (wholeP (t.take 1445) D (en && decide ((t.length : Int) < 1445))).reason, atP (wholeP (t.take 1445) D (en && decide ((t.length : Int) < 1445)))⟩) := by
  unfold ofP
  rw [lim1445, take_lim]
theorem wholeP_at (u : List UInt8) (D : Nat) (en : Bool) (hu : u.length ≤ 1048576) : atP (wholeP u D en) ≤ u.length := by
  have h := (L.Inv.new D).feed u (by omega)
  have hi : L.Inv (0 + u.length) (wholeP u D en) := by
    unfold wholeP
    split
    · exact h.fin
    · exact h
  have h1 := hi.at1
  unfold atP
  split <;> omega
theorem long_plain (t : List UInt8) (D : Nat) (en : Bool) (ht : t.length ≤ 1000000) :
    ((1445 ≤ t.length ∨ en = true) → (ofP t 1445 D en).v ≠ 0) ∧
    (1445 ≤ t.length → (ofP t 1445 D en).v = 1 → (ofP t 1445 D en).a ≤ 1445) ∧
    ((ofP t 1445 D en).v ≠ 0 → en = false → (ofP (t ++ [64, 35]) 1445 D true).v = (ofP t 1445 D en).v ∧ (ofP (t ++ [64, 35]) 1445 D true).r = (ofP t 1445 D en).r ∧ ((ofP (t ++ [64, 35]) 1445 D true).a = (ofP t 1445 D en).a ∨ t.length < 1445)) := by
  have hul : (t.take 1445).length ≤ 1445 := by simp; omega
  have hat := fun en => wholeP_at (t.take 1445) D en (by omega)
  refine ⟨fun h => ?_, fun h1 h2 => ?_, fun h1 h2 => ?_⟩
  · rw [ofP_1445]
    split
    · rename_i hv; exact hv
    · rename_i hv
      split
      · show (2 : Int) ≠ 0; decide
      · rename_i hlt
        have he : en = true := by rcases h with h | h; omega; exact h
        exfalso
        apply hv
        rw [he, show (true && decide ((t.length : Int) < 1445)) = true by simp; omega]
        exact L.fin_verdict _
  · rw [ofP_1445] at h2 ⊢
    have hs : snAt (t.length : Int) = 1445 := by
      unfold snAt
      rw [if_neg (show ¬ ((t.length : Int) < 0) by omega)]
      split <;> omega
    split
    · rw [hs]
      show (if _ then _ else _) ≤ (1445 : Int)
      have := hat (en && decide ((t.length : Int) < 1445))
      split <;> omega
    · rename_i hv
      rw [if_neg hv, if_pos (by omega)] at h2
      cases h2
  · subst h2
    by_cases hl : 1445 ≤ t.length
    · have e1 : (t ++ [64, 35]).take 1445 = t.take 1445 := List.take_append_of_le_length hl
      have e2 : (true && decide (((t ++ [64, 35] : List UInt8).length : Int) < 1445)) = (false && decide ((t.length : Int) < 1445)) := by simp; omega
      have s1 : snAt (t.length : Int) = 1445 := by
        unfold snAt
        rw [if_neg (show ¬ ((t.length : Int) < 0) by omega)]
        split <;> omega
      have s2 : snAt ((t ++ [64, 35] : List UInt8).length : Int) = 1445 := by
        unfold snAt
        rw [if_neg (show ¬ (((t ++ [64, 35] : List UInt8).length : Int) < 0) by omega)]
        have : (t ++ [64, 35] : List UInt8).length = t.length + 2 := by simp
        split <;> omega
      have l2 : (1445 : Int) ≤ ((t ++ [64, 35] : List UInt8).length : Int) := by simp; omega
      rw [ofP_1445, ofP_1445, e1, e2, s1, s2]
      split
      · exact ⟨rfl, rfl, .inl rfl⟩
      · rw [if_pos (show (1445 : Int) ≤ t.length by omega)]; first | exact ⟨rfl, rfl, .inl rfl⟩ | (rw [if_pos l2]; exact ⟨rfl, rfl, .inl rfl⟩)
    · have e0 : t.take 1445 = t := List.take_of_length_le (by omega)
      have hm : wholeP (t.take 1445) D (false && decide ((t.length : Int) < 1445)) = (L.new D).feed t := by rw [e0]; rfl
      rw [ofP_1445 t D false, hm] at h1
      rw [ofP_1445 t D false, hm]
      have hv : ((L.new D).feed t).verdict ≠ 0 := by
        intro hv
        rw [if_neg (fun hx => hx hv), if_neg (by omega)] at h1
        exact h1 hv
      rw [if_pos hv]
      have e1 : (t ++ [64, 35]).take 1445 = t ++ ([64, 35] : List UInt8).take (1445 - t.length) := by
        rw [List.take_append, List.take_of_length_le (show t.length ≤ 1445 by omega)]
      have key : ∀ en, (wholeP ((t ++ [64, 35]).take 1445) D en).verdict = ((L.new D).feed t).verdict ∧ (wholeP ((t ++ [64, 35]).take 1445) D en).reason = ((L.new D).feed t).reason := by
        intro en
        rw [e1]
        have hst := L.stuck (([64, 35] : List UInt8).take (1445 - t.length)) ((L.new D).feed t) hv
        rw [← L.feed_append] at hst
        cases en with
        | false => exact ⟨hst.1, hst.2.1⟩
        | true =>
          have hf := L.fin_stuck ((L.new D).feed (t ++ ([64, 35] : List UInt8).take (1445 - t.length))) (by rw [hst.1]; exact hv)
          exact ⟨hf.1.trans hst.1, hf.2.1.trans hst.2.1⟩
      rw [ofP_1445, if_pos (by rw [(key _).1]; exact hv)]
      exact ⟨(key _).1, (key _).2, .inr (by omega)⟩
theorem dom_new {H : LH} {B : LB} (hd : ∀ l, H.n ≤ l → H.get l = none) : ∀ l, (H.new B).n ≤ l → (H.new B).get l = none := fun l hl => by
  have hl' : H.n + 1 ≤ l := hl
  rw [get_new_ne (by omega)]; exact hd l (by omega)
theorem tab_new {H : LH} {B : LB} (ht : Tab H) : Tab (H.new B) := ⟨ht.1, ht.2⟩
/-- i blanks, and the rest of N bytes as they were made -/
def fillB (N i : Nat) : List Value := List.replicate i (.int .u8 32) ++ List.replicate (N - i) (.int .u8 0)
theorem fillB_set {N i : Nat} (h : i < N) : (fillB N i).set i (.int .u8 32) = fillB N (i + 1) := by
  unfold fillB
  rw [List.set_append_right _ _ (by simp), List.length_replicate, Nat.sub_self]
  obtain ⟨k, hk⟩ : ∃ k, N - i = k + 1 := ⟨N - i - 1, by omega⟩
  rw [hk, List.replicate_succ, List.set_cons_zero, show N - (i + 1) = k by omega, List.replicate_succ']
  simp
theorem fillB_len {N i : Nat} (h : i ≤ N) : (fillB N i).length = N := by unfold fillB; simp; omega
theorem fillB_all (N : Nat) : fillB N N = (List.replicate N (32 : UInt8)).map bv := by unfold fillB; simp [bv]
set_option maxHeartbeats 4000000 in
theorem long_l {n : UInt8} {en : Bool} (hd : ∀ l, H.n ≤ l → H.get l = none) (ht : Tab H) : LC Tryd.prog EJ 7 [str s, .int .u8 n.toNat, .bool en] H = some (.bool true, H) := by
  refine LC_pure rfl Tryd.func7 rfl (Nat.le_of_ble_eq_true rfl) (by decide) (by kernel_rfl) rfl ?_
  have hs := cut_l (H := H) (s := s) (k := 40) (by decide)
  have hsl : (s.take (40 : Int).toNat).length ≤ 40 := by simp; omega
  generalize s.take (40 : Int).toNat = s' at *
  have hq : (n.toNat : Int).tmod 60 = (n.toNat : Int) % 60 := Int.tmod_eq_emod_of_nonneg (by omega)
  obtain ⟨N, hN⟩ : ∃ N : Nat, N = 1400 + n.toNat % 60 := ⟨_, rfl⟩
  have hNN : (1400 : Int) + (n.toNat : Int) % 60 = (N : Int) := by omega
  have hN1 : 1400 ≤ N ∧ N ≤ 1460 := by omega
  have hw0 : IntKind.i64.wrap (n.toNat : Int) = n.toNat := by have := n.toNat_lt; exact wrap64_in (by omega) (by omega)
  have hw1 : IntKind.i64.wrap (N : Int) = N := wrap64_in (by omega) (by omega)
  have h0N : (0 : Int) ≤ N := by omega
  have hNm : (N : Int) ≤ 1048576 := by omega
  have hrep : (⟨List.replicate (N : Int).toNat (.int .u8 0), 5, true⟩ : LB) = ⟨fillB N 0, 5, true⟩ := by unfold fillB; simp
  simp (config := { maxSteps := 4000000 }) [hs, hq, hNN, hw0, hw1, h0N, hNm, hrep]
  refine loop_ind (fun (i : Nat) fr' H' => fr' 0 = str s' ∧ fr' 2 = .bool en ∧ fr' 7 = sl H.n N N ∧ fr' 8 = .int .i64 i ∧ i ≤ N ∧ H' = H.new ⟨fillB N i, 5, true⟩) (fun i => N - i) 0 ?_ ?_
  · refine ⟨by simp, by simp, by simp, by simp, Nat.zero_le _, ?_⟩
    first | rfl | simp
  rintro i fr' H' ⟨h0, h2, h7, h8, hi, rfl⟩ ih
  by_cases hlt : i < N
  · have hl2 : ((i : Int) < N) = True := eq_true (by omega)
    have hw : IntKind.i64.wrap ((i : Int) + 1) = (i : Int) + 1 := wrap64_in (by omega) (by omega)
    have hlen := fillB_len (N := N) (i := i) (by omega)
    have hst := fillB_set hlt
    have hlt2 : (i < (fillB N i).length) = True := eq_true (by omega)
    simp (config := { maxSteps := 4000000 }) [h0, h2, h7, h8, hl2, hw, hlen, hst, hlt]
    exact ih (i + 1) _ _ (by omega) ⟨by simp [h0], by simp [h2], by simp [h7], by simp, hlt, rfl⟩
  · have hiN : i = N := by omega
    subst hiN
    have hl2 : ((i : Int) < i) = False := eq_false (by omega)
    obtain ⟨B1, hB1⟩ : ∃ B1 : LB, B1 = ⟨fillB i i, 5, true⟩ := ⟨_, rfl⟩
    have hcv : lconv Tryd.prog 38 9 (sl H.n i i) (H.new B1) = some (str (List.replicate i 32)) := by
      subst hB1
      refine lconv_bs (e := 5) Tryd.underlying38 Tryd.underlying9 Tryd.underlying5 get_new (by show 0 + i ≤ (fillB i i).length; rw [fillB_len (Nat.le_refl _)]; omega) ?_
      show lbs ((fillB i i).drop 0 |>.take i) = _
      rw [List.drop_zero, List.take_of_length_le (by rw [fillB_len (Nat.le_refl _)]; exact Nat.le_refl _), fillB_all, lbs_map]
    rw [← hB1]
    have hcat : ((List.replicate i (32 : UInt8)).length + s'.length ≤ 9223372036854775807) = True := eq_true (by simp; omega)
    have hcat' : (i + s'.length ≤ 9223372036854775807) = True := eq_true (by omega)
    obtain ⟨t, hT⟩ : ∃ t, List.replicate i (32 : UInt8) ++ s' = t := ⟨_, rfl⟩
    have htl : t.length ≤ 1000000 := by rw [← hT]; simp; omega
    have hcat2 : (t.length + 2 ≤ 9223372036854775807) = True := eq_true (by omega)
    obtain ⟨pA, pB, pC⟩ := long_plain t 5 en htl
    have of := fun (H' : LH) (u : List UInt8) (e' : Bool) (a : ∀ l, H'.n ≤ l → H'.get l = none) (b : Tab H') (c : u.length ≤ 9223372036854775807) => of_l (s := u) (l := false) (k := 1445) (d := 5) (en := e') (D := 5) (H := H') (by decide) (by decide) a b c
    have d1 := dom_new (B := ⟨[.bool false, .int .i64 1445, .int .i64 5], 40, true⟩) (dom_new (B := B1) hd)
    have t1 : Tab ((H.new B1).new ⟨[.bool false, .int .i64 1445, .int .i64 5], 40, true⟩) := tab_new (tab_new ht)
    have E1 := of _ t en d1 t1 (by omega)
    unfold J.val jv rv at E1
    generalize ofP t 1445 5 en = X at *
    have d2 := dom_new (B := ⟨[.int .i64 X.v, str X.r, .int .i64 X.a, .bool false], 42, true⟩) d1
    have t2 := tab_new (B := ⟨[.int .i64 X.v, str X.r, .int .i64 X.a, .bool false], 42, true⟩) t1
    have E2 := of _ (t ++ [64, 35]) true d2 t2 (by simp; omega)
    unfold J.val jv rv at E2
    generalize ofP (t ++ [64, 35]) 1445 5 true = Y at *
    have hl1 := lives32_l d2 t2
    have hl2' := fun B => lives32_l (dom_new (B := B) d2) (tab_new t2)
    by_cases c1 : 1445 ≤ t.length
    · have hx := pA (.inl c1)
      have f1 : ((1445 : Int) ≤ (t.length : Int)) = True := eq_true (by omega)
      have f1' : ((t.length : Int) < 1445) = False := eq_false (by omega)
      have fx := eq_false hx
      have f23 : (X.v = 1) = True ∧ (1445 < X.a) = False ∨ (X.v = 1) = False := by
        by_cases c2 : X.v = 1
        · exact .inl ⟨eq_true c2, eq_false (by have := pB c1 c2; omega)⟩
        · exact .inr (eq_false c2)
      cases en with
      | true =>
        rcases f23 with ⟨f2, f3⟩ | f2
        · simp (config := { maxSteps := 4000000, maxDischargeDepth := 9 }) [h0, h2, h7, h8, hl2, hcv, hcat', hcat2, hT, E1, E2, f1, f1', fx, f2, f3, hl1, hl2', splice, LH.le.set, LH.le.new]
        · simp (config := { maxSteps := 4000000, maxDischargeDepth := 9 }) [h0, h2, h7, h8, hl2, hcv, hcat', hcat2, hT, E1, E2, f1, f1', fx, f2, hl1, hl2', splice, LH.le.set, LH.le.new]
      | false =>
        obtain ⟨k1, k2, k3⟩ := pC hx rfl
        have k3' : Y.a = X.a := by rcases k3 with k3 | k3; exact k3; omega
        rcases f23 with ⟨f2, f3⟩ | f2
        · simp (config := { maxSteps := 4000000, maxDischargeDepth := 9 }) [h0, h2, h7, h8, hl2, hcv, hcat', hcat2, hT, E1, E2, f1, f1', fx, f2, f3, k1, k2, k3', hl1, hl2', splice, LH.le.set, LH.le.new]
        · simp (config := { maxSteps := 4000000, maxDischargeDepth := 9 }) [h0, h2, h7, h8, hl2, hcv, hcat', hcat2, hT, E1, E2, f1, f1', fx, f2, k1, k2, k3', hl1, hl2', splice, LH.le.set, LH.le.new]
    · have f1 : ((1445 : Int) ≤ (t.length : Int)) = False := eq_false (by omega)
      have f1' : ((t.length : Int) < 1445) = True := eq_true (by omega)
      cases en with
      | true =>
        have fx := eq_false (pA (.inr rfl))
        simp (config := { maxSteps := 4000000, maxDischargeDepth := 9 }) [h0, h2, h7, h8, hl2, hcv, hcat', hcat2, hT, E1, E2, f1, f1', fx, hl1, hl2', splice, LH.le.set, LH.le.new]
      | false =>
        by_cases hx : X.v = 0
        · have fx := eq_true hx
          simp (config := { maxSteps := 4000000, maxDischargeDepth := 9 }) [h0, h2, h7, h8, hl2, hcv, hcat', hcat2, hT, E1, E2, f1, f1', fx, hl1, hl2', splice, LH.le.set, LH.le.new]
        · have fx := eq_false hx
          obtain ⟨k1, k2, k3⟩ := pC hx rfl
          by_cases c4 : Y.a = X.a
          · have f4 := eq_true c4
            simp (config := { maxSteps := 4000000, maxDischargeDepth := 9 }) [h0, h2, h7, h8, hl2, hcv, hcat', hcat2, hT, E1, E2, f1, f1', fx, k1, k2, f4, hl1, hl2', splice, LH.le.set, LH.le.new]
          · have f4 := eq_false c4
            simp (config := { maxSteps := 4000000, maxDischargeDepth := 9 }) [h0, h2, h7, h8, hl2, hcv, hcat', hcat2, hT, E1, E2, f1, f1', fx, k1, k2, f4, hl1, hl2', splice, LH.le.set, LH.le.new]
end
end Go.Proofs.YtgnefbngkhjfcaaDoor.Lx
/-
  The law LexerJson: what it comes to.
-/
set_option linter.unusedSimpArgs false
set_option linter.unusedVariables false
set_option maxRecDepth 100000
namespace Go.Proofs.YtgnefbngkhjfcaaDoor.Lx
open Go.Lg Tg.Lx

section
variable {H H' H0 : LH} {b : UInt8} {m m' : L} {p pj ps : Nat} {vj vs : Value} {s t : List UInt8}
theorem New29_l {d : Nat} (h1 : d ≤ 200) : LC Tryd.prog EJ 24 [.int .i64 (d : Nat)] H = some (.tuple #[ptr (H.n + 2) 0, .int .i64 0], fresh d H) := by
  obtain ⟨r, h, e⟩ := LC_runs (Q := fun r => r = (.tuple #[ptr (H.n + 2) 0, .int .i64 0], fresh d H)) (P := Tryd.prog) (E := EJ) (H := H) (args := [.int .i64 (d : Nat)]) rfl Tryd.func24 rfl (Nat.le_of_ble_eq_true rfl) (by decide) (by kernel_rfl) (by
    have e1 := fresh_l (H := H) h1
    simp [e1])
  rw [h, e, trunc_not (by simp [flatB, flat1B, atomB])]
theorem Feed29_ex (h : At H0 p pj ps vj vs H m) (hs : s.length ≤ 1048576) (hse : m.j.seen ≤ 549755813888) : ∃ H', LC Tryd.prog EJ 25 [ptr p 0, str s] H = some (.int .i64 (m.feed s).verdict, H') ∧ Post H0 p pj ps (m.feed s) H' := by
  refine meth_exv rfl Tryd.func25 rfl (Nat.le_of_ble_eq_true rfl) (by decide) (by kernel_rfl) h ?_
  obtain ⟨H1, e, hp⟩ := feed0_ex h hs hse
  simp [e]; exact hp
theorem End29_ex (h : At H0 p pj ps vj vs H m) : ∃ H', LC Tryd.prog EJ 26 [ptr p 0] H = some (.int .i64 m.fin.verdict, H') ∧ Post H0 p pj ps m.fin H' := by
  refine meth_exv rfl Tryd.func26 rfl (Nat.le_of_ble_eq_true rfl) (by decide) (by kernel_rfl) h ?_
  obtain ⟨H1, e, hp⟩ := end0_ex h
  simp [e]; exact hp
theorem rwhole27_l {D : Nat} (hD : D ≤ 200) (hs : s.length ≤ 1000000) : LC Tryd.prog EJ 22 [str s, .int .i64 (D : Int)] H = some (.tuple #[.int .i64 ((Tg.Json.whole s D).1 : Int), .int .i64 (Tg.Json.whole s D).2], H) := by
  refine LC_ext (s := specWhole27) rfl ?_
  simp only [specWhole27, str]
  rw [if_pos ⟨by rw [ba_size]; omega, by omega, by omega⟩]
  rfl
theorem json29_l {c : UInt8} (hd : ∀ l, H.n ≤ l → H.get l = none) (ht : Tab H) : LC Tryd.prog EJ 6 [str s, .int .u8 c.toNat] H = some (.bool true, H) := by
  refine LC_pure rfl Tryd.func6 rfl (Nat.le_of_ble_eq_true rfl) (by decide) (by kernel_rfl) rfl ?_
  have hs := cut_l (H := H) (s := s) (k := 150) (by decide)
  have hlen : (s.take (150 : Int).toNat).length ≤ 150 := by simp; omega
  generalize s.take (150 : Int).toNat = s' at *
  have hw : LC Tryd.prog EJ 22 [str s', .int .i64 200] H = some (.tuple #[.int .i64 ((Tg.Json.whole s' 200).1 : Int), .int .i64 (Tg.Json.whole s' 200).2], H) := rwhole27_l (D := 200) (by decide) (by omega)
  have hl := lives29_l hd ht
  by_cases c1 : (Tg.Json.whole s' 200).1 = 2
  · have f1 : (((Tg.Json.whole s' 200).1 : Int) = 2) = True := eq_true (by omega)
    have f1' : ((Tg.Json.whole s' 200).1 = 2) = True := eq_true c1
    have htl : ((Tg.Json.M.start 200).feed s').tell = 2 := (congrArg Prod.fst (Tg.Json.whole_eq s' 200)).trans c1
    have hc := c.toNat_lt
    have w0 : IntKind.i64.wrap (c.toNat : Int) = (c.toNat : Int) := by rw [wrap64_in (by omega) (by omega)]
    have w1 : IntKind.i64.wrap ((s'.length : Int) + 1) = (s'.length : Int) + 1 := by rw [wrap64_in (by omega) (by omega)]
    have hne : ((s'.length : Int) + 1 = 0) = False := eq_false (by omega)
    obtain ⟨K, hK⟩ : ∃ K : Nat, K = c.toNat % (s'.length + 1) := ⟨_, rfl⟩
    have hKl : K ≤ s'.length := by have := Nat.mod_lt c.toNat (show 0 < s'.length + 1 by omega); omega
    have htm : (c.toNat : Int).tmod ((s'.length : Int) + 1) = (K : Int) := by
      rw [Int.tmod_eq_emod_of_nonneg (by omega), hK, show ((s'.length : Int) + 1) = ((s'.length + 1 : Nat) : Int) by omega]; exact (Int.natCast_emod _ _).symm
    have k1 : ((K : Int) ≤ (s'.length : Int)) = True := eq_true (by omega)
    have k0 : (0 ≤ (K : Int)) = True := eq_true (by omega)
    have hn : LC Tryd.prog EJ 24 [.int .i64 200] H = some (.tuple #[ptr (H.n + 2) 0, .int .i64 0], fresh 200 H) := New29_l (d := 200) (by decide)
    have a0 := at_fresh (d := 200) (by decide) hd ht
    have htk : (s'.take K) ++ (s'.drop K) = s' := List.take_append_drop _ _
    rw [← htk] at htl
    obtain ⟨b1, b2, b3⟩ := L.json_blocks 200 _ _ htl
    have hu1 : (s'.take K).length ≤ 150 := by simp; omega
    have hu2 : (s'.drop K).length ≤ 150 := by simp; omega
    generalize hq1 : s'.take K = u1 at *
    generalize hq2 : s'.drop K = u2 at *
    obtain ⟨H1, e1, vj1, vs1, a1⟩ := Feed29_ex a0 (s := u1) (by omega) (by show (0 : Nat) ≤ _; omega)
    have hsn : ((L.new 200).feed u1).j.seen ≤ 549755813888 := by have := jseen_feed u1 (L.new 200); have h0 : (L.new 200).j.seen = 0 := rfl; omega
    obtain ⟨H2, e2, vj2, vs2, a2⟩ := Feed29_ex a1 (s := u2) (by omega) hsn
    obtain ⟨H3, e3, vj3, vs3, a3⟩ := End29_ex a2
    have hl3 := lives29_l a3.aj.dom a3.tab
    have g1 := eq_false b1
    have g2 := eq_false b2
    have g3 := eq_true b3
    have hle := a3.le
    simp (config := { maxSteps := 4000000 }) [hs, hw, f1, f1', hn, w0, w1, hne, htm, k0, k1, e1, e2, e3, g1, g2, g3, hl3, hle, hq1, hq2]
  · have f1 : (((Tg.Json.whole s' 200).1 : Int) = 2) = False := eq_false (by omega)
    have f1' : ((Tg.Json.whole s' 200).1 = 2) = False := eq_false c1
    simp (config := { maxSteps := 4000000 }) [hs, hw, f1, f1', hl]
end
end Go.Proofs.YtgnefbngkhjfcaaDoor.Lx
