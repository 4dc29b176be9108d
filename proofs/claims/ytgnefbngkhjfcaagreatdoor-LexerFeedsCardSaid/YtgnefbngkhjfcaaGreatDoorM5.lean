/-
  Texts joined, part 5: JnMach, JnObj, JnStack, JnByte, JnByteB, JnNumA, JnNumB, JnNumC, JnFeed, LxMach, JsLaws, LxFeed, LxWhole, LxOrb, LgEq, LxLaws, LxJson, RdPlain, JsWords, RdMach, RdRead, RdReadB, RdReadC, RdReadD.
-/
import Derived.Test.YtgnefbngkhjfcaaGreatDoorM4
import Derived.Test.YtgnefbngkhjfcaaGreatDoorM3
import Derived.MapKept
/-
  The machine of layer 27 (json): its fields, and its methods that leave its stack as it is.
-/
set_option linter.unusedSimpArgs false
set_option linter.unusedVariables false
set_option maxRecDepth 100000
namespace Go.Proofs.YtgnefbngkhjfcaaGreatDoor.Jn
open Go.Lg Tg.Json

/-- the machine's cells -/
def mc (m : M) (v : Value) : List Value := [.int .i64 (m.depth : Nat), v, .int .i64 (m.pos : Nat), .bool m.key, str m.rest, .int .i64 (m.hex : Nat), .bool m.begun, .int .i64 (m.state : Nat), .int .i64 m.place, .int .i64 (m.seen : Nat)]
def mb (m : M) (v : Value) : LB := ⟨mc m v, 65, true⟩
section
variable {H : LH} {b : UInt8} {m : M} {v : Value} {p : Nat}
@[simp] theorem mb_len : (mb m v).cells.length = 10 := by simp only [mb, mc]; simp only [List.length_cons, List.length_nil]
@[simp] theorem mb_rw : (mb m v).rw = true := by simp only [mb]
theorem mb_elem : (mb m v).elem = 65 := rfl
@[simp] theorem ld_depth : (mb m v).cells[0]? = some (.int .i64 (m.depth : Nat)) := rfl
@[simp] theorem lg_depth {hl : 0 < (mb m v).cells.length} : (mb m v).cells[0]'hl = (.int .i64 (m.depth : Nat)) := rfl
@[simp] theorem st_depth {x : Nat} : (⟨(mb m v).cells.set 0 (.int .i64 (x : Nat)), (mb m v).elem, true⟩ : LB) = mb { m with depth := x } v := rfl
@[simp] theorem ld_pos : (mb m v).cells[2]? = some (.int .i64 (m.pos : Nat)) := rfl
@[simp] theorem lg_pos {hl : 2 < (mb m v).cells.length} : (mb m v).cells[2]'hl = (.int .i64 (m.pos : Nat)) := rfl
@[simp] theorem st_pos {x : Nat} : (⟨(mb m v).cells.set 2 (.int .i64 (x : Nat)), (mb m v).elem, true⟩ : LB) = mb { m with pos := x } v := rfl
@[simp] theorem st_pos0 : (⟨(mb m v).cells.set 2 (.int .i64 0), (mb m v).elem, true⟩ : LB) = mb { m with pos := 0 } v := rfl
@[simp] theorem st_pos1 : (⟨(mb m v).cells.set 2 (.int .i64 1), (mb m v).elem, true⟩ : LB) = mb { m with pos := 1 } v := rfl
@[simp] theorem st_pos2 : (⟨(mb m v).cells.set 2 (.int .i64 2), (mb m v).elem, true⟩ : LB) = mb { m with pos := 2 } v := rfl
@[simp] theorem st_pos3 : (⟨(mb m v).cells.set 2 (.int .i64 3), (mb m v).elem, true⟩ : LB) = mb { m with pos := 3 } v := rfl
@[simp] theorem st_pos4 : (⟨(mb m v).cells.set 2 (.int .i64 4), (mb m v).elem, true⟩ : LB) = mb { m with pos := 4 } v := rfl
@[simp] theorem st_pos5 : (⟨(mb m v).cells.set 2 (.int .i64 5), (mb m v).elem, true⟩ : LB) = mb { m with pos := 5 } v := rfl
@[simp] theorem st_pos6 : (⟨(mb m v).cells.set 2 (.int .i64 6), (mb m v).elem, true⟩ : LB) = mb { m with pos := 6 } v := rfl
@[simp] theorem st_pos7 : (⟨(mb m v).cells.set 2 (.int .i64 7), (mb m v).elem, true⟩ : LB) = mb { m with pos := 7 } v := rfl
@[simp] theorem st_pos8 : (⟨(mb m v).cells.set 2 (.int .i64 8), (mb m v).elem, true⟩ : LB) = mb { m with pos := 8 } v := rfl
@[simp] theorem st_pos9 : (⟨(mb m v).cells.set 2 (.int .i64 9), (mb m v).elem, true⟩ : LB) = mb { m with pos := 9 } v := rfl
@[simp] theorem st_pos10 : (⟨(mb m v).cells.set 2 (.int .i64 10), (mb m v).elem, true⟩ : LB) = mb { m with pos := 10 } v := rfl
@[simp] theorem st_pos11 : (⟨(mb m v).cells.set 2 (.int .i64 11), (mb m v).elem, true⟩ : LB) = mb { m with pos := 11 } v := rfl
@[simp] theorem st_pos12 : (⟨(mb m v).cells.set 2 (.int .i64 12), (mb m v).elem, true⟩ : LB) = mb { m with pos := 12 } v := rfl
@[simp] theorem st_pos13 : (⟨(mb m v).cells.set 2 (.int .i64 13), (mb m v).elem, true⟩ : LB) = mb { m with pos := 13 } v := rfl
@[simp] theorem st_pos14 : (⟨(mb m v).cells.set 2 (.int .i64 14), (mb m v).elem, true⟩ : LB) = mb { m with pos := 14 } v := rfl
@[simp] theorem st_pos15 : (⟨(mb m v).cells.set 2 (.int .i64 15), (mb m v).elem, true⟩ : LB) = mb { m with pos := 15 } v := rfl
@[simp] theorem st_pos16 : (⟨(mb m v).cells.set 2 (.int .i64 16), (mb m v).elem, true⟩ : LB) = mb { m with pos := 16 } v := rfl
@[simp] theorem st_pos17 : (⟨(mb m v).cells.set 2 (.int .i64 17), (mb m v).elem, true⟩ : LB) = mb { m with pos := 17 } v := rfl
@[simp] theorem ld_key : (mb m v).cells[3]? = some (.bool m.key) := rfl
@[simp] theorem lg_key {hl : 3 < (mb m v).cells.length} : (mb m v).cells[3]'hl = (.bool m.key) := rfl
@[simp] theorem st_key {x : Bool} : (⟨(mb m v).cells.set 3 (.bool x), (mb m v).elem, true⟩ : LB) = mb { m with key := x } v := rfl
@[simp] theorem ld_rest : (mb m v).cells[4]? = some (str m.rest) := rfl
@[simp] theorem lg_rest {hl : 4 < (mb m v).cells.length} : (mb m v).cells[4]'hl = (str m.rest) := rfl
@[simp] theorem st_rest {x : List UInt8} : (⟨(mb m v).cells.set 4 (str x), (mb m v).elem, true⟩ : LB) = mb { m with rest := x } v := rfl
@[simp] theorem ld_hex : (mb m v).cells[5]? = some (.int .i64 (m.hex : Nat)) := rfl
@[simp] theorem lg_hex {hl : 5 < (mb m v).cells.length} : (mb m v).cells[5]'hl = (.int .i64 (m.hex : Nat)) := rfl
@[simp] theorem st_hex {x : Nat} : (⟨(mb m v).cells.set 5 (.int .i64 (x : Nat)), (mb m v).elem, true⟩ : LB) = mb { m with hex := x } v := rfl
@[simp] theorem st_hex4 : (⟨(mb m v).cells.set 5 (.int .i64 4), (mb m v).elem, true⟩ : LB) = mb { m with hex := 4 } v := rfl
@[simp] theorem ld_begun : (mb m v).cells[6]? = some (.bool m.begun) := rfl
@[simp] theorem lg_begun {hl : 6 < (mb m v).cells.length} : (mb m v).cells[6]'hl = (.bool m.begun) := rfl
@[simp] theorem st_begun {x : Bool} : (⟨(mb m v).cells.set 6 (.bool x), (mb m v).elem, true⟩ : LB) = mb { m with begun := x } v := rfl
@[simp] theorem ld_state : (mb m v).cells[7]? = some (.int .i64 (m.state : Nat)) := rfl
@[simp] theorem lg_state {hl : 7 < (mb m v).cells.length} : (mb m v).cells[7]'hl = (.int .i64 (m.state : Nat)) := rfl
@[simp] theorem st_state {x : Nat} : (⟨(mb m v).cells.set 7 (.int .i64 (x : Nat)), (mb m v).elem, true⟩ : LB) = mb { m with state := x } v := rfl
@[simp] theorem st_state0 : (⟨(mb m v).cells.set 7 (.int .i64 0), (mb m v).elem, true⟩ : LB) = mb { m with state := 0 } v := rfl
@[simp] theorem st_state3 : (⟨(mb m v).cells.set 7 (.int .i64 3), (mb m v).elem, true⟩ : LB) = mb { m with state := 3 } v := rfl
@[simp] theorem ld_place : (mb m v).cells[8]? = some (.int .i64 m.place) := rfl
@[simp] theorem lg_place {hl : 8 < (mb m v).cells.length} : (mb m v).cells[8]'hl = (.int .i64 m.place) := rfl
@[simp] theorem st_place {x : Int} : (⟨(mb m v).cells.set 8 (.int .i64 x), (mb m v).elem, true⟩ : LB) = mb { m with place := x } v := rfl
@[simp] theorem ld_seen : (mb m v).cells[9]? = some (.int .i64 (m.seen : Nat)) := rfl
@[simp] theorem lg_seen {hl : 9 < (mb m v).cells.length} : (mb m v).cells[9]'hl = (.int .i64 (m.seen : Nat)) := rfl
@[simp] theorem st_seen {x : Nat} : (⟨(mb m v).cells.set 9 (.int .i64 (x : Nat)), (mb m v).elem, true⟩ : LB) = mb { m with seen := x } v := rfl
@[simp] theorem ld_stack : (mb m v).cells[1]? = some v := rfl
@[simp] theorem lg_stack {hl : 1 < (mb m v).cells.length} : (mb m v).cells[1]'hl = v := rfl
@[simp] theorem st_stack {x : Value} : (⟨(mb m v).cells.set 1 x, (mb m v).elem, true⟩ : LB) = mb m x := rfl
theorem dig_eq : Tg.Json.digit b = Tg.Js.digit b := by
  unfold Tg.Json.digit Tg.Js.digit
  simp only [UInt8.le_iff_toNat_le]
  congr 1 <;> · congr 1; apply propext; simp; omega
theorem digit_j : LC Tryz.prog EJ 96 [.int .u8 b.toNat] H = some (.bool (Tg.Json.digit b), H) := by rw [dig_eq]; exact digit_l
theorem digit_ji : LC Tryz.prog EJ 111 [.int .u8 b.toNat] H = some (.bool (Tg.Json.digit b), H) := by rw [dig_eq]; exact digit_in
theorem white_j : LC Tryz.prog EJ 45 [.int .u8 b.toNat] H = some (.bool (Tg.Json.white b), H) := by
  refine LC_pure rfl Tryz.func45 rfl (Nat.le_of_ble_eq_true rfl) (by decide) (by kernel_rfl) rfl ?_
  simp +contextual [Tg.Json.white, -Int.not_le, -Int.not_lt]
  intro h1 h2 h3; rw [Bool.eq_iff_iff]; simp [h1, h2, h3]
theorem ended_j {q : Nat} : LC Tryz.prog EJ 77 [.int .i64 (q : Nat)] H = some (.bool (Tg.Json.ended q), H) := by
  refine LC_pure rfl Tryz.func77 rfl (Nat.le_of_ble_eq_true rfl) (by decide) (by kernel_rfl) rfl ?_
  have e : ∀ k : Nat, ((q : Int) = (k : Int)) = (q = k) := fun k => propext (by omega)
  have e1 := e 11
  have e2 := e 12
  have e3 := e 14
  have e4 := e 17
  simp at e1 e2 e3 e4
  simp +contextual [Tg.Json.ended, e1, e2, e3, e4, -Int.not_le, -Int.not_lt]
  intro h1 h2 h3; rw [Bool.eq_iff_iff]; simp [h1, h2, h3]
/-- a sign's number -/
def hexv (b : UInt8) : Int := if Tg.Json.digit b then b.toNat - 48 else if (97 ≤ b && b ≤ 102) then b.toNat - 97 + 10 else if (65 ≤ b && b ≤ 70) then b.toNat - 65 + 10 else 0
theorem le97 : ((97 : Int) ≤ b.toNat) = (97 ≤ b) := by rw [UInt8.le_iff_toNat_le]; apply propext; simp; omega
theorem le102 : ((b.toNat : Int) ≤ 102) = (b ≤ 102) := by rw [UInt8.le_iff_toNat_le]; apply propext; simp; omega
theorem le65 : ((65 : Int) ≤ b.toNat) = (65 ≤ b) := by rw [UInt8.le_iff_toNat_le]; apply propext; simp; omega
theorem le70 : ((b.toNat : Int) ≤ 70) = (b ≤ 70) := by rw [UInt8.le_iff_toNat_le]; apply propext; simp; omega
theorem lt32 : ((b.toNat : Int) < 32) = (b < 32) := by rw [UInt8.lt_iff_toNat_lt]; apply propext; simp; omega
theorem fail_l {st : Nat} (h : H.get p = some (mb m v)) (hp : p < H.n) : LC Tryz.prog EJ 70 [ptr p 0, .int .i64 (st : Nat)] H = some (.tuple #[], H.set p (mb (m.fail st) v)) := by
  refine own rfl Tryz.func70 rfl (Nat.le_of_ble_eq_true rfl) (by decide) (by kernel_rfl) h hp ?_
  simp (config := { maxSteps := 2000000 }) +contextual [h, hp, set_self h, M.fail, -Int.not_le, -Int.not_lt]
theorem fail0_l (h : H.get p = some (mb m v)) (hp : p < H.n) : LC Tryz.prog EJ 70 [ptr p 0, .int .i64 0] H = some (.tuple #[], H.set p (mb (m.fail 0) v)) := fail_l (st := 0) h hp
theorem fail3_l (h : H.get p = some (mb m v)) (hp : p < H.n) : LC Tryz.prog EJ 70 [ptr p 0, .int .i64 3] H = some (.tuple #[], H.set p (mb (m.fail 3) v)) := fail_l (st := 3) h hp
end
end Go.Proofs.YtgnefbngkhjfcaaGreatDoor.Jn
/-
  The machine of layer 27 (json): where it lies.
-/
set_option linter.unusedSimpArgs false
set_option linter.unusedVariables false
namespace Go.Proofs.YtgnefbngkhjfcaaGreatDoor.Jn
open Go.Lg Tg.Json

/-- the machine m lies in the block p -/
structure At (p : Nat) (H : LH) (m : M) (v : Value) : Prop where
  get : H.get p = some (mb m v)
  lt : p < H.n
  row : Row 0 H 5 v (m.stack.map bv)
  dom : ∀ l, H.n ≤ l → H.get l = none
  len : (m.stack.length : Int) ≤ (m.depth : Int)
  depth : (m.depth : Int) ≤ 200
structure Post (p : Nat) (H : LH) (m : M) (H' : LH) : Prop where
  at_ : ∃ v, At p H' m v
  fr : ∀ m0 v0 v, At p H m0 v0 → At p H' m v → Kp p v0 H v H'
section
variable {p : Nat} {H H' H1 : LH} {m m' m1 : M} {v v' : Value} {b : UInt8}
theorem mb_inj (h : mb m v = mb m' v') : v = v' := by
  have := congrArg LB.cells h
  simp only [mb, mc, List.cons.injEq] at this
  exact this.2.1
theorem At.same (h : At p H m v) (k : At p H m' v') : v = v' := by
  have h1 := h.get
  rw [k.get] at h1
  injection h1 with h1
  exact (mb_inj h1).symm
theorem At.off (h : At p H m v) : offRow v p := h.row.off_of_elem h.get (by show (65 : Nat) ≠ 5; decide)
theorem Post.trans (h : Post p H m1 H1) (k : Post p H1 m' H') : Post p H m' H' := by
  obtain ⟨v1, a1⟩ := h.at_
  exact ⟨k.at_, fun m0 v0 v a0 a => (h.fr m0 v0 v1 a0 a1).trans (k.fr _ v1 v a1 a)⟩
theorem At.mk_post (h : At p H m v) (k : At p H' m' v') (hk : Kp p v H v' H') : Post p H m' H' :=
  ⟨⟨v', k⟩, fun m0 v0 v2 a0 a => by rw [a0.same h, a.same k]; exact hk⟩
theorem At.post (h : At p H m v) : Post p H m H := h.mk_post h Kp.refl
/-- fields are written, the stack stays -/
theorem At.set (h : At p H m v) (hs : m'.stack = m.stack) (hd : m'.depth = m.depth) : At p (H.set p (mb m' v)) m' v := by
  refine ⟨get_set, h.lt, ?_, fun l hl => ?_, by rw [hs, hd]; exact h.len, by rw [hd]; exact h.depth⟩
  · rw [hs]
    exact h.row.keep (fun k hk hn => get_set_ne (fun e => hn (e ▸ h.off)))
  · rw [get_set_ne (fun e => by have := h.lt; have : H.n ≤ l := hl; omega)]; exact h.dom l hl
theorem At.setPost (h : At p H m v) (hs : m'.stack = m.stack) (hd : m'.depth = m.depth) : Post p H m' (H.set p (mb m' v)) := h.mk_post (h.set hs hd) (Kp.set (fun _ h => h))
theorem At.row_lt (h : At p H m v) {k : Nat} (hn : ¬ offRow v k) : k < H.n := by
  rcases h.row with ⟨rfl, _⟩ | ⟨k', c, rest, rfl, g1, g2, g3⟩
  · exact absurd off_nil hn
  · have : k = k' := by
      refine Classical.byContradiction (fun hne => hn (fun n c' hx => ?_))
      injection hx with hx
      injection hx with hx
      injection hx with hx
      omega
    subst this
    rcases Nat.lt_or_ge k H.n with h1 | h'
    · exact h1
    · rw [h.dom k h'] at g2; cases g2
theorem At.row_off (h : At p H m v) {k : Nat} {B : LB} (hk : H.get k = some B) (hne : B.elem ≠ 5) : offRow v k := h.row.off_of_elem hk hne
/-- a method that hands something back -/
theorem meth_exv {u : Value} {f : FuncId} {fn : Func} {c : Code} {args : List Value} (he : EJ f = none) (hf : Tryz.prog.funcs[f]? = some fn) (hb : fn.body = some c) (hN : args.length ≤ fn.ntmps) (hname : fn.name ≠ "runtime.NumGoroutine") (hcd : codeOk EJ.loud fn.ntmps c = true)
    (h : At p H m v) (hr : Runs Tryz.prog EJ fn [.code c] (enter args) H (fun r => r.1 = u ∧ Post p H m' r.2)) : ∃ H', LC Tryz.prog EJ f args H = some (u, H') ∧ Post p H m' H' := by
  obtain ⟨⟨u', H'⟩, hl, hu, hp⟩ := LC_runs he hf hb hN hname hcd hr
  simp only at hu
  subst hu
  rcases trunc_or u' H H' with e | ⟨e, _, hle⟩
  · exact ⟨H', by rw [hl, e], hp⟩
  · refine ⟨H, by rw [hl, e], ?_⟩
    obtain ⟨⟨v', ha⟩, _⟩ := hp
    have hg := ha.get
    rw [hle.2 p h.lt, h.get] at hg
    injection hg with hg
    have hv := mb_inj hg
    subst hv
    refine h.mk_post ⟨by rw [h.get, hg], h.lt, ?_, h.dom, ha.len, ha.depth⟩ Kp.refl
    exact ha.row.keep (fun k hk hn => (hle.2 k (h.row_lt hn)).symm)
theorem meth_ex {f : FuncId} {fn : Func} {c : Code} {args : List Value} (he : EJ f = none) (hf : Tryz.prog.funcs[f]? = some fn) (hb : fn.body = some c) (hN : args.length ≤ fn.ntmps) (hname : fn.name ≠ "runtime.NumGoroutine") (hcd : codeOk EJ.loud fn.ntmps c = true)
    (h : At p H m v) (hr : Runs Tryz.prog EJ fn [.code c] (enter args) H (fun r => r.1 = .tuple #[] ∧ Post p H m' r.2)) : ∃ H', LC Tryz.prog EJ f args H = some (.tuple #[], H') ∧ Post p H m' H' := meth_exv he hf hb hN hname hcd h hr
theorem At.keep (h : At p H m v) (hn : H.n ≤ H'.n) (hk : ∀ k, k < H.n → (k = p ∨ ¬ offRow v k) → H'.get k = H.get k) (hd : ∀ l, H'.n ≤ l → H'.get l = none) : At p H' m v := by
  refine ⟨by rw [hk p h.lt (.inl rfl)]; exact h.get, Nat.lt_of_lt_of_le h.lt hn, ?_, hd, h.len, h.depth⟩
  exact h.row.keep (fun k hk1 hn1 => hk k (h.row_lt hn1) (.inr hn1))
theorem At.new (h : At p H m v) {B : LB} : At p (H.new B) m v :=
  h.keep (Nat.le_succ _) (fun k hk _ => get_new_ne (by omega)) (fun l hl => by have hl' : H.n + 1 ≤ l := hl; rw [get_new_ne (by omega)]; exact h.dom l (by omega))
theorem At.newPost {B : LB} (h : At p H m v) (s1 : m1.stack = m.stack) (d1 : m1.depth = m.depth) (g1 : m'.stack = m.stack) (g2 : m'.depth = m.depth) : Post p H m' (((H.set p (mb m1 v)).new B).set p (mb m' v)) :=
  h.mk_post (((h.set s1 d1).new (B := B)).set (m' := m') (g1.trans s1.symm) (g2.trans d1.symm)) (((Kp.set (fun _ h => h)).trans Kp.new).trans (Kp.set (fun _ h => h)))
theorem At.newPost' {B : LB} (h : At p H m v) (g1 : m'.stack = m.stack) (g2 : m'.depth = m.depth) : Post p H m' ((H.new B).set p (mb m' v)) :=
  h.mk_post ((h.new (B := B)).set (m' := m') g1 g2) (Kp.new.trans (Kp.set (fun _ h => h)))
/-- one byte more on the stack -/
theorem At.pushed (h : At p H m v) (hc : (m.stack.length : Int) < (m.depth : Int)) : ∃ v' H', lapp Tryz.prog 63 v (some (1, [.int .u8 b.toNat])) (H.new ⟨[.int .u8 b.toNat], 5, true⟩) = some (v', H') ∧ cellB v' = true ∧ H'.get p = some (mb m v) ∧ p < H'.n ∧
    ∀ m'' : M, m''.stack = m.stack ++ [b] → m''.depth = m.depth → Post p H m'' (H'.set p (mb m'' v')) := by
  have h1 := h.new (B := ⟨[.int .u8 b.toNat], 5, true⟩)
  have hdep := h.depth
  obtain ⟨v', H', e1, e2, e3, e4, e5, e6, e7, e8⟩ := Row.push (P := Tryz.prog) (x := .int .u8 b.toNat) h1.row Tryz.underlying63 lesz5 (by simp) (by simp [maxElems]; omega) (Nat.zero_le _) h1.dom
  have hg' : H'.get p = some (mb m v) := by rw [e4 p h1.lt h1.off]; exact h1.get
  have hp' : p < H'.n := Nat.lt_of_lt_of_le h1.lt e3
  refine ⟨v', H', e1, e2.cell, hg', hp', fun m'' g1 g2 => ?_⟩
  have hoff : ∀ k, k < H.n + 1 → offRow v k → offRow v' k := fun k hk ho => e5 k hk ho
  have ha : At p (H'.set p (mb m'' v')) m'' v' := by
    refine ⟨get_set, hp', ?_, fun l hl => ?_, by rw [g1, g2]; simp; omega, by rw [g2]; exact h.depth⟩
    · have := e2.keep (H' := H'.set p (mb m'' v')) (fun k hk hn => get_set_ne (fun e => hn (e ▸ e5 p h1.lt h1.off)))
      rw [g1]
      simpa [bv] using this
    · rw [get_set_ne (fun e => by have : H'.n ≤ l := hl; omega)]; exact e6 l hl
  refine h.mk_post ha ⟨by have : H.n + 1 ≤ H'.n := e3; show H.n ≤ H'.n; omega, fun k hk hkp ho => ?_, fun k hk _ ho => hoff k (by omega) ho, e7, e8⟩
  rw [get_set_ne hkp, e4 k (by show k < H.n + 1; omega) ho, get_new_ne (by omega)]
/-- the last byte of the stack -/
theorem At.last (h : At p H m v) {xs : List UInt8} {t : UInt8} (hs : m.stack = xs ++ [t]) : IntKind.i64.wrap ((m.stack.length : Int) - 1) = xs.length ∧
    (∀ H', ∃ q, lixa Tryz.prog 63 v (.int .i64 xs.length) H' = some (q, H') ∧ lld Tryz.prog 5 q H = some (.int .u8 t.toNat)) ∧
    ∃ v', lpart Tryz.prog 63 v none (some (.int .i64 xs.length)) = some v' ∧ cellB v' = true ∧ ∀ m'' : M, m''.stack = xs → m''.depth = m.depth → ∀ m2 : M, Post p H m'' (H.set p (mb m'' v')) := by
  have hlen := h.len
  have hdep := h.depth
  have hx : (m.stack.map bv).length = xs.length + 1 := by simp [hs]
  have hl2 : m.stack.length = xs.length + 1 := by simp [hs]
  obtain ⟨v', e1, e2, e3⟩ := Row.take (P := Tryz.prog) (kd := .i64) (j := xs.length) h.row Tryz.underlying63 sz5 (by omega) (by omega)
  have hgd : (m.stack.map bv).getD (xs.length : Int).toNat Value.nilFunc = .int .u8 t.toNat := by simp [hs, bv]
  refine ⟨by rw [wrap64_in (by omega) (by omega)]; omega, fun H' => ?_, v', e1, e2.cell, fun m'' g1 g2 _ => ?_⟩
  · obtain ⟨q, f1, f2⟩ := Row.at (P := Tryz.prog) (H' := H') (kd := .i64) (j := xs.length) (d := .nilFunc) h.row Tryz.underlying63 sz5 agg5 (by omega) (by omega)
    rw [hgd] at f2
    exact ⟨q, f1, f2⟩
  · have htk : (m.stack.map bv).take (xs.length : Int).toNat = xs.map bv := by simp [hs]
    rw [htk] at e2
    refine h.mk_post (v' := v') ⟨get_set, h.lt, ?_, fun l hl => ?_, by rw [g1, g2]; omega, by rw [g2]; exact hdep⟩ (Kp.set e3)
    · rw [g1]
      exact e2.keep (fun k hk hn => get_set_ne (fun e => hn (e ▸ e3 p h.off)))
    · rw [get_set_ne (fun e => by have hh : H.n ≤ l := hl; have := h.lt; omega)]; exact h.dom l hl
end
end Go.Proofs.YtgnefbngkhjfcaaGreatDoor.Jn
/-
  The machine of layer 27 (json): its stack.
-/
set_option linter.unusedSimpArgs false
set_option linter.unusedVariables false
set_option maxRecDepth 100000
namespace Go.Proofs.YtgnefbngkhjfcaaGreatDoor.Jn
open Go.Lg Tg.Json

section
variable {p : Nat} {H H' H1 : LH} {m m' m1 : M} {v v' : Value} {b : UInt8}
theorem push_ex {q : Nat} {k : Int} (h : At p H m v) (hk : ((q : Nat) : Int) = k) (hs : ∀ (m : M) (v : Value), (⟨(mb m v).cells.set 2 (.int .i64 k), (mb m v).elem, true⟩ : LB) = mb { m with pos := q } v) : ∃ H', LC Tryz.prog EJ 95 [ptr p 0, .int .u8 b.toNat, .int .i64 k] H = some (.tuple #[], H') ∧ Post p H (m.push b q) H' := by
  refine meth_ex rfl Tryz.func95 rfl (Nat.le_of_ble_eq_true rfl) (by decide) (by kernel_rfl) h ?_
  have hl := fun H' => h.row.len (H' := H') Tryz.underlying63
  have hg := h.get
  have hp := h.lt
  have hlen := h.len
  by_cases hc : m.stack.length = m.depth
  · have hc' : ((m.stack.length : Int) = (m.depth : Int)) = True := eq_true (by omega)
    simp +contextual [hg, hl, fail3_l hg h.lt, hc', hp]
    unfold M.push
    rw [if_pos hc]
    exact h.setPost rfl rfl
  · have hc' : ((m.stack.length : Int) = (m.depth : Int)) = False := eq_false (by omega)
    obtain ⟨v', H', e1, hcl, hg', hp', key⟩ := h.pushed (b := b) (by omega)
    simp +contextual [hg, hl, hc', e1, hg', hcl, hp, hp', hs]
    unfold M.push
    rw [if_neg hc]
    exact key _ rfl rfl
theorem top_l (h : At p H m v) : LC Tryz.prog EJ 97 [ptr p 0] H = some (.int .u8 m.top.toNat, H) := by
  refine LC_pure rfl Tryz.func97 rfl (Nat.le_of_ble_eq_true rfl) (by decide) (by kernel_rfl) rfl ?_
  have hl := fun H' => h.row.len (H' := H') Tryz.underlying63
  have hg := h.get
  have hp := h.lt
  rcases List.eq_nil_or_concat m.stack with hs | ⟨xs, t, hs⟩
  · have ht : m.top = 0 := by simp [M.top, hs]
    simp (config := { maxSteps := 4000000 }) [hg, hp, hl, hs, ht]
  · rw [List.concat_eq_append] at hs
    obtain ⟨hw0, hat, _⟩ := h.last hs
    obtain ⟨q, f1, f2⟩ := hat H
    have ht : m.top = t := by simp [M.top, hs]
    have hne : (m.stack = []) = False := eq_false (by simp [hs])
    have hn0 : ((m.stack.length : Int) = 0) = False := eq_false (by simp [hs]; omega)
    simp (config := { maxSteps := 4000000 }) [hg, hp, hl, hn0, hne, hw0, f1, f2, ht]
theorem pop_ex (h : At p H m v) (hne : m.stack ≠ []) : ∃ H', LC Tryz.prog EJ 67 [ptr p 0] H = some (.tuple #[], H') ∧ Post p H m.pop H' := by
  refine meth_ex rfl Tryz.func67 rfl (Nat.le_of_ble_eq_true rfl) (by decide) (by kernel_rfl) h ?_
  have hl := fun H' => h.row.len (H' := H') Tryz.underlying63
  have hg := h.get
  have hp := h.lt
  rcases List.eq_nil_or_concat m.stack with hs | ⟨xs, t, hs⟩
  · exact absurd hs hne
  · rw [List.concat_eq_append] at hs
    obtain ⟨hw0, _, v', e1, hcv, key⟩ := h.last hs
    simp (config := { maxSteps := 4000000 }) [hg, hp, hl, hw0, e1, hcv]
    exact key m.pop (by simp [M.pop, hs]) rfl m
end
end Go.Proofs.YtgnefbngkhjfcaaGreatDoor.Jn
/-
  The machine of layer 27 (json): a byte, by where it stands.
-/
set_option linter.unusedSimpArgs false
set_option linter.unusedVariables false
set_option maxRecDepth 100000
namespace Go.Proofs.YtgnefbngkhjfcaaGreatDoor.Jn
open Go.Lg Tg.Json

section
variable {p : Nat} {H H' H1 : LH} {m m' m1 : M} {v v' : Value} {b : UInt8}
theorem inText_ex (h : At p H m v) : ∃ H', LC Tryz.prog EJ 72 [ptr p 0, .int .u8 b.toNat] H = some (.tuple #[], H') ∧ Post p H (m.inText b) H' := by
  refine meth_ex rfl Tryz.func72 rfl (Nat.le_of_ble_eq_true rfl) (by decide) (by kernel_rfl) h ?_
  have hg := h.get
  have hp := h.lt
  have en := fun m'' (g : m''.stack = m.stack) (d : m''.depth = m.depth) => h.setPost (m' := m'') g d
  unfold M.inText
  by_cases c1 : b = 34
  · have f1 := eq_true c1
    rw [if_pos c1]
    cases hk : m.key with
    | true => simp (config := { maxSteps := 4000000 }) [hg, hp, f1, hk]; exact en _ rfl rfl
    | false => simp (config := { maxSteps := 4000000 }) [hg, hp, f1, hk]; exact en _ rfl rfl
  · have f1 := eq_false c1
    rw [if_neg c1]
    by_cases c2 : b = 92
    · have f2 := eq_true c2
      rw [if_pos c2]
      simp (config := { maxSteps := 4000000 }) [hg, hp, f1, f2]; exact en _ rfl rfl
    · have f2 := eq_false c2
      rw [if_neg c2]
      by_cases c3 : b < 32
      · have f3 := eq_true c3
        rw [if_pos c3]
        simp (config := { maxSteps := 4000000 }) [hg, hp, f1, f2, lt32, f3, fail0_l hg hp]; exact en _ rfl rfl
      · have f3 := eq_false c3
        rw [if_neg c3]
        simp (config := { maxSteps := 4000000 }) [hg, hp, f1, f2, lt32, f3]; exact h.post
theorem esc_lit : ([34, 92, 47, 98, 102, 110, 114, 116] : List UInt8).contains b = esc b := by
  rw [Bool.eq_iff_iff]
  simp [esc, or_assoc]
theorem inSlash_ex (h : At p H m v) : ∃ H', LC Tryz.prog EJ 73 [ptr p 0, .int .u8 b.toNat] H = some (.tuple #[], H') ∧ Post p H (m.inSlash b) H' := by
  refine meth_ex rfl Tryz.func73 rfl (Nat.le_of_ble_eq_true rfl) (by decide) (by kernel_rfl) h ?_
  have hg := h.get
  have hp := h.lt
  have en := fun m'' (g : m''.stack = m.stack) (d : m''.depth = m.depth) => h.setPost (m' := m'') g d
  have hx : (0 ≤ Lib.indexByte [34, 92, 47, 98, 102, 110, 114, 116] b) = (esc b = true) := by
    rw [← esc_lit]
    apply propext
    rw [idx_mem]; simp
  unfold M.inSlash
  by_cases c1 : b = 117
  · have f1 := eq_true c1
    rw [if_pos c1]
    simp (config := { maxSteps := 4000000 }) [hg, hp, f1]; exact en _ rfl rfl
  · have f1 := eq_false c1
    rw [if_neg c1]
    cases c2 : esc b with
    | true =>
      rw [if_pos rfl]
      simp (config := { maxSteps := 4000000 }) [hg, hp, f1, hx, c2]; exact en _ rfl rfl
    | false =>
      rw [if_neg (by simp)]
      simp (config := { maxSteps := 4000000 }) [hg, hp, f1, hx, c2, fail0_l hg hp]; exact en _ rfl rfl
theorem hex_l : ∃ n : Int, LC Tryz.prog EJ 99 [.int .u8 b.toNat] H = some (.tuple #[.int .i64 n, .bool (Tg.Json.hex b)], H) := by
  have le9 : Tg.Json.hex b = (Tg.Json.digit b || ((97 ≤ b && b ≤ 102) || (65 ≤ b && b ≤ 70))) := by unfold Tg.Json.hex; rw [Bool.or_assoc]
  have key : ∀ (w : Value) (Q : Value × LH → Prop), True := fun _ _ => trivial
  have hd := digit_ji (H := H) (b := b)
  by_cases c0 : Tg.Json.digit b = true
  · refine ⟨IntKind.i64.wrap (IntKind.u8.wrap ((b.toNat : Int) - 48)), ?_⟩
    rw [le9, c0, Bool.true_or]
    refine LC_pure rfl Tryz.func99 rfl (Nat.le_of_ble_eq_true rfl) (by decide) (by kernel_rfl) (by simp [flatB, flat1B, atomB]) ?_
    simp (config := { maxSteps := 4000000 }) [hd, c0]
  rw [Bool.not_eq_true] at c0
  rw [le9, c0, Bool.false_or]
  by_cases c1 : 97 ≤ b
  · by_cases c2 : b ≤ 102
    · refine ⟨IntKind.i64.wrap (IntKind.i64.wrap (IntKind.u8.wrap ((b.toNat : Int) - 97)) + 10), ?_⟩
      have e : ((decide (97 ≤ b) && decide (b ≤ 102)) || (decide (65 ≤ b) && decide (b ≤ 70))) = true := by simp [c1, c2]
      rw [e]
      refine LC_pure rfl Tryz.func99 rfl (Nat.le_of_ble_eq_true rfl) (by decide) (by kernel_rfl) (by simp [flatB, flat1B, atomB]) ?_
      simp (config := { maxSteps := 4000000 }) [hd, c0, le97, le102, eq_true c1, eq_true c2]
    · have c4 : ¬ b ≤ 70 := fun h => c2 (by rw [UInt8.le_iff_toNat_le] at h ⊢; simp at h ⊢; omega)
      refine ⟨0, ?_⟩
      have e : ((decide (97 ≤ b) && decide (b ≤ 102)) || (decide (65 ≤ b) && decide (b ≤ 70))) = false := by simp [c2, c4]
      rw [e]
      refine LC_pure rfl Tryz.func99 rfl (Nat.le_of_ble_eq_true rfl) (by decide) (by kernel_rfl) (by simp [flatB, flat1B, atomB]) ?_
      by_cases c3 : 65 ≤ b
      · simp (config := { maxSteps := 4000000 }) [hd, c0, le97, le102, le65, le70, eq_true c1, eq_false c2, eq_true c3, eq_false c4]
      · simp (config := { maxSteps := 4000000 }) [hd, c0, le97, le102, le65, le70, eq_true c1, eq_false c2, eq_false c3, eq_false c4]
  · by_cases c3 : 65 ≤ b
    · by_cases c4 : b ≤ 70
      · refine ⟨IntKind.i64.wrap (IntKind.i64.wrap (IntKind.u8.wrap ((b.toNat : Int) - 65)) + 10), ?_⟩
        have e : ((decide (97 ≤ b) && decide (b ≤ 102)) || (decide (65 ≤ b) && decide (b ≤ 70))) = true := by simp [c3, c4]
        rw [e]
        refine LC_pure rfl Tryz.func99 rfl (Nat.le_of_ble_eq_true rfl) (by decide) (by kernel_rfl) (by simp [flatB, flat1B, atomB]) ?_
        simp (config := { maxSteps := 4000000 }) [hd, c0, le97, le102, le65, le70, eq_false c1, eq_true c3, eq_true c4]
      · refine ⟨0, ?_⟩
        have e : ((decide (97 ≤ b) && decide (b ≤ 102)) || (decide (65 ≤ b) && decide (b ≤ 70))) = false := by simp [c1, c4]
        rw [e]
        refine LC_pure rfl Tryz.func99 rfl (Nat.le_of_ble_eq_true rfl) (by decide) (by kernel_rfl) (by simp [flatB, flat1B, atomB]) ?_
        simp (config := { maxSteps := 4000000 }) [hd, c0, le97, le102, le65, le70, eq_false c1, eq_true c3, eq_false c4]
    · refine ⟨0, ?_⟩
      have e : ((decide (97 ≤ b) && decide (b ≤ 102)) || (decide (65 ≤ b) && decide (b ≤ 70))) = false := by simp [c1, c3]
      rw [e]
      refine LC_pure rfl Tryz.func99 rfl (Nat.le_of_ble_eq_true rfl) (by decide) (by kernel_rfl) (by simp [flatB, flat1B, atomB]) ?_
      simp (config := { maxSteps := 4000000 }) [hd, c0, le97, le102, le65, le70, eq_false c1, eq_false c3]
theorem inUnicode_ex (h : At p H m v) (h1 : 1 ≤ m.hex) (h4 : m.hex ≤ 4) : ∃ H', LC Tryz.prog EJ 74 [ptr p 0, .int .u8 b.toNat] H = some (.tuple #[], H') ∧ Post p H (m.inUnicode b) H' := by
  refine meth_ex rfl Tryz.func74 rfl (Nat.le_of_ble_eq_true rfl) (by decide) (by kernel_rfl) h ?_
  have hg := h.get
  have hp := h.lt
  have en := fun m'' (g : m''.stack = m.stack) (d : m''.depth = m.depth) => h.setPost (m' := m'') g d
  obtain ⟨n, hx⟩ := hex_l (H := H) (b := b)
  have hw : IntKind.i64.wrap ((m.hex : Int) - 1) = ((m.hex - 1 : Nat) : Int) := by rw [wrap64_in (by omega) (by omega)]; omega
  unfold M.inUnicode
  cases c1 : Tg.Json.hex b with
  | false =>
    rw [if_neg (by simp)]
    simp (config := { maxSteps := 4000000 }) [hg, hp, hx, c1, fail0_l hg hp]; exact en _ rfl rfl
  | true =>
    rw [if_pos rfl]
    by_cases c2 : m.hex - 1 = 0
    · have f2 : (((m.hex - 1 : Nat) : Int) = 0) = True := eq_true (by omega)
      rw [if_pos c2]
      simp (config := { maxSteps := 4000000 }) [hg, hp, hx, c1, hw, f2]
      exact ⟨fun _ => en { m with pos := 6, hex := m.hex - 1 } rfl rfl, fun hh => absurd c2 hh⟩
    · have f2 : (((m.hex - 1 : Nat) : Int) = 0) = False := eq_false (by omega)
      rw [if_neg c2]
      simp (config := { maxSteps := 4000000 }) [hg, hp, hx, c1, hw, f2]
      exact ⟨fun hh => absurd hh c2, fun _ => en { m with hex := m.hex - 1 } rfl rfl⟩
theorem inWord_ex (h : At p H m v) (hr : m.rest ≠ []) : ∃ H', LC Tryz.prog EJ 75 [ptr p 0, .int .u8 b.toNat] H = some (.tuple #[], H') ∧ Post p H (m.inWord b) H' := by
  refine meth_ex rfl Tryz.func75 rfl (Nat.le_of_ble_eq_true rfl) (by decide) (by kernel_rfl) h ?_
  have hg := h.get
  have hp := h.lt
  have en := fun m'' (g : m''.stack = m.stack) (d : m''.depth = m.depth) => h.setPost (m' := m'') g d
  obtain ⟨c, r, hcr⟩ : ∃ c r, m.rest = c :: r := by
    cases hm : m.rest with
    | nil => exact absurd hm hr
    | cons c r => exact ⟨c, r, rfl⟩
  have hat : at_ (c :: r) 0 = c := rfl
  have hpos : ((0 : Int) < (r.length : Int) + 1) = True := eq_true (by omega)
  have hpos2 : ((1 : Int) ≤ (r.length : Int) + 1) = True := eq_true (by omega)
  unfold M.inWord
  by_cases c1 : b = c
  · subst c1
    rw [if_pos (by rw [hcr]; rfl)]
    by_cases c2 : r = []
    · have f2 := eq_true c2
      rw [if_pos (by rw [hcr]; exact c2)]
      simp (config := { maxSteps := 4000000 }) [hg, hp, hcr, hat, hpos, hpos2, f2]
      exact en _ rfl rfl
    · have f2 := eq_false c2
      rw [if_neg (by rw [hcr]; exact c2)]
      simp (config := { maxSteps := 4000000 }) [hg, hp, hcr, hat, hpos, hpos2, f2]
      exact en _ rfl rfl
  · have f1 := eq_false c1
    rw [if_neg (by rw [hcr]; exact fun hx => c1 (by simpa using hx.symm))]
    simp (config := { maxSteps := 4000000 }) [hg, hp, hcr, hat, hpos, f1, fail0_l hg hp]
    exact en _ rfl rfl
end
end Go.Proofs.YtgnefbngkhjfcaaGreatDoor.Jn
/-
  The machine of layer 27 (json): a byte, by where it stands: values, names, numbers.
-/
set_option linter.unusedSimpArgs false
set_option linter.unusedVariables false
set_option maxRecDepth 100000
namespace Go.Proofs.YtgnefbngkhjfcaaGreatDoor.Jn
open Go.Lg Tg.Json

section
variable {p : Nat} {H H' H1 : LH} {m m' m1 : M} {v v' : Value} {b : UInt8}
set_option maxHeartbeats 4000000 in
theorem begin_ex (h : At p H m v) : ∃ H', LC Tryz.prog EJ 68 [ptr p 0, .int .u8 b.toNat] H = some (.tuple #[], H') ∧ Post p H (m.first b) H' := by
  refine meth_ex rfl Tryz.func68 rfl (Nat.le_of_ble_eq_true rfl) (by decide) (by kernel_rfl) h ?_
  have hg := h.get
  have hp := h.lt
  have en := fun m'' (g : m''.stack = m.stack) (d : m''.depth = m.depth) => h.setPost (m' := m'') g d
  have hd := fun H => digit_j (H := H) (b := b)
  unfold M.first
  by_cases c1 : b = 91
  · obtain ⟨H2, e2, p2⟩ := push_ex (b := 91) (q := 1) (k := 1) h rfl (fun _ _ => rfl)
    have e2' : LC Tryz.prog EJ 95 [ptr p 0, .int .u8 91, .int .i64 1] H = some (.tuple #[], H2) := e2
    subst c1
    simp (config := { maxSteps := 4000000 }) [hg, hp, e2']; exact p2
  have f1 := eq_false c1
  rw [if_neg c1]
  by_cases c2 : b = 123
  · obtain ⟨H2, e2, p2⟩ := push_ex (b := 123) (q := 3) (k := 3) h rfl (fun _ _ => rfl)
    have e2' : LC Tryz.prog EJ 95 [ptr p 0, .int .u8 123, .int .i64 3] H = some (.tuple #[], H2) := e2
    subst c2
    simp (config := { maxSteps := 4000000 }) [hg, hp, e2']; exact p2
  have f2 := eq_false c2
  rw [if_neg c2]
  by_cases c3 : b = 34
  · rw [if_pos c3]
    simp (config := { maxSteps := 4000000 }) [hg, hp, f1, f2, eq_true c3]; exact en _ rfl rfl
  have f3 := eq_false c3
  rw [if_neg c3]
  by_cases c4 : b = 45
  · rw [if_pos c4]
    simp (config := { maxSteps := 4000000 }) [hg, hp, f1, f2, f3, eq_true c4]; exact en _ rfl rfl
  have f4 := eq_false c4
  rw [if_neg c4]
  by_cases c5 : b = 48
  · rw [if_pos c5]
    simp (config := { maxSteps := 4000000 }) [hg, hp, f1, f2, f3, f4, eq_true c5]; exact en _ rfl rfl
  have f5 := eq_false c5
  rw [if_neg c5]
  cases c6 : Tg.Json.digit b with
  | true =>
    rw [if_pos rfl]
    simp (config := { maxSteps := 4000000 }) [hg, hp, f1, f2, f3, f4, f5, hd, c6]; exact en _ rfl rfl
  | false =>
    rw [if_neg (by simp)]
    by_cases c7 : b = 116
    · rw [if_pos c7]
      simp (config := { maxSteps := 4000000 }) [hg, hp, f1, f2, f3, f4, f5, hd, c6, eq_true c7]; exact en _ rfl rfl
    have f7 := eq_false c7
    rw [if_neg c7]
    by_cases c8 : b = 102
    · rw [if_pos c8]
      simp (config := { maxSteps := 4000000 }) [hg, hp, f1, f2, f3, f4, f5, hd, c6, f7, eq_true c8]; exact en _ rfl rfl
    have f8 := eq_false c8
    rw [if_neg c8]
    by_cases c9 : b = 110
    · rw [if_pos c9]
      simp (config := { maxSteps := 4000000 }) [hg, hp, f1, f2, f3, f4, f5, hd, c6, f7, f8, eq_true c9]; exact en _ rfl rfl
    have f9 := eq_false c9
    rw [if_neg c9]
    simp (config := { maxSteps := 4000000 }) [hg, hp, f1, f2, f3, f4, f5, hd, c6, f7, f8, f9, fail0_l hg hp]; exact en _ rfl rfl
theorem top_ne {k : UInt8} (hk : k ≠ 0) (h : m.top = k) : m.stack ≠ [] := by
  intro hs
  rw [M.top, hs] at h
  exact hk h.symm
set_option maxHeartbeats 4000000 in
theorem after_ex (h : At p H m v) : ∃ H', LC Tryz.prog EJ 71 [ptr p 0, .int .u8 b.toNat] H = some (.tuple #[], H') ∧ Post p H (m.after b) H' := by
  refine meth_ex rfl Tryz.func71 rfl (Nat.le_of_ble_eq_true rfl) (by decide) (by kernel_rfl) h ?_
  have hg := h.get
  have hp := h.lt
  have a5 := h.set (m' := { m with pos := 5 }) rfl rfl
  have p5 := h.setPost (m' := { m with pos := 5 }) rfl rfl
  have ht := top_l a5
  have hf := fail0_l a5.get a5.lt
  have hw := fun H => white_j (H := H) (b := b)
  have en := fun m'' (g : m''.stack = m.stack) (d : m''.depth = m.depth) => h.setPost (m' := m'') g d
  have hfail : ∀ (h' : ({ m with pos := 5 } : M).after b = ({ m with pos := 5 } : M).fail 0), True := fun _ => trivial
  unfold M.after
  simp only
  generalize hn : ({ m with pos := 5 } : M) = n at *
  have hn1 : n.stack = m.stack := by rw [← hn]
  have hn2 : n.depth = m.depth := by rw [← hn]
  cases c1 : Tg.Json.white b with
  | true =>
    rw [if_pos rfl]
    simp (config := { maxSteps := 4000000 }) [hg, hp, hn, ht, hw, c1]; exact p5
  | false =>
    rw [if_neg (by simp)]
    by_cases c2 : b = 44
    · have e2' := eq_true c2
      have n93 : (b = 93) = False := eq_false (by rw [c2]; decide)
      have n125 : (b = 125) = False := eq_false (by rw [c2]; decide)
      by_cases t1 : n.top = 91
      · rw [if_pos ⟨c2, t1⟩]
        simp (config := { maxSteps := 4000000 }) [hg, hp, hn, ht, hw, c1, e2', n93, n125, t1]; subst hn; exact en _ rfl rfl
      · rw [if_neg (fun hx => t1 hx.2)]
        by_cases t2 : n.top = 123
        · rw [if_pos ⟨c2, t2⟩]
          simp (config := { maxSteps := 4000000 }) [hg, hp, hn, ht, hw, c1, e2', n93, n125, t2]; subst hn; exact en _ rfl rfl
        · rw [if_neg (fun hx => t2 hx.2), if_neg (by rintro (hx | hx) <;> exact absurd (c2.symm.trans hx.1) (by decide))]
          simp (config := { maxSteps := 4000000 }) [hg, hp, hn, ht, hw, c1, e2', n93, n125, eq_false t1, eq_false t2, hf]; exact en _ hn1 hn2
    · have f2 := eq_false c2
      rw [if_neg (fun hx => c2 hx.1), if_neg (fun hx => c2 hx.1)]
      by_cases c3 : b = 93
      · have e3' := eq_true c3
        have n125 : (b = 125) = False := eq_false (by rw [c3]; decide)
        by_cases t1 : n.top = 91
        · obtain ⟨H2, e2, p2⟩ := pop_ex a5 (top_ne (k := 91) (by decide) t1)
          rw [if_pos (.inl ⟨c3, t1⟩)]
          simp (config := { maxSteps := 4000000 }) [hg, hp, hn, ht, hw, c1, f2, e3', n125, t1, e2]; exact p5.trans p2
        · rw [if_neg (by rintro (hx | hx); exact t1 hx.2; exact absurd (c3.symm.trans hx.1) (by decide))]
          simp (config := { maxSteps := 4000000 }) [hg, hp, hn, ht, hw, c1, f2, e3', n125, eq_false t1, hf]; exact en _ hn1 hn2
      · have f3 := eq_false c3
        by_cases c4 : b = 125
        · have e4' := eq_true c4
          by_cases t1 : n.top = 123
          · obtain ⟨H2, e2, p2⟩ := pop_ex a5 (top_ne (k := 123) (by decide) t1)
            rw [if_pos (.inr ⟨c4, t1⟩)]
            simp (config := { maxSteps := 4000000 }) [hg, hp, hn, ht, hw, c1, f2, f3, e4', t1, e2]; exact p5.trans p2
          · rw [if_neg (by rintro (hx | hx); exact absurd (c4.symm.trans hx.1) (by decide); exact t1 hx.2)]
            simp (config := { maxSteps := 4000000 }) [hg, hp, hn, ht, hw, c1, f2, f3, e4', eq_false t1, hf]; exact en _ hn1 hn2
        · have f4 := eq_false c4
          rw [if_neg (by rintro (hx | hx); exact c3 hx.1; exact c4 hx.1)]
          simp (config := { maxSteps := 4000000 }) [hg, hp, hn, ht, hw, c1, f2, f3, f4, hf]; exact en _ hn1 hn2
theorem pos_eq {k : Nat} (hk : m.pos = k) (j : Nat) : ((m.pos : Int) = (j : Int)) = (k = j) := by rw [hk]; exact propext (by omega)
theorem names_ex (h : At p H m v) (h3 : m.pos = 3 → m.stack ≠ []) : ∃ H', LC Tryz.prog EJ 69 [ptr p 0, .int .u8 b.toNat] H = some (.tuple #[], H') ∧ Post p H (m.names b) H' := by
  refine meth_ex rfl Tryz.func69 rfl (Nat.le_of_ble_eq_true rfl) (by decide) (by kernel_rfl) h ?_
  have hg := h.get
  have hp := h.lt
  have hw := fun H => white_j (H := H) (b := b)
  have en := fun m'' (g : m''.stack = m.stack) (d : m''.depth = m.depth) => h.setPost (m' := m'') g d
  have q3 : ((m.pos : Int) = 3) = (m.pos = 3) := propext (by omega)
  unfold M.names
  cases c1 : Tg.Json.white b with
  | true =>
    rw [if_pos rfl]
    simp (config := { maxSteps := 4000000 }) [hg, hp, hw, c1]; exact h.post
  | false =>
    rw [if_neg (by simp)]
    by_cases c2 : b = 34
    · rw [if_pos c2]
      simp (config := { maxSteps := 4000000 }) [hg, hp, hw, c1, eq_true c2]; exact en _ rfl rfl
    have f2 := eq_false c2
    rw [if_neg c2]
    by_cases c3 : b = 125
    · by_cases c4 : m.pos = 3
      · obtain ⟨H2, e2, p2⟩ := pop_ex h (h3 c4)
        rw [if_pos ⟨c3, c4⟩]
        simp (config := { maxSteps := 4000000 }) [hg, hp, hw, c1, f2, eq_true c3, q3, eq_true c4, e2]; exact p2
      · rw [if_neg (fun hx => c4 hx.2)]
        simp (config := { maxSteps := 4000000 }) [hg, hp, hw, c1, f2, eq_true c3, q3, eq_false c4, fail0_l hg hp]; exact en _ rfl rfl
    · rw [if_neg (fun hx => c3 hx.1)]
      simp (config := { maxSteps := 4000000 }) [hg, hp, hw, c1, f2, eq_false c3, fail0_l hg hp]; exact en _ rfl rfl
end
end Go.Proofs.YtgnefbngkhjfcaaGreatDoor.Jn
/-
  The machine of layer 27 (json): a byte within a number.
-/
set_option linter.unusedSimpArgs false
set_option linter.unusedVariables false
set_option maxRecDepth 100000
namespace Go.Proofs.YtgnefbngkhjfcaaGreatDoor.Jn
open Go.Lg Tg.Json

section
variable {p : Nat} {H H' H1 : LH} {m m' m1 : M} {v v' : Value} {b : UInt8}
theorem num_eq {X : M} (h : At p H m v) (e : m.inNumber b = X) (hs : X.stack = m.stack) (hd : X.depth = m.depth) : Post p H (m.inNumber b) (H.set p (mb X v)) := by rw [e]; exact h.setPost hs hd
theorem num_af {Ha : LH} (pa : Post p H (m.after b) Ha) (e : m.inNumber b = m.after b) : Post p H (m.inNumber b) Ha := by rw [e]; exact pa

set_option maxHeartbeats 4000000 in
theorem num10_ex (h : At p H m v) (hk : m.pos = 10) : ∃ H', LC Tryz.prog EJ 76 [ptr p 0, .int .u8 b.toNat] H = some (.tuple #[], H') ∧ Post p H (m.inNumber b) H' := by
  refine meth_ex rfl Tryz.func76 rfl (Nat.le_of_ble_eq_true rfl) (by decide) (by kernel_rfl) h ?_
  have hg := h.get
  have hp := h.lt
  have hki : (m.pos : Int) = 10 := by rw [hk]; rfl
  have hd := fun H => digit_j (H := H) (b := b)
  have hf := fail0_l hg hp
  have he : ∀ H : LH, LC Tryz.prog EJ 77 [.int .i64 10] H = some (.bool false, H) := fun H => ended_j (q := 10)
  obtain ⟨Ha, ea, pa⟩ := after_ex (b := b) h
  cases cd : Tg.Json.digit b with
  | true =>
    have n46 : (b = 46) = False := eq_false (fun hx => by rw [hx] at cd; exact absurd cd (by decide))
    have n101 : (b = 101) = False := eq_false (fun hx => by rw [hx] at cd; exact absurd cd (by decide))
    have n69 : (b = 69) = False := eq_false (fun hx => by rw [hx] at cd; exact absurd cd (by decide))
    have n43 : (b = 43) = False := eq_false (fun hx => by rw [hx] at cd; exact absurd cd (by decide))
    have n45 : (b = 45) = False := eq_false (fun hx => by rw [hx] at cd; exact absurd cd (by decide))
    by_cases c48 : b = 48
    · have n48 := eq_true c48
      simp (config := { maxSteps := 8000000 }) [hg, hp, hki, hd, he, hf, ea, cd, n46, n101, n69, n43, n45, n48]
      exact num_eq h (by unfold M.inNumber; simp [hk, isE, Tg.Json.ended, cd, n46, n101, n69, n43, n45, n48]) rfl rfl
    · have n48 := eq_false c48
      simp (config := { maxSteps := 8000000 }) [hg, hp, hki, hd, he, hf, ea, cd, n46, n101, n69, n43, n45, n48]
      exact num_eq h (by unfold M.inNumber; simp [hk, isE, Tg.Json.ended, cd, n46, n101, n69, n43, n45, n48]) rfl rfl
  | false =>
    have n48 : (b = 48) = False := eq_false (fun hx => by rw [hx] at cd; exact absurd cd (by decide))
    by_cases c101 : b = 101
    · have n101 := eq_true c101
      have n69 : (b = 69) = False := eq_false (by rw [c101]; decide)
      simp (config := { maxSteps := 8000000 }) [hg, hp, hki, hd, he, hf, ea, cd, n48, n101, n69]
      exact num_eq h (by unfold M.inNumber; simp [hk, isE, Tg.Json.ended, cd, n48, n101, n69]) rfl rfl
    have n101 := eq_false c101
    by_cases c69 : b = 69
    · have n69 := eq_true c69
      simp (config := { maxSteps := 8000000 }) [hg, hp, hki, hd, he, hf, ea, cd, n48, n101, n69]
      exact num_eq h (by unfold M.inNumber; simp [hk, isE, Tg.Json.ended, cd, n48, n101, n69]) rfl rfl
    have n69 := eq_false c69
    simp (config := { maxSteps := 8000000 }) [hg, hp, hki, hd, he, hf, ea, cd, n48, n101, n69]
    exact num_eq h (by unfold M.inNumber; simp [hk, isE, Tg.Json.ended, cd, n48, n101, n69]) rfl rfl
set_option maxHeartbeats 4000000 in
theorem num11_ex (h : At p H m v) (hk : m.pos = 11) : ∃ H', LC Tryz.prog EJ 76 [ptr p 0, .int .u8 b.toNat] H = some (.tuple #[], H') ∧ Post p H (m.inNumber b) H' := by
  refine meth_ex rfl Tryz.func76 rfl (Nat.le_of_ble_eq_true rfl) (by decide) (by kernel_rfl) h ?_
  have hg := h.get
  have hp := h.lt
  have hki : (m.pos : Int) = 11 := by rw [hk]; rfl
  have hd := fun H => digit_j (H := H) (b := b)
  have hf := fail0_l hg hp
  have he : ∀ H : LH, LC Tryz.prog EJ 77 [.int .i64 11] H = some (.bool true, H) := fun H => ended_j (q := 11)
  obtain ⟨Ha, ea, pa⟩ := after_ex (b := b) h
  cases cd : Tg.Json.digit b with
  | true =>
    have n46 : (b = 46) = False := eq_false (fun hx => by rw [hx] at cd; exact absurd cd (by decide))
    have n101 : (b = 101) = False := eq_false (fun hx => by rw [hx] at cd; exact absurd cd (by decide))
    have n69 : (b = 69) = False := eq_false (fun hx => by rw [hx] at cd; exact absurd cd (by decide))
    have n43 : (b = 43) = False := eq_false (fun hx => by rw [hx] at cd; exact absurd cd (by decide))
    have n45 : (b = 45) = False := eq_false (fun hx => by rw [hx] at cd; exact absurd cd (by decide))
    simp (config := { maxSteps := 8000000 }) [hg, hp, hki, hd, he, hf, ea, cd, n46, n101, n69, n43, n45]
    exact num_af pa (by unfold M.inNumber; simp [hk, isE, Tg.Json.ended, cd, n46, n101, n69, n43, n45])
  | false =>
    have n48 : (b = 48) = False := eq_false (fun hx => by rw [hx] at cd; exact absurd cd (by decide))
    by_cases c46 : b = 46
    · have n46 := eq_true c46
      have n101 : (b = 101) = False := eq_false (by rw [c46]; decide)
      have n69 : (b = 69) = False := eq_false (by rw [c46]; decide)
      have n43 : (b = 43) = False := eq_false (by rw [c46]; decide)
      have n45 : (b = 45) = False := eq_false (by rw [c46]; decide)
      simp (config := { maxSteps := 8000000 }) [hg, hp, hki, hd, he, hf, ea, cd, n48, n46, n101, n69, n43, n45]
      exact num_eq h (by unfold M.inNumber; simp [hk, isE, Tg.Json.ended, cd, n48, n46, n101, n69, n43, n45]) rfl rfl
    have n46 := eq_false c46
    by_cases c101 : b = 101
    · have n101 := eq_true c101
      have n46 : (b = 46) = False := eq_false (by rw [c101]; decide)
      have n69 : (b = 69) = False := eq_false (by rw [c101]; decide)
      have n43 : (b = 43) = False := eq_false (by rw [c101]; decide)
      have n45 : (b = 45) = False := eq_false (by rw [c101]; decide)
      simp (config := { maxSteps := 8000000 }) [hg, hp, hki, hd, he, hf, ea, cd, n48, n46, n101, n69, n43, n45]
      exact num_eq h (by unfold M.inNumber; simp [hk, isE, Tg.Json.ended, cd, n48, n46, n101, n69, n43, n45]) rfl rfl
    have n101 := eq_false c101
    by_cases c69 : b = 69
    · have n69 := eq_true c69
      have n46 : (b = 46) = False := eq_false (by rw [c69]; decide)
      have n101 : (b = 101) = False := eq_false (by rw [c69]; decide)
      have n43 : (b = 43) = False := eq_false (by rw [c69]; decide)
      have n45 : (b = 45) = False := eq_false (by rw [c69]; decide)
      simp (config := { maxSteps := 8000000 }) [hg, hp, hki, hd, he, hf, ea, cd, n48, n46, n101, n69, n43, n45]
      exact num_eq h (by unfold M.inNumber; simp [hk, isE, Tg.Json.ended, cd, n48, n46, n101, n69, n43, n45]) rfl rfl
    have n69 := eq_false c69
    simp (config := { maxSteps := 8000000 }) [hg, hp, hki, hd, he, hf, ea, cd, n48, n46, n101, n69]
    exact num_af pa (by unfold M.inNumber; simp [hk, isE, Tg.Json.ended, cd, n48, n46, n101, n69])
set_option maxHeartbeats 4000000 in
theorem num12_ex (h : At p H m v) (hk : m.pos = 12) : ∃ H', LC Tryz.prog EJ 76 [ptr p 0, .int .u8 b.toNat] H = some (.tuple #[], H') ∧ Post p H (m.inNumber b) H' := by
  refine meth_ex rfl Tryz.func76 rfl (Nat.le_of_ble_eq_true rfl) (by decide) (by kernel_rfl) h ?_
  have hg := h.get
  have hp := h.lt
  have hki : (m.pos : Int) = 12 := by rw [hk]; rfl
  have hd := fun H => digit_j (H := H) (b := b)
  have hf := fail0_l hg hp
  have he : ∀ H : LH, LC Tryz.prog EJ 77 [.int .i64 12] H = some (.bool true, H) := fun H => ended_j (q := 12)
  obtain ⟨Ha, ea, pa⟩ := after_ex (b := b) h
  cases cd : Tg.Json.digit b with
  | true =>
    have n46 : (b = 46) = False := eq_false (fun hx => by rw [hx] at cd; exact absurd cd (by decide))
    have n101 : (b = 101) = False := eq_false (fun hx => by rw [hx] at cd; exact absurd cd (by decide))
    have n69 : (b = 69) = False := eq_false (fun hx => by rw [hx] at cd; exact absurd cd (by decide))
    have n43 : (b = 43) = False := eq_false (fun hx => by rw [hx] at cd; exact absurd cd (by decide))
    have n45 : (b = 45) = False := eq_false (fun hx => by rw [hx] at cd; exact absurd cd (by decide))
    simp (config := { maxSteps := 8000000 }) [hg, hp, hki, hd, he, hf, ea, cd, n46, n101, n69, n43, n45]
    exact num_eq h (by unfold M.inNumber; simp [hk, isE, Tg.Json.ended, cd, n46, n101, n69, n43, n45]) rfl rfl
  | false =>
    have n48 : (b = 48) = False := eq_false (fun hx => by rw [hx] at cd; exact absurd cd (by decide))
    by_cases c46 : b = 46
    · have n46 := eq_true c46
      have n101 : (b = 101) = False := eq_false (by rw [c46]; decide)
      have n69 : (b = 69) = False := eq_false (by rw [c46]; decide)
      have n43 : (b = 43) = False := eq_false (by rw [c46]; decide)
      have n45 : (b = 45) = False := eq_false (by rw [c46]; decide)
      simp (config := { maxSteps := 8000000 }) [hg, hp, hki, hd, he, hf, ea, cd, n48, n46, n101, n69, n43, n45]
      exact num_eq h (by unfold M.inNumber; simp [hk, isE, Tg.Json.ended, cd, n48, n46, n101, n69, n43, n45]) rfl rfl
    have n46 := eq_false c46
    by_cases c101 : b = 101
    · have n101 := eq_true c101
      have n46 : (b = 46) = False := eq_false (by rw [c101]; decide)
      have n69 : (b = 69) = False := eq_false (by rw [c101]; decide)
      have n43 : (b = 43) = False := eq_false (by rw [c101]; decide)
      have n45 : (b = 45) = False := eq_false (by rw [c101]; decide)
      simp (config := { maxSteps := 8000000 }) [hg, hp, hki, hd, he, hf, ea, cd, n48, n46, n101, n69, n43, n45]
      exact num_eq h (by unfold M.inNumber; simp [hk, isE, Tg.Json.ended, cd, n48, n46, n101, n69, n43, n45]) rfl rfl
    have n101 := eq_false c101
    by_cases c69 : b = 69
    · have n69 := eq_true c69
      have n46 : (b = 46) = False := eq_false (by rw [c69]; decide)
      have n101 : (b = 101) = False := eq_false (by rw [c69]; decide)
      have n43 : (b = 43) = False := eq_false (by rw [c69]; decide)
      have n45 : (b = 45) = False := eq_false (by rw [c69]; decide)
      simp (config := { maxSteps := 8000000 }) [hg, hp, hki, hd, he, hf, ea, cd, n48, n46, n101, n69, n43, n45]
      exact num_eq h (by unfold M.inNumber; simp [hk, isE, Tg.Json.ended, cd, n48, n46, n101, n69, n43, n45]) rfl rfl
    have n69 := eq_false c69
    simp (config := { maxSteps := 8000000 }) [hg, hp, hki, hd, he, hf, ea, cd, n48, n46, n101, n69]
    exact num_af pa (by unfold M.inNumber; simp [hk, isE, Tg.Json.ended, cd, n48, n46, n101, n69])
end
end Go.Proofs.YtgnefbngkhjfcaaGreatDoor.Jn
/-
  The machine of layer 27 (json): a byte within a number.
-/
set_option linter.unusedSimpArgs false
set_option linter.unusedVariables false
set_option maxRecDepth 100000
namespace Go.Proofs.YtgnefbngkhjfcaaGreatDoor.Jn
open Go.Lg Tg.Json

section
variable {p : Nat} {H H' H1 : LH} {m m' m1 : M} {v v' : Value} {b : UInt8}
theorem num_eqB {X : M} (h : At p H m v) (e : m.inNumber b = X) (hs : X.stack = m.stack) (hd : X.depth = m.depth) : Post p H (m.inNumber b) (H.set p (mb X v)) := by rw [e]; exact h.setPost hs hd
theorem num_afB {Ha : LH} (pa : Post p H (m.after b) Ha) (e : m.inNumber b = m.after b) : Post p H (m.inNumber b) Ha := by rw [e]; exact pa

set_option maxHeartbeats 4000000 in
theorem num13_ex (h : At p H m v) (hk : m.pos = 13) : ∃ H', LC Tryz.prog EJ 76 [ptr p 0, .int .u8 b.toNat] H = some (.tuple #[], H') ∧ Post p H (m.inNumber b) H' := by
  refine meth_ex rfl Tryz.func76 rfl (Nat.le_of_ble_eq_true rfl) (by decide) (by kernel_rfl) h ?_
  have hg := h.get
  have hp := h.lt
  have hki : (m.pos : Int) = 13 := by rw [hk]; rfl
  have hd := fun H => digit_j (H := H) (b := b)
  have hf := fail0_l hg hp
  have he : ∀ H : LH, LC Tryz.prog EJ 77 [.int .i64 13] H = some (.bool false, H) := fun H => ended_j (q := 13)
  obtain ⟨Ha, ea, pa⟩ := after_ex (b := b) h
  cases cd : Tg.Json.digit b with
  | true =>
    have n46 : (b = 46) = False := eq_false (fun hx => by rw [hx] at cd; exact absurd cd (by decide))
    have n101 : (b = 101) = False := eq_false (fun hx => by rw [hx] at cd; exact absurd cd (by decide))
    have n69 : (b = 69) = False := eq_false (fun hx => by rw [hx] at cd; exact absurd cd (by decide))
    have n43 : (b = 43) = False := eq_false (fun hx => by rw [hx] at cd; exact absurd cd (by decide))
    have n45 : (b = 45) = False := eq_false (fun hx => by rw [hx] at cd; exact absurd cd (by decide))
    simp (config := { maxSteps := 8000000 }) [hg, hp, hki, hd, he, hf, ea, cd, n46, n101, n69, n43, n45]
    exact num_eqB h (by unfold M.inNumber; simp [hk, isE, Tg.Json.ended, cd, n46, n101, n69, n43, n45]) rfl rfl
  | false =>
    have n48 : (b = 48) = False := eq_false (fun hx => by rw [hx] at cd; exact absurd cd (by decide))
    by_cases c101 : b = 101
    · have n101 := eq_true c101
      have n69 : (b = 69) = False := eq_false (by rw [c101]; decide)
      simp (config := { maxSteps := 8000000 }) [hg, hp, hki, hd, he, hf, ea, cd, n48, n101, n69]
      exact num_eqB h (by unfold M.inNumber; simp [hk, isE, Tg.Json.ended, cd, n48, n101, n69]) rfl rfl
    have n101 := eq_false c101
    by_cases c69 : b = 69
    · have n69 := eq_true c69
      simp (config := { maxSteps := 8000000 }) [hg, hp, hki, hd, he, hf, ea, cd, n48, n101, n69]
      exact num_eqB h (by unfold M.inNumber; simp [hk, isE, Tg.Json.ended, cd, n48, n101, n69]) rfl rfl
    have n69 := eq_false c69
    simp (config := { maxSteps := 8000000 }) [hg, hp, hki, hd, he, hf, ea, cd, n48, n101, n69]
    exact num_eqB h (by unfold M.inNumber; simp [hk, isE, Tg.Json.ended, cd, n48, n101, n69]) rfl rfl
set_option maxHeartbeats 4000000 in
theorem num14_ex (h : At p H m v) (hk : m.pos = 14) : ∃ H', LC Tryz.prog EJ 76 [ptr p 0, .int .u8 b.toNat] H = some (.tuple #[], H') ∧ Post p H (m.inNumber b) H' := by
  refine meth_ex rfl Tryz.func76 rfl (Nat.le_of_ble_eq_true rfl) (by decide) (by kernel_rfl) h ?_
  have hg := h.get
  have hp := h.lt
  have hki : (m.pos : Int) = 14 := by rw [hk]; rfl
  have hd := fun H => digit_j (H := H) (b := b)
  have hf := fail0_l hg hp
  have he : ∀ H : LH, LC Tryz.prog EJ 77 [.int .i64 14] H = some (.bool true, H) := fun H => ended_j (q := 14)
  obtain ⟨Ha, ea, pa⟩ := after_ex (b := b) h
  cases cd : Tg.Json.digit b with
  | true =>
    have n46 : (b = 46) = False := eq_false (fun hx => by rw [hx] at cd; exact absurd cd (by decide))
    have n101 : (b = 101) = False := eq_false (fun hx => by rw [hx] at cd; exact absurd cd (by decide))
    have n69 : (b = 69) = False := eq_false (fun hx => by rw [hx] at cd; exact absurd cd (by decide))
    have n43 : (b = 43) = False := eq_false (fun hx => by rw [hx] at cd; exact absurd cd (by decide))
    have n45 : (b = 45) = False := eq_false (fun hx => by rw [hx] at cd; exact absurd cd (by decide))
    simp (config := { maxSteps := 8000000 }) [hg, hp, hki, hd, he, hf, ea, cd, n46, n101, n69, n43, n45]
    exact num_eqB h (by unfold M.inNumber; simp [hk, isE, Tg.Json.ended, cd, n46, n101, n69, n43, n45]) rfl rfl
  | false =>
    have n48 : (b = 48) = False := eq_false (fun hx => by rw [hx] at cd; exact absurd cd (by decide))
    by_cases c101 : b = 101
    · have n101 := eq_true c101
      have n46 : (b = 46) = False := eq_false (by rw [c101]; decide)
      have n69 : (b = 69) = False := eq_false (by rw [c101]; decide)
      have n43 : (b = 43) = False := eq_false (by rw [c101]; decide)
      have n45 : (b = 45) = False := eq_false (by rw [c101]; decide)
      simp (config := { maxSteps := 8000000 }) [hg, hp, hki, hd, he, hf, ea, cd, n48, n46, n101, n69, n43, n45]
      exact num_eqB h (by unfold M.inNumber; simp [hk, isE, Tg.Json.ended, cd, n48, n46, n101, n69, n43, n45]) rfl rfl
    have n101 := eq_false c101
    by_cases c69 : b = 69
    · have n69 := eq_true c69
      have n46 : (b = 46) = False := eq_false (by rw [c69]; decide)
      have n101 : (b = 101) = False := eq_false (by rw [c69]; decide)
      have n43 : (b = 43) = False := eq_false (by rw [c69]; decide)
      have n45 : (b = 45) = False := eq_false (by rw [c69]; decide)
      simp (config := { maxSteps := 8000000 }) [hg, hp, hki, hd, he, hf, ea, cd, n48, n46, n101, n69, n43, n45]
      exact num_eqB h (by unfold M.inNumber; simp [hk, isE, Tg.Json.ended, cd, n48, n46, n101, n69, n43, n45]) rfl rfl
    have n69 := eq_false c69
    simp (config := { maxSteps := 8000000 }) [hg, hp, hki, hd, he, hf, ea, cd, n48, n101, n69]
    exact num_afB pa (by unfold M.inNumber; simp [hk, isE, Tg.Json.ended, cd, n48, n101, n69])
set_option maxHeartbeats 4000000 in
theorem num15_ex (h : At p H m v) (hk : m.pos = 15) : ∃ H', LC Tryz.prog EJ 76 [ptr p 0, .int .u8 b.toNat] H = some (.tuple #[], H') ∧ Post p H (m.inNumber b) H' := by
  refine meth_ex rfl Tryz.func76 rfl (Nat.le_of_ble_eq_true rfl) (by decide) (by kernel_rfl) h ?_
  have hg := h.get
  have hp := h.lt
  have hki : (m.pos : Int) = 15 := by rw [hk]; rfl
  have hd := fun H => digit_j (H := H) (b := b)
  have hf := fail0_l hg hp
  have he : ∀ H : LH, LC Tryz.prog EJ 77 [.int .i64 15] H = some (.bool false, H) := fun H => ended_j (q := 15)
  obtain ⟨Ha, ea, pa⟩ := after_ex (b := b) h
  cases cd : Tg.Json.digit b with
  | true =>
    have n46 : (b = 46) = False := eq_false (fun hx => by rw [hx] at cd; exact absurd cd (by decide))
    have n101 : (b = 101) = False := eq_false (fun hx => by rw [hx] at cd; exact absurd cd (by decide))
    have n69 : (b = 69) = False := eq_false (fun hx => by rw [hx] at cd; exact absurd cd (by decide))
    have n43 : (b = 43) = False := eq_false (fun hx => by rw [hx] at cd; exact absurd cd (by decide))
    have n45 : (b = 45) = False := eq_false (fun hx => by rw [hx] at cd; exact absurd cd (by decide))
    simp (config := { maxSteps := 8000000 }) [hg, hp, hki, hd, he, hf, ea, cd, n46, n101, n69, n43, n45]
    exact num_eqB h (by unfold M.inNumber; simp [hk, isE, Tg.Json.ended, cd, n46, n101, n69, n43, n45]) rfl rfl
  | false =>
    have n48 : (b = 48) = False := eq_false (fun hx => by rw [hx] at cd; exact absurd cd (by decide))
    by_cases c43 : b = 43
    · have n43 := eq_true c43
      have n46 : (b = 46) = False := eq_false (by rw [c43]; decide)
      have n101 : (b = 101) = False := eq_false (by rw [c43]; decide)
      have n69 : (b = 69) = False := eq_false (by rw [c43]; decide)
      have n45 : (b = 45) = False := eq_false (by rw [c43]; decide)
      simp (config := { maxSteps := 8000000 }) [hg, hp, hki, hd, he, hf, ea, cd, n48, n46, n101, n69, n43, n45]
      exact num_eqB h (by unfold M.inNumber; simp [hk, isE, Tg.Json.ended, cd, n48, n46, n101, n69, n43, n45]) rfl rfl
    have n43 := eq_false c43
    by_cases c45 : b = 45
    · have n45 := eq_true c45
      have n46 : (b = 46) = False := eq_false (by rw [c45]; decide)
      have n101 : (b = 101) = False := eq_false (by rw [c45]; decide)
      have n69 : (b = 69) = False := eq_false (by rw [c45]; decide)
      have n43 : (b = 43) = False := eq_false (by rw [c45]; decide)
      simp (config := { maxSteps := 8000000 }) [hg, hp, hki, hd, he, hf, ea, cd, n48, n46, n101, n69, n43, n45]
      exact num_eqB h (by unfold M.inNumber; simp [hk, isE, Tg.Json.ended, cd, n48, n46, n101, n69, n43, n45]) rfl rfl
    have n45 := eq_false c45
    by_cases c101 : b = 101
    · have n101 := eq_true c101
      have n69 : (b = 69) = False := eq_false (by rw [c101]; decide)
      simp (config := { maxSteps := 8000000 }) [hg, hp, hki, hd, he, hf, ea, cd, n48, n43, n45, n101, n69]
      exact num_eqB h (by unfold M.inNumber; simp [hk, isE, Tg.Json.ended, cd, n48, n43, n45, n101, n69]) rfl rfl
    have n101 := eq_false c101
    by_cases c69 : b = 69
    · have n69 := eq_true c69
      simp (config := { maxSteps := 8000000 }) [hg, hp, hki, hd, he, hf, ea, cd, n48, n43, n45, n101, n69]
      exact num_eqB h (by unfold M.inNumber; simp [hk, isE, Tg.Json.ended, cd, n48, n43, n45, n101, n69]) rfl rfl
    have n69 := eq_false c69
    simp (config := { maxSteps := 8000000 }) [hg, hp, hki, hd, he, hf, ea, cd, n48, n43, n45, n101, n69]
    exact num_eqB h (by unfold M.inNumber; simp [hk, isE, Tg.Json.ended, cd, n48, n43, n45, n101, n69]) rfl rfl
end
end Go.Proofs.YtgnefbngkhjfcaaGreatDoor.Jn
/-
  The machine of layer 27 (json): a byte within a number.
-/
set_option linter.unusedSimpArgs false
set_option linter.unusedVariables false
set_option maxRecDepth 100000
namespace Go.Proofs.YtgnefbngkhjfcaaGreatDoor.Jn
open Go.Lg Tg.Json

section
variable {p : Nat} {H H' H1 : LH} {m m' m1 : M} {v v' : Value} {b : UInt8}

set_option maxHeartbeats 4000000 in
theorem num16_ex (h : At p H m v) (hk : m.pos = 16) : ∃ H', LC Tryz.prog EJ 76 [ptr p 0, .int .u8 b.toNat] H = some (.tuple #[], H') ∧ Post p H (m.inNumber b) H' := by
  refine meth_ex rfl Tryz.func76 rfl (Nat.le_of_ble_eq_true rfl) (by decide) (by kernel_rfl) h ?_
  have hg := h.get
  have hp := h.lt
  have hki : (m.pos : Int) = 16 := by rw [hk]; rfl
  have hd := fun H => digit_j (H := H) (b := b)
  have hf := fail0_l hg hp
  have he : ∀ H : LH, LC Tryz.prog EJ 77 [.int .i64 16] H = some (.bool false, H) := fun H => ended_j (q := 16)
  obtain ⟨Ha, ea, pa⟩ := after_ex (b := b) h
  cases cd : Tg.Json.digit b with
  | true =>
    have n46 : (b = 46) = False := eq_false (fun hx => by rw [hx] at cd; exact absurd cd (by decide))
    have n101 : (b = 101) = False := eq_false (fun hx => by rw [hx] at cd; exact absurd cd (by decide))
    have n69 : (b = 69) = False := eq_false (fun hx => by rw [hx] at cd; exact absurd cd (by decide))
    have n43 : (b = 43) = False := eq_false (fun hx => by rw [hx] at cd; exact absurd cd (by decide))
    have n45 : (b = 45) = False := eq_false (fun hx => by rw [hx] at cd; exact absurd cd (by decide))
    simp (config := { maxSteps := 8000000 }) [hg, hp, hki, hd, he, hf, ea, cd, n46, n101, n69, n43, n45]
    exact num_eq h (by unfold M.inNumber; simp [hk, isE, Tg.Json.ended, cd, n46, n101, n69, n43, n45]) rfl rfl
  | false =>
    have n48 : (b = 48) = False := eq_false (fun hx => by rw [hx] at cd; exact absurd cd (by decide))
    by_cases c101 : b = 101
    · have n101 := eq_true c101
      have n69 : (b = 69) = False := eq_false (by rw [c101]; decide)
      simp (config := { maxSteps := 8000000 }) [hg, hp, hki, hd, he, hf, ea, cd, n48, n101, n69]
      exact num_eq h (by unfold M.inNumber; simp [hk, isE, Tg.Json.ended, cd, n48, n101, n69]) rfl rfl
    have n101 := eq_false c101
    by_cases c69 : b = 69
    · have n69 := eq_true c69
      simp (config := { maxSteps := 8000000 }) [hg, hp, hki, hd, he, hf, ea, cd, n48, n101, n69]
      exact num_eq h (by unfold M.inNumber; simp [hk, isE, Tg.Json.ended, cd, n48, n101, n69]) rfl rfl
    have n69 := eq_false c69
    simp (config := { maxSteps := 8000000 }) [hg, hp, hki, hd, he, hf, ea, cd, n48, n101, n69]
    exact num_eq h (by unfold M.inNumber; simp [hk, isE, Tg.Json.ended, cd, n48, n101, n69]) rfl rfl
set_option maxHeartbeats 4000000 in
theorem num17_ex (h : At p H m v) (hk : m.pos = 17) : ∃ H', LC Tryz.prog EJ 76 [ptr p 0, .int .u8 b.toNat] H = some (.tuple #[], H') ∧ Post p H (m.inNumber b) H' := by
  refine meth_ex rfl Tryz.func76 rfl (Nat.le_of_ble_eq_true rfl) (by decide) (by kernel_rfl) h ?_
  have hg := h.get
  have hp := h.lt
  have hki : (m.pos : Int) = 17 := by rw [hk]; rfl
  have hd := fun H => digit_j (H := H) (b := b)
  have hf := fail0_l hg hp
  have he : ∀ H : LH, LC Tryz.prog EJ 77 [.int .i64 17] H = some (.bool true, H) := fun H => ended_j (q := 17)
  obtain ⟨Ha, ea, pa⟩ := after_ex (b := b) h
  cases cd : Tg.Json.digit b with
  | true =>
    have n46 : (b = 46) = False := eq_false (fun hx => by rw [hx] at cd; exact absurd cd (by decide))
    have n101 : (b = 101) = False := eq_false (fun hx => by rw [hx] at cd; exact absurd cd (by decide))
    have n69 : (b = 69) = False := eq_false (fun hx => by rw [hx] at cd; exact absurd cd (by decide))
    have n43 : (b = 43) = False := eq_false (fun hx => by rw [hx] at cd; exact absurd cd (by decide))
    have n45 : (b = 45) = False := eq_false (fun hx => by rw [hx] at cd; exact absurd cd (by decide))
    simp (config := { maxSteps := 8000000 }) [hg, hp, hki, hd, he, hf, ea, cd, n46, n101, n69, n43, n45]
    exact num_eq h (by unfold M.inNumber; simp [hk, isE, Tg.Json.ended, cd, n46, n101, n69, n43, n45]) rfl rfl
  | false =>
    have n48 : (b = 48) = False := eq_false (fun hx => by rw [hx] at cd; exact absurd cd (by decide))
    by_cases c101 : b = 101
    · have n101 := eq_true c101
      have n69 : (b = 69) = False := eq_false (by rw [c101]; decide)
      simp (config := { maxSteps := 8000000 }) [hg, hp, hki, hd, he, hf, ea, cd, n48, n101, n69]
      exact num_af pa (by unfold M.inNumber; simp [hk, isE, Tg.Json.ended, cd, n48, n101, n69])
    have n101 := eq_false c101
    by_cases c69 : b = 69
    · have n69 := eq_true c69
      simp (config := { maxSteps := 8000000 }) [hg, hp, hki, hd, he, hf, ea, cd, n48, n101, n69]
      exact num_af pa (by unfold M.inNumber; simp [hk, isE, Tg.Json.ended, cd, n48, n101, n69])
    have n69 := eq_false c69
    simp (config := { maxSteps := 8000000 }) [hg, hp, hki, hd, he, hf, ea, cd, n48, n101, n69]
    exact num_af pa (by unfold M.inNumber; simp [hk, isE, Tg.Json.ended, cd, n48, n101, n69])
theorem inNumber_ex (h : At p H m v) (h10 : 10 ≤ m.pos) (h17 : m.pos ≤ 17) : ∃ H', LC Tryz.prog EJ 76 [ptr p 0, .int .u8 b.toNat] H = some (.tuple #[], H') ∧ Post p H (m.inNumber b) H' := by
  have : m.pos = 10 ∨ m.pos = 11 ∨ m.pos = 12 ∨ m.pos = 13 ∨ m.pos = 14 ∨ m.pos = 15 ∨ m.pos = 16 ∨ m.pos = 17 := by omega
  rcases this with hk | hk | hk | hk | hk | hk | hk | hk
  · exact num10_ex h hk
  · exact num11_ex h hk
  · exact num12_ex h hk
  · exact num13_ex h hk
  · exact num14_ex h hk
  · exact num15_ex h hk
  · exact num16_ex h hk
  · exact num17_ex h hk
end
end Go.Proofs.YtgnefbngkhjfcaaGreatDoor.Jn
/-
  The machine of layer 27 (json): bytes, all at once.
-/
set_option linter.unusedSimpArgs false
set_option linter.unusedVariables false
set_option maxRecDepth 100000
namespace Go.Proofs.YtgnefbngkhjfcaaGreatDoor.Jn
open Go.Lg Tg.Json

section
variable {p : Nat} {H H' H1 : LH} {m m' m1 : M} {v v' : Value} {b : UInt8} {s : List UInt8}
set_option maxHeartbeats 4000000 in
theorem byte_ex (h : At p H m v) (hw : JWF m) : ∃ H', LC Tryz.prog EJ 46 [ptr p 0, .int .u8 b.toNat] H = some (.tuple #[], H') ∧ Post p H (m.byte b) H' := by
  refine meth_ex rfl Tryz.func46 rfl (Nat.le_of_ble_eq_true rfl) (by decide) (by kernel_rfl) h ?_
  have hg := h.get
  have hp := h.lt
  have en := fun m'' (g : m''.stack = m.stack) (d : m''.depth = m.depth) => h.setPost (m' := m'') g d
  have hwh := fun H => white_j (H := H) (b := b)
  have hf := fail0_l hg hp
  have key : ∀ k, m.pos = k → ∀ j : Nat, ((m.pos : Int) = (j : Int)) = (k = j) := fun k hk j => pos_eq hk j
  have e0 : ((m.pos : Int) = 0) = (m.pos = 0) := propext (by omega)
  have e1 : ((m.pos : Int) = 1) = (m.pos = 1) := propext (by omega)
  have e2 : ((m.pos : Int) = 2) = (m.pos = 2) := propext (by omega)
  have e3 : ((m.pos : Int) = 3) = (m.pos = 3) := propext (by omega)
  have e4 : ((m.pos : Int) = 4) = (m.pos = 4) := propext (by omega)
  have e5 : ((m.pos : Int) = 5) = (m.pos = 5) := propext (by omega)
  have e6 : ((m.pos : Int) = 6) = (m.pos = 6) := propext (by omega)
  have e7 : ((m.pos : Int) = 7) = (m.pos = 7) := propext (by omega)
  have e8 : ((m.pos : Int) = 8) = (m.pos = 8) := propext (by omega)
  have e9 : ((m.pos : Int) = 9) = (m.pos = 9) := propext (by omega)
  obtain ⟨Hb, eb, pb⟩ := begin_ex (b := b) h
  obtain ⟨Ha, ea, pa⟩ := after_ex (b := b) h
  obtain ⟨Ht, et, pt⟩ := inText_ex (b := b) h
  obtain ⟨Hs, es, ps⟩ := inSlash_ex (b := b) h
  unfold M.byte
  by_cases c0 : m.pos = 0
  · have f0 := eq_true c0
    rw [if_pos (.inl c0)]
    have f1 : (m.pos = 1) = False := eq_false (by omega)
    cases cw : Tg.Json.white b with
    | true =>
      rw [if_pos rfl]
      simp (config := { maxSteps := 4000000 }) [hg, hp, e0, f0, hwh, cw]; exact h.post
    | false =>
      rw [if_neg (by simp), if_neg (fun hx => by omega)]
      by_cases cb : b = 93
      · simp (config := { maxSteps := 4000000 }) [hg, hp, e0, f0, e1, f1, hwh, cw, eq_true cb, eb]; exact pb
      · simp (config := { maxSteps := 4000000 }) [hg, hp, e0, f0, e1, f1, hwh, cw, eq_false cb, eb]; exact pb
  have f0 := eq_false c0
  by_cases c1 : m.pos = 1
  · have f1 := eq_true c1
    rw [if_pos (.inr c1)]
    cases cw : Tg.Json.white b with
    | true =>
      rw [if_pos rfl]
      simp (config := { maxSteps := 4000000 }) [hg, hp, e0, f0, e1, f1, hwh, cw]; exact h.post
    | false =>
      rw [if_neg (by simp)]
      by_cases cb : b = 93
      · obtain ⟨H2, e2, p2⟩ := pop_ex h (hw.first (.inl c1))
        rw [if_pos ⟨cb, c1⟩]
        simp (config := { maxSteps := 4000000 }) [hg, hp, e0, f0, e1, f1, hwh, cw, eq_true cb, e2]; exact p2
      · rw [if_neg (fun hx => cb hx.1)]
        simp (config := { maxSteps := 4000000 }) [hg, hp, e0, f0, e1, f1, hwh, cw, eq_false cb, eb]; exact pb
  have f1 := eq_false c1
  rw [if_neg (by rintro (hx | hx); exact c0 hx; exact c1 hx)]
  by_cases c2 : m.pos = 2
  · have f2 := eq_true c2
    obtain ⟨Hn, en, pn⟩ := names_ex (b := b) h (fun h3 => hw.first (.inr h3))
    rw [if_pos (.inl c2)]
    simp (config := { maxSteps := 4000000 }) [hg, hp, e0, f0, e1, f1, e2, f2, en]; exact pn
  have f2 := eq_false c2
  by_cases c3 : m.pos = 3
  · have f3 := eq_true c3
    obtain ⟨Hn, en, pn⟩ := names_ex (b := b) h (fun h3 => hw.first (.inr h3))
    rw [if_pos (.inr c3)]
    simp (config := { maxSteps := 4000000 }) [hg, hp, e0, f0, e1, f1, e2, f2, e3, f3, en]; exact pn
  have f3 := eq_false c3
  rw [if_neg (by rintro (hx | hx); exact c2 hx; exact c3 hx)]
  by_cases c4 : m.pos = 4
  · have f4 := eq_true c4
    rw [if_pos c4]
    cases cw : Tg.Json.white b with
    | true =>
      rw [if_pos rfl]
      simp (config := { maxSteps := 4000000 }) [hg, hp, e0, f0, e1, f1, e2, f2, e3, f3, e4, f4, hwh, cw]; exact h.post
    | false =>
      rw [if_neg (by simp)]
      by_cases cb : b = 58
      · rw [if_pos cb]
        simp (config := { maxSteps := 4000000 }) [hg, hp, e0, f0, e1, f1, e2, f2, e3, f3, e4, f4, hwh, cw, eq_true cb]; exact en _ rfl rfl
      · rw [if_neg cb]
        simp (config := { maxSteps := 4000000 }) [hg, hp, e0, f0, e1, f1, e2, f2, e3, f3, e4, f4, hwh, cw, eq_false cb, hf]; exact en _ rfl rfl
  have f4 := eq_false c4
  rw [if_neg c4]
  by_cases c5 : m.pos = 5
  · rw [if_pos c5]
    simp (config := { maxSteps := 4000000 }) [hg, hp, e0, f0, e1, f1, e2, f2, e3, f3, e4, f4, e5, eq_true c5, ea]; exact pa
  have f5 := eq_false c5
  rw [if_neg c5]
  by_cases c6 : m.pos = 6
  · rw [if_pos c6]
    simp (config := { maxSteps := 4000000 }) [hg, hp, e0, f0, e1, f1, e2, f2, e3, f3, e4, f4, e5, f5, e6, eq_true c6, et]; exact pt
  have f6 := eq_false c6
  rw [if_neg c6]
  by_cases c7 : m.pos = 7
  · rw [if_pos c7]
    simp (config := { maxSteps := 4000000 }) [hg, hp, e0, f0, e1, f1, e2, f2, e3, f3, e4, f4, e5, f5, e6, f6, e7, eq_true c7, es]; exact ps
  have f7 := eq_false c7
  rw [if_neg c7]
  by_cases c8 : m.pos = 8
  · obtain ⟨Hu, eu, pu⟩ := inUnicode_ex (b := b) h (hw.hex1 c8) hw.hex
    rw [if_pos c8]
    simp (config := { maxSteps := 4000000 }) [hg, hp, e0, f0, e1, f1, e2, f2, e3, f3, e4, f4, e5, f5, e6, f6, e7, f7, e8, eq_true c8, eu]; exact pu
  have f8 := eq_false c8
  rw [if_neg c8]
  by_cases c9 : m.pos = 9
  · obtain ⟨Hu, eu, pu⟩ := inWord_ex (b := b) h (hw.rest c9)
    rw [if_pos c9]
    simp (config := { maxSteps := 4000000 }) [hg, hp, e0, f0, e1, f1, e2, f2, e3, f3, e4, f4, e5, f5, e6, f6, e7, f7, e8, f8, e9, eq_true c9, eu]; exact pu
  have f9 := eq_false c9
  rw [if_neg c9]
  obtain ⟨Hu, eu, pu⟩ := inNumber_ex (b := b) h (by omega) hw.pos
  simp (config := { maxSteps := 4000000 }) [hg, hp, e0, f0, e1, f1, e2, f2, e3, f3, e4, f4, e5, f5, e6, f6, e7, f7, e8, f8, e9, f9, eu]; exact pu
theorem tell_l (h : At p H m v) : LC Tryz.prog EJ 47 [ptr p 0] H = some (.int .i64 (m.tell : Nat), H) := by
  refine LC_pure rfl Tryz.func47 rfl (Nat.le_of_ble_eq_true rfl) (by decide) (by kernel_rfl) rfl ?_
  have hl := fun H' => h.row.len (H' := H') Tryz.underlying63
  have hg := h.get
  have hp := h.lt
  have e1 : ((m.state : Int) = 1) = (m.state = 1) := propext (by omega)
  have e5 : ((m.pos : Int) = 5) = (m.pos = 5) := propext (by omega)
  have he := fun H => ended_j (H := H) (q := m.pos)
  have hn : ((m.stack.length : Int) = 0) = (m.stack = []) := propext (by rw [← List.length_eq_zero_iff]; omega)
  unfold M.tell
  by_cases c1 : m.state = 1
  · by_cases c2 : m.stack = []
    · by_cases c3 : m.pos = 5
      · rw [if_pos ⟨c1, c2, .inl c3⟩]
        simp (config := { maxSteps := 4000000 }) [hg, hp, hl, e1, eq_true c1, hn, eq_true c2, e5, eq_true c3]
      · cases c4 : Tg.Json.ended m.pos with
        | true =>
          rw [if_pos ⟨c1, c2, .inr rfl⟩]
          simp (config := { maxSteps := 4000000 }) [hg, hp, hl, e1, eq_true c1, hn, eq_true c2, e5, eq_false c3, he, c4]
        | false =>
          rw [if_neg (by rintro ⟨_, _, hx | hx⟩; exact c3 hx; cases hx)]
          simp (config := { maxSteps := 4000000 }) [hg, hp, hl, e1, eq_true c1, hn, eq_true c2, e5, eq_false c3, he, c4]
    · rw [if_neg (fun hx => c2 hx.2.1)]
      simp (config := { maxSteps := 4000000 }) [hg, hp, hl, e1, eq_true c1, hn, eq_false c2]
  · rw [if_neg (fun hx => c1 hx.1)]
    simp (config := { maxSteps := 4000000 }) [hg, hp, hl, e1, eq_false c1]
theorem beg_jwf {m : M} (h : JWF m) (b : UInt8) : JWF (m.beg b) := h.beg b
set_option maxHeartbeats 4000000 in
theorem feed_ex (h : At p H m v) (hw : JWF m) (hs : s.length ≤ 1048576) (hse : m.seen ≤ 1099511627776) : ∃ H', LC Tryz.prog EJ 35 [ptr p 0, str s] H = some (.int .i64 ((m.feed s).tell : Nat), H') ∧ Post p H (m.feed s) H' := by
  refine meth_exv rfl Tryz.func35 rfl (Nat.le_of_ble_eq_true rfl) (by decide) (by kernel_rfl) h ?_
  simp
  refine loop_ind (fun (i : Nat) fr' H' => fr' 0 = ptr p 0 ∧ fr' 1 = str s ∧ fr' 9 = .int .i64 s.length ∧ fr' 10 = .int .i64 i ∧ i ≤ s.length ∧ Post p H (m.feed (s.take i)) H') (fun i => s.length - i) 0 ?_ ?_
  · exact ⟨by simp, by simp, by simp, by simp, Nat.zero_le _, h.post⟩
  rintro i fr' H' ⟨h0, h1, h9, h10, hi, hpo⟩ ih
  obtain ⟨v1, a1⟩ := hpo.at_
  have hg := a1.get
  have hp := a1.lt
  have hwf : JWF (m.feed (s.take i)) := hw.feed
  have hsn : (m.feed (s.take i)).seen ≤ 1099511627776 + 1048576 := by rw [seen_feed]; simp; omega
  by_cases hlt : i < s.length
  · have hwr : IntKind.i64.wrap ((i : Int) + 1) = ((i + 1 : Nat) : Int) := by rw [wrap64_in (by omega) (by omega)]; omega
    have hat : at_ s i = s[i] := by simp [at_, hlt]
    have hst : m.feed (s.take (i + 1)) = (m.feed (s.take i)).feed1 s[i] := by rw [List.take_succ_eq_append_getElem hlt, feed_append]; rfl
    generalize m.feed (s.take i) = m1 at *
    generalize hb : s[i] = b at *
    have hws : IntKind.i64.wrap ((m1.seen : Int) + 1) = ((m1.seen + 1 : Nat) : Int) := by rw [wrap64_in (by omega) (by omega)]; omega
    have hwh := fun H => white_j (H := H) (b := b)
    have e1 : ((m1.state : Int) = 1) = (m1.state = 1) := propext (by omega)
    have pb : Post p H' (m1.beg b) (H'.set p (mb (m1.beg b) v1)) := a1.setPost rfl rfl
    have ab : At p (H'.set p (mb (m1.beg b) v1)) (m1.beg b) v1 := a1.set rfl rfl
    have hbg : ∀ x, x = (m1.begun || !Tg.Json.white b) → mb { m1 with begun := x } v1 = mb (m1.beg b) v1 := fun x hx => by rw [hx]; rfl
    have gb := ab.get
    have lb := ab.lt
    have hws2 : IntKind.i64.wrap (((m1.beg b).seen : Int) + 1) = ((m1.seen + 1 : Nat) : Int) := hws
    by_cases ho : m1.state = 1
    · have fo := eq_true ho
      have fo2 : (((m1.beg b).state : Int) = 1) = True := eq_true (by show ((m1.state : Int) = 1); omega)
      obtain ⟨H2, e2, p2⟩ := byte_ex (b := b) ab (hwf.beg b)
      obtain ⟨v2, a2⟩ := p2.at_
      have hg2 := a2.get
      have hp2 := a2.lt
      have hws3 : IntKind.i64.wrap ((((m1.beg b).byte b).seen : Int) + 1) = ((m1.seen + 1 : Nat) : Int) := by rw [seen_byte]; exact hws
      rw [feed1_open ho] at hst
      cases hbb : m1.begun with
      | true =>
        have hb2 := hbg true (by rw [hbb]; rfl)
        simp (config := { maxSteps := 4000000 }) [h0, h1, h9, h10, hlt, hg, hp, hbb, hwr, hat, hb, hb2, gb, fo2, e2, hg2, hp2, hws3]
        refine ih (i + 1) _ _ (by omega) ⟨by simp [h0], by simp [h1], by simp [h9], by simp, hlt, ?_⟩
        rw [hst]
        exact ((hpo.trans pb).trans p2).trans (a2.setPost rfl rfl)
      | false =>
        have hb2 := hbg (!Tg.Json.white b) (by rw [hbb]; rfl)
        simp (config := { maxSteps := 4000000 }) [h0, h1, h9, h10, hlt, hg, hp, hbb, hwr, hat, hb, hwh, hb2, gb, fo2, e2, hg2, hp2, hws3]
        refine ih (i + 1) _ _ (by omega) ⟨by simp [h0], by simp [h1], by simp [h9], by simp, hlt, ?_⟩
        rw [hst]
        exact ((hpo.trans pb).trans p2).trans (a2.setPost rfl rfl)
    · have fo2 : (((m1.beg b).state : Int) = 1) = False := eq_false (by show ¬ ((m1.state : Int) = 1); omega)
      have hst2 : m1.feed1 b = { m1.beg b with seen := m1.seen + 1 } := by unfold M.feed1; simp only; rw [if_neg ho]; rfl
      rw [hst2] at hst
      cases hbb : m1.begun with
      | true =>
        have hb2 := hbg true (by rw [hbb]; rfl)
        simp (config := { maxSteps := 4000000 }) [h0, h1, h9, h10, hlt, hg, hp, hbb, hwr, hat, hb, hb2, gb, fo2, hws2]
        refine ih (i + 1) _ _ (by omega) ⟨by simp [h0], by simp [h1], by simp [h9], by simp, hlt, ?_⟩
        rw [hst]
        exact hpo.trans (a1.setPost rfl rfl)
      | false =>
        have hb2 := hbg (!Tg.Json.white b) (by rw [hbb]; rfl)
        simp (config := { maxSteps := 4000000 }) [h0, h1, h9, h10, hlt, hg, hp, hbb, hwr, hat, hb, hwh, hb2, gb, fo2, hws2]
        refine ih (i + 1) _ _ (by omega) ⟨by simp [h0], by simp [h1], by simp [h9], by simp, hlt, ?_⟩
        rw [hst]
        exact hpo.trans (a1.setPost rfl rfl)
  · have hi2 : s.take i = s := List.take_of_length_le (by omega)
    rw [hi2] at hpo a1
    have e := tell_l a1
    simp [h0, h1, h9, h10, hlt, e]
    exact hpo
theorem state_l (h : At p H m v) : LC Tryz.prog EJ 40 [ptr p 0] H = some (.int .i64 (m.tell : Nat), H) := by
  refine LC_pure rfl Tryz.func40 rfl (Nat.le_of_ble_eq_true rfl) (by decide) (by kernel_rfl) rfl ?_
  simp [tell_l h]
theorem begun_l (h : At p H m v) : LC Tryz.prog EJ 38 [ptr p 0] H = some (.bool m.begun, H) := by
  refine LC_pure rfl Tryz.func38 rfl (Nat.le_of_ble_eq_true rfl) (by decide) (by kernel_rfl) rfl ?_
  have hg := h.get
  simp [hg]
theorem mb_new {d : Nat} : (⟨[.int .i64 d, .slice none 0 0, .int .i64 0, .bool false, str [], .int .i64 0, .bool false, .int .i64 1, .int .i64 (-1), .int .i64 0], 65, true⟩ : LB) = mb (M.start d) (.slice none 0 0) := rfl
theorem new_l {d : Nat} (h1 : d ≤ 200) : LC Tryz.prog EJ 33 [.int .i64 (d : Nat)] H = some (.tuple #[ptr H.n 0, .int .i64 0], H.new (mb (M.start d) (.slice none 0 0))) := by
  obtain ⟨r, h, e⟩ := LC_runs (Q := fun r => r = (.tuple #[ptr H.n 0, .int .i64 0], H.new (mb (M.start d) (.slice none 0 0)))) (P := Tryz.prog) (E := EJ) (H := H) (args := [.int .i64 (d : Nat)]) rfl Tryz.func33 rfl (Nat.le_of_ble_eq_true rfl) (by decide) (by kernel_rfl) (by
    have f1 : ((d : Int) < 0) = False := eq_false (by omega)
    have f2 : (200 < (d : Int)) = False := eq_false (by omega)
    simp (config := { maxSteps := 4000000 }) [f1, f2, mb_new])
  rw [h, e, trunc_not (by simp [flatB, flat1B, atomB])]
theorem at_new {d : Nat} (h1 : d ≤ 200) (hd : ∀ l, H.n ≤ l → H.get l = none) : At H.n (H.new (mb (M.start d) (.slice none 0 0))) (M.start d) (.slice none 0 0) :=
  ⟨get_new, Nat.lt_succ_self _, .inl ⟨rfl, rfl⟩, fun l hl => by
    have : H.n + 1 ≤ l := hl
    rw [get_new_ne (by omega)]; exact hd l (by omega), by simp [M.start], by simp [M.start]; omega⟩
end
end Go.Proofs.YtgnefbngkhjfcaaGreatDoor.Jn
/-
  The machine of layer 29 (lexer): where it lies, with the machines of both layers below.
-/
set_option linter.unusedSimpArgs false
set_option linter.unusedVariables false
set_option maxRecDepth 100000
namespace Go.Proofs.YtgnefbngkhjfcaaGreatDoor.Jn
open Go.Lg Tg.Json
section
variable {p : Nat} {H H' : LH} {m m' : M} {v v' : Value}
theorem At.back (h : At p H m v) (ha : At p H' m' v') (hle : H.le H') : At p H m' v' := by
  have hg := ha.get
  rw [hle.2 p h.lt, h.get] at hg
  injection hg with hg
  have hv := mb_inj hg
  subst hv
  exact ⟨by rw [h.get, hg], h.lt, ha.row.keep (fun k hk hn => (hle.2 k (h.row_lt hn)).symm), h.dom, ha.len, ha.depth⟩
end
end Go.Proofs.YtgnefbngkhjfcaaGreatDoor.Jn
namespace Go.Proofs.YtgnefbngkhjfcaaGreatDoor
open Go.Lg
section
open Tg.Js
variable {p : Nat} {H H' : LH} {m m' : M} {v v' : Value}
theorem At.back (h : At p H m v) (ha : At p H' m' v') (hle : H.le H') : At p H m' v' := by
  have hg := ha.get
  rw [hle.2 p h.lt, h.get] at hg
  injection hg with hg
  have hv := mb_inj hg
  subst hv
  exact ⟨by rw [h.get, hg], h.lt, ha.row.keep (fun k hk hn => (hle.2 k (h.row_lt hn)).symm), h.dom, ha.len, ha.depth⟩
end
end Go.Proofs.YtgnefbngkhjfcaaGreatDoor
namespace Go.Proofs.YtgnefbngkhjfcaaGreatDoor.Lx
open Go.Lg Tg.Lx

/-- the machine's cells -/
def lc (m : L) (pj ps : Nat) : List Value := [ptr pj 0, ptr ps 0, .int .i64 m.verdict, str m.reason, .int .i64 m.at_, .int .i64 m.seen, .bool m.ended]
def lb (m : L) (pj ps : Nat) : LB := ⟨lc m pj ps, 45, true⟩
section
variable {H : LH} {b : UInt8} {m : L} {p pj ps : Nat}
@[simp] theorem lb_len : (lb m pj ps).cells.length = 7 := by simp only [lb, lc]; simp only [List.length_cons, List.length_nil]
@[simp] theorem lb_rw : (lb m pj ps).rw = true := by simp only [lb]
@[simp] theorem ld_j : (lb m pj ps).cells[0]? = some (ptr pj 0) := rfl
@[simp] theorem lg_j {hl : 0 < (lb m pj ps).cells.length} : (lb m pj ps).cells[0]'hl = ptr pj 0 := rfl
@[simp] theorem ld_s : (lb m pj ps).cells[1]? = some (ptr ps 0) := rfl
@[simp] theorem lg_s {hl : 1 < (lb m pj ps).cells.length} : (lb m pj ps).cells[1]'hl = ptr ps 0 := rfl
@[simp] theorem ld_verdict : (lb m pj ps).cells[2]? = some (.int .i64 m.verdict) := rfl
@[simp] theorem lg_verdict {hl : 2 < (lb m pj ps).cells.length} : (lb m pj ps).cells[2]'hl = .int .i64 m.verdict := rfl
@[simp] theorem st_verdict {x : Int} : (⟨(lb m pj ps).cells.set 2 (.int .i64 x), (lb m pj ps).elem, true⟩ : LB) = lb { m with verdict := x } pj ps := rfl
@[simp] theorem ld_reason : (lb m pj ps).cells[3]? = some (str m.reason) := rfl
@[simp] theorem lg_reason {hl : 3 < (lb m pj ps).cells.length} : (lb m pj ps).cells[3]'hl = str m.reason := rfl
@[simp] theorem st_reason {x : List UInt8} : (⟨(lb m pj ps).cells.set 3 (str x), (lb m pj ps).elem, true⟩ : LB) = lb { m with reason := x } pj ps := rfl
@[simp] theorem ld_at : (lb m pj ps).cells[4]? = some (.int .i64 m.at_) := rfl
@[simp] theorem lg_at {hl : 4 < (lb m pj ps).cells.length} : (lb m pj ps).cells[4]'hl = .int .i64 m.at_ := rfl
@[simp] theorem st_at {x : Int} : (⟨(lb m pj ps).cells.set 4 (.int .i64 x), (lb m pj ps).elem, true⟩ : LB) = lb { m with at_ := x } pj ps := rfl
@[simp] theorem ld_seen : (lb m pj ps).cells[5]? = some (.int .i64 m.seen) := rfl
@[simp] theorem lg_seen {hl : 5 < (lb m pj ps).cells.length} : (lb m pj ps).cells[5]'hl = .int .i64 m.seen := rfl
@[simp] theorem st_seen {x : Int} : (⟨(lb m pj ps).cells.set 5 (.int .i64 x), (lb m pj ps).elem, true⟩ : LB) = lb { m with seen := x } pj ps := rfl
@[simp] theorem ld_ended : (lb m pj ps).cells[6]? = some (.bool m.ended) := rfl
@[simp] theorem lg_ended {hl : 6 < (lb m pj ps).cells.length} : (lb m pj ps).cells[6]'hl = .bool m.ended := rfl
@[simp] theorem st_ended {x : Bool} : (⟨(lb m pj ps).cells.set 6 (.bool x), (lb m pj ps).elem, true⟩ : LB) = lb { m with ended := x } pj ps := rfl
/-- all that lies of a lexer: its own block, both machines, their rows; all of it behind what was there in H0 -/
structure At (H0 : LH) (p pj ps : Nat) (vj vs : Value) (H : LH) (m : L) : Prop where
  get : H.get p = some (lb m pj ps)
  lt : p < H.n
  aj : Jn.At pj H m.j vj
  aS : Go.Proofs.YtgnefbngkhjfcaaGreatDoor.At ps H m.s vs
  d1 : p ≠ pj
  d2 : p ≠ ps
  d3 : pj ≠ ps
  o1 : offRow vj p
  o2 : offRow vs p
  o3 : offRow vj ps
  o4 : offRow vs pj
  o5 : ∀ k, offRow vj k ∨ offRow vs k
  tab : Tab H
  wf : Tg.Json.JWF m.j
  n0 : H0.n ≤ H.n
  b0 : H0.n ≤ p ∧ H0.n ≤ pj ∧ H0.n ≤ ps
  r0 : ∀ k, k < H0.n → offRow vj k ∧ offRow vs k
  keep : ∀ k, k < H0.n → H.get k = H0.get k
def Post (H0 : LH) (p pj ps : Nat) (m : L) (H : LH) : Prop := ∃ vj vs, At H0 p pj ps vj vs H m
variable {H0 H' : LH} {m' : L} {vj vs vj' vs' : Value}
theorem At.post (h : At H0 p pj ps vj vs H m) : Post H0 p pj ps m H := ⟨_, _, h⟩
theorem At.le (h : At H0 p pj ps vj vs H m) : H0.le H := ⟨h.n0, h.keep⟩
/-- the lexer's own cells are written -/
theorem At.set (h : At H0 p pj ps vj vs H m) (hj : m'.j = m.j) (hs : m'.s = m.s) : At H0 p pj ps vj vs (H.set p (lb m' pj ps)) m' := by
  refine ⟨get_set, h.lt, ?_, ?_, h.d1, h.d2, h.d3, h.o1, h.o2, h.o3, h.o4, h.o5, h.tab, by rw [hj]; exact h.wf, h.n0, h.b0, h.r0, fun k hk => ?_⟩
  · rw [hj]
    exact h.aj.keep (Nat.le_refl _) (fun k hk hx => get_set_ne (fun e => by rcases hx with hx | hx; exact h.d1 (e.symm.trans hx); exact hx (e ▸ h.o1))) (fun l hl => by have hl' : H.n ≤ l := hl; have := h.lt; rw [get_set_ne (by omega)]; exact h.aj.dom l hl')
  · rw [hs]
    exact h.aS.keep (Nat.le_refl _) (fun k hk hx => get_set_ne (fun e => by rcases hx with hx | hx; exact h.d2 (e.symm.trans hx); exact hx (e ▸ h.o2))) (fun l hl => by have hl' : H.n ≤ l := hl; have := h.lt; rw [get_set_ne (by omega)]; exact h.aS.dom l hl')
  · rw [get_set_ne (by have := h.b0.1; omega)]; exact h.keep k hk
/-- a new block -/
theorem At.new (h : At H0 p pj ps vj vs H m) {B : LB} : At H0 p pj ps vj vs (H.new B) m :=
  ⟨by rw [get_new_ne (by have := h.lt; omega)]; exact h.get, Nat.lt_succ_of_lt h.lt, h.aj.new, h.aS.new, h.d1, h.d2, h.d3, h.o1, h.o2, h.o3, h.o4, h.o5, h.tab, h.wf, Nat.le_succ_of_le h.n0, h.b0, h.r0,
    fun k hk => by have := h.n0; rw [get_new_ne (by omega)]; exact h.keep k hk⟩
/-- the machine of JSON has gone on -/
theorem At.goJ (h : At H0 p pj ps vj vs H m) {j' : Tg.Json.M} (hp : Jn.Post pj H j' H') (hw : Tg.Json.JWF j') : ∃ vj', At H0 p pj ps vj' vs H' { m with j := j' } := by
  obtain ⟨vj', ha⟩ := hp.at_
  have k := hp.fr _ _ _ h.aj ha
  have hlt := h.aS.lt
  refine ⟨vj', by rw [k.keep p h.lt h.d1 h.o1]; exact h.get, Nat.lt_of_lt_of_le h.lt k.n, ha, ?_, h.d1, h.d2, h.d3, k.off p h.lt h.d1 h.o1, h.o2, k.off ps hlt (Ne.symm h.d3) h.o3, h.o4, fun q => ?_, ⟨by rw [k.ng]; exact h.tab.1, by rw [k.base]; exact h.tab.2⟩, hw, Nat.le_trans h.n0 k.n, h.b0, fun q hq => ?_, fun q hq => ?_⟩
  · refine h.aS.keep k.n (fun q hq hx => ?_) ha.dom
    rcases hx with rfl | hx
    · exact k.keep _ hq (Ne.symm h.d3) h.o3
    · refine k.keep q hq (fun e => hx (e ▸ h.o4)) ?_
      rcases h.o5 q with h5 | h5
      · exact h5
      · exact absurd h5 hx
  · by_cases hx : offRow vs q
    · exact .inr hx
    · refine .inl (k.off q (h.aS.row_lt hx) (fun e => hx (e ▸ h.o4)) ?_)
      rcases h.o5 q with h5 | h5
      · exact h5
      · exact absurd h5 hx
  · have := h.b0.2.1
    have hn := h.n0
    exact ⟨k.off q (by omega) (by omega) (h.r0 q hq).1, (h.r0 q hq).2⟩
  · have := h.b0.2.1
    have hn := h.n0
    rw [k.keep q (by omega) (by omega) (h.r0 q hq).1]; exact h.keep q hq
theorem At.goS (h : At H0 p pj ps vj vs H m) {s' : Tg.Js.M} (hp : Go.Proofs.YtgnefbngkhjfcaaGreatDoor.Post ps H s' H') : ∃ vs', At H0 p pj ps vj vs' H' { m with s := s' } := by
  obtain ⟨vs', ha⟩ := hp.at_
  have k := hp.fr _ _ _ h.aS ha
  have hlt := h.aj.lt
  refine ⟨vs', by rw [k.keep p h.lt h.d2 h.o2]; exact h.get, Nat.lt_of_lt_of_le h.lt k.n, ?_, ha, h.d1, h.d2, h.d3, h.o1, k.off p h.lt h.d2 h.o2, h.o3, k.off pj hlt h.d3 h.o4, fun q => ?_, ⟨by rw [k.ng]; exact h.tab.1, by rw [k.base]; exact h.tab.2⟩, h.wf, Nat.le_trans h.n0 k.n, h.b0, fun q hq => ?_, fun q hq => ?_⟩
  · refine h.aj.keep k.n (fun q hq hx => ?_) ha.dom
    rcases hx with rfl | hx
    · exact k.keep _ hq h.d3 h.o4
    · refine k.keep q hq (fun e => hx (e ▸ h.o3)) ?_
      rcases h.o5 q with h5 | h5
      · exact absurd h5 hx
      · exact h5
  · by_cases hx : offRow vj q
    · exact .inl hx
    · refine .inr (k.off q (h.aj.row_lt hx) (fun e => hx (e ▸ h.o3)) ?_)
      rcases h.o5 q with h5 | h5
      · exact absurd h5 hx
      · exact h5
  · have := h.b0.2.2
    have hn := h.n0
    exact ⟨(h.r0 q hq).1, k.off q (by omega) (by omega) (h.r0 q hq).2⟩
  · have := h.b0.2.2
    have hn := h.n0
    rw [k.keep q (by omega) (by omega) (h.r0 q hq).2]; exact h.keep q hq
/-- a method of the lexer -/
theorem meth_exv {u : Value} {f : FuncId} {fn : Func} {c : Code} {args : List Value} (he : EJ f = none) (hf : Tryz.prog.funcs[f]? = some fn) (hb : fn.body = some c) (hN : args.length ≤ fn.ntmps) (hname : fn.name ≠ "runtime.NumGoroutine") (hcd : codeOk EJ.loud fn.ntmps c = true)
    (h : At H0 p pj ps vj vs H m) (hr : Runs Tryz.prog EJ fn [.code c] (enter args) H (fun r => r.1 = u ∧ Post H0 p pj ps m' r.2)) : ∃ H', LC Tryz.prog EJ f args H = some (u, H') ∧ Post H0 p pj ps m' H' := by
  obtain ⟨⟨u', H'⟩, hl, hu, hp⟩ := LC_runs he hf hb hN hname hcd hr
  simp only at hu
  subst hu
  rcases trunc_or u' H H' with e | ⟨e, _, hle⟩
  · exact ⟨H', by rw [hl, e], hp⟩
  · refine ⟨H, by rw [hl, e], ?_⟩
    obtain ⟨vj', vs', ha⟩ := hp
    refine ⟨vj', vs', ?_, h.lt, h.aj.back ha.aj hle, h.aS.back ha.aS hle, h.d1, h.d2, h.d3, ha.o1, ha.o2, ha.o3, ha.o4, ha.o5, h.tab, ha.wf, h.n0, h.b0, ha.r0, h.keep⟩
    rw [← hle.2 p h.lt]; exact ha.get
end
end Go.Proofs.YtgnefbngkhjfcaaGreatDoor.Lx
/-
  The laws of layer 28 (jscript): what they come to.
-/
set_option linter.unusedSimpArgs false
set_option linter.unusedVariables false
set_option maxRecDepth 100000
namespace Go.Proofs.YtgnefbngkhjfcaaGreatDoor
open Go.Lg Tg.Js

section
variable {p : Nat} {H H' H1 : LH} {m m' m1 : M} {v v' : Value} {b : UInt8} {s t : List UInt8}
theorem cut_l {k : Int} (h0 : 0 ≤ k) : LC Tryz.prog EJ 6 [str s, .int .i64 k] H = some (str (s.take k.toNat), H) := by
  refine LC_pure rfl Tryz.func6 rfl (Nat.le_of_ble_eq_true rfl) (by decide) (by kernel_rfl) (by simp) ?_
  by_cases hc : k < s.length
  · have f := eq_true hc
    have f2 := eq_true (show k ≤ s.length by omega)
    have f3 := eq_true h0
    simp [f, f2, f3]
  · have f := eq_false hc
    have e : s.take k.toNat = s := List.take_of_length_le (by omega)
    simp [f, e]
theorem New_l {d : Int} (h0 : 0 ≤ d) (h1 : d ≤ 200) : LC Tryz.prog EJ 34 [.int .i64 d] H = some (.tuple #[ptr H.n 0, .int .i64 0], H.new (mb (new d) (.slice none 0 0))) := by
  obtain ⟨r, h, e⟩ := new_l (H := H) h0 h1
  rw [h, e]
theorem clamp_in {d : Int} (h0 : 0 ≤ d) (h1 : d ≤ 200) : clamp d = d := by
  unfold clamp
  rw [if_neg (show ¬ d < 0 by omega), if_neg (by omega)]
end
end Go.Proofs.YtgnefbngkhjfcaaGreatDoor
/-
  The machine of layer 29 (lexer): bytes, the end, all at once.
-/
set_option linter.unusedSimpArgs false
set_option linter.unusedVariables false
set_option maxRecDepth 100000
namespace Go.Proofs.YtgnefbngkhjfcaaGreatDoor.Lx
open Go.Lg Tg.Lx

section
variable {H H' H0 : LH} {b : UInt8} {m m' : L} {p pj ps : Nat} {vj vs : Value} {s : List UInt8}
theorem settle_l {v : Int} {r : List UInt8} (hg : H.get p = some (lb m pj ps)) (hp : p < H.n) : LC Tryz.prog EJ 39 [ptr p 0, .int .i64 v, str r] H = some (.tuple #[], H.set p (lb (m.settle v r) pj ps)) := by
  refine own rfl Tryz.func39 rfl (Nat.le_of_ble_eq_true rfl) (by decide) (by kernel_rfl) hg hp ?_
  simp (config := { maxSteps := 2000000 }) [hg, hp, L.settle]
theorem ends_l {ms : Tg.Js.M} (h : Go.Proofs.YtgnefbngkhjfcaaGreatDoor.At ps H ms vs) : LC Tryz.prog EJ 50 [ptr ps 0] H = some (.int .i64 ms.ends, H) := by
  refine LC_pure rfl Tryz.func50 rfl (Nat.le_of_ble_eq_true rfl) (by decide) (by kernel_rfl) rfl ?_
  have hg := h.get
  simp [hg]
theorem sstate_l {ms : Tg.Js.M} (h : Go.Proofs.YtgnefbngkhjfcaaGreatDoor.At ps H ms vs) : LC Tryz.prog EJ 41 [ptr ps 0] H = some (.int .i64 ms.tell, H) := by
  refine LC_pure rfl Tryz.func41 rfl (Nat.le_of_ble_eq_true rfl) (by decide) (by kernel_rfl) rfl ?_
  simp [tell_l h]
theorem tellJ3 {j : Tg.Json.M} (n : Nat) : ((j.tell : Int) = (n : Int)) = (j.tell = n) := propext (by omega)
theorem look_ex (h : At H0 p pj ps vj vs H m) : ∃ H', LC Tryz.prog EJ 37 [ptr p 0] H = some (.tuple #[], H') ∧ Post H0 p pj ps m.look H' := by
  refine meth_exv rfl Tryz.func37 rfl (Nat.le_of_ble_eq_true rfl) (by decide) (by kernel_rfl) h ?_
  have hg := h.get
  have hp := h.lt
  have hj := Jn.state_l h.aj
  have hs := sstate_l h.aS
  have he := ends_l h.aS
  have hse := fun v r => settle_l (v := v) (r := r) hg hp
  have e3 : ((m.j.tell : Int) = 3) = (m.j.tell = 3) := tellJ3 3
  have e0 : ((m.j.tell : Int) = 0) = (m.j.tell = 0) := tellJ3 0
  have en := fun v r => (h.set (m' := m.settle v r) rfl rfl).post
  unfold L.look
  by_cases c1 : m.j.tell = 3
  · rw [if_pos c1]
    simp (config := { maxSteps := 4000000 }) [hg, hp, hj, hs, he, e3, eq_true c1, hse]
    exact en _ _
  rw [if_neg c1]
  have f1 := eq_false c1
  by_cases c2 : m.s.tell = 0
  · rw [if_pos c2]
    simp (config := { maxSteps := 4000000 }) [hg, hp, hj, hs, he, e3, f1, eq_true c2, hse]
    exact en _ _
  rw [if_neg c2]
  have f2 := eq_false c2
  by_cases c3 : m.j.tell = 0
  · have f3 := eq_true c3
    by_cases c4 : 0 < m.s.ends
    · rw [if_pos ⟨c3, c4⟩]
      simp (config := { maxSteps := 4000000 }) [hg, hp, hj, hs, he, e3, f1, f2, e0, f3, eq_true c4, hse]
      exact en _ _
    · rw [if_neg (fun hx => c4 hx.2)]
      simp (config := { maxSteps := 4000000 }) [hg, hp, hj, hs, he, e3, f1, f2, e0, f3, eq_false c4, hse]
      exact h.post
  · rw [if_neg (fun hx => c3 hx.1)]
    simp (config := { maxSteps := 4000000 }) [hg, hp, hj, hs, he, e3, f1, f2, e0, eq_false c3, hse]
    exact h.post
theorem jseen_step (m : L) (b : UInt8) : (m.step b).j.seen ≤ m.j.seen + 1 := by
  unfold L.step
  split
  · show m.j.seen ≤ _; omega
  · have : ((m.see.take1 b).look).j = m.j.feed [b] := by
      rcases L.look_cases (m.see.take1 b) with e | ⟨v, r, _, e⟩ <;> rw [e] <;> rfl
    rw [this, Tg.Json.seen_feed]; simp
theorem jseen_feed (t : List UInt8) : ∀ m : L, (m.feed t).j.seen ≤ m.j.seen + t.length := by
  induction t with
  | nil => intro m; exact Nat.le_refl _
  | cons b r ih =>
    intro m
    have h1 := ih (m.step b)
    have h2 := jseen_step m b
    show ((m.step b).feed r).j.seen ≤ _
    simp only [List.length_cons]; omega
set_option maxHeartbeats 4000000 in
theorem feed0_ex (h : At H0 p pj ps vj vs H m) (hs : s.length ≤ 1048576) (hse : m.j.seen ≤ 549755813888) : ∃ H', LC Tryz.prog EJ 23 [ptr p 0, str s] H = some (.int .i64 (m.feed s).verdict, H') ∧ Post H0 p pj ps (m.feed s) H' := by
  refine meth_exv rfl Tryz.func23 rfl (Nat.le_of_ble_eq_true rfl) (by decide) (by kernel_rfl) h ?_
  simp
  refine loop_ind (fun (i : Nat) fr' H' => fr' 0 = ptr p 0 ∧ fr' 1 = str s ∧ fr' 7 = .int .i64 s.length ∧ fr' 8 = .int .i64 i ∧ i ≤ s.length ∧ Post H0 p pj ps (m.feed (s.take i)) H') (fun i => s.length - i) 0 ?_ ?_
  · exact ⟨by simp, by simp, by simp, by simp, Nat.zero_le _, h.post⟩
  rintro i fr' H' ⟨h0, h1, h9, h10, hi, vj1, vs1, a1⟩ ih
  have hg := a1.get
  have hp := a1.lt
  have hsn : (m.feed (s.take i)).j.seen ≤ 1099511627776 := by have := jseen_feed (s.take i) m; simp at this; omega
  by_cases hlt : i < s.length
  · have hwr : IntKind.i64.wrap ((i : Int) + 1) = ((i + 1 : Nat) : Int) := by rw [wrap64_in (by omega) (by omega)]; omega
    have hst := L.feed_take m s hlt
    have hsub : sub s (i : Int) ((i : Int) + 1) = [s[i]] := by
      unfold sub
      have e1 : ((i : Int)).toNat = i := by omega
      have e2 : ((i : Int) + 1).toNat = i + 1 := by omega
      rw [e1, e2, List.take_succ_eq_append_getElem hlt, List.drop_append_of_le_length (by simp; omega)]
      rw [List.drop_eq_nil_of_le (by simp; omega)]; rfl
    have hb1 : ((i : Int) ≤ (i : Int) + 1) = True := eq_true (by omega)
    have hb2 : ((i : Int) + 1 ≤ (s.length : Int)) = True := eq_true (by omega)
    generalize m.feed (s.take i) = m1 at *
    generalize s[i] = b at *
    have aS := a1.set (m' := m1.see) rfl rfl
    have gs := aS.get
    have ls := aS.lt
    have hsee : lb { m1 with seen := IntKind.i64.wrap (m1.seen + 1) } pj ps = lb m1.see pj ps := rfl
    unfold L.step at hst
    by_cases c1 : m1.verdict = 0
    · have f1 : (m1.see.verdict = 0) = True := eq_true c1
      cases c2 : m1.ended with
      | true =>
        rw [if_pos (.inr c2)] at hst
        have f2 : m1.see.ended = true := c2
        simp (config := { maxSteps := 4000000 }) [h0, h1, h9, h10, hlt, hg, hp, hwr, hsee, gs, f1, f2]
        refine ih (i + 1) _ _ (by omega) ⟨by simp [h0], by simp [h1], by simp [h9], by simp, hlt, ?_⟩
        rw [hst]; exact aS.post
      | false =>
        rw [if_neg (by rintro (hx | hx); exact hx c1; rw [c2] at hx; cases hx)] at hst
        have f2 : m1.see.ended = false := c2
        obtain ⟨H2, e2, p2⟩ := Jn.feed_ex (s := [b]) aS.aj aS.wf (by simp) hsn
        obtain ⟨vj2, a2⟩ := aS.goJ p2 aS.wf.feed
        obtain ⟨H3, e3, p3⟩ := feed_ex (s := [b]) a2.aS a2.tab (by simp)
        obtain ⟨vs3, a3⟩ := a2.goS p3
        obtain ⟨H4, e4, vj4, vs4, a4⟩ := look_ex a3
        have g2 := a2.get
        have g3 := a3.get
        simp (config := { maxSteps := 4000000 }) [h0, h1, h9, h10, hlt, hg, hp, hwr, hsee, gs, f1, f2, hsub, hb1, hb2, e2, g2, e3, g3, e4]
        refine ih (i + 1) _ _ (by omega) ⟨by simp [h0], by simp [h1], by simp [h9], by simp, hlt, ?_⟩
        rw [hst]; exact ⟨_, _, a4⟩
    · rw [if_pos (.inl c1)] at hst
      have f1 : (m1.see.verdict = 0) = False := eq_false c1
      simp (config := { maxSteps := 4000000 }) [h0, h1, h9, h10, hlt, hg, hp, hwr, hsee, gs, f1]
      refine ih (i + 1) _ _ (by omega) ⟨by simp [h0], by simp [h1], by simp [h9], by simp, hlt, ?_⟩
      rw [hst]; exact aS.post
  · have hi2 : s.take i = s := List.take_of_length_le (by omega)
    rw [hi2] at a1 hg
    simp [h0, h1, h9, h10, hlt, hg]
    exact a1.post
theorem end0_ex (h : At H0 p pj ps vj vs H m) : ∃ H', LC Tryz.prog EJ 24 [ptr p 0] H = some (.int .i64 m.fin.verdict, H') ∧ Post H0 p pj ps m.fin H' := by
  refine meth_exv rfl Tryz.func24 rfl (Nat.le_of_ble_eq_true rfl) (by decide) (by kernel_rfl) h ?_
  have hg := h.get
  have hp := h.lt
  have ae := h.set (m' := { m with ended := true }) rfl rfl
  have ge := ae.get
  have le := ae.lt
  have hj := Jn.state_l ae.aj
  have hb := Jn.begun_l ae.aj
  have hs := sstate_l ae.aS
  have hse := fun v r => settle_l (v := v) (r := r) ge le
  have en := fun v r => (h.set (m' := ({ m with ended := true } : L).settle v r) rfl rfl)
  have sv : ∀ v r, (({ m with ended := true } : L).settle v r).verdict = v := fun _ _ => rfl
  have e0 : ((m.j.tell : Int) = 0) = (m.j.tell = 0) := tellJ3 0
  unfold L.fin
  by_cases c1 : m.verdict ≠ 0
  · rw [if_pos c1]
    have f1 := eq_false c1
    simp (config := { maxSteps := 4000000 }) [hg, hp, ge, le, c1]
    exact ae.post
  rw [if_neg c1]
  have f1 : (m.verdict = 0) = True := eq_true (Classical.byContradiction c1)
  cases c2 : m.j.begun with
  | false =>
    rw [if_pos rfl]
    have hb' := hb
    rw [show ({ m with ended := true } : L).j.begun = false from c2] at hb'
    simp (config := { maxSteps := 4000000 }) [hg, hp, ge, le, f1, hb', hse, sv]
    exact (en _ _).post
  | true =>
    rw [if_neg (by simp)]
    have hb' := hb
    rw [show ({ m with ended := true } : L).j.begun = true from c2] at hb'
    by_cases c3 : m.j.tell ≠ 0
    · rw [if_pos c3]
      have f3 : (m.j.tell = 0) = False := eq_false c3
      simp (config := { maxSteps := 4000000 }) [hg, hp, ge, le, f1, hb', hj, f3, hse, sv]
      exact (en _ _).post
    · rw [if_neg c3]
      have f3 : (m.j.tell = 0) = True := eq_true (by omega)
      by_cases c4 : m.s.tell = 2
      · rw [if_pos c4]
        simp (config := { maxSteps := 4000000 }) [hg, hp, ge, le, f1, hb', hj, f3, hs, eq_true c4, hse, sv]
        exact (en _ _).post
      · rw [if_neg c4]
        simp (config := { maxSteps := 4000000 }) [hg, hp, ge, le, f1, hb', hj, f3, hs, eq_false c4, hse, sv]
        exact (en _ _).post
end
end Go.Proofs.YtgnefbngkhjfcaaGreatDoor.Lx
/-
  The machine of layer 29 (lexer): a new one, all at once; layer 32 (orbparse).
-/
set_option linter.unusedSimpArgs false
set_option linter.unusedVariables false
set_option maxRecDepth 100000
namespace Go.Proofs.YtgnefbngkhjfcaaGreatDoor.Lx
open Go.Lg Tg.Lx

section
variable {H H' H0 : LH} {b : UInt8} {m m' : L} {p pj ps : Nat} {vj vs : Value} {s : List UInt8}
/-- the heap with a new lexer -/
def fresh (d : Nat) (H : LH) : LH := ((H.new (Jn.mb (Tg.Json.M.start d) (.slice none 0 0))).new (Go.Proofs.YtgnefbngkhjfcaaGreatDoor.mb (Tg.Js.new d) (.slice none 0 0))).new (lb (L.new d) H.n (H.n + 1))
theorem lb_new {d pj ps : Nat} : (⟨[ptr pj 0, ptr ps 0, .int .i64 0, str [], .int .i64 (-1), .int .i64 0, .bool false], 45, true⟩ : LB) = lb (L.new d) pj ps := rfl
theorem fresh_l {d : Nat} (h1 : d ≤ 200) : LC Tryz.prog EJ 22 [.int .i64 (d : Nat)] H = some (.tuple #[ptr (H.n + 2) 0, .int .i64 0], fresh d H) := by
  obtain ⟨r, h, e⟩ := LC_runs (Q := fun r => r = (.tuple #[ptr (H.n + 2) 0, .int .i64 0], fresh d H)) (P := Tryz.prog) (E := EJ) (H := H) (args := [.int .i64 (d : Nat)]) rfl Tryz.func22 rfl (Nat.le_of_ble_eq_true rfl) (by decide) (by kernel_rfl) (by
    have e1 := Jn.new_l (H := H) h1
    have e2 : LC Tryz.prog EJ 34 [.int .i64 (d : Nat)] (H.new (Jn.mb (Tg.Json.M.start d) (.slice none 0 0))) = some (.tuple #[ptr (H.n + 1) 0, .int .i64 0], (H.new (Jn.mb (Tg.Json.M.start d) (.slice none 0 0))).new (Go.Proofs.YtgnefbngkhjfcaaGreatDoor.mb (Tg.Js.new d) (.slice none 0 0))) := New_l (by omega) (by omega)
    simp (config := { maxSteps := 4000000 }) [e1, e2, lb_new (d := d), fresh])
  rw [h, e, trunc_not (by simp [flatB, flat1B, atomB])]
theorem at_fresh {d : Nat} (h1 : d ≤ 200) (hd : ∀ l, H.n ≤ l → H.get l = none) (ht : Tab H) : At H (H.n + 2) H.n (H.n + 1) (.slice none 0 0) (.slice none 0 0) (fresh d H) (L.new d) := by
  have aj := Jn.at_new (H := H) h1 hd
  have aT := at_new (H := H.new (Jn.mb (Tg.Json.M.start d) (.slice none 0 0))) (d := (d : Int)) (by omega) (by omega) aj.dom
  have aT' := aT.new (B := lb (L.new d) H.n (H.n + 1))
  have aj' := (aj.new (B := Go.Proofs.YtgnefbngkhjfcaaGreatDoor.mb (Tg.Js.new d) (.slice none 0 0))).new (B := lb (L.new d) H.n (H.n + 1))
  refine ⟨get_new, Nat.lt_succ_self _, aj', aT', by omega, by omega, by omega, off_nil, off_nil, off_nil, off_nil, fun _ => .inl off_nil, ⟨ht.1, ht.2⟩, Tg.Json.JWF.start h1, ?_, ⟨by omega, Nat.le_refl _, by omega⟩, fun _ _ => ⟨off_nil, off_nil⟩, fun k hk => ?_⟩
  · show H.n ≤ H.n + 1 + 1 + 1; omega
  · unfold fresh
    rw [get_new_ne (by show k ≠ H.n + 1 + 1; omega), get_new_ne (by show k ≠ H.n + 1; omega), get_new_ne (by omega)]
/-- what is judged -/
def jv (v : Int) (r : List UInt8) (a : Int) : Value := .agg ⟨[.int .i64 v, str r, .int .i64 a, .bool false]⟩
@[simp] theorem flat_jv {v : Int} {r : List UInt8} {a : Int} : flatB (jv v r a) = true := by simp [jv, flatB, flat1B]
def jb (v : Int) (r : List UInt8) (a : Int) : LB := ⟨[.int .i64 v, str r, .int .i64 a, .bool false], 24, true⟩
@[simp] theorem jb_cells {v : Int} {r : List UInt8} {a : Int} : (jb v r a).cells = [.int .i64 v, str r, .int .i64 a, .bool false] := by simp only [jb]
@[simp] theorem jb_rw {v : Int} {r : List UInt8} {a : Int} : (jb v r a).rw = true := by simp only [jb]
/-- all at once, in plain words -/
def wholeP (s : List UInt8) (d : Nat) (en : Bool) : L := if en then ((L.new d).feed s).fin else (L.new d).feed s
def atP (m : L) : Int := if m.at_ < 0 then 0 else m.at_
theorem clampN (d : Int) : ∃ D : Nat, (D : Int) = clamp d ∧ D ≤ 200 := by
  have hc : 0 ≤ clamp d ∧ clamp d ≤ 200 := by unfold clamp; repeat' split
                                              all_goals omega
  exact ⟨(clamp d).toNat, by omega, by omega⟩
theorem whole_l {d : Int} {en : Bool} {D : Nat} (hD : (D : Int) = clamp d) (h2 : D ≤ 200) (hd : ∀ l, H.n ≤ l → H.get l = none) (ht : Tab H) (hs : s.length ≤ 1048576) :
    LC Tryz.prog EJ 7 [str s, .int .i64 d, .bool en] H = some (jv (wholeP s D en).verdict (wholeP s D en).reason (atP (wholeP s D en)), H) := by
  refine LC_pure rfl Tryz.func7 rfl (Nat.le_of_ble_eq_true rfl) (by decide) (by kernel_rfl) flat_jv ?_
  have hcl : (if 200 < (if d < 0 then (0 : Int) else d) then (200 : Int) else if d < 0 then 0 else d) = (D : Int) := by rw [hD]; unfold clamp; rfl
  have hd1 : ∀ l, (H.new (jb 0 [] 0)).n ≤ l → (H.new (jb 0 [] 0)).get l = none := fun l hl => by
    have hl' : H.n + 1 ≤ l := hl
    rw [get_new_ne (by omega)]; exact hd l (by omega)
  have hjb : (⟨[.int .i64 0, str [], .int .i64 0, .bool false], 24, true⟩ : LB) = jb 0 [] 0 := rfl
  have ef : LC Tryz.prog EJ 22 [.int .i64 (D : Nat)] (H.new (jb 0 [] 0)) = some (.tuple #[ptr (H.n + 3) 0, .int .i64 0], fresh D (H.new (jb 0 [] 0))) := fresh_l h2
  have a0 := at_fresh (H := H.new (jb 0 [] 0)) h2 hd1 ⟨ht.1, ht.2⟩
  have a0' : At (H.new (jb 0 [] 0)) (H.n + 3) (H.n + 1) (H.n + 2) (.slice none 0 0) (.slice none 0 0) (fresh D (H.new (jb 0 [] 0))) (L.new D) := a0
  obtain ⟨H1, e1, vj1, vs1, a1⟩ := feed0_ex a0' hs (by show (0 : Nat) ≤ _; omega)
  cases en with
  | false =>
    have hm : wholeP s D false = (L.new D).feed s := rfl
    rw [hm]
    generalize (L.new D).feed s = m at *
    have g1 := a1.get
    have k1 : H1.get H.n = some (jb 0 [] 0) := by rw [a1.keep H.n (Nat.lt_succ_self _)]; exact get_new
    have hle : H.le H1 := le_refl.new.trans a1.le
    have k1n : H.n < H1.n := Nat.lt_of_lt_of_le (Nat.lt_succ_self _) a1.n0
    have hat : (if m.at_ < 0 then (0 : Int) else m.at_) = atP m := rfl
    simp (config := { maxSteps := 4000000 }) [hjb, hcl, ef, e1, g1, k1, hat, jv, splice, hle.set]
  | true =>
    have hm : wholeP s D true = ((L.new D).feed s).fin := rfl
    rw [hm]
    generalize (L.new D).feed s = m at *
    obtain ⟨H2, e2, vj2, vs2, a2⟩ := end0_ex a1
    generalize m.fin = m2 at *
    have g2 := a2.get
    have k2 : H2.get H.n = some (jb 0 [] 0) := by rw [a2.keep H.n (Nat.lt_succ_self _)]; exact get_new
    have hle : H.le H2 := le_refl.new.trans a2.le
    have hat : (if m2.at_ < 0 then (0 : Int) else m2.at_) = atP m2 := rfl
    simp (config := { maxSteps := 4000000 }) [hjb, hcl, ef, e1, e2, g2, k2, hat, jv, splice, hle.set]
end
end Go.Proofs.YtgnefbngkhjfcaaGreatDoor.Lx
/-
  Layer 32 (orbparse), and the laws of layers 29 and 32 that need no reference.
-/
set_option linter.unusedSimpArgs false
set_option linter.unusedVariables false
set_option maxRecDepth 100000
namespace Go.Proofs.YtgnefbngkhjfcaaGreatDoor.Lx
open Go.Lg Tg.Lx

section
variable {H H' H0 : LH} {b : UInt8} {m m' : L} {p pj ps : Nat} {vj vs : Value} {s t : List UInt8}
/-- rules -/
def rv (l : Bool) (k d : Int) : Value := .agg ⟨[.bool l, .int .i64 k, .int .i64 d]⟩
@[simp] theorem flat_rv {l : Bool} {k d : Int} : flatB (rv l k d) = true := by simp [rv, flatB, flat1B]
def lim (k : Int) : Int := if 1048576 < (if k < 1445 then (1445 : Int) else k) then 1048576 else if k < 1445 then 1445 else k
def snAt (n : Int) : Int := if 1445 < (if n < 0 then (0 : Int) else n) then 1445 else if n < 0 then 0 else n
theorem limit_l {l : Bool} {k d : Int} : LC Tryz.prog EJ 29 [rv l k d] H = some (.int .i64 (lim k), H) := by
  refine LC_pure rfl Tryz.func29 rfl (Nat.le_of_ble_eq_true rfl) (by decide) (by kernel_rfl) rfl ?_
  simp [rv, lim, le_refl.new]
theorem snAt_l {n : Int} : LC Tryz.prog EJ 30 [.int .i64 n] H = some (.int .i64 (snAt n), H) := by
  refine LC_pure rfl Tryz.func30 rfl (Nat.le_of_ble_eq_true rfl) (by decide) (by kernel_rfl) rfl ?_
  simp [snAt]
theorem lim_in (k : Int) : 1445 ≤ lim k ∧ lim k ≤ 1048576 := by
  unfold lim; repeat' split
  all_goals omega
/-- what is judged: a verdict, why, where -/
structure J where
  v : Int
  r : List UInt8
  a : Int
def ofP (s : List UInt8) (k : Int) (D : Nat) (en : Bool) : J :=
  let m := wholeP (s.take (if lim k < s.length then lim k else s.length).toNat) D (en && decide ((s.length : Int) < lim k))
  if m.verdict ≠ 0 then ⟨m.verdict, m.reason, if atP m < snAt s.length then snAt s.length else atP m⟩
  else if lim k ≤ (s.length : Int) then ⟨2, L.rLimit, lim k⟩
  else ⟨m.verdict, m.reason, atP m⟩
def J.val (j : J) : Value := jv j.v j.r j.a
@[simp] theorem flat_jval {j : J} : flatB j.val = true := flat_jv
theorem of_l {l : Bool} {k d : Int} {en : Bool} {D : Nat} (hD : (D : Int) = clamp d) (h2 : D ≤ 200) (hd : ∀ l, H.n ≤ l → H.get l = none) (ht : Tab H) (hs : s.length ≤ 9223372036854775807) :
    LC Tryz.prog EJ 10 [str s, rv l k d, .bool en] H = some ((ofP s k D en).val, H) := by
  refine LC_pure rfl Tryz.func10 rfl (Nat.le_of_ble_eq_true rfl) (by decide) (by kernel_rfl) flat_jval ?_
  obtain ⟨hk1, hk2⟩ := lim_in k
  unfold ofP
  dsimp only
  have hl : ∀ H, LC Tryz.prog EJ 29 [.agg ⟨[.bool l, .int .i64 k, .int .i64 d]⟩] H = some (.int .i64 (lim k), H) := fun H => limit_l
  generalize lim k = K at *
  have ha := fun H => snAt_l (H := H) (n := s.length)
  generalize snAt s.length = q at *
  have hmin : (if (K : Int) < s.length then K else (s.length : Int)) ≤ s.length := by split <;> omega
  have hmin0 : 0 ≤ (if (K : Int) < s.length then K else (s.length : Int)) := by split <;> omega
  generalize hN : (if (K : Int) < s.length then K else (s.length : Int)) = N at *
  have hlen : (s.take N.toNat).length ≤ 1048576 := by
    have : N ≤ 1048576 := by rw [← hN]; split <;> omega
    simp; omega
  generalize hu : s.take N.toNat = u at *
  have B1 : ∀ (en2 : Bool), LC Tryz.prog EJ 7 [str u, .int .i64 d, .bool en2] ((H.new ⟨[.bool l, .int .i64 k, .int .i64 d], 29, true⟩).new (jb 0 [] 0)).ro = some (jv (wholeP u D en2).verdict (wholeP u D en2).reason (atP (wholeP u D en2)), ((H.new ⟨[.bool l, .int .i64 k, .int .i64 d], 29, true⟩).new (jb 0 [] 0)).ro) := fun en2 => by
    refine whole_l hD h2 (fun j hj => ?_) ⟨ht.1, ht.2⟩ hlen
    have hj' : H.n + 1 + 1 ≤ j := hj
    rw [get_ro, get_new_ne (by show j ≠ H.n + 1; omega), get_new_ne (by omega), hd j (by omega)]; rfl
  have hjb : (⟨[.int .i64 0, str [], .int .i64 0, .bool false], 24, true⟩ : LB) = jb 0 [] 0 := rfl
  have hle : H.le (((H.new ⟨[.bool l, .int .i64 k, .int .i64 d], 29, true⟩).new (jb 0 [] 0)).new (jb 0 [] 0)) := le_refl.new.new.new
  have hfa : ∀ (v : Int) (r : List UInt8) (a : Int), flatB (.agg ⟨[.int .i64 v, str r, .int .i64 a, .bool false]⟩) = true := fun v r a => flat_jv
  have c1 : ((s.length : Int) < K) = True ∧ (K ≤ (s.length : Int)) = False ∨ ((s.length : Int) < K) = False ∧ (K ≤ (s.length : Int)) = True := by
    rcases Int.lt_or_le (s.length : Int) K with h1 | h1
    · exact .inl ⟨eq_true h1, eq_false (by omega)⟩
    · exact .inr ⟨eq_false (by omega), eq_true h1⟩
  obtain ⟨en2, h2e⟩ : ∃ en2, en2 = (en && decide ((s.length : Int) < K)) := ⟨_, rfl⟩
  rw [← h2e]
  have B2 := B1 en2
  generalize wholeP u D en2 = m at *
  have c2 : m.verdict = 0 ∨ m.verdict ≠ 0 := Decidable.em _
  generalize atP m = am at *
  rcases c1 with ⟨f1, f2⟩ | ⟨f1, f2⟩ <;> cases en <;> simp only [f1, decide_true, decide_false, Bool.true_and, Bool.false_and] at h2e <;> subst h2e <;> rcases c2 with f3 | f3 <;> simp (config := { maxSteps := 4000000, maxDischargeDepth := 9 }) [rv, jv, J.val, hl, ha, hjb, hN, hu, hmin, hmin0, f1, f2, f3, B2, hfa, splice, L.rLimit, LH.le.set, LH.le.new]
end
end Go.Proofs.YtgnefbngkhjfcaaGreatDoor.Lx
/-
  A logical run of Go code: structs compared, part by part.
-/
set_option linter.unusedSimpArgs false
set_option linter.unusedVariables false
set_option maxRecDepth 100000
namespace Go.Lg
theorem pureVal_map {α β : Type} {P : Program} (s : Sem α) (f : α → β) : pureVal P (f <$> s) = (pureVal P s).map f := by
  show pureVal P (s >>= fun x => pure (f x)) = _
  rw [pureVal_bind]; cases pureVal P s <;> rfl
theorem eqIn_int {P : Program} {d : Nat} {t : TypeId} {k : IntKind} {a b : Int} (hu : P.underlying t = some (.int k)) : pureVal P (Op.equalIn (d + 1) t (.int k a) (.int k b)) = some (a == b) := by
  unfold Op.equalIn
  simp only [pureVal_bind, pureVal_und, hu, Option.bind_some, pureVal_pure, if_true]
theorem eqIn_str {P : Program} {d : Nat} {t : TypeId} {a b : List UInt8} (hu : P.underlying t = some .string) : pureVal P (Op.equalIn (d + 1) t (str a) (str b)) = some (decide (a = b)) := by
  unfold Op.equalIn
  simp only [pureVal_bind, pureVal_und, hu, Option.bind_some, str]
  show some _ = _
  congr 1
  rw [Bool.eq_iff_iff, Go.MapKept.bytes_beq]; simp
theorem eqIn_bool {P : Program} {d : Nat} {t : TypeId} {a b : Bool} (hu : P.underlying t = some .bool) : pureVal P (Op.equalIn (d + 1) t (.bool a) (.bool b)) = some (a == b) := by
  unfold Op.equalIn
  simp only [pureVal_bind, pureVal_und, hu, Option.bind_some, pureVal_pure]
theorem part_cell {P : Program} {t : TypeId} {cs : Array Value} {o : Nat} {v : Value} (ha : aggB P t = some false) (h : cs[o]? = some v) : pureVal P (part t cs o) = some v := by
  unfold part
  have : pureVal P (isAgg t) = some false := by
    unfold aggB at ha
    unfold isAgg
    obtain ⟨d, hd, hf⟩ := Option.map_eq_some_iff.1 ha
    simp only [pureVal_bind, pureVal_und, hd, Option.bind_some]
    cases d <;> first | rfl | (simp [aggD] at hf)
  simp only [pureVal_bind, this, Option.bind_some, h]
  rfl
/-- two aggregates of a type that is guarded by nothing -/
theorem lbin_agg {P : Program} {t : TypeId} {xs ys : List Value} {b : Bool} (hx : flatB (.agg ⟨xs⟩) = true) (hy : flatB (.agg ⟨ys⟩) = true) (hg : P.eqGuardType P.depth t = false)
    (he : pureVal P (Op.equalIn Op.maxDepth t (.agg ⟨xs⟩) (.agg ⟨ys⟩)) = some b) : lbin P .eql t (.agg ⟨xs⟩) (.agg ⟨ys⟩) = some (.bool b) := by
  unfold lbin
  simp only
  rw [if_pos (by rw [hx, hy]; rfl)]
  unfold pureFlat eqGuard
  simp only [binOp, Op.equal, pureVal_bind]
  have e1 : ∀ X Y : Value, pureVal P (if (!true) = true then (pure () : Sem Unit) else do
      let __do_lift ← program
      let __do_lift_1 ← program
      if (!__do_lift.eqGuardType __do_lift_1.depth t) = true then pure ()
      else do
        let __do_lift ← Op.eqGuardIn Op.maxDepth t X Y
        if __do_lift = true then unsupported (Unsupported.noEntry "binop/eql: two nil values of an interface type with methods, in a part of a struct or an array") else pure ()) = some () := by
    intro X Y
    rw [if_neg (by decide)]
    simp only [pureVal_bind, pureVal_program, Option.bind_some, hg, Bool.not_false, if_true, pureVal_pure]
  rw [e1, he]
  rfl
end Go.Lg
/-
  The laws of layers 29 and 32 that need no reference: what they come to.
-/
set_option linter.unusedSimpArgs false
set_option linter.unusedVariables false
set_option maxRecDepth 100000
namespace Go.Proofs.YtgnefbngkhjfcaaGreatDoor.Lx
open Go.Lg Tg.Lx

section
variable {H H' H0 : LH} {b : UInt8} {s t : List UInt8}
theorem live1 : (wholeP [120, 61, 49, 59] 9 false).verdict = 1 ∧ atP (wholeP [120, 61, 49, 59] 9 false) = 4 := by decide +kernel
theorem live2 : (wholeP [91, 49, 93] 9 true).verdict = 2 ∧ (wholeP [91, 49, 93] 9 true).reason = [106, 115, 111, 110] := by decide +kernel
theorem live3 : (ofP [120, 61, 49, 59] 1445 9 false).v = 1 ∧ (ofP [120, 61, 49, 59] 1445 9 false).r = [115, 99, 114, 105, 112, 116] ∧ (ofP [120, 61, 49, 59] 1445 9 false).a = 4 := by decide +kernel
theorem lives29_l (hd : ∀ l, H.n ≤ l → H.get l = none) (ht : Tab H) : LC Tryz.prog EJ 9 [] H = some (.bool true, H) := by
  refine LC_pure rfl Tryz.func9 rfl (Nat.le_of_ble_eq_true rfl) (by decide) (by kernel_rfl) rfl ?_
  have h1 := whole_l (s := [120, 61, 49, 59]) (d := 9) (en := false) (D := 9) (by decide) (by decide) hd ht (by decide)
  have h2 := whole_l (s := [91, 49, 93]) (d := 9) (en := true) (D := 9) (by decide) (by decide) hd ht (by decide)
  rw [live1.1, live1.2] at h1
  rw [live2.1, live2.2] at h2
  generalize (wholeP [120, 61, 49, 59] 9 false).reason = r1 at *
  generalize atP (wholeP [91, 49, 93] 9 true) = a2 at *
  simp (config := { maxSteps := 4000000, maxDischargeDepth := 9 }) [h1, h2, jv, splice, LH.le.set, LH.le.new]
theorem jstood : Tryz.prog.stoodInHeld 24 = false := by kernel_rfl
theorem jguard : Tryz.prog.eqGuardType Tryz.prog.depth 24 = false := by kernel_rfl
theorem jv_eq {v v' a a' : Int} {r r' : List UInt8} : lbin Tryz.prog .eql 24 (jv v r a) (jv v' r' a') = some (.bool (decide (v = v') && decide (r = r') && decide (a = a'))) := by
  refine lbin_agg flat_jv flat_jv jguard ?_
  show pureVal Tryz.prog (Op.equalIn ((9998 + 1) + 1) _ _ _) = _
  unfold Op.equalIn
  simp only [pureVal_bind, pureVal_und, Tryz.underlying24, Option.bind_some, pureVal_program, jstood, Bool.false_eq_true, if_false, pureVal_pure]
  by_cases h1 : v = v' <;> by_cases h2 : r = r' <;> by_cases h3 : a = a' <;>
    simp [← Array.forIn_toList, pureVal_bind, part_cell, eqIn_int, eqIn_str, eqIn_bool, h1, h2, h3, Tryz.underlying3, Tryz.underlying9, Tryz.underlying4]
theorem lives32_l (hd : ∀ l, H.n ≤ l → H.get l = none) (ht : Tab H) : LC Tryz.prog EJ 14 [] H = some (.bool true, H) := by
  refine LC_pure rfl Tryz.func14 rfl (Nat.le_of_ble_eq_true rfl) (by decide) (by kernel_rfl) rfl ?_
  have h1 : LC Tryz.prog EJ 10 [str [120, 61, 49, 59], .agg ⟨[.bool false, .int .i64 1445, .int .i64 9]⟩, .bool false] H = _ := of_l (s := [120, 61, 49, 59]) (l := false) (k := 1445) (d := 9) (en := false) (D := 9) (by decide) (by decide) hd ht (by decide)
  unfold J.val at h1
  rw [live3.1, live3.2.1, live3.2.2] at h1
  have e := jv_eq (v := 1) (v' := 1) (a := 4) (a' := 4) (r := [115, 99, 114, 105, 112, 116]) (r' := [115, 99, 114, 105, 112, 116])
  unfold jv at h1 e
  simp (config := { maxSteps := 4000000 }) [h1, e]
/-! ### a body of blanks -/
theorem lim1445 : lim 1445 = 1445 := by decide
theorem take_lim (t : List UInt8) : t.take (if (1445 : Int) < t.length then (1445 : Int) else t.length).toNat = t.take 1445 := by
  split
  · rfl
  · rw [List.take_of_length_le (by omega), List.take_of_length_le (by omega)]
theorem ofP_1445 (t : List UInt8) (D : Nat) (en : Bool) : ofP t 1445 D en =
    (if (wholeP (t.take 1445) D (en && decide ((t.length : Int) < 1445))).verdict ≠ 0 then ⟨(wholeP (t.take 1445) D (en && decide ((t.length : Int) < 1445))).verdict, (wholeP (t.take 1445) D (en && decide ((t.length : Int) < 1445))).reason, if atP (wholeP (t.take 1445) D (en && decide ((t.length : Int) < 1445))) < snAt t.length then snAt t.length else atP (wholeP (t.take 1445) D (en && decide ((t.length : Int) < 1445)))⟩
     else if (1445 : Int) ≤ (t.length : Int) then ⟨2, L.rLimit, 1445⟩ else ⟨(wholeP (t.take 1445) D (en && decide ((t.length : Int) < 1445))).verdict, (wholeP (t.take 1445) D (en && decide ((t.length : Int) < 1445))).reason, atP (wholeP (t.take 1445) D (en && decide ((t.length : Int) < 1445)))⟩) := by
  unfold ofP
  rw [lim1445, take_lim]
theorem wholeP_at (u : List UInt8) (D : Nat) (en : Bool) (hu : u.length ≤ 1048576) : atP (wholeP u D en) ≤ u.length := by
  have h := (L.Inv.new D).feed u (by omega)
  have hi : L.Inv (0 + u.length) (wholeP u D en) := by
    unfold wholeP
    split
    · exact h.fin
    · exact h
  have h1 := hi.at1
  unfold atP
  split <;> omega
theorem long_plain (t : List UInt8) (D : Nat) (en : Bool) (ht : t.length ≤ 1000000) :
    ((1445 ≤ t.length ∨ en = true) → (ofP t 1445 D en).v ≠ 0) ∧
    (1445 ≤ t.length → (ofP t 1445 D en).v = 1 → (ofP t 1445 D en).a ≤ 1445) ∧
    ((ofP t 1445 D en).v ≠ 0 → en = false → (ofP (t ++ [64, 35]) 1445 D true).v = (ofP t 1445 D en).v ∧ (ofP (t ++ [64, 35]) 1445 D true).r = (ofP t 1445 D en).r ∧ ((ofP (t ++ [64, 35]) 1445 D true).a = (ofP t 1445 D en).a ∨ t.length < 1445)) := by
  have hul : (t.take 1445).length ≤ 1445 := by simp; omega
  have hat := fun en => wholeP_at (t.take 1445) D en (by omega)
  refine ⟨fun h => ?_, fun h1 h2 => ?_, fun h1 h2 => ?_⟩
  · rw [ofP_1445]
    split
    · rename_i hv; exact hv
    · rename_i hv
      split
      · show (2 : Int) ≠ 0; decide
      · rename_i hlt
        have he : en = true := by rcases h with h | h; omega; exact h
        exfalso
        apply hv
        rw [he, show (true && decide ((t.length : Int) < 1445)) = true by simp; omega]
        exact L.fin_verdict _
  · rw [ofP_1445] at h2 ⊢
    have hs : snAt (t.length : Int) = 1445 := by
      unfold snAt
      rw [if_neg (show ¬ ((t.length : Int) < 0) by omega)]
      split <;> omega
    split
    · rw [hs]
      show (if _ then _ else _) ≤ (1445 : Int)
      have := hat (en && decide ((t.length : Int) < 1445))
      split <;> omega
    · rename_i hv
      rw [if_neg hv, if_pos (by omega)] at h2
      cases h2
  · subst h2
    by_cases hl : 1445 ≤ t.length
    · have e1 : (t ++ [64, 35]).take 1445 = t.take 1445 := List.take_append_of_le_length hl
      have e2 : (true && decide (((t ++ [64, 35] : List UInt8).length : Int) < 1445)) = (false && decide ((t.length : Int) < 1445)) := by simp; omega
      have s1 : snAt (t.length : Int) = 1445 := by
        unfold snAt
        rw [if_neg (show ¬ ((t.length : Int) < 0) by omega)]
        split <;> omega
      have s2 : snAt ((t ++ [64, 35] : List UInt8).length : Int) = 1445 := by
        unfold snAt
        rw [if_neg (show ¬ (((t ++ [64, 35] : List UInt8).length : Int) < 0) by omega)]
        have : (t ++ [64, 35] : List UInt8).length = t.length + 2 := by simp
        split <;> omega
      have l2 : (1445 : Int) ≤ ((t ++ [64, 35] : List UInt8).length : Int) := by simp; omega
      rw [ofP_1445, ofP_1445, e1, e2, s1, s2]
      split
      · exact ⟨rfl, rfl, .inl rfl⟩
      · rw [if_pos (show (1445 : Int) ≤ t.length by omega)]; first | exact ⟨rfl, rfl, .inl rfl⟩ | (rw [if_pos l2]; exact ⟨rfl, rfl, .inl rfl⟩)
    · have e0 : t.take 1445 = t := List.take_of_length_le (by omega)
      have hm : wholeP (t.take 1445) D (false && decide ((t.length : Int) < 1445)) = (L.new D).feed t := by rw [e0]; rfl
      rw [ofP_1445 t D false, hm] at h1
      rw [ofP_1445 t D false, hm]
      have hv : ((L.new D).feed t).verdict ≠ 0 := by
        intro hv
        rw [if_neg (fun hx => hx hv), if_neg (by omega)] at h1
        exact h1 hv
      rw [if_pos hv]
      have e1 : (t ++ [64, 35]).take 1445 = t ++ ([64, 35] : List UInt8).take (1445 - t.length) := by
        rw [List.take_append, List.take_of_length_le (show t.length ≤ 1445 by omega)]
      have key : ∀ en, (wholeP ((t ++ [64, 35]).take 1445) D en).verdict = ((L.new D).feed t).verdict ∧ (wholeP ((t ++ [64, 35]).take 1445) D en).reason = ((L.new D).feed t).reason := by
        intro en
        rw [e1]
        have hst := L.stuck (([64, 35] : List UInt8).take (1445 - t.length)) ((L.new D).feed t) hv
        rw [← L.feed_append] at hst
        cases en with
        | false => exact ⟨hst.1, hst.2.1⟩
        | true =>
          have hf := L.fin_stuck ((L.new D).feed (t ++ ([64, 35] : List UInt8).take (1445 - t.length))) (by rw [hst.1]; exact hv)
          exact ⟨hf.1.trans hst.1, hf.2.1.trans hst.2.1⟩
      rw [ofP_1445, if_pos (by rw [(key _).1]; exact hv)]
      exact ⟨(key _).1, (key _).2, .inr (by omega)⟩
theorem dom_new {H : LH} {B : LB} (hd : ∀ l, H.n ≤ l → H.get l = none) : ∀ l, (H.new B).n ≤ l → (H.new B).get l = none := fun l hl => by
  have hl' : H.n + 1 ≤ l := hl
  rw [get_new_ne (by omega)]; exact hd l (by omega)
theorem tab_new {H : LH} {B : LB} (ht : Tab H) : Tab (H.new B) := ⟨ht.1, ht.2⟩
end
end Go.Proofs.YtgnefbngkhjfcaaGreatDoor.Lx
/-
  The law LexerJson: what it comes to.
-/
set_option linter.unusedSimpArgs false
set_option linter.unusedVariables false
set_option maxRecDepth 100000
namespace Go.Proofs.YtgnefbngkhjfcaaGreatDoor.Lx
open Go.Lg Tg.Lx

section
variable {H H' H0 : LH} {b : UInt8} {m m' : L} {p pj ps : Nat} {vj vs : Value} {s t : List UInt8}
theorem New29_l {d : Nat} (h1 : d ≤ 200) : LC Tryz.prog EJ 15 [.int .i64 (d : Nat)] H = some (.tuple #[ptr (H.n + 2) 0, .int .i64 0], fresh d H) := by
  obtain ⟨r, h, e⟩ := LC_runs (Q := fun r => r = (.tuple #[ptr (H.n + 2) 0, .int .i64 0], fresh d H)) (P := Tryz.prog) (E := EJ) (H := H) (args := [.int .i64 (d : Nat)]) rfl Tryz.func15 rfl (Nat.le_of_ble_eq_true rfl) (by decide) (by kernel_rfl) (by
    have e1 := fresh_l (H := H) h1
    simp [e1])
  rw [h, e, trunc_not (by simp [flatB, flat1B, atomB])]
theorem Feed29_ex (h : At H0 p pj ps vj vs H m) (hs : s.length ≤ 1048576) (hse : m.j.seen ≤ 549755813888) : ∃ H', LC Tryz.prog EJ 16 [ptr p 0, str s] H = some (.int .i64 (m.feed s).verdict, H') ∧ Post H0 p pj ps (m.feed s) H' := by
  refine meth_exv rfl Tryz.func16 rfl (Nat.le_of_ble_eq_true rfl) (by decide) (by kernel_rfl) h ?_
  obtain ⟨H1, e, hp⟩ := feed0_ex h hs hse
  simp [e]; exact hp
theorem End29_ex (h : At H0 p pj ps vj vs H m) : ∃ H', LC Tryz.prog EJ 21 [ptr p 0] H = some (.int .i64 m.fin.verdict, H') ∧ Post H0 p pj ps m.fin H' := by
  refine meth_exv rfl Tryz.func21 rfl (Nat.le_of_ble_eq_true rfl) (by decide) (by kernel_rfl) h ?_
  obtain ⟨H1, e, hp⟩ := end0_ex h
  simp [e]; exact hp
end
end Go.Proofs.YtgnefbngkhjfcaaGreatDoor.Lx
/-
  The reference of layer 28 (a script's bytes, read piece by piece) in plain Lean, and the law: it comes to what the machine comes to. No program in sight.
-/
set_option linter.unusedSimpArgs false
set_option linter.unusedVariables false
namespace Tg.Rd
open Tg.Js

structure R where
  bad : Int
  within : Bool
  opn : List UInt8
  pieces : Int
  ends : Int
  last : Int
  broken : Bool
  depth : Int

namespace R
def fail (x : R) (a : Int) : R := { x with bad := a }
def stop (x : R) : R := { x with within := true }
def ended (x : R) (l : Int) : R := { x with last := l, broken := false }
def joined (x : R) : Bool := x.last == 1 && !x.broken
def piece (x : R) : R := { x with pieces := w64 (x.pieces + 1) }
end R
def add (n : Nat) (y : Nat × Nat) : Nat × Nat := (y.1 + n, y.2)
def lineN (r : List UInt8) : Nat := (r.takeWhile fun b => !feedB b).length
def line (x : R) (r : List UInt8) : R × Nat := if lineN r < r.length then ({ x with broken := true }, lineN r + 1) else (x, lineN r)
/-- a remark up to a star and a slash: whether a line ended, and how many bytes -/
def blockR : List UInt8 → Bool → Bool × Option Nat
  | [], k => (k, none)
  | c :: r, k => if c = 42 ∧ r.head? = some 47 then (k, some 2) else ((blockR r (k || feedB c)).1, (blockR r (k || feedB c)).2.map (· + 1))
def wordN (dg : Bool) (r : List UInt8) : Nat := (r.takeWhile fun b => inner b || (dg && b == 46)).length
/-- 0: it is over, 1: bad, 2: done, 3: something opens -/
def quoteR (by_ : UInt8) : List UInt8 → Nat × Nat
  | [] => (0, 0)
  | [c] => if c = 92 then (1, 0) else if feedB c then (0, 1) else if c = by_ then (1, 2) else (1, 0)
  | c :: d :: r => if c = 92 then add 2 (quoteR by_ r) else if feedB c then (0, 1) else if c = by_ then (1, 2) else add 1 (quoteR by_ (d :: r))
def graveR : List UInt8 → Nat × Nat
  | [] => (0, 0)
  | [c] => if c = 92 then (1, 0) else if c = 96 then (1, 2) else (1, 0)
  | c :: d :: r => if c = 92 then add 2 (graveR r) else if c = 96 then (1, 2) else if c = 36 ∧ d = 123 then (2, 3) else add 1 (graveR (d :: r))
def innerN (r : List UInt8) : Nat := (r.takeWhile inner).length
def patternR : Bool → List UInt8 → Nat × Nat
  | _, [] => (0, 0)
  | k, [c] => if c = 92 then (1, 0) else if feedB c then (0, 1) else if c = 47 ∧ k = false then (1, 2) else (1, 0)
  | k, c :: d :: r => if c = 92 then add 2 (patternR k r) else if feedB c then (0, 1) else if c = 47 ∧ k = false then (innerN (d :: r) + 1, 2) else if c = 91 then add 1 (patternR true (d :: r)) else if c = 93 then add 1 (patternR false (d :: r)) else add 1 (patternR k (d :: r))
/-- what stands behind a place: how far it goes, or that it is over -/
def wordX (x : R) (a : Int) (r : List UInt8) : R × Option Nat :=
  if x.joined then (x.fail a, none)
  else
    let n := wordN (digit (r.headD 0)) r
    ((x.piece).ended (if isKeyword (r.take n) then 0 else 1), some n)
def quoteX (x : R) (a : Int) (r : List UInt8) (by_ : UInt8) : R × Option Nat :=
  if (quoteR by_ r).2 = 2 then (x.ended 1, some (quoteR by_ r).1) else if (quoteR by_ r).2 = 1 then (x.fail (a + (quoteR by_ r).1), none) else (x.stop, none)
def graveX (x : R) (a : Int) (r : List UInt8) : R × Option Nat :=
  if (graveR r).2 = 2 then (x.ended 1, some (graveR r).1)
  else if (graveR r).2 = 3 then (if (x.opn.length : Int) = x.depth then (x.fail (a + (graveR r).1 - 1), none) else (({ x with opn := x.opn ++ [36] } : R).ended 0, some (graveR r).1))
  else (x.stop, none)
def patternX (x : R) (a : Int) (r : List UInt8) : R × Option Nat :=
  if (patternR false r).2 = 2 then (x.ended 1, some (patternR false r).1) else if (patternR false r).2 = 1 then (x.fail (a + (patternR false r).1), none) else (x.stop, none)
def slashX (x : R) (a : Int) (r : List UInt8) : R × Option Nat :=
  match r with
  | c :: d :: q =>
    if d = 47 then ((line x q).1, some ((line x q).2 + 2))
    else if d = 42 then
      (match blockR q x.broken with
      | (k, some n) => ({ x with broken := k }, some (n + 2))
      | (k, none) => (({ x with broken := k } : R).stop, none))
    else if x.last ≠ 0 then (x.piece.ended 0, some 1)
    else ((patternX x.piece (a + 1) (d :: q)).1, (patternX x.piece (a + 1) (d :: q)).2.map (· + 1))
  | _ => (x.stop, none)
def lessX (x : R) (a : Int) (r : List UInt8) : R × Option Nat :=
  match r with
  | _ :: c1 :: c2 :: c3 :: q => if c1 ≠ 33 then (x.fail (a + 1), none) else if c2 ≠ 45 then (x.fail (a + 2), none) else if c3 ≠ 45 then (x.fail (a + 3), none) else ((line x q).1, some ((line x q).2 + 4))
  | [_, c1, c2] => if c1 ≠ 33 then (x.fail (a + 1), none) else if c2 ≠ 45 then (x.fail (a + 2), none) else (x.stop, none)
  | [_, c1] => if c1 ≠ 33 then (x.fail (a + 1), none) else (x.stop, none)
  | _ => (x.stop, none)
def signX (x0 : R) (a : Int) (b : UInt8) (r : List UInt8) : R × Option Nat :=
  let x := x0.piece
  if b = 40 ∨ b = 91 ∨ b = 123 then
    (if (x.opn.length : Int) = x.depth then (x.fail a, none) else (({ x with opn := x.opn ++ [b] } : R).ended 0, some 1))
  else if ¬ (b = 41 ∨ b = 93 ∨ b = 125) then
    ((if b = 59 ∧ x.opn = [] then ({ x with ends := w64 (x.ends + 1) } : R) else x).ended 0, some 1)
  else match x.opn.getLast? with
    | none => (x.fail a, none)
    | some t =>
      if b = 125 ∧ t = 36 then ((graveX { x with opn := x.opn.dropLast } (a + 1) r).1, (graveX { x with opn := x.opn.dropLast } (a + 1) r).2.map (· + 1))
      else if ¬ (b = 41 ∧ t = 40 ∨ b = 93 ∧ t = 91 ∨ b = 125 ∧ t = 123) then (x.fail a, none)
      else if b ≠ 125 then (({ x with opn := x.opn.dropLast } : R).ended 1, some 1)
      else ((if x.opn.length = 1 then ({ x with opn := x.opn.dropLast, ends := w64 (x.ends + 1) } : R) else { x with opn := x.opn.dropLast }).ended 2, some 1)
def nextX (x : R) (a : Int) (b : UInt8) (r : List UInt8) : R × Option Nat :=
  if white b then ({ x with broken := x.broken || feedB b }, some 1)
  else if inner b then wordX x a (b :: r)
  else if b = 34 ∨ b = 39 then (if x.joined then (x.fail a, none) else ((quoteX x.piece (a + 1) r b).1, (quoteX x.piece (a + 1) r b).2.map (· + 1)))
  else if b = 96 then ((graveX x.piece (a + 1) r).1, (graveX x.piece (a + 1) r).2.map (· + 1))
  else if b = 47 then slashX x a (b :: r)
  else if b = 60 ∧ x.pieces = 0 then lessX x a (b :: r)
  else if signs.contains b then signX x a b r
  else (x.fail a, none)
def readX : Nat → R → Nat → List UInt8 → R
  | 0, x, _, _ => x
  | _ + 1, x, _, [] => x
  | f + 1, x, a, b :: r => match nextX x a b r with
    | (y, none) => y
    | (y, some k) => readX f y (a + k) ((b :: r).drop k)
def start (d : Int) : R := ⟨-1, false, [], 0, 0, 0, false, d⟩
def read (s : List UInt8) (d : Int) : R := readX (s.length + 1) (start d) 0 s
def R.state (x : R) : Int := if 0 ≤ x.bad then 0 else if x.within = true ∨ x.opn ≠ [] then 1 else 2

/-! The law. -/
def tr (b : UInt8) : UInt8 := if b = 96 then 36 else b
def lastX (l : Int) : Int := if l = 3 then 0 else l
/-- the machine stands between pieces, where the reference stands -/
structure Rel (m : M) (x : R) (a : Nat) : Prop where
  at0 : m.at_ = 0
  bad : m.bad = false
  taken : m.taken = false
  seen : m.seen = a
  stack : m.stack.map tr = x.opn
  ok : ∀ t ∈ m.stack, t = 40 ∨ t = 91 ∨ t = 123 ∨ t = 96
  last : lastX m.last = x.last
  lok : m.last = 0 ∨ m.last = 1 ∨ m.last = 2 ∨ m.last = 3
  broken : m.broken = x.broken
  pieces : m.pieces = x.pieces
  ends : m.ends = x.ends
  depth : m.depth = x.depth
  xbad : x.bad = -1
  xin : x.within = false
/-- both have come to the same -/
def End (m : M) (x : R) : Prop := m.ends = x.ends ∧ ((m.bad = true ∧ m.place = x.bad ∧ 0 ≤ x.bad) ∨ (m.bad = false ∧ x.bad = -1 ∧ m.tell = x.state))
end Tg.Rd
/-
  The laws of layer 28 (jscript): words.
-/
set_option linter.unusedSimpArgs false
set_option linter.unusedVariables false
set_option maxRecDepth 100000
namespace Go.Proofs.YtgnefbngkhjfcaaGreatDoor
open Go.Lg Tg.Js

section
variable {H : LH} {s : List UInt8}
theorem kws_lit : keywords = [[97, 119, 97, 105, 116], [98, 114, 101, 97, 107], [99, 97, 115, 101], [99, 97, 116, 99, 104], [99, 108, 97, 115, 115], [99, 111, 110, 115, 116], [99, 111, 110, 116, 105, 110, 117, 101], [100, 101, 102, 97, 117, 108, 116], [100, 101, 108, 101, 116, 101], [100, 111], [101, 108, 115, 101], [101, 120, 112, 111, 114, 116], [101, 120, 116, 101, 110, 100, 115], [102, 105, 110, 97, 108, 108, 121], [102, 111, 114], [102, 114, 111, 109], [102, 117, 110, 99, 116, 105, 111, 110], [103, 101, 116], [105, 102], [105, 109, 112, 111, 114, 116], [105, 110], [105, 110, 115, 116, 97, 110, 99, 101, 111, 102], [108, 101, 116], [110, 101, 119], [111, 102], [114, 101, 116, 117, 114, 110], [115, 101, 116], [115, 116, 97, 116, 105, 99], [115, 119, 105, 116, 99, 104], [116, 104, 114, 111, 119], [116, 114, 121], [116, 121, 112, 101, 111, 102], [118, 97, 114], [118, 111, 105, 100], [119, 104, 105, 108, 101], [119, 105, 116, 104], [121, 105, 101, 108, 100], [97, 115, 121, 110, 99], [97, 115]] := by decide +kernel
theorem kws_cells : [str [97, 119, 97, 105, 116], str [98, 114, 101, 97, 107], str [99, 97, 115, 101], str [99, 97, 116, 99, 104], str [99, 108, 97, 115, 115], str [99, 111, 110, 115, 116], str [99, 111, 110, 116, 105, 110, 117, 101], str [100, 101, 102, 97, 117, 108, 116], str [100, 101, 108, 101, 116, 101], str [100, 111], str [101, 108, 115, 101], str [101, 120, 112, 111, 114, 116], str [101, 120, 116, 101, 110, 100, 115], str [102, 105, 110, 97, 108, 108, 121], str [102, 111, 114], str [102, 114, 111, 109], str [102, 117, 110, 99, 116, 105, 111, 110], str [103, 101, 116], str [105, 102], str [105, 109, 112, 111, 114, 116], str [105, 110], str [105, 110, 115, 116, 97, 110, 99, 101, 111, 102], str [108, 101, 116], str [110, 101, 119], str [111, 102], str [114, 101, 116, 117, 114, 110], str [115, 101, 116], str [115, 116, 97, 116, 105, 99], str [115, 119, 105, 116, 99, 104], str [116, 104, 114, 111, 119], str [116, 114, 121], str [116, 121, 112, 101, 111, 102], str [118, 97, 114], str [118, 111, 105, 100], str [119, 104, 105, 108, 101], str [119, 105, 116, 104], str [121, 105, 101, 108, 100], str [97, 115, 121, 110, 99], str [97, 115]] = keywords.map str := by rw [kws_lit]; rfl
set_option maxHeartbeats 2000000 in
theorem refKeyword_l (hd : ∀ l, H.n ≤ l → H.get l = none) : LC Tryz.prog EJ 87 [str s] H = some (.bool (isKeyword s), H) := by
  refine LC_pure rfl Tryz.func87 rfl (Nat.le_of_ble_eq_true rfl) (by decide) (by kernel_rfl) rfl ?_
  simp (config := { maxSteps := 4000000 }) [kws_cells]
  refine loop_ind (fun (i : Nat) fr' H' => fr' 0 = str s ∧ fr' 3 = sl H.n 39 39 ∧ fr' 4 = .int .i64 i ∧ i ≤ 39 ∧ (keywords.take i).contains s = false ∧ H' = H.new ⟨keywords.map str, 9, true⟩) (fun i => 39 - i) 0 ?_ ?_
  · exact ⟨by simp, by simp, by simp, by omega, by simp, rfl⟩
  rintro i fr' H' ⟨h0, h3, h4, hi, hc, rfl⟩ ih
  have hle : H.le (H.new ⟨keywords.map str, 9, true⟩) := le_refl.new
  by_cases hlt : (i : Int) < 39
  · have f := eq_true hlt
    have hlen : i < keywords.length := by rw [kw_len]; omega
    have hx : (keywords.map str)[i]? = some (str keywords[i]) := by simp [hlen]
    have hw : IntKind.i64.wrap ((i : Int) + 1) = ((i + 1 : Nat) : Int) := by rw [wrap64_in (by omega) (by omega)]; omega
    have ht : (keywords.take (i + 1)).contains s = (decide (keywords[i] = s)) := by
      rw [List.take_succ_eq_append_getElem hlen]
      simp only [List.contains_eq_mem, List.mem_append, List.mem_singleton] at hc ⊢
      simp at hc
      simp [hc, eq_comm]
    by_cases hs : keywords[i] = s
    · have hk : isKeyword s = true := by
        unfold isKeyword
        rw [List.contains_iff_mem]
        rw [← hs]; exact List.getElem_mem hlen
      have fs := eq_true hs
      simp (config := { maxSteps := 4000000 }) [h0, h3, h4, f, hx, fs, hk, hle]
    · have fs := eq_false hs
      simp (config := { maxSteps := 4000000 }) [h0, h3, h4, f, hx, fs, hw]
      refine ih (i + 1) _ _ (by omega) ⟨by simp [h0], by simp [h3], by simp, by omega, ?_, rfl⟩
      rw [ht]; simp [hs]
  · have f := eq_false hlt
    have hk : isKeyword s = false := by
      unfold isKeyword
      rw [List.take_of_length_le (by rw [kw_len]; omega)] at hc
      exact hc
    simp (config := { maxSteps := 4000000 }) [h0, h3, h4, f, hk, hle]
end
end Go.Proofs.YtgnefbngkhjfcaaGreatDoor
/-
  The reference of layer 28: what reading comes to, as it lies in memory; its small methods.
-/
set_option linter.unusedSimpArgs false
set_option linter.unusedVariables false
set_option maxRecDepth 100000
namespace Go.Proofs.YtgnefbngkhjfcaaGreatDoor.Rd
open Go.Lg Tg.Rd
open Tg.Js (w64 letter digit feedB white inner isKeyword signs)

def rcs (x : R) : List Value := [.int .i64 x.bad, .bool x.within, str x.opn, .int .i64 x.pieces, .int .i64 x.ends, .int .i64 x.last, .bool x.broken, .int .i64 x.depth]
def rb (x : R) : LB := ⟨rcs x, 47, true⟩
section
variable {H : LH} {b : UInt8} {x y : R} {p : Nat}
@[simp] theorem rb_len : (rb x).cells.length = 8 := by simp only [rb, rcs]; simp only [List.length_cons, List.length_nil]
@[simp] theorem rb_rw : (rb x).rw = true := by simp only [rb]
theorem rb_elem : (rb x).elem = 47 := rfl
@[simp] theorem ld_bad : (rb x).cells[0]? = some (.int .i64 x.bad) := rfl
@[simp] theorem lg_bad {hl : 0 < (rb x).cells.length} : (rb x).cells[0]'hl = (.int .i64 x.bad) := rfl
@[simp] theorem st_bad {y : Int} : (⟨(rb x).cells.set 0 (.int .i64 y), (rb x).elem, true⟩ : LB) = rb { x with bad := y } := rfl
@[simp] theorem ld_within : (rb x).cells[1]? = some (.bool x.within) := rfl
@[simp] theorem lg_within {hl : 1 < (rb x).cells.length} : (rb x).cells[1]'hl = (.bool x.within) := rfl
@[simp] theorem st_within {y : Bool} : (⟨(rb x).cells.set 1 (.bool y), (rb x).elem, true⟩ : LB) = rb { x with within := y } := rfl
@[simp] theorem ld_opn : (rb x).cells[2]? = some (str x.opn) := rfl
@[simp] theorem lg_opn {hl : 2 < (rb x).cells.length} : (rb x).cells[2]'hl = (str x.opn) := rfl
@[simp] theorem st_opn {y : List UInt8} : (⟨(rb x).cells.set 2 (str y), (rb x).elem, true⟩ : LB) = rb { x with opn := y } := rfl
@[simp] theorem ld_pieces : (rb x).cells[3]? = some (.int .i64 x.pieces) := rfl
@[simp] theorem lg_pieces {hl : 3 < (rb x).cells.length} : (rb x).cells[3]'hl = (.int .i64 x.pieces) := rfl
@[simp] theorem st_pieces {y : Int} : (⟨(rb x).cells.set 3 (.int .i64 y), (rb x).elem, true⟩ : LB) = rb { x with pieces := y } := rfl
@[simp] theorem ld_ends : (rb x).cells[4]? = some (.int .i64 x.ends) := rfl
@[simp] theorem lg_ends {hl : 4 < (rb x).cells.length} : (rb x).cells[4]'hl = (.int .i64 x.ends) := rfl
@[simp] theorem st_ends {y : Int} : (⟨(rb x).cells.set 4 (.int .i64 y), (rb x).elem, true⟩ : LB) = rb { x with ends := y } := rfl
@[simp] theorem ld_last : (rb x).cells[5]? = some (.int .i64 x.last) := rfl
@[simp] theorem lg_last {hl : 5 < (rb x).cells.length} : (rb x).cells[5]'hl = (.int .i64 x.last) := rfl
@[simp] theorem st_last {y : Int} : (⟨(rb x).cells.set 5 (.int .i64 y), (rb x).elem, true⟩ : LB) = rb { x with last := y } := rfl
@[simp] theorem ld_broken : (rb x).cells[6]? = some (.bool x.broken) := rfl
@[simp] theorem lg_broken {hl : 6 < (rb x).cells.length} : (rb x).cells[6]'hl = (.bool x.broken) := rfl
@[simp] theorem st_broken {y : Bool} : (⟨(rb x).cells.set 6 (.bool y), (rb x).elem, true⟩ : LB) = rb { x with broken := y } := rfl
@[simp] theorem ld_depth : (rb x).cells[7]? = some (.int .i64 x.depth) := rfl
@[simp] theorem lg_depth {hl : 7 < (rb x).cells.length} : (rb x).cells[7]'hl = (.int .i64 x.depth) := rfl
@[simp] theorem st_depth {y : Int} : (⟨(rb x).cells.set 7 (.int .i64 y), (rb x).elem, true⟩ : LB) = rb { x with depth := y } := rfl
/-- a method that writes its own block alone -/
theorem own {f : FuncId} {fn : Func} {c : Code} {args : List Value} {u : Value} {B B' : LB} (he : EJ f = none) (hf : Tryz.prog.funcs[f]? = some fn) (hb : fn.body = some c) (hN : args.length ≤ fn.ntmps) (hname : fn.name ≠ "runtime.NumGoroutine") (hcd : codeOk EJ.loud fn.ntmps c = true)
    (hp : p < H.n) (hr : Runs Tryz.prog EJ fn [.code c] (enter args) (H.set p B) (fun r => r = (u, H.set p B'))) : LC Tryz.prog EJ f args (H.set p B) = some (u, H.set p B') := by
  have h0 : (H.set p B).get p = some B := get_set
  have h1 : p < (H.set p B).n := hp
  obtain ⟨r, h, rfl⟩ := LC_runs he hf hb hN hname hcd hr
  have e := trunc_set (v := u) (c := B') h0 h1
  rw [set_set] at e
  rw [h, e]

theorem feed_l : LC Tryz.prog EJ 51 [.int .u8 b.toNat] H = some (.bool (feedB b), H) := by
  refine LC_pure rfl Tryz.func51 rfl (Nat.le_of_ble_eq_true rfl) (by decide) (by kernel_rfl) rfl ?_
  simp (config := { maxSteps := 2000000 }) +contextual [feedB, -Int.not_le, -Int.not_lt]
theorem Letter_l : LC Tryz.prog EJ 86 [.int .u8 b.toNat] H = some (.bool (letter b), H) := by
  refine LC_pure rfl Tryz.func86 rfl (Nat.le_of_ble_eq_true rfl) (by decide) (by kernel_rfl) rfl ?_
  simp (config := { maxSteps := 2000000 }) +contextual [letter, -Int.not_le, -Int.not_lt]
theorem Digit_l : LC Tryz.prog EJ 64 [.int .u8 b.toNat] H = some (.bool (digit b), H) := by
  refine LC_pure rfl Tryz.func64 rfl (Nat.le_of_ble_eq_true rfl) (by decide) (by kernel_rfl) rfl ?_
  simp (config := { maxSteps := 2000000 }) +contextual [digit, -Int.not_le, -Int.not_lt]
theorem inner_l : LC Tryz.prog EJ 52 [.int .u8 b.toNat] H = some (.bool (inner b), H) := by
  refine LC_pure rfl Tryz.func52 rfl (Nat.le_of_ble_eq_true rfl) (by decide) (by kernel_rfl) rfl ?_
  simp (config := { maxSteps := 2000000 }) +contextual [inner, Letter_l, Digit_l, -Int.not_le, -Int.not_lt]
  intros; omega
theorem joined_l (hp : p < H.n) : LC Tryz.prog EJ 54 [ptr p 0] (H.set p (rb x)) = some (.bool x.joined, H.set p (rb x)) := by
  refine LC_pure rfl Tryz.func54 rfl (Nat.le_of_ble_eq_true rfl) (by decide) (by kernel_rfl) rfl ?_
  simp +contextual [hp, R.joined]
theorem fail_l {a : Int} (hp : p < H.n) : LC Tryz.prog EJ 55 [ptr p 0, .int .i64 a] (H.set p (rb x)) = some (.int .i64 (-1), H.set p (rb (x.fail a))) := by
  refine own rfl Tryz.func55 rfl (Nat.le_of_ble_eq_true rfl) (by decide) (by kernel_rfl) hp ?_
  simp (config := { maxSteps := 2000000 }) +contextual [hp, R.fail, -Int.not_le, -Int.not_lt]
theorem stop_l (hp : p < H.n) : LC Tryz.prog EJ 89 [ptr p 0] (H.set p (rb x)) = some (.int .i64 (-1), H.set p (rb (x.stop))) := by
  refine own rfl Tryz.func89 rfl (Nat.le_of_ble_eq_true rfl) (by decide) (by kernel_rfl) hp ?_
  simp (config := { maxSteps := 2000000 }) +contextual [hp, R.stop, -Int.not_le, -Int.not_lt]
theorem ended_l {l : Int} (hp : p < H.n) : LC Tryz.prog EJ 88 [ptr p 0, .int .i64 l] (H.set p (rb x)) = some (.tuple #[], H.set p (rb (x.ended l))) := by
  refine own rfl Tryz.func88 rfl (Nat.le_of_ble_eq_true rfl) (by decide) (by kernel_rfl) hp ?_
  simp (config := { maxSteps := 2000000 }) +contextual [hp, R.ended, -Int.not_le, -Int.not_lt]
/-- is a byte one of some? -/
theorem has_l {s : List UInt8} (hs : s.length ≤ 1048576) : LC Tryz.prog EJ 60 [str s, .int .u8 b.toNat] H = some (.bool (s.contains b), H) := by
  obtain ⟨c, hc⟩ : ∃ c, c = s.contains b := ⟨_, rfl⟩
  rw [← hc]
  refine LC_pure rfl Tryz.func60 rfl (Nat.le_of_ble_eq_true rfl) (by decide) (by kernel_rfl) rfl ?_
  simp
  refine loop_ind (fun (i : Nat) fr' H' => fr' 0 = str s ∧ fr' 1 = .int .u8 b.toNat ∧ fr' 5 = .int .i64 i ∧ i ≤ s.length ∧ (s.drop i).contains b = c ∧ H' = H) (fun i => s.length - i) 0 ⟨by simp, by simp, by simp, by omega, by rw [hc]; rfl, rfl⟩ ?_
  rintro i fr' H' ⟨h0, h1, h2, hi, hh, rfl⟩ ih
  by_cases hlt : i < s.length
  · have hw : IntKind.i64.wrap ((i : Int) + 1) = ((i + 1 : Nat) : Int) := by rw [wrap64_in (by omega) (by omega)]; omega
    have hd : s.drop i = at_ s i :: s.drop (i + 1) := by
      rw [List.drop_eq_getElem_cons hlt]; simp [at_, hlt]
    rw [hd, List.contains_cons] at hh
    by_cases hb : at_ s i = b
    · have f := eq_true hb
      rw [hb] at hh
      simp [h0, h1, h2, hlt, f, ← hh]
    · have f := eq_false hb
      have hb2 : (b == at_ s i) = false := by rw [beq_eq_false_iff_ne]; exact fun e => hb e.symm
      rw [hb2, Bool.false_or] at hh
      simp [h0, h1, h2, hlt, f, hw]
      exact ih (i + 1) _ _ (by omega) ⟨by simp [h0], by simp [h1], by simp, hlt, hh, rfl⟩
  · have hd : s.drop i = [] := List.drop_eq_nil_of_le (by omega)
    rw [hd] at hh
    simp [h0, h1, h2, hlt, ← hh]
end
end Go.Proofs.YtgnefbngkhjfcaaGreatDoor.Rd
/-
  The reference of layer 28: lines, remarks, words, texts, patterns.
-/
set_option linter.unusedSimpArgs false
set_option linter.unusedVariables false
set_option maxRecDepth 100000
namespace Tg.Rd
open Tg.Js
section
variable {x : R} {c d by_ : UInt8} {r : List UInt8} {k dg : Bool}
theorem line_nil : line x [] = (x, 0) := rfl
theorem line_stop (h : feedB c = true) : line x (c :: r) = ({ x with broken := true }, 1) := by
  have : lineN (c :: r) = 0 := by simp [lineN, h]
  unfold line; rw [this]; simp
theorem line_go (h : feedB c = false) : line x (c :: r) = ((line x r).1, (line x r).2 + 1) := by
  have : lineN (c :: r) = lineN r + 1 := by simp [lineN, h]
  unfold line; rw [this]
  simp only [List.length_cons, Nat.add_lt_add_iff_right]
  split <;> rfl
theorem wordN_stop (h : inner c = false) (h2 : dg = false ∨ c ≠ 46) : wordN dg (c :: r) = 0 := by
  unfold wordN
  rw [List.takeWhile_cons, h]
  rcases h2 with rfl | h2
  · simp
  · simp [h2]
theorem wordN_go1 (h : inner c = true) : wordN dg (c :: r) = wordN dg r + 1 := by
  unfold wordN; rw [List.takeWhile_cons, h]; simp
theorem wordN_go2 : wordN true (46 :: r) = wordN true r + 1 := by
  unfold wordN; rw [List.takeWhile_cons]; simp
theorem innerN_stop (h : inner c = false) : innerN (c :: r) = 0 := by simp [innerN, h]
theorem innerN_go (h : inner c = true) : innerN (c :: r) = innerN r + 1 := by simp [innerN, h]
theorem wordN_le (dg : Bool) (r : List UInt8) : wordN dg r ≤ r.length := by
  unfold wordN; exact (List.takeWhile_sublist _).length_le
theorem quoteR_slash : quoteR by_ (92 :: d :: r) = add 2 (quoteR by_ r) := by rw [quoteR, if_pos rfl]
theorem quoteR_feed (h : c ≠ 92) (h2 : feedB c = true) : quoteR by_ (c :: r) = (0, 1) := by
  cases r <;> (unfold quoteR; rw [if_neg h, h2, if_pos rfl])
theorem quoteR_end (h : c ≠ 92) (h2 : feedB c = false) (h3 : c = by_) : quoteR by_ (c :: r) = (1, 2) := by
  cases r <;> (unfold quoteR; rw [if_neg h, h2, if_neg (by simp), if_pos h3])
theorem quoteR_go (h : c ≠ 92) (h2 : feedB c = false) (h3 : c ≠ by_) : (quoteR by_ (c :: r)).2 = (quoteR by_ r).2 ∧ ((quoteR by_ r).2 ≠ 0 → (quoteR by_ (c :: r)).1 = (quoteR by_ r).1 + 1) := by
  cases r with
  | nil => unfold quoteR; rw [if_neg h, h2, if_neg (by simp), if_neg h3]; exact ⟨rfl, fun h => absurd rfl h⟩
  | cons d r => rw [quoteR, if_neg h, h2, if_neg (by simp), if_neg h3]; exact ⟨rfl, fun _ => rfl⟩
theorem graveR_slash : graveR (92 :: d :: r) = add 2 (graveR r) := by rw [graveR, if_pos rfl]
theorem graveR_end (h : c ≠ 92) (h3 : c = 96) : graveR (c :: r) = (1, 2) := by
  cases r <;> (unfold graveR; rw [if_neg h, if_pos h3])
theorem graveR_open : graveR (36 :: 123 :: r) = (2, 3) := by rw [graveR, if_neg (by decide), if_neg (by decide), if_pos ⟨rfl, rfl⟩]
theorem graveR_go (h : c ≠ 92) (h3 : c ≠ 96) (h4 : ¬ (c = 36 ∧ r.head? = some 123)) : (graveR (c :: r)).2 = (graveR r).2 ∧ ((graveR r).2 ≠ 0 → (graveR (c :: r)).1 = (graveR r).1 + 1) := by
  cases r with
  | nil => unfold graveR; rw [if_neg h, if_neg h3]; exact ⟨rfl, fun h => absurd rfl h⟩
  | cons d r => rw [graveR, if_neg h, if_neg h3, if_neg (fun hx => h4 ⟨hx.1, by rw [hx.2]; rfl⟩)]; exact ⟨rfl, fun _ => rfl⟩
theorem patR_slash : patternR k (92 :: d :: r) = add 2 (patternR k r) := by rw [patternR, if_pos rfl]
theorem patR_feed (h : c ≠ 92) (h2 : feedB c = true) : patternR k (c :: r) = (0, 1) := by
  cases r <;> (unfold patternR; rw [if_neg h, h2, if_pos rfl])
theorem patR_end (h2 : feedB 47 = false) : patternR false (47 :: r) = (innerN r + 1, 2) := by
  cases r with
  | nil => unfold patternR; rw [if_neg (by decide), h2, if_neg (by simp), if_pos ⟨rfl, rfl⟩]; rfl
  | cons d r => rw [patternR, if_neg (by decide), h2, if_neg (by simp), if_pos ⟨rfl, rfl⟩]
def patK (k : Bool) (c : UInt8) : Bool := if c = 91 then true else if c = 93 then false else k
theorem patR_go (h : c ≠ 92) (h2 : feedB c = false) (h3 : ¬ (c = 47 ∧ k = false)) : (patternR k (c :: r)).2 = (patternR (patK k c) r).2 ∧ ((patternR (patK k c) r).2 ≠ 0 → (patternR k (c :: r)).1 = (patternR (patK k c) r).1 + 1) := by
  cases r with
  | nil => unfold patternR; rw [if_neg h, h2, if_neg (by simp), if_neg h3]; exact ⟨rfl, fun h => absurd rfl h⟩
  | cons d r =>
    rw [patternR, if_neg h, h2, if_neg (by simp), if_neg h3]
    unfold patK
    split
    · exact ⟨rfl, fun _ => rfl⟩
    split
    · exact ⟨rfl, fun _ => rfl⟩
    · exact ⟨rfl, fun _ => rfl⟩
end
end Tg.Rd
namespace Go.Proofs.YtgnefbngkhjfcaaGreatDoor.Rd
open Go.Lg Tg.Rd
open Tg.Js (w64 letter digit feedB white inner isKeyword signs)
section
variable {H : LH} {b : UInt8} {x y : R} {p a : Nat} {s : List UInt8}
theorem drop_at {i : Nat} (h : i < s.length) : s.drop i = at_ s i :: s.drop (i + 1) := by
  rw [List.drop_eq_getElem_cons h]; simp [at_, h]
theorem wr1 {i : Nat} (h : i ≤ 1048576) : IntKind.i64.wrap ((i : Int) + 1) = ((i + 1 : Nat) : Int) := by rw [wrap64_in (by omega) (by omega)]; omega
theorem wr2 {i : Nat} (h : i ≤ 1048576) : IntKind.i64.wrap ((i : Int) + 2) = ((i + 2 : Nat) : Int) := by rw [wrap64_in (by omega) (by omega)]; omega
/-- a pattern from within -/
def patX (k : Bool) (x : R) (a : Int) (r : List UInt8) : R × Option Nat :=
  if (patternR k r).2 = 2 then (x.ended 1, some (patternR k r).1) else if (patternR k r).2 = 1 then (x.fail (a + (patternR k r).1), none) else (x.stop, none)
/-- a place further on, or that it is over -/
def kv (a : Nat) (o : Option Nat) : Int := match o with | some k => ((a + k : Nat) : Int) | none => -1
theorem qx_shift {r r' : List UInt8} {n : Nat} (h1 : (quoteR b r').2 = (quoteR b r).2) (h2 : (quoteR b r).2 ≠ 0 → (quoteR b r').1 = (quoteR b r).1 + n) : kv a (quoteX x a r' b).2 = kv (a + n) (quoteX x ((a + n : Nat) : Int) r b).2 ∧ (quoteX x a r' b).1 = (quoteX x ((a + n : Nat) : Int) r b).1 := by
  unfold quoteX
  rw [h1]
  split
  · rename_i hx
    rw [h2 (by rw [hx]; simp)]
    exact ⟨by simp [kv]; omega, rfl⟩
  split
  · rename_i hx
    rw [h2 (by rw [hx]; simp)]
    exact ⟨rfl, congrArg x.fail (by omega)⟩
  · exact ⟨rfl, rfl⟩
theorem gx_shift {r r' : List UInt8} {n : Nat} (h1 : (graveR r').2 = (graveR r).2) (h2 : (graveR r).2 ≠ 0 → (graveR r').1 = (graveR r).1 + n) : kv a (graveX x a r').2 = kv (a + n) (graveX x ((a + n : Nat) : Int) r).2 ∧ (graveX x a r').1 = (graveX x ((a + n : Nat) : Int) r).1 := by
  unfold graveX
  rw [h1]
  split
  · rename_i hx
    rw [h2 (by rw [hx]; simp)]
    exact ⟨by simp [kv]; omega, rfl⟩
  split
  · rename_i hx
    rw [h2 (by rw [hx]; simp)]
    split
    · exact ⟨rfl, congrArg x.fail (by omega)⟩
    · exact ⟨by simp [kv]; omega, rfl⟩
  · exact ⟨rfl, rfl⟩
theorem px_shift {k k' : Bool} {r r' : List UInt8} {n : Nat} (h1 : (patternR k' r').2 = (patternR k r).2) (h2 : (patternR k r).2 ≠ 0 → (patternR k' r').1 = (patternR k r).1 + n) : kv a (patX k' x a r').2 = kv (a + n) (patX k x ((a + n : Nat) : Int) r).2 ∧ (patX k' x a r').1 = (patX k x ((a + n : Nat) : Int) r).1 := by
  unfold patX
  rw [h1]
  split
  · rename_i hx
    rw [h2 (by rw [hx]; simp)]
    exact ⟨by simp [kv]; omega, rfl⟩
  split
  · rename_i hx
    rw [h2 (by rw [hx]; simp)]
    exact ⟨rfl, congrArg x.fail (by omega)⟩
  · exact ⟨rfl, rfl⟩
theorem line_l (hp : p < H.n) (hs : s.length ≤ 1000000) (ha : a ≤ s.length) : LC Tryz.prog EJ 90 [ptr p 0, str s, .int .i64 a] (H.set p (rb x)) = some (.int .i64 ((a + (line x (s.drop a)).2 : Nat) : Int), H.set p (rb (line x (s.drop a)).1)) := by
  refine own rfl Tryz.func90 rfl (Nat.le_of_ble_eq_true rfl) (by decide) (by kernel_rfl) hp ?_
  obtain ⟨V, hV⟩ : ∃ V, a + (line x (s.drop a)).2 = V := ⟨_, rfl⟩
  obtain ⟨Y, hY⟩ : ∃ Y, (line x (s.drop a)).1 = Y := ⟨_, rfl⟩
  rw [hV, hY]
  simp
  refine loop_ind (fun (i : Nat) fr' H' => fr' 0 = ptr p 0 ∧ fr' 1 = str s ∧ fr' 2 = .int .i64 i ∧ i ≤ s.length ∧ i + (line x (s.drop i)).2 = V ∧ (line x (s.drop i)).1 = Y ∧ H' = H.set p (rb x)) (fun i => s.length - i) a ⟨by simp, by simp, by simp, ha, hV, hY, rfl⟩ ?_
  rintro i fr' H' ⟨h0, h1, h2, hi, hv, hy, rfl⟩ ih
  have w1 := wr1 (i := i) (by omega)
  by_cases hlt : i < s.length
  · rw [drop_at hlt] at hv hy
    cases hf : feedB (at_ s i) with
    | true =>
      rw [line_stop hf] at hv hy
      simp [h0, h1, h2, hlt, feed_l, hf, hp, w1, ← hv, ← hy]
    | false =>
      rw [line_go hf] at hv hy
      simp [h0, h1, h2, hlt, feed_l, hf, hp, w1]
      exact ih (i + 1) _ _ (by omega) ⟨by simp [h0], by simp [h1], by simp, hlt, by dsimp only at hv; omega, hy, rfl⟩
  · rw [List.drop_eq_nil_of_le (by omega), line_nil] at hv hy
    simp [h0, h1, h2, hlt, hp, ← hv, ← hy]
theorem block_l (hp : p < H.n) (hs : s.length ≤ 1000000) (ha : a ≤ s.length) : LC Tryz.prog EJ 91 [ptr p 0, str s, .int .i64 a] (H.set p (rb x)) = some (.int .i64 (kv a (blockR (s.drop a) x.broken).2), H.set p (rb (if (blockR (s.drop a) x.broken).2 = none then ({ x with broken := (blockR (s.drop a) x.broken).1 } : R).stop else { x with broken := (blockR (s.drop a) x.broken).1 }))) := by
  refine own rfl Tryz.func91 rfl (Nat.le_of_ble_eq_true rfl) (by decide) (by kernel_rfl) hp ?_
  obtain ⟨V, hV⟩ : ∃ V, kv a (blockR (s.drop a) x.broken).2 = V := ⟨_, rfl⟩
  obtain ⟨Y, hY⟩ : ∃ Y, (if (blockR (s.drop a) x.broken).2 = none then ({ x with broken := (blockR (s.drop a) x.broken).1 } : R).stop else { x with broken := (blockR (s.drop a) x.broken).1 }) = Y := ⟨_, rfl⟩
  rw [hV, hY]
  simp
  refine loop_ind (fun (ik : Nat × Bool) fr' H' => fr' 0 = ptr p 0 ∧ fr' 1 = str s ∧ fr' 2 = .int .i64 ik.1 ∧ ik.1 ≤ s.length ∧ kv ik.1 (blockR (s.drop ik.1) ik.2).2 = V ∧ (if (blockR (s.drop ik.1) ik.2).2 = none then ({ x with broken := (blockR (s.drop ik.1) ik.2).1 } : R).stop else { x with broken := (blockR (s.drop ik.1) ik.2).1 }) = Y ∧ H' = H.set p (rb { x with broken := ik.2 })) (fun ik => s.length - ik.1) (a, x.broken) ⟨by simp, by simp, by simp, ha, hV, hY, rfl⟩ ?_
  rintro ⟨i, k⟩ fr' H' ⟨h0, h1, h2, hi, hv, hy, rfl⟩ ih
  dsimp only at h0 h1 h2 hi hv hy ih ⊢
  have w1 := wr1 (i := i) (by omega)
  have w2 := wr2 (i := i) (by omega)
  by_cases hlt : i < s.length
  · rw [drop_at hlt] at hv hy
    by_cases h42 : at_ s i = 42 ∧ (s.drop (i + 1)).head? = some 47
    · rw [blockR, if_pos h42] at hv hy
      have h1lt : i + 1 < s.length := by
        refine Classical.byContradiction (fun hn => ?_)
        rw [List.drop_eq_nil_of_le (by omega)] at h42
        cases h42.2
      rw [drop_at h1lt] at h42
      have f1 := eq_true h42.1
      have f2 : (at_ s ((i : Int) + 1) = 47) = True := eq_true (by have := h42.2; simpa using this)
      have hl1 : ((i : Int) + 1 < (s.length : Int)) = True := eq_true (by omega)
      have hn1 : (0 ≤ (i : Int) + 1) = True := eq_true (by omega)
      simp [h0, h1, h2, hlt, hp, w1, w2, f1, f2, hl1, hn1, ← hv, ← hy, kv]
    · rw [blockR, if_neg h42] at hv hy
      have hv' : kv (i + 1) (blockR (s.drop (i + 1)) (k || feedB (at_ s i))).2 = V := by
        rw [← hv]
        cases (blockR (s.drop (i + 1)) (k || feedB (at_ s i))).2 <;> simp [kv]; omega
      have hy' : (if (blockR (s.drop (i + 1)) (k || feedB (at_ s i))).2 = none then ({ x with broken := (blockR (s.drop (i + 1)) (k || feedB (at_ s i))).1 } : R).stop else { x with broken := (blockR (s.drop (i + 1)) (k || feedB (at_ s i))).1 }) = Y := by
        rw [← hy]
        cases (blockR (s.drop (i + 1)) (k || feedB (at_ s i))).2 <;> simp
      have en : ∀ fr'' : Fr, fr'' 0 = ptr p 0 → fr'' 1 = str s → fr'' 2 = .int .i64 ((i : Int) + 1) → fr'' 0 = ptr p 0 ∧ fr'' 1 = str s ∧ fr'' 2 = .int .i64 ((i + 1 : Nat) : Int) ∧ i + 1 ≤ s.length ∧ kv (i + 1) (blockR (s.drop (i + 1)) (k || feedB (at_ s i))).2 = V ∧ (if (blockR (s.drop (i + 1)) (k || feedB (at_ s i))).2 = none then ({ x with broken := (blockR (s.drop (i + 1)) (k || feedB (at_ s i))).1 } : R).stop else { x with broken := (blockR (s.drop (i + 1)) (k || feedB (at_ s i))).1 }) = Y ∧ H.set p (rb { x with broken := k || feedB (at_ s i) }) = H.set p (rb { x with broken := k || feedB (at_ s i) }) :=
        fun fr'' q0 q1 q2 => ⟨q0, q1, by rw [q2]; rfl, hlt, hv', hy', rfl⟩
      have ms : s.length - (i + 1) < s.length - i := by omega
      by_cases h1lt : i + 1 < s.length
      · have hl1 : ((i : Int) + 1 < (s.length : Int)) = True := eq_true (by omega)
        have hn1 : (0 ≤ (i : Int) + 1) = True := eq_true (by omega)
        by_cases c42 : at_ s i = 42
        · have f1 := eq_true c42
          have f2 : (at_ s ((i : Int) + 1) = 47) = False := eq_false (fun e => h42 ⟨c42, by rw [drop_at h1lt]; simpa using e⟩)
          cases k <;> simp [h0, h1, h2, hlt, hp, w1, w2, f1, f2, hl1, hn1, feed_l] <;> exact ih (i + 1, _) _ _ ms (en _ (by simp [h0]) (by simp [h1]) (by simp))
        · have f1 := eq_false c42
          cases k <;> simp [h0, h1, h2, hlt, hp, w1, w2, f1, hl1, hn1, feed_l] <;> exact ih (i + 1, _) _ _ ms (en _ (by simp [h0]) (by simp [h1]) (by simp))
      · have hl1 : ((i : Int) + 1 < (s.length : Int)) = False := eq_false (by omega)
        cases k <;> simp [h0, h1, h2, hlt, hp, w1, w2, hl1, feed_l] <;> exact ih (i + 1, _) _ _ ms (en _ (by simp [h0]) (by simp [h1]) (by simp))
  · rw [List.drop_eq_nil_of_le (by omega), blockR] at hv hy
    simp [h0, h1, h2, hlt, hp, stop_l, ← hv, ← hy, kv]
theorem quoteP (hp : p < H.n) (hs : s.length ≤ 1000000) (ha : a ≤ s.length) : LC Tryz.prog EJ 56 [ptr p 0, str s, .int .i64 a, .int .u8 b.toNat] (H.set p (rb x)) = some (.int .i64 (kv a (quoteX x a (s.drop a) b).2), H.set p (rb (quoteX x a (s.drop a) b).1)) := by
  refine own rfl Tryz.func56 rfl (Nat.le_of_ble_eq_true rfl) (by decide) (by kernel_rfl) hp ?_
  obtain ⟨V, hV⟩ : ∃ V, kv a (quoteX x a (s.drop a) b).2 = V := ⟨_, rfl⟩
  obtain ⟨Y, hY⟩ : ∃ Y, (quoteX x a (s.drop a) b).1 = Y := ⟨_, rfl⟩
  rw [hV, hY]
  simp
  refine loop_ind (fun (i : Nat) fr' H' => fr' 0 = ptr p 0 ∧ fr' 1 = str s ∧ fr' 2 = .int .i64 i ∧ fr' 3 = .int .u8 b.toNat ∧ i ≤ s.length + 1 ∧ kv i (quoteX x i (s.drop i) b).2 = V ∧ (quoteX x i (s.drop i) b).1 = Y ∧ H' = H.set p (rb x)) (fun i => s.length + 1 - i) a ⟨by simp, by simp, by simp, by simp, by omega, hV, hY, rfl⟩ ?_
  rintro i fr' H' ⟨h0, h1, h2, h3, hi, hv, hy, rfl⟩ ih
  have w1 := wr1 (i := i) (by omega)
  have w11 : IntKind.i64.wrap ((i : Int) + 1 + 1) = ((i + 2 : Nat) : Int) := by rw [wrap64_in (by omega) (by omega)]; omega
  by_cases hlt : i < s.length
  · rw [drop_at hlt] at hv hy
    by_cases c1 : at_ s i = 92
    · have f1 := eq_true c1
      simp [h0, h1, h2, h3, hlt, hp, w1, w11, f1]
      have hsh : kv i (quoteX x i (at_ s i :: s.drop (i + 1)) b).2 = kv (i + 2) (quoteX x ((i + 2 : Nat) : Int) (s.drop (i + 2)) b).2 ∧ (quoteX x i (at_ s i :: s.drop (i + 1)) b).1 = (quoteX x ((i + 2 : Nat) : Int) (s.drop (i + 2)) b).1 := by
        rw [c1]
        by_cases h1lt : i + 1 < s.length
        · rw [drop_at h1lt]
          exact qx_shift (by rw [quoteR_slash]; rfl) (fun _ => by rw [quoteR_slash]; rfl)
        · rw [List.drop_eq_nil_of_le (show s.length ≤ i + 1 by omega), List.drop_eq_nil_of_le (show s.length ≤ i + 2 by omega)]
          exact qx_shift rfl (fun h => absurd rfl h)
      exact ih (i + 2) _ _ (by omega) ⟨by simp [h0], by simp [h1], by simp, by simp [h3], by omega, hsh.1 ▸ hv, hsh.2 ▸ hy, rfl⟩
    · have f1 := eq_false c1
      cases hf : feedB (at_ s i) with
      | true =>
        unfold quoteX at hv hy
        rw [quoteR_feed c1 hf] at hv hy
        simp [h0, h1, h2, h3, hlt, hp, w1, f1, feed_l, hf, fail_l, ← hv, ← hy, kv]
      | false =>
        by_cases c2 : at_ s i = b
        · have f2 := eq_true c2
          unfold quoteX at hv hy
          rw [quoteR_end c1 hf c2] at hv hy
          simp [h0, h1, h2, h3, hlt, hp, w1, f1, feed_l, hf, f2, ended_l, ← hv, ← hy, kv]
        · have f2 := eq_false c2
          simp [h0, h1, h2, h3, hlt, hp, w1, f1, feed_l, hf, f2]
          obtain ⟨g1, g2⟩ := quoteR_go (r := s.drop (i + 1)) c1 hf c2
          have hsh := qx_shift (a := i) (x := x) g1 g2
          exact ih (i + 1) _ _ (by omega) ⟨by simp [h0], by simp [h1], by simp, by simp [h3], by omega, hsh.1 ▸ hv, hsh.2 ▸ hy, rfl⟩
  · rw [List.drop_eq_nil_of_le (by omega)] at hv hy
    simp [h0, h1, h2, hlt, hp, stop_l, ← hv, ← hy, kv, quoteX, quoteR]
set_option maxHeartbeats 1000000 in
theorem graveP (ho : x.opn.length ≤ 1000) (hp : p < H.n) (hs : s.length ≤ 1000000) (ha : a ≤ s.length) : LC Tryz.prog EJ 57 [ptr p 0, str s, .int .i64 a] (H.set p (rb x)) = some (.int .i64 (kv a (graveX x a (s.drop a)).2), H.set p (rb (graveX x a (s.drop a)).1)) := by
  refine own rfl Tryz.func57 rfl (Nat.le_of_ble_eq_true rfl) (by decide) (by kernel_rfl) hp ?_
  obtain ⟨V, hV⟩ : ∃ V, kv a (graveX x a (s.drop a)).2 = V := ⟨_, rfl⟩
  obtain ⟨Y, hY⟩ : ∃ Y, (graveX x a (s.drop a)).1 = Y := ⟨_, rfl⟩
  rw [hV, hY]
  simp
  refine loop_ind (fun (i : Nat) fr' H' => fr' 0 = ptr p 0 ∧ fr' 1 = str s ∧ fr' 2 = .int .i64 i ∧ i ≤ s.length + 1 ∧ kv i (graveX x i (s.drop i)).2 = V ∧ (graveX x i (s.drop i)).1 = Y ∧ H' = H.set p (rb x)) (fun i => s.length + 1 - i) a ⟨by simp, by simp, by simp, by omega, hV, hY, rfl⟩ ?_
  rintro i fr' H' ⟨h0, h1, h2, hi, hv, hy, rfl⟩ ih
  have w1 := wr1 (i := i) (by omega)
  have w2 := wr2 (i := i) (by omega)
  have w11 : IntKind.i64.wrap ((i : Int) + 1 + 1) = ((i + 2 : Nat) : Int) := by rw [wrap64_in (by omega) (by omega)]; omega
  by_cases hlt : i < s.length
  · rw [drop_at hlt] at hv hy
    by_cases c1 : at_ s i = 92
    · have f1 := eq_true c1
      simp [h0, h1, h2, hlt, hp, w1, w11, f1]
      have hsh : kv i (graveX x i (at_ s i :: s.drop (i + 1))).2 = kv (i + 2) (graveX x ((i + 2 : Nat) : Int) (s.drop (i + 2))).2 ∧ (graveX x i (at_ s i :: s.drop (i + 1))).1 = (graveX x ((i + 2 : Nat) : Int) (s.drop (i + 2))).1 := by
        rw [c1]
        by_cases h1lt : i + 1 < s.length
        · rw [drop_at h1lt]
          exact gx_shift (by rw [graveR_slash]; rfl) (fun _ => by rw [graveR_slash]; rfl)
        · rw [List.drop_eq_nil_of_le (show s.length ≤ i + 1 by omega), List.drop_eq_nil_of_le (show s.length ≤ i + 2 by omega)]
          exact gx_shift rfl (fun h => absurd rfl h)
      exact ih (i + 2) _ _ (by omega) ⟨by simp [h0], by simp [h1], by simp, by omega, hsh.1 ▸ hv, hsh.2 ▸ hy, rfl⟩
    · have f1 := eq_false c1
      by_cases c2 : at_ s i = 96
      · have f2 := eq_true c2
        unfold graveX at hv hy
        rw [graveR_end c1 c2] at hv hy
        simp [h0, h1, h2, hlt, hp, w1, f1, f2, ended_l, ← hv, ← hy, kv]
      · have f2 := eq_false c2
        have go : ¬ (at_ s i = 36 ∧ (s.drop (i + 1)).head? = some 123) → kv (i + 1) (graveX x ((i + 1 : Nat) : Int) (s.drop (i + 1))).2 = V ∧ (graveX x ((i + 1 : Nat) : Int) (s.drop (i + 1))).1 = Y := fun hx => by
          obtain ⟨g1, g2⟩ := graveR_go (r := s.drop (i + 1)) c1 c2 hx
          have hsh := gx_shift (a := i) (x := x) g1 g2
          exact ⟨hsh.1 ▸ hv, hsh.2 ▸ hy⟩
        by_cases h1lt : i + 1 < s.length
        · have hl1 : ((i : Int) + 1 < (s.length : Int)) = True := eq_true (by omega)
          have hn1 : (0 ≤ (i : Int) + 1) = True := eq_true (by omega)
          by_cases c3 : at_ s i = 36
          · have f3 := eq_true c3
            by_cases c4 : at_ s ((i : Int) + 1) = 123
            · have f4 := eq_true c4
              have c4' : at_ s ((i + 1 : Nat) : Int) = 123 := c4
              rw [c3, drop_at h1lt, c4'] at hv hy
              unfold graveX at hv hy
              rw [graveR_open] at hv hy
              by_cases c5 : (x.opn.length : Int) = x.depth
              · have f5 := eq_true c5
                rw [if_neg (by decide), if_pos rfl, if_pos c5] at hv hy
                have e : (i : Int) + ((2 : Nat) : Int) - 1 = (i : Int) + 1 := by omega
                simp [h0, h1, h2, hlt, hp, w1, w2, f1, f2, f3, f4, f5, hl1, hn1, fail_l, ← hv, ← hy, kv]
                try exact congrArg (fun z => H.set p (rb (x.fail z))) (by omega)
              · have f5 := eq_false c5
                rw [if_neg (by decide), if_pos rfl, if_neg c5] at hv hy
                simp [h0, h1, h2, hlt, hp, w1, w2, f1, f2, f3, f4, f5, hl1, hn1, ended_l, (show x.opn.length ≤ 9223372036854775806 by omega), ← hv, ← hy, kv]
            · have f4 := eq_false c4
              obtain ⟨g1, g2⟩ := go (fun hx => by have := hx.2; rw [drop_at h1lt] at this; exact c4 (by simpa using this))
              simp [h0, h1, h2, hlt, hp, w1, w2, f1, f2, f3, f4, hl1, hn1]
              exact ih (i + 1) _ _ (by omega) ⟨by simp [h0], by simp [h1], by simp, by omega, g1, g2, rfl⟩
          · have f3 := eq_false c3
            obtain ⟨g1, g2⟩ := go (fun hx => c3 hx.1)
            simp [h0, h1, h2, hlt, hp, w1, w2, f1, f2, f3, hl1, hn1]
            exact ih (i + 1) _ _ (by omega) ⟨by simp [h0], by simp [h1], by simp, by omega, g1, g2, rfl⟩
        · have hl1 : ((i : Int) + 1 < (s.length : Int)) = False := eq_false (by omega)
          obtain ⟨g1, g2⟩ := go (fun hx => by have := hx.2; rw [List.drop_eq_nil_of_le (by omega)] at this; cases this)
          by_cases c3 : at_ s i = 36
          · have f3 := eq_true c3
            simp [h0, h1, h2, hlt, hp, w1, w2, f1, f2, f3, hl1]
            exact ih (i + 1) _ _ (by omega) ⟨by simp [h0], by simp [h1], by simp, by omega, g1, g2, rfl⟩
          · have f3 := eq_false c3
            simp [h0, h1, h2, hlt, hp, w1, w2, f1, f2, f3, hl1]
            exact ih (i + 1) _ _ (by omega) ⟨by simp [h0], by simp [h1], by simp, by omega, g1, g2, rfl⟩
  · rw [List.drop_eq_nil_of_le (by omega)] at hv hy
    simp [h0, h1, h2, hlt, hp, stop_l, ← hv, ← hy, kv, graveX, graveR]
end
end Go.Proofs.YtgnefbngkhjfcaaGreatDoor.Rd
/-
  The reference of layer 28: words, patterns, what begins with a slash, a less sign.
-/
set_option linter.unusedSimpArgs false
set_option linter.unusedVariables false
set_option maxRecDepth 100000
namespace Go.Proofs.YtgnefbngkhjfcaaGreatDoor.Rd
open Go.Lg Tg.Rd
open Tg.Js (w64 letter digit feedB white inner isKeyword signs)
section
variable {H : LH} {b : UInt8} {x y : R} {p a : Nat} {s : List UInt8}
theorem sub_take {i j : Nat} (h : i ≤ j) : sub s (i : Int) (j : Int) = (s.drop i).take (j - i) := by
  unfold sub
  rw [show ((i : Int)).toNat = i by omega, show ((j : Int)).toNat = j by omega, List.drop_take]
set_option maxHeartbeats 1000000 in
theorem wordP (hd : ∀ l, H.n ≤ l → H.get l = none) (hp : p < H.n) (hs : s.length ≤ 1000000) (ha : a < s.length) : LC Tryz.prog EJ 53 [ptr p 0, str s, .int .i64 a] (H.set p (rb x)) = some (.int .i64 (kv a (wordX x a (s.drop a)).2), H.set p (rb (wordX x a (s.drop a)).1)) := by
  refine own rfl Tryz.func53 rfl (Nat.le_of_ble_eq_true rfl) (by decide) (by kernel_rfl) hp ?_
  unfold wordX
  cases hj : x.joined with
  | true =>
    simp [hp, joined_l, hj, fail_l, kv]
  | false =>
    have hh : (s.drop a).headD 0 = at_ s a := by rw [drop_at ha]; rfl
    rw [hh]
    obtain ⟨N, hN⟩ : ∃ N, wordN (digit (at_ s a)) (s.drop a) = N := ⟨_, rfl⟩
    rw [hN]
    have hNl : a + N ≤ s.length := by
      have := wordN_le (digit (at_ s a)) (s.drop a)
      rw [hN] at this; simp at this; omega
    have hpc : rb { x with pieces := IntKind.i64.wrap (x.pieces + 1) } = rb x.piece := rfl
    simp [hp, joined_l, hj, hpc]
    refine loop_ind (fun (i : Nat) fr' H' => fr' 0 = ptr p 0 ∧ fr' 1 = str s ∧ fr' 2 = .int .i64 a ∧ fr' 7 = .int .i64 i ∧ i ≤ s.length ∧ a ≤ i ∧ i + wordN (digit (at_ s a)) (s.drop i) = a + N ∧ H' = H.set p (rb x.piece)) (fun i => s.length - i) a ⟨by simp, by simp, by simp, by simp, by omega, by omega, by omega, rfl⟩ ?_
    rintro i fr' H' ⟨h0, h1, h2, h7, hi, hai, hn, rfl⟩ ih
    have w1 := wr1 (i := i) (by omega)
    have fin : wordN (digit (at_ s a)) (s.drop i) = 0 → i = a + N := fun h => by omega
    have hkw := fun (u : List UInt8) => Go.Proofs.YtgnefbngkhjfcaaGreatDoor.refKeyword_l (H := H.set p (rb x.piece)) (s := u) (fun l hl => by
      have hl' : H.n ≤ l := hl
      rw [get_set_ne (by omega)]; exact hd l hl')
    have fn : i = a + N → ∀ {P' : Prop}, (∀ u, u = (s.drop a).take N → sub s (a : Int) (i : Int) = u → P') → P' := fun e P' h => h _ rfl (by rw [sub_take hai, e]; congr 1; omega)
    have hai' : ((a : Int) ≤ (i : Int)) = True := eq_true (by omega)
    have hi' : ((i : Int) ≤ (s.length : Int)) = True := eq_true (by omega)
    have ha' : ((a : Int) < (s.length : Int)) = True := eq_true (by omega)
    by_cases hlt : i < s.length
    · rw [drop_at hlt] at hn fin
      cases hin : inner (at_ s i) with
      | true =>
        rw [wordN_go1 hin] at hn
        simp [h0, h1, h2, h7, hlt, inner_l, hin, w1]
        exact ih (i + 1) _ _ (by omega) ⟨by simp [h0], by simp [h1], by simp [h2], by simp, by omega, by omega, by omega, rfl⟩
      | false =>
        by_cases hc : digit (at_ s a) = true ∧ at_ s i = 46
        · obtain ⟨c1, c2⟩ := hc
          have f2 := eq_true c2
          rw [c1, c2, wordN_go2, ← c1] at hn
          simp [h0, h1, h2, h7, hlt, inner_l, hin, w1, Digit_l, c1, f2, ha']
          exact ih (i + 1) _ _ (by omega) ⟨by simp [h0], by simp [h1], by simp [h2], by simp, by omega, by omega, by omega, rfl⟩
        · have hz : wordN (digit (at_ s a)) (at_ s i :: s.drop (i + 1)) = 0 := wordN_stop hin (by
            cases hdg : digit (at_ s a) with
            | false => exact .inl rfl
            | true => exact .inr (fun e => hc ⟨hdg, e⟩))
          have he := fin hz
          refine fn he (fun u hu hsu => ?_)
          rw [← hu]
          have hk := hkw u
          cases hdg : digit (at_ s a) with
          | false =>
            cases hq : isKeyword u <;> simp [h0, h1, h2, h7, hlt, inner_l, hin, w1, Digit_l, hdg, ha', hsu, hai', hi', hk, hq, hp, ended_l, kv]
            all_goals omega
          | true =>
            have f2 := eq_false (fun e => hc ⟨hdg, e⟩)
            cases hq : isKeyword u <;> simp [h0, h1, h2, h7, hlt, inner_l, hin, w1, Digit_l, hdg, f2, ha', hsu, hai', hi', hk, hq, hp, ended_l, kv]
            all_goals omega
    · have hz : wordN (digit (at_ s a)) (s.drop i) = 0 := by rw [List.drop_eq_nil_of_le (by omega)]; rfl
      have he := fin hz
      refine fn he (fun u hu hsu => ?_)
      rw [← hu]
      have hk := hkw u
      cases hq : isKeyword u <;> simp [h0, h1, h2, h7, hlt, hsu, hai', hi', hk, hq, hp, ended_l, kv]
      all_goals omega
end
end Go.Proofs.YtgnefbngkhjfcaaGreatDoor.Rd
/-
  The reference of layer 28: patterns, what begins with a slash, a less sign.
-/
set_option linter.unusedSimpArgs false
set_option linter.unusedVariables false
set_option maxRecDepth 100000
namespace Go.Proofs.YtgnefbngkhjfcaaGreatDoor.Rd
open Go.Lg Tg.Rd
open Tg.Js (w64 letter digit feedB white inner isKeyword signs)
section
variable {H : LH} {b : UInt8} {x y : R} {p a : Nat} {s : List UInt8}
theorem innerN_le (r : List UInt8) : innerN r ≤ r.length := by
  unfold innerN; exact (List.takeWhile_sublist _).length_le
set_option maxHeartbeats 1000000 in
theorem patternP (hp : p < H.n) (hs : s.length ≤ 1000000) (ha : a ≤ s.length) : LC Tryz.prog EJ 92 [ptr p 0, str s, .int .i64 a] (H.set p (rb x)) = some (.int .i64 (kv a (patternX x a (s.drop a)).2), H.set p (rb (patternX x a (s.drop a)).1)) := by
  refine own rfl Tryz.func92 rfl (Nat.le_of_ble_eq_true rfl) (by decide) (by kernel_rfl) hp ?_
  rw [show patternX x a (s.drop a) = patX false x a (s.drop a) from rfl]
  obtain ⟨V, hV⟩ : ∃ V, kv a (patX false x a (s.drop a)).2 = V := ⟨_, rfl⟩
  obtain ⟨Y, hY⟩ : ∃ Y, (patX false x a (s.drop a)).1 = Y := ⟨_, rfl⟩
  rw [hV, hY]
  simp
  refine loop_ind (fun (ik : Nat × Bool) fr' H' => fr' 0 = ptr p 0 ∧ fr' 1 = str s ∧ fr' 2 = .int .i64 ik.1 ∧ fr' 7 = .bool ik.2 ∧ ik.1 ≤ s.length + 1 ∧ kv ik.1 (patX ik.2 x ik.1 (s.drop ik.1)).2 = V ∧ (patX ik.2 x ik.1 (s.drop ik.1)).1 = Y ∧ H' = H.set p (rb x)) (fun ik => s.length + 1 - ik.1) (a, false) ⟨by simp, by simp, by simp, by simp, by omega, hV, hY, rfl⟩ ?_
  rintro ⟨i, k⟩ fr' H' ⟨h0, h1, h2, h7, hi, hv, hy, rfl⟩ ih
  dsimp only at h0 h1 h2 h7 hi hv hy ih ⊢
  have w1 := wr1 (i := i) (by omega)
  have w11 : IntKind.i64.wrap ((i : Int) + 1 + 1) = ((i + 2 : Nat) : Int) := by rw [wrap64_in (by omega) (by omega)]; omega
  have en : ∀ (n : Nat) (k' : Bool) (fr'' : Fr), fr'' 0 = ptr p 0 → fr'' 1 = str s → fr'' 2 = .int .i64 ((i + n : Nat) : Int) → fr'' 7 = .bool k' → i + n ≤ s.length + 1 → (patternR k (s.drop i)).2 = (patternR k' (s.drop (i + n))).2 → ((patternR k' (s.drop (i + n))).2 ≠ 0 → (patternR k (s.drop i)).1 = (patternR k' (s.drop (i + n))).1 + n) →
      fr'' 0 = ptr p 0 ∧ fr'' 1 = str s ∧ fr'' 2 = .int .i64 ((i + n : Nat) : Int) ∧ fr'' 7 = .bool k' ∧ i + n ≤ s.length + 1 ∧ kv (i + n) (patX k' x ((i + n : Nat) : Int) (s.drop (i + n))).2 = V ∧ (patX k' x ((i + n : Nat) : Int) (s.drop (i + n))).1 = Y ∧ H.set p (rb x) = H.set p (rb x) :=
    fun n k' fr'' q0 q1 q2 q7 q8 g1 g2 => by
      have hsh := px_shift (a := i) (x := x) g1 g2
      exact ⟨q0, q1, q2, q7, q8, hsh.1 ▸ hv, hsh.2 ▸ hy, rfl⟩
  by_cases hlt : i < s.length
  · have hda := drop_at hlt
    by_cases c1 : at_ s i = 92
    · have f1 := eq_true c1
      simp [h0, h1, h2, hlt, hp, w1, w11, f1]
      refine ih (i + 2, k) _ _ (by show s.length + 1 - (i + 2) < s.length + 1 - i; omega) (en 2 k _ (by simp [h0]) (by simp [h1]) (by simp) (by simp [h7]) (by omega) ?_ ?_)
      · rw [hda, c1]
        by_cases h1lt : i + 1 < s.length
        · rw [drop_at h1lt, patR_slash]; rfl
        · rw [List.drop_eq_nil_of_le (show s.length ≤ i + 1 by omega), List.drop_eq_nil_of_le (show s.length ≤ i + 2 by omega)]; rfl
      · rw [hda, c1]
        by_cases h1lt : i + 1 < s.length
        · rw [drop_at h1lt, patR_slash]; exact fun _ => rfl
        · rw [List.drop_eq_nil_of_le (show s.length ≤ i + 1 by omega), List.drop_eq_nil_of_le (show s.length ≤ i + 2 by omega)]; exact fun h => absurd rfl h
    · have f1 := eq_false c1
      cases hf : feedB (at_ s i) with
      | true =>
        rw [hda] at hv hy
        unfold patX at hv hy
        rw [patR_feed c1 hf] at hv hy
        simp [h0, h1, h2, hlt, hp, w1, f1, feed_l, hf, fail_l, ← hv, ← hy, kv]
      | false =>
        by_cases c2 : at_ s i = 47 ∧ k = false
        · obtain ⟨c2, rfl⟩ := c2
          have f2 := eq_true c2
          rw [hda, c2] at hv hy
          unfold patX at hv hy
          rw [patR_end (by decide)] at hv hy
          rw [if_pos rfl] at hv hy
          simp [h0, h1, h2, h7, hlt, hp, w1, f1, feed_l, hf, f2]
          have hle := innerN_le (s.drop (i + 1))
          simp only [List.length_drop] at hle
          refine loop_ind (fun (j : Nat) fr' H' => fr' 0 = ptr p 0 ∧ fr' 1 = str s ∧ fr' 2 = .int .i64 j ∧ j ≤ s.length ∧ j + innerN (s.drop j) = i + 1 + innerN (s.drop (i + 1)) ∧ H' = H.set p (rb x)) (fun j => s.length - j) (i + 1) ⟨by simp [h0], by simp [h1], by simp, by omega, by omega, rfl⟩ ?_
          rintro j fr2 H' ⟨g0, g1, g2, hj, hjn, rfl⟩ ih2
          have w1' := wr1 (i := j) (by omega)
          have done : innerN (s.drop j) = 0 → V = ((j : Nat) : Int) := fun h => by rw [← hv]; simp [kv]; omega
          by_cases hjl : j < s.length
          · rw [drop_at hjl] at hjn done
            cases hin : inner (at_ s j) with
            | true =>
              rw [innerN_go hin] at hjn
              simp [g0, g1, g2, hjl, inner_l, hin, w1']
              exact ih2 (j + 1) _ _ (by omega) ⟨by simp [g0], by simp [g1], by simp, by omega, by omega, rfl⟩
            | false =>
              have hd := done (innerN_stop hin)
              simp [g0, g1, g2, hjl, inner_l, hin, hp, ended_l, hd, ← hy]
          · have hd := done (by rw [List.drop_eq_nil_of_le (by omega)]; rfl)
            simp [g0, g1, g2, hjl, hp, ended_l, hd, ← hy]
        · obtain ⟨g1, g2⟩ := patR_go (r := s.drop (i + 1)) c1 hf c2
          rw [← hda] at g1 g2
          by_cases c4 : at_ s i = 47
          · have hk : k = true := by cases k; exact absurd ⟨c4, rfl⟩ c2; rfl
            subst hk
            have f2 := eq_true c4
            have f3 : (at_ s i = 91) = False := eq_false (by rw [c4]; decide)
            have f4 : (at_ s i = 93) = False := eq_false (by rw [c4]; decide)
            have hk2 : patK true (at_ s i) = true := by rw [c4]; rfl
            rw [hk2] at g1 g2
            simp [h0, h1, h2, h7, hlt, hp, w1, f1, feed_l, hf, f2, f3, f4]
            exact ih (i + 1, true) _ _ (by show s.length + 1 - (i + 1) < s.length + 1 - i; omega) (en 1 true _ (by simp [h0]) (by simp [h1]) (by simp) (by simp [h7]) (by omega) g1 g2)
          · have f2 := eq_false c4
            by_cases c5 : at_ s i = 91
            · have f3 := eq_true c5
              have hk2 : patK k (at_ s i) = true := by rw [c5]; rfl
              rw [hk2] at g1 g2
              simp [h0, h1, h2, h7, hlt, hp, w1, f1, feed_l, hf, f2, f3]
              exact ih (i + 1, true) _ _ (by show s.length + 1 - (i + 1) < s.length + 1 - i; omega) (en 1 true _ (by simp [h0]) (by simp [h1]) (by simp) (by simp) (by omega) g1 g2)
            · have f3 := eq_false c5
              by_cases c6 : at_ s i = 93
              · have f4 := eq_true c6
                have hk2 : patK k (at_ s i) = false := by rw [c6]; rfl
                rw [hk2] at g1 g2
                simp [h0, h1, h2, h7, hlt, hp, w1, f1, feed_l, hf, f2, f3, f4]
                exact ih (i + 1, false) _ _ (by show s.length + 1 - (i + 1) < s.length + 1 - i; omega) (en 1 false _ (by simp [h0]) (by simp [h1]) (by simp) (by simp) (by omega) g1 g2)
              · have f4 := eq_false c6
                have hk2 : patK k (at_ s i) = k := by unfold patK; rw [if_neg c5, if_neg c6]
                rw [hk2] at g1 g2
                simp [h0, h1, h2, h7, hlt, hp, w1, f1, feed_l, hf, f2, f3, f4]
                exact ih (i + 1, k) _ _ (by show s.length + 1 - (i + 1) < s.length + 1 - i; omega) (en 1 k _ (by simp [h0]) (by simp [h1]) (by simp) (by simp [h7]) (by omega) g1 g2)
  · rw [List.drop_eq_nil_of_le (by omega)] at hv hy
    simp [h0, h1, h2, hlt, hp, stop_l, ← hv, ← hy, kv, patX, patternR]
end
end Go.Proofs.YtgnefbngkhjfcaaGreatDoor.Rd
/-
  The reference of layer 28: what begins with a slash, a less sign; signs.
-/
set_option linter.unusedSimpArgs false
set_option linter.unusedVariables false
set_option maxRecDepth 100000
namespace Go.Proofs.YtgnefbngkhjfcaaGreatDoor.Rd
open Go.Lg Tg.Rd
open Tg.Js (w64 letter digit feedB white inner isKeyword signs)
section
variable {H : LH} {b : UInt8} {x y : R} {p a : Nat} {s : List UInt8}
theorem wr3 {i : Nat} (h : i ≤ 1048576) : IntKind.i64.wrap ((i : Int) + 3) = ((i + 3 : Nat) : Int) := by rw [wrap64_in (by omega) (by omega)]; omega
theorem wr4 {i : Nat} (h : i ≤ 1048576) : IntKind.i64.wrap ((i : Int) + 4) = ((i + 4 : Nat) : Int) := by rw [wrap64_in (by omega) (by omega)]; omega
theorem kv_map {o : Option Nat} {n : Nat} : kv a (o.map (· + n)) = kv (a + n) o := by
  cases o <;> simp [kv]; omega
theorem piece_eq : rb { x with pieces := IntKind.i64.wrap (x.pieces + 1) } = rb x.piece := rfl
theorem slashP (hp : p < H.n) (hs : s.length ≤ 1000000) (ha : a < s.length) (h47 : at_ s a = 47) : LC Tryz.prog EJ 58 [ptr p 0, str s, .int .i64 a] (H.set p (rb x)) = some (.int .i64 (kv a (slashX x a (s.drop a)).2), H.set p (rb (slashX x a (s.drop a)).1)) := by
  refine own rfl Tryz.func58 rfl (Nat.le_of_ble_eq_true rfl) (by decide) (by kernel_rfl) hp ?_
  have w1 := wr1 (i := a) (by omega)
  have w2 := wr2 (i := a) (by omega)
  rw [drop_at ha]
  by_cases h1lt : a + 1 < s.length
  · have hne : ((a : Int) + 1 = (s.length : Int)) = False := eq_false (by omega)
    have hl1 : ((a : Int) + 1 < (s.length : Int)) = True := eq_true (by omega)
    have hn1 : (0 ≤ (a : Int) + 1) = True := eq_true (by omega)
    rw [drop_at h1lt]
    have hc : at_ s ((a + 1 : Nat) : Int) = at_ s ((a : Int) + 1) := rfl
    rw [hc]
    unfold slashX
    dsimp only
    by_cases c1 : at_ s ((a : Int) + 1) = 47
    · have f1 := eq_true c1
      rw [if_pos c1]
      have hl := line_l (x := x) (s := s) (a := a + 2) hp hs (by omega)
      rw [show a + 1 + 1 = a + 2 by omega]
      simp [hp, w1, w2, hne, hl1, hn1, f1] at hl ⊢
      simp [hl, kv]; omega
    rw [if_neg c1]
    have f1 := eq_false c1
    by_cases c2 : at_ s ((a : Int) + 1) = 42
    · have f2 := eq_true c2
      rw [if_pos c2]
      have hl := block_l (x := x) (s := s) (a := a + 2) hp hs (by omega)
      have ka : ∀ o, kv a (o.map (· + 2)) = kv (a + 2) o := fun o => kv_map
      rw [show a + 1 + 1 = a + 2 by omega]
      cases hb : blockR (s.drop (a + 2)) x.broken with
      | mk k o =>
        rw [hb] at hl
        cases o with
        | none => simp [hp, w1, w2, hne, hl1, hn1, f1, f2] at hl ⊢; simp [hl, kv]
        | some n => simp [hp, w1, w2, hne, hl1, hn1, f1, f2] at hl ⊢; simp [hl, kv]; omega
    rw [if_neg c2]
    have f2 := eq_false c2
    by_cases c3 : x.last = 0
    · have f3 : (x.piece.last = 0) = True := eq_true c3
      rw [if_neg (by simp [c3])]
      have hl := patternP (x := x.piece) (s := s) (a := a + 1) hp hs (by omega)
      rw [drop_at h1lt, hc] at hl
      have e1 : ((a + 1 : Nat) : Int) = (a : Int) + 1 := rfl
      simp [hp, w1, w2, hne, hl1, hn1, f1, f2, f3, piece_eq, kv_map, e1] at hl ⊢
      simp [hl]
    · have f3 : (x.piece.last = 0) = False := eq_false c3
      rw [if_pos c3]
      simp [hp, w1, w2, hne, hl1, hn1, f1, f2, f3, piece_eq, ended_l, kv]
  · have hne : ((a : Int) + 1 = (s.length : Int)) = True := eq_true (by omega)
    rw [List.drop_eq_nil_of_le (show s.length ≤ a + 1 by omega)]
    simp [hp, w1, hne, stop_l, slashX, kv]
theorem lessP (hp : p < H.n) (hs : s.length ≤ 1000000) (ha : a < s.length) : LC Tryz.prog EJ 59 [ptr p 0, str s, .int .i64 a] (H.set p (rb x)) = some (.int .i64 (kv a (lessX x a (s.drop a)).2), H.set p (rb (lessX x a (s.drop a)).1)) := by
  refine own rfl Tryz.func59 rfl (Nat.le_of_ble_eq_true rfl) (by decide) (by kernel_rfl) hp ?_
  have w1 := wr1 (i := a) (by omega)
  have w2 := wr2 (i := a) (by omega)
  have w3 := wr3 (i := a) (by omega)
  have w4 := wr4 (i := a) (by omega)
  have k1 : at_ [60, 33, 45, 45] 1 = 33 := rfl
  have k2 : at_ [60, 33, 45, 45] 2 = 45 := rfl
  have k3 : at_ [60, 33, 45, 45] 3 = 45 := rfl
  have n1 : (0 ≤ (a : Int) + 1) = True := eq_true (by omega)
  have n2 : (0 ≤ (a : Int) + 2) = True := eq_true (by omega)
  have n3 : (0 ≤ (a : Int) + 3) = True := eq_true (by omega)
  have v1 : IntKind.i64.wrap (1 + 1) = 2 := by decide
  have v2 : IntKind.i64.wrap (2 + 1) = 3 := by decide
  have v3 : IntKind.i64.wrap (3 + 1) = 4 := by decide
  rw [drop_at ha]
  by_cases h1 : a + 1 < s.length
  · have e1 : ((a : Int) + 1 = (s.length : Int)) = False := eq_false (by omega)
    have l1 : ((a : Int) + 1 < (s.length : Int)) = True := eq_true (by omega)
    rw [drop_at h1, show at_ s ((a + 1 : Nat) : Int) = at_ s ((a : Int) + 1) from rfl]
    by_cases c1 : at_ s ((a : Int) + 1) = 33
    · have f1 := eq_true c1
      by_cases h2 : a + 1 + 1 < s.length
      · have e2 : ((a : Int) + 2 = (s.length : Int)) = False := eq_false (by omega)
        have l2 : ((a : Int) + 2 < (s.length : Int)) = True := eq_true (by omega)
        rw [drop_at h2, show at_ s ((a + 1 + 1 : Nat) : Int) = at_ s ((a : Int) + 2) by congr 1]
        by_cases c2 : at_ s ((a : Int) + 2) = 45
        · have f2 := eq_true c2
          by_cases h3 : a + 1 + 1 + 1 < s.length
          · have e3 : ((a : Int) + 3 = (s.length : Int)) = False := eq_false (by omega)
            have l3 : ((a : Int) + 3 < (s.length : Int)) = True := eq_true (by omega)
            rw [drop_at h3, show at_ s ((a + 1 + 1 + 1 : Nat) : Int) = at_ s ((a : Int) + 3) by congr 1]
            unfold lessX
            dsimp only
            rw [if_neg (by simp [c1]), if_neg (by simp [c2])]
            by_cases c3 : at_ s ((a : Int) + 3) = 45
            · have f3 := eq_true c3
              rw [if_neg (by simp [c3])]
              have hl := line_l (x := x) (s := s) (a := a + 4) hp hs (by omega)
              rw [show a + 1 + 1 + 1 + 1 = a + 4 by omega]
              simp at hl
              simp
              rw [runs_loop, runs_inLoop]
              simp [hp, w1, e1, l1, n1, k1, f1, v1]
              rw [runs_inLoop]
              simp [hp, w2, e2, l2, n2, k2, f2, v2]
              rw [runs_inLoop]
              simp [hp, w3, e3, l3, n3, k3, f3, v3]
              rw [runs_inLoop]
              simp [hp, w4, hl, kv]; omega
            · have f3 := eq_false c3
              rw [if_pos c3]
              simp
              rw [runs_loop, runs_inLoop]
              simp [hp, w1, e1, l1, n1, k1, f1, v1]
              rw [runs_inLoop]
              simp [hp, w2, e2, l2, n2, k2, f2, v2]
              rw [runs_inLoop]
              simp [hp, w3, e3, l3, n3, k3, f3, v3, fail_l, kv]
          · have e3 : ((a : Int) + 3 = (s.length : Int)) = True := eq_true (by omega)
            rw [List.drop_eq_nil_of_le (show s.length ≤ a + 1 + 1 + 1 by omega)]
            unfold lessX
            dsimp only
            rw [if_neg (by simp [c1]), if_neg (by simp [c2])]
            simp
            rw [runs_loop, runs_inLoop]
            simp [hp, w1, e1, l1, n1, k1, f1, v1]
            rw [runs_inLoop]
            simp [hp, w2, e2, l2, n2, k2, f2, v2]
            rw [runs_inLoop]
            simp [hp, w3, e3, stop_l, kv]
        · have f2 := eq_false c2
          have e : lessX x a (at_ s a :: at_ s ((a : Int) + 1) :: at_ s ((a : Int) + 2) :: s.drop (a + 1 + 1 + 1)) = (x.fail (a + 2), none) := by
            cases s.drop (a + 1 + 1 + 1) <;> (unfold lessX; dsimp only; rw [if_neg (by simp [c1]), if_pos c2])
          rw [e]
          simp
          rw [runs_loop, runs_inLoop]
          simp [hp, w1, e1, l1, n1, k1, f1, v1]
          rw [runs_inLoop]
          simp [hp, w2, e2, l2, n2, k2, f2, v2, fail_l, kv]
      · have e2 : ((a : Int) + 2 = (s.length : Int)) = True := eq_true (by omega)
        rw [List.drop_eq_nil_of_le (show s.length ≤ a + 1 + 1 by omega)]
        unfold lessX
        dsimp only
        rw [if_neg (by simp [c1])]
        simp
        rw [runs_loop, runs_inLoop]
        simp [hp, w1, e1, l1, n1, k1, f1, v1]
        rw [runs_inLoop]
        simp [hp, w2, e2, stop_l, kv]
    · have f1 := eq_false c1
      have e : lessX x a (at_ s a :: at_ s ((a : Int) + 1) :: s.drop (a + 1 + 1)) = (x.fail (a + 1), none) := by
        match s.drop (a + 1 + 1) with
        | [] => unfold lessX; dsimp only; rw [if_pos c1]
        | [_] => unfold lessX; dsimp only; rw [if_pos c1]
        | _ :: _ :: _ => unfold lessX; dsimp only; rw [if_pos c1]
      rw [e]
      simp
      rw [runs_loop, runs_inLoop]
      simp [hp, w1, e1, l1, n1, k1, f1, fail_l, kv]
  · have e1 : ((a : Int) + 1 = (s.length : Int)) = True := eq_true (by omega)
    rw [List.drop_eq_nil_of_le (show s.length ≤ a + 1 by omega)]
    simp
    rw [runs_loop, runs_inLoop]
    simp [hp, w1, e1, stop_l, kv, lessX]
theorem opn_last {xs : List UInt8} {t : UInt8} (h : x.opn = xs ++ [t]) : x.opn.getLast? = some t ∧ x.opn.dropLast = xs ∧ x.opn.length = xs.length + 1 ∧ at_ x.opn (xs.length : Int) = t ∧ sub x.opn 0 (xs.length : Int) = xs := by
  rw [h]
  refine ⟨by simp, by simp, by simp, ?_, ?_⟩
  · simp [at_]
  · simp [sub]
theorem sub1 {a : Nat} (h : a < s.length) : sub s (a : Int) ((a : Int) + 1) = [at_ s a] := by
  have := sub_take (s := s) (i := a) (j := a + 1) (by omega)
  rw [show ((a + 1 : Nat) : Int) = (a : Int) + 1 from rfl] at this
  rw [this, drop_at h]; simp
def Depth (x : R) : Prop := (x.opn.length : Int) ≤ x.depth ∧ x.depth ≤ 200
set_option maxHeartbeats 2000000 in
theorem signP (ho : x.opn.length ≤ 1000) (hp : p < H.n) (hs : s.length ≤ 1000000) (ha : a < s.length) : LC Tryz.prog EJ 61 [ptr p 0, str s, .int .i64 a] (H.set p (rb x)) = some (.int .i64 (kv a (signX x a (at_ s a) (s.drop (a + 1))).2), H.set p (rb (signX x a (at_ s a) (s.drop (a + 1))).1)) := by
  refine own rfl Tryz.func61 rfl (Nat.le_of_ble_eq_true rfl) (by decide) (by kernel_rfl) hp ?_
  have w1 := wr1 (i := a) (by omega)
  have l0 : ((a : Int) < (s.length : Int)) = True := eq_true (by omega)
  have l1 : ((a : Int) + 1 ≤ (s.length : Int)) = True := eq_true (by omega)
  have l2 : ((a : Int) ≤ (a : Int) + 1) = True := eq_true (by omega)
  have hsub := sub1 ha
  have hgr := graveP (x := ({ x.piece with opn := x.opn.dropLast } : R)) (s := s) (a := a + 1) (by simp [R.piece]; omega) hp hs (by omega)
  obtain ⟨b, hb⟩ : ∃ b, at_ s a = b := ⟨_, rfl⟩
  rw [hb] at hsub ⊢
  have hO : ∀ K, LC Tryz.prog EJ 60 [str [40, 91, 123], .int .u8 b.toNat] K = some (.bool (([40, 91, 123] : List UInt8).contains b), K) := fun K => has_l (by simp)
  have hC : ∀ K, LC Tryz.prog EJ 60 [str [41, 93, 125], .int .u8 b.toNat] K = some (.bool (([41, 93, 125] : List UInt8).contains b), K) := fun K => has_l (by simp)
  have eo : ([40, 91, 123] : List UInt8).contains b = decide (b = 40 ∨ b = 91 ∨ b = 123) := by simp [Bool.decide_or]
  have ec : ([41, 93, 125] : List UInt8).contains b = decide (b = 41 ∨ b = 93 ∨ b = 125) := by simp [Bool.decide_or]
  rw [eo] at hO
  rw [ec] at hC
  have hop : x.piece.opn = x.opn := rfl
  have hde : x.piece.depth = x.depth := rfl
  by_cases c1 : b = 40 ∨ b = 91 ∨ b = 123
  · have f1 := decide_eq_true c1
    rw [f1] at hO
    by_cases c2 : (x.opn.length : Int) = x.depth
    · have f2 := eq_true c2
      have e : signX x a b (s.drop (a + 1)) = (x.piece.fail a, none) := by unfold signX; dsimp only; rw [if_pos c1, hop, hde, if_pos c2]
      rw [e]
      simp (config := { maxSteps := 4000000 }) [hp, hb, l0, piece_eq, hO, hop, hde, f2, fail_l, kv]
    · have f2 := eq_false c2
      have e : signX x a b (s.drop (a + 1)) = (({ x.piece with opn := x.opn ++ [b] } : R).ended 0, some 1) := by unfold signX; dsimp only; rw [if_pos c1, hop, hde, if_neg c2]
      rw [e]
      simp (config := { maxSteps := 4000000 }) [hp, hb, l0, l1, l2, w1, piece_eq, hO, hop, hde, f2, ended_l, hsub, (show x.opn.length ≤ 9223372036854775806 by omega), kv]
  have f1 := decide_eq_false c1
  rw [f1] at hO
  by_cases c2 : b = 41 ∨ b = 93 ∨ b = 125
  case neg =>
    have f2 := decide_eq_false c2
    rw [f2] at hC
    by_cases c3 : b = 59
    · have f3 := eq_true c3
      by_cases c4 : x.opn = []
      · have f4 := eq_true c4
        have e : signX x a b (s.drop (a + 1)) = (({ x.piece with ends := w64 (x.piece.ends + 1) } : R).ended 0, some 1) := by unfold signX; dsimp only; rw [if_neg c1, if_pos c2, if_pos ⟨c3, c4⟩]
        rw [e]
        simp (config := { maxSteps := 4000000 }) [hp, hb, l0, w1, piece_eq, hO, hC, hop, f3, f4, ended_l, kv]
      · have f4 := eq_false c4
        have e : signX x a b (s.drop (a + 1)) = (x.piece.ended 0, some 1) := by unfold signX; dsimp only; rw [if_neg c1, if_pos c2, if_neg (fun h => c4 h.2)]
        rw [e]
        simp (config := { maxSteps := 4000000 }) [hp, hb, l0, w1, piece_eq, hO, hC, hop, f3, f4, ended_l, kv]
    · have f3 := eq_false c3
      have e : signX x a b (s.drop (a + 1)) = (x.piece.ended 0, some 1) := by unfold signX; dsimp only; rw [if_neg c1, if_pos c2, if_neg (fun h => c3 h.1)]
      rw [e]
      simp (config := { maxSteps := 4000000 }) [hp, hb, l0, w1, piece_eq, hO, hC, hop, f3, ended_l, kv]
  case pos =>
    have f2 := decide_eq_true c2
    rw [f2] at hC
    rcases List.eq_nil_or_concat x.opn with h0 | ⟨xs, t, hx⟩
    · have e : signX x a b (s.drop (a + 1)) = (x.piece.fail a, none) := by
        unfold signX; dsimp only; rw [if_neg c1, if_neg (Decidable.not_not.2 c2)]
        rw [show x.piece.opn = [] from h0]; rfl
      rw [e]
      simp (config := { maxSteps := 4000000 }) [hp, hb, l0, w1, piece_eq, hO, hC, hop, (show x.opn.length = 0 by rw [h0]; rfl), fail_l, kv]
    · rw [List.concat_eq_append] at hx
      obtain ⟨g1, g2, g3, g4, g5⟩ := opn_last hx
      have g6 : ((x.opn.length : Int)) = (xs.length : Int) + 1 := by omega
      have g7 : IntKind.i64.wrap (xs.length : Int) = (xs.length : Int) := by rw [wrap64_in (by omega) (by omega)]
      have g12 : x.opn.take xs.length = xs := by rw [hx]; simp
      have g8 : (0 < (xs.length : Int) + 1) = True := eq_true (by omega)
      have g9 : ((xs.length : Int) + 1 = 0) = False := eq_false (by omega)
      have g10 : ((xs.length : Int) < (xs.length : Int) + 1) = True := eq_true (by omega)
      have g11 : ((xs.length : Int) ≤ (xs.length : Int) + 1) = True := eq_true (by omega)
      have hsg : signX x a b (s.drop (a + 1)) = (if b = 125 ∧ t = 36 then ((graveX { x.piece with opn := xs } (a + 1) (s.drop (a + 1))).1, (graveX { x.piece with opn := xs } (a + 1) (s.drop (a + 1))).2.map (· + 1))
          else if ¬ (b = 41 ∧ t = 40 ∨ b = 93 ∧ t = 91 ∨ b = 125 ∧ t = 123) then (x.piece.fail a, none)
          else if b ≠ 125 then (({ x.piece with opn := xs } : R).ended 1, some 1)
          else ((if x.opn.length = 1 then ({ x.piece with opn := xs, ends := w64 (x.piece.ends + 1) } : R) else { x.piece with opn := xs }).ended 2, some 1)) := by
        unfold signX; dsimp only; rw [if_neg c1, if_neg (Decidable.not_not.2 c2)]
        rw [show x.piece.opn = x.opn from rfl, g1, g2]
      rw [hsg]
      rw [g2] at hgr
      rw [show ((a + 1 : Nat) : Int) = (a : Int) + 1 from rfl] at hgr
      have hst : ∀ (r : R), r.opn = xs → r.opn.length ≤ 1000 := fun r h => by rw [h]; omega
      rcases c2 with c | c | c
      · have q1 := eq_true c
        have q2 : (b = 93) = False := eq_false (by rw [c]; decide)
        have q3 : (b = 125) = False := eq_false (by rw [c]; decide)
        by_cases ct : t = 40
        · have qt := eq_true ct
          simp (config := { maxSteps := 4000000 }) [hp, hb, l0, w1, piece_eq, hO, hC, hop, g4, g5, g6, g7, g8, g9, g10, g11, g12, q1, q2, q3, qt, ended_l, kv]
        · have qt := eq_false ct
          simp (config := { maxSteps := 4000000 }) [hp, hb, l0, w1, piece_eq, hO, hC, hop, g4, g5, g6, g7, g8, g9, g10, g11, g12, q1, q2, q3, qt, fail_l, kv]
      · have q1 : (b = 41) = False := eq_false (by rw [c]; decide)
        have q2 := eq_true c
        have q3 : (b = 125) = False := eq_false (by rw [c]; decide)
        by_cases ct : t = 91
        · have qt := eq_true ct
          simp (config := { maxSteps := 4000000 }) [hp, hb, l0, w1, piece_eq, hO, hC, hop, g4, g5, g6, g7, g8, g9, g10, g11, g12, q1, q2, q3, qt, ended_l, kv]
        · have qt := eq_false ct
          simp (config := { maxSteps := 4000000 }) [hp, hb, l0, w1, piece_eq, hO, hC, hop, g4, g5, g6, g7, g8, g9, g10, g11, g12, q1, q2, q3, qt, fail_l, kv]
      · have q1 : (b = 41) = False := eq_false (by rw [c]; decide)
        have q2 : (b = 93) = False := eq_false (by rw [c]; decide)
        have q3 := eq_true c
        by_cases ct : t = 36
        · have qt := eq_true ct
          simp (config := { maxSteps := 4000000 }) [hp, hb, l0, w1, piece_eq, hO, hC, hop, g4, g5, g6, g7, g8, g9, g10, g11, g12, q1, q2, q3, qt, kv_map, hgr]
        · have qt := eq_false ct
          by_cases cu : t = 123
          · have qu := eq_true cu
            by_cases cl : xs.length = 0
            · have e1 : ((xs.length : Int) + 1 = 1) = True := eq_true (by omega)
              have e2 : (x.opn.length = 1) = True := eq_true (by omega)
              simp (config := { maxSteps := 4000000 }) [hp, hb, l0, w1, piece_eq, hO, hC, hop, g4, g5, g6, g7, g8, g9, g10, g11, g12, q1, q2, q3, qt, qu, ended_l, kv, e1, e2, w64]
            · have e1 : ((xs.length : Int) + 1 = 1) = False := eq_false (by omega)
              have e2 : (x.opn.length = 1) = False := eq_false (by omega)
              simp (config := { maxSteps := 4000000 }) [hp, hb, l0, w1, piece_eq, hO, hC, hop, g4, g5, g6, g7, g8, g9, g10, g11, g12, q1, q2, q3, qt, qu, ended_l, kv, e1, e2, w64]
          · have qu := eq_false cu
            simp (config := { maxSteps := 4000000 }) [hp, hb, l0, w1, piece_eq, hO, hC, hop, g4, g5, g6, g7, g8, g9, g10, g11, g12, q1, q2, q3, qt, qu, fail_l, kv]
end
end Go.Proofs.YtgnefbngkhjfcaaGreatDoor.Rd
