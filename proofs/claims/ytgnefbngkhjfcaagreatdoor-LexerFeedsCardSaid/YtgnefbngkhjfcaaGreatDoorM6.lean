/-
  Texts joined, part 6: RdLaw, RdMain, RdNext, RdAll, RfPlain, RfLaw, RfAll, RfEnd, LgLift, LxFeedsP, LxFeedsQ.
-/
import Derived.Test.YtgnefbngkhjfcaaGreatDoorM5
import Derived.Test.YtgnefbngkhjfcaaGreatDoorM4
import Derived.Test.YtgnefbngkhjfcaaGreatDoorM3
import Derived.ChangeArms
import Derived.WideShapes
import Derived.Lib.LaidTab
/-
  The law of layer 28 in plain Lean: the machine that reads a script byte by byte comes to what the reference, piece by piece, comes to. No program in sight.
-/
set_option linter.unusedSimpArgs false
set_option linter.unusedVariables false
namespace Tg.Rd
open Tg.Js Tg.Js.M

/-- one byte further -/
def go (m : M) (b : UInt8) : M := { m.byte b with seen := m.seen + 1 }
def W (m : M) (r : List UInt8) : Prop := 0 ≤ m.seen ∧ m.seen + r.length ≤ 1152921504606846976
theorem feed_cons (m : M) (b : UInt8) (r : List UInt8) : m.feed (b :: r) = (m.step b).feed r := rfl
theorem feed_go {m : M} {b : UInt8} {r : List UInt8} (h : m.bad = false) (w : W m (b :: r)) : m.feed (b :: r) = (go m b).feed r := by
  have hs := (byte_nx m b).seen
  have h2 := w.2
  have h1 := w.1
  simp only [List.length_cons] at h2
  rw [feed_cons, step_good m b h, hs, w64_in (by omega) (by omega)]; rfl
theorem feed_bad (r : List UInt8) : ∀ m : M, m.bad = true → (m.feed r).bad = true ∧ (m.feed r).place = m.place ∧ (m.feed r).ends = m.ends := by
  induction r with
  | nil => intro m h; exact ⟨h, rfl, rfl⟩
  | cons b r ih =>
    intro m h
    have := ih (m.step b) (by rw [step_bad m b h]; exact h)
    rw [step_bad m b h] at this
    rw [feed_cons, step_bad m b h]; exact this
theorem W.next {m m' : M} {b : UInt8} {r : List UInt8} (w : W m (b :: r)) (h : m'.seen = m.seen + 1) : W m' r := by
  have h1 := w.1
  have h2 := w.2
  simp only [List.length_cons] at h2
  exact ⟨by omega, by omega⟩
/-- what reading a piece comes to -/
def Goes (m : M) (r : List UInt8) (a : Nat) (y : R × Option Nat) : Prop :=
  match y with
  | (x, none) => End (m.feed r) x
  | (x, some k) => 1 ≤ k ∧ k ≤ r.length ∧ ((r.drop k = [] ∧ End (m.feed r) x) ∨ ∃ m', m.feed r = m'.feed (r.drop k) ∧ Rel m' x (a + k))
/-- as Goes, but nothing need be read -/
def Goes0 (m : M) (r : List UInt8) (a : Nat) (y : R × Option Nat) : Prop :=
  match y with
  | (x, none) => End (m.feed r) x
  | (x, some k) => k ≤ r.length ∧ ((r.drop k = [] ∧ End (m.feed r) x) ∨ ∃ m', m.feed r = m'.feed (r.drop k) ∧ Rel m' x (a + k))
theorem Goes0.cons {m m1 : M} {b : UInt8} {r : List UInt8} {a n : Nat} {x : R} {o : Option Nat} (hf : m.feed (b :: r) = m1.feed r) (h : Goes0 m1 r (a + 1) (x, o)) : Goes m (b :: r) a (x, o.map (· + 1)) := by
  cases o with
  | none => show End _ _; rw [hf]; exact h
  | some k =>
    obtain ⟨h1, h2⟩ := h
    have h1' : k ≤ r.length := h1
    refine ⟨Nat.le_add_left _ _, by simp only [List.length_cons]; omega, ?_⟩
    rw [List.drop_succ_cons, hf, show a + (k + 1) = a + 1 + k by omega]; exact h2
theorem Goes0.cons0 {m m1 : M} {b : UInt8} {r : List UInt8} {a : Nat} {x : R} {o : Option Nat} (hf : m.feed (b :: r) = m1.feed r) (h : Goes0 m1 r (a + 1) (x, o)) : Goes0 m (b :: r) a (x, o.map (· + 1)) := by
  cases o with
  | none => show End _ _; rw [hf]; exact h
  | some k =>
    obtain ⟨h1, h2⟩ := h
    have h1' : k ≤ r.length := h1
    refine ⟨by simp only [List.length_cons]; omega, ?_⟩
    rw [List.drop_succ_cons, hf, show a + (k + 1) = a + 1 + k by omega]; exact h2
/-- the machine stands where the reference does, in the state s, within a piece -/
structure Rin (s : Int) (m : M) (x : R) (a : Nat) : Prop where
  at0 : m.at_ = s
  bad : m.bad = false
  taken : m.taken = false
  seen : m.seen = a
  stack : m.stack.map tr = x.opn
  ok : ∀ t ∈ m.stack, t = 40 ∨ t = 91 ∨ t = 123 ∨ t = 96
  last : lastX m.last = x.last
  lok : m.last = 0 ∨ m.last = 1 ∨ m.last = 2 ∨ m.last = 3
  broken : m.broken = x.broken
  pieces : m.pieces = x.pieces
  ends : m.ends = x.ends
  depth : m.depth = x.depth
  xbad : x.bad = -1
  xin : x.within = false
theorem Rin.rel {m : M} {x : R} {a : Nat} (h : Rin 0 m x a) : Rel m x a := ⟨h.at0, h.bad, h.taken, h.seen, h.stack, h.ok, h.last, h.lok, h.broken, h.pieces, h.ends, h.depth, h.xbad, h.xin⟩
theorem Rel.rin {m : M} {x : R} {a : Nat} (h : Rel m x a) : Rin 0 m x a := ⟨h.at0, h.bad, h.taken, h.seen, h.stack, h.ok, h.last, h.lok, h.broken, h.pieces, h.ends, h.depth, h.xbad, h.xin⟩
theorem Rin.opn {s : Int} {m : M} {x : R} {a : Nat} (h : Rin s m x a) : m.stack = [] ↔ x.opn = [] := by rw [← h.stack]; simp
/-- at the end of all -/
theorem Rin.fin {s : Int} {m : M} {x : R} {a : Nat} (h : Rin s m x a) (hs : s = 0 ∨ s = 1 ∨ s = 2 ∨ s = 8 ∨ s = 10) : End m x := by
  refine ⟨h.ends, .inr ⟨h.bad, h.xbad, ?_⟩⟩
  have t1 : m.tell = if m.stack = [] ∧ (m.at_ = 0 ∨ m.at_ = 1 ∨ m.at_ = 2 ∨ m.at_ = 8 ∨ m.at_ = 10) then 2 else 1 := by unfold tell; rw [h.bad]; rfl
  have t2 : x.state = if x.within = true ∨ x.opn ≠ [] then 1 else 2 := by unfold R.state; rw [h.xbad]; rfl
  rw [t1, t2, h.at0, h.xin]
  by_cases hst : m.stack = []
  · rw [if_pos ⟨hst, hs⟩, if_neg (by simp [h.opn.1 hst])]
  · rw [if_neg (fun hx => hst hx.1), if_pos (.inr (fun hx => hst (h.opn.2 hx)))]
/-- within something at the end of all -/
theorem end_stop {m : M} {x : R} (hb : m.bad = false) (he : m.ends = x.ends) (hx : x.bad = -1) (ha : ¬ (m.at_ = 0 ∨ m.at_ = 1 ∨ m.at_ = 2 ∨ m.at_ = 8 ∨ m.at_ = 10)) : End m x.stop := by
  refine ⟨he, .inr ⟨hb, hx, ?_⟩⟩
  have t1 : m.tell = if m.stack = [] ∧ (m.at_ = 0 ∨ m.at_ = 1 ∨ m.at_ = 2 ∨ m.at_ = 8 ∨ m.at_ = 10) then 2 else 1 := by unfold tell; rw [hb]; rfl
  have t2 : x.stop.state = if x.stop.within = true ∨ x.stop.opn ≠ [] then 1 else 2 := by
    have : x.stop.bad = -1 := hx
    unfold R.state; rw [this]; rfl
  rw [t1, t2, if_neg (fun h => ha h.2), if_pos (.inl rfl)]
theorem end_fail {m : M} {x : R} {r : List UInt8} (hb : m.bad = true) (he : m.ends = x.ends) {p : Int} (hp : m.place = p) (h0 : 0 ≤ p) : End (m.feed r) (x.fail p) := by
  obtain ⟨h1, h2, h3⟩ := feed_bad r m hb
  exact ⟨h3.trans he, .inl ⟨h1, h2.trans hp, h0⟩⟩

/-! ### remarks -/
theorem byte_remark {m : M} {b : UInt8} (h : m.at_ = 10 ∨ m.at_ = 11 ∨ m.at_ = 12) : m.byte b = m.inRemark b := by
  unfold M.byte
  rw [if_neg (by omega), if_neg (by omega), if_neg (by omega), if_neg (by omega), if_pos h]
theorem rem10 (m : M) (b : UInt8) (e : m.at_ = 10) : m.byte b = if feedB b then { m with broken := true, at_ := 0 } else m := by
  rw [byte_remark (.inl e)]
  cases m; simp only at e; subst e
  unfold M.inRemark
  cases hf : feedB b <;> simp
theorem rem11 (m : M) (b : UInt8) (e : m.at_ = 11) : m.byte b = if b = 42 then { m with broken := m.broken || feedB b, at_ := 12 } else { m with broken := m.broken || feedB b } := by
  rw [byte_remark (.inr (.inl e))]
  cases m; simp only at e; subst e
  unfold M.inRemark
  by_cases h42 : b = 42 <;> simp [h42]
theorem rem12 (m : M) (e : m.at_ = 12) : m.byte 47 = { m with at_ := 0 } := by
  rw [byte_remark (.inr (.inr e))]
  cases m; simp only at e; subst e
  unfold M.inRemark
  have : feedB 47 = false := by decide
  simp [this]
theorem block_star (m : M) (b : UInt8) (e : m.at_ = 12) (hb : b ≠ 47) : m.byte b = ({ m with at_ := 11 } : M).byte b := by
  rw [byte_remark (.inr (.inr e)), byte_remark (m := { m with at_ := 11 }) (.inr (.inl rfl))]
  cases m; simp only at e; subst e
  unfold M.inRemark
  by_cases h42 : b = 42 <;> simp [hb, h42]
theorem lineN_cons (b : UInt8) (r : List UInt8) : lineN (b :: r) = if feedB b then 0 else lineN r + 1 := by
  unfold lineN
  rw [List.takeWhile_cons]
  cases feedB b <;> simp
theorem line_goes (r : List UInt8) : ∀ (m : M) (x : R) (a : Nat), Rin 10 m x a → W m r → Goes0 m r a ((line x r).1, some (line x r).2) := by
  induction r with
  | nil =>
    intro m x a h w
    unfold line
    rw [if_neg (by simp [lineN])]
    exact ⟨Nat.le_refl _, .inl ⟨rfl, h.fin (by simp)⟩⟩
  | cons b r ih =>
    intro m x a h w
    have hb := rem10 m b h.at0
    have hg := feed_go h.bad w
    cases hf : feedB b with
    | true =>
      rw [hf, if_pos rfl] at hb
      have hl : line x (b :: r) = ({ x with broken := true }, 1) := by
        have hn : lineN (b :: r) = 0 := by rw [lineN_cons, hf]; rfl
        unfold line; rw [hn, if_pos (by simp)]
      rw [hl]
      refine ⟨by simp, .inr ⟨go m b, hg, ?_⟩⟩
      unfold go; rw [hb]
      have hs := h.seen
      exact ⟨rfl, h.bad, h.taken, by show m.seen + 1 = _; omega, h.stack, h.ok, h.last, h.lok, rfl, h.pieces, h.ends, h.depth, h.xbad, h.xin⟩
    | false =>
      rw [hf, if_neg (by decide)] at hb
      have hl : line x (b :: r) = ((line x r).1, (line x r).2 + 1) := by
        have hn : lineN (b :: r) = lineN r + 1 := by rw [lineN_cons, hf]; rfl
        unfold line; rw [hn]
        by_cases hlt : lineN r < r.length
        · rw [if_pos hlt, if_pos (by simp only [List.length_cons]; omega)]
        · rw [if_neg hlt, if_neg (by simp only [List.length_cons]; omega)]
      rw [hl]
      have hs := h.seen
      have hr : Rin 10 (go m b) x (a + 1) := by
        unfold go; rw [hb]
        exact ⟨h.at0, h.bad, h.taken, by show m.seen + 1 = _; omega, h.stack, h.ok, h.last, h.lok, h.broken, h.pieces, h.ends, h.depth, h.xbad, h.xin⟩
      exact Goes0.cons0 hg (ih (go m b) x (a + 1) hr (w.next rfl))
def blockX (x : R) (y : Bool × Option Nat) : R × Option Nat := match y with
  | (k, some n) => ({ x with broken := k }, some n)
  | (k, none) => (({ x with broken := k } : R).stop, none)
theorem block_goes (r : List UInt8) : ∀ (m : M) (x : R) (a : Nat), Rin 11 m x a → W m r → Goes0 m r a (blockX x (blockR r x.broken)) := by
  induction r with
  | nil =>
    intro m x a h w
    have e := h.at0
    exact end_stop (x := { x with broken := x.broken }) h.bad h.ends h.xbad (by show ¬ (m.at_ = 0 ∨ m.at_ = 1 ∨ m.at_ = 2 ∨ m.at_ = 8 ∨ m.at_ = 10); omega)
  | cons b r ih =>
    intro m x a h w
    have e := h.at0
    have hs := h.seen
    have hg := feed_go h.bad w
    have hb := rem11 m b e
    unfold blockR
    by_cases h42 : b = 42
    · rw [if_pos h42] at hb
      have hfb : feedB b = false := by rw [h42]; decide
      rw [hfb, Bool.or_false] at hb
      cases r with
      | nil =>
        rw [if_neg (fun hx => by cases hx.2)]
        show End _ _
        rw [hg]
        refine end_stop (x := { x with broken := (blockR [] (x.broken || feedB b)).1 }) ?_ ?_ h.xbad ?_
        · show (go m b).bad = false; unfold go; rw [hb]; exact h.bad
        · show (go m b).ends = _; unfold go; rw [hb]; exact h.ends
        · show ¬ ((go m b).at_ = 0 ∨ (go m b).at_ = 1 ∨ (go m b).at_ = 2 ∨ (go m b).at_ = 8 ∨ (go m b).at_ = 10); unfold go; rw [hb]; simp
      | cons d q =>
        have w1 : W (go m b) (d :: q) := w.next rfl
        have gb : (go m b).bad = false := by unfold go; rw [hb]; exact h.bad
        by_cases h47 : d = 47
        · rw [if_pos ⟨h42, by rw [h47]; rfl⟩]
          show 2 ≤ _ ∧ _
          refine ⟨by simp, .inr ⟨go (go m b) d, by rw [hg, feed_go gb w1]; rfl, ?_⟩⟩
          have e2 : (go m b).byte d = { go m b with at_ := 0 } := by
            rw [h47]; exact rem12 _ (by unfold go; rw [hb])
          have e3 : go (go m b) d = { m with at_ := 0, seen := m.seen + 1 + 1 } := by
            unfold go at e2 ⊢
            rw [e2, hb]
          rw [e3]
          exact ⟨rfl, h.bad, h.taken, by show m.seen + 1 + 1 = _; omega, h.stack, h.ok, h.last, h.lok, h.broken, h.pieces, h.ends, h.depth, h.xbad, h.xin⟩
        · rw [if_neg (fun hx => h47 (by simpa using hx.2))]
          have hr : Rin 11 ({ go m b with at_ := 11 } : M) x (a + 1) := by
            unfold go; rw [hb]
            exact ⟨rfl, h.bad, h.taken, by show m.seen + 1 = _; omega, h.stack, h.ok, h.last, h.lok, h.broken, h.pieces, h.ends, h.depth, h.xbad, h.xin⟩
          have hf : (go m b).feed (d :: q) = ({ go m b with at_ := 11 } : M).feed (d :: q) := by
            rw [feed_go gb w1, feed_go (m := { go m b with at_ := 11 }) gb w1]
            unfold go
            rw [show ({ m.byte b with seen := m.seen + 1 } : M).byte d = ({ ({ m.byte b with seen := m.seen + 1 } : M) with at_ := 11 } : M).byte d from block_star _ d (by rw [hb]) h47]
          have := ih _ x (a + 1) hr w1
          rw [hfb, Bool.or_false]
          cases hB : blockR (d :: q) x.broken with
          | mk k o =>
            rw [hB] at this
            cases o with
            | none => exact Goes0.cons0 (o := none) (hg.trans hf) this
            | some n => exact Goes0.cons0 (o := some n) (hg.trans hf) this
    · rw [if_neg h42] at hb
      rw [if_neg (fun hx => h42 hx.1)]
      have hr : Rin 11 (go m b) { x with broken := x.broken || feedB b } (a + 1) := by
        unfold go; rw [hb]
        exact ⟨e, h.bad, h.taken, by show m.seen + 1 = _; omega, h.stack, h.ok, h.last, h.lok, by show (m.broken || feedB b) = _; rw [h.broken], h.pieces, h.ends, h.depth, h.xbad, h.xin⟩
      have := ih _ _ (a + 1) hr (w.next rfl)
      simp only at this
      cases hB : blockR r (x.broken || feedB b) with
      | mk k o =>
        rw [hB] at this
        cases o with
        | none => exact Goes0.cons0 (o := none) hg this
        | some n => exact Goes0.cons0 (o := some n) hg this

/-! ### texts -/
theorem byte_text {m : M} {b : UInt8} (h : m.at_ = 3 ∨ m.at_ = 4 ∨ m.at_ = 6 ∨ m.at_ = 7) : m.byte b = m.inText b := by
  unfold M.byte
  rw [if_neg (by omega), if_neg (by omega), if_neg (by omega), if_neg (by omega), if_neg (by omega), if_neg (by omega)]
/-- a byte that a backslash takes along -/
theorem text_taken (m : M) (b : UInt8) (h : m.at_ = 3 ∨ m.at_ = 4 ∨ m.at_ = 6 ∨ m.at_ = 7) (ht : m.taken = true) : m.byte b = { m with taken := false } := by
  rw [byte_text h]; unfold M.inText; rw [if_pos ht]
theorem text3 (m : M) (b : UInt8) (e : m.at_ = 3) (ht : m.taken = false) : m.byte b = if feedB b then m.fail else if b = 92 then { m with taken := true } else if b = m.by_ then m.ended 1 else m := by
  rw [byte_text (.inl e)]
  unfold M.inText
  rw [ht, if_neg (by decide)]
  cases hf : feedB b with
  | true => rw [if_pos ⟨by omega, rfl⟩, if_pos rfl]
  | false =>
    rw [if_neg (fun hx => by cases hx.2), if_neg Bool.false_ne_true]
    by_cases h92 : b = 92
    · rw [if_pos h92, if_pos h92]
    · rw [if_neg h92, if_neg h92, if_neg (by omega), if_neg (fun hx => by omega), if_neg (fun hx => by omega), if_neg (fun hx => by omega)]
theorem text4 (m : M) (b : UInt8) (e : m.at_ = 4) (ht : m.taken = false) : m.byte b = if b = 92 then { m with taken := true } else if b = 36 then { m with at_ := 5 } else if b = m.by_ then m.ended 1 else m := by
  rw [byte_text (.inr (.inl e))]
  unfold M.inText
  rw [ht, if_neg (by decide), if_neg (fun hx => hx.1 e)]
  by_cases h92 : b = 92
  · rw [if_pos h92, if_pos h92]
  · rw [if_neg h92, if_neg h92, if_neg (by omega), if_neg (fun hx => by omega)]
    by_cases h36 : b = 36
    · rw [if_pos ⟨e, h36⟩, if_pos h36]
    · rw [if_neg (fun hx => h36 hx.2), if_neg h36, if_neg (fun hx => by omega)]
theorem text6 (m : M) (b : UInt8) (e : m.at_ = 6) (ht : m.taken = false) (hby : m.by_ = 47) : m.byte b = if feedB b then m.fail else if b = 92 then { m with taken := true } else if b = 91 then { m with at_ := 7 } else if b = 47 then { m with at_ := 8 } else m := by
  rw [byte_text (.inr (.inr (.inl e)))]
  unfold M.inText
  rw [ht, if_neg (by decide), hby]
  cases hf : feedB b with
  | true => rw [if_pos ⟨by omega, rfl⟩, if_pos rfl]
  | false =>
    rw [if_neg (fun hx => by cases hx.2), if_neg Bool.false_ne_true]
    by_cases h92 : b = 92
    · rw [if_pos h92, if_pos h92]
    · rw [if_neg h92, if_neg h92, if_neg (by omega)]
      by_cases h91 : b = 91
      · rw [if_pos ⟨e, h91⟩, if_pos h91]
      · rw [if_neg (fun hx => h91 hx.2), if_neg h91, if_neg (fun hx => by omega)]
        by_cases h47 : b = 47
        · rw [if_pos ⟨h47, e⟩, if_pos h47]
        · rw [if_neg (fun hx => h47 hx.1), if_neg h47, if_neg h47]
theorem text7 (m : M) (b : UInt8) (e : m.at_ = 7) (ht : m.taken = false) : m.byte b = if feedB b then m.fail else if b = 92 then { m with taken := true } else if b = 93 then { m with at_ := 6 } else m := by
  rw [byte_text (.inr (.inr (.inr e)))]
  unfold M.inText
  rw [ht, if_neg (by decide)]
  cases hf : feedB b with
  | true => rw [if_pos ⟨by omega, rfl⟩, if_pos rfl]
  | false =>
    rw [if_neg (fun hx => by cases hx.2), if_neg Bool.false_ne_true]
    by_cases h92 : b = 92
    · rw [if_pos h92, if_pos h92]
    · rw [if_neg h92, if_neg h92, if_pos e]
/-- within a text, behind one more byte, or two -/
theorem Rin.on {s : Int} {m m' : M} {x : R} {a n : Nat} (h : Rin s m x a) (he : m' = { m with seen := m.seen + n }) : Rin s m' x (a + n) := by
  subst he
  have hs := h.seen
  exact ⟨h.at0, h.bad, h.taken, by show m.seen + (n : Int) = _; omega, h.stack, h.ok, h.last, h.lok, h.broken, h.pieces, h.ends, h.depth, h.xbad, h.xin⟩
/-- a backslash, and what it takes along -/
theorem two {m : M} {d : UInt8} {q : List UInt8} (hat : m.at_ = 3 ∨ m.at_ = 4 ∨ m.at_ = 6 ∨ m.at_ = 7) (hb : m.bad = false) (ht : m.taken = false) (h92 : m.byte 92 = { m with taken := true }) (w : W m (92 :: d :: q)) :
    m.feed (92 :: d :: q) = ({ m with seen := m.seen + 2 } : M).feed q ∧ W ({ m with seen := m.seen + 2 } : M) q := by
  have g1 : (go m 92).bad = false := by unfold go; rw [h92]; exact hb
  have w1 : W (go m 92) (d :: q) := w.next rfl
  have e1 : go (go m 92) d = { m with seen := m.seen + 2 } := by
    have e2 : (go m 92).byte d = { go m 92 with taken := false } := text_taken _ d (by unfold go; rw [h92]; exact hat) (by unfold go; rw [h92])
    unfold go at e2 ⊢
    rw [e2, h92]
    cases m
    simp only at ht ⊢
    subst ht
    simp only [M.mk.injEq, true_and]
    omega
  refine ⟨?_, ?_⟩
  · rw [feed_go hb w, feed_go g1 w1, e1]
  · have := w1.next (m' := { m with seen := m.seen + 2 }) (by unfold go; show m.seen + 2 = m.seen + 1 + 1; omega)
    exact this
/-- a backslash at the end of all -/
theorem one {m : M} (hat : m.at_ = 3 ∨ m.at_ = 4 ∨ m.at_ = 6 ∨ m.at_ = 7) (hb : m.bad = false) (h92 : m.byte 92 = { m with taken := true }) (w : W m [92]) : (m.feed [92]).bad = false ∧ (m.feed [92]).at_ = m.at_ ∧ (m.feed [92]).ends = m.ends := by
  rw [feed_go hb w]
  show (go m 92).bad = _ ∧ (go m 92).at_ = _ ∧ (go m 92).ends = _
  unfold go; rw [h92]
  exact ⟨hb, rfl, rfl⟩
theorem Goes0.add {m m1 : M} {c : UInt8} {r q : List UInt8} {a n : Nat} {x : R} {o : Option Nat} (hq : q = r.drop n) (hn : n ≤ r.length) (hf : m.feed r = m1.feed q) (h : Goes0 m1 q (a + n) (x, o)) : Goes0 m r a (x, o.map (· + n)) := by
  cases o with
  | none => show End _ _; rw [hf]; exact h
  | some k =>
    obtain ⟨h1, h2⟩ := h
    have h1' : k ≤ q.length := h1
    subst hq
    simp only [List.length_drop] at h1'
    refine ⟨show k + n ≤ r.length by omega, ?_⟩
    show (r.drop (k + n) = [] ∧ End (m.feed r) x) ∨ ∃ m', m.feed r = m'.feed (r.drop (k + n)) ∧ Rel m' x (a + (k + n))
    rw [hf, show k + n = n + k by omega, ← List.drop_drop, ← Nat.add_assoc]; exact h2
def codeX (x y : R) (a : Int) (c : Nat × Nat) : R × Option Nat := if c.2 = 2 then (y, some c.1) else if c.2 = 1 then (x.fail (a + c.1), none) else (x.stop, none)
theorem codeX_add {x y : R} {a : Int} {c : Nat × Nat} {n : Nat} : codeX x y a (add n c) = ((codeX x y (a + n) c).1, (codeX x y (a + n) c).2.map (· + n)) := by
  unfold codeX add
  simp only
  split
  · rfl
  · split
    · have : a + ((c.1 + n : Nat) : Int) = a + (n : Int) + (c.1 : Int) := by omega
      rw [this]; rfl
    · rfl
theorem Rin.ended1 {s : Int} {m : M} {x : R} {a : Nat} (h : Rin s m x a) (l : Int) (hl : l = 0 ∨ l = 1 ∨ l = 2 ∨ l = 3) : Rel ({ m.ended l with seen := m.seen + 1 } : M) (x.ended (lastX l)) (a + 1) := by
  have hs := h.seen
  exact ⟨rfl, h.bad, h.taken, by show m.seen + 1 = _; omega, h.stack, h.ok, rfl, hl, rfl, h.pieces, h.ends, h.depth, h.xbad, h.xin⟩
theorem quote_goes (q : UInt8) (hq : q = 34 ∨ q = 39) : ∀ (n : Nat) (r : List UInt8), r.length ≤ n → ∀ (m : M) (x : R) (a : Nat), Rin 3 m x a → m.by_ = q → W m r → Goes0 m r a (codeX x (x.ended 1) a (quoteR q r)) := by
  have hq92 : q ≠ 92 := by rcases hq with rfl | rfl <;> decide
  intro n
  induction n with
  | zero =>
    intro r hr m x a h hby w
    obtain rfl : r = [] := List.length_eq_zero_iff.1 (by omega)
    have e := h.at0
    exact end_stop h.bad h.ends h.xbad (by show ¬ (m.at_ = 0 ∨ m.at_ = 1 ∨ m.at_ = 2 ∨ m.at_ = 8 ∨ m.at_ = 10); omega)
  | succ n ih =>
    intro r hr m x a h hby w
    have e := h.at0
    have hs := h.seen
    match r, hr, w with
    | [], _, _ => exact end_stop h.bad h.ends h.xbad (by show ¬ (m.at_ = 0 ∨ m.at_ = 1 ∨ m.at_ = 2 ∨ m.at_ = 8 ∨ m.at_ = 10); omega)
    | c :: r, hr, w =>
      have hb := text3 m c e h.taken
      have hg := feed_go h.bad w
      by_cases h92 : c = 92
      · subst h92
        have hb92 : m.byte 92 = { m with taken := true } := by rw [hb, if_neg (by decide), if_pos rfl]
        match r, hr, w with
        | [], _, w =>
          obtain ⟨o1, o2, o3⟩ := one (.inl e) h.bad hb92 w
          exact end_stop o1 (o3.trans h.ends) h.xbad (by rw [o2]; omega)
        | d :: r, hr, w =>
          obtain ⟨t1, t2⟩ := two (.inl e) h.bad h.taken hb92 w
          have := ih r (by simp only [List.length_cons] at hr; omega) _ x (a + 2) (h.on (n := 2) rfl) hby t2
          have e1 : quoteR q (92 :: d :: r) = add 2 (quoteR q r) := by
            conv => lhs; unfold quoteR
            rw [if_pos rfl]
          rw [e1, codeX_add]
          exact Goes0.add (c := 0) (q := r) (n := 2) rfl (by simp) t1 this
      · have e1 : quoteR q (c :: r) = if feedB c then (0, 1) else if c = q then (1, 2) else add 1 (quoteR q r) := by
          cases r with
          | nil => unfold quoteR; rw [if_neg h92]; rfl
          | cons d r => conv => lhs; unfold quoteR
                        rw [if_neg h92]
        rw [e1]
        cases hf : feedB c with
        | true =>
          rw [hf, if_pos rfl] at hb
          rw [if_pos rfl]
          show End _ _
          rw [hg]
          refine end_fail ?_ ?_ ?_ ?_
          · unfold go; rw [hb]; rfl
          · unfold go; rw [hb]; exact h.ends
          · unfold go; rw [hb]; show m.seen = _; simp [hs]
          · simp
        | false =>
          rw [hf, if_neg (by decide), if_neg h92, hby] at hb
          rw [if_neg (by decide)]
          by_cases hcq : c = q
          · rw [if_pos hcq] at hb
            rw [if_pos hcq]
            refine ⟨by simp, .inr ⟨go m c, hg, ?_⟩⟩
            have : go m c = ({ m.ended 1 with seen := m.seen + 1 } : M) := by unfold go; rw [hb]
            rw [this]
            exact h.ended1 1 (by simp)
          · rw [if_neg hcq] at hb
            rw [if_neg hcq, codeX_add]
            have hgo : go m c = { m with seen := m.seen + 1 } := by unfold go; rw [hb]
            have := ih r (by simp only [List.length_cons] at hr; omega) (go m c) x (a + 1) (h.on (n := 1) hgo) (by rw [hgo]; exact hby) (w.next rfl)
            exact Goes0.add (c := 0) (q := r) (n := 1) rfl (by simp) hg this
theorem byte_dollar {m : M} {b : UInt8} (h : m.at_ = 5) : m.byte b = m.inDollar b := by
  unfold M.byte
  rw [if_neg (by omega), if_neg (by omega), if_pos h]
/-- a dollar behind which nothing opens is as any byte -/
theorem dollar (m : M) (d : UInt8) (h : m.at_ = 5) (hd : d ≠ 123) : m.byte d = ({ m with at_ := 4 } : M).byte d := by
  rw [byte_dollar h, byte_text (m := { m with at_ := 4 }) (.inr (.inl rfl))]
  unfold M.inDollar
  rw [if_neg hd]
def graveX' (x : R) (a : Int) (c : Nat × Nat) : R × Option Nat :=
  if c.2 = 2 then (x.ended 1, some c.1)
  else if c.2 = 3 then (if (x.opn.length : Int) = x.depth then (x.fail (a + c.1 - 1), none) else (({ x with opn := x.opn ++ [36] } : R).ended 0, some c.1))
  else (x.stop, none)
theorem graveX'_add {x : R} {a : Int} {c : Nat × Nat} {n : Nat} : graveX' x a (add n c) = ((graveX' x (a + n) c).1, (graveX' x (a + n) c).2.map (· + n)) := by
  unfold graveX' add
  simp only
  split
  · rfl
  · split
    · have : a + ((c.1 + n : Nat) : Int) - 1 = a + (n : Int) + (c.1 : Int) - 1 := by omega
      rw [this]; split <;> rfl
    · rfl
theorem graveX_eq (x : R) (a : Int) (r : List UInt8) : graveX x a r = graveX' x a (graveR r) := rfl
theorem push_to {s : Int} {m : M} {x : R} {a : Nat} {b : UInt8} (h : Rin s m x a) (hb : b = 40 ∨ b = 91 ∨ b = 123 ∨ b = 96) (hl : ¬ (x.opn.length : Int) = x.depth) : Rel ({ m.push b with seen := m.seen + 1 } : M) (({ x with opn := x.opn ++ [tr b] } : R).ended 0) (a + 1) := by
  have hs := h.seen
  have hlen : m.stack.length = x.opn.length := by rw [← h.stack]; simp
  have e : m.push b = { m with stack := m.stack ++ [b] }.ended 0 := by unfold M.push; rw [if_neg (by rw [hlen, h.depth]; exact hl)]
  rw [e]
  refine ⟨rfl, h.bad, h.taken, by show m.seen + 1 = _; omega, ?_, ?_, rfl, .inl rfl, rfl, h.pieces, h.ends, h.depth, h.xbad, h.xin⟩
  · show (m.stack ++ [b]).map tr = x.opn ++ [tr b]; rw [List.map_append, h.stack]; rfl
  · intro t ht
    rcases List.mem_append.1 (show t ∈ m.stack ++ [b] from ht) with ht | ht
    · exact h.ok t ht
    · simp at ht; subst ht; exact hb
theorem push_full {s : Int} {m : M} {x : R} {a : Nat} {b : UInt8} (h : Rin s m x a) (hl : (x.opn.length : Int) = x.depth) : m.push b = m.fail := by
  have hlen : m.stack.length = x.opn.length := by rw [← h.stack]; simp
  unfold M.push; rw [if_pos (by rw [hlen, h.depth]; exact hl)]
theorem Rin.at {s s' : Int} {m : M} {x : R} {a : Nat} (h : Rin s m x a) : Rin s' ({ m with at_ := s' } : M) x a := ⟨rfl, h.bad, h.taken, h.seen, h.stack, h.ok, h.last, h.lok, h.broken, h.pieces, h.ends, h.depth, h.xbad, h.xin⟩
theorem grave_goes : ∀ (n : Nat) (r : List UInt8), r.length ≤ n → ∀ (m : M) (x : R) (a : Nat), Rin 4 m x a → m.by_ = 96 → W m r → Goes0 m r a (graveX x a r) := by
  intro n
  induction n with
  | zero =>
    intro r hr m x a h hby w
    obtain rfl : r = [] := List.length_eq_zero_iff.1 (by omega)
    have e := h.at0
    exact end_stop h.bad h.ends h.xbad (by show ¬ (m.at_ = 0 ∨ m.at_ = 1 ∨ m.at_ = 2 ∨ m.at_ = 8 ∨ m.at_ = 10); omega)
  | succ n ih =>
    intro r hr m x a h hby w
    have e := h.at0
    have hs := h.seen
    match r, hr, w with
    | [], _, _ => exact end_stop h.bad h.ends h.xbad (by show ¬ (m.at_ = 0 ∨ m.at_ = 1 ∨ m.at_ = 2 ∨ m.at_ = 8 ∨ m.at_ = 10); omega)
    | c :: r, hr, w =>
      have hb := text4 m c e h.taken
      have hg := feed_go h.bad w
      rw [graveX_eq]
      by_cases h92 : c = 92
      · subst h92
        have hb92 : m.byte 92 = { m with taken := true } := by rw [hb, if_pos rfl]
        match r, hr, w with
        | [], _, w =>
          obtain ⟨o1, o2, o3⟩ := one (.inr (.inl e)) h.bad hb92 w
          exact end_stop o1 (o3.trans h.ends) h.xbad (by rw [o2]; omega)
        | d :: r, hr, w =>
          obtain ⟨t1, t2⟩ := two (.inr (.inl e)) h.bad h.taken hb92 w
          have := ih r (by simp only [List.length_cons] at hr; omega) _ x (a + 2) (h.on (n := 2) rfl) hby t2
          have e1 : graveR (92 :: d :: r) = add 2 (graveR r) := by
            conv => lhs; unfold graveR
            rw [if_pos rfl]
          rw [e1, graveX'_add]
          exact Goes0.add (c := 0) (q := r) (n := 2) rfl (by simp) t1 this
      · rw [if_neg h92] at hb
        by_cases h96 : c = 96
        · subst h96
          rw [if_neg (by decide), if_pos hby.symm] at hb
          have e1 : graveR (96 :: r) = (1, 2) := by
            cases r with
            | nil => rfl
            | cons d r => conv => lhs; unfold graveR
                          rw [if_neg (by decide), if_pos rfl]
          rw [e1]
          refine ⟨by simp, .inr ⟨go m 96, hg, ?_⟩⟩
          have : go m 96 = ({ m.ended 1 with seen := m.seen + 1 } : M) := by unfold go; rw [hb]
          rw [this]
          exact h.ended1 1 (by simp)
        · by_cases h36 : c = 36
          · subst h36
            rw [if_pos rfl] at hb
            have hgo : go m 36 = { m with at_ := 5, seen := m.seen + 1 } := by unfold go; rw [hb]
            have w1 : W (go m 36) r := w.next rfl
            have gb : (go m 36).bad = false := by rw [hgo]; exact h.bad
            match r, hr, w, w1, hg with
            | [], _, _, _, hg =>
              show End _ _
              rw [hg]
              exact end_stop gb (by rw [hgo]; exact h.ends) h.xbad (by show ¬ ((go m 36).at_ = 0 ∨ (go m 36).at_ = 1 ∨ (go m 36).at_ = 2 ∨ (go m 36).at_ = 8 ∨ (go m 36).at_ = 10); rw [hgo]; simp)
            | d :: r, hr, w, w1, hg =>
              have r4 : Rin 4 ({ go m 36 with at_ := 4 } : M) x (a + 1) := by
                have : Rin 5 (go m 36) x (a + 1) := by
                  have := (h.at (s' := 5)).on (n := 1) (m' := go m 36) hgo
                  exact this
                exact this.at
              by_cases hd : d = 123
              · subst hd
                have e1 : graveR (36 :: 123 :: r) = (2, 3) := by
                  conv => lhs; unfold graveR
                  rw [if_neg (by decide), if_neg (by decide), if_pos ⟨rfl, rfl⟩]
                rw [e1]
                have hp : (go m 36).byte 123 = ({ go m 36 with at_ := 4 } : M).push 96 := by
                  rw [byte_dollar (by rw [hgo])]; unfold M.inDollar; rw [if_pos rfl]
                have hf : m.feed (36 :: 123 :: r) = (go (go m 36) 123).feed r := by rw [hg, feed_go gb w1]
                unfold graveX'
                rw [if_neg (by decide), if_pos rfl]
                by_cases hl : (x.opn.length : Int) = x.depth
                · rw [if_pos hl]
                  show End _ _
                  rw [hf]
                  have hpf := push_full (b := 96) r4 hl
                  refine end_fail ?_ ?_ ?_ ?_
                  · unfold go at hp hpf ⊢; rw [hp, hpf]; rfl
                  · unfold go at hp hpf ⊢; rw [hp, hpf]; exact r4.ends
                  · unfold go at hp hpf ⊢; rw [hp, hpf]; show m.seen + 1 = _; omega
                  · omega
                · rw [if_neg hl]
                  refine ⟨by simp, .inr ⟨_, hf, ?_⟩⟩
                  have hpt := push_to (b := 96) r4 (by simp) hl
                  have e2 : go (go m 36) 123 = ({ ({ go m 36 with at_ := 4 } : M).push 96 with seen := (go m 36).seen + 1 } : M) := by
                    conv => lhs; unfold go
                    unfold go at hp
                    rw [hp]; rfl
                  rw [e2]
                  exact hpt
              · have e1 : graveR (36 :: d :: r) = add 1 (graveR (d :: r)) := by
                  conv => lhs; unfold graveR
                  rw [if_neg (by decide), if_neg (by decide), if_neg (fun hx => hd hx.2)]
                rw [e1, graveX'_add]
                have hf : (go m 36).feed (d :: r) = ({ go m 36 with at_ := 4 } : M).feed (d :: r) := by
                  rw [feed_go gb w1, feed_go (m := { go m 36 with at_ := 4 }) gb w1]
                  unfold go
                  rw [show ({ m.byte 36 with seen := m.seen + 1 } : M).byte d = ({ ({ m.byte 36 with seen := m.seen + 1 } : M) with at_ := 4 } : M).byte d from dollar _ d (by rw [hb]) hd]
                have := ih (d :: r) (by simp only [List.length_cons] at hr ⊢; omega) _ x (a + 1) r4 (by show (go m 36).by_ = 96; rw [hgo]; exact hby) w1
                exact Goes0.add (c := 0) (q := d :: r) (n := 1) rfl (by simp) (hg.trans hf) this
          · rw [if_neg h36, if_neg (by rw [hby]; exact h96)] at hb
            have e1 : graveR (c :: r) = add 1 (graveR r) := by
              cases r with
              | nil => conv => lhs; unfold graveR
                       rw [if_neg h92, if_neg h96]; rfl
              | cons d r => conv => lhs; unfold graveR
                            rw [if_neg h92, if_neg h96, if_neg (fun hx => h36 hx.1)]
            rw [e1, graveX'_add]
            have hgo : go m c = { m with seen := m.seen + 1 } := by unfold go; rw [hb]
            have := ih r (by simp only [List.length_cons] at hr; omega) (go m c) x (a + 1) (h.on (n := 1) hgo) (by rw [hgo]; exact hby) (w.next rfl)
            exact Goes0.add (c := 0) (q := r) (n := 1) rfl (by simp) hg this

/-! ### words -/
def settle (m : M) : M := if m.at_ = 1 ∧ isKeyword m.said then m.ended 3 else m.ended 1
def sayF (s : List UInt8) (b : UInt8) : List UInt8 := if (s.length : Int) ≤ 10 then s ++ [b] else s
theorem settle_seen (m : M) : (settle m).seen = m.seen := by unfold settle; split <;> rfl
theorem settle_bad (m : M) : (settle m).bad = m.bad := by unfold settle; split <;> rfl
theorem settle_at (m : M) : (settle m).at_ = 0 := by unfold settle; split <;> rfl
theorem byte_word {m : M} {b : UInt8} (h : m.at_ = 1 ∨ m.at_ = 2 ∨ m.at_ = 8) : m.byte b = m.inWord b := by
  unfold M.byte
  rw [if_neg (by omega), if_pos h]
theorem word_in (m : M) (b : UInt8) (h : m.at_ = 1 ∨ m.at_ = 2 ∨ m.at_ = 8) (hb : inner b = true ∨ m.at_ = 2 ∧ b = 46) : m.byte b = { m with said := sayF m.said b } := by
  rw [byte_word h]
  unfold M.inWord sayF
  rw [if_pos hb]
  split <;> rfl
theorem word_out (m : M) (b : UInt8) (h : m.at_ = 1 ∨ m.at_ = 2 ∨ m.at_ = 8) (hb : ¬ (inner b = true ∨ m.at_ = 2 ∧ b = 46)) : m.byte b = (settle m).byte b := by
  have e : (settle m).byte b = (settle m).begin b := by unfold M.byte; rw [if_pos (settle_at m)]
  rw [byte_word h, e]
  unfold M.inWord settle
  rw [if_neg hb]
  split <;> rfl
theorem wordN_cons (dg : Bool) (b : UInt8) (r : List UInt8) : wordN dg (b :: r) = if inner b || (dg && b == 46) then wordN dg r + 1 else 0 := by
  unfold wordN
  rw [List.takeWhile_cons]
  cases inner b || (dg && b == 46) <;> simp
theorem wordRun (r : List UInt8) : ∀ (m : M), (m.at_ = 1 ∨ m.at_ = 2 ∨ m.at_ = 8) → m.bad = false → W m r →
    (r.drop (wordN (decide (m.at_ = 2)) r) = [] ∧ m.feed r = { m with said := (r.take (wordN (decide (m.at_ = 2)) r)).foldl sayF m.said, seen := m.seen + (wordN (decide (m.at_ = 2)) r : Nat) }) ∨
    m.feed r = (settle { m with said := (r.take (wordN (decide (m.at_ = 2)) r)).foldl sayF m.said, seen := m.seen + (wordN (decide (m.at_ = 2)) r : Nat) }).feed (r.drop (wordN (decide (m.at_ = 2)) r)) := by
  induction r with
  | nil =>
    intro m h hb w
    refine .inl ⟨rfl, ?_⟩
    show m = _
    have : wordN (decide (m.at_ = 2)) [] = 0 := rfl
    rw [this]
    cases m
    simp
  | cons b r ih =>
    intro m h hb w
    have hg := feed_go hb w
    by_cases hin : inner b = true ∨ m.at_ = 2 ∧ b = 46
    · have hn : wordN (decide (m.at_ = 2)) (b :: r) = wordN (decide (m.at_ = 2)) r + 1 := by
        rw [wordN_cons, if_pos]
        rcases hin with hin | ⟨h1, h2⟩
        · rw [hin]; rfl
        · rw [h1, h2]; simp
      have e := word_in m b h hin
      have hgo : go m b = { m with said := sayF m.said b, seen := m.seen + 1 } := by unfold go; rw [e]
      have := ih (go m b) (by rw [hgo]; exact h) (by rw [hgo]; exact hb) (w.next rfl)
      rw [hgo] at this
      simp only at this
      rw [hn, hg, hgo]
      simp only [List.take_succ_cons, List.drop_succ_cons, List.foldl_cons]
      have hc : m.seen + ((wordN (decide (m.at_ = 2)) r + 1 : Nat) : Int) = m.seen + 1 + (wordN (decide (m.at_ = 2)) r : Nat) := by omega
      rw [hc]
      exact this
    · have hn : wordN (decide (m.at_ = 2)) (b :: r) = 0 := by
        rw [wordN_cons, if_neg]
        intro hx
        apply hin
        simp only [Bool.or_eq_true, Bool.and_eq_true, decide_eq_true_eq, beq_iff_eq] at hx
        exact hx
      have e := word_out m b h hin
      refine .inr ?_
      rw [hn]
      simp only [List.take_zero, List.drop_zero, List.foldl_nil]
      have e0 : ({ m with said := m.said, seen := m.seen + ((0 : Nat) : Int) } : M) = m := by cases m; simp
      rw [e0, hg]
      have w2 : W (settle m) (b :: r) := ⟨by rw [settle_seen]; exact w.1, by rw [settle_seen]; exact w.2⟩
      rw [feed_go (by rw [settle_bad]; exact hb) w2]
      unfold go
      rw [e, settle_seen]
theorem say_take (l : List UInt8) : ∀ s : List UInt8, s.length ≤ 11 → l.foldl sayF s = (s ++ l).take 11 := by
  induction l with
  | nil => intro s h; simp; rw [List.take_of_length_le h]
  | cons b l ih =>
    intro s h
    rw [List.foldl_cons]
    unfold sayF
    by_cases hs : (s.length : Int) ≤ 10
    · rw [if_pos hs]
      have := ih (s ++ [b]) (by simp; omega)
      unfold sayF at this
      rw [this]; simp
    · rw [if_neg hs]
      have h11 : s.length = 11 := by omega
      have := ih s h
      unfold sayF at this
      rw [this, List.take_append_of_le_length (by omega), List.take_append_of_le_length (by omega)]
theorem kw_short : (keywords.all fun k => decide (k.length ≤ 10) && !digit (k.headD 0)) = true := by decide +kernel
theorem kw_take (l : List UInt8) : isKeyword (l.take 11) = isKeyword l := by
  by_cases h : l.length ≤ 11
  · rw [List.take_of_length_le h]
  · have key : ∀ k : List UInt8, 11 ≤ k.length → isKeyword k = false := by
      intro k hk
      unfold isKeyword
      rw [Bool.eq_false_iff]
      intro hc
      rw [List.contains_iff_mem] at hc
      have := List.all_eq_true.1 kw_short k hc
      simp only [Bool.and_eq_true, decide_eq_true_eq] at this
      omega
    rw [key _ (by simp; omega), key _ (by omega)]
theorem kw_digit (b : UInt8) (l : List UInt8) (h : digit b = true) : isKeyword (b :: l) = false := by
  unfold isKeyword
  rw [Bool.eq_false_iff]
  intro hc
  rw [List.contains_iff_mem] at hc
  have := List.all_eq_true.1 kw_short _ hc
  simp [h] at this
theorem End.ended {m : M} {x : R} {l : Int} (h : End m x) : End m (x.ended l) := h
/-- a word, or a pattern's flags, gone by -/
theorem word_goes {s : Int} {m : M} {x : R} {a : Nat} {r : List UInt8} (h : Rin s m x a) (hs : s = 1 ∨ s = 2 ∨ s = 8) (w : W m r) (l : Int) (hl : l = if m.at_ = 1 ∧ isKeyword ((r.take (wordN (decide (m.at_ = 2)) r)).foldl sayF m.said) then 0 else 1) :
    Goes0 m r a (x.ended l, some (wordN (decide (m.at_ = 2)) r)) := by
  have e := h.at0
  have hn : wordN (decide (m.at_ = 2)) r ≤ r.length := by unfold wordN; exact (List.takeWhile_prefix _).length_le
  have hr := wordRun r m (by omega) h.bad w
  generalize wordN (decide (m.at_ = 2)) r = n at *
  generalize (r.take n).foldl sayF m.said = sd at *
  have h1 : Rin s ({ m with said := sd, seen := m.seen + (n : Nat) } : M) x (a + n) := by
    have hse := h.seen
    exact ⟨h.at0, h.bad, h.taken, by show m.seen + (n : Int) = _; omega, h.stack, h.ok, h.last, h.lok, h.broken, h.pieces, h.ends, h.depth, h.xbad, h.xin⟩
  refine ⟨hn, ?_⟩
  rcases hr with ⟨hd, hf⟩ | hf
  · refine .inl ⟨hd, ?_⟩
    rw [hf]
    exact (h1.fin (by omega)).ended
  · refine .inr ⟨_, hf, ?_⟩
    unfold settle
    show Rel (if m.at_ = 1 ∧ isKeyword sd = true then _ else _) _ _
    subst hl
    by_cases hk : m.at_ = 1 ∧ isKeyword sd = true
    · rw [if_pos hk, if_pos hk]
      exact ⟨rfl, h1.bad, h1.taken, h1.seen, h1.stack, h1.ok, rfl, .inr (.inr (.inr rfl)), rfl, h1.pieces, h1.ends, h1.depth, h1.xbad, h1.xin⟩
    · rw [if_neg hk, if_neg hk]
      exact ⟨rfl, h1.bad, h1.taken, h1.seen, h1.stack, h1.ok, rfl, .inr (.inl rfl), rfl, h1.pieces, h1.ends, h1.depth, h1.xbad, h1.xin⟩

/-! ### patterns -/
theorem innerN_word (r : List UInt8) : wordN false r = innerN r := by
  unfold wordN innerN
  congr 2
  funext b
  simp
theorem pattern_goes : ∀ (n : Nat) (r : List UInt8), r.length ≤ n → ∀ (k : Bool) (m : M) (x : R) (a : Nat), Rin (if k then 7 else 6) m x a → m.by_ = 47 → W m r → Goes0 m r a (codeX x (x.ended 1) a (patternR k r)) := by
  intro n
  induction n with
  | zero =>
    intro r hr k m x a h hby w
    obtain rfl : r = [] := List.length_eq_zero_iff.1 (by omega)
    have e := h.at0
    refine end_stop h.bad h.ends h.xbad ?_
    show ¬ (m.at_ = 0 ∨ m.at_ = 1 ∨ m.at_ = 2 ∨ m.at_ = 8 ∨ m.at_ = 10)
    rw [e]; cases k <;> simp
  | succ n ih =>
    intro r hr k m x a h hby w
    have e := h.at0
    have hs := h.seen
    have hat : m.at_ = 3 ∨ m.at_ = 4 ∨ m.at_ = 6 ∨ m.at_ = 7 := by rw [e]; cases k <;> simp
    have hno : ¬ (m.at_ = 0 ∨ m.at_ = 1 ∨ m.at_ = 2 ∨ m.at_ = 8 ∨ m.at_ = 10) := by rw [e]; cases k <;> simp
    match r, hr, w with
    | [], _, _ => exact end_stop h.bad h.ends h.xbad hno
    | c :: r, hr, w =>
      have hg := feed_go h.bad w
      have hb : m.byte c = if feedB c then m.fail else if c = 92 then { m with taken := true } else if k then (if c = 93 then { m with at_ := 6 } else m) else (if c = 91 then { m with at_ := 7 } else if c = 47 then { m with at_ := 8 } else m) := by
        cases k with
        | true => rw [text7 m c e h.taken, if_pos rfl]
        | false => rw [text6 m c e h.taken hby, if_neg Bool.false_ne_true]
      by_cases h92 : c = 92
      · subst h92
        have hb92 : m.byte 92 = { m with taken := true } := by rw [hb, if_neg (by decide), if_pos rfl]
        match r, hr, w with
        | [], _, w =>
          obtain ⟨o1, o2, o3⟩ := one hat h.bad hb92 w
          exact end_stop o1 (o3.trans h.ends) h.xbad (by rw [o2]; exact hno)
        | d :: r, hr, w =>
          obtain ⟨t1, t2⟩ := two hat h.bad h.taken hb92 w
          have := ih r (by simp only [List.length_cons] at hr; omega) k _ x (a + 2) (h.on (n := 2) rfl) hby t2
          have e1 : patternR k (92 :: d :: r) = add 2 (patternR k r) := by
            conv => lhs; unfold patternR
            rw [if_pos rfl]
          rw [e1, codeX_add]
          exact Goes0.add (c := 0) (q := r) (n := 2) rfl (by simp) t1 this
      · have e1 : patternR k (c :: r) = if feedB c then (0, 1) else if c = 47 ∧ k = false then (innerN r + 1, 2) else if c = 91 then add 1 (patternR true r) else if c = 93 then add 1 (patternR false r) else add 1 (patternR k r) := by
          cases r with
          | nil =>
            conv => lhs; unfold patternR
            rw [if_neg h92]
            cases feedB c
            · rw [if_neg Bool.false_ne_true, if_neg Bool.false_ne_true]
              by_cases h47 : c = 47 ∧ k = false
              · rw [if_pos h47, if_pos h47]; rfl
              · rw [if_neg h47, if_neg h47]; simp [patternR, add]
            · rfl
          | cons d r =>
            conv => lhs; unfold patternR
            rw [if_neg h92]
        rw [e1]
        cases hf : feedB c with
        | true =>
          rw [hf, if_pos rfl] at hb
          rw [if_pos rfl]
          show End _ _
          rw [hg]
          refine end_fail ?_ ?_ ?_ ?_
          · unfold go; rw [hb]; rfl
          · unfold go; rw [hb]; exact h.ends
          · unfold go; rw [hb]; show m.seen = _; simp [hs]
          · simp
        | false =>
          rw [hf, if_neg Bool.false_ne_true, if_neg h92] at hb
          rw [if_neg Bool.false_ne_true]
          have w1 : W (go m c) r := w.next rfl
          have hln : r.length ≤ n := by simp only [List.length_cons] at hr; omega
          have stay : ∀ k', Rin (if k' then 7 else 6) (go m c) x (a + 1) → (go m c).by_ = 47 → Goes0 m (c :: r) a (codeX x (x.ended 1) a (add 1 (patternR k' r))) := fun k' hr' hb' => by
            rw [codeX_add]
            exact Goes0.add (c := 0) (q := r) (n := 1) rfl (by simp) hg (ih r hln k' (go m c) x (a + 1) hr' hb' w1)
          cases k with
          | true =>
            rw [if_pos rfl] at hb
            rw [if_neg (fun hx => by cases hx.2)]
            by_cases h93 : c = 93
            · rw [if_pos h93] at hb
              rw [if_neg (by rw [h93]; decide), if_pos h93]
              have hgo : go m c = { m with at_ := 6, seen := m.seen + 1 } := by unfold go; rw [hb]
              exact stay false ((h.at (s' := 6)).on (n := 1) hgo) (by rw [hgo]; exact hby)
            · rw [if_neg h93] at hb
              have hgo : go m c = { m with seen := m.seen + 1 } := by unfold go; rw [hb]
              have := stay true (h.on (n := 1) hgo) (by rw [hgo]; exact hby)
              by_cases h91 : c = 91
              · rw [if_pos h91]; exact this
              · rw [if_neg h91, if_neg h93]; exact this
          | false =>
            rw [if_neg Bool.false_ne_true] at hb
            by_cases h47 : c = 47
            · rw [if_neg (by rw [h47]; decide), if_pos h47] at hb
              rw [if_pos ⟨h47, rfl⟩]
              have hgo : go m c = { m with at_ := 8, seen := m.seen + 1 } := by unfold go; rw [hb]
              have h8 : Rin 8 (go m c) x (a + 1) := (h.at (s' := 8)).on (n := 1) hgo
              have hw := word_goes h8 (by simp) w1 1 (by rw [if_neg (fun hx => by have := h8.at0; omega)])
              have hd : decide ((go m c).at_ = 2) = false := by have := h8.at0; simp; omega
              rw [hd, innerN_word] at hw
              exact Goes0.cons0 (o := some (innerN r)) hg hw
            · rw [if_neg (fun hx => h47 hx.1)]
              by_cases h91 : c = 91
              · rw [if_pos h91] at hb
                rw [if_pos h91]
                have hgo : go m c = { m with at_ := 7, seen := m.seen + 1 } := by unfold go; rw [hb]
                exact stay true ((h.at (s' := 7)).on (n := 1) hgo) (by rw [hgo]; exact hby)
              · rw [if_neg h91, if_neg h47] at hb
                rw [if_neg h91]
                have hgo : go m c = { m with seen := m.seen + 1 } := by unfold go; rw [hb]
                have := stay false (h.on (n := 1) hgo) (by rw [hgo]; exact hby)
                by_cases h93 : c = 93
                · rw [if_pos h93]; exact this
                · rw [if_neg h93]; exact this
end Tg.Rd
/-
  The law of layer 28 in plain Lean: piece for piece, and all of it. No program in sight.
-/
set_option linter.unusedSimpArgs false
set_option linter.unusedVariables false
namespace Tg.Rd
open Tg.Js Tg.Js.M

theorem byte0 {m : M} {b : UInt8} (h : m.at_ = 0) : m.byte b = m.begin b := by unfold M.byte; rw [if_pos h]
theorem joined_eq {m : M} {x : R} {a : Nat} (h : Rel m x a) : m.joined = x.joined := by
  unfold M.joined R.joined
  rw [h.broken, ← h.last]
  rcases h.lok with e | e | e | e <;> rw [e] <;> rfl
theorem last_eq {m : M} {x : R} {a : Nat} (h : Rel m x a) : (m.last = 1 ∨ m.last = 2) ↔ x.last ≠ 0 := by
  rw [← h.last]
  rcases h.lok with e | e | e | e <;> rw [e] <;> simp [lastX]
theorem goes_fail {m : M} {x : R} {a : Nat} {b : UInt8} {r : List UInt8} (h : Rel m x a) (w : W m (b :: r)) (he : ∃ m1 : M, m.byte b = m1.fail ∧ m1.ends = m.ends ∧ m1.seen = m.seen) (hx : x.bad = -1) (y : R) (hy : y.ends = x.ends) : Goes m (b :: r) a (y.fail a, none) := by
  obtain ⟨m1, e1, e2, e3⟩ := he
  show End _ _
  rw [feed_go h.bad w]
  have hs := h.seen
  refine end_fail ?_ ?_ ?_ ?_
  · unfold go; rw [e1]; rfl
  · unfold go; rw [e1]; show m1.ends = y.ends; rw [e2, hy]; exact h.ends
  · unfold go; rw [e1]; show m1.seen = _; rw [e3, hs]
  · omega
theorem Goes0.goes {m : M} {r : List UInt8} {a : Nat} {x : R} {o : Option Nat} (h : Goes0 m r a (x, o)) (ho : ∀ k, o = some k → 1 ≤ k) : Goes m r a (x, o) := by
  cases o with
  | none => exact h
  | some k => exact ⟨ho k rfl, h.1, h.2⟩
theorem goes_rel {m m' : M} {x x' : R} {a : Nat} {b : UInt8} {r : List UInt8} (h : Rel m x a) (w : W m (b :: r)) (he : go m b = m') (hr : Rel m' x' (a + 1)) : Goes m (b :: r) a (x', some 1) :=
  ⟨Nat.le_refl _, by simp, .inr ⟨m', by rw [feed_go h.bad w, he]; rfl, hr⟩⟩
/-- a piece has begun: the machine is in a state of it -/
theorem Rel.into {m m' : M} {x : R} {a : Nat} {s : Int} (h : Rel m x a) (e : m'.at_ = s) (e1 : m'.bad = m.bad) (e2 : m'.taken = m.taken) (e3 : m'.seen = m.seen + 1) (e4 : m'.stack = m.stack) (e5 : m'.last = m.last) (e6 : m'.broken = m.broken) (e7 : m'.pieces = w64 (m.pieces + 1)) (e8 : m'.ends = m.ends) (e9 : m'.depth = m.depth) : Rin s m' x.piece (a + 1) := by
  have hs := h.seen
  exact ⟨e, e1.trans h.bad, e2.trans h.taken, by rw [e3]; omega, by rw [e4]; exact h.stack, by rw [e4]; exact h.ok, by rw [e5]; exact h.last, by rw [e5]; exact h.lok, by rw [e6]; exact h.broken, by rw [e7, h.pieces]; rfl, by rw [e8]; exact h.ends, by rw [e9]; exact h.depth, h.xbad, h.xin⟩
theorem Rel.to {m m' : M} {x : R} {a n : Nat} {s : Int} (h : Rel m x a) (e : m' = { m with at_ := s, seen := m.seen + n }) : Rin s m' x (a + n) := by
  have hs := h.seen
  subst e
  exact ⟨rfl, h.bad, h.taken, by show m.seen + (n : Int) = _; omega, h.stack, h.ok, h.last, h.lok, h.broken, h.pieces, h.ends, h.depth, h.xbad, h.xin⟩
/-- words -/
theorem goes_word {m : M} {x : R} {a : Nat} {b : UInt8} {r : List UInt8} (h : Rel m x a) (w : W m (b :: r)) (hw : white b = false) (hf : feedB b = false) (hi : inner b = true) : Goes m (b :: r) a (wordX x a (b :: r)) := by
  have hb : m.byte b = if m.joined then m.fail else { m.piece with at_ := if digit b then 2 else 1, said := [b] } := by
    rw [byte0 h.at0]; unfold M.begin; rw [hf, hw, hi]; rfl
  unfold wordX
  rw [← joined_eq h]
  cases hj : m.joined with
  | true =>
    rw [hj, if_pos rfl] at hb
    rw [if_pos rfl]
    exact goes_fail h w ⟨m, hb, rfl, rfl⟩ h.xbad x rfl
  | false =>
    rw [hj, if_neg Bool.false_ne_true] at hb
    rw [if_neg Bool.false_ne_true]
    have hg := feed_go h.bad w
    have hgo : go m b = { m.piece with at_ := if digit b then 2 else 1, said := [b], seen := m.seen + 1 } := by unfold go; rw [hb]
    have hr : Rin (if digit b then 2 else 1) (go m b) x.piece (a + 1) := by rw [hgo]; exact h.into rfl rfl rfl rfl rfl rfl rfl rfl rfl rfl
    have hd : decide ((go m b).at_ = 2) = digit b := by rw [hr.at0]; cases digit b <;> simp
    have hwg := word_goes hr (by cases digit b <;> simp) (w.next rfl) (if isKeyword ((b :: r).take (wordN (digit b) (b :: r))) then 0 else 1) (by
      have hN : wordN (digit b) (b :: r) = wordN (digit b) r + 1 := by rw [wordN_cons, hi]; rfl
      rw [hd, hN, List.take_succ_cons]
      have hsd : (go m b).said = [b] := by rw [hgo]
      rw [hsd, say_take _ _ (by simp), List.singleton_append, kw_take, hr.at0]
      cases hdg : digit b with
      | true => rw [kw_digit b _ hdg]; simp
      | false => simp)
    rw [hd] at hwg
    have hN : wordN (digit b) (b :: r) = wordN (digit b) r + 1 := by rw [wordN_cons, hi]; rfl
    show Goes m (b :: r) a ((x.piece).ended (if isKeyword ((b :: r).take (wordN (digit b) (b :: r))) then 0 else 1), some (wordN (digit b) (b :: r)))
    rw [hN] at hwg ⊢
    exact Goes0.cons (n := 0) (o := some (wordN (digit b) r)) hg hwg
theorem goes_quote {m : M} {x : R} {a : Nat} {b : UInt8} {r : List UInt8} (h : Rel m x a) (w : W m (b :: r)) (hw : white b = false) (hf : feedB b = false) (hi : inner b = false) (hq : b = 34 ∨ b = 39) :
    Goes m (b :: r) a (if x.joined then (x.fail a, none) else ((quoteX x.piece (a + 1) r b).1, (quoteX x.piece (a + 1) r b).2.map (· + 1))) := by
  have hb : m.byte b = if m.joined then m.fail else { m.piece with at_ := 3, by_ := b } := by
    rw [byte0 h.at0]; unfold M.begin; rw [hf, hw, hi, if_neg Bool.false_ne_true, if_neg Bool.false_ne_true, if_neg Bool.false_ne_true, if_pos hq]
  rw [← joined_eq h]
  cases hj : m.joined with
  | true =>
    rw [hj, if_pos rfl] at hb
    rw [if_pos rfl]
    exact goes_fail h w ⟨m, hb, rfl, rfl⟩ h.xbad x rfl
  | false =>
    rw [hj, if_neg Bool.false_ne_true] at hb
    rw [if_neg Bool.false_ne_true]
    have hgo : go m b = { m.piece with at_ := 3, by_ := b, seen := m.seen + 1 } := by unfold go; rw [hb]
    have hr : Rin 3 (go m b) x.piece (a + 1) := by rw [hgo]; exact h.into rfl rfl rfl rfl rfl rfl rfl rfl rfl rfl
    have := quote_goes b hq r.length r (Nat.le_refl _) (go m b) x.piece (a + 1) hr (by rw [hgo]) (w.next rfl)
    exact Goes0.cons (n := 0) (feed_go h.bad w) (show Goes0 _ _ _ ((quoteX x.piece (a + 1) r b).1, (quoteX x.piece (a + 1) r b).2) from this)
theorem goes_grave {m : M} {x : R} {a : Nat} {r : List UInt8} (h : Rel m x a) (w : W m (96 :: r)) :
    Goes m (96 :: r) a ((graveX x.piece (a + 1) r).1, (graveX x.piece (a + 1) r).2.map (· + 1)) := by
  have hb : m.byte 96 = { m.piece with at_ := 4, by_ := 96 } := by
    rw [byte0 h.at0]; unfold M.begin
    rw [if_neg (by decide), if_neg (by decide), if_neg (by decide), if_neg (by decide), if_pos rfl]
  have hgo : go m 96 = { m.piece with at_ := 4, by_ := 96, seen := m.seen + 1 } := by unfold go; rw [hb]
  have hr : Rin 4 (go m 96) x.piece (a + 1) := by rw [hgo]; exact h.into rfl rfl rfl rfl rfl rfl rfl rfl rfl rfl
  have := grave_goes r.length r (Nat.le_refl _) (go m 96) x.piece (a + 1) hr (by rw [hgo]) (w.next rfl)
  exact Goes0.cons (n := 0) (feed_go h.bad w) (show Goes0 _ _ _ ((graveX x.piece (a + 1) r).1, (graveX x.piece (a + 1) r).2) from this)
theorem byte_slash {m : M} {b : UInt8} (h : m.at_ = 9) : m.byte b = m.inSlash b := by
  unfold M.byte
  rw [if_neg (by omega), if_neg (by omega), if_neg (by omega), if_pos h]
theorem sign47' (m : M) : m.sign 47 = m.piece.ended 0 := by
  unfold M.sign
  rw [if_neg (by decide), if_neg (by decide), if_neg (by decide)]
theorem goes_slash {m : M} {x : R} {a : Nat} {r : List UInt8} (h : Rel m x a) (w : W m (47 :: r)) : Goes m (47 :: r) a (slashX x a (47 :: r)) := by
  have hs := h.seen
  have hb : m.byte 47 = { m with at_ := 9 } := by
    rw [byte0 h.at0]; unfold M.begin
    rw [if_neg (by decide), if_neg (by decide), if_neg (by decide), if_neg (by decide), if_neg (by decide), if_pos rfl]
  have hgo : go m 47 = { m with at_ := 9, seen := m.seen + 1 } := by unfold go; rw [hb]
  have hg := feed_go h.bad w
  have gb : (go m 47).bad = false := by rw [hgo]; exact h.bad
  match r, w, hg with
  | [], w, hg =>
    show End _ _
    rw [hg]
    exact end_stop gb (by rw [hgo]; exact h.ends) h.xbad (by show ¬ ((go m 47).at_ = 0 ∨ (go m 47).at_ = 1 ∨ (go m 47).at_ = 2 ∨ (go m 47).at_ = 8 ∨ (go m 47).at_ = 10); rw [hgo]; simp)
  | d :: q, w, hg =>
    have w1 : W (go m 47) (d :: q) := w.next rfl
    have hb2 : (go m 47).byte d = (go m 47).inSlash d := byte_slash (by rw [hgo])
    have hg2 := feed_go gb w1
    unfold slashX
    simp only
    by_cases c1 : d = 47
    · rw [if_pos c1]
      have e : go (go m 47) d = { m with at_ := 10, seen := m.seen + (2 : Nat) } := by
        have : (go m 47).byte d = { go m 47 with at_ := 10 } := by rw [hb2]; unfold M.inSlash; rw [if_pos c1]
        unfold go at this ⊢
        rw [this, hb]
        simp only [M.mk.injEq, true_and]
        omega
      have hr := h.to (n := 2) (s := 10) e
      have hl := line_goes q (go (go m 47) d) x (a + 2) hr (w1.next rfl)
      have := Goes0.add (c := 0) (r := 47 :: d :: q) (q := q) (n := 2) (m := m) (a := a) rfl (by simp) (hg.trans hg2) hl
      exact this.goes (fun k hk => by simp at hk; omega)
    rw [if_neg c1]
    by_cases c2 : d = 42
    · rw [if_pos c2]
      have e : go (go m 47) d = { m with at_ := 11, seen := m.seen + (2 : Nat) } := by
        have : (go m 47).byte d = { go m 47 with at_ := 11 } := by rw [hb2]; unfold M.inSlash; rw [if_neg c1, if_pos c2]
        unfold go at this ⊢
        rw [this, hb]
        simp only [M.mk.injEq, true_and]
        omega
      have hr := h.to (n := 2) (s := 11) e
      have hl := block_goes q (go (go m 47) d) x (a + 2) hr (w1.next rfl)
      cases hB : blockR q x.broken with
      | mk k o =>
        rw [hB] at hl
        cases o with
        | none => exact (Goes0.add (c := 0) (r := 47 :: d :: q) (q := q) (n := 2) (m := m) (a := a) (o := none) rfl (by simp) (hg.trans hg2) hl).goes (fun k hk => by cases hk)
        | some j => exact (Goes0.add (c := 0) (r := 47 :: d :: q) (q := q) (n := 2) (m := m) (a := a) (o := some j) rfl (by simp) (hg.trans hg2) hl).goes (fun k hk => by simp at hk; omega)
    rw [if_neg c2]
    by_cases c3 : m.last = 1 ∨ m.last = 2
    · rw [if_pos ((last_eq h).1 c3)]
      refine ⟨Nat.le_refl _, by simp, .inr ⟨(go m 47).piece.ended 0, ?_, ?_⟩⟩
      · rw [hg]
        show (go m 47).feed (d :: q) = ((go m 47).piece.ended 0).feed (d :: q)
        rw [hg2, feed_go (m := (go m 47).piece.ended 0) gb w1]
        have : (go m 47).byte d = ((go m 47).piece.ended 0).byte d := by
          rw [hb2, byte0 (m := (go m 47).piece.ended 0) rfl]
          unfold M.inSlash
          rw [if_neg c1, if_neg c2, if_pos (by rw [hgo]; exact c3), sign47']
        unfold go at this ⊢
        rw [this]; rfl
      · rw [hgo]
        exact ⟨rfl, h.bad, h.taken, by show m.seen + 1 = _; omega, h.stack, h.ok, rfl, .inl rfl, rfl, by show w64 (m.pieces + 1) = _; rw [h.pieces]; rfl, h.ends, h.depth, h.xbad, h.xin⟩
    · rw [if_neg (fun hx => c3 ((last_eq h).2 hx))]
      have hr : Rin 6 ({ (go m 47).piece with at_ := 6, by_ := 47 } : M) x.piece (a + 1) := by rw [hgo]; exact h.into rfl rfl rfl rfl rfl rfl rfl rfl rfl rfl
      have hf : (go m 47).feed (d :: q) = ({ (go m 47).piece with at_ := 6, by_ := 47 } : M).feed (d :: q) := by
        rw [hg2, feed_go (m := { (go m 47).piece with at_ := 6, by_ := 47 }) gb w1]
        have : (go m 47).byte d = ({ (go m 47).piece with at_ := 6, by_ := 47 } : M).byte d := by
          rw [hb2, byte_text (m := { (go m 47).piece with at_ := 6, by_ := 47 }) (.inr (.inr (.inl rfl)))]
          unfold M.inSlash
          rw [if_neg c1, if_neg c2, if_neg (by rw [hgo]; exact c3)]
        unfold go at this ⊢
        rw [this]; rfl
      have hp := pattern_goes (d :: q).length (d :: q) (Nat.le_refl _) false _ x.piece (a + 1) hr rfl w1
      exact Goes0.cons (n := 0) (hg.trans hf) (show Goes0 _ _ _ ((patternX x.piece (a + 1) (d :: q)).1, (patternX x.piece (a + 1) (d :: q)).2) from hp)
theorem byte_less {m : M} {b : UInt8} (h : m.at_ = 13 ∨ m.at_ = 14 ∨ m.at_ = 15) : m.byte b = m.inLess b := by
  unfold M.byte
  rw [if_neg (by omega), if_neg (by omega), if_neg (by omega), if_neg (by omega), if_neg (by omega), if_pos h]
theorem goes_less {m : M} {x : R} {a : Nat} {r : List UInt8} (h : Rel m x a) (w : W m (60 :: r)) (hp : x.pieces = 0) : Goes m (60 :: r) a (lessX x a (60 :: r)) := by
  have hs := h.seen
  have hb : m.byte 60 = { m with at_ := 13 } := by
    rw [byte0 h.at0]; unfold M.begin
    rw [if_neg (by decide), if_neg (by decide), if_neg (by decide), if_neg (by decide), if_neg (by decide), if_neg (by decide), if_pos ⟨rfl, by rw [h.pieces]; exact hp⟩]
  have hgo : go m 60 = { m with at_ := 13, seen := m.seen + 1 } := by unfold go; rw [hb]
  have hg := feed_go h.bad w
  have w0 : W (go m 60) r := w.next rfl
  -- one step more within
  have stepOk : ∀ (s s' : Int) (c : UInt8) (m1 : M) (k : Nat) (q : List UInt8), (s = 13 ∧ s' = 14 ∧ c = 33 ∨ s = 14 ∧ s' = 15 ∧ c = 45 ∨ s = 15 ∧ s' = 10 ∧ c = 45) → m1 = { m with at_ := s, seen := m.seen + (k : Nat) } → W m1 (c :: q) →
      m1.feed (c :: q) = ({ m with at_ := s', seen := m.seen + ((k + 1 : Nat) : Int) } : M).feed q := by
    intro s s' c m1 k q hc e w1
    subst e
    rw [feed_go (m := { m with at_ := s, seen := m.seen + (k : Nat) }) h.bad w1]
    congr 1
    unfold go
    rw [byte_less (by show s = 13 ∨ s = 14 ∨ s = 15; rcases hc with hc | hc | hc <;> simp [hc.1])]
    have hk : m.seen + (k : Int) + 1 = m.seen + ((k + 1 : Nat) : Int) := by omega
    unfold M.inLess
    rcases hc with ⟨rfl, rfl, rfl⟩ | ⟨rfl, rfl, rfl⟩ | ⟨rfl, rfl, rfl⟩ <;> simp [hk]
  have stepNo : ∀ (s : Int) (c c' : UInt8) (m1 : M) (k : Nat) (q : List UInt8), (s = 13 ∧ c' = 33 ∨ s = 14 ∧ c' = 45 ∨ s = 15 ∧ c' = 45) → c ≠ c' → m1 = { m with at_ := s, seen := m.seen + (k : Nat) } → W m1 (c :: q) → End (m1.feed (c :: q)) (x.fail ((a : Int) + k)) := by
    intro s c c' m1 k q hc hne e w1
    subst e
    rw [feed_go (m := { m with at_ := s, seen := m.seen + (k : Nat) }) h.bad w1]
    have e1 : ({ m with at_ := s, seen := m.seen + (k : Nat) } : M).byte c = ({ m with at_ := s, seen := m.seen + (k : Nat) } : M).fail := by
      rw [byte_less (by show s = 13 ∨ s = 14 ∨ s = 15; rcases hc with hc | hc | hc <;> simp [hc.1])]
      unfold M.inLess
      rcases hc with ⟨rfl, rfl⟩ | ⟨rfl, rfl⟩ | ⟨rfl, rfl⟩ <;> simp [hne]
    refine end_fail ?_ ?_ ?_ ?_
    · unfold go; rw [e1]; rfl
    · unfold go; rw [e1]; exact h.ends
    · unfold go; rw [e1]; show m.seen + (k : Int) = _; omega
    · omega
  have hgo1 : go m 60 = { m with at_ := 13, seen := m.seen + ((1 : Nat) : Int) } := by rw [hgo]; rfl
  have stopAt : ∀ (s : Int) (k : Nat), (s = 13 ∨ s = 14 ∨ s = 15) → End ({ m with at_ := s, seen := m.seen + (k : Nat) } : M) x.stop := fun s k hsx => end_stop h.bad h.ends h.xbad (by show ¬ (s = 0 ∨ s = 1 ∨ s = 2 ∨ s = 8 ∨ s = 10); omega)
  match r, w, hg, w0 with
  | [], w, hg, w0 =>
    show End _ _
    rw [hg, hgo1]; exact stopAt 13 1 (by simp)
  | c1 :: r, w, hg, w0 =>
    by_cases h1 : c1 = 33
    · have f1 := stepOk 13 14 c1 _ 1 r (.inl ⟨rfl, rfl, h1⟩) hgo1 w0
      have w1 : W ({ m with at_ := 14, seen := m.seen + ((1 + 1 : Nat) : Int) } : M) r := w0.next (by show m.seen + 2 = (go m 60).seen + 1; rw [hgo]; show m.seen + 2 = m.seen + 1 + 1; omega)
      match r, f1, w1, hg with
      | [], f1, w1, hg =>
        unfold lessX
        simp only
        rw [if_neg (fun hx => hx h1)]
        show End _ _
        rw [hg, f1]
        exact stopAt 14 2 (by simp)
      | c2 :: r, f1, w1, hg =>
        by_cases h2 : c2 = 45
        · have f2 := stepOk 14 15 c2 _ 2 r (.inr (.inl ⟨rfl, rfl, h2⟩)) rfl w1
          have w2 : W ({ m with at_ := 15, seen := m.seen + ((2 + 1 : Nat) : Int) } : M) r := w1.next (by show m.seen + 3 = m.seen + 2 + 1; omega)
          match r, f2, w2, hg, f1 with
          | [], f2, w2, hg, f1 =>
            unfold lessX
            simp only
            rw [if_neg (fun hx => hx h1), if_neg (fun hx => hx h2)]
            show End _ _
            rw [hg, f1, f2]
            exact stopAt 15 3 (by simp)
          | c3 :: r, f2, w2, hg, f1 =>
            by_cases h3 : c3 = 45
            · have f3 := stepOk 15 10 c3 _ 3 r (.inr (.inr ⟨rfl, rfl, h3⟩)) rfl w2
              have w3 : W ({ m with at_ := 10, seen := m.seen + ((3 + 1 : Nat) : Int) } : M) r := w2.next (by show m.seen + 4 = m.seen + 3 + 1; omega)
              have hr := h.to (n := 4) (s := 10) (m' := { m with at_ := 10, seen := m.seen + ((3 + 1 : Nat) : Int) }) rfl
              have hl := line_goes r _ x (a + 4) hr w3
              unfold lessX
              simp only
              rw [if_neg (fun hx => hx h1), if_neg (fun hx => hx h2), if_neg (fun hx => hx h3)]
              have := Goes0.add (c := 0) (r := 60 :: c1 :: c2 :: c3 :: r) (q := r) (n := 4) (m := m) (a := a) rfl (by simp) (((hg.trans f1).trans f2).trans f3) hl
              exact this.goes (fun k hk => by simp at hk; omega)
            · unfold lessX
              simp only
              rw [if_neg (fun hx => hx h1), if_neg (fun hx => hx h2), if_pos h3]
              show End _ _
              rw [hg, f1, f2]
              exact stepNo 15 c3 45 _ 3 r (.inr (.inr ⟨rfl, rfl⟩)) h3 rfl w2
        · show Goes _ _ _ (lessX x a (60 :: c1 :: c2 :: r))
          have e : lessX x a (60 :: c1 :: c2 :: r) = (x.fail (a + 2), none) := by
            cases r with
            | nil => unfold lessX; simp only; rw [if_neg (fun hx => hx h1), if_pos h2]
            | cons c3 r => unfold lessX; simp only; rw [if_neg (fun hx => hx h1), if_pos h2]
          rw [e]
          show End _ _
          rw [hg, f1]
          exact stepNo 14 c2 45 _ 2 r (.inr (.inl ⟨rfl, rfl⟩)) h2 rfl w1
    · have e : lessX x a (60 :: c1 :: r) = (x.fail (a + 1), none) := by
        match r with
        | [] => unfold lessX; simp only; rw [if_pos h1]
        | [c2] => unfold lessX; simp only; rw [if_pos h1]
        | c2 :: c3 :: r => unfold lessX; simp only; rw [if_pos h1]
      rw [e]
      show End _ _
      rw [hg]
      exact stepNo 13 c1 33 _ 1 r (.inl ⟨rfl, rfl⟩) h1 hgo1 w0
/-! ### signs -/
theorem Rel.piece {m : M} {x : R} {a : Nat} (h : Rel m x a) : Rin 0 m.piece x.piece a :=
  ⟨h.at0, h.bad, h.taken, h.seen, h.stack, h.ok, h.last, h.lok, h.broken, by show w64 (m.pieces + 1) = w64 (x.pieces + 1); rw [h.pieces], h.ends, h.depth, h.xbad, h.xin⟩
theorem tr_of {t : UInt8} (ht : t = 40 ∨ t = 91 ∨ t = 123 ∨ t = 96) : (tr t = 36 ↔ t = 96) ∧ (tr t = 40 ↔ t = 40) ∧ (tr t = 91 ↔ t = 91) ∧ (tr t = 123 ↔ t = 123) := by
  rcases ht with rfl | rfl | rfl | rfl <;> decide
theorem goes_sign {m : M} {x : R} {a : Nat} {b : UInt8} {r : List UInt8} (h : Rel m x a) (w : W m (b :: r)) (hb : m.byte b = m.sign b) : Goes m (b :: r) a (signX x a b r) := by
  have hp := h.piece
  have hs := h.seen
  have hg := feed_go h.bad w
  have hlen : m.stack.length = x.opn.length := by rw [← h.stack]; simp
  unfold signX
  simp only
  unfold M.sign at hb
  simp only at hb
  by_cases c1 : b = 40 ∨ b = 91 ∨ b = 123
  · rw [if_pos c1] at hb
    rw [if_pos c1]
    by_cases hl : (x.piece.opn.length : Int) = x.piece.depth
    · rw [if_pos hl]
      exact goes_fail h w ⟨m.piece, by rw [hb]; exact push_full hp hl, rfl, rfl⟩ h.xbad x.piece rfl
    · rw [if_neg hl]
      refine goes_rel h w rfl ?_
      have := push_to (b := b) hp (by rcases c1 with c | c | c <;> simp [c]) hl
      have ht : tr b = b := by rcases c1 with c | c | c <;> rw [c] <;> decide
      rw [ht] at this
      have e : go m b = ({ m.piece.push b with seen := m.piece.seen + 1 } : M) := by unfold go; rw [hb]; rfl
      rw [e]; exact this
  · rw [if_neg c1] at hb
    rw [if_neg c1]
    by_cases c2 : b = 41 ∨ b = 93 ∨ b = 125
    · rw [if_pos c2] at hb
      rw [if_neg (fun hx => hx c2)]
      have hlast : x.piece.opn.getLast? = m.stack.getLast?.map tr := by
        show x.opn.getLast? = _
        rw [← h.stack, List.getLast?_map]
      have hdrop : x.piece.opn.dropLast = m.stack.dropLast.map tr := by
        show x.opn.dropLast = _
        rw [← h.stack, List.map_dropLast]
      rw [hlast]
      unfold M.pop at hb
      cases hst : m.stack.getLast? with
      | none =>
        have hst' : m.piece.stack.getLast? = none := hst
        rw [hst'] at hb
        exact goes_fail h w ⟨m.piece, hb, rfl, rfl⟩ h.xbad x.piece rfl
      | some t =>
        have hst' : m.piece.stack.getLast? = some t := hst
        rw [hst'] at hb
        simp only at hb
        have hne : m.stack ≠ [] := by intro hx; rw [hx] at hst; cases hst
        have htm : t ∈ m.stack := List.mem_of_getLast? hst
        obtain ⟨q1, q2, q3, q4⟩ := tr_of (h.ok t htm)
        have okd : ∀ u ∈ m.stack.dropLast, u = 40 ∨ u = 91 ∨ u = 123 ∨ u = 96 := fun u hu => h.ok u (List.dropLast_subset _ hu)
        simp only [Option.map_some]
        by_cases c3 : b = 125 ∧ t = 96
        · rw [if_pos c3] at hb
          rw [if_pos ⟨c3.1, q1.2 c3.2⟩]
          have hgo : go m b = { m.piece with stack := m.stack.dropLast, at_ := 4, by_ := 96, seen := m.seen + 1 } := by unfold go; rw [hb]; rfl
          have hr : Rin 4 (go m b) { x.piece with opn := x.piece.opn.dropLast } (a + 1) := by
            rw [hgo]
            exact ⟨rfl, h.bad, h.taken, by show m.seen + 1 = _; omega, hdrop.symm, okd, h.last, h.lok, h.broken, by show w64 (m.pieces + 1) = w64 (x.pieces + 1); rw [h.pieces], h.ends, h.depth, h.xbad, h.xin⟩
          have := grave_goes r.length r (Nat.le_refl _) (go m b) _ (a + 1) hr (by rw [hgo]) (w.next rfl)
          exact Goes0.cons (n := 0) hg (show Goes0 _ _ _ ((graveX { x.piece with opn := x.piece.opn.dropLast } (a + 1) r).1, (graveX { x.piece with opn := x.piece.opn.dropLast } (a + 1) r).2) from this)
        · rw [if_neg c3] at hb
          rw [if_neg (fun hx => c3 ⟨hx.1, q1.1 hx.2⟩)]
          have hpair : t = M.pair b ↔ (b = 41 ∧ tr t = 40 ∨ b = 93 ∧ tr t = 91 ∨ b = 125 ∧ tr t = 123) := by
            rw [q2, q3, q4]
            unfold M.pair
            rcases c2 with c | c | c <;> subst c <;> simp
          by_cases c4 : t = M.pair b
          · rw [if_pos c4] at hb
            rw [if_neg (fun hx => hx (hpair.1 c4))]
            by_cases c5 : b = 125
            · rw [if_neg (fun hx => hx c5)] at hb
              rw [if_neg (fun hx => hx c5)]
              refine goes_rel h w rfl ?_
              have hl1 : (m.piece.stack.length = 1) ↔ (x.piece.opn.length = 1) := by show m.stack.length = 1 ↔ x.opn.length = 1; rw [hlen]
              by_cases c6 : m.piece.stack.length = 1
              · rw [if_pos c6] at hb
                rw [if_pos (hl1.1 c6)]
                unfold go; rw [hb]
                exact ⟨rfl, h.bad, h.taken, by show m.seen + 1 = _; omega, hdrop.symm, okd, rfl, .inr (.inr (.inl rfl)), rfl, by show w64 (m.pieces + 1) = w64 (x.pieces + 1); rw [h.pieces], by show w64 (m.ends + 1) = w64 (x.ends + 1); rw [h.ends], h.depth, h.xbad, h.xin⟩
              · rw [if_neg c6] at hb
                rw [if_neg (fun hx => c6 (hl1.2 hx))]
                unfold go; rw [hb]
                exact ⟨rfl, h.bad, h.taken, by show m.seen + 1 = _; omega, hdrop.symm, okd, rfl, .inr (.inr (.inl rfl)), rfl, by show w64 (m.pieces + 1) = w64 (x.pieces + 1); rw [h.pieces], h.ends, h.depth, h.xbad, h.xin⟩
            · rw [if_pos c5] at hb
              rw [if_pos c5]
              refine goes_rel h w rfl ?_
              unfold go; rw [hb]
              exact ⟨rfl, h.bad, h.taken, by show m.seen + 1 = _; omega, hdrop.symm, okd, rfl, .inr (.inl rfl), rfl, by show w64 (m.pieces + 1) = w64 (x.pieces + 1); rw [h.pieces], h.ends, h.depth, h.xbad, h.xin⟩
          · rw [if_neg c4] at hb
            rw [if_pos (fun hx => c4 (hpair.2 hx))]
            exact goes_fail h w ⟨m.piece, hb, rfl, rfl⟩ h.xbad x.piece rfl
    · rw [if_neg c2] at hb
      rw [if_pos c2]
      refine goes_rel h w rfl ?_
      have hop : m.stack = [] ↔ x.opn = [] := by rw [← h.stack]; simp
      by_cases c3 : b = 59
      · rw [if_pos c3] at hb
        by_cases c4 : x.opn = []
        · rw [if_pos (show (m.piece.ended 0).stack = [] from hop.2 c4)] at hb
          rw [if_pos ⟨c3, c4⟩]
          unfold go; rw [hb]
          exact ⟨rfl, h.bad, h.taken, by show m.seen + 1 = _; omega, h.stack, h.ok, rfl, .inl rfl, rfl, by show w64 (m.pieces + 1) = w64 (x.pieces + 1); rw [h.pieces], by show w64 (m.ends + 1) = w64 (x.ends + 1); rw [h.ends], h.depth, h.xbad, h.xin⟩
        · rw [if_neg (show ¬ (m.piece.ended 0).stack = [] from fun hx => c4 (hop.1 hx))] at hb
          rw [if_neg (fun hx => c4 hx.2)]
          unfold go; rw [hb]
          exact ⟨rfl, h.bad, h.taken, by show m.seen + 1 = _; omega, h.stack, h.ok, rfl, .inl rfl, rfl, by show w64 (m.pieces + 1) = w64 (x.pieces + 1); rw [h.pieces], h.ends, h.depth, h.xbad, h.xin⟩
      · rw [if_neg c3] at hb
        rw [if_neg (fun hx => c3 hx.1)]
        unfold go; rw [hb]
        exact ⟨rfl, h.bad, h.taken, by show m.seen + 1 = _; omega, h.stack, h.ok, rfl, .inl rfl, rfl, by show w64 (m.pieces + 1) = w64 (x.pieces + 1); rw [h.pieces], h.ends, h.depth, h.xbad, h.xin⟩
/-! ### all of it -/
theorem feed_white {b : UInt8} (h : feedB b = true) : white b = true := by
  unfold feedB at h
  simp at h
  rcases h with rfl | rfl <;> decide
theorem next_goes {m : M} {x : R} {a : Nat} {b : UInt8} {r : List UInt8} (h : Rel m x a) (w : W m (b :: r)) : Goes m (b :: r) a (nextX x a b r) := by
  have hs := h.seen
  unfold nextX
  cases hw : white b with
  | true =>
    rw [if_pos rfl]
    refine goes_rel h w rfl ?_
    have hb : m.byte b = if feedB b then { m with broken := true } else m := by
      rw [byte0 h.at0]; unfold M.begin; rw [hw]
      cases feedB b <;> rfl
    unfold go; rw [hb]
    cases hf : feedB b with
    | true => exact ⟨h.at0, h.bad, h.taken, by show m.seen + 1 = _; omega, h.stack, h.ok, h.last, h.lok, by show true = (x.broken || true); simp, h.pieces, h.ends, h.depth, h.xbad, h.xin⟩
    | false => exact ⟨h.at0, h.bad, h.taken, by show m.seen + 1 = _; omega, h.stack, h.ok, h.last, h.lok, by show m.broken = (x.broken || false); rw [h.broken]; simp, h.pieces, h.ends, h.depth, h.xbad, h.xin⟩
  | false =>
    rw [if_neg Bool.false_ne_true]
    have hf : feedB b = false := by
      cases hf : feedB b with
      | true => rw [feed_white hf] at hw; cases hw
      | false => rfl
    cases hi : inner b with
    | true => rw [if_pos rfl]; exact goes_word h w hw hf hi
    | false =>
      rw [if_neg Bool.false_ne_true]
      by_cases c1 : b = 34 ∨ b = 39
      · rw [if_pos c1]; exact goes_quote h w hw hf hi c1
      rw [if_neg c1]
      by_cases c2 : b = 96
      · rw [if_pos c2]; subst c2; exact goes_grave h w
      rw [if_neg c2]
      by_cases c3 : b = 47
      · rw [if_pos c3]; subst c3; exact goes_slash h w
      rw [if_neg c3]
      by_cases c4 : b = 60 ∧ x.pieces = 0
      · rw [if_pos c4]
        obtain ⟨c5, c6⟩ := c4
        subst c5
        exact goes_less h w c6
      rw [if_neg c4]
      have hb : m.byte b = if signs.contains b then m.sign b else m.fail := by
        rw [byte0 h.at0]; unfold M.begin
        rw [hf, hw, hi, if_neg Bool.false_ne_true, if_neg Bool.false_ne_true, if_neg Bool.false_ne_true, if_neg c1, if_neg c2, if_neg c3, if_neg (by rw [h.pieces]; exact c4)]
      cases hc : signs.contains b with
      | true => rw [hc, if_pos rfl] at hb; rw [if_pos rfl]; exact goes_sign h w hb
      | false =>
        rw [hc, if_neg Bool.false_ne_true] at hb
        rw [if_neg Bool.false_ne_true]
        exact goes_fail h w ⟨m, hb, rfl, rfl⟩ h.xbad x rfl
theorem seen_feed (r : List UInt8) : ∀ m : M, W m r → (m.feed r).seen = m.seen + r.length := by
  induction r with
  | nil => intro m _; simp [M.feed]
  | cons b r ih =>
    intro m w
    have h1 := w.1
    have h2 := w.2
    simp only [List.length_cons] at h2
    have hs : (m.step b).seen = m.seen + 1 := by
      cases hb : m.bad with
      | true => rw [step_bad m b hb]; exact w64_in (by omega) (by omega)
      | false => rw [step_good m b hb]; show w64 ((m.byte b).seen + 1) = _; rw [(byte_nx m b).seen]; exact w64_in (by omega) (by omega)
    rw [feed_cons, ih (m.step b) ⟨by omega, by omega⟩, hs]; simp; omega
theorem read_end : ∀ (f : Nat) (r : List UInt8) (m : M) (x : R) (a : Nat), r.length < f → a + r.length ≤ 1152921504606846976 → Rel m x a → End (m.feed r) (readX f x a r) := by
  intro f
  induction f with
  | zero => intro r m x a hf; omega
  | succ f ih =>
    intro r m x a hf hw h
    have hs := h.seen
    match r, hf, hw with
    | [], _, _ => exact h.rin.fin (.inl rfl)
    | b :: r, hf, hw =>
      have w : W m (b :: r) := ⟨by omega, by omega⟩
      have hg := next_goes h w
      unfold readX
      cases hn : nextX x a b r with
      | mk y o =>
        rw [hn] at hg
        cases o with
        | none => exact hg
        | some k =>
          obtain ⟨k1, k2, hk⟩ := hg
          simp only
          rcases hk with ⟨hd, he⟩ | ⟨m', he, hr⟩
          · rw [hd]
            have : readX f y (a + k) [] = y := by cases f <;> rfl
            rw [this]; exact he
          · rw [he]
            have hlen : ((b :: r).drop k).length = (b :: r).length - k := by simp
            refine ih _ m' y (a + k) ?_ ?_ hr
            · omega
            · omega
theorem start_rel (d : Int) : Rel (new d) (start d) 0 := ⟨rfl, rfl, rfl, rfl, rfl, fun t ht => (by cases ht), rfl, .inl rfl, rfl, rfl, rfl, rfl, rfl, rfl⟩
/-- THE LAW -/
theorem read_law (s : List UInt8) (d : Int) (hs : s.length ≤ 1000000) : End ((new d).feed s) (read s d) :=
  read_end (s.length + 1) s (new d) (start d) 0 (Nat.lt_succ_self _) (by omega) (start_rel d)
end Tg.Rd
/-
  The reference of layer 28: what stands at a place; all bytes.
-/
set_option linter.unusedSimpArgs false
set_option linter.unusedVariables false
set_option maxRecDepth 100000
namespace Tg.Rd
open Tg.Js
/-- what is open is not deeper than it may be -/
def Dp (x : R) (o : List UInt8) : Prop := (o.length : Int) ≤ x.depth
section
variable {x : R} {a : Int} {b : UInt8} {r : List UInt8}
def DpX (x : R) (y : R × Option Nat) : Prop := (y.1.opn.length : Int) ≤ y.1.depth ∧ y.1.depth = x.depth
theorem dp_map {x x' : R} {y : R × Option Nat} {f : Option Nat → Option Nat} (h : DpX x' y) (e : x'.depth = x.depth) : DpX x (y.1, f y.2) := ⟨h.1, h.2.trans e⟩
theorem dp_line (h : (x.opn.length : Int) ≤ x.depth) (o : Option Nat) : DpX x ((line x r).1, o) := by
  unfold line; split <;> exact ⟨h, rfl⟩
theorem dp_quote (h : (x.opn.length : Int) ≤ x.depth) : DpX x (quoteX x a r b) := by
  unfold quoteX; split
  · exact ⟨h, rfl⟩
  split <;> exact ⟨h, rfl⟩
theorem dp_grave (h : (x.opn.length : Int) ≤ x.depth) : DpX x (graveX x a r) := by
  unfold graveX; split
  · exact ⟨h, rfl⟩
  split
  · split
    · exact ⟨h, rfl⟩
    · refine ⟨?_, rfl⟩
      show ((x.opn ++ [36]).length : Int) ≤ x.depth
      simp; omega
  · exact ⟨h, rfl⟩
theorem dp_pattern (h : (x.opn.length : Int) ≤ x.depth) : DpX x (patternX x a r) := by
  unfold patternX; split
  · exact ⟨h, rfl⟩
  split <;> exact ⟨h, rfl⟩
theorem dp_slash (h : (x.opn.length : Int) ≤ x.depth) : DpX x (slashX x a r) := by
  unfold slashX
  split
  · split
    · exact dp_line h _
    split
    · split <;> exact ⟨h, rfl⟩
    split
    · exact ⟨h, rfl⟩
    · exact dp_map (x' := x.piece) (dp_pattern h) rfl
  · exact ⟨h, rfl⟩
theorem dp_less (h : (x.opn.length : Int) ≤ x.depth) : DpX x (lessX x a r) := by
  unfold lessX
  repeat' split
  all_goals first | exact dp_line h _ | exact ⟨h, rfl⟩
theorem dp_sign (h : (x.opn.length : Int) ≤ x.depth) : DpX x (signX x a b r) := by
  unfold signX
  dsimp only
  split
  · split
    · exact ⟨h, rfl⟩
    · rename_i hx
      refine ⟨?_, rfl⟩
      show ((x.opn ++ [b]).length : Int) ≤ x.depth
      have : ¬ ((x.opn.length : Int) = x.depth) := hx
      simp; omega
  split
  · split <;> exact ⟨h, rfl⟩
  · have hdl : ((x.opn.dropLast.length : Nat) : Int) ≤ x.depth := by simp; omega
    split
    · exact ⟨h, rfl⟩
    · split
      · exact dp_map (x' := { x.piece with opn := x.piece.opn.dropLast }) (dp_grave hdl) rfl
      split
      · exact ⟨h, rfl⟩
      split
      · exact ⟨hdl, rfl⟩
      · split <;> exact ⟨hdl, rfl⟩
theorem dp_next (h : (x.opn.length : Int) ≤ x.depth) : DpX x (nextX x a b r) := by
  unfold nextX
  split
  · exact ⟨h, rfl⟩
  split
  · unfold wordX; split
    · exact ⟨h, rfl⟩
    · exact ⟨h, rfl⟩
  split
  · split
    · exact ⟨h, rfl⟩
    · exact dp_map (x' := x.piece) (dp_quote h) rfl
  split
  · exact dp_map (x' := x.piece) (dp_grave h) rfl
  split
  · exact dp_slash h
  split
  · exact dp_less h
  split
  · exact dp_sign h
  · exact ⟨h, rfl⟩
end
end Tg.Rd
namespace Go.Proofs.YtgnefbngkhjfcaaGreatDoor.Rd
open Go.Lg Tg.Rd
open Tg.Js (w64 letter digit feedB white inner isKeyword signs)
section
variable {H : LH} {b : UInt8} {x y : R} {p a : Nat} {s : List UInt8}
theorem signs_lit : ∀ b : UInt8, b ≠ 47 → ([123, 125, 40, 41, 91, 93, 59, 44, 60, 62, 61, 33, 43, 45, 42, 37, 38, 124, 94, 126, 63, 58, 46] : List UInt8).contains b = signs.contains b := by
  have h : ∀ n : Fin 256, (UInt8.ofNat n.val) ≠ 47 → ([123, 125, 40, 41, 91, 93, 59, 44, 60, 62, 61, 33, 43, 45, 42, 37, 38, 124, 94, 126, 63, 58, 46] : List UInt8).contains (UInt8.ofNat n.val) = signs.contains (UInt8.ofNat n.val) := by decide +kernel
  intro b hb
  have := h ⟨b.toNat, b.toNat_lt⟩
  simp only [UInt8.ofNat_toNat] at this
  exact this hb
set_option maxHeartbeats 4000000 in
theorem nextP (hd : ∀ l, H.n ≤ l → H.get l = none) (ho : x.opn.length ≤ 1000) (hp : p < H.n) (hs : s.length ≤ 1000000) (ha : a < s.length) : LC Tryz.prog EJ 42 [ptr p 0, str s, .int .i64 a] (H.set p (rb x)) = some (.int .i64 (kv a (nextX x a (at_ s a) (s.drop (a + 1))).2), H.set p (rb (nextX x a (at_ s a) (s.drop (a + 1))).1)) := by
  refine own rfl Tryz.func42 rfl (Nat.le_of_ble_eq_true rfl) (by decide) (by kernel_rfl) hp ?_
  have w1 := wr1 (i := a) (by omega)
  have l0 : ((a : Int) < (s.length : Int)) = True := eq_true (by omega)
  have hwd := wordP (x := x) hd hp hs ha
  have hsl := slashP (x := x) hp hs ha
  have hls := lessP (x := x) hp hs ha
  have hsg := signP (x := x) ho hp hs ha
  have hgr := graveP (x := x.piece) (s := s) (a := a + 1) ho hp hs (by omega)
  have hqu := quoteP (x := x.piece) (s := s) (a := a + 1) (b := at_ s a) hp hs (by omega)
  rw [show ((a + 1 : Nat) : Int) = (a : Int) + 1 from rfl] at hgr hqu
  rw [drop_at ha] at hwd hsl hls
  obtain ⟨b, hb⟩ : ∃ b, at_ s a = b := ⟨_, rfl⟩
  rw [hb] at hwd hsl hls hsg hqu ⊢
  have hH : ∀ K, LC Tryz.prog EJ 60 [str [123, 125, 40, 41, 91, 93, 59, 44, 60, 62, 61, 33, 43, 45, 42, 37, 38, 124, 94, 126, 63, 58, 46], .int .u8 b.toNat] K = some (.bool (([123, 125, 40, 41, 91, 93, 59, 44, 60, 62, 61, 33, 43, 45, 42, 37, 38, 124, 94, 126, 63, 58, 46] : List UInt8).contains b), K) := fun K => has_l (by simp)
  unfold nextX
  cases hw : white b with
  | true =>
    have hc : ((9 ≤ (b.toNat : Int)) = True ∧ ((b.toNat : Int) ≤ 13) = True) ∨ ((9 ≤ (b.toNat : Int)) = True ∧ ((b.toNat : Int) ≤ 13) = False ∧ (b = 32) = True) := by
      unfold white at hw
      simp only [Bool.or_eq_true, Bool.and_eq_true, decide_eq_true_eq] at hw
      rcases hw with rfl | ⟨h1, h2⟩
      · exact .inr ⟨eq_true (by decide), eq_false (by decide), eq_true rfl⟩
      · exact .inl ⟨eq_true h1, eq_true h2⟩
    rcases hc with ⟨f1, f2⟩ | ⟨f1, f2, f3⟩
    · cases hbr : x.broken <;> simp (config := { maxSteps := 4000000 }) [hp, hb, l0, w1, f1, f2, hbr, feed_l, kv]
    · cases hbr : x.broken <;> simp (config := { maxSteps := 4000000 }) [hp, hb, l0, w1, f1, f2, f3, hbr, feed_l, kv]
      all_goals rfl
  | false =>
    rw [if_neg Bool.false_ne_true]
    have hc : ((9 ≤ (b.toNat : Int)) = False ∧ (b = 32) = False) ∨ ((9 ≤ (b.toNat : Int)) = True ∧ ((b.toNat : Int) ≤ 13) = False ∧ (b = 32) = False) := by
      unfold white at hw
      rw [Bool.or_eq_false_iff, Bool.and_eq_false_iff] at hw
      simp only [decide_eq_false_iff_not] at hw
      obtain ⟨h1, h2⟩ := hw
      by_cases h9 : 9 ≤ (b.toNat : Int)
      · exact .inr ⟨eq_true h9, eq_false (by omega), eq_false h1⟩
      · exact .inl ⟨eq_false h9, eq_false h1⟩
    cases hi : inner b with
    | true =>
      rw [if_pos rfl]
      rcases hc with ⟨f1, f3⟩ | ⟨f1, f2, f3⟩
      · simp (config := { maxSteps := 4000000 }) [hp, hb, l0, f1, f3, inner_l, hi, hwd]
      · simp (config := { maxSteps := 4000000 }) [hp, hb, l0, f1, f2, f3, inner_l, hi, hwd]
    | false =>
      rw [if_neg Bool.false_ne_true]
      by_cases c1 : b = 34 ∨ b = 39
      · rw [if_pos c1]
        have q : ((b = 34) = True) ∨ ((b = 34) = False ∧ (b = 39) = True) := by
          rcases c1 with h | h
          · exact .inl (eq_true h)
          · exact .inr ⟨eq_false (by rw [h]; decide), eq_true h⟩
        cases hj : x.joined with
        | true =>
          rw [if_pos rfl]
          rcases hc with ⟨f1, f3⟩ | ⟨f1, f2, f3⟩ <;> rcases q with q1 | ⟨q1, q2⟩
          · simp (config := { maxSteps := 4000000 }) [hp, hb, l0, f1, f3, inner_l, hi, q1, joined_l, hj, fail_l, kv]
          · simp (config := { maxSteps := 4000000 }) [hp, hb, l0, f1, f3, inner_l, hi, q1, q2, joined_l, hj, fail_l, kv]
          · simp (config := { maxSteps := 4000000 }) [hp, hb, l0, f1, f2, f3, inner_l, hi, q1, joined_l, hj, fail_l, kv]
          · simp (config := { maxSteps := 4000000 }) [hp, hb, l0, f1, f2, f3, inner_l, hi, q1, q2, joined_l, hj, fail_l, kv]
        | false =>
          rw [if_neg Bool.false_ne_true]
          rcases hc with ⟨f1, f3⟩ | ⟨f1, f2, f3⟩ <;> rcases q with q1 | ⟨q1, q2⟩
          · simp (config := { maxSteps := 4000000 }) [hp, hb, l0, w1, f1, f3, inner_l, hi, q1, joined_l, hj, piece_eq, hqu, kv_map]
          · simp (config := { maxSteps := 4000000 }) [hp, hb, l0, w1, f1, f3, inner_l, hi, q1, q2, joined_l, hj, piece_eq, hqu, kv_map]
          · simp (config := { maxSteps := 4000000 }) [hp, hb, l0, w1, f1, f2, f3, inner_l, hi, q1, joined_l, hj, piece_eq, hqu, kv_map]
          · simp (config := { maxSteps := 4000000 }) [hp, hb, l0, w1, f1, f2, f3, inner_l, hi, q1, q2, joined_l, hj, piece_eq, hqu, kv_map]
      · rw [if_neg c1]
        have q1 : (b = 34) = False := eq_false (fun h => c1 (.inl h))
        have q2 : (b = 39) = False := eq_false (fun h => c1 (.inr h))
        by_cases c2 : b = 96
        · rw [if_pos c2]
          have q3 := eq_true c2
          rcases hc with ⟨f1, f3⟩ | ⟨f1, f2, f3⟩
          · simp (config := { maxSteps := 4000000 }) [hp, hb, l0, w1, f1, f3, inner_l, hi, q1, q2, q3, piece_eq, hgr, kv_map]
          · simp (config := { maxSteps := 4000000 }) [hp, hb, l0, w1, f1, f2, f3, inner_l, hi, q1, q2, q3, piece_eq, hgr, kv_map]
        rw [if_neg c2]
        have q3 := eq_false c2
        by_cases c3 : b = 47
        · rw [if_pos c3]
          have q4 := eq_true c3
          have hsl' := hsl c3
          rcases hc with ⟨f1, f3⟩ | ⟨f1, f2, f3⟩
          · simp (config := { maxSteps := 4000000 }) [hp, hb, l0, w1, f1, f3, inner_l, hi, q1, q2, q3, q4, hsl']
          · simp (config := { maxSteps := 4000000 }) [hp, hb, l0, w1, f1, f2, f3, inner_l, hi, q1, q2, q3, q4, hsl']
        rw [if_neg c3]
        have q4 := eq_false c3
        by_cases c4 : b = 60 ∧ x.pieces = 0
        · rw [if_pos c4]
          have q5 := eq_true c4.1
          have q6 := eq_true c4.2
          rcases hc with ⟨f1, f3⟩ | ⟨f1, f2, f3⟩
          · simp (config := { maxSteps := 4000000 }) [hp, hb, l0, w1, f1, f3, inner_l, hi, q1, q2, q3, q4, q5, q6, hls]
          · simp (config := { maxSteps := 4000000 }) [hp, hb, l0, w1, f1, f2, f3, inner_l, hi, q1, q2, q3, q4, q5, q6, hls]
        rw [if_neg c4]
        have q : ((b = 60) = True ∧ (x.pieces = 0) = False) ∨ (b = 60) = False := by
          by_cases h : b = 60
          · exact .inl ⟨eq_true h, eq_false (fun h2 => c4 ⟨h, h2⟩)⟩
          · exact .inr (eq_false h)
        rw [signs_lit b c3] at hH
        cases hsc : signs.contains b with
        | true =>
          rw [if_pos rfl]
          rw [hsc] at hH
          rcases hc with ⟨f1, f3⟩ | ⟨f1, f2, f3⟩ <;> rcases q with ⟨q5, q6⟩ | q5
          · simp (config := { maxSteps := 4000000 }) [hp, hb, l0, w1, f1, f3, inner_l, hi, q1, q2, q3, q4, q5, q6, hH, hsg]
          · simp (config := { maxSteps := 4000000 }) [hp, hb, l0, w1, f1, f3, inner_l, hi, q1, q2, q3, q4, q5, hH, hsg]
          · simp (config := { maxSteps := 4000000 }) [hp, hb, l0, w1, f1, f2, f3, inner_l, hi, q1, q2, q3, q4, q5, q6, hH, hsg]
          · simp (config := { maxSteps := 4000000 }) [hp, hb, l0, w1, f1, f2, f3, inner_l, hi, q1, q2, q3, q4, q5, hH, hsg]
        | false =>
          rw [if_neg Bool.false_ne_true]
          rw [hsc] at hH
          rcases hc with ⟨f1, f3⟩ | ⟨f1, f2, f3⟩ <;> rcases q with ⟨q5, q6⟩ | q5
          · simp (config := { maxSteps := 4000000 }) [hp, hb, l0, w1, f1, f3, inner_l, hi, q1, q2, q3, q4, q5, q6, hH, fail_l, kv]
          · simp (config := { maxSteps := 4000000 }) [hp, hb, l0, w1, f1, f3, inner_l, hi, q1, q2, q3, q4, q5, hH, fail_l, kv]
          · simp (config := { maxSteps := 4000000 }) [hp, hb, l0, w1, f1, f2, f3, inner_l, hi, q1, q2, q3, q4, q5, q6, hH, fail_l, kv]
          · simp (config := { maxSteps := 4000000 }) [hp, hb, l0, w1, f1, f2, f3, inner_l, hi, q1, q2, q3, q4, q5, hH, fail_l, kv]
end
end Go.Proofs.YtgnefbngkhjfcaaGreatDoor.Rd
/-
  The reference of layer 28: all bytes.
-/
set_option linter.unusedSimpArgs false
set_option linter.unusedVariables false
set_option maxRecDepth 100000
namespace Go.Proofs.YtgnefbngkhjfcaaGreatDoor.Rd
open Go.Lg Tg.Rd
open Tg.Js (w64 letter digit feedB white inner isKeyword signs)
section
variable {H : LH} {b : UInt8} {x y : R} {p a : Nat} {s : List UInt8}
def sv (x : R) : Value := .agg ⟨rcs x⟩
@[simp] theorem flat_sv : flatB (sv x) = true := by simp [sv, rcs, flatB, flat1B]
theorem start_eq {d : Int} : (⟨[.int .i64 (-1), .bool false, str [], .int .i64 0, .int .i64 0, .int .i64 0, .bool false, .int .i64 d], 47, true⟩ : LB) = rb (Tg.Rd.start d) := rfl
def z0 : R := ⟨0, false, [], 0, 0, 0, false, 0⟩
theorem zero_eq : (⟨[.int .i64 0, .bool false, str [], .int .i64 0, .int .i64 0, .int .i64 0, .bool false, .int .i64 0], 47, true⟩ : LB) = rb z0 := rfl
theorem readX_nil {f i : Nat} : readX f x i [] = x := by cases f <;> rfl
def pl (o : Option Nat) : Int := match o with | some i => (i : Int) | none => -1
/-- where reading stands, and that it comes to Z -/
def Ok (s : List UInt8) (d : Int) (Z : R) (o : Option Nat) (x : R) : Prop :=
  match o with
  | none => x = Z
  | some i => i ≤ s.length ∧ (x.opn.length : Int) ≤ x.depth ∧ x.depth = d ∧ (i < s.length → ∃ m, Tg.Rd.Rel m x i) ∧ ∃ f, s.length - i < f ∧ readX f x i (s.drop i) = Z
theorem cells_rb : (rb x).cells = [.int .i64 x.bad, .bool x.within, str x.opn, .int .i64 x.pieces, .int .i64 x.ends, .int .i64 x.last, .bool x.broken, .int .i64 x.depth] := rfl
theorem read_l {d : Int} (h0 : 0 ≤ d) (h1 : d ≤ 200) (hd : ∀ l, H.n ≤ l → H.get l = none) (hs : s.length ≤ 1000000) : LC Tryz.prog EJ 25 [str s, .int .i64 d] H = some (sv (read s d), H) := by
  refine LC_pure rfl Tryz.func25 rfl (Nat.le_of_ble_eq_true rfl) (by decide) (by kernel_rfl) flat_sv ?_
  obtain ⟨Z, hZ⟩ : ∃ Z, read s d = Z := ⟨_, rfl⟩
  rw [hZ]
  simp (config := { maxSteps := 4000000 }) [start_eq, zero_eq]
  have hd2 : ∀ l, ((H.new (rb z0)).new (rb (Tg.Rd.start d))).n ≤ l → ((H.new (rb z0)).new (rb (Tg.Rd.start d))).get l = none := fun l hl => by
    have hl' : H.n + 1 + 1 ≤ l := hl
    rw [get_new_ne (by show l ≠ H.n + 1; omega), get_new_ne (by omega)]; exact hd l (by omega)
  have hpn : H.n + 1 < ((H.new (rb z0)).new (rb (Tg.Rd.start d))).n := Nat.lt_succ_self _
  have hK0 : ((H.new (rb z0)).new (rb (Tg.Rd.start d))).get (H.n + 1) = some (rb (Tg.Rd.start d)) := get_new
  have hleK : H.le ((H.new (rb z0)).new (rb (Tg.Rd.start d))) := le_refl.new.new
  have hgz : ((H.new (rb z0)).new (rb (Tg.Rd.start d))).get H.n = some (rb z0) := by rw [get_new_ne (by show H.n ≠ H.n + 1; omega)]; exact get_new
  have hnz : H.n < ((H.new (rb z0)).new (rb (Tg.Rd.start d))).n := by show H.n < H.n + 1 + 1; omega
  generalize (H.new (rb z0)).new (rb (Tg.Rd.start d)) = K at *
  refine loop_ind (fun (st : Option Nat × R) fr' H' => fr' 0 = str s ∧ fr' 4 = ptr H.n 0 ∧ fr' 5 = ptr (H.n + 1) 0 ∧ fr' 6 = .int .i64 (pl st.1) ∧ Ok s d Z st.1 st.2 ∧ H' = K.set (H.n + 1) (rb st.2)) (fun st => match st.1 with | some i => s.length - i + 1 | none => 0) (some 0, Tg.Rd.start d) ?_ ?_
  · exact ⟨by simp, by simp, by simp, by simp [pl], ⟨Nat.zero_le _, h0, rfl, fun _ => ⟨_, start_rel d⟩, _, Nat.lt_succ_self _, hZ⟩, (Go.Proofs.YtgnefbngkhjfcaaGreatDoor.set_self hK0).symm⟩
  rintro ⟨o, x⟩ fr' H' ⟨g0, g4, g5, g6, hok, rfl⟩ ih
  dsimp only at g6 hok ih
  have hle : H.le (K.set (H.n + 1) (rb x)) := hleK.set (Nat.le_succ _)
  cases o with
  | none =>
    have e : x = Z := hok
    subst e
    have gm : fr' 6 = .int .i64 (-1) := g6
    simp (config := { maxSteps := 4000000 }) [g0, g4, g5, gm, hpn, hnz, hgz, sv, rcs, cells_rb, splice, hle.set]
  | some i =>
    obtain ⟨hi, hdp, hde, hrel, f, hf, hr⟩ := hok
    have gi : fr' 6 = .int .i64 (i : Int) := g6
    by_cases hlt : i < s.length
    · have hn := nextP (H := K) (x := x) (p := H.n + 1) (s := s) (a := i) hd2 (by omega) hpn hs hlt
      have hdn := dp_next (a := (i : Int)) (b := at_ s i) (r := s.drop (i + 1)) hdp
      obtain ⟨m, hm⟩ := hrel hlt
      have hw : W m (at_ s i :: s.drop (i + 1)) := ⟨by rw [hm.seen]; omega, by rw [hm.seen]; simp; omega⟩
      have hg := next_goes hm hw
      rw [drop_at hlt] at hr
      obtain ⟨f, rfl⟩ : ∃ f', f = f' + 1 := ⟨f - 1, by omega⟩
      unfold readX at hr
      have hlt' : ((i : Int) < (s.length : Int)) = True := eq_true (by omega)
      cases hx : nextX x i (at_ s i) (s.drop (i + 1)) with
      | mk y o =>
        rw [hx] at hn hdn hg hr
        cases o with
        | none =>
          simp (config := { maxSteps := 4000000 }) [g0, g4, g5, gi, hlt', hn]
          exact ih (none, y) _ _ (by show 0 < s.length - i + 1; omega) ⟨by simp [g0], by simp [g4], by simp [g5], by simp [pl, kv], hr, rfl⟩
        | some k =>
          obtain ⟨k1, k2, k3⟩ := hg
          simp only [List.length_cons, List.length_drop] at k2
          simp only at hr
          simp (config := { maxSteps := 4000000 }) [g0, g4, g5, gi, hlt', hn]
          have hdr : (at_ s i :: s.drop (i + 1)).drop k = s.drop (i + k) := by rw [← drop_at hlt, List.drop_drop]
          rw [hdr] at hr k3
          refine ih (some (i + k), y) _ _ (by show s.length - (i + k) + 1 < s.length - i + 1; omega) ⟨by simp [g0], by simp [g4], by simp [g5], by simp [pl, kv], ⟨by omega, hdn.1, hdn.2.trans hde, fun hl2 => ?_, f, by omega, hr⟩, rfl⟩
          rcases k3 with ⟨k3, _⟩ | ⟨m', _, hm'⟩
          · have := congrArg List.length k3
            simp at this; omega
          · exact ⟨m', hm'⟩
    · have hlt' : ((i : Int) < (s.length : Int)) = False := eq_false (by omega)
      rw [List.drop_eq_nil_of_le (by omega), readX_nil] at hr
      subst hr
      simp (config := { maxSteps := 4000000 }) [g0, g4, g5, gi, hlt', hpn, hnz, hgz, sv, rcs, cells_rb, splice, hle.set]
end
end Go.Proofs.YtgnefbngkhjfcaaGreatDoor.Rd
/-
  The reference of layer 29 (each beginning anew) in plain Lean, and the law: it comes to what the machine comes to. No program in sight.
-/
set_option linter.unusedSimpArgs false
set_option linter.unusedVariables false
namespace Tg.Json
/-! ### a blank behind a blank -/
theorem jpos_blank (m : M) (hr : (32 : UInt8) ∉ m.rest) (h : m.state = 1) (h1 : (m.byte 32).state = 1) : (m.byte 32).pos ≤ 6 := by
  have hw : white 32 = true := by decide
  unfold M.byte at h1 ⊢
  by_cases c0 : m.pos = 0 ∨ m.pos = 1
  · rw [if_pos c0, hw, if_pos rfl]; omega
  rw [if_neg c0] at h1 ⊢
  by_cases c1 : m.pos = 2 ∨ m.pos = 3
  · rw [if_pos c1]; unfold M.names; rw [hw, if_pos rfl]; omega
  rw [if_neg c1] at h1 ⊢
  by_cases c2 : m.pos = 4
  · rw [if_pos c2, hw, if_pos rfl]; omega
  rw [if_neg c2] at h1 ⊢
  by_cases c3 : m.pos = 5
  · rw [if_pos c3]; unfold M.after; dsimp only; rw [hw, if_pos rfl]; show 5 ≤ 6; omega
  rw [if_neg c3] at h1 ⊢
  by_cases c4 : m.pos = 6
  · rw [if_pos c4]; unfold M.inText; rw [if_neg (by decide), if_neg (by decide), if_neg (by decide)]; omega
  rw [if_neg c4] at h1 ⊢
  by_cases c5 : m.pos = 7
  · rw [if_pos c5] at h1; unfold M.inSlash at h1; rw [if_neg (by decide), if_neg (by decide)] at h1; cases h1
  rw [if_neg c5] at h1 ⊢
  by_cases c6 : m.pos = 8
  · rw [if_pos c6] at h1; unfold M.inUnicode at h1; rw [if_neg (by decide)] at h1; cases h1
  rw [if_neg c6] at h1 ⊢
  by_cases c7 : m.pos = 9
  · rw [if_pos c7] at h1 ⊢; unfold M.inWord at h1 ⊢
    have hx : ¬ m.rest.head? = some 32 := fun e => hr (List.mem_of_mem_head? e)
    rw [if_neg hx] at h1; cases h1
  rw [if_neg c7] at h1 ⊢
  unfold M.inNumber at h1 ⊢
  have e1 : digit 32 = false := by decide
  have e2 : isE 32 = false := by decide
  rw [e1, e2] at h1 ⊢
  simp only [Bool.false_eq_true, and_false, if_false, show ¬ ((32 : UInt8) = 48) by decide, show ¬ ((32 : UInt8) = 43) by decide, show ¬ ((32 : UInt8) = 45) by decide, show ¬ ((32 : UInt8) = 46) by decide, or_self] at h1 ⊢
  split
  · unfold M.after; dsimp only; rw [hw, if_pos rfl]; show 5 ≤ 6; omega
  · rename_i hx; rw [if_neg hx] at h1; cases h1
theorem byte_calm (m : M) (h : m.pos ≤ 6) : m.byte 32 = m := by
  have hw : white 32 = true := by decide
  unfold M.byte
  by_cases c0 : m.pos = 0 ∨ m.pos = 1
  · rw [if_pos c0, hw, if_pos rfl]
  rw [if_neg c0]
  by_cases c1 : m.pos = 2 ∨ m.pos = 3
  · rw [if_pos c1]; unfold M.names; rw [hw, if_pos rfl]
  rw [if_neg c1]
  by_cases c2 : m.pos = 4
  · rw [if_pos c2, hw, if_pos rfl]
  rw [if_neg c2]
  by_cases c3 : m.pos = 5
  · rw [if_pos c3]; unfold M.after; dsimp only; rw [hw, if_pos rfl]; cases m; simp at c3; simp [c3]
  rw [if_neg c3]
  rw [if_pos (by omega)]; unfold M.inText; rw [if_neg (by decide), if_neg (by decide), if_neg (by decide)]
theorem rest_after (m : M) (b : UInt8) : (m.after b).rest = m.rest := by
  unfold M.after M.pop M.fail; dsimp only; repeat' split
  all_goals rfl
theorem rest_push (m : M) (b : UInt8) (p : Nat) : (m.push b p).rest = m.rest := by
  unfold M.push M.fail; split <;> rfl
theorem rest_first (m : M) (b : UInt8) (h : (32 : UInt8) ∉ m.rest) : (32 : UInt8) ∉ (m.first b).rest := by
  unfold M.first
  split
  · rw [rest_push]; exact h
  split
  · rw [rest_push]; exact h
  split
  · exact h
  split
  · exact h
  split
  · exact h
  split
  · exact h
  split
  · show (32 : UInt8) ∉ [114, 117, 101]; decide
  split
  · show (32 : UInt8) ∉ [97, 108, 115, 101]; decide
  split
  · show (32 : UInt8) ∉ [117, 108, 108]; decide
  · exact h
theorem rest_num (m : M) (b : UInt8) : (m.inNumber b).rest = m.rest := by
  unfold M.inNumber
  split
  · rfl
  split
  · rfl
  split
  · rfl
  split
  · rfl
  split
  · rfl
  split
  · rfl
  split
  · rfl
  split
  · exact rest_after m b
  · rfl
theorem rest_byte (m : M) (b : UInt8) (h : (32 : UInt8) ∉ m.rest) : (32 : UInt8) ∉ (m.byte b).rest := by
  unfold M.byte
  split
  · split
    · exact h
    split
    · exact h
    · exact rest_first m b h
  split
  · unfold M.names; repeat' split
    all_goals exact h
  split
  · repeat' split
    all_goals exact h
  split
  · rw [rest_after]; exact h
  split
  · unfold M.inText; repeat' split
    all_goals exact h
  split
  · unfold M.inSlash; repeat' split
    all_goals exact h
  split
  · unfold M.inUnicode; repeat' split
    all_goals exact h
  split
  · unfold M.inWord; repeat' split
    · exact fun hx => h (List.mem_of_mem_tail hx)
    · exact fun hx => h (List.mem_of_mem_tail hx)
    · exact h
  · rw [rest_num]; exact h
theorem rest_feed1 (m : M) (b : UInt8) (h : (32 : UInt8) ∉ m.rest) : (32 : UInt8) ∉ (m.feed1 b).rest := by
  unfold M.feed1; dsimp only
  split
  · exact rest_byte _ b h
  · exact h
theorem rest_feed (l : List UInt8) : ∀ m : M, (32 : UInt8) ∉ m.rest → (32 : UInt8) ∉ (m.feed l).rest := by
  induction l with
  | nil => intro m h; exact h
  | cons b r ih => intro m h; exact ih _ (rest_feed1 m b h)
theorem beg32 (m : M) : m.beg 32 = m := by
  have hw : white 32 = true := by decide
  unfold M.beg; rw [hw]; cases m; simp
theorem tell_stuck {m : M} (h : m.state ≠ 1) : m.tell = m.state := by unfold M.tell; rw [if_neg (fun x => h x.1)]
theorem tell_blank (m : M) (hr : (32 : UInt8) ∉ m.rest) : ((m.feed1 32).feed1 32).tell = (m.feed1 32).tell := by
  by_cases h2 : (m.feed1 32).state = 1
  · have h : m.state = 1 := by
      refine Classical.byContradiction (fun hne => ?_)
      have := (feed_stuck [32] m hne).1
      have e : (m.feed [32]) = m.feed1 32 := rfl
      rw [e] at this; omega
    rw [feed1_open h2, beg32]
    rw [feed1_open h, beg32] at h2 ⊢
    have hp := jpos_blank m hr h h2
    have hq : ({ m.byte 32 with seen := m.seen + 1 } : M).byte 32 = { m.byte 32 with seen := m.seen + 1 } := byte_calm _ hp
    rw [hq]; rfl
  · have := (feed_stuck [32] (m.feed1 32) h2).1
    have e : (m.feed1 32).feed [32] = (m.feed1 32).feed1 32 := rfl
    rw [e] at this
    rw [tell_stuck h2, tell_stuck (by rw [this]; exact h2), this]
end Tg.Json
namespace Tg.Js
/-- a blank turns nothing -/
def Calm (m : M) : Prop := m.at_ = 0 ∨ m.at_ = 10 ∨ m.at_ = 11 ∨ (m.at_ ≠ 1 ∧ m.at_ ≠ 2 ∧ m.at_ ≠ 8 ∧ m.at_ ≠ 5 ∧ m.at_ ≠ 9 ∧ m.at_ ≠ 12 ∧ m.at_ ≠ 13 ∧ m.at_ ≠ 14 ∧ m.at_ ≠ 15 ∧ m.taken = false ∧ m.by_ ≠ 32)
theorem begin32 (m : M) : m.begin 32 = m := by
  unfold M.begin
  rw [show feedB 32 = false by decide, show white 32 = true by decide]; simp
theorem inText32 {m : M} (h : m.taken = false) (hb : m.by_ ≠ 32) : m.inText 32 = m := by
  unfold M.inText
  rw [h, show feedB 32 = false by decide]
  have e1 : ¬ (32 : UInt8) = m.by_ := fun e => hb e.symm
  simp only [Bool.false_eq_true, if_false, and_false, e1, false_and, show ¬ ((32 : UInt8) = 92) by decide, show ¬ ((32 : UInt8) = 93) by decide, show ¬ ((32 : UInt8) = 91) by decide, show ¬ ((32 : UInt8) = 36) by decide]
  split <;> rfl
theorem inText32t {m : M} (h : m.taken = true) : m.inText 32 = { m with taken := false } := by
  unfold M.inText; rw [if_pos h]
theorem calm_byte {m : M} (h : Calm m) : (m.byte 32).bad = m.bad ∧ (m.byte 32).ends = m.ends := by
  rcases h with h | h | h | ⟨h1, h2, h3, h4, h5, h6, h7, h8, h9, ht, hb⟩
  · unfold M.byte; rw [if_pos h, begin32]; exact ⟨rfl, rfl⟩
  · unfold M.byte M.inRemark; rw [show feedB 32 = false by decide]; simp [h]
  · unfold M.byte M.inRemark; rw [show feedB 32 = false by decide]; simp [h]
  · unfold M.byte
    by_cases h0 : m.at_ = 0
    · rw [if_pos h0, begin32]; exact ⟨rfl, rfl⟩
    by_cases h10 : m.at_ = 10
    · unfold M.inRemark; rw [show feedB 32 = false by decide]; simp [h10]
    by_cases h11 : m.at_ = 11
    · unfold M.inRemark; rw [show feedB 32 = false by decide]; simp [h11]
    simp only [h0, h1, h2, h3, h4, h5, h6, h7, h8, h9, h10, h11, or_self, if_false]
    rw [inText32 ht hb]; exact ⟨rfl, rfl⟩
theorem text_calm {m : M} {k : Int} (hk : k = 3 ∨ k = 4 ∨ k = 6 ∨ k = 7) (ha : m.at_ = k) (ht : m.taken = false) (hb : m.by_ ≠ 32) : Calm m := by
  refine .inr (.inr (.inr ⟨?_, ?_, ?_, ?_, ?_, ?_, ?_, ?_, ?_, ht, hb⟩)) <;> omega
theorem inText_calm {m : M} (hk : m.at_ = 3 ∨ m.at_ = 4 ∨ m.at_ = 6 ∨ m.at_ = 7) (hb : m.by_ ≠ 32) : Calm (m.inText 32) := by
  cases ht : m.taken with
  | false => rw [inText32 ht hb]; exact text_calm hk rfl ht hb
  | true => rw [inText32t ht]; exact text_calm (m := { m with taken := false }) hk rfl rfl hb
theorem sign47_at (m : M) : (m.sign 47).at_ = 0 := by
  unfold M.sign
  simp only [show ¬((47 : UInt8) = 40 ∨ (47 : UInt8) = 91 ∨ (47 : UInt8) = 123) by decide, show ¬((47 : UInt8) = 41 ∨ (47 : UInt8) = 93 ∨ (47 : UInt8) = 125) by decide, show ¬((47 : UInt8) = 59) by decide, if_false]
  rfl
theorem byte_calm {m : M} (hb : m.by_ ≠ 32) (hg : (m.byte 32).bad = false) : Calm (m.byte 32) := by
  unfold M.byte at hg ⊢
  by_cases h0 : m.at_ = 0
  · rw [if_pos h0, begin32]; exact .inl h0
  rw [if_neg h0] at hg ⊢
  by_cases h1 : m.at_ = 1 ∨ m.at_ = 2 ∨ m.at_ = 8
  · rw [if_pos h1]; unfold M.inWord
    rw [show inner 32 = false by decide]
    simp only [Bool.false_eq_true, show ¬ ((32 : UInt8) = 46) by decide, and_false, or_self, if_false]
    split <;> (rw [begin32]; exact .inl rfl)
  rw [if_neg h1] at hg ⊢
  by_cases h2 : m.at_ = 5
  · rw [if_pos h2]; unfold M.inDollar
    dsimp only
    rw [if_neg (by decide)]
    exact inText_calm (m := { m with at_ := 4 }) (.inr (.inl rfl)) hb
  rw [if_neg h2] at hg ⊢
  by_cases h3 : m.at_ = 9
  · rw [if_pos h3]; unfold M.inSlash
    rw [if_neg (by decide), if_neg (by decide)]
    split
    · rw [begin32]; exact .inl (sign47_at m)
    · exact inText_calm (m := { m.piece with at_ := 6, by_ := 47 }) (.inr (.inr (.inl rfl))) (show (47 : UInt8) ≠ 32 by decide)
  rw [if_neg h3] at hg ⊢
  by_cases h4 : m.at_ = 10 ∨ m.at_ = 11 ∨ m.at_ = 12
  · rw [if_pos h4]; unfold M.inRemark
    rw [show feedB 32 = false by decide]
    simp only [Bool.false_eq_true, and_false, if_false, show ¬ ((32 : UInt8) = 47) by decide, show ¬ ((32 : UInt8) = 42) by decide]
    split
    · exact .inr (.inr (.inl rfl))
    · rename_i hx
      rcases h4 with h | h | h
      · exact .inr (.inl h)
      · exact .inr (.inr (.inl h))
      · exact absurd h hx
  rw [if_neg h4] at hg ⊢
  by_cases h5 : m.at_ = 13 ∨ m.at_ = 14 ∨ m.at_ = 15
  · rw [if_pos h5] at hg; unfold M.inLess at hg
    simp only [and_false, if_false, show ¬ ((32 : UInt8) = 33) by decide, show ¬ ((32 : UInt8) = 45) by decide] at hg
    cases hg
  rw [if_neg h5] at hg ⊢
  have key : ∀ m' : M, m'.at_ = m.at_ → m'.taken = false → m'.by_ = m.by_ → Calm m' := fun m' e1 e2 e3 => by
    refine .inr (.inr (.inr ⟨?_, ?_, ?_, ?_, ?_, ?_, ?_, ?_, ?_, e2, by rw [e3]; exact hb⟩)) <;> omega
  cases ht : m.taken with
  | false => rw [inText32 ht hb]; exact key _ rfl ht rfl
  | true => rw [inText32t ht]; exact key _ rfl rfl rfl
theorem by_push {m : M} {b : UInt8} (h : m.by_ ≠ 32) : (m.push b).by_ ≠ 32 := by unfold M.push; split <;> exact h
theorem by_pop {m : M} {b : UInt8} (h : m.by_ ≠ 32) : (m.pop b).by_ ≠ 32 := by
  unfold M.pop
  repeat' split
  all_goals first | exact h | (dsimp only; repeat' split) <;> first | exact h | (show (96 : UInt8) ≠ 32; decide)
theorem by_sign {m : M} {b : UInt8} (h : m.by_ ≠ 32) : (m.sign b).by_ ≠ 32 := by
  unfold M.sign
  dsimp only
  split
  · exact by_push h
  split
  · exact by_pop h
  repeat' split
  all_goals exact h
theorem by_begin {m : M} {b : UInt8} (h : m.by_ ≠ 32) : (m.begin b).by_ ≠ 32 := by
  unfold M.begin
  split
  · exact h
  split
  · exact h
  split
  · split <;> exact h
  split
  · rename_i hb
    split
    · exact h
    · show b ≠ 32; rcases hb with rfl | rfl <;> decide
  split
  · rename_i hb; show b ≠ 32; rw [hb]; decide
  split
  · exact h
  split
  · exact h
  split
  · exact by_sign h
  · exact h
theorem by_text {m : M} {b : UInt8} (h : m.by_ ≠ 32) : (m.inText b).by_ ≠ 32 := by
  unfold M.inText
  repeat' split
  all_goals exact h
theorem by_byte {m : M} {b : UInt8} (h : m.by_ ≠ 32) : (m.byte b).by_ ≠ 32 := by
  unfold M.byte
  split
  · exact by_begin h
  split
  · unfold M.inWord
    split
    · split <;> exact h
    · split <;> exact by_begin h
  split
  · unfold M.inDollar; dsimp only
    split
    · exact by_push h
    · exact by_text h
  split
  · unfold M.inSlash
    split
    · exact h
    split
    · exact h
    split
    · exact by_begin (by_sign h)
    · exact by_text (show (47 : UInt8) ≠ 32 by decide)
  split
  · unfold M.inRemark; dsimp only
    repeat' split
    all_goals exact h
  split
  · unfold M.inLess
    repeat' split
    all_goals exact h
  · exact by_text h
theorem by_step {m : M} {b : UInt8} (h : m.by_ ≠ 32) : (m.step b).by_ ≠ 32 := by
  unfold M.step; dsimp only
  split
  · exact h
  · exact by_byte h
theorem by_feed (l : List UInt8) : ∀ m : M, m.by_ ≠ 32 → (m.feed l).by_ ≠ 32 := by
  induction l with
  | nil => intro m h; exact h
  | cons b r ih => intro m h; exact ih _ (by_step h)
theorem Calm.seen {m : M} {n : Int} (h : Calm m) : Calm { m with seen := n } := h
theorem step_blank {m : M} (hb : m.by_ ≠ 32) (hg : (m.step 32).bad = false) : ((m.step 32).step 32).bad = false ∧ ((m.step 32).step 32).ends = (m.step 32).ends := by
  have hmb : m.bad = false := by
    cases h : m.bad with
    | false => rfl
    | true => rw [M.step_bad m 32 h] at hg; rw [← hg]; exact h.symm ▸ rfl
  rw [M.step_good _ 32 hg]
  rw [M.step_good m 32 hmb] at hg ⊢
  have hc : Calm { m.byte 32 with seen := w64 ((m.byte 32).seen + 1) } := byte_calm hb hg
  obtain ⟨h1, h2⟩ := calm_byte hc
  exact ⟨h1.trans hg, h2⟩
end Tg.Js
/-
  The reference of layer 29 (each beginning anew) in plain Lean, and the law: it comes to what the machine comes to. No program in sight.
-/
set_option linter.unusedSimpArgs false
set_option linter.unusedVariables false
namespace Tg.Lx

/-- what a beginning tells: nothing, or a verdict and why -/
def chk (s : List UInt8) (d : Nat) : Option (Int × List UInt8) :=
  if (Tg.Json.whole s d).1 = 3 then some (2, L.rDeep)
  else if 0 ≤ (Tg.Rd.read s d).bad then some (2, L.rNo)
  else if (Tg.Json.whole s d).1 = 0 ∧ 0 < (Tg.Rd.read s d).ends then some (1, L.rScript)
  else none
/-- a blank behind a blank -/
def skipB (s : List UInt8) (n : Nat) : Bool := decide (1 < n) && decide (s[n - 1]? = some 32) && decide (s[n - 2]? = some 32)
def refGo (s : List UInt8) (d : Nat) : Nat → Nat → Option (Int × List UInt8 × Nat)
  | 0, _ => none
  | f + 1, n => if skipB s n = true then refGo s d f (n + 1) else match chk (s.take n) d with
    | some (v, r) => some (v, r, n)
    | none => refGo s d f (n + 1)
/-- a verdict, why, where -/
def refW (s : List UInt8) (d : Nat) (en : Bool) : Int × List UInt8 × Int :=
  match refGo s d s.length 1 with
  | some (v, r, n) => (v, r, (n : Int))
  | none =>
    if en = false then (0, [], 0)
    else if ¬ Tg.Json.skip s < s.length then (1, L.rBlank, (s.length : Int))
    else if (Tg.Json.whole s d).1 ≠ 0 then (2, L.rJson, (s.length : Int))
    else if (Tg.Rd.read s d).state = 2 then (1, L.rScript, (s.length : Int))
    else (2, L.rCut, (s.length : Int))

theorem whole_tell (s : List UInt8) (d : Nat) : (Tg.Json.whole s d).1 = ((Tg.Json.M.start d).feed s).tell := by
  have := congrArg Prod.fst (Tg.Json.whole_eq s d)
  exact this.symm
theorem read_bad (s : List UInt8) (d : Nat) (hs : s.length ≤ 1000000) : (0 ≤ (Tg.Rd.read s d).bad ↔ ((Tg.Js.new d).feed s).bad = true) ∧ (Tg.Rd.read s d).ends = ((Tg.Js.new d).feed s).ends ∧ (((Tg.Js.new d).feed s).bad = false → (Tg.Rd.read s d).state = ((Tg.Js.new d).feed s).tell) := by
  obtain ⟨h1, h2⟩ := Tg.Rd.read_law s d hs
  refine ⟨?_, h1.symm, fun hb => ?_⟩
  · rcases h2 with ⟨a, _, c⟩ | ⟨a, b, _⟩
    · exact ⟨fun _ => a, fun _ => c⟩
    · exact ⟨fun h => by omega, fun h => by rw [a] at h; cases h⟩
  · rcases h2 with ⟨a, _, c⟩ | ⟨a, b, c⟩
    · rw [a] at hb; cases hb
    · exact c.symm
theorem chk_look {m : L} {t : List UInt8} {d : Nat} (hj : m.j = (Tg.Json.M.start d).feed t) (hs : m.s = (Tg.Js.new d).feed t) (hl : t.length ≤ 1000000) : m.look = match chk t d with | some (v, r) => m.settle v r | none => m := by
  obtain ⟨h1, h2, _⟩ := read_bad t d hl
  unfold chk L.look
  rw [whole_tell, hj, hs, h2]
  by_cases c1 : ((Tg.Json.M.start d).feed t).tell = 3
  · rw [if_pos c1, if_pos c1]
  rw [if_neg c1, if_neg c1]
  by_cases c2 : ((Tg.Js.new d).feed t).tell = 0
  · rw [if_pos c2, if_pos (h1.2 (Tg.Js.M.tell_bad.1 c2))]
  rw [if_neg c2, if_neg (fun hx => c2 (Tg.Js.M.tell_bad.2 (h1.1 hx)))]
  by_cases c3 : ((Tg.Json.M.start d).feed t).tell = 0 ∧ 0 < ((Tg.Js.new d).feed t).ends
  · rw [if_pos c3, if_pos c3]
  · rw [if_neg c3, if_neg c3]
/-- a blank behind a blank tells nothing new -/
theorem chk_blank {u : List UInt8} {d : Nat} (hl : u.length ≤ 999990) (h : chk (u ++ [32]) d = none) : chk (u ++ [32] ++ [32]) d = none := by
  obtain ⟨a1, a2, _⟩ := read_bad (u ++ [32]) d (by simp; omega)
  obtain ⟨b1, b2, _⟩ := read_bad (u ++ [32] ++ [32]) d (by simp; omega)
  unfold chk at h ⊢
  rw [whole_tell, a2] at h
  rw [whole_tell, b2]
  have ej : ((Tg.Json.M.start d).feed (u ++ [32] ++ [32])).tell = ((Tg.Json.M.start d).feed (u ++ [32])).tell := by
    rw [Tg.Json.feed_append, Tg.Json.feed_append]
    exact Tg.Json.tell_blank _ (Tg.Json.rest_feed u _ (by show (32 : UInt8) ∉ []; simp))
  rw [ej]
  by_cases c1 : ((Tg.Json.M.start d).feed (u ++ [32])).tell = 3
  · rw [if_pos c1] at h; cases h
  rw [if_neg c1] at h ⊢
  by_cases c2 : 0 ≤ (Tg.Rd.read (u ++ [32]) d).bad
  · rw [if_pos c2] at h; cases h
  rw [if_neg c2] at h
  have hb : ((Tg.Js.new d).feed (u ++ [32])).bad = false := by
    cases hx : ((Tg.Js.new d).feed (u ++ [32])).bad with
    | false => rfl
    | true => exact absurd (a1.2 hx) c2
  have hby : ((Tg.Js.new d).feed u).by_ ≠ 32 := Tg.Js.by_feed u _ (by show (0 : UInt8) ≠ 32; decide)
  have e1 : (Tg.Js.new d).feed (u ++ [32]) = ((Tg.Js.new d).feed u).step 32 := by rw [Tg.Js.M.feed_append]; rfl
  have e2 : (Tg.Js.new d).feed (u ++ [32] ++ [32]) = (((Tg.Js.new d).feed u).step 32).step 32 := by rw [Tg.Js.M.feed_append, e1]; rfl
  rw [e1] at hb
  obtain ⟨g1, g2⟩ := Tg.Js.step_blank hby hb
  rw [if_neg (fun hx => by have := b1.1 hx; rw [e2, g1] at this; cases this), e2, g2, ← e1]
  by_cases c3 : ((Tg.Json.M.start d).feed (u ++ [32])).tell = 0 ∧ 0 < ((Tg.Js.new d).feed (u ++ [32])).ends
  · rw [if_pos c3] at h; cases h
  · rw [if_neg c3]
namespace L
theorem feed_nothing (t : List UInt8) : ∀ m : L, (m.feed t).verdict = 0 → (m.feed t).reason = m.reason ∧ (m.feed t).at_ = m.at_ := by
  induction t with
  | nil => intro m _; exact ⟨rfl, rfl⟩
  | cons b r ih =>
    intro m hv
    have hv' : ((m.step b).feed r).verdict = 0 := hv
    obtain ⟨h1, h2⟩ := ih (m.step b) hv'
    have hz : (m.step b).verdict = 0 := Classical.byContradiction (fun hne => by
      have := (stuck r (m.step b) hne).1
      rw [hv'] at this; exact hne this.symm)
    show ((m.step b).feed r).reason = _ ∧ ((m.step b).feed r).at_ = _
    rw [h1, h2]
    unfold step at hz ⊢
    split
    · exact ⟨rfl, rfl⟩
    · rename_i hc
      rw [if_neg hc] at hz
      rcases look_cases (m.see.take1 b) with e | ⟨v, r', hvv, e⟩
      · rw [e]; exact ⟨rfl, rfl⟩
      · rw [e] at hz
        have : v = 0 := hz
        rcases hvv with h | h <;> omega
theorem fin_open {m : L} (h : m.verdict = 0) : m.fin = if m.j.begun = false then ({ m with ended := true } : L).settle 1 rBlank
  else if m.j.tell ≠ 0 then ({ m with ended := true } : L).settle 2 rJson
  else if m.s.tell = 2 then ({ m with ended := true } : L).settle 1 rScript
  else ({ m with ended := true } : L).settle 2 rCut := by
  unfold fin; rw [if_neg (fun hx => hx h)]
end L
theorem go_law (s : List UInt8) (d : Nat) (hs : s.length ≤ 900000) : ∀ (f i : Nat), i + f = s.length → ((L.new d).feed (s.take i)).verdict = 0 → (1 ≤ i → chk (s.take i) d = none) →
    match refGo s d f (i + 1) with
    | some (v, r, n) => ((L.new d).feed s).verdict = v ∧ v ≠ 0 ∧ ((L.new d).feed s).reason = r ∧ ((L.new d).feed s).at_ = n
    | none => ((L.new d).feed s).verdict = 0 := by
  intro f
  induction f with
  | zero =>
    intro i hi hv _
    have : s.take i = s := List.take_of_length_le (by omega)
    rw [this] at hv
    exact hv
  | succ f ih =>
    intro i hi hv hc
    have hlt : i < s.length := by omega
    obtain ⟨oj, os, oe⟩ := L.feed_open (s.take i) (L.new d) rfl hv
    have ht : s.take (i + 1) = s.take i ++ [s[i]] := List.take_succ_eq_append_getElem hlt
    have hstep : (L.new d).feed (s.take (i + 1)) = (((L.new d).feed (s.take i)).see.take1 s[i]).look := by
      rw [L.feed_take _ _ hlt]; unfold L.step; rw [if_neg (by rintro (h | h); exact h hv; rw [oe] at h; cases h)]
    have hlook := chk_look (m := ((L.new d).feed (s.take i)).see.take1 s[i]) (t := s.take (i + 1)) (d := d)
      (by show ((L.new d).feed (s.take i)).j.feed [s[i]] = _; rw [oj, ht, Tg.Json.feed_append]; rfl)
      (by show ((L.new d).feed (s.take i)).s.feed [s[i]] = _; rw [os, ht, Tg.Js.M.feed_append]; rfl) (by simp; omega)
    have hinv := (L.Inv.new d).feed (s.take (i + 1)) (by simp; omega)
    have hsp : s = s.take (i + 1) ++ s.drop (i + 1) := (List.take_append_drop _ _).symm
    have hv0 : (((L.new d).feed (s.take i)).see.take1 s[i]).verdict = 0 := hv
    unfold refGo
    by_cases hsk : skipB s (i + 1) = true
    · rw [if_pos hsk]
      unfold skipB at hsk
      simp only [Bool.and_eq_true, decide_eq_true_eq] at hsk
      obtain ⟨⟨k1, k2⟩, k3⟩ := hsk
      have e1 : s[i] = 32 := by
        rw [show i + 1 - 1 = i by omega, List.getElem?_eq_getElem hlt] at k2; injection k2
      have hi1 : i - 1 < s.length := by omega
      have e2 : s[i - 1] = 32 := by
        rw [show i + 1 - 2 = i - 1 by omega, List.getElem?_eq_getElem hi1] at k3; injection k3
      have e3 : s.take i = s.take (i - 1) ++ [32] := by
        have := List.take_succ_eq_append_getElem hi1
        rw [show i - 1 + 1 = i by omega, e2] at this; exact this
      have hn : chk (s.take (i + 1)) d = none := by
        have h0 := hc (by omega)
        rw [ht, e1, e3]
        rw [e3] at h0
        exact chk_blank (by simp; omega) h0
      rw [hn] at hlook
      exact ih (i + 1) (by omega) (by rw [hstep, hlook]; exact hv0) (fun _ => hn)
    · rw [if_neg hsk]
      cases hx : chk (s.take (i + 1)) d with
      | none =>
        rw [hx] at hlook
        exact ih (i + 1) (by omega) (by rw [hstep, hlook]; exact hv0) (fun _ => hx)
      | some x =>
        obtain ⟨v, r⟩ := x
        rw [hx] at hlook
        have hvv : v ≠ 0 := by
          unfold chk at hx
          split at hx
          · cases hx; decide
          split at hx
          · cases hx; decide
          split at hx
          · cases hx; decide
          · cases hx
        dsimp only at hlook ⊢
        have hf : (L.new d).feed s = ((L.new d).feed (s.take (i + 1))).feed (s.drop (i + 1)) := by rw [← L.feed_append, List.take_append_drop]
        have hne : ((L.new d).feed (s.take (i + 1))).verdict ≠ 0 := by rw [hstep, hlook]; exact hvv
        obtain ⟨q1, q2, q3⟩ := L.stuck (s.drop (i + 1)) _ hne
        rw [hf, q1, q2, q3]
        have hat : ((L.new d).feed (s.take (i + 1))).at_ = ((L.new d).feed (s.take (i + 1))).seen := by rw [hstep, hlook]; rfl
        rw [hat, hinv.seen, hstep, hlook]
        refine ⟨rfl, hvv, rfl, ?_⟩
        simp; omega
/-- THE LAW, ahead of the end -/
theorem feed_law (s : List UInt8) (d : Nat) (hs : s.length ≤ 900000) : refW s d false = (((L.new d).feed s).verdict, ((L.new d).feed s).reason, if ((L.new d).feed s).at_ < 0 then 0 else ((L.new d).feed s).at_) := by
  have := go_law s d hs s.length 0 (by omega) rfl (fun h => by omega)
  unfold refW
  rw [show 0 + 1 = 1 by rfl] at this
  cases hg : refGo s d s.length 1 with
  | none =>
    rw [hg] at this
    obtain ⟨h1, h2⟩ := L.feed_nothing s (L.new d) this
    dsimp only at this ⊢
    rw [if_pos rfl, this, h1, h2]; rfl
  | some x =>
    obtain ⟨v, r, n⟩ := x
    rw [hg] at this
    obtain ⟨a, b, c, e⟩ := this
    dsimp only
    rw [a, c, e, if_neg (by omega)]
/-- THE LAW, at the end -/
theorem fin_law (s : List UInt8) (d : Nat) (hs : s.length ≤ 900000) : refW s d true = (((L.new d).feed s).fin.verdict, ((L.new d).feed s).fin.reason, if ((L.new d).feed s).fin.at_ < 0 then 0 else ((L.new d).feed s).fin.at_) := by
  have := go_law s d hs s.length 0 (by omega) rfl (fun h => by omega)
  unfold refW
  rw [show 0 + 1 = 1 by rfl] at this
  have hinv := (L.Inv.new d).feed s (by omega)
  cases hg : refGo s d s.length 1 with
  | none =>
    rw [hg] at this
    dsimp only at this ⊢
    obtain ⟨oj, os, oe⟩ := L.feed_open s (L.new d) rfl this
    obtain ⟨b1, b2, b3⟩ := read_bad s d (by omega)
    have hse := hinv.seen
    rw [Nat.zero_add] at hse
    rw [if_neg (show ¬ (true = false) by simp), L.fin_open this, oj, os]
    have hbg : ((L.new d).j.feed s).begun = decide (Tg.Json.skip s < s.length) := by
      show ((Tg.Json.M.start d).feed s).begun = _
      rw [Tg.Json.begun_feed]; rfl
    rw [hbg, whole_tell]
    have hjj : (L.new d).j.feed s = (Tg.Json.M.start d).feed s := rfl
    have hss : (L.new d).s.feed s = (Tg.Js.new d).feed s := rfl
    rw [hjj, hss]
    have pk : ∀ (m' : L) (v : Int) (r : List UInt8), m'.seen = s.length → (v, r, (s.length : Int)) = ((m'.settle v r).verdict, (m'.settle v r).reason, if (m'.settle v r).at_ < 0 then 0 else (m'.settle v r).at_) := fun m' v r h => by
      show _ = (v, r, if m'.seen < 0 then 0 else m'.seen)
      rw [h, if_neg (by omega)]
    by_cases c1 : Tg.Json.skip s < s.length
    · rw [if_neg (Decidable.not_not.2 c1), if_neg (show ¬ (decide (Tg.Json.skip s < s.length) = false) by rw [decide_eq_true c1]; simp)]
      by_cases c2 : ((Tg.Json.M.start d).feed s).tell ≠ 0
      · rw [if_pos c2, if_pos c2]; exact pk _ _ _ hse
      rw [if_neg c2, if_neg c2]
      have h0 : ((Tg.Json.M.start d).feed s).tell = 0 := by omega
      by_cases c3 : ((Tg.Js.new d).feed s).tell = 2
      · have hb : ((Tg.Js.new d).feed s).bad = false := by
          cases hx : ((Tg.Js.new d).feed s).bad with
          | false => rfl
          | true => rw [Tg.Js.M.tell_bad.2 hx] at c3; cases c3
        rw [if_pos c3, if_pos (by rw [b3 hb, c3])]; exact pk _ _ _ hse
      · have h2 : ¬ (Tg.Rd.read s d).state = 2 := by
          intro hx
          cases hb : ((Tg.Js.new d).feed s).bad with
          | false => exact c3 ((b3 hb).symm.trans hx)
          | true =>
            have := b1.2 hb
            unfold Tg.Rd.R.state at hx
            rw [if_pos this] at hx; cases hx
        rw [if_neg c3, if_neg h2]; exact pk _ _ _ hse
    · rw [if_pos c1, if_pos (show decide (Tg.Json.skip s < s.length) = false from decide_eq_false c1)]; exact pk _ _ _ hse
  | some x =>
    obtain ⟨v, r, n⟩ := x
    rw [hg] at this
    obtain ⟨a, b, c, e⟩ := this
    obtain ⟨q1, q2, q3⟩ := L.fin_stuck ((L.new d).feed s) (by rw [a]; exact b)
    dsimp only
    rw [q1, q2, q3, a, c, e, if_neg (by omega)]
end Tg.Lx
/-
  The reference of layer 29 (lexer), of layer 32 (orbparse).
-/
set_option linter.unusedSimpArgs false
set_option linter.unusedVariables false
set_option maxRecDepth 100000
namespace Go.Proofs.YtgnefbngkhjfcaaGreatDoor.Lx
open Go.Lg Tg.Lx
open Go.Proofs.YtgnefbngkhjfcaaGreatDoor.Rd (sv rb drop_at sub_take)
section
variable {H : LH} {s : List UInt8} {D : Nat}
theorem rwhole_l (hD : D ≤ 200) (hs : s.length ≤ 1000000) : LC Tryz.prog EJ 26 [str s, .int .i64 (D : Int)] H = some (.tuple #[.int .i64 ((Tg.Json.whole s D).1 : Int), .int .i64 (Tg.Json.whole s D).2], H) := by
  refine LC_ext (s := specWhole27) rfl ?_
  simp only [specWhole27, str]
  rw [if_pos ⟨by rw [ba_size]; omega, by omega, by omega⟩]
  rfl
theorem rbegun_l (hs : s.length ≤ 1000000) : LC Tryz.prog EJ 27 [str s] H = some (.bool (decide (Tg.Json.skip s < s.length)), H) := by
  refine LC_ext (s := specBegun27) rfl ?_
  simp only [specBegun27, str]
  rw [if_pos (by rw [ba_size]; omega), ba_size]
theorem rstate_l {x : Tg.Rd.R} : LC Tryz.prog EJ 28 [sv x] H = some (.int .i64 x.state, H) := by
  refine LC_pure rfl Tryz.func28 rfl (Nat.le_of_ble_eq_true rfl) (by decide) (by kernel_rfl) rfl ?_
  unfold Tg.Rd.R.state
  by_cases c1 : 0 ≤ x.bad
  · simp [sv, Rd.rcs, eq_true c1, le_refl.new]
  · cases c2 : x.within with
    | true => simp [sv, Rd.rcs, eq_false c1, c2, le_refl.new]
    | false =>
      by_cases c3 : x.opn = []
      · simp [sv, Rd.rcs, eq_false c1, c2, c3, le_refl.new]
      · simp [sv, Rd.rcs, eq_false c1, c2, eq_false c3, c3, le_refl.new]
theorem jz_eq : (⟨[.int .i64 0, str [], .int .i64 0, .bool false], 24, true⟩ : LB) = jb 0 [] 0 := rfl
theorem jbuild0 : lbE Tryz.prog 24 (some (.agg ⟨[.int .i64 0, .string ⟨#[]⟩, .int .i64 0, .bool false]⟩)) [] = some (.agg ⟨[.int .i64 0, .string ⟨#[]⟩, .int .i64 0, .bool false]⟩) := by kernel_rfl
theorem natI (a b : Nat) : ((a : Int) = (b : Int)) = (a = b) := propext (by omega)
theorem at_some {i : Nat} (h : i < s.length) : (s[i]? = some 32) ↔ at_ s (i : Int) = 32 := by
  simp [at_, h]
set_option maxHeartbeats 4000000 in
theorem ref29_l {en : Bool} (h2 : D ≤ 200) (hd : ∀ l, H.n ≤ l → H.get l = none) (hs : s.length ≤ 900000) : LC Tryz.prog EJ 8 [str s, .int .i64 (D : Int), .bool en] H = some (jv (refW s D en).1 (refW s D en).2.1 (refW s D en).2.2, H) := by
  refine LC_pure rfl Tryz.func8 rfl (Nat.le_of_ble_eq_true rfl) (by decide) (by kernel_rfl) flat_jv ?_
  simp (config := { maxSteps := 4000000 }) [jz_eq]
  obtain ⟨G, hG⟩ : ∃ G, refGo s D s.length 1 = G := ⟨_, rfl⟩
  refine loop_ind (fun (n : Nat) fr' H' => fr' 0 = str s ∧ fr' 1 = .int .i64 (D : Int) ∧ fr' 2 = .bool en ∧ fr' 6 = ptr H.n 0 ∧ fr' 7 = .int .i64 ((n + 1 : Nat) : Int) ∧ n ≤ s.length ∧ refGo s D (s.length - n) (n + 1) = G ∧ H'.get H.n = some (jb 0 [] 0) ∧ H.n < H'.n ∧ H.le H' ∧ ∀ l, H'.n ≤ l → H'.get l = none) (fun n => s.length - n) 0 ?_ ?_
  · refine ⟨by simp, by simp, by simp, by simp, by simp, Nat.zero_le _, hG, get_new, Nat.lt_succ_self _, le_refl.new, fun l hl => ?_⟩
    have hl' : H.n + 1 ≤ l := hl
    rw [get_new_ne (by omega)]; exact hd l (by omega)
  rintro n fr' H' ⟨g0, g1, g2, g6, g7, hn, hgo, hz, hzn, hle, hdm⟩ ih
  have w0 : IntKind.i64.wrap (n : Int) = (n : Int) := by rw [wrap64_in (by omega) (by omega)]
  have w2 : IntKind.i64.wrap ((n : Int) + 1 + 1) = (n : Int) + 1 + 1 := by rw [wrap64_in (by omega) (by omega)]
  have lo : ∀ B : LB, H.le (H'.set H.n B) := fun B => hle.set (Nat.le_refl _)
  by_cases hlt : n < s.length
  · have hlt' : ((n : Int) + 1 ≤ (s.length : Int)) = True := eq_true (by omega)
    have hlt2 : ((n : Int) < (s.length : Int)) = True := eq_true (by omega)
    obtain ⟨f, hf⟩ : ∃ f, s.length - n = f + 1 := ⟨s.length - n - 1, by omega⟩
    rw [hf] at hgo
    unfold refGo at hgo
    have hgo2 : s.length - (n + 1) = f := by omega
    have at1 : (s[n + 1 - 1]? = some 32) ↔ at_ s (n : Int) = 32 := by rw [show n + 1 - 1 = n by omega]; exact at_some hlt
    have p0 : (0 ≤ (n : Int) + 1) = True := eq_true (by omega)
    have p1 : ((n : Int) + 1).toNat = n + 1 := by omega
    have u3 : 0 < n → IntKind.i64.wrap ((n : Int) + 1 - 2) = (n : Int) - 1 := fun h => by rw [wrap64_in (by omega) (by omega)]; omega
    have at2 : 0 < n → ((s[n + 1 - 2]? = some 32) ↔ at_ s ((n : Int) - 1) = 32) := fun h => by
      rw [show n + 1 - 2 = n - 1 by omega, show (n : Int) - 1 = ((n - 1 : Nat) : Int) by omega]; exact at_some (by omega)
    by_cases hsk : skipB s (n + 1) = true
    · rw [if_pos hsk] at hgo
      unfold skipB at hsk
      simp only [Bool.and_eq_true, decide_eq_true_eq] at hsk
      obtain ⟨⟨k1, k2⟩, k3⟩ := hsk
      have hn0 : 0 < n := by omega
      have e1 := eq_true (at1.1 k2)
      have e2 := eq_true ((at2 hn0).1 k3)
      have u1 := u3 hn0
      have v1 : (1 < (n : Int) + 1) = True := eq_true (by omega)
      have v2 : (0 ≤ (n : Int) - 1) = True := eq_true (by omega)
      have v3 : ((n : Int) - 1 < (s.length : Int)) = True := eq_true (by omega)
      simp (config := { maxSteps := 4000000 }) [g0, g1, g2, g6, g7, hlt', hlt2, w0, w2, e1, e2, u1, v1, v2, v3, (show (1 ≤ (n : Int)) = True from eq_true (by omega)), hn0]
      exact ih (n + 1) _ _ (by omega) ⟨by simp [g0], by simp [g1], by simp [g2], by simp [g6], by simp, by omega, by rw [hgo2]; exact hgo, hz, hzn, hle, hdm⟩
    · rw [if_neg hsk] at hgo
      have hsk2 : ((1 < (n : Int) + 1) = False) ∨ ((1 < (n : Int) + 1) = True ∧ (at_ s (n : Int) = 32) = False) ∨ ((1 < (n : Int) + 1) = True ∧ (at_ s (n : Int) = 32) = True ∧ IntKind.i64.wrap ((n : Int) + 1 - 2) = (n : Int) - 1 ∧ (0 ≤ (n : Int) - 1) = True ∧ ((n : Int) - 1 < (s.length : Int)) = True ∧ (at_ s ((n : Int) - 1) = 32) = False) := by
        rcases Nat.eq_zero_or_pos n with h | h
        · exact .inl (eq_false (by omega))
        · by_cases h3 : at_ s (n : Int) = 32
          · refine .inr (.inr ⟨eq_true (by omega), eq_true h3, u3 h, eq_true (by omega), eq_true (by omega), eq_false (fun h4 => hsk ?_)⟩)
            unfold skipB
            rw [decide_eq_true (by omega : 1 < n + 1), decide_eq_true (at1.2 h3), decide_eq_true ((at2 h).2 h4)]; rfl
          · exact .inr (.inl ⟨eq_true (by omega), eq_false h3⟩)
      have hlen : (s.take (n + 1)).length ≤ 900000 := by simp; omega
      have hrd : ∀ K : LH, (∀ l, K.n ≤ l → K.get l = none) → LC Tryz.prog EJ 25 [str (s.take (n + 1)), .int .i64 (D : Int)] K = some (sv (Tg.Rd.read (s.take (n + 1)) D), K) := fun K hK => Rd.read_l (by omega) (by omega) hK (by omega)
      have hwh := fun K : LH => rwhole_l (H := K) (s := s.take (n + 1)) h2 (by omega)
      unfold chk at hgo
      obtain ⟨X, hX⟩ : ∃ X, Tg.Rd.read (s.take (n + 1)) D = X := ⟨_, rfl⟩
      obtain ⟨J, hJ⟩ : ∃ J, Tg.Json.whole (s.take (n + 1)) D = J := ⟨_, rfl⟩
      rw [hX, hJ] at hgo
      simp only [hX] at hrd
      simp only [hJ] at hwh
      have hrd2 := hrd _ hdm
      have hz2 : ∀ B : LB, (H'.new B).get H.n = some (jb 0 [] 0) := fun B => by rw [get_new_ne (by omega)]; exact hz
      have lo2 : ∀ B B' : LB, H.le ((H'.new B).set H.n B') := fun B B' => hle.new.set (Nat.le_refl _)
      have dm2 : ∀ B : LB, ∀ l, (H'.new B).n ≤ l → (H'.new B).get l = none := fun B l hl => by
        have hl' : H'.n + 1 ≤ l := hl
        rw [get_new_ne (by omega)]; exact hdm l (by omega)
      have hzn2 : ∀ B : LB, H.n < (H'.new B).n := fun B => by show H.n < H'.n + 1; omega
      have q3 : (((J.1 : Nat) : Int) = 3) = (J.1 = 3) := natI _ 3
      have q0 : (((J.1 : Nat) : Int) = 0) = (J.1 = 0) := natI _ 0
      by_cases c1 : J.1 = 3
      · rw [if_pos c1] at hgo
        have hG3 : G = some (2, L.rDeep, n + 1) := hgo.symm
        unfold refW
        rw [hG, hG3]
        have f1 := eq_true c1
        rcases hsk2 with r1 | ⟨r1, r2⟩ | ⟨r1, r2, r3, r4, r5, r6⟩
        · simp (config := { maxSteps := 4000000 }) [g0, g1, g2, g6, g7, hlt', hlt2, w0, p0, p1, r1, hrd2, hwh, q3, q0, sv, Rd.rcs, splice, lo2, hz2, hzn2, hzn, hz, jv, f1, L.rDeep]
        · simp (config := { maxSteps := 4000000 }) [g0, g1, g2, g6, g7, hlt', hlt2, w0, p0, p1, r1, r2, hrd2, hwh, q3, q0, sv, Rd.rcs, splice, lo2, hz2, hzn2, hzn, hz, jv, f1, L.rDeep]
        · simp (config := { maxSteps := 4000000 }) [g0, g1, g2, g6, g7, hlt', hlt2, w0, p0, p1, r1, r2, r3, r4, r5, r6, (show (1 ≤ (n : Int)) = True from eq_true (by have := r4; simp at this; omega)), hrd2, hwh, q3, q0, sv, Rd.rcs, splice, lo2, hz2, hzn2, hzn, hz, jv, f1, L.rDeep]
      · rw [if_neg c1] at hgo
        have f1 := eq_false c1
        by_cases c2 : 0 ≤ X.bad
        · rw [if_pos c2] at hgo
          have hG3 : G = some (2, L.rNo, n + 1) := hgo.symm
          unfold refW
          rw [hG, hG3]
          have f2 := eq_true c2
          rcases hsk2 with r1 | ⟨r1, r2⟩ | ⟨r1, r2, r3, r4, r5, r6⟩
          · simp (config := { maxSteps := 4000000 }) [g0, g1, g2, g6, g7, hlt', hlt2, w0, p0, p1, r1, hrd2, hwh, q3, q0, sv, Rd.rcs, splice, lo2, hz2, hzn2, hzn, hz, jv, f1, f2, L.rNo]
          · simp (config := { maxSteps := 4000000 }) [g0, g1, g2, g6, g7, hlt', hlt2, w0, p0, p1, r1, r2, hrd2, hwh, q3, q0, sv, Rd.rcs, splice, lo2, hz2, hzn2, hzn, hz, jv, f1, f2, L.rNo]
          · simp (config := { maxSteps := 4000000 }) [g0, g1, g2, g6, g7, hlt', hlt2, w0, p0, p1, r1, r2, r3, r4, r5, r6, (show (1 ≤ (n : Int)) = True from eq_true (by have := r4; simp at this; omega)), hrd2, hwh, q3, q0, sv, Rd.rcs, splice, lo2, hz2, hzn2, hzn, hz, jv, f1, f2, L.rNo]
        · rw [if_neg c2] at hgo
          have f2 := eq_false c2
          by_cases c3 : J.1 = 0
          · have f3 := eq_true c3
            by_cases c4 : 0 < X.ends
            · rw [if_pos ⟨c3, c4⟩] at hgo
              have hG3 : G = some (1, L.rScript, n + 1) := hgo.symm
              unfold refW
              rw [hG, hG3]
              have f4 := eq_true c4
              rcases hsk2 with r1 | ⟨r1, r2⟩ | ⟨r1, r2, r3, r4, r5, r6⟩
              · simp (config := { maxSteps := 4000000 }) [g0, g1, g2, g6, g7, hlt', hlt2, w0, p0, p1, r1, hrd2, hwh, q3, q0, sv, Rd.rcs, splice, lo2, hz2, hzn2, hzn, hz, jv, f1, f2, f3, f4, L.rScript]
              · simp (config := { maxSteps := 4000000 }) [g0, g1, g2, g6, g7, hlt', hlt2, w0, p0, p1, r1, r2, hrd2, hwh, q3, q0, sv, Rd.rcs, splice, lo2, hz2, hzn2, hzn, hz, jv, f1, f2, f3, f4, L.rScript]
              · simp (config := { maxSteps := 4000000 }) [g0, g1, g2, g6, g7, hlt', hlt2, w0, p0, p1, r1, r2, r3, r4, r5, r6, (show (1 ≤ (n : Int)) = True from eq_true (by have := r4; simp at this; omega)), hrd2, hwh, q3, q0, sv, Rd.rcs, splice, lo2, hz2, hzn2, hzn, hz, jv, f1, f2, f3, f4, L.rScript]
            · rw [if_neg (fun h => c4 h.2)] at hgo
              have f4 := eq_false c4
              rcases hsk2 with r1 | ⟨r1, r2⟩ | ⟨r1, r2, r3, r4, r5, r6⟩
              · simp (config := { maxSteps := 4000000 }) [g0, g1, g2, g6, g7, hlt', hlt2, w0, w2, p0, p1, r1, hrd2, hwh, q3, q0, sv, Rd.rcs, splice, lo2, hz2, hzn2, hzn, hz, jv, f1, f2, f3, f4]
                exact ih (n + 1) _ _ (by omega) ⟨by simp [g0], by simp [g1], by simp [g2], by simp [g6], by simp, by omega, by rw [hgo2]; exact hgo, hz2 _, hzn2 _, hle.new, dm2 _⟩
              · simp (config := { maxSteps := 4000000 }) [g0, g1, g2, g6, g7, hlt', hlt2, w0, w2, p0, p1, r1, r2, hrd2, hwh, q3, q0, sv, Rd.rcs, splice, lo2, hz2, hzn2, hzn, hz, jv, f1, f2, f3, f4]
                exact ih (n + 1) _ _ (by omega) ⟨by simp [g0], by simp [g1], by simp [g2], by simp [g6], by simp, by omega, by rw [hgo2]; exact hgo, hz2 _, hzn2 _, hle.new, dm2 _⟩
              · simp (config := { maxSteps := 4000000 }) [g0, g1, g2, g6, g7, hlt', hlt2, w0, w2, p0, p1, r1, r2, r3, r4, r5, r6, (show (1 ≤ (n : Int)) = True from eq_true (by have := r4; simp at this; omega)), hrd2, hwh, q3, q0, sv, Rd.rcs, splice, lo2, hz2, hzn2, hzn, hz, jv, f1, f2, f3, f4]
                exact ih (n + 1) _ _ (by omega) ⟨by simp [g0], by simp [g1], by simp [g2], by simp [g6], by simp, by omega, by rw [hgo2]; exact hgo, hz2 _, hzn2 _, hle.new, dm2 _⟩
          · rw [if_neg (fun h => c3 h.1)] at hgo
            have f3 := eq_false c3
            rcases hsk2 with r1 | ⟨r1, r2⟩ | ⟨r1, r2, r3, r4, r5, r6⟩
            · simp (config := { maxSteps := 4000000 }) [g0, g1, g2, g6, g7, hlt', hlt2, w0, w2, p0, p1, r1, hrd2, hwh, q3, q0, sv, Rd.rcs, splice, lo2, hz2, hzn2, hzn, hz, jv, f1, f2, f3]
              exact ih (n + 1) _ _ (by omega) ⟨by simp [g0], by simp [g1], by simp [g2], by simp [g6], by simp, by omega, by rw [hgo2]; exact hgo, hz2 _, hzn2 _, hle.new, dm2 _⟩
            · simp (config := { maxSteps := 4000000 }) [g0, g1, g2, g6, g7, hlt', hlt2, w0, w2, p0, p1, r1, r2, hrd2, hwh, q3, q0, sv, Rd.rcs, splice, lo2, hz2, hzn2, hzn, hz, jv, f1, f2, f3]
              exact ih (n + 1) _ _ (by omega) ⟨by simp [g0], by simp [g1], by simp [g2], by simp [g6], by simp, by omega, by rw [hgo2]; exact hgo, hz2 _, hzn2 _, hle.new, dm2 _⟩
            · simp (config := { maxSteps := 4000000 }) [g0, g1, g2, g6, g7, hlt', hlt2, w0, w2, p0, p1, r1, r2, r3, r4, r5, r6, (show (1 ≤ (n : Int)) = True from eq_true (by have := r4; simp at this; omega)), hrd2, hwh, q3, q0, sv, Rd.rcs, splice, lo2, hz2, hzn2, hzn, hz, jv, f1, f2, f3]
              exact ih (n + 1) _ _ (by omega) ⟨by simp [g0], by simp [g1], by simp [g2], by simp [g6], by simp, by omega, by rw [hgo2]; exact hgo, hz2 _, hzn2 _, hle.new, dm2 _⟩
  · have hlt' : ((n : Int) + 1 ≤ (s.length : Int)) = False := eq_false (by omega)
    have hG2 : G = none := by rw [← hgo, show s.length - n = 0 by omega]; rfl
    have hwh := fun K : LH => rwhole_l (H := K) (s := s) h2 (by omega)
    have hbg := fun K : LH => rbegun_l (H := K) (s := s) (by omega)
    have hrd : ∀ K : LH, (∀ l, K.n ≤ l → K.get l = none) → LC Tryz.prog EJ 25 [str s, .int .i64 (D : Int)] K = some (sv (Tg.Rd.read s D), K) := fun K hK => Rd.read_l (by omega) (by omega) hK (by omega)
    have hrd2 := hrd _ hdm
    have ej : ((Tg.Json.whole s D).1 : Int) = 0 ↔ (Tg.Json.whole s D).1 = 0 := by omega
    unfold refW
    rw [hG, hG2]
    dsimp only
    cases en with
    | false =>
      rw [if_pos rfl]
      have jb0 : lbE Tryz.prog 24 (some (.agg ⟨[.int .i64 0, str [], .int .i64 0, .bool false]⟩)) [] = some (.agg ⟨[.int .i64 0, str [], .int .i64 0, .bool false]⟩) := jbuild0
      simp (config := { maxSteps := 4000000 }) [jb0, g0, g1, g2, g6, g7, hlt', hzn, hz, jv, splice, lo]
    | true =>
      rw [if_neg (show ¬ (true = false) by simp)]
      by_cases c1 : Tg.Json.skip s < s.length
      · rw [if_neg (Decidable.not_not.2 c1)]
        have f1 : decide (Tg.Json.skip s < s.length) = true := decide_eq_true c1
        by_cases c2 : (Tg.Json.whole s D).1 = 0
        · rw [if_neg (Decidable.not_not.2 c2)]
          by_cases c3 : (Tg.Rd.read s D).state = 2
          · rw [if_pos c3]
            simp (config := { maxSteps := 4000000 }) [g0, g1, g2, g6, g7, hlt', hzn, hz, jv, splice, lo, hwh, hbg, f1, c1, c2, hrd2, rstate_l, c3, L.rScript]
          · rw [if_neg c3]
            simp (config := { maxSteps := 4000000 }) [g0, g1, g2, g6, g7, hlt', hzn, hz, jv, splice, lo, hwh, hbg, f1, c1, c2, hrd2, rstate_l, eq_false c3, L.rCut]
        · rw [if_pos c2]
          simp (config := { maxSteps := 4000000 }) [g0, g1, g2, g6, g7, hlt', hzn, hz, jv, splice, lo, hwh, hbg, f1, c1, eq_false c2, L.rJson]
      · rw [if_pos c1]
        have f1 : decide (Tg.Json.skip s < s.length) = false := decide_eq_false c1
        simp (config := { maxSteps := 4000000 }) [g0, g1, g2, g6, g7, hlt', hzn, hz, jv, splice, lo, hwh, hbg, f1, eq_false c1, L.rBlank]
end
end Go.Proofs.YtgnefbngkhjfcaaGreatDoor.Lx
/-
  The laws LexerWhole and OrbparseOf: what they come to.
-/
set_option linter.unusedSimpArgs false
set_option linter.unusedVariables false
set_option maxRecDepth 100000
namespace Go.Proofs.YtgnefbngkhjfcaaGreatDoor.Lx
open Go.Lg Tg.Lx
section
variable {H : LH} {s : List UInt8} {D : Nat}
theorem refW_law {en : Bool} (hs : s.length ≤ 900000) : refW s D en = ((wholeP s D en).verdict, (wholeP s D en).reason, atP (wholeP s D en)) := by
  cases en
  · exact feed_law s D hs
  · exact fin_law s D hs
theorem flat_j4 {v a : Int} {r : List UInt8} : flatB (.agg ⟨[.int .i64 v, str r, .int .i64 a, .bool false]⟩) = true := flat_jv
theorem lwhole_l {b : UInt8} {en : Bool} (hd : ∀ l, H.n ≤ l → H.get l = none) (ht : Tab H) : LC Tryz.prog EJ 3 [str s, .int .u8 b.toNat, .bool en] H = some (.bool true, H) := by
  refine LC_pure rfl Tryz.func3 rfl (Nat.le_of_ble_eq_true rfl) (by decide) (by kernel_rfl) rfl ?_
  have hs := cut_l (H := H) (s := s) (k := 150) (by decide)
  have hlen : (s.take (150 : Int).toNat).length ≤ 150 := by simp; omega
  generalize s.take (150 : Int).toNat = s' at *
  have hb := b.toNat_lt
  obtain ⟨D, hD, hD2⟩ := clampN (b.toNat : Int)
  have h1 := whole_l (s := s') (en := en) hD hD2 hd ht (by omega)
  have h2 : ∀ B : LB, LC Tryz.prog EJ 8 [str s', .int .i64 (D : Int), .bool en] (H.new B).ro = some (jv (refW s' D en).1 (refW s' D en).2.1 (refW s' D en).2.2, (H.new B).ro) := fun B => ref29_l hD2 (fun l hl => by
    have hl' : H.n + 1 ≤ l := hl
    rw [get_ro, get_new_ne (by omega), hd l (by omega)]; rfl) (by omega)
  rw [refW_law (by omega)] at h2
  generalize (wholeP s' D en).verdict = v at *
  generalize (wholeP s' D en).reason = r at *
  generalize atP (wholeP s' D en) = a at *
  have e := jv_eq (v := v) (v' := v) (a := a) (a' := a) (r := r) (r' := r)
  have h7 := fun H' : LH => fun hd' ht' => lives29_l (H := H') hd' ht'
  unfold jv at h1 h2 e
  have w0 : IntKind.i64.wrap (b.toNat : Int) = (b.toNat : Int) := by rw [wrap64_in (by omega) (by omega)]
  have hcl : clamp (b.toNat : Int) = if 200 < (b.toNat : Int) then 200 else (b.toNat : Int) := by
    unfold clamp; repeat' split
    all_goals omega
  have h70 := fun (K : LH) (hd' : ∀ l, K.n ≤ l → K.get l = none) (ht' : Tab K) => lives29_l (H := K) hd' ht'
  have h7 : ∀ B : LB, LC Tryz.prog EJ 9 [] (H.new B).ro = some (.bool true, (H.new B).ro) := fun B => lives29_l (fun l hl => by
    have hl' : H.n + 1 ≤ l := hl
    rw [get_ro, get_new_ne (by omega), hd l (by omega)]; rfl) ⟨ht.1, ht.2⟩
  have hle : ∀ B : LB, H.le (H.new B) := fun B => le_refl.new
  by_cases c : 200 < (b.toNat : Int)
  · have f := eq_true c
    have eD : (D : Int) = 200 := by rw [hD, hcl, if_pos c]
    rw [eD] at h2
    simp (config := { maxSteps := 4000000, maxDischargeDepth := 9 }) [hs, h1, f, w0, splice, h2, e, h7, hle, flat_j4]
  · have f := eq_false c
    have eD : (D : Int) = (b.toNat : Int) := by rw [hD, hcl, if_neg c]
    rw [eD] at h2
    simp (config := { maxSteps := 4000000, maxDischargeDepth := 9 }) [hs, h1, f, w0, splice, h2, e, h7, hle, flat_j4]
theorem rlimit_l {l : Bool} {k d : Int} : LC Tryz.prog EJ 13 [rv l k d] H = some (.int .i64 (lim k), H) := by
  refine LC_pure rfl Tryz.func13 rfl (Nat.le_of_ble_eq_true rfl) (by decide) (by kernel_rfl) rfl ?_
  unfold lim
  by_cases c1 : k < 1445
  · have f1 := eq_true c1
    simp [rv, f1, le_refl.new]
  · have f1 := eq_false c1
    by_cases c2 : 1048576 < k
    · have f2 := eq_true c2
      simp [rv, f1, f2, le_refl.new]
    · have f2 := eq_false c2
      simp [rv, f1, f2, le_refl.new]
theorem Limit_l {l : Bool} {k d : Int} : LC Tryz.prog EJ 12 [rv l k d] H = some (.int .i64 (lim k), H) := by
  refine LC_pure rfl Tryz.func12 rfl (Nat.le_of_ble_eq_true rfl) (by decide) (by kernel_rfl) rfl ?_
  have h := fun K : LH => limit_l (H := K) (l := l) (k := k) (d := d)
  unfold rv at h
  simp [rv, h, le_refl.new]
theorem rdepth_l {l : Bool} {k d : Int} : LC Tryz.prog EJ 31 [rv l k d] H = some (.int .i64 (clamp d), H) := by
  refine LC_pure rfl Tryz.func31 rfl (Nat.le_of_ble_eq_true rfl) (by decide) (by kernel_rfl) rfl ?_
  unfold clamp
  by_cases c1 : d < 0
  · have f1 := eq_true c1
    simp [rv, f1, le_refl.new]
  · have f1 := eq_false c1
    by_cases c2 : 200 < d
    · have f2 := eq_true c2
      simp [rv, f1, f2, le_refl.new]
    · have f2 := eq_false c2
      simp [rv, f1, f2, le_refl.new]
theorem rAt_l {n : Int} : LC Tryz.prog EJ 32 [.int .i64 n] H = some (.int .i64 (snAt n), H) := by
  refine LC_pure rfl Tryz.func32 rfl (Nat.le_of_ble_eq_true rfl) (by decide) (by kernel_rfl) rfl ?_
  unfold snAt
  by_cases c1 : n < 0
  · have f1 := eq_true c1
    simp [f1]
  · have f1 := eq_false c1
    by_cases c2 : 1445 < n
    · have f2 := eq_true c2
      simp [f1, f2]
    · have f2 := eq_false c2
      simp [f1, f2]
theorem rof_l {l : Bool} {k d : Int} {en : Bool} (hD : (D : Int) = clamp d) (h2 : D ≤ 200) (hd : ∀ l, H.n ≤ l → H.get l = none) (hs : s.length ≤ 1000) :
    LC Tryz.prog EJ 11 [str s, rv l k d, .bool en] H = some ((ofP s k D en).val, H) := by
  refine LC_pure rfl Tryz.func11 rfl (Nat.le_of_ble_eq_true rfl) (by decide) (by kernel_rfl) flat_jval ?_
  obtain ⟨hk1, hk2⟩ := lim_in k
  have hlt : (s.length : Int) < lim k := by omega
  unfold ofP
  dsimp only
  have ht : s.take (if lim k < s.length then lim k else s.length).toNat = s := by rw [if_neg (by omega)]; simp
  have hen : (en && decide ((s.length : Int) < lim k)) = en := by rw [decide_eq_true hlt]; simp
  rw [ht, hen, if_neg (show ¬ lim k ≤ (s.length : Int) by omega)]
  have hl := fun K : LH => rlimit_l (H := K) (l := l) (k := k) (d := d)
  have hdp := fun K : LH => rdepth_l (H := K) (l := l) (k := k) (d := d)
  have ha := fun K : LH => rAt_l (H := K) (n := s.length)
  have hr : ∀ B B' : LB, LC Tryz.prog EJ 8 [str s, .int .i64 (D : Int), .bool en] ((H.new B).new B') = some (jv (refW s D en).1 (refW s D en).2.1 (refW s D en).2.2, ((H.new B).new B')) := fun B B' => ref29_l h2 (fun l hl => by
    have hl' : H.n + 1 + 1 ≤ l := hl
    rw [get_new_ne (by show l ≠ H.n + 1; omega), get_new_ne (by omega), hd l (by omega)]) (by omega)
  rw [refW_law (by omega)] at hr
  rw [← hD] at hdp
  generalize (wholeP s D en).verdict = v at *
  generalize (wholeP s D en).reason = r at *
  generalize atP (wholeP s D en) = a at *
  generalize lim k = K at *
  generalize snAt s.length = q at *
  have f0 : (K ≤ (s.length : Int)) = False := eq_false (by omega)
  unfold rv at hl hdp
  unfold jv at hr
  have hjb : (⟨[.int .i64 0, str [], .int .i64 0, .bool false], 24, true⟩ : LB) = jb 0 [] 0 := rfl
  by_cases c1 : v = 0
  · have f1 := eq_true c1
    rw [if_neg (Decidable.not_not.2 c1)]
    simp (config := { maxSteps := 4000000, maxDischargeDepth := 9 }) [rv, hl, f0, hdp, hr, f1, ha, splice, J.val, jv, le_refl.new, LH.le.set, LH.le.new]
  · have f1 := eq_false c1
    rw [if_pos c1]
    by_cases c2 : a < q
    · have f2 := eq_true c2
      rw [if_pos c2]
      simp (config := { maxSteps := 4000000, maxDischargeDepth := 9 }) [rv, hl, f0, hdp, hr, f1, f2, ha, splice, J.val, jv, le_refl.new, LH.le.set, LH.le.new]
    · have f2 := eq_false c2
      rw [if_neg c2]
      simp (config := { maxSteps := 4000000, maxDischargeDepth := 9 }) [rv, hl, f0, hdp, hr, f1, f2, ha, splice, J.val, jv, le_refl.new, LH.le.set, LH.le.new]
theorem oof_l {l : Bool} {k d : Int} {en : Bool} (hd : ∀ l, H.n ≤ l → H.get l = none) (ht : Tab H) : LC Tryz.prog EJ 4 [str s, rv l k d, .bool en] H = some (.bool true, H) := by
  refine LC_pure rfl Tryz.func4 rfl (Nat.le_of_ble_eq_true rfl) (by decide) (by kernel_rfl) rfl ?_
  have hs := fun K : LH => cut_l (H := K) (s := s) (k := 120) (by decide)
  have hlen : (s.take (120 : Int).toNat).length ≤ 120 := by simp; omega
  generalize s.take (120 : Int).toNat = s' at *
  obtain ⟨D, hD, hD2⟩ := clampN d
  have hdr : ∀ B : LB, ∀ l, (H.new B).ro.n ≤ l → (H.new B).ro.get l = none := fun B l hl => by
    have hl' : H.n + 1 ≤ l := hl
    rw [get_ro, get_new_ne (by omega), hd l (by omega)]; rfl
  have h1 : ∀ B : LB, _ := fun B => of_l (H := (H.new B).ro) (s := s') (l := l) (k := k) (d := d) (en := en) hD hD2 (hdr B) ⟨ht.1, ht.2⟩ (by omega)
  have h2 : ∀ B : LB, _ := fun B => rof_l (H := (H.new B).ro) (s := s') (l := l) (k := k) (d := d) (en := en) hD hD2 (hdr B) (by omega)
  have h3 : ∀ B : LB, _ := fun B => Limit_l (H := (H.new B).ro) (l := l) (k := k) (d := d)
  have h4 : ∀ B : LB, _ := fun B => rlimit_l (H := (H.new B).ro) (l := l) (k := k) (d := d)
  have h5 : ∀ B : LB, _ := fun B => lives32_l (H := (H.new B).ro) (hdr B) ⟨ht.1, ht.2⟩
  generalize ofP s' k D en = x at *
  have e := jv_eq (v := x.v) (v' := x.v) (a := x.a) (a' := x.a) (r := x.r) (r' := x.r)
  unfold rv at h1 h2 h3 h4
  unfold J.val jv at h1 h2
  unfold jv at e
  simp (config := { maxSteps := 4000000, maxDischargeDepth := 9 }) [rv, hs, h1, h2, h3, h4, h5, e, le_refl.new, flat_j4]
end
end Go.Proofs.YtgnefbngkhjfcaaGreatDoor.Lx
/-
  A logical run of Go code: a whole world as a logical heap that is only read: arguments of any shape.
-/
set_option linter.unusedSimpArgs false
set_option linter.unusedVariables false
namespace Go.Lg
open Go.Tg Go.RowKit

def lift1 (n : Nat) : Value → Value
  | .pointer (some ⟨l, o, none⟩) => if l < n then .pointer (some ⟨l, o, none⟩) else unk
  | .slice (some ⟨l, o, none⟩) k c => if l < n ∧ k ≤ c then .slice (some ⟨l, o, none⟩) k c else if k = 0 ∧ c = 0 ∧ 0 < n then .slice (some ⟨0, 0, none⟩) 0 0 else unk
  | .slice (some ⟨_, _, some _⟩) k c => if k = 0 ∧ c = 0 ∧ 0 < n then .slice (some ⟨0, 0, none⟩) 0 0 else unk
  | v => if atomB v then v else unk
def liftV (n : Nat) : Value → Value
  | .agg cs => .agg (cs.map (lift1 n))
  | v => lift1 n v
def liftB (n : Nat) : Option Obj → Option LB
  | some (.cells arr t _) => some ⟨arr.toList.map (lift1 n), t, false⟩
  | _ => none
/-- the world w as a logical heap -/
def LH.lift (w : World) (g : Nat) : LH := ⟨w.heap.size, fun l => liftB w.heap.size w.heap[l]?, fun _ => False, w, g⟩
def renI : Ren := fun l => ⟨l, 0, 0⟩
theorem atom_flat {v : Value} (h : atomB v = true) : flatB v = true := by
  cases v <;> first | exact h | (simp [atomB] at h)
section
variable {P : Program} {E : Ext} {H H' : LH} {w w' : World} {v v' : Value} {g : Nat}
theorem lift_D {l : Nat} : (LH.lift w g).D l ↔ l < w.heap.size := ⟨fun h => h.1, fun h => ⟨h, fun h => h⟩⟩
theorem lift1_vr (v : Value) : VR (LH.lift w g).D renI (lift1 w.heap.size v) v := by
  unfold lift1
  split
  · rename_i l o
    split
    · have := VR.ptr (n := (LH.lift w g).D) (ι := renI) l o (lift_D.2 ‹_›)
      simpa [renI] using this
    · exact .any _
  · rename_i l o k c
    split
    · rename_i h
      have := VR.slice (n := (LH.lift w g).D) (ι := renI) l o k c (lift_D.2 h.1) h.2
      simpa [renI] using this
    · split
      · rename_i h; obtain ⟨rfl, rfl, h⟩ := h; exact .slice0 0 0 _ (lift_D.2 h)
      · exact .any _
  · split
    · rename_i h; obtain ⟨rfl, rfl, h⟩ := h; exact .slice0 0 0 _ (lift_D.2 h)
    · exact .any _
  · split
    · exact .flat _ (atom_flat ‹_›)
    · exact .any _
theorem liftV_vr (v : Value) : VR (LH.lift w g).D renI (liftV w.heap.size v) v := by
  unfold liftV
  split
  · refine .agg _ _ (by simp) (fun i x y hx hy => ?_)
    rw [Array.getElem?_map, hy] at hx
    simp only [Option.map_some, Option.some.injEq] at hx
    subst hx
    exact lift1_vr y
  · exact lift1_vr _
theorem rel_lift (hg : g ≤ w.heap.size) : Rel P (LH.lift w g) renI w := by
  have hno : ∀ k, ¬ RW (LH.lift w g) renI k := by
    rintro k ⟨l, b, hb, hr, _⟩
    have hb' : liftB w.heap.size w.heap[l]? = some b := hb
    unfold liftB at hb'
    split at hb'
    · simp only [Option.some.injEq] at hb'; subst hb'; cases hr
    · cases hb'
  refine ⟨fun l hl => ?_, fun _ h => h.elim, fun l b hb => ?_, fun l l' b b' hb _ hr => ?_, fun k hk => ⟨rfl, Nat.lt_of_lt_of_le hk hg, hno k⟩⟩
  · show liftB _ _ = none
    rw [Array.getElem?_eq_none hl]; rfl
  · have hb' : liftB w.heap.size w.heap[l]? = some b := hb
    unfold liftB at hb'
    split at hb'
    · rename_i arr t fr hw
      simp only [Option.some.injEq] at hb'
      subst hb'
      refine ⟨arr, t, fr, hw, by simp [renI], fun i x hx => ?_, fun h => by cases h⟩
      simp only [List.getElem?_map, Option.map_eq_some_iff] at hx
      obtain ⟨y, hy, rfl⟩ := hx
      exact ⟨y, by simpa [renI] using hy, lift1_vr y⟩
    · cases hb'
  · exact absurd ⟨l, b, hb, hr, rfl⟩ (hno (renI l).blk)
/-- a law of arguments of any shape -/
theorem law_lift {f : FuncId} {args : Array Value} {ng : Nat} (hT : TOk P (LC P E)) (hng : ng ≤ w.heap.size) (h : LC P E f (args.toList.map (liftV w.heap.size)) (LH.lift w ng) = some (.bool true, H')) :
    Calls P f args w fun e w' => e = .returned (.bool true) ∧ Change (fun _ => False) w w' := by
  obtain ⟨_, hc⟩ := hT _ _ _ _ _ h
  refine (hc renI w args (rel_lift hng) (by simp) (fun i x y hx hy => ?_)).mono ?_
  · rw [List.getElem?_map, Array.getElem?_toList] at hx
    rw [hy] at hx
    simp only [Option.map_some, Option.some.injEq] at hx
    subst hx
    exact liftV_vr y
  · rintro e w' ⟨ι', v', rfl, ho, hv⟩
    rw [flat_eq hv rfl]
    refine ⟨rfl, ho.chg.mono ?_⟩
    rintro k - ⟨l, b, hb, hr, _⟩
    have hb' : liftB w.heap.size w.heap[l]? = some b := hb
    unfold liftB at hb'
    split at hb'
    · simp only [Option.some.injEq] at hb'; subst hb'; cases hr
    · cases hb'
theorem lift_flat {v : Value} (h : atomB v = true) (n : Nat) : lift1 n v = v := by
  unfold lift1
  split
  · simp [atomB] at h
  · simp [atomB] at h
  · simp [atomB] at h
  · rw [if_pos h]
@[simp] theorem lift_str {n : Nat} {s : ByteArray} : lift1 n (.string s) = .string s := rfl
@[simp] theorem lift_int {n : Nat} {k : IntKind} {i : Int} : lift1 n (.int k i) = .int k i := rfl
@[simp] theorem lift_bool {n : Nat} {b : Bool} : lift1 n (.bool b) = .bool b := rfl
/-- v is a row of elements of s cells each -/
def RowOf {α : Type} (H : LH) (s : Nat) (El : α → List Value → Prop) (v : Value) (xs : List α) : Prop :=
  (v = .slice none 0 0 ∧ xs = []) ∨ ∃ l o c, v = .slice (some ⟨l, o, none⟩) xs.length c ∧ xs.length ≤ c ∧ l < H.n ∧ (xs ≠ [] → ∃ b, H.get l = some b ∧ o + xs.length * s ≤ b.cells.length ∧ ∀ i x, xs[i]? = some x → El x ((b.cells.drop (o + i * s)).take s))
variable {HH : Type} {enc : TypeId × Value → HH}
theorem cells_lift {a : Addr} {k : Nat} {cs : List Value} {b0 : Nat} (hk : 0 < k) (h : w.cells? b0 a k = some cs) : ∃ l o arr t f, a = ⟨l, o, none⟩ ∧ w.heap[l]? = some (.cells arr t f) ∧ cs = (arr.toList.drop o).take k ∧ o + k ≤ arr.size := by
  unfold World.cells? at h
  split at h
  · have hlen : cs.length = k := by simpa using Lib.mapM_length h
    have hi : ∀ i, i < k → cs[i]? = w.cell? (a.add i) := fun i hi => mapM_get h i i (by simp [hi])
    have e0 := hi 0 hk
    have hsome : ∀ i, i < k → ∃ x, cs[i]? = some x := fun i hi => ⟨_, List.getElem?_eq_getElem (by omega)⟩
    obtain ⟨x0, hx0⟩ := hsome 0 hk
    obtain ⟨l, o, sp⟩ := a
    rw [hx0] at e0
    simp only [Addr.add, if_pos, World.cell?] at e0
    split at e0
    · rename_i arr t f hw
      split at e0
      · cases e0
      · rename_i hsp
        have hsp' : sp = none := by cases sp with | none => rfl | some x => simp at hsp
        subst hsp'
        have hc : ∀ i, i < k → cs[i]? = arr[o + i]? := fun i h2 => by
          rw [hi i h2]
          unfold Addr.add
          split
          · rename_i h0; subst h0; simp [World.cell?, hw]
          · simp [World.cell?, hw]
        have hsz : o + k ≤ arr.size := by
          obtain ⟨x, hx⟩ := hsome (k - 1) (by omega)
          rw [hc (k - 1) (by omega)] at hx
          have := (Array.getElem?_eq_some_iff.1 hx).1
          omega
        refine ⟨l, o, arr, t, f, rfl, hw, ?_, hsz⟩
        apply List.ext_getElem?
        intro i
        rw [List.getElem?_take]
        split
        · rename_i h2; rw [hc i h2, List.getElem?_drop]; simp
        · rw [List.getElem?_eq_none (by omega)]
    · cases e0
  · cases h
theorem lift_block {l : Nat} {arr : Array Value} {t : TypeId} {f : Nat × Nat} (h : w.heap[l]? = some (.cells arr t f)) : (LH.lift w g).get l = some ⟨arr.toList.map (lift1 w.heap.size), t, false⟩ := by
  show liftB _ _ = _
  rw [h]; rfl
/-- a slice among arguments -/
theorem row_of_trod {α : Type} {El : α → List Value → Prop} {t e : TypeId} {base fuel s : Nat} {held : Bool} {cs : List Value} {x : DataW HH × List MemPlace} (ht : P.underlying t = some (.slice e)) (hs : P.cellsOf e = s) (h0 : 0 < s) (hw0 : 0 < w.heap.size)
    (hel : ∀ fuel cs y, DataW.trod enc P w base (fun _ => true) held fuel e cs = some y → ∃ a, El a (cs.map (lift1 w.heap.size)))
    (h : DataW.trod enc P w base (fun _ => true) held fuel t cs = some x) : ∃ v xs, cs = [v] ∧ RowOf (LH.lift w g) s El (lift1 w.heap.size v) xs ∧ xs.length ≤ maxLen := by
  rcases DataW.trod_slice ht h with ⟨rfl, rfl⟩ | ⟨a, len, cap, elems, rest, n, _, rfl, rfl, _, hl, hm, hlen, hat, hrest, _⟩
  · exact ⟨_, [], rfl, .inl ⟨rfl, rfl⟩, Nat.zero_le _⟩
  · rw [hs] at hat hrest
    obtain ⟨hr1, hr2⟩ := hrest rfl
    have hcell : ∀ i, i < len → ∃ cs' y, w.cells? base (a.add (i * s)) s = some cs' ∧ DataW.trod enc P w base (fun _ => true) held n e cs' = some y := fun i hi => by
      have := hat i hi
      rw [List.getElem?_eq_getElem (by omega)] at this
      obtain ⟨cs', h1, h2⟩ := Option.bind_eq_some_iff.1 this
      exact ⟨cs', _, h1, h2⟩
    have hmem : ∀ i, i < cap → ∃ cs', w.cells? base (a.add (i * s)) s = some cs' := fun i hi => by
      rcases Nat.lt_or_ge i len with h1 | h1
      · obtain ⟨cs', _, h, _⟩ := hcell i h1; exact ⟨cs', h⟩
      · have := hr2 (i - len) (by omega)
        rw [List.getElem?_eq_getElem (by omega), show len + (i - len) = i by omega] at this
        obtain ⟨cs', h1, h2⟩ := Option.bind_eq_some_iff.1 this
        exact ⟨cs', h1⟩
    have hex : ∀ i : Fin len, ∃ x : α, ∀ cs', w.cells? base (a.add (i.1 * s)) s = some cs' → El x (cs'.map (lift1 w.heap.size)) := fun i => by
      obtain ⟨cs', y, h1, h2⟩ := hcell i.1 i.2
      obtain ⟨x, hx⟩ := hel n cs' y h2
      exact ⟨x, fun cs2 h3 => by rw [h1] at h3; injection h3 with h3; subst h3; exact hx⟩
    refine ⟨_, List.ofFn (fun i => Classical.choose (hex i)), rfl, ?_, by simp; omega⟩
    rcases Nat.eq_zero_or_pos cap with hc | hc
    · subst hc
      obtain rfl : len = 0 := by omega
      refine .inr ?_
      have : ∃ l o, lift1 w.heap.size (.slice (some a) 0 0) = .slice (some ⟨l, o, none⟩) 0 0 ∧ l < w.heap.size := by
        obtain ⟨l, o, sp⟩ := a
        cases sp with
        | none =>
          simp only [lift1]
          split
          · exact ⟨l, o, rfl, And.left ‹_›⟩
          · rw [if_pos (by simp [hw0])]; exact ⟨0, 0, rfl, hw0⟩
        | some q => simp only [lift1]; rw [if_pos (by simp [hw0])]; exact ⟨0, 0, rfl, hw0⟩
      obtain ⟨l, o, e1, h1⟩ := this
      exact ⟨l, o, 0, by simpa using e1, by simp, h1, fun hne => by simp at hne⟩
    · obtain ⟨cs0, h00⟩ := hmem 0 hc
      rw [Nat.zero_mul, show a.add 0 = a from rfl] at h00
      obtain ⟨l, o, arr, t, f, rfl, hw, _, _⟩ := cells_lift h0 h00
      have hlt : l < w.heap.size := (Array.getElem?_eq_some_iff.1 hw).1
      refine .inr ⟨l, o, cap, by simp [lift1, hlt, hl], by simpa using hl, hlt, fun hne => ⟨_, lift_block hw, ?_, fun i y hy => ?_⟩⟩
      · have hlen0 : 0 < len := by
          rcases Nat.eq_zero_or_pos len with h1 | h1
          · subst h1; simp at hne
          · exact h1
        obtain ⟨cs', y, h1, _⟩ := hcell (len - 1) (by omega)
        obtain ⟨l', o', arr', t', f', ea, hw', _, hsz⟩ := cells_lift h0 h1
        have : l' = l ∧ o' = o + (len - 1) * s := by
          unfold Addr.add at ea
          split at ea
          · rename_i hz; injection ea with e1 e2; exact ⟨e1.symm, by omega⟩
          · injection ea with e1 e2; exact ⟨e1.symm, e2.symm⟩
        obtain ⟨rfl, rfl⟩ := this
        rw [hw] at hw'
        injection hw' with hw'
        injection hw' with e1
        subst e1
        have e2 : len * s = (len - 1) * s + s := by
          obtain ⟨m, rfl⟩ : ∃ m, len = m + 1 := ⟨len - 1, by omega⟩
          rw [Nat.add_sub_cancel, Nat.succ_mul]
        simp; omega
      · have hi : i < len := by have := (List.getElem?_eq_some_iff.1 hy).1; simpa using this
        obtain ⟨cs', y', h1, _⟩ := hcell i hi
        have hch := Classical.choose_spec (hex ⟨i, hi⟩) cs' h1
        have hy' : y = Classical.choose (hex ⟨i, hi⟩) := by
          rw [List.getElem?_ofFn] at hy
          simpa [hi] using hy.symm
        rw [hy']
        obtain ⟨l', o', arr', t', f', ea, hw', hcs, hsz⟩ := cells_lift h0 h1
        have : l' = l ∧ o' = o + i * s := by
          unfold Addr.add at ea
          split at ea
          · rename_i hz; injection ea with e1 e2; exact ⟨e1.symm, by omega⟩
          · injection ea with e1 e2; exact ⟨e1.symm, e2.symm⟩
        obtain ⟨rfl, rfl⟩ := this
        rw [hw] at hw'
        injection hw' with hw'
        injection hw' with e1
        subst e1
        subst hcs
        rw [List.map_take, List.map_drop] at hch
        exact hch
/-- strings among arguments -/
theorem str_of_trod {t : TypeId} {base fuel : Nat} {sp : Nat → Bool} {held : Bool} {cs : List Value} {x : DataW HH × List MemPlace} (ht : P.underlying t = some .string) (h : DataW.trod enc P w base sp held fuel t cs = some x) :
    ∃ s : List UInt8, cs = [str s] ∧ s.length ≤ maxLen := by
  obtain ⟨s', rfl, hx, hs⟩ := DataW.trod_string ht h
  exact ⟨s'.data.toList, by rw [str_ba], by simpa using hs⟩
end
end Go.Lg
/-
  The law LexerFeeds: the machine's methods, exactly; plain laws.
-/
set_option linter.unusedSimpArgs false
set_option linter.unusedVariables false
set_option maxRecDepth 100000
namespace Tg.Lx
namespace L
theorem wait_step (m : L) (b : UInt8) (h : m.verdict = 0 → m.at_ = -1) : (m.step b).verdict = 0 → (m.step b).at_ = -1 := by
  unfold step
  split
  · exact h
  · rcases look_cases (m.see.take1 b) with e | ⟨v, r, hv, e⟩
    · rw [e]; exact h
    · rw [e]; intro hz; exfalso
      have hz' : v = 0 := hz
      rcases hv with rfl | rfl <;> cases hz'
theorem wait_feed (t : List UInt8) : ∀ m : L, (m.verdict = 0 → m.at_ = -1) → (m.feed t).verdict = 0 → (m.feed t).at_ = -1 := by
  induction t with
  | nil => intro m h; exact h
  | cons b r ih => intro m h; exact ih (m.step b) (wait_step m b h)
theorem fin_fin (m : L) : m.fin.fin = m.fin := by
  have h := fin_verdict m
  have e : m.fin.ended = true := by rcases fin_cases m with ⟨e, _⟩ | ⟨v, r, _, e⟩ <;> rw [e] <;> rfl
  generalize m.fin = x at *
  unfold fin
  rw [if_pos h]
  cases x
  simp only at e
  simp [e]
theorem feed_ended (t : List UInt8) : ∀ m : L, m.verdict ≠ 0 → m.feed t = { m with seen := (m.feed t).seen } := by
  induction t with
  | nil => intro m _; rfl
  | cons b r ih =>
    intro m h
    have e : m.step b = m.see := by unfold step; rw [if_pos (.inl h)]
    have h2 := ih m.see h
    have e2 : m.feed (b :: r) = m.see.feed r := by show (m.step b).feed r = _; rw [e]
    rw [e2, h2]; rfl
end L
end Tg.Lx
namespace Go.Proofs.YtgnefbngkhjfcaaGreatDoor.Lx
open Go.Lg Tg.Lx
section
variable {H H' H0 : LH} {b : UInt8} {m m' : L} {p pj ps : Nat} {vj vs : Value} {s t : List UInt8}
theorem End29_is (h : At H0 p pj ps vj vs H m) : LC Tryz.prog EJ 21 [ptr p 0] H = some (.int .i64 m.fin.verdict, H.set p (lb m.fin pj ps)) := by
  have hg := h.get
  have hp := h.lt
  have ae := h.set (m' := { m with ended := true }) rfl rfl
  have ge := ae.get
  have le := ae.lt
  have hj := Jn.state_l ae.aj
  have hb := Jn.begun_l ae.aj
  have hs := sstate_l ae.aS
  have hse := fun v r => settle_l (v := v) (r := r) ge le
  have sv : ∀ v r, (({ m with ended := true } : L).settle v r).verdict = v := fun _ _ => rfl
  have e0 : ((m.j.tell : Int) = 0) = (m.j.tell = 0) := tellJ3 0
  have hend : LC Tryz.prog EJ 24 [ptr p 0] H = some (.int .i64 m.fin.verdict, H.set p (lb m.fin pj ps)) := by
    refine own rfl Tryz.func24 rfl (Nat.le_of_ble_eq_true rfl) (by decide) (by kernel_rfl) hg hp ?_
    have en : ∀ v r, ((H.set p (lb { m with ended := true } pj ps)).set p (lb (({ m with ended := true } : L).settle v r) pj ps)) = H.set p (lb (({ m with ended := true } : L).settle v r) pj ps) := fun v r => set_set
    unfold L.fin
    by_cases c1 : m.verdict ≠ 0
    · rw [if_pos c1]
      have f1 := eq_false c1
      simp (config := { maxSteps := 4000000 }) [hg, hp, ge, le, c1]
    rw [if_neg c1]
    have f1 : (m.verdict = 0) = True := eq_true (Classical.byContradiction c1)
    cases c2 : m.j.begun with
    | false =>
      rw [if_pos rfl]
      have hb' := hb
      rw [show ({ m with ended := true } : L).j.begun = false from c2] at hb'
      simp (config := { maxSteps := 4000000 }) [hg, hp, ge, le, f1, hb', hse, sv, en]
      rfl
    | true =>
      rw [if_neg (by simp)]
      have hb' := hb
      rw [show ({ m with ended := true } : L).j.begun = true from c2] at hb'
      by_cases c3 : m.j.tell ≠ 0
      · rw [if_pos c3]
        have f3 : (m.j.tell = 0) = False := eq_false c3
        simp (config := { maxSteps := 4000000 }) [hg, hp, ge, le, f1, hb', hj, f3, hse, sv, en]
        rfl
      · rw [if_neg c3]
        have f3 : (m.j.tell = 0) = True := eq_true (by omega)
        by_cases c4 : m.s.tell = 2
        · rw [if_pos c4]
          simp (config := { maxSteps := 4000000 }) [hg, hp, ge, le, f1, hb', hj, f3, hs, eq_true c4, hse, sv, en]
          rfl
        · rw [if_neg c4]
          simp (config := { maxSteps := 4000000 }) [hg, hp, ge, le, f1, hb', hj, f3, hs, eq_false c4, hse, sv, en]
          rfl
  refine own rfl Tryz.func21 rfl (Nat.le_of_ble_eq_true rfl) (by decide) (by kernel_rfl) hg hp ?_
  simp [hend, hp]
/-- with a verdict, bytes are counted only -/
theorem Feed29_stuck (hg : H.get p = some (lb m pj ps)) (hp : p < H.n) (hv : m.verdict ≠ 0) (hs : s.length ≤ 1048576) : LC Tryz.prog EJ 16 [ptr p 0, str s] H = some (.int .i64 m.verdict, H.set p (lb (m.feed s) pj ps)) := by
  have hfeed : LC Tryz.prog EJ 23 [ptr p 0, str s] H = some (.int .i64 m.verdict, H.set p (lb (m.feed s) pj ps)) := by
    refine own rfl Tryz.func23 rfl (Nat.le_of_ble_eq_true rfl) (by decide) (by kernel_rfl) hg hp ?_
    simp
    refine loop_ind (fun (i : Nat) fr' H' => fr' 0 = ptr p 0 ∧ fr' 1 = str s ∧ fr' 7 = .int .i64 s.length ∧ fr' 8 = .int .i64 i ∧ i ≤ s.length ∧ H' = H.set p (lb (m.feed (s.take i)) pj ps)) (fun i => s.length - i) 0 ?_ ?_
    · refine ⟨by simp, by simp, by simp, by simp, Nat.zero_le _, ?_⟩
      show H = H.set p (lb m pj ps)
      exact (set_self hg).symm
    rintro i fr' H' ⟨h0, h1, h9, h10, hi, rfl⟩ ih
    have hm1 : (m.feed (s.take i)).verdict = m.verdict := (L.stuck _ m hv).1
    have gs : (H.set p (lb (m.feed (s.take i)) pj ps)).get p = some (lb (m.feed (s.take i)) pj ps) := get_set
    by_cases hlt : i < s.length
    · have hwr : IntKind.i64.wrap ((i : Int) + 1) = ((i + 1 : Nat) : Int) := by rw [wrap64_in (by omega) (by omega)]; omega
      have hst := L.feed_take m s hlt
      have f1 : ((m.feed (s.take i)).verdict = 0) = False := eq_false (by rw [hm1]; exact hv)
      have hst2 : m.feed (s.take (i + 1)) = (m.feed (s.take i)).see := by rw [hst]; unfold L.step; rw [if_pos (.inl (by rw [hm1]; exact hv))]
      generalize m.feed (s.take i) = m1 at *
      have hsee : lb { m1 with seen := IntKind.i64.wrap (m1.seen + 1) } pj ps = lb m1.see pj ps := rfl
      have f2 : (m1.see.verdict = 0) = False := f1
      simp (config := { maxSteps := 4000000 }) [h0, h1, h9, h10, hlt, hp, hwr, hsee, f1, f2]
      exact ih (i + 1) _ _ (by omega) ⟨by simp [h0], by simp [h1], by simp [h9], by simp, hlt, by rw [hst2]⟩
    · have hi2 : s.take i = s := List.take_of_length_le (by omega)
      rw [hi2] at gs hm1 ⊢
      simp [h0, h1, h9, h10, hlt, gs, hm1, hp]
  refine own rfl Tryz.func16 rfl (Nat.le_of_ble_eq_true rfl) (by decide) (by kernel_rfl) hg hp ?_
  simp [hfeed, hp]
section
variable {e : TypeId} {rw_ : Bool} (hg : H.get p = some ⟨(lb m pj ps).cells, e, rw_⟩)
include hg
theorem Verdict29_l : LC Tryz.prog EJ 17 [ptr p 0] H = some (.int .i64 m.verdict, H) := by
  refine LC_pure rfl Tryz.func17 rfl (Nat.le_of_ble_eq_true rfl) (by decide) (by kernel_rfl) rfl ?_
  simp [hg]
theorem Reason29_l : LC Tryz.prog EJ 18 [ptr p 0] H = some (str m.reason, H) := by
  refine LC_pure rfl Tryz.func18 rfl (Nat.le_of_ble_eq_true rfl) (by decide) (by kernel_rfl) flat_str ?_
  simp [hg]
theorem At29_l : LC Tryz.prog EJ 19 [ptr p 0] H = some (.int .i64 m.at_, H) := by
  refine LC_pure rfl Tryz.func19 rfl (Nat.le_of_ble_eq_true rfl) (by decide) (by kernel_rfl) rfl ?_
  simp [hg]
theorem Seen29_l : LC Tryz.prog EJ 20 [ptr p 0] H = some (.int .i64 m.seen, H) := by
  refine LC_pure rfl Tryz.func20 rfl (Nat.le_of_ble_eq_true rfl) (by decide) (by kernel_rfl) rfl ?_
  simp [hg]
end
/-- a depth that may not be -/
theorem New29_bad {d : Int} (h : d < 0 ∨ 200 < d) : LC Tryz.prog EJ 15 [.int .i64 d] H = some (.tuple #[.pointer none, .int .i64 1], H) := by
  have h1 : LC Tryz.prog EJ 33 [.int .i64 d] H = some (.tuple #[.pointer none, .int .i64 1], H) := by
    refine LC_pure rfl Tryz.func33 rfl (Nat.le_of_ble_eq_true rfl) (by decide) (by kernel_rfl) rfl ?_
    by_cases c : d < 0
    · simp [eq_true c]
    · have c2 : 200 < d := by omega
      simp [eq_false c, eq_true c2]
  have h2 : LC Tryz.prog EJ 22 [.int .i64 d] H = some (.tuple #[.pointer none, .int .i64 1], H) := by
    refine LC_pure rfl Tryz.func22 rfl (Nat.le_of_ble_eq_true rfl) (by decide) (by kernel_rfl) rfl ?_
    simp [h1]
  refine LC_pure rfl Tryz.func15 rfl (Nat.le_of_ble_eq_true rfl) (by decide) (by kernel_rfl) rfl ?_
  simp [h2]
end
end Go.Proofs.YtgnefbngkhjfcaaGreatDoor.Lx
/-
  The law LexerFeeds: what it comes to.
-/
set_option linter.unusedSimpArgs false
set_option linter.unusedVariables false
set_option maxRecDepth 100000
namespace Go.Lg
/-- a law that comes to true -/
theorem LC_true {P : Program} {E : Ext} {fn : Func} {H : LH} {f : FuncId} {c : Code} {args : List Value} (he : E f = none) (hf : P.funcs[f]? = some fn) (hb : fn.body = some c) (hN : args.length ≤ fn.ntmps) (hname : fn.name ≠ "runtime.NumGoroutine") (hcd : codeOk E.loud fn.ntmps c = true)
    (hr : Runs P E fn [.code c] (enter args) H (fun r => r.1 = .bool true)) : ∃ H', LC P E f args H = some (.bool true, H') := by
  obtain ⟨⟨v, H'⟩, h, e⟩ := LC_runs he hf hb hN hname hcd hr
  simp only at e
  subst e
  rcases trunc_or (.bool true) H H' with e | ⟨e, _⟩ <;> rw [e] at h <;> exact ⟨_, h⟩
theorem row_cell {b : LB} {o i : Nat} {x : Value} (h : (b.cells.drop (o + i * 1)).take 1 = [x]) : b.cells[o + i]? = some x := by
  have h2 := congrArg (fun l => l[0]?) h
  simp at h2
  exact h2
end Go.Lg
namespace Go.Proofs.YtgnefbngkhjfcaaGreatDoor.Lx
open Go.Lg Tg.Lx
section
variable {H H' H0 : LH} {b : UInt8} {m m' : L} {p pj ps : Nat} {vj vs : Value} {s t : List UInt8}
def catT (xs : List (List UInt8)) (i : Nat) : List UInt8 := ((xs.take i).map (fun x => x.take 25)).flatten
theorem catT_succ {xs : List (List UInt8)} {i : Nat} (h : i < xs.length) : catT xs (i + 1) = catT xs i ++ xs[i].take 25 := by
  unfold catT; rw [List.take_succ_eq_append_getElem h, List.map_append, List.flatten_append]; simp
theorem catT_len {xs : List (List UInt8)} : ∀ {i : Nat}, (catT xs i).length ≤ 25 * i
  | 0 => by simp [catT]
  | i + 1 => by
    rcases Nat.lt_or_ge i xs.length with h | h
    · rw [catT_succ h]; have := @catT_len xs i; simp; omega
    · have := @catT_len xs i
      have e : catT xs (i + 1) = catT xs i := by unfold catT; rw [List.take_of_length_le (by omega), List.take_of_length_le h]
      rw [e]; omega
theorem wholeF {D : Nat} : wholeP s D false = (L.new D).feed s := rfl
theorem wholeT {D : Nat} : wholeP s D true = ((L.new D).feed s).fin := rfl
set_option maxHeartbeats 4000000 in
theorem feeds29_l {v : Value} {d : Int} {xs : List (List UInt8)} (hv : RowOf H 1 (fun (s : List UInt8) cs => cs = [str s]) v xs) (hd : ∀ l, H.n ≤ l → H.get l = none) (ht : Tab H) (hx : xs.length ≤ maxLen) :
    ∃ H', LC Tryz.prog EJ 5 [v, .int .i64 d] H = some (.bool true, H') := by
  unfold maxLen at hx
  refine LC_true rfl Tryz.func5 rfl (Nat.le_of_ble_eq_true rfl) (by decide) (by kernel_rfl) ?_
  by_cases hbad : d < 0 ∨ 200 < d
  · have hn := New29_bad (H := H) hbad
    have hl := lives29_l hd ht
    by_cases c : d < 0
    · have f1 := eq_true c
      simp (config := { maxSteps := 4000000 }) [hn, f1, hl]
    · have f1 := eq_false c
      have f2 : (200 < d) = True := eq_true (by omega)
      simp (config := { maxSteps := 4000000 }) [hn, f1, f2, hl]
  obtain ⟨D, rfl⟩ : ∃ D : Nat, d = D := ⟨d.toNat, by omega⟩
  have hD : D ≤ 200 := by omega
  have hn := New29_l (H := H) hD
  have a0 := at_fresh hD hd ht
  have f1 : ((D : Int) < 0) = False := eq_false (by omega)
  have f2 : (200 < (D : Int)) = False := eq_false (by omega)
  have hlen : ∀ K : LH, lbuiltin Tryz.prog .len [33] [v] K = some (.int .i64 xs.length, K) := by
    intro K
    rcases hv with ⟨rfl, rfl⟩ | ⟨l, o, c, rfl, _⟩
    · exact lbuiltin_len_slice Tryz.underlying33
    · exact lbuiltin_len_slice Tryz.underlying33
  simp (config := { maxSteps := 4000000 }) [hn, f1, f2]
  refine loop_ind (fun (i : Nat) fr' H' => fr' 0 = v ∧ fr' 1 = .int .i64 (D : Int) ∧ fr' 5 = ptr (H.n + 2) 0 ∧ fr' 7 = str (catT xs i) ∧ fr' 8 = .int .i64 i ∧ i ≤ xs.length ∧ i ≤ 8 ∧ Post H (H.n + 2) H.n (H.n + 1) ((L.new D).feed (catT xs i)) H') (fun i => 8 - i) 0 ?_ ?_
  · exact ⟨by simp, by simp, by simp, by simp [catT], by simp, Nat.zero_le _, by omega, a0.post⟩
  rintro i fr' H' ⟨h0, h1, h5, h7, h8, hi, hi8, vj1, vs1, a1⟩ ih
  have hs := @catT_len xs i
  have hjs : ((L.new D).feed (catT xs i)).j.seen ≤ 549755813888 := by have := jseen_feed (catT xs i) (L.new D); have h0 : (L.new D).j.seen = 0 := rfl; omega
  by_cases hgo : i < xs.length ∧ i < 8
  · obtain ⟨hlt, hlt8⟩ := hgo
    have g1 : ((i : Int) < (xs.length : Int)) = True := eq_true (by omega)
    have g2 : ((i : Int) < 8) = True := eq_true (by omega)
    rcases hv with ⟨rfl, rfl⟩ | ⟨l, o, c, rfl, hlc, hl, hrow⟩
    · simp at hlt
    obtain ⟨B, hB, hBl, hel⟩ := hrow (by intro e; subst e; simp at hlt)
    have hcell := row_cell (hel i _ (List.getElem?_eq_getElem hlt))
    have hB' : H'.get l = some B := by rw [a1.keep l hl]; exact hB
    have hcut := cut_l (H := H') (s := xs[i]) (k := 25) (by decide)
    have e25 : (25 : Int).toNat = 25 := rfl
    rw [e25] at hcut
    have hcs := catT_succ hlt
    have hu : (xs[i].take 25).length ≤ 25 := by simp; omega
    obtain ⟨H2, e2, vj2, vs2, a2⟩ := Feed29_ex a1 (s := xs[i].take 25) (by omega) hjs
    rw [← L.feed_append, ← hcs] at e2 a2
    have hr : LC Tryz.prog EJ 8 [str (catT xs (i + 1)), .int .i64 (D : Int), .bool false] H2 = some (jv (refW (catT xs (i + 1)) D false).1 (refW (catT xs (i + 1)) D false).2.1 (refW (catT xs (i + 1)) D false).2.2, H2) := ref29_l hD a2.aj.dom (by have := @catT_len xs (i + 1); omega)
    rw [refW_law (by have := @catT_len xs (i + 1); omega), wholeF] at hr
    have hcat : (catT xs i).length + (xs[i].take 25).length ≤ 9223372036854775807 := by omega
    have hcat2 : (catT xs i).length + min 25 xs[i].length ≤ 9223372036854775807 := by omega
    have hl1 : (catT xs i ++ xs[i].take 25) = catT xs (i + 1) := hcs.symm
    have hse := (L.Inv.new D).feed (catT xs (i + 1)) (by have := @catT_len xs (i + 1); omega)
    have hwt := L.wait_feed (catT xs (i + 1)) (L.new D) (fun _ => rfl)
    generalize hm : (L.new D).feed (catT xs (i + 1)) = m' at *
    have q1 : ∀ K : LB, LC Tryz.prog EJ 17 [ptr (H.n + 2) 0] (H2.new K).ro = some (.int .i64 m'.verdict, (H2.new K).ro) := fun K => Verdict29_l (by rw [get_ro, (a2.new (B := K)).get]; rfl)
    have q2 : ∀ K : LB, LC Tryz.prog EJ 18 [ptr (H.n + 2) 0] (H2.new K).ro = some (str m'.reason, (H2.new K).ro) := fun K => Reason29_l (by rw [get_ro, (a2.new (B := K)).get]; rfl)
    have q3 : ∀ K : LB, LC Tryz.prog EJ 19 [ptr (H.n + 2) 0] (H2.new K).ro = some (.int .i64 m'.at_, (H2.new K).ro) := fun K => At29_l (by rw [get_ro, (a2.new (B := K)).get]; rfl)
    have q4 : ∀ K : LB, LC Tryz.prog EJ 20 [ptr (H.n + 2) 0] (H2.new K).ro = some (.int .i64 m'.seen, (H2.new K).ro) := fun K => Seen29_l (by rw [get_ro, (a2.new (B := K)).get]; rfl)
    have hseen : m'.seen = ((catT xs (i + 1)).length : Int) := by rw [hse.seen]; simp
    have hwi : IntKind.i64.wrap ((i : Int) + 1) = (i : Int) + 1 := by rw [wrap64_in (by omega) (by omega)]
    by_cases c1 : m'.verdict = 0
    · have k1 := eq_true c1
      have hat := hwt c1
      have hatP : atP m' = 0 := by unfold atP; rw [hat]; rfl
      rw [hatP, c1] at hr
      rw [c1] at q1 e2
      simp (config := { maxSteps := 4000000, maxDischargeDepth := 9 }) [h0, h1, h5, h7, h8, hlen, g1, g2, hB', hcell, hcut, hcat, hcat2, hl1, e2, hr, jv, splice, q1, q2, q3, q4, hat, hseen, hwi]
      exact ih (i + 1) _ _ (by omega) ⟨by simp [h0], by simp [h1], by simp [h5], by simp, by simp, hlt, hlt8, by rw [hm]; exact (a2.new).post⟩
    · have k1 := eq_false c1
      have hatP : atP m' = m'.at_ := by unfold atP; rw [if_neg (by have := hse.at2 c1; omega)]
      rw [hatP] at hr
      simp (config := { maxSteps := 4000000, maxDischargeDepth := 9 }) [h0, h1, h5, h7, h8, hlen, g1, g2, hB', hcell, hcut, hcat, hcat2, hl1, e2, hr, jv, splice, q1, q2, q3, q4, k1, hseen, hwi]
      exact ih (i + 1) _ _ (by omega) ⟨by simp [h0], by simp [h1], by simp [h5], by simp, by simp, hlt, hlt8, by rw [hm]; exact (a2.new).post⟩
  · have hr : LC Tryz.prog EJ 8 [str (catT xs i), .int .i64 (D : Int), .bool true] H' = some (jv (refW (catT xs i) D true).1 (refW (catT xs i) D true).2.1 (refW (catT xs i) D true).2.2, H') := ref29_l hD a1.aj.dom (by omega)
    rw [refW_law (by omega), wholeT] at hr
    have hse := ((L.Inv.new D).feed (catT xs i) (by omega))
    have hfv := L.fin_verdict ((L.new D).feed (catT xs i))
    generalize hm : (L.new D).feed (catT xs i) = m at *
    have hinf : L.Inv (0 + (catT xs i).length) m.fin := hse.fin
    have hfe : m.fin.ended = true := by rcases L.fin_cases m with ⟨e, _⟩ | ⟨v, r, _, e⟩ <;> rw [e] <;> rfl
    have hfj : m.fin.j = m.j := by rcases L.fin_cases m with ⟨e, _⟩ | ⟨v, r, _, e⟩ <;> rw [e] <;> rfl
    have hfs : m.fin.s = m.s := by rcases L.fin_cases m with ⟨e, _⟩ | ⟨v, r, _, e⟩ <;> rw [e] <;> rfl
    have hatP : atP m.fin = m.fin.at_ := by unfold atP; rw [if_neg (by have := hinf.at2 hfv; omega)]
    rw [hatP] at hr
    have hff := L.fin_fin m
    have e1 : ∀ K : LB, LC Tryz.prog EJ 21 [ptr (H.n + 2) 0] (H'.new K) = some (.int .i64 m.fin.verdict, (H'.new K).set (H.n + 2) (lb m.fin H.n (H.n + 1))) := fun K => End29_is a1.new
    have aF : ∀ K : LB, At H (H.n + 2) H.n (H.n + 1) vj1 vs1 ((H'.new K).set (H.n + 2) (lb m.fin H.n (H.n + 1))) m.fin := fun K => (a1.new).set hfj hfs
    have e2 : ∀ K : LB, LC Tryz.prog EJ 18 [ptr (H.n + 2) 0] ((H'.new K).set (H.n + 2) (lb m.fin H.n (H.n + 1))) = some (str m.fin.reason, (H'.new K).set (H.n + 2) (lb m.fin H.n (H.n + 1))) := fun K => Reason29_l (aF K).get
    have e3 : ∀ K : LB, LC Tryz.prog EJ 19 [ptr (H.n + 2) 0] ((H'.new K).set (H.n + 2) (lb m.fin H.n (H.n + 1))) = some (.int .i64 m.fin.at_, (H'.new K).set (H.n + 2) (lb m.fin H.n (H.n + 1))) := fun K => At29_l (aF K).get
    have hm2 := L.feed_ended [120, 59, 120, 32, 120] m.fin hfv
    have hin2 := hinf.feed [120, 59, 120, 32, 120] (by simp; omega)
    obtain ⟨m2, hm2e⟩ : ∃ m2, m2 = m.fin.feed [120, 59, 120, 32, 120] := ⟨_, rfl⟩
    have e4 : ∀ K : LB, LC Tryz.prog EJ 16 [ptr (H.n + 2) 0, str [120, 59, 120, 32, 120]] ((H'.new K).set (H.n + 2) (lb m.fin H.n (H.n + 1))) = some (.int .i64 m.fin.verdict, (H'.new K).set (H.n + 2) (lb m2 H.n (H.n + 1))) := fun K => by
      have := Feed29_stuck (aF K).get (aF K).lt hfv (s := [120, 59, 120, 32, 120]) (by decide)
      rw [set_set, ← hm2e] at this; exact this
    rw [← hm2e] at hm2 hin2
    have hv2 : m2.verdict = m.fin.verdict := by rw [hm2]
    have ha2 : m2.at_ = m.fin.at_ := by rw [hm2]
    have aG : ∀ K : LB, At H (H.n + 2) H.n (H.n + 1) vj1 vs1 ((H'.new K).set (H.n + 2) (lb m2 H.n (H.n + 1))) m2 := fun K => (a1.new).set (by rw [hm2]; exact hfj) (by rw [hm2]; exact hfs)
    have hf2 : m2.fin = m2 := by
      unfold L.fin
      rw [if_pos (by rw [hv2]; exact hfv)]
      have : m2.ended = true := by rw [hm2]; exact hfe
      cases m2; simp only at this; simp [this]
    have e5 : ∀ K : LB, LC Tryz.prog EJ 21 [ptr (H.n + 2) 0] ((H'.new K).set (H.n + 2) (lb m2 H.n (H.n + 1))) = some (.int .i64 m2.verdict, (H'.new K).set (H.n + 2) (lb m2 H.n (H.n + 1))) := fun K => by
      have := End29_is (aG K)
      rw [set_set, hf2] at this; exact this
    have e6 : ∀ K : LB, LC Tryz.prog EJ 19 [ptr (H.n + 2) 0] ((H'.new K).set (H.n + 2) (lb m2 H.n (H.n + 1))) = some (.int .i64 m2.at_, (H'.new K).set (H.n + 2) (lb m2 H.n (H.n + 1))) := fun K => At29_l (aG K).get
    have e7 : ∀ K : LB, LC Tryz.prog EJ 20 [ptr (H.n + 2) 0] ((H'.new K).set (H.n + 2) (lb m2 H.n (H.n + 1))) = some (.int .i64 m2.seen, (H'.new K).set (H.n + 2) (lb m2 H.n (H.n + 1))) := fun K => Seen29_l (aG K).get
    have e8 : ∀ K : LB, LC Tryz.prog EJ 9 [] ((H'.new K).set (H.n + 2) (lb m2 H.n (H.n + 1))) = some (.bool true, (H'.new K).set (H.n + 2) (lb m2 H.n (H.n + 1))) := fun K => lives29_l (aG K).aj.dom (aG K).tab
    rw [hv2] at e5
    rw [ha2] at e6
    have hseen : m2.seen = ((catT xs i).length : Int) + 5 := by rw [hin2.seen]; simp
    have hw5 : IntKind.i64.wrap (((catT xs i).length : Int) + 5) = ((catT xs i).length : Int) + 5 := by rw [wrap64_in (by omega) (by omega)]
    rw [hseen] at e7
    have hlt2 := a1.lt
    have hne : (H'.n = H.n + 2) = False := eq_false (by omega)
    have hne2 : ¬ H'.n = H.n + 2 := by omega
    by_cases hgi : i < xs.length
    · have g1 : ((i : Int) < (xs.length : Int)) = True := eq_true (by omega)
      have g2 : ((i : Int) < 8) = False := eq_false (by omega)
      simp (config := { maxSteps := 4000000, maxDischargeDepth := 9 }) [h0, h1, h5, h7, h8, hlen, g1, g2, hr, jv, splice, e1, e2, e3, e4, e5, e6, e7, e8, hne, hne2, hw5]
    · have g1 : ((i : Int) < (xs.length : Int)) = False := eq_false (by omega)
      simp (config := { maxSteps := 4000000, maxDischargeDepth := 9 }) [h0, h1, h5, h7, h8, hlen, g1, hr, jv, splice, e1, e2, e3, e4, e5, e6, e7, e8, hne, hne2, hw5]
end
end Go.Proofs.YtgnefbngkhjfcaaGreatDoor.Lx
