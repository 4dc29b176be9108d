/-
  Texts joined, part 5: RdMain, RdNext, RdAll, LxPlain, RfPlain, RfLaw, JnMach, JnObj, JnStack, JnByte, JnByteB, JnNumA, JnNumB, JnNumC, JnFeed, LxMach, LxFeed, LxWhole, LxOrb, RfAll, LgEq, LxLaws.
-/
import Derived.Test.YtgnefbngkhjfcaaGreatDoorM4
import Derived.Test.YtgnefbngkhjfcaaGreatDoorM1
import Derived.Test.YtgnefbngkhjfcaaGreatDoorM3
import Derived.MapKept
/-
  The law of layer 28 in plain Lean: piece for piece, and all of it. No program in sight.
-/
set_option linter.unusedSimpArgs false
set_option linter.unusedVariables false
namespace Tg.Rd
open Tg.Js Tg.Js.M

theorem byte0 {m : M} {b : UInt8} (h : m.at_ = 0) : m.byte b = m.begin b := by unfold M.byte; rw [if_pos h]
theorem joined_eq {m : M} {x : R} {a : Nat} (h : Rel m x a) : m.joined = x.joined := by
  unfold M.joined R.joined
  rw [h.broken, ← h.last]
  rcases h.lok with e | e | e | e <;> rw [e] <;> rfl
theorem last_eq {m : M} {x : R} {a : Nat} (h : Rel m x a) : (m.last = 1 ∨ m.last = 2) ↔ x.last ≠ 0 := by
  rw [← h.last]
  rcases h.lok with e | e | e | e <;> rw [e] <;> simp [lastX]
theorem goes_fail {m : M} {x : R} {a : Nat} {b : UInt8} {r : List UInt8} (h : Rel m x a) (w : W m (b :: r)) (he : ∃ m1 : M, m.byte b = m1.fail ∧ m1.ends = m.ends ∧ m1.seen = m.seen) (hx : x.bad = -1) (y : R) (hy : y.ends = x.ends) : Goes m (b :: r) a (y.fail a, none) := by
  obtain ⟨m1, e1, e2, e3⟩ := he
  show End _ _
  rw [feed_go h.bad w]
  have hs := h.seen
  refine end_fail ?_ ?_ ?_ ?_
  · unfold go; rw [e1]; rfl
  · unfold go; rw [e1]; show m1.ends = y.ends; rw [e2, hy]; exact h.ends
  · unfold go; rw [e1]; show m1.seen = _; rw [e3, hs]
  · omega
theorem Goes0.goes {m : M} {r : List UInt8} {a : Nat} {x : R} {o : Option Nat} (h : Goes0 m r a (x, o)) (ho : ∀ k, o = some k → 1 ≤ k) : Goes m r a (x, o) := by
  cases o with
  | none => exact h
  | some k => exact ⟨ho k rfl, h.1, h.2⟩
theorem goes_rel {m m' : M} {x x' : R} {a : Nat} {b : UInt8} {r : List UInt8} (h : Rel m x a) (w : W m (b :: r)) (he : go m b = m') (hr : Rel m' x' (a + 1)) : Goes m (b :: r) a (x', some 1) :=
  ⟨Nat.le_refl _, by simp, .inr ⟨m', by rw [feed_go h.bad w, he]; rfl, hr⟩⟩
/-- a piece has begun: the machine is in a state of it -/
theorem Rel.into {m m' : M} {x : R} {a : Nat} {s : Int} (h : Rel m x a) (e : m'.at_ = s) (e1 : m'.bad = m.bad) (e2 : m'.taken = m.taken) (e3 : m'.seen = m.seen + 1) (e4 : m'.stack = m.stack) (e5 : m'.last = m.last) (e6 : m'.broken = m.broken) (e7 : m'.pieces = w64 (m.pieces + 1)) (e8 : m'.ends = m.ends) (e9 : m'.depth = m.depth) : Rin s m' x.piece (a + 1) := by
  have hs := h.seen
  exact ⟨e, e1.trans h.bad, e2.trans h.taken, by rw [e3]; omega, by rw [e4]; exact h.stack, by rw [e4]; exact h.ok, by rw [e5]; exact h.last, by rw [e5]; exact h.lok, by rw [e6]; exact h.broken, by rw [e7, h.pieces]; rfl, by rw [e8]; exact h.ends, by rw [e9]; exact h.depth, h.xbad, h.xin⟩
theorem Rel.to {m m' : M} {x : R} {a n : Nat} {s : Int} (h : Rel m x a) (e : m' = { m with at_ := s, seen := m.seen + n }) : Rin s m' x (a + n) := by
  have hs := h.seen
  subst e
  exact ⟨rfl, h.bad, h.taken, by show m.seen + (n : Int) = _; omega, h.stack, h.ok, h.last, h.lok, h.broken, h.pieces, h.ends, h.depth, h.xbad, h.xin⟩
/-- words -/
theorem goes_word {m : M} {x : R} {a : Nat} {b : UInt8} {r : List UInt8} (h : Rel m x a) (w : W m (b :: r)) (hw : white b = false) (hf : feedB b = false) (hi : inner b = true) : Goes m (b :: r) a (wordX x a (b :: r)) := by
  have hb : m.byte b = if m.joined then m.fail else { m.piece with at_ := if digit b then 2 else 1, said := [b] } := by
    rw [byte0 h.at0]; unfold M.begin; rw [hf, hw, hi]; rfl
  unfold wordX
  rw [← joined_eq h]
  cases hj : m.joined with
  | true =>
    rw [hj, if_pos rfl] at hb
    rw [if_pos rfl]
    exact goes_fail h w ⟨m, hb, rfl, rfl⟩ h.xbad x rfl
  | false =>
    rw [hj, if_neg Bool.false_ne_true] at hb
    rw [if_neg Bool.false_ne_true]
    have hg := feed_go h.bad w
    have hgo : go m b = { m.piece with at_ := if digit b then 2 else 1, said := [b], seen := m.seen + 1 } := by unfold go; rw [hb]
    have hr : Rin (if digit b then 2 else 1) (go m b) x.piece (a + 1) := by rw [hgo]; exact h.into rfl rfl rfl rfl rfl rfl rfl rfl rfl rfl
    have hd : decide ((go m b).at_ = 2) = digit b := by rw [hr.at0]; cases digit b <;> simp
    have hwg := word_goes hr (by cases digit b <;> simp) (w.next rfl) (if isKeyword ((b :: r).take (wordN (digit b) (b :: r))) then 0 else 1) (by
      have hN : wordN (digit b) (b :: r) = wordN (digit b) r + 1 := by rw [wordN_cons, hi]; rfl
      rw [hd, hN, List.take_succ_cons]
      have hsd : (go m b).said = [b] := by rw [hgo]
      rw [hsd, say_take _ _ (by simp), List.singleton_append, kw_take, hr.at0]
      cases hdg : digit b with
      | true => rw [kw_digit b _ hdg]; simp
      | false => simp)
    rw [hd] at hwg
    have hN : wordN (digit b) (b :: r) = wordN (digit b) r + 1 := by rw [wordN_cons, hi]; rfl
    show Goes m (b :: r) a ((x.piece).ended (if isKeyword ((b :: r).take (wordN (digit b) (b :: r))) then 0 else 1), some (wordN (digit b) (b :: r)))
    rw [hN] at hwg ⊢
    exact Goes0.cons (n := 0) (o := some (wordN (digit b) r)) hg hwg
theorem goes_quote {m : M} {x : R} {a : Nat} {b : UInt8} {r : List UInt8} (h : Rel m x a) (w : W m (b :: r)) (hw : white b = false) (hf : feedB b = false) (hi : inner b = false) (hq : b = 34 ∨ b = 39) :
    Goes m (b :: r) a (if x.joined then (x.fail a, none) else ((quoteX x.piece (a + 1) r b).1, (quoteX x.piece (a + 1) r b).2.map (· + 1))) := by
  have hb : m.byte b = if m.joined then m.fail else { m.piece with at_ := 3, by_ := b } := by
    rw [byte0 h.at0]; unfold M.begin; rw [hf, hw, hi, if_neg Bool.false_ne_true, if_neg Bool.false_ne_true, if_neg Bool.false_ne_true, if_pos hq]
  rw [← joined_eq h]
  cases hj : m.joined with
  | true =>
    rw [hj, if_pos rfl] at hb
    rw [if_pos rfl]
    exact goes_fail h w ⟨m, hb, rfl, rfl⟩ h.xbad x rfl
  | false =>
    rw [hj, if_neg Bool.false_ne_true] at hb
    rw [if_neg Bool.false_ne_true]
    have hgo : go m b = { m.piece with at_ := 3, by_ := b, seen := m.seen + 1 } := by unfold go; rw [hb]
    have hr : Rin 3 (go m b) x.piece (a + 1) := by rw [hgo]; exact h.into rfl rfl rfl rfl rfl rfl rfl rfl rfl rfl
    have := quote_goes b hq r.length r (Nat.le_refl _) (go m b) x.piece (a + 1) hr (by rw [hgo]) (w.next rfl)
    exact Goes0.cons (n := 0) (feed_go h.bad w) (show Goes0 _ _ _ ((quoteX x.piece (a + 1) r b).1, (quoteX x.piece (a + 1) r b).2) from this)
theorem goes_grave {m : M} {x : R} {a : Nat} {r : List UInt8} (h : Rel m x a) (w : W m (96 :: r)) :
    Goes m (96 :: r) a ((graveX x.piece (a + 1) r).1, (graveX x.piece (a + 1) r).2.map (· + 1)) := by
  have hb : m.byte 96 = { m.piece with at_ := 4, by_ := 96 } := by
    rw [byte0 h.at0]; unfold M.begin
    rw [if_neg (by decide), if_neg (by decide), if_neg (by decide), if_neg (by decide), if_pos rfl]
  have hgo : go m 96 = { m.piece with at_ := 4, by_ := 96, seen := m.seen + 1 } := by unfold go; rw [hb]
  have hr : Rin 4 (go m 96) x.piece (a + 1) := by rw [hgo]; exact h.into rfl rfl rfl rfl rfl rfl rfl rfl rfl rfl
  have := grave_goes r.length r (Nat.le_refl _) (go m 96) x.piece (a + 1) hr (by rw [hgo]) (w.next rfl)
  exact Goes0.cons (n := 0) (feed_go h.bad w) (show Goes0 _ _ _ ((graveX x.piece (a + 1) r).1, (graveX x.piece (a + 1) r).2) from this)
theorem byte_slash {m : M} {b : UInt8} (h : m.at_ = 9) : m.byte b = m.inSlash b := by
  unfold M.byte
  rw [if_neg (by omega), if_neg (by omega), if_neg (by omega), if_pos h]
theorem sign47' (m : M) : m.sign 47 = m.piece.ended 0 := by
  unfold M.sign
  rw [if_neg (by decide), if_neg (by decide), if_neg (by decide)]
theorem goes_slash {m : M} {x : R} {a : Nat} {r : List UInt8} (h : Rel m x a) (w : W m (47 :: r)) : Goes m (47 :: r) a (slashX x a (47 :: r)) := by
  have hs := h.seen
  have hb : m.byte 47 = { m with at_ := 9 } := by
    rw [byte0 h.at0]; unfold M.begin
    rw [if_neg (by decide), if_neg (by decide), if_neg (by decide), if_neg (by decide), if_neg (by decide), if_pos rfl]
  have hgo : go m 47 = { m with at_ := 9, seen := m.seen + 1 } := by unfold go; rw [hb]
  have hg := feed_go h.bad w
  have gb : (go m 47).bad = false := by rw [hgo]; exact h.bad
  match r, w, hg with
  | [], w, hg =>
    show End _ _
    rw [hg]
    exact end_stop gb (by rw [hgo]; exact h.ends) h.xbad (by show ¬ ((go m 47).at_ = 0 ∨ (go m 47).at_ = 1 ∨ (go m 47).at_ = 2 ∨ (go m 47).at_ = 8 ∨ (go m 47).at_ = 10); rw [hgo]; simp)
  | d :: q, w, hg =>
    have w1 : W (go m 47) (d :: q) := w.next rfl
    have hb2 : (go m 47).byte d = (go m 47).inSlash d := byte_slash (by rw [hgo])
    have hg2 := feed_go gb w1
    unfold slashX
    simp only
    by_cases c1 : d = 47
    · rw [if_pos c1]
      have e : go (go m 47) d = { m with at_ := 10, seen := m.seen + (2 : Nat) } := by
        have : (go m 47).byte d = { go m 47 with at_ := 10 } := by rw [hb2]; unfold M.inSlash; rw [if_pos c1]
        unfold go at this ⊢
        rw [this, hb]
        simp only [M.mk.injEq, true_and]
        omega
      have hr := h.to (n := 2) (s := 10) e
      have hl := line_goes q (go (go m 47) d) x (a + 2) hr (w1.next rfl)
      have := Goes0.add (c := 0) (r := 47 :: d :: q) (q := q) (n := 2) (m := m) (a := a) rfl (by simp) (hg.trans hg2) hl
      exact this.goes (fun k hk => by simp at hk; omega)
    rw [if_neg c1]
    by_cases c2 : d = 42
    · rw [if_pos c2]
      have e : go (go m 47) d = { m with at_ := 11, seen := m.seen + (2 : Nat) } := by
        have : (go m 47).byte d = { go m 47 with at_ := 11 } := by rw [hb2]; unfold M.inSlash; rw [if_neg c1, if_pos c2]
        unfold go at this ⊢
        rw [this, hb]
        simp only [M.mk.injEq, true_and]
        omega
      have hr := h.to (n := 2) (s := 11) e
      have hl := block_goes q (go (go m 47) d) x (a + 2) hr (w1.next rfl)
      cases hB : blockR q x.broken with
      | mk k o =>
        rw [hB] at hl
        cases o with
        | none => exact (Goes0.add (c := 0) (r := 47 :: d :: q) (q := q) (n := 2) (m := m) (a := a) (o := none) rfl (by simp) (hg.trans hg2) hl).goes (fun k hk => by cases hk)
        | some j => exact (Goes0.add (c := 0) (r := 47 :: d :: q) (q := q) (n := 2) (m := m) (a := a) (o := some j) rfl (by simp) (hg.trans hg2) hl).goes (fun k hk => by simp at hk; omega)
    rw [if_neg c2]
    by_cases c3 : m.last = 1 ∨ m.last = 2
    · rw [if_pos ((last_eq h).1 c3)]
      refine ⟨Nat.le_refl _, by simp, .inr ⟨(go m 47).piece.ended 0, ?_, ?_⟩⟩
      · rw [hg]
        show (go m 47).feed (d :: q) = ((go m 47).piece.ended 0).feed (d :: q)
        rw [hg2, feed_go (m := (go m 47).piece.ended 0) gb w1]
        have : (go m 47).byte d = ((go m 47).piece.ended 0).byte d := by
          rw [hb2, byte0 (m := (go m 47).piece.ended 0) rfl]
          unfold M.inSlash
          rw [if_neg c1, if_neg c2, if_pos (by rw [hgo]; exact c3), sign47']
        unfold go at this ⊢
        rw [this]; rfl
      · rw [hgo]
        exact ⟨rfl, h.bad, h.taken, by show m.seen + 1 = _; omega, h.stack, h.ok, rfl, .inl rfl, rfl, by show w64 (m.pieces + 1) = _; rw [h.pieces]; rfl, h.ends, h.depth, h.xbad, h.xin⟩
    · rw [if_neg (fun hx => c3 ((last_eq h).2 hx))]
      have hr : Rin 6 ({ (go m 47).piece with at_ := 6, by_ := 47 } : M) x.piece (a + 1) := by rw [hgo]; exact h.into rfl rfl rfl rfl rfl rfl rfl rfl rfl rfl
      have hf : (go m 47).feed (d :: q) = ({ (go m 47).piece with at_ := 6, by_ := 47 } : M).feed (d :: q) := by
        rw [hg2, feed_go (m := { (go m 47).piece with at_ := 6, by_ := 47 }) gb w1]
        have : (go m 47).byte d = ({ (go m 47).piece with at_ := 6, by_ := 47 } : M).byte d := by
          rw [hb2, byte_text (m := { (go m 47).piece with at_ := 6, by_ := 47 }) (.inr (.inr (.inl rfl)))]
          unfold M.inSlash
          rw [if_neg c1, if_neg c2, if_neg (by rw [hgo]; exact c3)]
        unfold go at this ⊢
        rw [this]; rfl
      have hp := pattern_goes (d :: q).length (d :: q) (Nat.le_refl _) false _ x.piece (a + 1) hr rfl w1
      exact Goes0.cons (n := 0) (hg.trans hf) (show Goes0 _ _ _ ((patternX x.piece (a + 1) (d :: q)).1, (patternX x.piece (a + 1) (d :: q)).2) from hp)
theorem byte_less {m : M} {b : UInt8} (h : m.at_ = 13 ∨ m.at_ = 14 ∨ m.at_ = 15) : m.byte b = m.inLess b := by
  unfold M.byte
  rw [if_neg (by omega), if_neg (by omega), if_neg (by omega), if_neg (by omega), if_neg (by omega), if_pos h]
theorem goes_less {m : M} {x : R} {a : Nat} {r : List UInt8} (h : Rel m x a) (w : W m (60 :: r)) (hp : x.pieces = 0) : Goes m (60 :: r) a (lessX x a (60 :: r)) := by
  have hs := h.seen
  have hb : m.byte 60 = { m with at_ := 13 } := by
    rw [byte0 h.at0]; unfold M.begin
    rw [if_neg (by decide), if_neg (by decide), if_neg (by decide), if_neg (by decide), if_neg (by decide), if_neg (by decide), if_pos ⟨rfl, by rw [h.pieces]; exact hp⟩]
  have hgo : go m 60 = { m with at_ := 13, seen := m.seen + 1 } := by unfold go; rw [hb]
  have hg := feed_go h.bad w
  have w0 : W (go m 60) r := w.next rfl
  -- one step more within
  have stepOk : ∀ (s s' : Int) (c : UInt8) (m1 : M) (k : Nat) (q : List UInt8), (s = 13 ∧ s' = 14 ∧ c = 33 ∨ s = 14 ∧ s' = 15 ∧ c = 45 ∨ s = 15 ∧ s' = 10 ∧ c = 45) → m1 = { m with at_ := s, seen := m.seen + (k : Nat) } → W m1 (c :: q) →
      m1.feed (c :: q) = ({ m with at_ := s', seen := m.seen + ((k + 1 : Nat) : Int) } : M).feed q := by
    intro s s' c m1 k q hc e w1
    subst e
    rw [feed_go (m := { m with at_ := s, seen := m.seen + (k : Nat) }) h.bad w1]
    congr 1
    unfold go
    rw [byte_less (by show s = 13 ∨ s = 14 ∨ s = 15; rcases hc with hc | hc | hc <;> simp [hc.1])]
    have hk : m.seen + (k : Int) + 1 = m.seen + ((k + 1 : Nat) : Int) := by omega
    unfold M.inLess
    rcases hc with ⟨rfl, rfl, rfl⟩ | ⟨rfl, rfl, rfl⟩ | ⟨rfl, rfl, rfl⟩ <;> simp [hk]
  have stepNo : ∀ (s : Int) (c c' : UInt8) (m1 : M) (k : Nat) (q : List UInt8), (s = 13 ∧ c' = 33 ∨ s = 14 ∧ c' = 45 ∨ s = 15 ∧ c' = 45) → c ≠ c' → m1 = { m with at_ := s, seen := m.seen + (k : Nat) } → W m1 (c :: q) → End (m1.feed (c :: q)) (x.fail ((a : Int) + k)) := by
    intro s c c' m1 k q hc hne e w1
    subst e
    rw [feed_go (m := { m with at_ := s, seen := m.seen + (k : Nat) }) h.bad w1]
    have e1 : ({ m with at_ := s, seen := m.seen + (k : Nat) } : M).byte c = ({ m with at_ := s, seen := m.seen + (k : Nat) } : M).fail := by
      rw [byte_less (by show s = 13 ∨ s = 14 ∨ s = 15; rcases hc with hc | hc | hc <;> simp [hc.1])]
      unfold M.inLess
      rcases hc with ⟨rfl, rfl⟩ | ⟨rfl, rfl⟩ | ⟨rfl, rfl⟩ <;> simp [hne]
    refine end_fail ?_ ?_ ?_ ?_
    · unfold go; rw [e1]; rfl
    · unfold go; rw [e1]; exact h.ends
    · unfold go; rw [e1]; show m.seen + (k : Int) = _; omega
    · omega
  have hgo1 : go m 60 = { m with at_ := 13, seen := m.seen + ((1 : Nat) : Int) } := by rw [hgo]; rfl
  have stopAt : ∀ (s : Int) (k : Nat), (s = 13 ∨ s = 14 ∨ s = 15) → End ({ m with at_ := s, seen := m.seen + (k : Nat) } : M) x.stop := fun s k hsx => end_stop h.bad h.ends h.xbad (by show ¬ (s = 0 ∨ s = 1 ∨ s = 2 ∨ s = 8 ∨ s = 10); omega)
  match r, w, hg, w0 with
  | [], w, hg, w0 =>
    show End _ _
    rw [hg, hgo1]; exact stopAt 13 1 (by simp)
  | c1 :: r, w, hg, w0 =>
    by_cases h1 : c1 = 33
    · have f1 := stepOk 13 14 c1 _ 1 r (.inl ⟨rfl, rfl, h1⟩) hgo1 w0
      have w1 : W ({ m with at_ := 14, seen := m.seen + ((1 + 1 : Nat) : Int) } : M) r := w0.next (by show m.seen + 2 = (go m 60).seen + 1; rw [hgo]; show m.seen + 2 = m.seen + 1 + 1; omega)
      match r, f1, w1, hg with
      | [], f1, w1, hg =>
        unfold lessX
        simp only
        rw [if_neg (fun hx => hx h1)]
        show End _ _
        rw [hg, f1]
        exact stopAt 14 2 (by simp)
      | c2 :: r, f1, w1, hg =>
        by_cases h2 : c2 = 45
        · have f2 := stepOk 14 15 c2 _ 2 r (.inr (.inl ⟨rfl, rfl, h2⟩)) rfl w1
          have w2 : W ({ m with at_ := 15, seen := m.seen + ((2 + 1 : Nat) : Int) } : M) r := w1.next (by show m.seen + 3 = m.seen + 2 + 1; omega)
          match r, f2, w2, hg, f1 with
          | [], f2, w2, hg, f1 =>
            unfold lessX
            simp only
            rw [if_neg (fun hx => hx h1), if_neg (fun hx => hx h2)]
            show End _ _
            rw [hg, f1, f2]
            exact stopAt 15 3 (by simp)
          | c3 :: r, f2, w2, hg, f1 =>
            by_cases h3 : c3 = 45
            · have f3 := stepOk 15 10 c3 _ 3 r (.inr (.inr ⟨rfl, rfl, h3⟩)) rfl w2
              have w3 : W ({ m with at_ := 10, seen := m.seen + ((3 + 1 : Nat) : Int) } : M) r := w2.next (by show m.seen + 4 = m.seen + 3 + 1; omega)
              have hr := h.to (n := 4) (s := 10) (m' := { m with at_ := 10, seen := m.seen + ((3 + 1 : Nat) : Int) }) rfl
              have hl := line_goes r _ x (a + 4) hr w3
              unfold lessX
              simp only
              rw [if_neg (fun hx => hx h1), if_neg (fun hx => hx h2), if_neg (fun hx => hx h3)]
              have := Goes0.add (c := 0) (r := 60 :: c1 :: c2 :: c3 :: r) (q := r) (n := 4) (m := m) (a := a) rfl (by simp) (((hg.trans f1).trans f2).trans f3) hl
              exact this.goes (fun k hk => by simp at hk; omega)
            · unfold lessX
              simp only
              rw [if_neg (fun hx => hx h1), if_neg (fun hx => hx h2), if_pos h3]
              show End _ _
              rw [hg, f1, f2]
              exact stepNo 15 c3 45 _ 3 r (.inr (.inr ⟨rfl, rfl⟩)) h3 rfl w2
        · show Goes _ _ _ (lessX x a (60 :: c1 :: c2 :: r))
          have e : lessX x a (60 :: c1 :: c2 :: r) = (x.fail (a + 2), none) := by
            cases r with
            | nil => unfold lessX; simp only; rw [if_neg (fun hx => hx h1), if_pos h2]
            | cons c3 r => unfold lessX; simp only; rw [if_neg (fun hx => hx h1), if_pos h2]
          rw [e]
          show End _ _
          rw [hg, f1]
          exact stepNo 14 c2 45 _ 2 r (.inr (.inl ⟨rfl, rfl⟩)) h2 rfl w1
    · have e : lessX x a (60 :: c1 :: r) = (x.fail (a + 1), none) := by
        match r with
        | [] => unfold lessX; simp only; rw [if_pos h1]
        | [c2] => unfold lessX; simp only; rw [if_pos h1]
        | c2 :: c3 :: r => unfold lessX; simp only; rw [if_pos h1]
      rw [e]
      show End _ _
      rw [hg]
      exact stepNo 13 c1 33 _ 1 r (.inl ⟨rfl, rfl⟩) h1 hgo1 w0
/-! ### signs -/
theorem Rel.piece {m : M} {x : R} {a : Nat} (h : Rel m x a) : Rin 0 m.piece x.piece a :=
  ⟨h.at0, h.bad, h.taken, h.seen, h.stack, h.ok, h.last, h.lok, h.broken, by show w64 (m.pieces + 1) = w64 (x.pieces + 1); rw [h.pieces], h.ends, h.depth, h.xbad, h.xin⟩
theorem tr_of {t : UInt8} (ht : t = 40 ∨ t = 91 ∨ t = 123 ∨ t = 96) : (tr t = 36 ↔ t = 96) ∧ (tr t = 40 ↔ t = 40) ∧ (tr t = 91 ↔ t = 91) ∧ (tr t = 123 ↔ t = 123) := by
  rcases ht with rfl | rfl | rfl | rfl <;> decide
theorem goes_sign {m : M} {x : R} {a : Nat} {b : UInt8} {r : List UInt8} (h : Rel m x a) (w : W m (b :: r)) (hb : m.byte b = m.sign b) : Goes m (b :: r) a (signX x a b r) := by
  have hp := h.piece
  have hs := h.seen
  have hg := feed_go h.bad w
  have hlen : m.stack.length = x.opn.length := by rw [← h.stack]; simp
  unfold signX
  simp only
  unfold M.sign at hb
  simp only at hb
  by_cases c1 : b = 40 ∨ b = 91 ∨ b = 123
  · rw [if_pos c1] at hb
    rw [if_pos c1]
    by_cases hl : (x.piece.opn.length : Int) = x.piece.depth
    · rw [if_pos hl]
      exact goes_fail h w ⟨m.piece, by rw [hb]; exact push_full hp hl, rfl, rfl⟩ h.xbad x.piece rfl
    · rw [if_neg hl]
      refine goes_rel h w rfl ?_
      have := push_to (b := b) hp (by rcases c1 with c | c | c <;> simp [c]) hl
      have ht : tr b = b := by rcases c1 with c | c | c <;> rw [c] <;> decide
      rw [ht] at this
      have e : go m b = ({ m.piece.push b with seen := m.piece.seen + 1 } : M) := by unfold go; rw [hb]; rfl
      rw [e]; exact this
  · rw [if_neg c1] at hb
    rw [if_neg c1]
    by_cases c2 : b = 41 ∨ b = 93 ∨ b = 125
    · rw [if_pos c2] at hb
      rw [if_neg (fun hx => hx c2)]
      have hlast : x.piece.opn.getLast? = m.stack.getLast?.map tr := by
        show x.opn.getLast? = _
        rw [← h.stack, List.getLast?_map]
      have hdrop : x.piece.opn.dropLast = m.stack.dropLast.map tr := by
        show x.opn.dropLast = _
        rw [← h.stack, List.map_dropLast]
      rw [hlast]
      unfold M.pop at hb
      cases hst : m.stack.getLast? with
      | none =>
        have hst' : m.piece.stack.getLast? = none := hst
        rw [hst'] at hb
        exact goes_fail h w ⟨m.piece, hb, rfl, rfl⟩ h.xbad x.piece rfl
      | some t =>
        have hst' : m.piece.stack.getLast? = some t := hst
        rw [hst'] at hb
        simp only at hb
        have hne : m.stack ≠ [] := by intro hx; rw [hx] at hst; cases hst
        have htm : t ∈ m.stack := List.mem_of_getLast? hst
        obtain ⟨q1, q2, q3, q4⟩ := tr_of (h.ok t htm)
        have okd : ∀ u ∈ m.stack.dropLast, u = 40 ∨ u = 91 ∨ u = 123 ∨ u = 96 := fun u hu => h.ok u (List.dropLast_subset _ hu)
        simp only [Option.map_some]
        by_cases c3 : b = 125 ∧ t = 96
        · rw [if_pos c3] at hb
          rw [if_pos ⟨c3.1, q1.2 c3.2⟩]
          have hgo : go m b = { m.piece with stack := m.stack.dropLast, at_ := 4, by_ := 96, seen := m.seen + 1 } := by unfold go; rw [hb]; rfl
          have hr : Rin 4 (go m b) { x.piece with opn := x.piece.opn.dropLast } (a + 1) := by
            rw [hgo]
            exact ⟨rfl, h.bad, h.taken, by show m.seen + 1 = _; omega, hdrop.symm, okd, h.last, h.lok, h.broken, by show w64 (m.pieces + 1) = w64 (x.pieces + 1); rw [h.pieces], h.ends, h.depth, h.xbad, h.xin⟩
          have := grave_goes r.length r (Nat.le_refl _) (go m b) _ (a + 1) hr (by rw [hgo]) (w.next rfl)
          exact Goes0.cons (n := 0) hg (show Goes0 _ _ _ ((graveX { x.piece with opn := x.piece.opn.dropLast } (a + 1) r).1, (graveX { x.piece with opn := x.piece.opn.dropLast } (a + 1) r).2) from this)
        · rw [if_neg c3] at hb
          rw [if_neg (fun hx => c3 ⟨hx.1, q1.1 hx.2⟩)]
          have hpair : t = M.pair b ↔ (b = 41 ∧ tr t = 40 ∨ b = 93 ∧ tr t = 91 ∨ b = 125 ∧ tr t = 123) := by
            rw [q2, q3, q4]
            unfold M.pair
            rcases c2 with c | c | c <;> subst c <;> simp
          by_cases c4 : t = M.pair b
          · rw [if_pos c4] at hb
            rw [if_neg (fun hx => hx (hpair.1 c4))]
            by_cases c5 : b = 125
            · rw [if_neg (fun hx => hx c5)] at hb
              rw [if_neg (fun hx => hx c5)]
              refine goes_rel h w rfl ?_
              have hl1 : (m.piece.stack.length = 1) ↔ (x.piece.opn.length = 1) := by show m.stack.length = 1 ↔ x.opn.length = 1; rw [hlen]
              by_cases c6 : m.piece.stack.length = 1
              · rw [if_pos c6] at hb
                rw [if_pos (hl1.1 c6)]
                unfold go; rw [hb]
                exact ⟨rfl, h.bad, h.taken, by show m.seen + 1 = _; omega, hdrop.symm, okd, rfl, .inr (.inr (.inl rfl)), rfl, by show w64 (m.pieces + 1) = w64 (x.pieces + 1); rw [h.pieces], by show w64 (m.ends + 1) = w64 (x.ends + 1); rw [h.ends], h.depth, h.xbad, h.xin⟩
              · rw [if_neg c6] at hb
                rw [if_neg (fun hx => c6 (hl1.2 hx))]
                unfold go; rw [hb]
                exact ⟨rfl, h.bad, h.taken, by show m.seen + 1 = _; omega, hdrop.symm, okd, rfl, .inr (.inr (.inl rfl)), rfl, by show w64 (m.pieces + 1) = w64 (x.pieces + 1); rw [h.pieces], h.ends, h.depth, h.xbad, h.xin⟩
            · rw [if_pos c5] at hb
              rw [if_pos c5]
              refine goes_rel h w rfl ?_
              unfold go; rw [hb]
              exact ⟨rfl, h.bad, h.taken, by show m.seen + 1 = _; omega, hdrop.symm, okd, rfl, .inr (.inl rfl), rfl, by show w64 (m.pieces + 1) = w64 (x.pieces + 1); rw [h.pieces], h.ends, h.depth, h.xbad, h.xin⟩
          · rw [if_neg c4] at hb
            rw [if_pos (fun hx => c4 (hpair.2 hx))]
            exact goes_fail h w ⟨m.piece, hb, rfl, rfl⟩ h.xbad x.piece rfl
    · rw [if_neg c2] at hb
      rw [if_pos c2]
      refine goes_rel h w rfl ?_
      have hop : m.stack = [] ↔ x.opn = [] := by rw [← h.stack]; simp
      by_cases c3 : b = 59
      · rw [if_pos c3] at hb
        by_cases c4 : x.opn = []
        · rw [if_pos (show (m.piece.ended 0).stack = [] from hop.2 c4)] at hb
          rw [if_pos ⟨c3, c4⟩]
          unfold go; rw [hb]
          exact ⟨rfl, h.bad, h.taken, by show m.seen + 1 = _; omega, h.stack, h.ok, rfl, .inl rfl, rfl, by show w64 (m.pieces + 1) = w64 (x.pieces + 1); rw [h.pieces], by show w64 (m.ends + 1) = w64 (x.ends + 1); rw [h.ends], h.depth, h.xbad, h.xin⟩
        · rw [if_neg (show ¬ (m.piece.ended 0).stack = [] from fun hx => c4 (hop.1 hx))] at hb
          rw [if_neg (fun hx => c4 hx.2)]
          unfold go; rw [hb]
          exact ⟨rfl, h.bad, h.taken, by show m.seen + 1 = _; omega, h.stack, h.ok, rfl, .inl rfl, rfl, by show w64 (m.pieces + 1) = w64 (x.pieces + 1); rw [h.pieces], h.ends, h.depth, h.xbad, h.xin⟩
      · rw [if_neg c3] at hb
        rw [if_neg (fun hx => c3 hx.1)]
        unfold go; rw [hb]
        exact ⟨rfl, h.bad, h.taken, by show m.seen + 1 = _; omega, h.stack, h.ok, rfl, .inl rfl, rfl, by show w64 (m.pieces + 1) = w64 (x.pieces + 1); rw [h.pieces], h.ends, h.depth, h.xbad, h.xin⟩
/-! ### all of it -/
theorem feed_white {b : UInt8} (h : feedB b = true) : white b = true := by
  unfold feedB at h
  simp at h
  rcases h with rfl | rfl <;> decide
theorem next_goes {m : M} {x : R} {a : Nat} {b : UInt8} {r : List UInt8} (h : Rel m x a) (w : W m (b :: r)) : Goes m (b :: r) a (nextX x a b r) := by
  have hs := h.seen
  unfold nextX
  cases hw : white b with
  | true =>
    rw [if_pos rfl]
    refine goes_rel h w rfl ?_
    have hb : m.byte b = if feedB b then { m with broken := true } else m := by
      rw [byte0 h.at0]; unfold M.begin; rw [hw]
      cases feedB b <;> rfl
    unfold go; rw [hb]
    cases hf : feedB b with
    | true => exact ⟨h.at0, h.bad, h.taken, by show m.seen + 1 = _; omega, h.stack, h.ok, h.last, h.lok, by show true = (x.broken || true); simp, h.pieces, h.ends, h.depth, h.xbad, h.xin⟩
    | false => exact ⟨h.at0, h.bad, h.taken, by show m.seen + 1 = _; omega, h.stack, h.ok, h.last, h.lok, by show m.broken = (x.broken || false); rw [h.broken]; simp, h.pieces, h.ends, h.depth, h.xbad, h.xin⟩
  | false =>
    rw [if_neg Bool.false_ne_true]
    have hf : feedB b = false := by
      cases hf : feedB b with
      | true => rw [feed_white hf] at hw; cases hw
      | false => rfl
    cases hi : inner b with
    | true => rw [if_pos rfl]; exact goes_word h w hw hf hi
    | false =>
      rw [if_neg Bool.false_ne_true]
      by_cases c1 : b = 34 ∨ b = 39
      · rw [if_pos c1]; exact goes_quote h w hw hf hi c1
      rw [if_neg c1]
      by_cases c2 : b = 96
      · rw [if_pos c2]; subst c2; exact goes_grave h w
      rw [if_neg c2]
      by_cases c3 : b = 47
      · rw [if_pos c3]; subst c3; exact goes_slash h w
      rw [if_neg c3]
      by_cases c4 : b = 60 ∧ x.pieces = 0
      · rw [if_pos c4]
        obtain ⟨c5, c6⟩ := c4
        subst c5
        exact goes_less h w c6
      rw [if_neg c4]
      have hb : m.byte b = if signs.contains b then m.sign b else m.fail := by
        rw [byte0 h.at0]; unfold M.begin
        rw [hf, hw, hi, if_neg Bool.false_ne_true, if_neg Bool.false_ne_true, if_neg Bool.false_ne_true, if_neg c1, if_neg c2, if_neg c3, if_neg (by rw [h.pieces]; exact c4)]
      cases hc : signs.contains b with
      | true => rw [hc, if_pos rfl] at hb; rw [if_pos rfl]; exact goes_sign h w hb
      | false =>
        rw [hc, if_neg Bool.false_ne_true] at hb
        rw [if_neg Bool.false_ne_true]
        exact goes_fail h w ⟨m, hb, rfl, rfl⟩ h.xbad x rfl
theorem seen_feed (r : List UInt8) : ∀ m : M, W m r → (m.feed r).seen = m.seen + r.length := by
  induction r with
  | nil => intro m _; simp [M.feed]
  | cons b r ih =>
    intro m w
    have h1 := w.1
    have h2 := w.2
    simp only [List.length_cons] at h2
    have hs : (m.step b).seen = m.seen + 1 := by
      cases hb : m.bad with
      | true => rw [step_bad m b hb]; exact w64_in (by omega) (by omega)
      | false => rw [step_good m b hb]; show w64 ((m.byte b).seen + 1) = _; rw [(byte_nx m b).seen]; exact w64_in (by omega) (by omega)
    rw [feed_cons, ih (m.step b) ⟨by omega, by omega⟩, hs]; simp; omega
theorem read_end : ∀ (f : Nat) (r : List UInt8) (m : M) (x : R) (a : Nat), r.length < f → a + r.length ≤ 1152921504606846976 → Rel m x a → End (m.feed r) (readX f x a r) := by
  intro f
  induction f with
  | zero => intro r m x a hf; omega
  | succ f ih =>
    intro r m x a hf hw h
    have hs := h.seen
    match r, hf, hw with
    | [], _, _ => exact h.rin.fin (.inl rfl)
    | b :: r, hf, hw =>
      have w : W m (b :: r) := ⟨by omega, by omega⟩
      have hg := next_goes h w
      unfold readX
      cases hn : nextX x a b r with
      | mk y o =>
        rw [hn] at hg
        cases o with
        | none => exact hg
        | some k =>
          obtain ⟨k1, k2, hk⟩ := hg
          simp only
          rcases hk with ⟨hd, he⟩ | ⟨m', he, hr⟩
          · rw [hd]
            have : readX f y (a + k) [] = y := by cases f <;> rfl
            rw [this]; exact he
          · rw [he]
            have hlen : ((b :: r).drop k).length = (b :: r).length - k := by simp
            refine ih _ m' y (a + k) ?_ ?_ hr
            · omega
            · omega
theorem start_rel (d : Int) : Rel (new d) (start d) 0 := ⟨rfl, rfl, rfl, rfl, rfl, fun t ht => (by cases ht), rfl, .inl rfl, rfl, rfl, rfl, rfl, rfl, rfl⟩
/-- THE LAW -/
theorem read_law (s : List UInt8) (d : Int) (hs : s.length ≤ 1000000) : End ((new d).feed s) (read s d) :=
  read_end (s.length + 1) s (new d) (start d) 0 (Nat.lt_succ_self _) (by omega) (start_rel d)
end Tg.Rd
/-
  The reference of layer 28: what stands at a place; all bytes.
-/
set_option linter.unusedSimpArgs false
set_option linter.unusedVariables false
set_option maxRecDepth 100000
namespace Tg.Rd
open Tg.Js
/-- what is open is not deeper than it may be -/
def Dp (x : R) (o : List UInt8) : Prop := (o.length : Int) ≤ x.depth
section
variable {x : R} {a : Int} {b : UInt8} {r : List UInt8}
def DpX (x : R) (y : R × Option Nat) : Prop := (y.1.opn.length : Int) ≤ y.1.depth ∧ y.1.depth = x.depth
theorem dp_map {x x' : R} {y : R × Option Nat} {f : Option Nat → Option Nat} (h : DpX x' y) (e : x'.depth = x.depth) : DpX x (y.1, f y.2) := ⟨h.1, h.2.trans e⟩
theorem dp_line (h : (x.opn.length : Int) ≤ x.depth) (o : Option Nat) : DpX x ((line x r).1, o) := by
  unfold line; split <;> exact ⟨h, rfl⟩
theorem dp_quote (h : (x.opn.length : Int) ≤ x.depth) : DpX x (quoteX x a r b) := by
  unfold quoteX; split
  · exact ⟨h, rfl⟩
  split <;> exact ⟨h, rfl⟩
theorem dp_grave (h : (x.opn.length : Int) ≤ x.depth) : DpX x (graveX x a r) := by
  unfold graveX; split
  · exact ⟨h, rfl⟩
  split
  · split
    · exact ⟨h, rfl⟩
    · refine ⟨?_, rfl⟩
      show ((x.opn ++ [36]).length : Int) ≤ x.depth
      simp; omega
  · exact ⟨h, rfl⟩
theorem dp_pattern (h : (x.opn.length : Int) ≤ x.depth) : DpX x (patternX x a r) := by
  unfold patternX; split
  · exact ⟨h, rfl⟩
  split <;> exact ⟨h, rfl⟩
theorem dp_slash (h : (x.opn.length : Int) ≤ x.depth) : DpX x (slashX x a r) := by
  unfold slashX
  split
  · split
    · exact dp_line h _
    split
    · split <;> exact ⟨h, rfl⟩
    split
    · exact ⟨h, rfl⟩
    · exact dp_map (x' := x.piece) (dp_pattern h) rfl
  · exact ⟨h, rfl⟩
theorem dp_less (h : (x.opn.length : Int) ≤ x.depth) : DpX x (lessX x a r) := by
  unfold lessX
  repeat' split
  all_goals first | exact dp_line h _ | exact ⟨h, rfl⟩
theorem dp_sign (h : (x.opn.length : Int) ≤ x.depth) : DpX x (signX x a b r) := by
  unfold signX
  dsimp only
  split
  · split
    · exact ⟨h, rfl⟩
    · rename_i hx
      refine ⟨?_, rfl⟩
      show ((x.opn ++ [b]).length : Int) ≤ x.depth
      have : ¬ ((x.opn.length : Int) = x.depth) := hx
      simp; omega
  split
  · split <;> exact ⟨h, rfl⟩
  · have hdl : ((x.opn.dropLast.length : Nat) : Int) ≤ x.depth := by simp; omega
    split
    · exact ⟨h, rfl⟩
    · split
      · exact dp_map (x' := { x.piece with opn := x.piece.opn.dropLast }) (dp_grave hdl) rfl
      split
      · exact ⟨h, rfl⟩
      split
      · exact ⟨hdl, rfl⟩
      · split <;> exact ⟨hdl, rfl⟩
theorem dp_next (h : (x.opn.length : Int) ≤ x.depth) : DpX x (nextX x a b r) := by
  unfold nextX
  split
  · exact ⟨h, rfl⟩
  split
  · unfold wordX; split
    · exact ⟨h, rfl⟩
    · exact ⟨h, rfl⟩
  split
  · split
    · exact ⟨h, rfl⟩
    · exact dp_map (x' := x.piece) (dp_quote h) rfl
  split
  · exact dp_map (x' := x.piece) (dp_grave h) rfl
  split
  · exact dp_slash h
  split
  · exact dp_less h
  split
  · exact dp_sign h
  · exact ⟨h, rfl⟩
end
end Tg.Rd
namespace Go.Proofs.YtgnefbngkhjfcaaGreatDoor.Rd
open Go.Lg Tg.Rd
open Tg.Js (w64 letter digit feedB white inner isKeyword signs)
section
variable {H : LH} {b : UInt8} {x y : R} {p a : Nat} {s : List UInt8}
theorem signs_lit : ∀ b : UInt8, b ≠ 47 → ([123, 125, 40, 41, 91, 93, 59, 44, 60, 62, 61, 33, 43, 45, 42, 37, 38, 124, 94, 126, 63, 58, 46] : List UInt8).contains b = signs.contains b := by
  have h : ∀ n : Fin 256, (UInt8.ofNat n.val) ≠ 47 → ([123, 125, 40, 41, 91, 93, 59, 44, 60, 62, 61, 33, 43, 45, 42, 37, 38, 124, 94, 126, 63, 58, 46] : List UInt8).contains (UInt8.ofNat n.val) = signs.contains (UInt8.ofNat n.val) := by decide +kernel
  intro b hb
  have := h ⟨b.toNat, b.toNat_lt⟩
  simp only [UInt8.ofNat_toNat] at this
  exact this hb
set_option maxHeartbeats 4000000 in
theorem nextP (hd : ∀ l, H.n ≤ l → H.get l = none) (ho : x.opn.length ≤ 1000) (hp : p < H.n) (hs : s.length ≤ 1000000) (ha : a < s.length) : LC Tryz.prog EJ 42 [ptr p 0, str s, .int .i64 a] (H.set p (rb x)) = some (.int .i64 (kv a (nextX x a (at_ s a) (s.drop (a + 1))).2), H.set p (rb (nextX x a (at_ s a) (s.drop (a + 1))).1)) := by
  refine own rfl Tryz.func42 rfl (Nat.le_of_ble_eq_true rfl) (by decide) (by kernel_rfl) hp ?_
  have w1 := wr1 (i := a) (by omega)
  have l0 : ((a : Int) < (s.length : Int)) = True := eq_true (by omega)
  have hwd := wordP (x := x) hd hp hs ha
  have hsl := slashP (x := x) hp hs ha
  have hls := lessP (x := x) hp hs ha
  have hsg := signP (x := x) ho hp hs ha
  have hgr := graveP (x := x.piece) (s := s) (a := a + 1) ho hp hs (by omega)
  have hqu := quoteP (x := x.piece) (s := s) (a := a + 1) (b := at_ s a) hp hs (by omega)
  rw [show ((a + 1 : Nat) : Int) = (a : Int) + 1 from rfl] at hgr hqu
  rw [drop_at ha] at hwd hsl hls
  obtain ⟨b, hb⟩ : ∃ b, at_ s a = b := ⟨_, rfl⟩
  rw [hb] at hwd hsl hls hsg hqu ⊢
  have hH : ∀ K, LC Tryz.prog EJ 60 [str [123, 125, 40, 41, 91, 93, 59, 44, 60, 62, 61, 33, 43, 45, 42, 37, 38, 124, 94, 126, 63, 58, 46], .int .u8 b.toNat] K = some (.bool (([123, 125, 40, 41, 91, 93, 59, 44, 60, 62, 61, 33, 43, 45, 42, 37, 38, 124, 94, 126, 63, 58, 46] : List UInt8).contains b), K) := fun K => has_l (by simp)
  unfold nextX
  cases hw : white b with
  | true =>
    have hc : ((9 ≤ (b.toNat : Int)) = True ∧ ((b.toNat : Int) ≤ 13) = True) ∨ ((9 ≤ (b.toNat : Int)) = True ∧ ((b.toNat : Int) ≤ 13) = False ∧ (b = 32) = True) := by
      unfold white at hw
      simp only [Bool.or_eq_true, Bool.and_eq_true, decide_eq_true_eq] at hw
      rcases hw with rfl | ⟨h1, h2⟩
      · exact .inr ⟨eq_true (by decide), eq_false (by decide), eq_true rfl⟩
      · exact .inl ⟨eq_true h1, eq_true h2⟩
    rcases hc with ⟨f1, f2⟩ | ⟨f1, f2, f3⟩
    · cases hbr : x.broken <;> simp (config := { maxSteps := 4000000 }) [hp, hb, l0, w1, f1, f2, hbr, feed_l, kv]
    · cases hbr : x.broken <;> simp (config := { maxSteps := 4000000 }) [hp, hb, l0, w1, f1, f2, f3, hbr, feed_l, kv]
      all_goals rfl
  | false =>
    rw [if_neg Bool.false_ne_true]
    have hc : ((9 ≤ (b.toNat : Int)) = False ∧ (b = 32) = False) ∨ ((9 ≤ (b.toNat : Int)) = True ∧ ((b.toNat : Int) ≤ 13) = False ∧ (b = 32) = False) := by
      unfold white at hw
      rw [Bool.or_eq_false_iff, Bool.and_eq_false_iff] at hw
      simp only [decide_eq_false_iff_not] at hw
      obtain ⟨h1, h2⟩ := hw
      by_cases h9 : 9 ≤ (b.toNat : Int)
      · exact .inr ⟨eq_true h9, eq_false (by omega), eq_false h1⟩
      · exact .inl ⟨eq_false h9, eq_false h1⟩
    cases hi : inner b with
    | true =>
      rw [if_pos rfl]
      rcases hc with ⟨f1, f3⟩ | ⟨f1, f2, f3⟩
      · simp (config := { maxSteps := 4000000 }) [hp, hb, l0, f1, f3, inner_l, hi, hwd]
      · simp (config := { maxSteps := 4000000 }) [hp, hb, l0, f1, f2, f3, inner_l, hi, hwd]
    | false =>
      rw [if_neg Bool.false_ne_true]
      by_cases c1 : b = 34 ∨ b = 39
      · rw [if_pos c1]
        have q : ((b = 34) = True) ∨ ((b = 34) = False ∧ (b = 39) = True) := by
          rcases c1 with h | h
          · exact .inl (eq_true h)
          · exact .inr ⟨eq_false (by rw [h]; decide), eq_true h⟩
        cases hj : x.joined with
        | true =>
          rw [if_pos rfl]
          rcases hc with ⟨f1, f3⟩ | ⟨f1, f2, f3⟩ <;> rcases q with q1 | ⟨q1, q2⟩
          · simp (config := { maxSteps := 4000000 }) [hp, hb, l0, f1, f3, inner_l, hi, q1, joined_l, hj, fail_l, kv]
          · simp (config := { maxSteps := 4000000 }) [hp, hb, l0, f1, f3, inner_l, hi, q1, q2, joined_l, hj, fail_l, kv]
          · simp (config := { maxSteps := 4000000 }) [hp, hb, l0, f1, f2, f3, inner_l, hi, q1, joined_l, hj, fail_l, kv]
          · simp (config := { maxSteps := 4000000 }) [hp, hb, l0, f1, f2, f3, inner_l, hi, q1, q2, joined_l, hj, fail_l, kv]
        | false =>
          rw [if_neg Bool.false_ne_true]
          rcases hc with ⟨f1, f3⟩ | ⟨f1, f2, f3⟩ <;> rcases q with q1 | ⟨q1, q2⟩
          · simp (config := { maxSteps := 4000000 }) [hp, hb, l0, w1, f1, f3, inner_l, hi, q1, joined_l, hj, piece_eq, hqu, kv_map]
          · simp (config := { maxSteps := 4000000 }) [hp, hb, l0, w1, f1, f3, inner_l, hi, q1, q2, joined_l, hj, piece_eq, hqu, kv_map]
          · simp (config := { maxSteps := 4000000 }) [hp, hb, l0, w1, f1, f2, f3, inner_l, hi, q1, joined_l, hj, piece_eq, hqu, kv_map]
          · simp (config := { maxSteps := 4000000 }) [hp, hb, l0, w1, f1, f2, f3, inner_l, hi, q1, q2, joined_l, hj, piece_eq, hqu, kv_map]
      · rw [if_neg c1]
        have q1 : (b = 34) = False := eq_false (fun h => c1 (.inl h))
        have q2 : (b = 39) = False := eq_false (fun h => c1 (.inr h))
        by_cases c2 : b = 96
        · rw [if_pos c2]
          have q3 := eq_true c2
          rcases hc with ⟨f1, f3⟩ | ⟨f1, f2, f3⟩
          · simp (config := { maxSteps := 4000000 }) [hp, hb, l0, w1, f1, f3, inner_l, hi, q1, q2, q3, piece_eq, hgr, kv_map]
          · simp (config := { maxSteps := 4000000 }) [hp, hb, l0, w1, f1, f2, f3, inner_l, hi, q1, q2, q3, piece_eq, hgr, kv_map]
        rw [if_neg c2]
        have q3 := eq_false c2
        by_cases c3 : b = 47
        · rw [if_pos c3]
          have q4 := eq_true c3
          have hsl' := hsl c3
          rcases hc with ⟨f1, f3⟩ | ⟨f1, f2, f3⟩
          · simp (config := { maxSteps := 4000000 }) [hp, hb, l0, w1, f1, f3, inner_l, hi, q1, q2, q3, q4, hsl']
          · simp (config := { maxSteps := 4000000 }) [hp, hb, l0, w1, f1, f2, f3, inner_l, hi, q1, q2, q3, q4, hsl']
        rw [if_neg c3]
        have q4 := eq_false c3
        by_cases c4 : b = 60 ∧ x.pieces = 0
        · rw [if_pos c4]
          have q5 := eq_true c4.1
          have q6 := eq_true c4.2
          rcases hc with ⟨f1, f3⟩ | ⟨f1, f2, f3⟩
          · simp (config := { maxSteps := 4000000 }) [hp, hb, l0, w1, f1, f3, inner_l, hi, q1, q2, q3, q4, q5, q6, hls]
          · simp (config := { maxSteps := 4000000 }) [hp, hb, l0, w1, f1, f2, f3, inner_l, hi, q1, q2, q3, q4, q5, q6, hls]
        rw [if_neg c4]
        have q : ((b = 60) = True ∧ (x.pieces = 0) = False) ∨ (b = 60) = False := by
          by_cases h : b = 60
          · exact .inl ⟨eq_true h, eq_false (fun h2 => c4 ⟨h, h2⟩)⟩
          · exact .inr (eq_false h)
        rw [signs_lit b c3] at hH
        cases hsc : signs.contains b with
        | true =>
          rw [if_pos rfl]
          rw [hsc] at hH
          rcases hc with ⟨f1, f3⟩ | ⟨f1, f2, f3⟩ <;> rcases q with ⟨q5, q6⟩ | q5
          · simp (config := { maxSteps := 4000000 }) [hp, hb, l0, w1, f1, f3, inner_l, hi, q1, q2, q3, q4, q5, q6, hH, hsg]
          · simp (config := { maxSteps := 4000000 }) [hp, hb, l0, w1, f1, f3, inner_l, hi, q1, q2, q3, q4, q5, hH, hsg]
          · simp (config := { maxSteps := 4000000 }) [hp, hb, l0, w1, f1, f2, f3, inner_l, hi, q1, q2, q3, q4, q5, q6, hH, hsg]
          · simp (config := { maxSteps := 4000000 }) [hp, hb, l0, w1, f1, f2, f3, inner_l, hi, q1, q2, q3, q4, q5, hH, hsg]
        | false =>
          rw [if_neg Bool.false_ne_true]
          rw [hsc] at hH
          rcases hc with ⟨f1, f3⟩ | ⟨f1, f2, f3⟩ <;> rcases q with ⟨q5, q6⟩ | q5
          · simp (config := { maxSteps := 4000000 }) [hp, hb, l0, w1, f1, f3, inner_l, hi, q1, q2, q3, q4, q5, q6, hH, fail_l, kv]
          · simp (config := { maxSteps := 4000000 }) [hp, hb, l0, w1, f1, f3, inner_l, hi, q1, q2, q3, q4, q5, hH, fail_l, kv]
          · simp (config := { maxSteps := 4000000 }) [hp, hb, l0, w1, f1, f2, f3, inner_l, hi, q1, q2, q3, q4, q5, q6, hH, fail_l, kv]
          · simp (config := { maxSteps := 4000000 }) [hp, hb, l0, w1, f1, f2, f3, inner_l, hi, q1, q2, q3, q4, q5, hH, fail_l, kv]
end
end Go.Proofs.YtgnefbngkhjfcaaGreatDoor.Rd
/-
  The reference of layer 28: all bytes.
-/
set_option linter.unusedSimpArgs false
set_option linter.unusedVariables false
set_option maxRecDepth 100000
namespace Go.Proofs.YtgnefbngkhjfcaaGreatDoor.Rd
open Go.Lg Tg.Rd
open Tg.Js (w64 letter digit feedB white inner isKeyword signs)
section
variable {H : LH} {b : UInt8} {x y : R} {p a : Nat} {s : List UInt8}
def sv (x : R) : Value := .agg ⟨rcs x⟩
@[simp] theorem flat_sv : flatB (sv x) = true := by simp [sv, rcs, flatB, flat1B]
theorem start_eq {d : Int} : (⟨[.int .i64 (-1), .bool false, str [], .int .i64 0, .int .i64 0, .int .i64 0, .bool false, .int .i64 d], 47, true⟩ : LB) = rb (Tg.Rd.start d) := rfl
def z0 : R := ⟨0, false, [], 0, 0, 0, false, 0⟩
theorem zero_eq : (⟨[.int .i64 0, .bool false, str [], .int .i64 0, .int .i64 0, .int .i64 0, .bool false, .int .i64 0], 47, true⟩ : LB) = rb z0 := rfl
theorem readX_nil {f i : Nat} : readX f x i [] = x := by cases f <;> rfl
def pl (o : Option Nat) : Int := match o with | some i => (i : Int) | none => -1
/-- where reading stands, and that it comes to Z -/
def Ok (s : List UInt8) (d : Int) (Z : R) (o : Option Nat) (x : R) : Prop :=
  match o with
  | none => x = Z
  | some i => i ≤ s.length ∧ (x.opn.length : Int) ≤ x.depth ∧ x.depth = d ∧ (i < s.length → ∃ m, Tg.Rd.Rel m x i) ∧ ∃ f, s.length - i < f ∧ readX f x i (s.drop i) = Z
theorem cells_rb : (rb x).cells = [.int .i64 x.bad, .bool x.within, str x.opn, .int .i64 x.pieces, .int .i64 x.ends, .int .i64 x.last, .bool x.broken, .int .i64 x.depth] := rfl
theorem read_l {d : Int} (h0 : 0 ≤ d) (h1 : d ≤ 200) (hd : ∀ l, H.n ≤ l → H.get l = none) (hs : s.length ≤ 1000000) : LC Tryz.prog EJ 25 [str s, .int .i64 d] H = some (sv (read s d), H) := by
  refine LC_pure rfl Tryz.func25 rfl (Nat.le_of_ble_eq_true rfl) (by decide) (by kernel_rfl) flat_sv ?_
  obtain ⟨Z, hZ⟩ : ∃ Z, read s d = Z := ⟨_, rfl⟩
  rw [hZ]
  simp (config := { maxSteps := 4000000 }) [start_eq, zero_eq]
  have hd2 : ∀ l, ((H.new (rb z0)).new (rb (Tg.Rd.start d))).n ≤ l → ((H.new (rb z0)).new (rb (Tg.Rd.start d))).get l = none := fun l hl => by
    have hl' : H.n + 1 + 1 ≤ l := hl
    rw [get_new_ne (by show l ≠ H.n + 1; omega), get_new_ne (by omega)]; exact hd l (by omega)
  have hpn : H.n + 1 < ((H.new (rb z0)).new (rb (Tg.Rd.start d))).n := Nat.lt_succ_self _
  have hK0 : ((H.new (rb z0)).new (rb (Tg.Rd.start d))).get (H.n + 1) = some (rb (Tg.Rd.start d)) := get_new
  have hleK : H.le ((H.new (rb z0)).new (rb (Tg.Rd.start d))) := le_refl.new.new
  have hgz : ((H.new (rb z0)).new (rb (Tg.Rd.start d))).get H.n = some (rb z0) := by rw [get_new_ne (by show H.n ≠ H.n + 1; omega)]; exact get_new
  have hnz : H.n < ((H.new (rb z0)).new (rb (Tg.Rd.start d))).n := by show H.n < H.n + 1 + 1; omega
  generalize (H.new (rb z0)).new (rb (Tg.Rd.start d)) = K at *
  refine loop_ind (fun (st : Option Nat × R) fr' H' => fr' 0 = str s ∧ fr' 4 = ptr H.n 0 ∧ fr' 5 = ptr (H.n + 1) 0 ∧ fr' 6 = .int .i64 (pl st.1) ∧ Ok s d Z st.1 st.2 ∧ H' = K.set (H.n + 1) (rb st.2)) (fun st => match st.1 with | some i => s.length - i + 1 | none => 0) (some 0, Tg.Rd.start d) ?_ ?_
  · exact ⟨by simp, by simp, by simp, by simp [pl], ⟨Nat.zero_le _, h0, rfl, fun _ => ⟨_, start_rel d⟩, _, Nat.lt_succ_self _, hZ⟩, (Go.Proofs.YtgnefbngkhjfcaaGreatDoor.set_self hK0).symm⟩
  rintro ⟨o, x⟩ fr' H' ⟨g0, g4, g5, g6, hok, rfl⟩ ih
  dsimp only at g6 hok ih
  have hle : H.le (K.set (H.n + 1) (rb x)) := hleK.set (Nat.le_succ _)
  cases o with
  | none =>
    have e : x = Z := hok
    subst e
    have gm : fr' 6 = .int .i64 (-1) := g6
    simp (config := { maxSteps := 4000000 }) [g0, g4, g5, gm, hpn, hnz, hgz, sv, rcs, cells_rb, splice, hle.set]
  | some i =>
    obtain ⟨hi, hdp, hde, hrel, f, hf, hr⟩ := hok
    have gi : fr' 6 = .int .i64 (i : Int) := g6
    by_cases hlt : i < s.length
    · have hn := nextP (H := K) (x := x) (p := H.n + 1) (s := s) (a := i) hd2 (by omega) hpn hs hlt
      have hdn := dp_next (a := (i : Int)) (b := at_ s i) (r := s.drop (i + 1)) hdp
      obtain ⟨m, hm⟩ := hrel hlt
      have hw : W m (at_ s i :: s.drop (i + 1)) := ⟨by rw [hm.seen]; omega, by rw [hm.seen]; simp; omega⟩
      have hg := next_goes hm hw
      rw [drop_at hlt] at hr
      obtain ⟨f, rfl⟩ : ∃ f', f = f' + 1 := ⟨f - 1, by omega⟩
      unfold readX at hr
      have hlt' : ((i : Int) < (s.length : Int)) = True := eq_true (by omega)
      cases hx : nextX x i (at_ s i) (s.drop (i + 1)) with
      | mk y o =>
        rw [hx] at hn hdn hg hr
        cases o with
        | none =>
          simp (config := { maxSteps := 4000000 }) [g0, g4, g5, gi, hlt', hn]
          exact ih (none, y) _ _ (by show 0 < s.length - i + 1; omega) ⟨by simp [g0], by simp [g4], by simp [g5], by simp [pl, kv], hr, rfl⟩
        | some k =>
          obtain ⟨k1, k2, k3⟩ := hg
          simp only [List.length_cons, List.length_drop] at k2
          simp only at hr
          simp (config := { maxSteps := 4000000 }) [g0, g4, g5, gi, hlt', hn]
          have hdr : (at_ s i :: s.drop (i + 1)).drop k = s.drop (i + k) := by rw [← drop_at hlt, List.drop_drop]
          rw [hdr] at hr k3
          refine ih (some (i + k), y) _ _ (by show s.length - (i + k) + 1 < s.length - i + 1; omega) ⟨by simp [g0], by simp [g4], by simp [g5], by simp [pl, kv], ⟨by omega, hdn.1, hdn.2.trans hde, fun hl2 => ?_, f, by omega, hr⟩, rfl⟩
          rcases k3 with ⟨k3, _⟩ | ⟨m', _, hm'⟩
          · have := congrArg List.length k3
            simp at this; omega
          · exact ⟨m', hm'⟩
    · have hlt' : ((i : Int) < (s.length : Int)) = False := eq_false (by omega)
      rw [List.drop_eq_nil_of_le (by omega), readX_nil] at hr
      subst hr
      simp (config := { maxSteps := 4000000 }) [g0, g4, g5, gi, hlt', hpn, hnz, hgz, sv, rcs, cells_rb, splice, hle.set]
end
end Go.Proofs.YtgnefbngkhjfcaaGreatDoor.Rd
/-
  The machine of layer 29 (lexer) in plain Lean, and plain laws on it. No program in sight.
-/
set_option linter.unusedSimpArgs false
set_option linter.unusedVariables false
namespace Tg.Lx

structure L where
  j : Tg.Json.M
  s : Tg.Js.M
  verdict : Int
  reason : List UInt8
  at_ : Int
  seen : Int
  ended : Bool

namespace L
def settle (m : L) (v : Int) (r : List UInt8) : L := { m with verdict := v, reason := r, at_ := m.seen }
def rDeep : List UInt8 := [100, 101, 101, 112]
def rNo : List UInt8 := [110, 111, 32, 115, 99, 114, 105, 112, 116]
def rScript : List UInt8 := [115, 99, 114, 105, 112, 116]
def rBlank : List UInt8 := [98, 108, 97, 110, 107]
def rJson : List UInt8 := [106, 115, 111, 110]
def rCut : List UInt8 := [99, 117, 116, 32, 111, 102, 102]
def rLimit : List UInt8 := [108, 105, 109, 105, 116]
def look (m : L) : L :=
  if m.j.tell = 3 then m.settle 2 rDeep
  else if m.s.tell = 0 then m.settle 2 rNo
  else if m.j.tell = 0 ∧ 0 < m.s.ends then m.settle 1 rScript
  else m
def see (m : L) : L := { m with seen := Tg.Js.w64 (m.seen + 1) }
def take1 (m : L) (b : UInt8) : L := { m with j := m.j.feed [b], s := m.s.feed [b] }
def step (m : L) (b : UInt8) : L := if m.verdict ≠ 0 ∨ m.ended = true then m.see else (m.see.take1 b).look
def feed (m : L) (s : List UInt8) : L := s.foldl step m
def fin (m : L) : L :=
  if m.verdict ≠ 0 then { m with ended := true }
  else if m.j.begun = false then ({ m with ended := true } : L).settle 1 rBlank
  else if m.j.tell ≠ 0 then ({ m with ended := true } : L).settle 2 rJson
  else if m.s.tell = 2 then ({ m with ended := true } : L).settle 1 rScript
  else ({ m with ended := true } : L).settle 2 rCut
def new (d : Nat) : L := ⟨Tg.Json.M.start d, Tg.Js.new d, 0, [], -1, 0, false⟩

theorem feed_append (m : L) (s t : List UInt8) : m.feed (s ++ t) = (m.feed s).feed t := by simp [feed]
theorem feed_take (m : L) (s : List UInt8) {i : Nat} (h : i < s.length) : m.feed (s.take (i + 1)) = (m.feed (s.take i)).step s[i] := by
  rw [List.take_succ_eq_append_getElem h, feed_append]; rfl
/-- a verdict stays -/
theorem stuck (t : List UInt8) : ∀ m : L, m.verdict ≠ 0 → (m.feed t).verdict = m.verdict ∧ (m.feed t).reason = m.reason ∧ (m.feed t).at_ = m.at_ := by
  induction t with
  | nil => intro m _; exact ⟨rfl, rfl, rfl⟩
  | cons b r ih =>
    intro m h
    have e : m.step b = m.see := by unfold step; rw [if_pos (.inl h)]
    have := ih m.see h
    have e2 : m.feed (b :: r) = (m.step b).feed r := rfl
    rw [e2, e]; exact this
theorem fin_verdict (m : L) : m.fin.verdict ≠ 0 := by
  unfold fin settle
  by_cases h : m.verdict ≠ 0
  · rw [if_pos h]; exact h
  · rw [if_neg h]
    repeat' split
    all_goals simp
theorem fin_stuck (m : L) (h : m.verdict ≠ 0) : m.fin.verdict = m.verdict ∧ m.fin.reason = m.reason ∧ m.fin.at_ = m.at_ := by
  unfold fin; rw [if_pos h]; exact ⟨rfl, rfl, rfl⟩
/-- what holds behind n bytes -/
structure Inv (n : Nat) (m : L) : Prop where
  seen : m.seen = n
  at1 : m.at_ ≤ n
  at0 : -1 ≤ m.at_
  at2 : m.verdict ≠ 0 → 0 ≤ m.at_
  v : m.verdict = 0 ∨ m.verdict = 1 ∨ m.verdict = 2
theorem look_cases (m : L) : m.look = m ∨ ∃ v r, (v = 1 ∨ v = 2) ∧ m.look = m.settle v r := by
  unfold look
  repeat' split
  · exact .inr ⟨2, rDeep, .inr rfl, rfl⟩
  · exact .inr ⟨2, rNo, .inr rfl, rfl⟩
  · exact .inr ⟨1, rScript, .inl rfl, rfl⟩
  · exact .inl rfl
theorem fin_cases (m : L) : m.fin = { m with ended := true } ∧ m.verdict ≠ 0 ∨ ∃ v r, (v = 1 ∨ v = 2) ∧ m.fin = ({ m with ended := true } : L).settle v r := by
  unfold fin
  by_cases h : m.verdict ≠ 0
  · rw [if_pos h]; exact .inl ⟨rfl, h⟩
  · rw [if_neg h]
    repeat' split
    · exact .inr ⟨_, _, .inl rfl, rfl⟩
    · exact .inr ⟨_, _, .inr rfl, rfl⟩
    · exact .inr ⟨_, _, .inl rfl, rfl⟩
    · exact .inr ⟨_, _, .inr rfl, rfl⟩
theorem Inv.step {n : Nat} {m : L} (h : Inv n m) (hn : n < 1152921504606846976) (b : UInt8) : Inv (n + 1) (m.step b) := by
  have hw : Tg.Js.w64 (m.seen + 1) = ((n + 1 : Nat) : Int) := by rw [h.seen]; rw [Tg.Js.w64_in (by omega) (by omega)]; omega
  have hs : Inv (n + 1) m.see := ⟨hw, by have := h.at1; show m.at_ ≤ _; omega, h.at0, h.at2, h.v⟩
  unfold L.step
  split
  · exact hs
  · have ht : Inv (n + 1) (m.see.take1 b) := ⟨hs.seen, hs.at1, hs.at0, hs.at2, hs.v⟩
    rcases look_cases (m.see.take1 b) with e | ⟨v, r, hv, e⟩
    · rw [e]; exact ht
    · rw [e]
      have e1 := ht.seen
      refine ⟨e1, ?_, ?_, ?_, ?_⟩
      · show (m.see.take1 b).seen ≤ _; omega
      · show -1 ≤ (m.see.take1 b).seen; omega
      · intro _; show 0 ≤ (m.see.take1 b).seen; omega
      · exact .inr hv
theorem Inv.feed (t : List UInt8) : ∀ {n : Nat} {m : L}, Inv n m → n + t.length ≤ 1152921504606846976 → Inv (n + t.length) (m.feed t) := by
  induction t with
  | nil => intro n m h _; exact h
  | cons b r ih =>
    intro n m h hn
    simp only [List.length_cons] at hn
    have := ih (h.step (by omega) b) (by omega)
    rw [show n + 1 + r.length = n + (b :: r).length by simp; omega] at this
    exact this
theorem Inv.new (d : Nat) : Inv 0 (new d) := ⟨rfl, by show (-1 : Int) ≤ 0; omega, Int.le_refl _, fun h => absurd rfl h, .inl rfl⟩
theorem Inv.fin {n : Nat} {m : L} (h : Inv n m) : Inv n m.fin := by
  rcases fin_cases m with ⟨e, _⟩ | ⟨v, r, hv, e⟩
  · rw [e]; exact ⟨h.seen, h.at1, h.at0, h.at2, h.v⟩
  · rw [e]
    have e1 := h.seen
    exact ⟨e1, by show m.seen ≤ _; omega, by show -1 ≤ m.seen; omega, fun _ => by show 0 ≤ m.seen; omega, .inr hv⟩
/-- both machines as long as there is no verdict -/
theorem feed_open (t : List UInt8) : ∀ m : L, m.ended = false → (m.feed t).verdict = 0 → (m.feed t).j = m.j.feed t ∧ (m.feed t).s = m.s.feed t ∧ (m.feed t).ended = false := by
  induction t with
  | nil => intro m h _; exact ⟨rfl, rfl, h⟩
  | cons b r ih =>
    intro m he hv
    have hv' : ((m.step b).feed r).verdict = 0 := hv
    have hm : m.verdict = 0 := by
      refine Classical.byContradiction (fun hne => ?_)
      have := (stuck (b :: r) m hne).1
      rw [hv] at this; exact hne this.symm
    have e : m.step b = (m.see.take1 b).look := by unfold step; rw [if_neg (by rintro (h | h); exact h hm; rw [he] at h; cases h)]
    rcases look_cases (m.see.take1 b) with e2 | ⟨v, r', hvv, e2⟩
    · rw [e2] at e
      have := ih (m.step b) (by rw [e]; exact he) hv'
      rw [e] at this
      show ((m.step b).feed r).j = _ ∧ ((m.step b).feed r).s = _ ∧ ((m.step b).feed r).ended = _
      rw [e]
      exact this
    · rw [e2] at e
      have : (m.step b).verdict ≠ 0 := by rw [e]; show v ≠ 0; rcases hvv with rfl | rfl <;> decide
      have h2 := (stuck r (m.step b) this).1
      rw [hv'] at h2
      exact absurd h2.symm this
/-- what is let through ahead of the end has a beginning that is no JSON -/
theorem allowed (t : List UInt8) : ∀ m : L, m.ended = false → m.verdict = 0 → (m.feed t).verdict = 1 → ∃ u k, t = u ++ k ∧ (m.j.feed u).tell = 0 := by
  induction t with
  | nil => intro m _ hv h; rw [show m.feed [] = m from rfl, hv] at h; cases h
  | cons b r ih =>
    intro m he hv h
    have e : m.step b = (m.see.take1 b).look := by unfold step; rw [if_neg (by rintro (h | h); exact h hv; rw [he] at h; cases h)]
    have h' : ((m.step b).feed r).verdict = 1 := h
    have hj : (m.see.take1 b).j = m.j.feed [b] := rfl
    by_cases hz : (m.step b).verdict = 0
    · have e3 : m.step b = m.see.take1 b := by
        rcases look_cases (m.see.take1 b) with e2 | ⟨v, r', hvv, e2⟩
        · rw [e, e2]
        · rw [e, e2] at hz
          have hz' : v = 0 := hz
          rcases hvv with rfl | rfl <;> cases hz'
      obtain ⟨u, k, hu, ht⟩ := ih (m.step b) (by rw [e3]; exact he) hz h'
      refine ⟨b :: u, k, by rw [hu]; rfl, ?_⟩
      rw [e3] at ht
      exact ht
    · have h2 := (stuck r (m.step b) hz).1
      rw [h'] at h2
      refine ⟨[b], r, rfl, ?_⟩
      rw [e] at h2
      unfold look at h2
      split at h2
      · cases h2
      · split at h2
        · cases h2
        · split at h2
          · rename_i h3; exact h3.1
          · rw [show (m.see.take1 b).verdict = m.verdict from rfl, hv] at h2; cases h2
theorem bad_stays (m : Tg.Json.M) (u k : List UInt8) (h : (m.feed u).tell = 0) : (m.feed (u ++ k)).tell = 0 := by
  have hs : (m.feed u).state = 0 := by
    unfold Tg.Json.M.tell at h
    split at h
    · cases h
    · exact h
  rw [Tg.Json.feed_append]
  have := (Tg.Json.feed_stuck k (m.feed u) (by omega)).1
  unfold Tg.Json.M.tell
  rw [if_neg (fun hx => by omega), this, hs]
theorem done_begun (s : List UInt8) (d : Nat) (h : ((Tg.Json.M.start d).feed s).tell = 2) : ((Tg.Json.M.start d).feed s).begun = true := by
  rw [Tg.Json.begun_feed]
  have hw := congrArg Prod.fst (Tg.Json.whole_eq s d)
  simp only [h] at hw
  refine Classical.byContradiction (fun hne => ?_)
  have hge : s.length ≤ Tg.Json.skip s := by
    simp [Tg.Json.M.start] at hne; omega
  have hd : s.drop (Tg.Json.skip s) = [] := List.drop_eq_nil_of_le hge
  have hv : (Tg.Json.value d s).2 = 1 := by
    cases d <;> (unfold Tg.Json.value; rw [hd])
  unfold Tg.Json.whole at hw
  simp [hv] at hw
/-- what is JSON as a whole never is let through -/
theorem json_blocks (d : Nat) (u r : List UInt8) (h : ((Tg.Json.M.start d).feed (u ++ r)).tell = 2) :
    ((new d).feed u).verdict ≠ 1 ∧ (((new d).feed u).feed r).verdict ≠ 1 ∧ (((new d).feed u).feed r).fin.verdict = 2 := by
  have key : ∀ t k, t ++ k = u ++ r → ((new d).feed t).verdict ≠ 1 := by
    intro t k ht hv
    obtain ⟨u', k', e, hb⟩ := allowed t (new d) rfl rfl hv
    have := bad_stays _ u' (k' ++ k) hb
    rw [← List.append_assoc, ← e, ht] at this
    have h' : ((new d).j.feed (u ++ r)).tell = 2 := h
    rw [this] at h'; cases h'
  have k2 := key (u ++ r) [] (by simp)
  refine ⟨key u r rfl, by rw [← feed_append]; exact k2, ?_⟩
  rw [← feed_append]
  have hi := (Inv.new d).feed (u ++ r)
  generalize hm : (new d).feed (u ++ r) = m at *
  by_cases hv : m.verdict = 0
  · obtain ⟨hj, _, _⟩ := feed_open (u ++ r) (new d) rfl (by rw [hm]; exact hv)
    rw [hm] at hj
    have hj' : m.j = (Tg.Json.M.start d).feed (u ++ r) := hj
    unfold fin
    rw [if_neg (fun hx => hx hv), hj', done_begun _ _ h, if_neg (by simp), h, if_pos (by decide)]
    rfl
  · rw [(fin_stuck m hv).1]
    have : m.verdict = 0 ∨ m.verdict = 1 ∨ m.verdict = 2 := by
      rw [← hm]
      have : ∀ (t : List UInt8) (n : L), (n.verdict = 0 ∨ n.verdict = 1 ∨ n.verdict = 2) → ((n.feed t).verdict = 0 ∨ (n.feed t).verdict = 1 ∨ (n.feed t).verdict = 2) := by
        intro t
        induction t with
        | nil => intro n hn; exact hn
        | cons b q ih =>
          intro n hn
          refine ih (n.step b) ?_
          unfold step
          split
          · exact hn
          · rcases look_cases (n.see.take1 b) with e | ⟨v, r', hvv, e⟩
            · rw [e]; exact hn
            · rw [e]; exact .inr hvv
      exact this (u ++ r) (new d) (.inl rfl)
    omega
end L
end Tg.Lx
/-
  The reference of layer 29 (each beginning anew) in plain Lean, and the law: it comes to what the machine comes to. No program in sight.
-/
set_option linter.unusedSimpArgs false
set_option linter.unusedVariables false
namespace Tg.Json
/-! ### a blank behind a blank -/
theorem jpos_blank (m : M) (hr : (32 : UInt8) ∉ m.rest) (h : m.state = 1) (h1 : (m.byte 32).state = 1) : (m.byte 32).pos ≤ 6 := by
  have hw : white 32 = true := by decide
  unfold M.byte at h1 ⊢
  by_cases c0 : m.pos = 0 ∨ m.pos = 1
  · rw [if_pos c0, hw, if_pos rfl]; omega
  rw [if_neg c0] at h1 ⊢
  by_cases c1 : m.pos = 2 ∨ m.pos = 3
  · rw [if_pos c1]; unfold M.names; rw [hw, if_pos rfl]; omega
  rw [if_neg c1] at h1 ⊢
  by_cases c2 : m.pos = 4
  · rw [if_pos c2, hw, if_pos rfl]; omega
  rw [if_neg c2] at h1 ⊢
  by_cases c3 : m.pos = 5
  · rw [if_pos c3]; unfold M.after; dsimp only; rw [hw, if_pos rfl]; show 5 ≤ 6; omega
  rw [if_neg c3] at h1 ⊢
  by_cases c4 : m.pos = 6
  · rw [if_pos c4]; unfold M.inText; rw [if_neg (by decide), if_neg (by decide), if_neg (by decide)]; omega
  rw [if_neg c4] at h1 ⊢
  by_cases c5 : m.pos = 7
  · rw [if_pos c5] at h1; unfold M.inSlash at h1; rw [if_neg (by decide), if_neg (by decide)] at h1; cases h1
  rw [if_neg c5] at h1 ⊢
  by_cases c6 : m.pos = 8
  · rw [if_pos c6] at h1; unfold M.inUnicode at h1; rw [if_neg (by decide)] at h1; cases h1
  rw [if_neg c6] at h1 ⊢
  by_cases c7 : m.pos = 9
  · rw [if_pos c7] at h1 ⊢; unfold M.inWord at h1 ⊢
    have hx : ¬ m.rest.head? = some 32 := fun e => hr (List.mem_of_mem_head? e)
    rw [if_neg hx] at h1; cases h1
  rw [if_neg c7] at h1 ⊢
  unfold M.inNumber at h1 ⊢
  have e1 : digit 32 = false := by decide
  have e2 : isE 32 = false := by decide
  rw [e1, e2] at h1 ⊢
  simp only [Bool.false_eq_true, and_false, if_false, show ¬ ((32 : UInt8) = 48) by decide, show ¬ ((32 : UInt8) = 43) by decide, show ¬ ((32 : UInt8) = 45) by decide, show ¬ ((32 : UInt8) = 46) by decide, or_self] at h1 ⊢
  split
  · unfold M.after; dsimp only; rw [hw, if_pos rfl]; show 5 ≤ 6; omega
  · rename_i hx; rw [if_neg hx] at h1; cases h1
theorem byte_calm (m : M) (h : m.pos ≤ 6) : m.byte 32 = m := by
  have hw : white 32 = true := by decide
  unfold M.byte
  by_cases c0 : m.pos = 0 ∨ m.pos = 1
  · rw [if_pos c0, hw, if_pos rfl]
  rw [if_neg c0]
  by_cases c1 : m.pos = 2 ∨ m.pos = 3
  · rw [if_pos c1]; unfold M.names; rw [hw, if_pos rfl]
  rw [if_neg c1]
  by_cases c2 : m.pos = 4
  · rw [if_pos c2, hw, if_pos rfl]
  rw [if_neg c2]
  by_cases c3 : m.pos = 5
  · rw [if_pos c3]; unfold M.after; dsimp only; rw [hw, if_pos rfl]; cases m; simp at c3; simp [c3]
  rw [if_neg c3]
  rw [if_pos (by omega)]; unfold M.inText; rw [if_neg (by decide), if_neg (by decide), if_neg (by decide)]
theorem rest_after (m : M) (b : UInt8) : (m.after b).rest = m.rest := by
  unfold M.after M.pop M.fail; dsimp only; repeat' split
  all_goals rfl
theorem rest_push (m : M) (b : UInt8) (p : Nat) : (m.push b p).rest = m.rest := by
  unfold M.push M.fail; split <;> rfl
theorem rest_first (m : M) (b : UInt8) (h : (32 : UInt8) ∉ m.rest) : (32 : UInt8) ∉ (m.first b).rest := by
  unfold M.first
  split
  · rw [rest_push]; exact h
  split
  · rw [rest_push]; exact h
  split
  · exact h
  split
  · exact h
  split
  · exact h
  split
  · exact h
  split
  · show (32 : UInt8) ∉ [114, 117, 101]; decide
  split
  · show (32 : UInt8) ∉ [97, 108, 115, 101]; decide
  split
  · show (32 : UInt8) ∉ [117, 108, 108]; decide
  · exact h
theorem rest_num (m : M) (b : UInt8) : (m.inNumber b).rest = m.rest := by
  unfold M.inNumber
  split
  · rfl
  split
  · rfl
  split
  · rfl
  split
  · rfl
  split
  · rfl
  split
  · rfl
  split
  · rfl
  split
  · exact rest_after m b
  · rfl
theorem rest_byte (m : M) (b : UInt8) (h : (32 : UInt8) ∉ m.rest) : (32 : UInt8) ∉ (m.byte b).rest := by
  unfold M.byte
  split
  · split
    · exact h
    split
    · exact h
    · exact rest_first m b h
  split
  · unfold M.names; repeat' split
    all_goals exact h
  split
  · repeat' split
    all_goals exact h
  split
  · rw [rest_after]; exact h
  split
  · unfold M.inText; repeat' split
    all_goals exact h
  split
  · unfold M.inSlash; repeat' split
    all_goals exact h
  split
  · unfold M.inUnicode; repeat' split
    all_goals exact h
  split
  · unfold M.inWord; repeat' split
    · exact fun hx => h (List.mem_of_mem_tail hx)
    · exact fun hx => h (List.mem_of_mem_tail hx)
    · exact h
  · rw [rest_num]; exact h
theorem rest_feed1 (m : M) (b : UInt8) (h : (32 : UInt8) ∉ m.rest) : (32 : UInt8) ∉ (m.feed1 b).rest := by
  unfold M.feed1; dsimp only
  split
  · exact rest_byte _ b h
  · exact h
theorem rest_feed (l : List UInt8) : ∀ m : M, (32 : UInt8) ∉ m.rest → (32 : UInt8) ∉ (m.feed l).rest := by
  induction l with
  | nil => intro m h; exact h
  | cons b r ih => intro m h; exact ih _ (rest_feed1 m b h)
theorem beg32 (m : M) : m.beg 32 = m := by
  have hw : white 32 = true := by decide
  unfold M.beg; rw [hw]; cases m; simp
theorem tell_stuck {m : M} (h : m.state ≠ 1) : m.tell = m.state := by unfold M.tell; rw [if_neg (fun x => h x.1)]
theorem tell_blank (m : M) (hr : (32 : UInt8) ∉ m.rest) : ((m.feed1 32).feed1 32).tell = (m.feed1 32).tell := by
  by_cases h2 : (m.feed1 32).state = 1
  · have h : m.state = 1 := by
      refine Classical.byContradiction (fun hne => ?_)
      have := (feed_stuck [32] m hne).1
      have e : (m.feed [32]) = m.feed1 32 := rfl
      rw [e] at this; omega
    rw [feed1_open h2, beg32]
    rw [feed1_open h, beg32] at h2 ⊢
    have hp := jpos_blank m hr h h2
    have hq : ({ m.byte 32 with seen := m.seen + 1 } : M).byte 32 = { m.byte 32 with seen := m.seen + 1 } := byte_calm _ hp
    rw [hq]; rfl
  · have := (feed_stuck [32] (m.feed1 32) h2).1
    have e : (m.feed1 32).feed [32] = (m.feed1 32).feed1 32 := rfl
    rw [e] at this
    rw [tell_stuck h2, tell_stuck (by rw [this]; exact h2), this]
end Tg.Json
namespace Tg.Js
/-- a blank turns nothing -/
def Calm (m : M) : Prop := m.at_ = 0 ∨ m.at_ = 10 ∨ m.at_ = 11 ∨ (m.at_ ≠ 1 ∧ m.at_ ≠ 2 ∧ m.at_ ≠ 8 ∧ m.at_ ≠ 5 ∧ m.at_ ≠ 9 ∧ m.at_ ≠ 12 ∧ m.at_ ≠ 13 ∧ m.at_ ≠ 14 ∧ m.at_ ≠ 15 ∧ m.taken = false ∧ m.by_ ≠ 32)
theorem begin32 (m : M) : m.begin 32 = m := by
  unfold M.begin
  rw [show feedB 32 = false by decide, show white 32 = true by decide]; simp
theorem inText32 {m : M} (h : m.taken = false) (hb : m.by_ ≠ 32) : m.inText 32 = m := by
  unfold M.inText
  rw [h, show feedB 32 = false by decide]
  have e1 : ¬ (32 : UInt8) = m.by_ := fun e => hb e.symm
  simp only [Bool.false_eq_true, if_false, and_false, e1, false_and, show ¬ ((32 : UInt8) = 92) by decide, show ¬ ((32 : UInt8) = 93) by decide, show ¬ ((32 : UInt8) = 91) by decide, show ¬ ((32 : UInt8) = 36) by decide]
  split <;> rfl
theorem inText32t {m : M} (h : m.taken = true) : m.inText 32 = { m with taken := false } := by
  unfold M.inText; rw [if_pos h]
theorem calm_byte {m : M} (h : Calm m) : (m.byte 32).bad = m.bad ∧ (m.byte 32).ends = m.ends := by
  rcases h with h | h | h | ⟨h1, h2, h3, h4, h5, h6, h7, h8, h9, ht, hb⟩
  · unfold M.byte; rw [if_pos h, begin32]; exact ⟨rfl, rfl⟩
  · unfold M.byte M.inRemark; rw [show feedB 32 = false by decide]; simp [h]
  · unfold M.byte M.inRemark; rw [show feedB 32 = false by decide]; simp [h]
  · unfold M.byte
    by_cases h0 : m.at_ = 0
    · rw [if_pos h0, begin32]; exact ⟨rfl, rfl⟩
    by_cases h10 : m.at_ = 10
    · unfold M.inRemark; rw [show feedB 32 = false by decide]; simp [h10]
    by_cases h11 : m.at_ = 11
    · unfold M.inRemark; rw [show feedB 32 = false by decide]; simp [h11]
    simp only [h0, h1, h2, h3, h4, h5, h6, h7, h8, h9, h10, h11, or_self, if_false]
    rw [inText32 ht hb]; exact ⟨rfl, rfl⟩
theorem text_calm {m : M} {k : Int} (hk : k = 3 ∨ k = 4 ∨ k = 6 ∨ k = 7) (ha : m.at_ = k) (ht : m.taken = false) (hb : m.by_ ≠ 32) : Calm m := by
  refine .inr (.inr (.inr ⟨?_, ?_, ?_, ?_, ?_, ?_, ?_, ?_, ?_, ht, hb⟩)) <;> omega
theorem inText_calm {m : M} (hk : m.at_ = 3 ∨ m.at_ = 4 ∨ m.at_ = 6 ∨ m.at_ = 7) (hb : m.by_ ≠ 32) : Calm (m.inText 32) := by
  cases ht : m.taken with
  | false => rw [inText32 ht hb]; exact text_calm hk rfl ht hb
  | true => rw [inText32t ht]; exact text_calm (m := { m with taken := false }) hk rfl rfl hb
theorem sign47_at (m : M) : (m.sign 47).at_ = 0 := by
  unfold M.sign
  simp only [show ¬((47 : UInt8) = 40 ∨ (47 : UInt8) = 91 ∨ (47 : UInt8) = 123) by decide, show ¬((47 : UInt8) = 41 ∨ (47 : UInt8) = 93 ∨ (47 : UInt8) = 125) by decide, show ¬((47 : UInt8) = 59) by decide, if_false]
  rfl
theorem byte_calm {m : M} (hb : m.by_ ≠ 32) (hg : (m.byte 32).bad = false) : Calm (m.byte 32) := by
  unfold M.byte at hg ⊢
  by_cases h0 : m.at_ = 0
  · rw [if_pos h0, begin32]; exact .inl h0
  rw [if_neg h0] at hg ⊢
  by_cases h1 : m.at_ = 1 ∨ m.at_ = 2 ∨ m.at_ = 8
  · rw [if_pos h1]; unfold M.inWord
    rw [show inner 32 = false by decide]
    simp only [Bool.false_eq_true, show ¬ ((32 : UInt8) = 46) by decide, and_false, or_self, if_false]
    split <;> (rw [begin32]; exact .inl rfl)
  rw [if_neg h1] at hg ⊢
  by_cases h2 : m.at_ = 5
  · rw [if_pos h2]; unfold M.inDollar
    dsimp only
    rw [if_neg (by decide)]
    exact inText_calm (m := { m with at_ := 4 }) (.inr (.inl rfl)) hb
  rw [if_neg h2] at hg ⊢
  by_cases h3 : m.at_ = 9
  · rw [if_pos h3]; unfold M.inSlash
    rw [if_neg (by decide), if_neg (by decide)]
    split
    · rw [begin32]; exact .inl (sign47_at m)
    · exact inText_calm (m := { m.piece with at_ := 6, by_ := 47 }) (.inr (.inr (.inl rfl))) (show (47 : UInt8) ≠ 32 by decide)
  rw [if_neg h3] at hg ⊢
  by_cases h4 : m.at_ = 10 ∨ m.at_ = 11 ∨ m.at_ = 12
  · rw [if_pos h4]; unfold M.inRemark
    rw [show feedB 32 = false by decide]
    simp only [Bool.false_eq_true, and_false, if_false, show ¬ ((32 : UInt8) = 47) by decide, show ¬ ((32 : UInt8) = 42) by decide]
    split
    · exact .inr (.inr (.inl rfl))
    · rename_i hx
      rcases h4 with h | h | h
      · exact .inr (.inl h)
      · exact .inr (.inr (.inl h))
      · exact absurd h hx
  rw [if_neg h4] at hg ⊢
  by_cases h5 : m.at_ = 13 ∨ m.at_ = 14 ∨ m.at_ = 15
  · rw [if_pos h5] at hg; unfold M.inLess at hg
    simp only [and_false, if_false, show ¬ ((32 : UInt8) = 33) by decide, show ¬ ((32 : UInt8) = 45) by decide] at hg
    cases hg
  rw [if_neg h5] at hg ⊢
  have key : ∀ m' : M, m'.at_ = m.at_ → m'.taken = false → m'.by_ = m.by_ → Calm m' := fun m' e1 e2 e3 => by
    refine .inr (.inr (.inr ⟨?_, ?_, ?_, ?_, ?_, ?_, ?_, ?_, ?_, e2, by rw [e3]; exact hb⟩)) <;> omega
  cases ht : m.taken with
  | false => rw [inText32 ht hb]; exact key _ rfl ht rfl
  | true => rw [inText32t ht]; exact key _ rfl rfl rfl
theorem by_push {m : M} {b : UInt8} (h : m.by_ ≠ 32) : (m.push b).by_ ≠ 32 := by unfold M.push; split <;> exact h
theorem by_pop {m : M} {b : UInt8} (h : m.by_ ≠ 32) : (m.pop b).by_ ≠ 32 := by
  unfold M.pop
  repeat' split
  all_goals first | exact h | (dsimp only; repeat' split) <;> first | exact h | (show (96 : UInt8) ≠ 32; decide)
theorem by_sign {m : M} {b : UInt8} (h : m.by_ ≠ 32) : (m.sign b).by_ ≠ 32 := by
  unfold M.sign
  dsimp only
  split
  · exact by_push h
  split
  · exact by_pop h
  repeat' split
  all_goals exact h
theorem by_begin {m : M} {b : UInt8} (h : m.by_ ≠ 32) : (m.begin b).by_ ≠ 32 := by
  unfold M.begin
  split
  · exact h
  split
  · exact h
  split
  · split <;> exact h
  split
  · rename_i hb
    split
    · exact h
    · show b ≠ 32; rcases hb with rfl | rfl <;> decide
  split
  · rename_i hb; show b ≠ 32; rw [hb]; decide
  split
  · exact h
  split
  · exact h
  split
  · exact by_sign h
  · exact h
theorem by_text {m : M} {b : UInt8} (h : m.by_ ≠ 32) : (m.inText b).by_ ≠ 32 := by
  unfold M.inText
  repeat' split
  all_goals exact h
theorem by_byte {m : M} {b : UInt8} (h : m.by_ ≠ 32) : (m.byte b).by_ ≠ 32 := by
  unfold M.byte
  split
  · exact by_begin h
  split
  · unfold M.inWord
    split
    · split <;> exact h
    · split <;> exact by_begin h
  split
  · unfold M.inDollar; dsimp only
    split
    · exact by_push h
    · exact by_text h
  split
  · unfold M.inSlash
    split
    · exact h
    split
    · exact h
    split
    · exact by_begin (by_sign h)
    · exact by_text (show (47 : UInt8) ≠ 32 by decide)
  split
  · unfold M.inRemark; dsimp only
    repeat' split
    all_goals exact h
  split
  · unfold M.inLess
    repeat' split
    all_goals exact h
  · exact by_text h
theorem by_step {m : M} {b : UInt8} (h : m.by_ ≠ 32) : (m.step b).by_ ≠ 32 := by
  unfold M.step; dsimp only
  split
  · exact h
  · exact by_byte h
theorem by_feed (l : List UInt8) : ∀ m : M, m.by_ ≠ 32 → (m.feed l).by_ ≠ 32 := by
  induction l with
  | nil => intro m h; exact h
  | cons b r ih => intro m h; exact ih _ (by_step h)
theorem Calm.seen {m : M} {n : Int} (h : Calm m) : Calm { m with seen := n } := h
theorem step_blank {m : M} (hb : m.by_ ≠ 32) (hg : (m.step 32).bad = false) : ((m.step 32).step 32).bad = false ∧ ((m.step 32).step 32).ends = (m.step 32).ends := by
  have hmb : m.bad = false := by
    cases h : m.bad with
    | false => rfl
    | true => rw [M.step_bad m 32 h] at hg; rw [← hg]; exact h.symm ▸ rfl
  rw [M.step_good _ 32 hg]
  rw [M.step_good m 32 hmb] at hg ⊢
  have hc : Calm { m.byte 32 with seen := w64 ((m.byte 32).seen + 1) } := byte_calm hb hg
  obtain ⟨h1, h2⟩ := calm_byte hc
  exact ⟨h1.trans hg, h2⟩
end Tg.Js
/-
  The reference of layer 29 (each beginning anew) in plain Lean, and the law: it comes to what the machine comes to. No program in sight.
-/
set_option linter.unusedSimpArgs false
set_option linter.unusedVariables false
namespace Tg.Lx

/-- what a beginning tells: nothing, or a verdict and why -/
def chk (s : List UInt8) (d : Nat) : Option (Int × List UInt8) :=
  if (Tg.Json.whole s d).1 = 3 then some (2, L.rDeep)
  else if 0 ≤ (Tg.Rd.read s d).bad then some (2, L.rNo)
  else if (Tg.Json.whole s d).1 = 0 ∧ 0 < (Tg.Rd.read s d).ends then some (1, L.rScript)
  else none
/-- a blank behind a blank -/
def skipB (s : List UInt8) (n : Nat) : Bool := decide (1 < n) && decide (s[n - 1]? = some 32) && decide (s[n - 2]? = some 32)
def refGo (s : List UInt8) (d : Nat) : Nat → Nat → Option (Int × List UInt8 × Nat)
  | 0, _ => none
  | f + 1, n => if skipB s n = true then refGo s d f (n + 1) else match chk (s.take n) d with
    | some (v, r) => some (v, r, n)
    | none => refGo s d f (n + 1)
/-- a verdict, why, where -/
def refW (s : List UInt8) (d : Nat) (en : Bool) : Int × List UInt8 × Int :=
  match refGo s d s.length 1 with
  | some (v, r, n) => (v, r, (n : Int))
  | none =>
    if en = false then (0, [], 0)
    else if ¬ Tg.Json.skip s < s.length then (1, L.rBlank, (s.length : Int))
    else if (Tg.Json.whole s d).1 ≠ 0 then (2, L.rJson, (s.length : Int))
    else if (Tg.Rd.read s d).state = 2 then (1, L.rScript, (s.length : Int))
    else (2, L.rCut, (s.length : Int))

theorem whole_tell (s : List UInt8) (d : Nat) : (Tg.Json.whole s d).1 = ((Tg.Json.M.start d).feed s).tell := by
  have := congrArg Prod.fst (Tg.Json.whole_eq s d)
  exact this.symm
theorem read_bad (s : List UInt8) (d : Nat) (hs : s.length ≤ 1000000) : (0 ≤ (Tg.Rd.read s d).bad ↔ ((Tg.Js.new d).feed s).bad = true) ∧ (Tg.Rd.read s d).ends = ((Tg.Js.new d).feed s).ends ∧ (((Tg.Js.new d).feed s).bad = false → (Tg.Rd.read s d).state = ((Tg.Js.new d).feed s).tell) := by
  obtain ⟨h1, h2⟩ := Tg.Rd.read_law s d hs
  refine ⟨?_, h1.symm, fun hb => ?_⟩
  · rcases h2 with ⟨a, _, c⟩ | ⟨a, b, _⟩
    · exact ⟨fun _ => a, fun _ => c⟩
    · exact ⟨fun h => by omega, fun h => by rw [a] at h; cases h⟩
  · rcases h2 with ⟨a, _, c⟩ | ⟨a, b, c⟩
    · rw [a] at hb; cases hb
    · exact c.symm
theorem chk_look {m : L} {t : List UInt8} {d : Nat} (hj : m.j = (Tg.Json.M.start d).feed t) (hs : m.s = (Tg.Js.new d).feed t) (hl : t.length ≤ 1000000) : m.look = match chk t d with | some (v, r) => m.settle v r | none => m := by
  obtain ⟨h1, h2, _⟩ := read_bad t d hl
  unfold chk L.look
  rw [whole_tell, hj, hs, h2]
  by_cases c1 : ((Tg.Json.M.start d).feed t).tell = 3
  · rw [if_pos c1, if_pos c1]
  rw [if_neg c1, if_neg c1]
  by_cases c2 : ((Tg.Js.new d).feed t).tell = 0
  · rw [if_pos c2, if_pos (h1.2 (Tg.Js.M.tell_bad.1 c2))]
  rw [if_neg c2, if_neg (fun hx => c2 (Tg.Js.M.tell_bad.2 (h1.1 hx)))]
  by_cases c3 : ((Tg.Json.M.start d).feed t).tell = 0 ∧ 0 < ((Tg.Js.new d).feed t).ends
  · rw [if_pos c3, if_pos c3]
  · rw [if_neg c3, if_neg c3]
/-- a blank behind a blank tells nothing new -/
theorem chk_blank {u : List UInt8} {d : Nat} (hl : u.length ≤ 999990) (h : chk (u ++ [32]) d = none) : chk (u ++ [32] ++ [32]) d = none := by
  obtain ⟨a1, a2, _⟩ := read_bad (u ++ [32]) d (by simp; omega)
  obtain ⟨b1, b2, _⟩ := read_bad (u ++ [32] ++ [32]) d (by simp; omega)
  unfold chk at h ⊢
  rw [whole_tell, a2] at h
  rw [whole_tell, b2]
  have ej : ((Tg.Json.M.start d).feed (u ++ [32] ++ [32])).tell = ((Tg.Json.M.start d).feed (u ++ [32])).tell := by
    rw [Tg.Json.feed_append, Tg.Json.feed_append]
    exact Tg.Json.tell_blank _ (Tg.Json.rest_feed u _ (by show (32 : UInt8) ∉ []; simp))
  rw [ej]
  by_cases c1 : ((Tg.Json.M.start d).feed (u ++ [32])).tell = 3
  · rw [if_pos c1] at h; cases h
  rw [if_neg c1] at h ⊢
  by_cases c2 : 0 ≤ (Tg.Rd.read (u ++ [32]) d).bad
  · rw [if_pos c2] at h; cases h
  rw [if_neg c2] at h
  have hb : ((Tg.Js.new d).feed (u ++ [32])).bad = false := by
    cases hx : ((Tg.Js.new d).feed (u ++ [32])).bad with
    | false => rfl
    | true => exact absurd (a1.2 hx) c2
  have hby : ((Tg.Js.new d).feed u).by_ ≠ 32 := Tg.Js.by_feed u _ (by show (0 : UInt8) ≠ 32; decide)
  have e1 : (Tg.Js.new d).feed (u ++ [32]) = ((Tg.Js.new d).feed u).step 32 := by rw [Tg.Js.M.feed_append]; rfl
  have e2 : (Tg.Js.new d).feed (u ++ [32] ++ [32]) = (((Tg.Js.new d).feed u).step 32).step 32 := by rw [Tg.Js.M.feed_append, e1]; rfl
  rw [e1] at hb
  obtain ⟨g1, g2⟩ := Tg.Js.step_blank hby hb
  rw [if_neg (fun hx => by have := b1.1 hx; rw [e2, g1] at this; cases this), e2, g2, ← e1]
  by_cases c3 : ((Tg.Json.M.start d).feed (u ++ [32])).tell = 0 ∧ 0 < ((Tg.Js.new d).feed (u ++ [32])).ends
  · rw [if_pos c3] at h; cases h
  · rw [if_neg c3]
namespace L
theorem feed_nothing (t : List UInt8) : ∀ m : L, (m.feed t).verdict = 0 → (m.feed t).reason = m.reason ∧ (m.feed t).at_ = m.at_ := by
  induction t with
  | nil => intro m _; exact ⟨rfl, rfl⟩
  | cons b r ih =>
    intro m hv
    have hv' : ((m.step b).feed r).verdict = 0 := hv
    obtain ⟨h1, h2⟩ := ih (m.step b) hv'
    have hz : (m.step b).verdict = 0 := Classical.byContradiction (fun hne => by
      have := (stuck r (m.step b) hne).1
      rw [hv'] at this; exact hne this.symm)
    show ((m.step b).feed r).reason = _ ∧ ((m.step b).feed r).at_ = _
    rw [h1, h2]
    unfold step at hz ⊢
    split
    · exact ⟨rfl, rfl⟩
    · rename_i hc
      rw [if_neg hc] at hz
      rcases look_cases (m.see.take1 b) with e | ⟨v, r', hvv, e⟩
      · rw [e]; exact ⟨rfl, rfl⟩
      · rw [e] at hz
        have : v = 0 := hz
        rcases hvv with h | h <;> omega
theorem fin_open {m : L} (h : m.verdict = 0) : m.fin = if m.j.begun = false then ({ m with ended := true } : L).settle 1 rBlank
  else if m.j.tell ≠ 0 then ({ m with ended := true } : L).settle 2 rJson
  else if m.s.tell = 2 then ({ m with ended := true } : L).settle 1 rScript
  else ({ m with ended := true } : L).settle 2 rCut := by
  unfold fin; rw [if_neg (fun hx => hx h)]
end L
theorem go_law (s : List UInt8) (d : Nat) (hs : s.length ≤ 900000) : ∀ (f i : Nat), i + f = s.length → ((L.new d).feed (s.take i)).verdict = 0 → (1 ≤ i → chk (s.take i) d = none) →
    match refGo s d f (i + 1) with
    | some (v, r, n) => ((L.new d).feed s).verdict = v ∧ v ≠ 0 ∧ ((L.new d).feed s).reason = r ∧ ((L.new d).feed s).at_ = n
    | none => ((L.new d).feed s).verdict = 0 := by
  intro f
  induction f with
  | zero =>
    intro i hi hv _
    have : s.take i = s := List.take_of_length_le (by omega)
    rw [this] at hv
    exact hv
  | succ f ih =>
    intro i hi hv hc
    have hlt : i < s.length := by omega
    obtain ⟨oj, os, oe⟩ := L.feed_open (s.take i) (L.new d) rfl hv
    have ht : s.take (i + 1) = s.take i ++ [s[i]] := List.take_succ_eq_append_getElem hlt
    have hstep : (L.new d).feed (s.take (i + 1)) = (((L.new d).feed (s.take i)).see.take1 s[i]).look := by
      rw [L.feed_take _ _ hlt]; unfold L.step; rw [if_neg (by rintro (h | h); exact h hv; rw [oe] at h; cases h)]
    have hlook := chk_look (m := ((L.new d).feed (s.take i)).see.take1 s[i]) (t := s.take (i + 1)) (d := d)
      (by show ((L.new d).feed (s.take i)).j.feed [s[i]] = _; rw [oj, ht, Tg.Json.feed_append]; rfl)
      (by show ((L.new d).feed (s.take i)).s.feed [s[i]] = _; rw [os, ht, Tg.Js.M.feed_append]; rfl) (by simp; omega)
    have hinv := (L.Inv.new d).feed (s.take (i + 1)) (by simp; omega)
    have hsp : s = s.take (i + 1) ++ s.drop (i + 1) := (List.take_append_drop _ _).symm
    have hv0 : (((L.new d).feed (s.take i)).see.take1 s[i]).verdict = 0 := hv
    unfold refGo
    by_cases hsk : skipB s (i + 1) = true
    · rw [if_pos hsk]
      unfold skipB at hsk
      simp only [Bool.and_eq_true, decide_eq_true_eq] at hsk
      obtain ⟨⟨k1, k2⟩, k3⟩ := hsk
      have e1 : s[i] = 32 := by
        rw [show i + 1 - 1 = i by omega, List.getElem?_eq_getElem hlt] at k2; injection k2
      have hi1 : i - 1 < s.length := by omega
      have e2 : s[i - 1] = 32 := by
        rw [show i + 1 - 2 = i - 1 by omega, List.getElem?_eq_getElem hi1] at k3; injection k3
      have e3 : s.take i = s.take (i - 1) ++ [32] := by
        have := List.take_succ_eq_append_getElem hi1
        rw [show i - 1 + 1 = i by omega, e2] at this; exact this
      have hn : chk (s.take (i + 1)) d = none := by
        have h0 := hc (by omega)
        rw [ht, e1, e3]
        rw [e3] at h0
        exact chk_blank (by simp; omega) h0
      rw [hn] at hlook
      exact ih (i + 1) (by omega) (by rw [hstep, hlook]; exact hv0) (fun _ => hn)
    · rw [if_neg hsk]
      cases hx : chk (s.take (i + 1)) d with
      | none =>
        rw [hx] at hlook
        exact ih (i + 1) (by omega) (by rw [hstep, hlook]; exact hv0) (fun _ => hx)
      | some x =>
        obtain ⟨v, r⟩ := x
        rw [hx] at hlook
        have hvv : v ≠ 0 := by
          unfold chk at hx
          split at hx
          · cases hx; decide
          split at hx
          · cases hx; decide
          split at hx
          · cases hx; decide
          · cases hx
        dsimp only at hlook ⊢
        have hf : (L.new d).feed s = ((L.new d).feed (s.take (i + 1))).feed (s.drop (i + 1)) := by rw [← L.feed_append, List.take_append_drop]
        have hne : ((L.new d).feed (s.take (i + 1))).verdict ≠ 0 := by rw [hstep, hlook]; exact hvv
        obtain ⟨q1, q2, q3⟩ := L.stuck (s.drop (i + 1)) _ hne
        rw [hf, q1, q2, q3]
        have hat : ((L.new d).feed (s.take (i + 1))).at_ = ((L.new d).feed (s.take (i + 1))).seen := by rw [hstep, hlook]; rfl
        rw [hat, hinv.seen, hstep, hlook]
        refine ⟨rfl, hvv, rfl, ?_⟩
        simp; omega
/-- THE LAW, ahead of the end -/
theorem feed_law (s : List UInt8) (d : Nat) (hs : s.length ≤ 900000) : refW s d false = (((L.new d).feed s).verdict, ((L.new d).feed s).reason, if ((L.new d).feed s).at_ < 0 then 0 else ((L.new d).feed s).at_) := by
  have := go_law s d hs s.length 0 (by omega) rfl (fun h => by omega)
  unfold refW
  rw [show 0 + 1 = 1 by rfl] at this
  cases hg : refGo s d s.length 1 with
  | none =>
    rw [hg] at this
    obtain ⟨h1, h2⟩ := L.feed_nothing s (L.new d) this
    dsimp only at this ⊢
    rw [if_pos rfl, this, h1, h2]; rfl
  | some x =>
    obtain ⟨v, r, n⟩ := x
    rw [hg] at this
    obtain ⟨a, b, c, e⟩ := this
    dsimp only
    rw [a, c, e, if_neg (by omega)]
/-- THE LAW, at the end -/
theorem fin_law (s : List UInt8) (d : Nat) (hs : s.length ≤ 900000) : refW s d true = (((L.new d).feed s).fin.verdict, ((L.new d).feed s).fin.reason, if ((L.new d).feed s).fin.at_ < 0 then 0 else ((L.new d).feed s).fin.at_) := by
  have := go_law s d hs s.length 0 (by omega) rfl (fun h => by omega)
  unfold refW
  rw [show 0 + 1 = 1 by rfl] at this
  have hinv := (L.Inv.new d).feed s (by omega)
  cases hg : refGo s d s.length 1 with
  | none =>
    rw [hg] at this
    dsimp only at this ⊢
    obtain ⟨oj, os, oe⟩ := L.feed_open s (L.new d) rfl this
    obtain ⟨b1, b2, b3⟩ := read_bad s d (by omega)
    have hse := hinv.seen
    rw [Nat.zero_add] at hse
    rw [if_neg (show ¬ (true = false) by simp), L.fin_open this, oj, os]
    have hbg : ((L.new d).j.feed s).begun = decide (Tg.Json.skip s < s.length) := by
      show ((Tg.Json.M.start d).feed s).begun = _
      rw [Tg.Json.begun_feed]; rfl
    rw [hbg, whole_tell]
    have hjj : (L.new d).j.feed s = (Tg.Json.M.start d).feed s := rfl
    have hss : (L.new d).s.feed s = (Tg.Js.new d).feed s := rfl
    rw [hjj, hss]
    have pk : ∀ (m' : L) (v : Int) (r : List UInt8), m'.seen = s.length → (v, r, (s.length : Int)) = ((m'.settle v r).verdict, (m'.settle v r).reason, if (m'.settle v r).at_ < 0 then 0 else (m'.settle v r).at_) := fun m' v r h => by
      show _ = (v, r, if m'.seen < 0 then 0 else m'.seen)
      rw [h, if_neg (by omega)]
    by_cases c1 : Tg.Json.skip s < s.length
    · rw [if_neg (Decidable.not_not.2 c1), if_neg (show ¬ (decide (Tg.Json.skip s < s.length) = false) by rw [decide_eq_true c1]; simp)]
      by_cases c2 : ((Tg.Json.M.start d).feed s).tell ≠ 0
      · rw [if_pos c2, if_pos c2]; exact pk _ _ _ hse
      rw [if_neg c2, if_neg c2]
      have h0 : ((Tg.Json.M.start d).feed s).tell = 0 := by omega
      by_cases c3 : ((Tg.Js.new d).feed s).tell = 2
      · have hb : ((Tg.Js.new d).feed s).bad = false := by
          cases hx : ((Tg.Js.new d).feed s).bad with
          | false => rfl
          | true => rw [Tg.Js.M.tell_bad.2 hx] at c3; cases c3
        rw [if_pos c3, if_pos (by rw [b3 hb, c3])]; exact pk _ _ _ hse
      · have h2 : ¬ (Tg.Rd.read s d).state = 2 := by
          intro hx
          cases hb : ((Tg.Js.new d).feed s).bad with
          | false => exact c3 ((b3 hb).symm.trans hx)
          | true =>
            have := b1.2 hb
            unfold Tg.Rd.R.state at hx
            rw [if_pos this] at hx; cases hx
        rw [if_neg c3, if_neg h2]; exact pk _ _ _ hse
    · rw [if_pos c1, if_pos (show decide (Tg.Json.skip s < s.length) = false from decide_eq_false c1)]; exact pk _ _ _ hse
  | some x =>
    obtain ⟨v, r, n⟩ := x
    rw [hg] at this
    obtain ⟨a, b, c, e⟩ := this
    obtain ⟨q1, q2, q3⟩ := L.fin_stuck ((L.new d).feed s) (by rw [a]; exact b)
    dsimp only
    rw [q1, q2, q3, a, c, e, if_neg (by omega)]
end Tg.Lx
/-
  The machine of layer 27 (json): its fields, and its methods that leave its stack as it is.
-/
set_option linter.unusedSimpArgs false
set_option linter.unusedVariables false
set_option maxRecDepth 100000
namespace Go.Proofs.YtgnefbngkhjfcaaGreatDoor.Jn
open Go.Lg Tg.Json

/-- the machine's cells -/
def mc (m : M) (v : Value) : List Value := [.int .i64 (m.depth : Nat), v, .int .i64 (m.pos : Nat), .bool m.key, str m.rest, .int .i64 (m.hex : Nat), .bool m.begun, .int .i64 (m.state : Nat), .int .i64 m.place, .int .i64 (m.seen : Nat)]
def mb (m : M) (v : Value) : LB := ⟨mc m v, 65, true⟩
section
variable {H : LH} {b : UInt8} {m : M} {v : Value} {p : Nat}
@[simp] theorem mb_len : (mb m v).cells.length = 10 := by simp only [mb, mc]; simp only [List.length_cons, List.length_nil]
@[simp] theorem mb_rw : (mb m v).rw = true := by simp only [mb]
theorem mb_elem : (mb m v).elem = 65 := rfl
@[simp] theorem ld_depth : (mb m v).cells[0]? = some (.int .i64 (m.depth : Nat)) := rfl
@[simp] theorem lg_depth {hl : 0 < (mb m v).cells.length} : (mb m v).cells[0]'hl = (.int .i64 (m.depth : Nat)) := rfl
@[simp] theorem st_depth {x : Nat} : (⟨(mb m v).cells.set 0 (.int .i64 (x : Nat)), (mb m v).elem, true⟩ : LB) = mb { m with depth := x } v := rfl
@[simp] theorem ld_pos : (mb m v).cells[2]? = some (.int .i64 (m.pos : Nat)) := rfl
@[simp] theorem lg_pos {hl : 2 < (mb m v).cells.length} : (mb m v).cells[2]'hl = (.int .i64 (m.pos : Nat)) := rfl
@[simp] theorem st_pos {x : Nat} : (⟨(mb m v).cells.set 2 (.int .i64 (x : Nat)), (mb m v).elem, true⟩ : LB) = mb { m with pos := x } v := rfl
@[simp] theorem st_pos0 : (⟨(mb m v).cells.set 2 (.int .i64 0), (mb m v).elem, true⟩ : LB) = mb { m with pos := 0 } v := rfl
@[simp] theorem st_pos1 : (⟨(mb m v).cells.set 2 (.int .i64 1), (mb m v).elem, true⟩ : LB) = mb { m with pos := 1 } v := rfl
@[simp] theorem st_pos2 : (⟨(mb m v).cells.set 2 (.int .i64 2), (mb m v).elem, true⟩ : LB) = mb { m with pos := 2 } v := rfl
@[simp] theorem st_pos3 : (⟨(mb m v).cells.set 2 (.int .i64 3), (mb m v).elem, true⟩ : LB) = mb { m with pos := 3 } v := rfl
@[simp] theorem st_pos4 : (⟨(mb m v).cells.set 2 (.int .i64 4), (mb m v).elem, true⟩ : LB) = mb { m with pos := 4 } v := rfl
@[simp] theorem st_pos5 : (⟨(mb m v).cells.set 2 (.int .i64 5), (mb m v).elem, true⟩ : LB) = mb { m with pos := 5 } v := rfl
@[simp] theorem st_pos6 : (⟨(mb m v).cells.set 2 (.int .i64 6), (mb m v).elem, true⟩ : LB) = mb { m with pos := 6 } v := rfl
@[simp] theorem st_pos7 : (⟨(mb m v).cells.set 2 (.int .i64 7), (mb m v).elem, true⟩ : LB) = mb { m with pos := 7 } v := rfl
@[simp] theorem st_pos8 : (⟨(mb m v).cells.set 2 (.int .i64 8), (mb m v).elem, true⟩ : LB) = mb { m with pos := 8 } v := rfl
@[simp] theorem st_pos9 : (⟨(mb m v).cells.set 2 (.int .i64 9), (mb m v).elem, true⟩ : LB) = mb { m with pos := 9 } v := rfl
@[simp] theorem st_pos10 : (⟨(mb m v).cells.set 2 (.int .i64 10), (mb m v).elem, true⟩ : LB) = mb { m with pos := 10 } v := rfl
@[simp] theorem st_pos11 : (⟨(mb m v).cells.set 2 (.int .i64 11), (mb m v).elem, true⟩ : LB) = mb { m with pos := 11 } v := rfl
@[simp] theorem st_pos12 : (⟨(mb m v).cells.set 2 (.int .i64 12), (mb m v).elem, true⟩ : LB) = mb { m with pos := 12 } v := rfl
@[simp] theorem st_pos13 : (⟨(mb m v).cells.set 2 (.int .i64 13), (mb m v).elem, true⟩ : LB) = mb { m with pos := 13 } v := rfl
@[simp] theorem st_pos14 : (⟨(mb m v).cells.set 2 (.int .i64 14), (mb m v).elem, true⟩ : LB) = mb { m with pos := 14 } v := rfl
@[simp] theorem st_pos15 : (⟨(mb m v).cells.set 2 (.int .i64 15), (mb m v).elem, true⟩ : LB) = mb { m with pos := 15 } v := rfl
@[simp] theorem st_pos16 : (⟨(mb m v).cells.set 2 (.int .i64 16), (mb m v).elem, true⟩ : LB) = mb { m with pos := 16 } v := rfl
@[simp] theorem st_pos17 : (⟨(mb m v).cells.set 2 (.int .i64 17), (mb m v).elem, true⟩ : LB) = mb { m with pos := 17 } v := rfl
@[simp] theorem ld_key : (mb m v).cells[3]? = some (.bool m.key) := rfl
@[simp] theorem lg_key {hl : 3 < (mb m v).cells.length} : (mb m v).cells[3]'hl = (.bool m.key) := rfl
@[simp] theorem st_key {x : Bool} : (⟨(mb m v).cells.set 3 (.bool x), (mb m v).elem, true⟩ : LB) = mb { m with key := x } v := rfl
@[simp] theorem ld_rest : (mb m v).cells[4]? = some (str m.rest) := rfl
@[simp] theorem lg_rest {hl : 4 < (mb m v).cells.length} : (mb m v).cells[4]'hl = (str m.rest) := rfl
@[simp] theorem st_rest {x : List UInt8} : (⟨(mb m v).cells.set 4 (str x), (mb m v).elem, true⟩ : LB) = mb { m with rest := x } v := rfl
@[simp] theorem ld_hex : (mb m v).cells[5]? = some (.int .i64 (m.hex : Nat)) := rfl
@[simp] theorem lg_hex {hl : 5 < (mb m v).cells.length} : (mb m v).cells[5]'hl = (.int .i64 (m.hex : Nat)) := rfl
@[simp] theorem st_hex {x : Nat} : (⟨(mb m v).cells.set 5 (.int .i64 (x : Nat)), (mb m v).elem, true⟩ : LB) = mb { m with hex := x } v := rfl
@[simp] theorem st_hex4 : (⟨(mb m v).cells.set 5 (.int .i64 4), (mb m v).elem, true⟩ : LB) = mb { m with hex := 4 } v := rfl
@[simp] theorem ld_begun : (mb m v).cells[6]? = some (.bool m.begun) := rfl
@[simp] theorem lg_begun {hl : 6 < (mb m v).cells.length} : (mb m v).cells[6]'hl = (.bool m.begun) := rfl
@[simp] theorem st_begun {x : Bool} : (⟨(mb m v).cells.set 6 (.bool x), (mb m v).elem, true⟩ : LB) = mb { m with begun := x } v := rfl
@[simp] theorem ld_state : (mb m v).cells[7]? = some (.int .i64 (m.state : Nat)) := rfl
@[simp] theorem lg_state {hl : 7 < (mb m v).cells.length} : (mb m v).cells[7]'hl = (.int .i64 (m.state : Nat)) := rfl
@[simp] theorem st_state {x : Nat} : (⟨(mb m v).cells.set 7 (.int .i64 (x : Nat)), (mb m v).elem, true⟩ : LB) = mb { m with state := x } v := rfl
@[simp] theorem st_state0 : (⟨(mb m v).cells.set 7 (.int .i64 0), (mb m v).elem, true⟩ : LB) = mb { m with state := 0 } v := rfl
@[simp] theorem st_state3 : (⟨(mb m v).cells.set 7 (.int .i64 3), (mb m v).elem, true⟩ : LB) = mb { m with state := 3 } v := rfl
@[simp] theorem ld_place : (mb m v).cells[8]? = some (.int .i64 m.place) := rfl
@[simp] theorem lg_place {hl : 8 < (mb m v).cells.length} : (mb m v).cells[8]'hl = (.int .i64 m.place) := rfl
@[simp] theorem st_place {x : Int} : (⟨(mb m v).cells.set 8 (.int .i64 x), (mb m v).elem, true⟩ : LB) = mb { m with place := x } v := rfl
@[simp] theorem ld_seen : (mb m v).cells[9]? = some (.int .i64 (m.seen : Nat)) := rfl
@[simp] theorem lg_seen {hl : 9 < (mb m v).cells.length} : (mb m v).cells[9]'hl = (.int .i64 (m.seen : Nat)) := rfl
@[simp] theorem st_seen {x : Nat} : (⟨(mb m v).cells.set 9 (.int .i64 (x : Nat)), (mb m v).elem, true⟩ : LB) = mb { m with seen := x } v := rfl
@[simp] theorem ld_stack : (mb m v).cells[1]? = some v := rfl
@[simp] theorem lg_stack {hl : 1 < (mb m v).cells.length} : (mb m v).cells[1]'hl = v := rfl
@[simp] theorem st_stack {x : Value} : (⟨(mb m v).cells.set 1 x, (mb m v).elem, true⟩ : LB) = mb m x := rfl
theorem dig_eq : Tg.Json.digit b = Tg.Js.digit b := by
  unfold Tg.Json.digit Tg.Js.digit
  simp only [UInt8.le_iff_toNat_le]
  congr 1 <;> · congr 1; apply propext; simp; omega
theorem digit_j : LC Tryz.prog EJ 96 [.int .u8 b.toNat] H = some (.bool (Tg.Json.digit b), H) := by rw [dig_eq]; exact digit_l
theorem digit_ji : LC Tryz.prog EJ 111 [.int .u8 b.toNat] H = some (.bool (Tg.Json.digit b), H) := by rw [dig_eq]; exact digit_in
theorem white_j : LC Tryz.prog EJ 45 [.int .u8 b.toNat] H = some (.bool (Tg.Json.white b), H) := by
  refine LC_pure rfl Tryz.func45 rfl (Nat.le_of_ble_eq_true rfl) (by decide) (by kernel_rfl) rfl ?_
  simp +contextual [Tg.Json.white, -Int.not_le, -Int.not_lt]
  intro h1 h2 h3; rw [Bool.eq_iff_iff]; simp [h1, h2, h3]
theorem ended_j {q : Nat} : LC Tryz.prog EJ 77 [.int .i64 (q : Nat)] H = some (.bool (Tg.Json.ended q), H) := by
  refine LC_pure rfl Tryz.func77 rfl (Nat.le_of_ble_eq_true rfl) (by decide) (by kernel_rfl) rfl ?_
  have e : ∀ k : Nat, ((q : Int) = (k : Int)) = (q = k) := fun k => propext (by omega)
  have e1 := e 11
  have e2 := e 12
  have e3 := e 14
  have e4 := e 17
  simp at e1 e2 e3 e4
  simp +contextual [Tg.Json.ended, e1, e2, e3, e4, -Int.not_le, -Int.not_lt]
  intro h1 h2 h3; rw [Bool.eq_iff_iff]; simp [h1, h2, h3]
/-- a sign's number -/
def hexv (b : UInt8) : Int := if Tg.Json.digit b then b.toNat - 48 else if (97 ≤ b && b ≤ 102) then b.toNat - 97 + 10 else if (65 ≤ b && b ≤ 70) then b.toNat - 65 + 10 else 0
theorem le97 : ((97 : Int) ≤ b.toNat) = (97 ≤ b) := by rw [UInt8.le_iff_toNat_le]; apply propext; simp; omega
theorem le102 : ((b.toNat : Int) ≤ 102) = (b ≤ 102) := by rw [UInt8.le_iff_toNat_le]; apply propext; simp; omega
theorem le65 : ((65 : Int) ≤ b.toNat) = (65 ≤ b) := by rw [UInt8.le_iff_toNat_le]; apply propext; simp; omega
theorem le70 : ((b.toNat : Int) ≤ 70) = (b ≤ 70) := by rw [UInt8.le_iff_toNat_le]; apply propext; simp; omega
theorem lt32 : ((b.toNat : Int) < 32) = (b < 32) := by rw [UInt8.lt_iff_toNat_lt]; apply propext; simp; omega
theorem fail_l {st : Nat} (h : H.get p = some (mb m v)) (hp : p < H.n) : LC Tryz.prog EJ 70 [ptr p 0, .int .i64 (st : Nat)] H = some (.tuple #[], H.set p (mb (m.fail st) v)) := by
  refine own rfl Tryz.func70 rfl (Nat.le_of_ble_eq_true rfl) (by decide) (by kernel_rfl) h hp ?_
  simp (config := { maxSteps := 2000000 }) +contextual [h, hp, set_self h, M.fail, -Int.not_le, -Int.not_lt]
theorem fail0_l (h : H.get p = some (mb m v)) (hp : p < H.n) : LC Tryz.prog EJ 70 [ptr p 0, .int .i64 0] H = some (.tuple #[], H.set p (mb (m.fail 0) v)) := fail_l (st := 0) h hp
theorem fail3_l (h : H.get p = some (mb m v)) (hp : p < H.n) : LC Tryz.prog EJ 70 [ptr p 0, .int .i64 3] H = some (.tuple #[], H.set p (mb (m.fail 3) v)) := fail_l (st := 3) h hp
end
end Go.Proofs.YtgnefbngkhjfcaaGreatDoor.Jn
/-
  The machine of layer 27 (json): where it lies.
-/
set_option linter.unusedSimpArgs false
set_option linter.unusedVariables false
namespace Go.Proofs.YtgnefbngkhjfcaaGreatDoor.Jn
open Go.Lg Tg.Json

/-- the machine m lies in the block p -/
structure At (p : Nat) (H : LH) (m : M) (v : Value) : Prop where
  get : H.get p = some (mb m v)
  lt : p < H.n
  row : Row 0 H 5 v (m.stack.map bv)
  dom : ∀ l, H.n ≤ l → H.get l = none
  len : (m.stack.length : Int) ≤ (m.depth : Int)
  depth : (m.depth : Int) ≤ 200
structure Post (p : Nat) (H : LH) (m : M) (H' : LH) : Prop where
  at_ : ∃ v, At p H' m v
  fr : ∀ m0 v0 v, At p H m0 v0 → At p H' m v → Kp p v0 H v H'
section
variable {p : Nat} {H H' H1 : LH} {m m' m1 : M} {v v' : Value} {b : UInt8}
theorem mb_inj (h : mb m v = mb m' v') : v = v' := by
  have := congrArg LB.cells h
  simp only [mb, mc, List.cons.injEq] at this
  exact this.2.1
theorem At.same (h : At p H m v) (k : At p H m' v') : v = v' := by
  have h1 := h.get
  rw [k.get] at h1
  injection h1 with h1
  exact (mb_inj h1).symm
theorem At.off (h : At p H m v) : offRow v p := h.row.off_of_elem h.get (by show (65 : Nat) ≠ 5; decide)
theorem Post.trans (h : Post p H m1 H1) (k : Post p H1 m' H') : Post p H m' H' := by
  obtain ⟨v1, a1⟩ := h.at_
  exact ⟨k.at_, fun m0 v0 v a0 a => (h.fr m0 v0 v1 a0 a1).trans (k.fr _ v1 v a1 a)⟩
theorem At.mk_post (h : At p H m v) (k : At p H' m' v') (hk : Kp p v H v' H') : Post p H m' H' :=
  ⟨⟨v', k⟩, fun m0 v0 v2 a0 a => by rw [a0.same h, a.same k]; exact hk⟩
theorem At.post (h : At p H m v) : Post p H m H := h.mk_post h Kp.refl
/-- fields are written, the stack stays -/
theorem At.set (h : At p H m v) (hs : m'.stack = m.stack) (hd : m'.depth = m.depth) : At p (H.set p (mb m' v)) m' v := by
  refine ⟨get_set, h.lt, ?_, fun l hl => ?_, by rw [hs, hd]; exact h.len, by rw [hd]; exact h.depth⟩
  · rw [hs]
    exact h.row.keep (fun k hk hn => get_set_ne (fun e => hn (e ▸ h.off)))
  · rw [get_set_ne (fun e => by have := h.lt; have : H.n ≤ l := hl; omega)]; exact h.dom l hl
theorem At.setPost (h : At p H m v) (hs : m'.stack = m.stack) (hd : m'.depth = m.depth) : Post p H m' (H.set p (mb m' v)) := h.mk_post (h.set hs hd) (Kp.set (fun _ h => h))
theorem At.row_lt (h : At p H m v) {k : Nat} (hn : ¬ offRow v k) : k < H.n := by
  rcases h.row with ⟨rfl, _⟩ | ⟨k', c, rest, rfl, g1, g2, g3⟩
  · exact absurd off_nil hn
  · have : k = k' := by
      refine Classical.byContradiction (fun hne => hn (fun n c' hx => ?_))
      injection hx with hx
      injection hx with hx
      injection hx with hx
      omega
    subst this
    rcases Nat.lt_or_ge k H.n with h1 | h'
    · exact h1
    · rw [h.dom k h'] at g2; cases g2
theorem At.row_off (h : At p H m v) {k : Nat} {B : LB} (hk : H.get k = some B) (hne : B.elem ≠ 5) : offRow v k := h.row.off_of_elem hk hne
/-- a method that hands something back -/
theorem meth_exv {u : Value} {f : FuncId} {fn : Func} {c : Code} {args : List Value} (he : EJ f = none) (hf : Tryz.prog.funcs[f]? = some fn) (hb : fn.body = some c) (hN : args.length ≤ fn.ntmps) (hname : fn.name ≠ "runtime.NumGoroutine") (hcd : codeOk EJ.loud c = true)
    (h : At p H m v) (hr : Runs Tryz.prog EJ fn [.code c] (enter args) H (fun r => r.1 = u ∧ Post p H m' r.2)) : ∃ H', LC Tryz.prog EJ f args H = some (u, H') ∧ Post p H m' H' := by
  obtain ⟨⟨u', H'⟩, hl, hu, hp⟩ := LC_runs he hf hb hN hname hcd hr
  simp only at hu
  subst hu
  rcases trunc_or u' H H' with e | ⟨e, _, hle⟩
  · exact ⟨H', by rw [hl, e], hp⟩
  · refine ⟨H, by rw [hl, e], ?_⟩
    obtain ⟨⟨v', ha⟩, _⟩ := hp
    have hg := ha.get
    rw [hle.2 p h.lt, h.get] at hg
    injection hg with hg
    have hv := mb_inj hg
    subst hv
    refine h.mk_post ⟨by rw [h.get, hg], h.lt, ?_, h.dom, ha.len, ha.depth⟩ Kp.refl
    exact ha.row.keep (fun k hk hn => (hle.2 k (h.row_lt hn)).symm)
theorem meth_ex {f : FuncId} {fn : Func} {c : Code} {args : List Value} (he : EJ f = none) (hf : Tryz.prog.funcs[f]? = some fn) (hb : fn.body = some c) (hN : args.length ≤ fn.ntmps) (hname : fn.name ≠ "runtime.NumGoroutine") (hcd : codeOk EJ.loud c = true)
    (h : At p H m v) (hr : Runs Tryz.prog EJ fn [.code c] (enter args) H (fun r => r.1 = .tuple #[] ∧ Post p H m' r.2)) : ∃ H', LC Tryz.prog EJ f args H = some (.tuple #[], H') ∧ Post p H m' H' := meth_exv he hf hb hN hname hcd h hr
theorem At.keep (h : At p H m v) (hn : H.n ≤ H'.n) (hk : ∀ k, k < H.n → (k = p ∨ ¬ offRow v k) → H'.get k = H.get k) (hd : ∀ l, H'.n ≤ l → H'.get l = none) : At p H' m v := by
  refine ⟨by rw [hk p h.lt (.inl rfl)]; exact h.get, Nat.lt_of_lt_of_le h.lt hn, ?_, hd, h.len, h.depth⟩
  exact h.row.keep (fun k hk1 hn1 => hk k (h.row_lt hn1) (.inr hn1))
theorem At.new (h : At p H m v) {B : LB} : At p (H.new B) m v :=
  h.keep (Nat.le_succ _) (fun k hk _ => get_new_ne (by omega)) (fun l hl => by have hl' : H.n + 1 ≤ l := hl; rw [get_new_ne (by omega)]; exact h.dom l (by omega))
theorem At.newPost {B : LB} (h : At p H m v) (s1 : m1.stack = m.stack) (d1 : m1.depth = m.depth) (g1 : m'.stack = m.stack) (g2 : m'.depth = m.depth) : Post p H m' (((H.set p (mb m1 v)).new B).set p (mb m' v)) :=
  h.mk_post (((h.set s1 d1).new (B := B)).set (m' := m') (g1.trans s1.symm) (g2.trans d1.symm)) (((Kp.set (fun _ h => h)).trans Kp.new).trans (Kp.set (fun _ h => h)))
theorem At.newPost' {B : LB} (h : At p H m v) (g1 : m'.stack = m.stack) (g2 : m'.depth = m.depth) : Post p H m' ((H.new B).set p (mb m' v)) :=
  h.mk_post ((h.new (B := B)).set (m' := m') g1 g2) (Kp.new.trans (Kp.set (fun _ h => h)))
/-- one byte more on the stack -/
theorem At.pushed (h : At p H m v) (hc : (m.stack.length : Int) < (m.depth : Int)) : ∃ v' H', lapp Tryz.prog 63 v (some (1, [.int .u8 b.toNat])) (H.new ⟨[.int .u8 b.toNat], 5, true⟩) = some (v', H') ∧ cellB v' = true ∧ H'.get p = some (mb m v) ∧ p < H'.n ∧
    ∀ m'' : M, m''.stack = m.stack ++ [b] → m''.depth = m.depth → Post p H m'' (H'.set p (mb m'' v')) := by
  have h1 := h.new (B := ⟨[.int .u8 b.toNat], 5, true⟩)
  have hdep := h.depth
  obtain ⟨v', H', e1, e2, e3, e4, e5, e6, e7, e8⟩ := Row.push (P := Tryz.prog) (x := .int .u8 b.toNat) h1.row Tryz.underlying63 lesz5 (by simp) (by simp [maxElems]; omega) (Nat.zero_le _) h1.dom
  have hg' : H'.get p = some (mb m v) := by rw [e4 p h1.lt h1.off]; exact h1.get
  have hp' : p < H'.n := Nat.lt_of_lt_of_le h1.lt e3
  refine ⟨v', H', e1, e2.cell, hg', hp', fun m'' g1 g2 => ?_⟩
  have hoff : ∀ k, k < H.n + 1 → offRow v k → offRow v' k := fun k hk ho => e5 k hk ho
  have ha : At p (H'.set p (mb m'' v')) m'' v' := by
    refine ⟨get_set, hp', ?_, fun l hl => ?_, by rw [g1, g2]; simp; omega, by rw [g2]; exact h.depth⟩
    · have := e2.keep (H' := H'.set p (mb m'' v')) (fun k hk hn => get_set_ne (fun e => hn (e ▸ e5 p h1.lt h1.off)))
      rw [g1]
      simpa [bv] using this
    · rw [get_set_ne (fun e => by have : H'.n ≤ l := hl; omega)]; exact e6 l hl
  refine h.mk_post ha ⟨by have : H.n + 1 ≤ H'.n := e3; show H.n ≤ H'.n; omega, fun k hk hkp ho => ?_, fun k hk _ ho => hoff k (by omega) ho, e7, e8⟩
  rw [get_set_ne hkp, e4 k (by show k < H.n + 1; omega) ho, get_new_ne (by omega)]
/-- the last byte of the stack -/
theorem At.last (h : At p H m v) {xs : List UInt8} {t : UInt8} (hs : m.stack = xs ++ [t]) : IntKind.i64.wrap ((m.stack.length : Int) - 1) = xs.length ∧
    (∀ H', ∃ q, lixa Tryz.prog 63 v (.int .i64 xs.length) H' = some (q, H') ∧ lld Tryz.prog 5 q H = some (.int .u8 t.toNat)) ∧
    ∃ v', lpart Tryz.prog 63 v none (some (.int .i64 xs.length)) = some v' ∧ cellB v' = true ∧ ∀ m'' : M, m''.stack = xs → m''.depth = m.depth → ∀ m2 : M, Post p H m'' (H.set p (mb m'' v')) := by
  have hlen := h.len
  have hdep := h.depth
  have hx : (m.stack.map bv).length = xs.length + 1 := by simp [hs]
  have hl2 : m.stack.length = xs.length + 1 := by simp [hs]
  obtain ⟨v', e1, e2, e3⟩ := Row.take (P := Tryz.prog) (kd := .i64) (j := xs.length) h.row Tryz.underlying63 sz5 (by omega) (by omega)
  have hgd : (m.stack.map bv).getD (xs.length : Int).toNat Value.nilFunc = .int .u8 t.toNat := by simp [hs, bv]
  refine ⟨by rw [wrap64_in (by omega) (by omega)]; omega, fun H' => ?_, v', e1, e2.cell, fun m'' g1 g2 _ => ?_⟩
  · obtain ⟨q, f1, f2⟩ := Row.at (P := Tryz.prog) (H' := H') (kd := .i64) (j := xs.length) (d := .nilFunc) h.row Tryz.underlying63 sz5 agg5 (by omega) (by omega)
    rw [hgd] at f2
    exact ⟨q, f1, f2⟩
  · have htk : (m.stack.map bv).take (xs.length : Int).toNat = xs.map bv := by simp [hs]
    rw [htk] at e2
    refine h.mk_post (v' := v') ⟨get_set, h.lt, ?_, fun l hl => ?_, by rw [g1, g2]; omega, by rw [g2]; exact hdep⟩ (Kp.set e3)
    · rw [g1]
      exact e2.keep (fun k hk hn => get_set_ne (fun e => hn (e ▸ e3 p h.off)))
    · rw [get_set_ne (fun e => by have hh : H.n ≤ l := hl; have := h.lt; omega)]; exact h.dom l hl
end
end Go.Proofs.YtgnefbngkhjfcaaGreatDoor.Jn
/-
  The machine of layer 27 (json): its stack.
-/
set_option linter.unusedSimpArgs false
set_option linter.unusedVariables false
set_option maxRecDepth 100000
namespace Go.Proofs.YtgnefbngkhjfcaaGreatDoor.Jn
open Go.Lg Tg.Json

section
variable {p : Nat} {H H' H1 : LH} {m m' m1 : M} {v v' : Value} {b : UInt8}
theorem push_ex {q : Nat} {k : Int} (h : At p H m v) (hk : ((q : Nat) : Int) = k) (hs : ∀ (m : M) (v : Value), (⟨(mb m v).cells.set 2 (.int .i64 k), (mb m v).elem, true⟩ : LB) = mb { m with pos := q } v) : ∃ H', LC Tryz.prog EJ 95 [ptr p 0, .int .u8 b.toNat, .int .i64 k] H = some (.tuple #[], H') ∧ Post p H (m.push b q) H' := by
  refine meth_ex rfl Tryz.func95 rfl (Nat.le_of_ble_eq_true rfl) (by decide) (by kernel_rfl) h ?_
  have hl := fun H' => h.row.len (H' := H') Tryz.underlying63
  have hg := h.get
  have hp := h.lt
  have hlen := h.len
  by_cases hc : m.stack.length = m.depth
  · have hc' : ((m.stack.length : Int) = (m.depth : Int)) = True := eq_true (by omega)
    simp +contextual [hg, hl, fail3_l hg h.lt, hc', hp]
    unfold M.push
    rw [if_pos hc]
    exact h.setPost rfl rfl
  · have hc' : ((m.stack.length : Int) = (m.depth : Int)) = False := eq_false (by omega)
    obtain ⟨v', H', e1, hcl, hg', hp', key⟩ := h.pushed (b := b) (by omega)
    simp +contextual [hg, hl, hc', e1, hg', hcl, hp, hp', hs]
    unfold M.push
    rw [if_neg hc]
    exact key _ rfl rfl
theorem top_l (h : At p H m v) : LC Tryz.prog EJ 97 [ptr p 0] H = some (.int .u8 m.top.toNat, H) := by
  refine LC_pure rfl Tryz.func97 rfl (Nat.le_of_ble_eq_true rfl) (by decide) (by kernel_rfl) rfl ?_
  have hl := fun H' => h.row.len (H' := H') Tryz.underlying63
  have hg := h.get
  have hp := h.lt
  rcases List.eq_nil_or_concat m.stack with hs | ⟨xs, t, hs⟩
  · have ht : m.top = 0 := by simp [M.top, hs]
    simp (config := { maxSteps := 4000000 }) [hg, hp, hl, hs, ht]
  · rw [List.concat_eq_append] at hs
    obtain ⟨hw0, hat, _⟩ := h.last hs
    obtain ⟨q, f1, f2⟩ := hat H
    have ht : m.top = t := by simp [M.top, hs]
    have hne : (m.stack = []) = False := eq_false (by simp [hs])
    have hn0 : ((m.stack.length : Int) = 0) = False := eq_false (by simp [hs]; omega)
    simp (config := { maxSteps := 4000000 }) [hg, hp, hl, hn0, hne, hw0, f1, f2, ht]
theorem pop_ex (h : At p H m v) (hne : m.stack ≠ []) : ∃ H', LC Tryz.prog EJ 67 [ptr p 0] H = some (.tuple #[], H') ∧ Post p H m.pop H' := by
  refine meth_ex rfl Tryz.func67 rfl (Nat.le_of_ble_eq_true rfl) (by decide) (by kernel_rfl) h ?_
  have hl := fun H' => h.row.len (H' := H') Tryz.underlying63
  have hg := h.get
  have hp := h.lt
  rcases List.eq_nil_or_concat m.stack with hs | ⟨xs, t, hs⟩
  · exact absurd hs hne
  · rw [List.concat_eq_append] at hs
    obtain ⟨hw0, _, v', e1, hcv, key⟩ := h.last hs
    simp (config := { maxSteps := 4000000 }) [hg, hp, hl, hw0, e1, hcv]
    exact key m.pop (by simp [M.pop, hs]) rfl m
end
end Go.Proofs.YtgnefbngkhjfcaaGreatDoor.Jn
/-
  The machine of layer 27 (json): a byte, by where it stands.
-/
set_option linter.unusedSimpArgs false
set_option linter.unusedVariables false
set_option maxRecDepth 100000
namespace Go.Proofs.YtgnefbngkhjfcaaGreatDoor.Jn
open Go.Lg Tg.Json

section
variable {p : Nat} {H H' H1 : LH} {m m' m1 : M} {v v' : Value} {b : UInt8}
theorem inText_ex (h : At p H m v) : ∃ H', LC Tryz.prog EJ 72 [ptr p 0, .int .u8 b.toNat] H = some (.tuple #[], H') ∧ Post p H (m.inText b) H' := by
  refine meth_ex rfl Tryz.func72 rfl (Nat.le_of_ble_eq_true rfl) (by decide) (by kernel_rfl) h ?_
  have hg := h.get
  have hp := h.lt
  have en := fun m'' (g : m''.stack = m.stack) (d : m''.depth = m.depth) => h.setPost (m' := m'') g d
  unfold M.inText
  by_cases c1 : b = 34
  · have f1 := eq_true c1
    rw [if_pos c1]
    cases hk : m.key with
    | true => simp (config := { maxSteps := 4000000 }) [hg, hp, f1, hk]; exact en _ rfl rfl
    | false => simp (config := { maxSteps := 4000000 }) [hg, hp, f1, hk]; exact en _ rfl rfl
  · have f1 := eq_false c1
    rw [if_neg c1]
    by_cases c2 : b = 92
    · have f2 := eq_true c2
      rw [if_pos c2]
      simp (config := { maxSteps := 4000000 }) [hg, hp, f1, f2]; exact en _ rfl rfl
    · have f2 := eq_false c2
      rw [if_neg c2]
      by_cases c3 : b < 32
      · have f3 := eq_true c3
        rw [if_pos c3]
        simp (config := { maxSteps := 4000000 }) [hg, hp, f1, f2, lt32, f3, fail0_l hg hp]; exact en _ rfl rfl
      · have f3 := eq_false c3
        rw [if_neg c3]
        simp (config := { maxSteps := 4000000 }) [hg, hp, f1, f2, lt32, f3]; exact h.post
theorem esc_lit : ([34, 92, 47, 98, 102, 110, 114, 116] : List UInt8).contains b = esc b := by
  rw [Bool.eq_iff_iff]
  simp [esc, or_assoc]
theorem inSlash_ex (h : At p H m v) : ∃ H', LC Tryz.prog EJ 73 [ptr p 0, .int .u8 b.toNat] H = some (.tuple #[], H') ∧ Post p H (m.inSlash b) H' := by
  refine meth_ex rfl Tryz.func73 rfl (Nat.le_of_ble_eq_true rfl) (by decide) (by kernel_rfl) h ?_
  have hg := h.get
  have hp := h.lt
  have en := fun m'' (g : m''.stack = m.stack) (d : m''.depth = m.depth) => h.setPost (m' := m'') g d
  have hx : (0 ≤ Lib.indexByte [34, 92, 47, 98, 102, 110, 114, 116] b) = (esc b = true) := by
    rw [← esc_lit]
    apply propext
    rw [idx_mem]; simp
  unfold M.inSlash
  by_cases c1 : b = 117
  · have f1 := eq_true c1
    rw [if_pos c1]
    simp (config := { maxSteps := 4000000 }) [hg, hp, f1]; exact en _ rfl rfl
  · have f1 := eq_false c1
    rw [if_neg c1]
    cases c2 : esc b with
    | true =>
      rw [if_pos rfl]
      simp (config := { maxSteps := 4000000 }) [hg, hp, f1, hx, c2]; exact en _ rfl rfl
    | false =>
      rw [if_neg (by simp)]
      simp (config := { maxSteps := 4000000 }) [hg, hp, f1, hx, c2, fail0_l hg hp]; exact en _ rfl rfl
theorem hex_l : ∃ n : Int, LC Tryz.prog EJ 99 [.int .u8 b.toNat] H = some (.tuple #[.int .i64 n, .bool (Tg.Json.hex b)], H) := by
  have le9 : Tg.Json.hex b = (Tg.Json.digit b || ((97 ≤ b && b ≤ 102) || (65 ≤ b && b ≤ 70))) := by unfold Tg.Json.hex; rw [Bool.or_assoc]
  have key : ∀ (w : Value) (Q : Value × LH → Prop), True := fun _ _ => trivial
  have hd := digit_ji (H := H) (b := b)
  by_cases c0 : Tg.Json.digit b = true
  · refine ⟨IntKind.i64.wrap (IntKind.u8.wrap ((b.toNat : Int) - 48)), ?_⟩
    rw [le9, c0, Bool.true_or]
    refine LC_pure rfl Tryz.func99 rfl (Nat.le_of_ble_eq_true rfl) (by decide) (by kernel_rfl) (by simp [flatB, flat1B, atomB]) ?_
    simp (config := { maxSteps := 4000000 }) [hd, c0]
  rw [Bool.not_eq_true] at c0
  rw [le9, c0, Bool.false_or]
  by_cases c1 : 97 ≤ b
  · by_cases c2 : b ≤ 102
    · refine ⟨IntKind.i64.wrap (IntKind.i64.wrap (IntKind.u8.wrap ((b.toNat : Int) - 97)) + 10), ?_⟩
      have e : ((decide (97 ≤ b) && decide (b ≤ 102)) || (decide (65 ≤ b) && decide (b ≤ 70))) = true := by simp [c1, c2]
      rw [e]
      refine LC_pure rfl Tryz.func99 rfl (Nat.le_of_ble_eq_true rfl) (by decide) (by kernel_rfl) (by simp [flatB, flat1B, atomB]) ?_
      simp (config := { maxSteps := 4000000 }) [hd, c0, le97, le102, eq_true c1, eq_true c2]
    · have c4 : ¬ b ≤ 70 := fun h => c2 (by rw [UInt8.le_iff_toNat_le] at h ⊢; simp at h ⊢; omega)
      refine ⟨0, ?_⟩
      have e : ((decide (97 ≤ b) && decide (b ≤ 102)) || (decide (65 ≤ b) && decide (b ≤ 70))) = false := by simp [c2, c4]
      rw [e]
      refine LC_pure rfl Tryz.func99 rfl (Nat.le_of_ble_eq_true rfl) (by decide) (by kernel_rfl) (by simp [flatB, flat1B, atomB]) ?_
      by_cases c3 : 65 ≤ b
      · simp (config := { maxSteps := 4000000 }) [hd, c0, le97, le102, le65, le70, eq_true c1, eq_false c2, eq_true c3, eq_false c4]
      · simp (config := { maxSteps := 4000000 }) [hd, c0, le97, le102, le65, le70, eq_true c1, eq_false c2, eq_false c3, eq_false c4]
  · by_cases c3 : 65 ≤ b
    · by_cases c4 : b ≤ 70
      · refine ⟨IntKind.i64.wrap (IntKind.i64.wrap (IntKind.u8.wrap ((b.toNat : Int) - 65)) + 10), ?_⟩
        have e : ((decide (97 ≤ b) && decide (b ≤ 102)) || (decide (65 ≤ b) && decide (b ≤ 70))) = true := by simp [c3, c4]
        rw [e]
        refine LC_pure rfl Tryz.func99 rfl (Nat.le_of_ble_eq_true rfl) (by decide) (by kernel_rfl) (by simp [flatB, flat1B, atomB]) ?_
        simp (config := { maxSteps := 4000000 }) [hd, c0, le97, le102, le65, le70, eq_false c1, eq_true c3, eq_true c4]
      · refine ⟨0, ?_⟩
        have e : ((decide (97 ≤ b) && decide (b ≤ 102)) || (decide (65 ≤ b) && decide (b ≤ 70))) = false := by simp [c1, c4]
        rw [e]
        refine LC_pure rfl Tryz.func99 rfl (Nat.le_of_ble_eq_true rfl) (by decide) (by kernel_rfl) (by simp [flatB, flat1B, atomB]) ?_
        simp (config := { maxSteps := 4000000 }) [hd, c0, le97, le102, le65, le70, eq_false c1, eq_true c3, eq_false c4]
    · refine ⟨0, ?_⟩
      have e : ((decide (97 ≤ b) && decide (b ≤ 102)) || (decide (65 ≤ b) && decide (b ≤ 70))) = false := by simp [c1, c3]
      rw [e]
      refine LC_pure rfl Tryz.func99 rfl (Nat.le_of_ble_eq_true rfl) (by decide) (by kernel_rfl) (by simp [flatB, flat1B, atomB]) ?_
      simp (config := { maxSteps := 4000000 }) [hd, c0, le97, le102, le65, le70, eq_false c1, eq_false c3]
theorem inUnicode_ex (h : At p H m v) (h1 : 1 ≤ m.hex) (h4 : m.hex ≤ 4) : ∃ H', LC Tryz.prog EJ 74 [ptr p 0, .int .u8 b.toNat] H = some (.tuple #[], H') ∧ Post p H (m.inUnicode b) H' := by
  refine meth_ex rfl Tryz.func74 rfl (Nat.le_of_ble_eq_true rfl) (by decide) (by kernel_rfl) h ?_
  have hg := h.get
  have hp := h.lt
  have en := fun m'' (g : m''.stack = m.stack) (d : m''.depth = m.depth) => h.setPost (m' := m'') g d
  obtain ⟨n, hx⟩ := hex_l (H := H) (b := b)
  have hw : IntKind.i64.wrap ((m.hex : Int) - 1) = ((m.hex - 1 : Nat) : Int) := by rw [wrap64_in (by omega) (by omega)]; omega
  unfold M.inUnicode
  cases c1 : Tg.Json.hex b with
  | false =>
    rw [if_neg (by simp)]
    simp (config := { maxSteps := 4000000 }) [hg, hp, hx, c1, fail0_l hg hp]; exact en _ rfl rfl
  | true =>
    rw [if_pos rfl]
    by_cases c2 : m.hex - 1 = 0
    · have f2 : (((m.hex - 1 : Nat) : Int) = 0) = True := eq_true (by omega)
      rw [if_pos c2]
      simp (config := { maxSteps := 4000000 }) [hg, hp, hx, c1, hw, f2]
      exact ⟨fun _ => en { m with pos := 6, hex := m.hex - 1 } rfl rfl, fun hh => absurd c2 hh⟩
    · have f2 : (((m.hex - 1 : Nat) : Int) = 0) = False := eq_false (by omega)
      rw [if_neg c2]
      simp (config := { maxSteps := 4000000 }) [hg, hp, hx, c1, hw, f2]
      exact ⟨fun hh => absurd hh c2, fun _ => en { m with hex := m.hex - 1 } rfl rfl⟩
theorem inWord_ex (h : At p H m v) (hr : m.rest ≠ []) : ∃ H', LC Tryz.prog EJ 75 [ptr p 0, .int .u8 b.toNat] H = some (.tuple #[], H') ∧ Post p H (m.inWord b) H' := by
  refine meth_ex rfl Tryz.func75 rfl (Nat.le_of_ble_eq_true rfl) (by decide) (by kernel_rfl) h ?_
  have hg := h.get
  have hp := h.lt
  have en := fun m'' (g : m''.stack = m.stack) (d : m''.depth = m.depth) => h.setPost (m' := m'') g d
  obtain ⟨c, r, hcr⟩ : ∃ c r, m.rest = c :: r := by
    cases hm : m.rest with
    | nil => exact absurd hm hr
    | cons c r => exact ⟨c, r, rfl⟩
  have hat : at_ (c :: r) 0 = c := rfl
  have hpos : ((0 : Int) < (r.length : Int) + 1) = True := eq_true (by omega)
  have hpos2 : ((1 : Int) ≤ (r.length : Int) + 1) = True := eq_true (by omega)
  unfold M.inWord
  by_cases c1 : b = c
  · subst c1
    rw [if_pos (by rw [hcr]; rfl)]
    by_cases c2 : r = []
    · have f2 := eq_true c2
      rw [if_pos (by rw [hcr]; exact c2)]
      simp (config := { maxSteps := 4000000 }) [hg, hp, hcr, hat, hpos, hpos2, f2]
      exact en _ rfl rfl
    · have f2 := eq_false c2
      rw [if_neg (by rw [hcr]; exact c2)]
      simp (config := { maxSteps := 4000000 }) [hg, hp, hcr, hat, hpos, hpos2, f2]
      exact en _ rfl rfl
  · have f1 := eq_false c1
    rw [if_neg (by rw [hcr]; exact fun hx => c1 (by simpa using hx.symm))]
    simp (config := { maxSteps := 4000000 }) [hg, hp, hcr, hat, hpos, f1, fail0_l hg hp]
    exact en _ rfl rfl
end
end Go.Proofs.YtgnefbngkhjfcaaGreatDoor.Jn
/-
  The machine of layer 27 (json): a byte, by where it stands: values, names, numbers.
-/
set_option linter.unusedSimpArgs false
set_option linter.unusedVariables false
set_option maxRecDepth 100000
namespace Go.Proofs.YtgnefbngkhjfcaaGreatDoor.Jn
open Go.Lg Tg.Json

section
variable {p : Nat} {H H' H1 : LH} {m m' m1 : M} {v v' : Value} {b : UInt8}
set_option maxHeartbeats 4000000 in
theorem begin_ex (h : At p H m v) : ∃ H', LC Tryz.prog EJ 68 [ptr p 0, .int .u8 b.toNat] H = some (.tuple #[], H') ∧ Post p H (m.first b) H' := by
  refine meth_ex rfl Tryz.func68 rfl (Nat.le_of_ble_eq_true rfl) (by decide) (by kernel_rfl) h ?_
  have hg := h.get
  have hp := h.lt
  have en := fun m'' (g : m''.stack = m.stack) (d : m''.depth = m.depth) => h.setPost (m' := m'') g d
  have hd := fun H => digit_j (H := H) (b := b)
  unfold M.first
  by_cases c1 : b = 91
  · obtain ⟨H2, e2, p2⟩ := push_ex (b := 91) (q := 1) (k := 1) h rfl (fun _ _ => rfl)
    have e2' : LC Tryz.prog EJ 95 [ptr p 0, .int .u8 91, .int .i64 1] H = some (.tuple #[], H2) := e2
    subst c1
    simp (config := { maxSteps := 4000000 }) [hg, hp, e2']; exact p2
  have f1 := eq_false c1
  rw [if_neg c1]
  by_cases c2 : b = 123
  · obtain ⟨H2, e2, p2⟩ := push_ex (b := 123) (q := 3) (k := 3) h rfl (fun _ _ => rfl)
    have e2' : LC Tryz.prog EJ 95 [ptr p 0, .int .u8 123, .int .i64 3] H = some (.tuple #[], H2) := e2
    subst c2
    simp (config := { maxSteps := 4000000 }) [hg, hp, e2']; exact p2
  have f2 := eq_false c2
  rw [if_neg c2]
  by_cases c3 : b = 34
  · rw [if_pos c3]
    simp (config := { maxSteps := 4000000 }) [hg, hp, f1, f2, eq_true c3]; exact en _ rfl rfl
  have f3 := eq_false c3
  rw [if_neg c3]
  by_cases c4 : b = 45
  · rw [if_pos c4]
    simp (config := { maxSteps := 4000000 }) [hg, hp, f1, f2, f3, eq_true c4]; exact en _ rfl rfl
  have f4 := eq_false c4
  rw [if_neg c4]
  by_cases c5 : b = 48
  · rw [if_pos c5]
    simp (config := { maxSteps := 4000000 }) [hg, hp, f1, f2, f3, f4, eq_true c5]; exact en _ rfl rfl
  have f5 := eq_false c5
  rw [if_neg c5]
  cases c6 : Tg.Json.digit b with
  | true =>
    rw [if_pos rfl]
    simp (config := { maxSteps := 4000000 }) [hg, hp, f1, f2, f3, f4, f5, hd, c6]; exact en _ rfl rfl
  | false =>
    rw [if_neg (by simp)]
    by_cases c7 : b = 116
    · rw [if_pos c7]
      simp (config := { maxSteps := 4000000 }) [hg, hp, f1, f2, f3, f4, f5, hd, c6, eq_true c7]; exact en _ rfl rfl
    have f7 := eq_false c7
    rw [if_neg c7]
    by_cases c8 : b = 102
    · rw [if_pos c8]
      simp (config := { maxSteps := 4000000 }) [hg, hp, f1, f2, f3, f4, f5, hd, c6, f7, eq_true c8]; exact en _ rfl rfl
    have f8 := eq_false c8
    rw [if_neg c8]
    by_cases c9 : b = 110
    · rw [if_pos c9]
      simp (config := { maxSteps := 4000000 }) [hg, hp, f1, f2, f3, f4, f5, hd, c6, f7, f8, eq_true c9]; exact en _ rfl rfl
    have f9 := eq_false c9
    rw [if_neg c9]
    simp (config := { maxSteps := 4000000 }) [hg, hp, f1, f2, f3, f4, f5, hd, c6, f7, f8, f9, fail0_l hg hp]; exact en _ rfl rfl
theorem top_ne {k : UInt8} (hk : k ≠ 0) (h : m.top = k) : m.stack ≠ [] := by
  intro hs
  rw [M.top, hs] at h
  exact hk h.symm
set_option maxHeartbeats 4000000 in
theorem after_ex (h : At p H m v) : ∃ H', LC Tryz.prog EJ 71 [ptr p 0, .int .u8 b.toNat] H = some (.tuple #[], H') ∧ Post p H (m.after b) H' := by
  refine meth_ex rfl Tryz.func71 rfl (Nat.le_of_ble_eq_true rfl) (by decide) (by kernel_rfl) h ?_
  have hg := h.get
  have hp := h.lt
  have a5 := h.set (m' := { m with pos := 5 }) rfl rfl
  have p5 := h.setPost (m' := { m with pos := 5 }) rfl rfl
  have ht := top_l a5
  have hf := fail0_l a5.get a5.lt
  have hw := fun H => white_j (H := H) (b := b)
  have en := fun m'' (g : m''.stack = m.stack) (d : m''.depth = m.depth) => h.setPost (m' := m'') g d
  have hfail : ∀ (h' : ({ m with pos := 5 } : M).after b = ({ m with pos := 5 } : M).fail 0), True := fun _ => trivial
  unfold M.after
  simp only
  generalize hn : ({ m with pos := 5 } : M) = n at *
  have hn1 : n.stack = m.stack := by rw [← hn]
  have hn2 : n.depth = m.depth := by rw [← hn]
  cases c1 : Tg.Json.white b with
  | true =>
    rw [if_pos rfl]
    simp (config := { maxSteps := 4000000 }) [hg, hp, hn, ht, hw, c1]; exact p5
  | false =>
    rw [if_neg (by simp)]
    by_cases c2 : b = 44
    · have e2' := eq_true c2
      have n93 : (b = 93) = False := eq_false (by rw [c2]; decide)
      have n125 : (b = 125) = False := eq_false (by rw [c2]; decide)
      by_cases t1 : n.top = 91
      · rw [if_pos ⟨c2, t1⟩]
        simp (config := { maxSteps := 4000000 }) [hg, hp, hn, ht, hw, c1, e2', n93, n125, t1]; subst hn; exact en _ rfl rfl
      · rw [if_neg (fun hx => t1 hx.2)]
        by_cases t2 : n.top = 123
        · rw [if_pos ⟨c2, t2⟩]
          simp (config := { maxSteps := 4000000 }) [hg, hp, hn, ht, hw, c1, e2', n93, n125, t2]; subst hn; exact en _ rfl rfl
        · rw [if_neg (fun hx => t2 hx.2), if_neg (by rintro (hx | hx) <;> exact absurd (c2.symm.trans hx.1) (by decide))]
          simp (config := { maxSteps := 4000000 }) [hg, hp, hn, ht, hw, c1, e2', n93, n125, eq_false t1, eq_false t2, hf]; exact en _ hn1 hn2
    · have f2 := eq_false c2
      rw [if_neg (fun hx => c2 hx.1), if_neg (fun hx => c2 hx.1)]
      by_cases c3 : b = 93
      · have e3' := eq_true c3
        have n125 : (b = 125) = False := eq_false (by rw [c3]; decide)
        by_cases t1 : n.top = 91
        · obtain ⟨H2, e2, p2⟩ := pop_ex a5 (top_ne (k := 91) (by decide) t1)
          rw [if_pos (.inl ⟨c3, t1⟩)]
          simp (config := { maxSteps := 4000000 }) [hg, hp, hn, ht, hw, c1, f2, e3', n125, t1, e2]; exact p5.trans p2
        · rw [if_neg (by rintro (hx | hx); exact t1 hx.2; exact absurd (c3.symm.trans hx.1) (by decide))]
          simp (config := { maxSteps := 4000000 }) [hg, hp, hn, ht, hw, c1, f2, e3', n125, eq_false t1, hf]; exact en _ hn1 hn2
      · have f3 := eq_false c3
        by_cases c4 : b = 125
        · have e4' := eq_true c4
          by_cases t1 : n.top = 123
          · obtain ⟨H2, e2, p2⟩ := pop_ex a5 (top_ne (k := 123) (by decide) t1)
            rw [if_pos (.inr ⟨c4, t1⟩)]
            simp (config := { maxSteps := 4000000 }) [hg, hp, hn, ht, hw, c1, f2, f3, e4', t1, e2]; exact p5.trans p2
          · rw [if_neg (by rintro (hx | hx); exact absurd (c4.symm.trans hx.1) (by decide); exact t1 hx.2)]
            simp (config := { maxSteps := 4000000 }) [hg, hp, hn, ht, hw, c1, f2, f3, e4', eq_false t1, hf]; exact en _ hn1 hn2
        · have f4 := eq_false c4
          rw [if_neg (by rintro (hx | hx); exact c3 hx.1; exact c4 hx.1)]
          simp (config := { maxSteps := 4000000 }) [hg, hp, hn, ht, hw, c1, f2, f3, f4, hf]; exact en _ hn1 hn2
theorem pos_eq {k : Nat} (hk : m.pos = k) (j : Nat) : ((m.pos : Int) = (j : Int)) = (k = j) := by rw [hk]; exact propext (by omega)
theorem names_ex (h : At p H m v) (h3 : m.pos = 3 → m.stack ≠ []) : ∃ H', LC Tryz.prog EJ 69 [ptr p 0, .int .u8 b.toNat] H = some (.tuple #[], H') ∧ Post p H (m.names b) H' := by
  refine meth_ex rfl Tryz.func69 rfl (Nat.le_of_ble_eq_true rfl) (by decide) (by kernel_rfl) h ?_
  have hg := h.get
  have hp := h.lt
  have hw := fun H => white_j (H := H) (b := b)
  have en := fun m'' (g : m''.stack = m.stack) (d : m''.depth = m.depth) => h.setPost (m' := m'') g d
  have q3 : ((m.pos : Int) = 3) = (m.pos = 3) := propext (by omega)
  unfold M.names
  cases c1 : Tg.Json.white b with
  | true =>
    rw [if_pos rfl]
    simp (config := { maxSteps := 4000000 }) [hg, hp, hw, c1]; exact h.post
  | false =>
    rw [if_neg (by simp)]
    by_cases c2 : b = 34
    · rw [if_pos c2]
      simp (config := { maxSteps := 4000000 }) [hg, hp, hw, c1, eq_true c2]; exact en _ rfl rfl
    have f2 := eq_false c2
    rw [if_neg c2]
    by_cases c3 : b = 125
    · by_cases c4 : m.pos = 3
      · obtain ⟨H2, e2, p2⟩ := pop_ex h (h3 c4)
        rw [if_pos ⟨c3, c4⟩]
        simp (config := { maxSteps := 4000000 }) [hg, hp, hw, c1, f2, eq_true c3, q3, eq_true c4, e2]; exact p2
      · rw [if_neg (fun hx => c4 hx.2)]
        simp (config := { maxSteps := 4000000 }) [hg, hp, hw, c1, f2, eq_true c3, q3, eq_false c4, fail0_l hg hp]; exact en _ rfl rfl
    · rw [if_neg (fun hx => c3 hx.1)]
      simp (config := { maxSteps := 4000000 }) [hg, hp, hw, c1, f2, eq_false c3, fail0_l hg hp]; exact en _ rfl rfl
end
end Go.Proofs.YtgnefbngkhjfcaaGreatDoor.Jn
/-
  The machine of layer 27 (json): a byte within a number.
-/
set_option linter.unusedSimpArgs false
set_option linter.unusedVariables false
set_option maxRecDepth 100000
namespace Go.Proofs.YtgnefbngkhjfcaaGreatDoor.Jn
open Go.Lg Tg.Json

section
variable {p : Nat} {H H' H1 : LH} {m m' m1 : M} {v v' : Value} {b : UInt8}
theorem num_eq {X : M} (h : At p H m v) (e : m.inNumber b = X) (hs : X.stack = m.stack) (hd : X.depth = m.depth) : Post p H (m.inNumber b) (H.set p (mb X v)) := by rw [e]; exact h.setPost hs hd
theorem num_af {Ha : LH} (pa : Post p H (m.after b) Ha) (e : m.inNumber b = m.after b) : Post p H (m.inNumber b) Ha := by rw [e]; exact pa

set_option maxHeartbeats 4000000 in
theorem num10_ex (h : At p H m v) (hk : m.pos = 10) : ∃ H', LC Tryz.prog EJ 76 [ptr p 0, .int .u8 b.toNat] H = some (.tuple #[], H') ∧ Post p H (m.inNumber b) H' := by
  refine meth_ex rfl Tryz.func76 rfl (Nat.le_of_ble_eq_true rfl) (by decide) (by kernel_rfl) h ?_
  have hg := h.get
  have hp := h.lt
  have hki : (m.pos : Int) = 10 := by rw [hk]; rfl
  have hd := fun H => digit_j (H := H) (b := b)
  have hf := fail0_l hg hp
  have he : ∀ H : LH, LC Tryz.prog EJ 77 [.int .i64 10] H = some (.bool false, H) := fun H => ended_j (q := 10)
  obtain ⟨Ha, ea, pa⟩ := after_ex (b := b) h
  cases cd : Tg.Json.digit b with
  | true =>
    have n46 : (b = 46) = False := eq_false (fun hx => by rw [hx] at cd; exact absurd cd (by decide))
    have n101 : (b = 101) = False := eq_false (fun hx => by rw [hx] at cd; exact absurd cd (by decide))
    have n69 : (b = 69) = False := eq_false (fun hx => by rw [hx] at cd; exact absurd cd (by decide))
    have n43 : (b = 43) = False := eq_false (fun hx => by rw [hx] at cd; exact absurd cd (by decide))
    have n45 : (b = 45) = False := eq_false (fun hx => by rw [hx] at cd; exact absurd cd (by decide))
    by_cases c48 : b = 48
    · have n48 := eq_true c48
      simp (config := { maxSteps := 8000000 }) [hg, hp, hki, hd, he, hf, ea, cd, n46, n101, n69, n43, n45, n48]
      exact num_eq h (by unfold M.inNumber; simp [hk, isE, Tg.Json.ended, cd, n46, n101, n69, n43, n45, n48]) rfl rfl
    · have n48 := eq_false c48
      simp (config := { maxSteps := 8000000 }) [hg, hp, hki, hd, he, hf, ea, cd, n46, n101, n69, n43, n45, n48]
      exact num_eq h (by unfold M.inNumber; simp [hk, isE, Tg.Json.ended, cd, n46, n101, n69, n43, n45, n48]) rfl rfl
  | false =>
    have n48 : (b = 48) = False := eq_false (fun hx => by rw [hx] at cd; exact absurd cd (by decide))
    by_cases c101 : b = 101
    · have n101 := eq_true c101
      have n69 : (b = 69) = False := eq_false (by rw [c101]; decide)
      simp (config := { maxSteps := 8000000 }) [hg, hp, hki, hd, he, hf, ea, cd, n48, n101, n69]
      exact num_eq h (by unfold M.inNumber; simp [hk, isE, Tg.Json.ended, cd, n48, n101, n69]) rfl rfl
    have n101 := eq_false c101
    by_cases c69 : b = 69
    · have n69 := eq_true c69
      simp (config := { maxSteps := 8000000 }) [hg, hp, hki, hd, he, hf, ea, cd, n48, n101, n69]
      exact num_eq h (by unfold M.inNumber; simp [hk, isE, Tg.Json.ended, cd, n48, n101, n69]) rfl rfl
    have n69 := eq_false c69
    simp (config := { maxSteps := 8000000 }) [hg, hp, hki, hd, he, hf, ea, cd, n48, n101, n69]
    exact num_eq h (by unfold M.inNumber; simp [hk, isE, Tg.Json.ended, cd, n48, n101, n69]) rfl rfl
set_option maxHeartbeats 4000000 in
theorem num11_ex (h : At p H m v) (hk : m.pos = 11) : ∃ H', LC Tryz.prog EJ 76 [ptr p 0, .int .u8 b.toNat] H = some (.tuple #[], H') ∧ Post p H (m.inNumber b) H' := by
  refine meth_ex rfl Tryz.func76 rfl (Nat.le_of_ble_eq_true rfl) (by decide) (by kernel_rfl) h ?_
  have hg := h.get
  have hp := h.lt
  have hki : (m.pos : Int) = 11 := by rw [hk]; rfl
  have hd := fun H => digit_j (H := H) (b := b)
  have hf := fail0_l hg hp
  have he : ∀ H : LH, LC Tryz.prog EJ 77 [.int .i64 11] H = some (.bool true, H) := fun H => ended_j (q := 11)
  obtain ⟨Ha, ea, pa⟩ := after_ex (b := b) h
  cases cd : Tg.Json.digit b with
  | true =>
    have n46 : (b = 46) = False := eq_false (fun hx => by rw [hx] at cd; exact absurd cd (by decide))
    have n101 : (b = 101) = False := eq_false (fun hx => by rw [hx] at cd; exact absurd cd (by decide))
    have n69 : (b = 69) = False := eq_false (fun hx => by rw [hx] at cd; exact absurd cd (by decide))
    have n43 : (b = 43) = False := eq_false (fun hx => by rw [hx] at cd; exact absurd cd (by decide))
    have n45 : (b = 45) = False := eq_false (fun hx => by rw [hx] at cd; exact absurd cd (by decide))
    simp (config := { maxSteps := 8000000 }) [hg, hp, hki, hd, he, hf, ea, cd, n46, n101, n69, n43, n45]
    exact num_af pa (by unfold M.inNumber; simp [hk, isE, Tg.Json.ended, cd, n46, n101, n69, n43, n45])
  | false =>
    have n48 : (b = 48) = False := eq_false (fun hx => by rw [hx] at cd; exact absurd cd (by decide))
    by_cases c46 : b = 46
    · have n46 := eq_true c46
      have n101 : (b = 101) = False := eq_false (by rw [c46]; decide)
      have n69 : (b = 69) = False := eq_false (by rw [c46]; decide)
      have n43 : (b = 43) = False := eq_false (by rw [c46]; decide)
      have n45 : (b = 45) = False := eq_false (by rw [c46]; decide)
      simp (config := { maxSteps := 8000000 }) [hg, hp, hki, hd, he, hf, ea, cd, n48, n46, n101, n69, n43, n45]
      exact num_eq h (by unfold M.inNumber; simp [hk, isE, Tg.Json.ended, cd, n48, n46, n101, n69, n43, n45]) rfl rfl
    have n46 := eq_false c46
    by_cases c101 : b = 101
    · have n101 := eq_true c101
      have n46 : (b = 46) = False := eq_false (by rw [c101]; decide)
      have n69 : (b = 69) = False := eq_false (by rw [c101]; decide)
      have n43 : (b = 43) = False := eq_false (by rw [c101]; decide)
      have n45 : (b = 45) = False := eq_false (by rw [c101]; decide)
      simp (config := { maxSteps := 8000000 }) [hg, hp, hki, hd, he, hf, ea, cd, n48, n46, n101, n69, n43, n45]
      exact num_eq h (by unfold M.inNumber; simp [hk, isE, Tg.Json.ended, cd, n48, n46, n101, n69, n43, n45]) rfl rfl
    have n101 := eq_false c101
    by_cases c69 : b = 69
    · have n69 := eq_true c69
      have n46 : (b = 46) = False := eq_false (by rw [c69]; decide)
      have n101 : (b = 101) = False := eq_false (by rw [c69]; decide)
      have n43 : (b = 43) = False := eq_false (by rw [c69]; decide)
      have n45 : (b = 45) = False := eq_false (by rw [c69]; decide)
      simp (config := { maxSteps := 8000000 }) [hg, hp, hki, hd, he, hf, ea, cd, n48, n46, n101, n69, n43, n45]
      exact num_eq h (by unfold M.inNumber; simp [hk, isE, Tg.Json.ended, cd, n48, n46, n101, n69, n43, n45]) rfl rfl
    have n69 := eq_false c69
    simp (config := { maxSteps := 8000000 }) [hg, hp, hki, hd, he, hf, ea, cd, n48, n46, n101, n69]
    exact num_af pa (by unfold M.inNumber; simp [hk, isE, Tg.Json.ended, cd, n48, n46, n101, n69])
set_option maxHeartbeats 4000000 in
theorem num12_ex (h : At p H m v) (hk : m.pos = 12) : ∃ H', LC Tryz.prog EJ 76 [ptr p 0, .int .u8 b.toNat] H = some (.tuple #[], H') ∧ Post p H (m.inNumber b) H' := by
  refine meth_ex rfl Tryz.func76 rfl (Nat.le_of_ble_eq_true rfl) (by decide) (by kernel_rfl) h ?_
  have hg := h.get
  have hp := h.lt
  have hki : (m.pos : Int) = 12 := by rw [hk]; rfl
  have hd := fun H => digit_j (H := H) (b := b)
  have hf := fail0_l hg hp
  have he : ∀ H : LH, LC Tryz.prog EJ 77 [.int .i64 12] H = some (.bool true, H) := fun H => ended_j (q := 12)
  obtain ⟨Ha, ea, pa⟩ := after_ex (b := b) h
  cases cd : Tg.Json.digit b with
  | true =>
    have n46 : (b = 46) = False := eq_false (fun hx => by rw [hx] at cd; exact absurd cd (by decide))
    have n101 : (b = 101) = False := eq_false (fun hx => by rw [hx] at cd; exact absurd cd (by decide))
    have n69 : (b = 69) = False := eq_false (fun hx => by rw [hx] at cd; exact absurd cd (by decide))
    have n43 : (b = 43) = False := eq_false (fun hx => by rw [hx] at cd; exact absurd cd (by decide))
    have n45 : (b = 45) = False := eq_false (fun hx => by rw [hx] at cd; exact absurd cd (by decide))
    simp (config := { maxSteps := 8000000 }) [hg, hp, hki, hd, he, hf, ea, cd, n46, n101, n69, n43, n45]
    exact num_eq h (by unfold M.inNumber; simp [hk, isE, Tg.Json.ended, cd, n46, n101, n69, n43, n45]) rfl rfl
  | false =>
    have n48 : (b = 48) = False := eq_false (fun hx => by rw [hx] at cd; exact absurd cd (by decide))
    by_cases c46 : b = 46
    · have n46 := eq_true c46
      have n101 : (b = 101) = False := eq_false (by rw [c46]; decide)
      have n69 : (b = 69) = False := eq_false (by rw [c46]; decide)
      have n43 : (b = 43) = False := eq_false (by rw [c46]; decide)
      have n45 : (b = 45) = False := eq_false (by rw [c46]; decide)
      simp (config := { maxSteps := 8000000 }) [hg, hp, hki, hd, he, hf, ea, cd, n48, n46, n101, n69, n43, n45]
      exact num_eq h (by unfold M.inNumber; simp [hk, isE, Tg.Json.ended, cd, n48, n46, n101, n69, n43, n45]) rfl rfl
    have n46 := eq_false c46
    by_cases c101 : b = 101
    · have n101 := eq_true c101
      have n46 : (b = 46) = False := eq_false (by rw [c101]; decide)
      have n69 : (b = 69) = False := eq_false (by rw [c101]; decide)
      have n43 : (b = 43) = False := eq_false (by rw [c101]; decide)
      have n45 : (b = 45) = False := eq_false (by rw [c101]; decide)
      simp (config := { maxSteps := 8000000 }) [hg, hp, hki, hd, he, hf, ea, cd, n48, n46, n101, n69, n43, n45]
      exact num_eq h (by unfold M.inNumber; simp [hk, isE, Tg.Json.ended, cd, n48, n46, n101, n69, n43, n45]) rfl rfl
    have n101 := eq_false c101
    by_cases c69 : b = 69
    · have n69 := eq_true c69
      have n46 : (b = 46) = False := eq_false (by rw [c69]; decide)
      have n101 : (b = 101) = False := eq_false (by rw [c69]; decide)
      have n43 : (b = 43) = False := eq_false (by rw [c69]; decide)
      have n45 : (b = 45) = False := eq_false (by rw [c69]; decide)
      simp (config := { maxSteps := 8000000 }) [hg, hp, hki, hd, he, hf, ea, cd, n48, n46, n101, n69, n43, n45]
      exact num_eq h (by unfold M.inNumber; simp [hk, isE, Tg.Json.ended, cd, n48, n46, n101, n69, n43, n45]) rfl rfl
    have n69 := eq_false c69
    simp (config := { maxSteps := 8000000 }) [hg, hp, hki, hd, he, hf, ea, cd, n48, n46, n101, n69]
    exact num_af pa (by unfold M.inNumber; simp [hk, isE, Tg.Json.ended, cd, n48, n46, n101, n69])
end
end Go.Proofs.YtgnefbngkhjfcaaGreatDoor.Jn
/-
  The machine of layer 27 (json): a byte within a number.
-/
set_option linter.unusedSimpArgs false
set_option linter.unusedVariables false
set_option maxRecDepth 100000
namespace Go.Proofs.YtgnefbngkhjfcaaGreatDoor.Jn
open Go.Lg Tg.Json

section
variable {p : Nat} {H H' H1 : LH} {m m' m1 : M} {v v' : Value} {b : UInt8}
theorem num_eqB {X : M} (h : At p H m v) (e : m.inNumber b = X) (hs : X.stack = m.stack) (hd : X.depth = m.depth) : Post p H (m.inNumber b) (H.set p (mb X v)) := by rw [e]; exact h.setPost hs hd
theorem num_afB {Ha : LH} (pa : Post p H (m.after b) Ha) (e : m.inNumber b = m.after b) : Post p H (m.inNumber b) Ha := by rw [e]; exact pa

set_option maxHeartbeats 4000000 in
theorem num13_ex (h : At p H m v) (hk : m.pos = 13) : ∃ H', LC Tryz.prog EJ 76 [ptr p 0, .int .u8 b.toNat] H = some (.tuple #[], H') ∧ Post p H (m.inNumber b) H' := by
  refine meth_ex rfl Tryz.func76 rfl (Nat.le_of_ble_eq_true rfl) (by decide) (by kernel_rfl) h ?_
  have hg := h.get
  have hp := h.lt
  have hki : (m.pos : Int) = 13 := by rw [hk]; rfl
  have hd := fun H => digit_j (H := H) (b := b)
  have hf := fail0_l hg hp
  have he : ∀ H : LH, LC Tryz.prog EJ 77 [.int .i64 13] H = some (.bool false, H) := fun H => ended_j (q := 13)
  obtain ⟨Ha, ea, pa⟩ := after_ex (b := b) h
  cases cd : Tg.Json.digit b with
  | true =>
    have n46 : (b = 46) = False := eq_false (fun hx => by rw [hx] at cd; exact absurd cd (by decide))
    have n101 : (b = 101) = False := eq_false (fun hx => by rw [hx] at cd; exact absurd cd (by decide))
    have n69 : (b = 69) = False := eq_false (fun hx => by rw [hx] at cd; exact absurd cd (by decide))
    have n43 : (b = 43) = False := eq_false (fun hx => by rw [hx] at cd; exact absurd cd (by decide))
    have n45 : (b = 45) = False := eq_false (fun hx => by rw [hx] at cd; exact absurd cd (by decide))
    simp (config := { maxSteps := 8000000 }) [hg, hp, hki, hd, he, hf, ea, cd, n46, n101, n69, n43, n45]
    exact num_eqB h (by unfold M.inNumber; simp [hk, isE, Tg.Json.ended, cd, n46, n101, n69, n43, n45]) rfl rfl
  | false =>
    have n48 : (b = 48) = False := eq_false (fun hx => by rw [hx] at cd; exact absurd cd (by decide))
    by_cases c101 : b = 101
    · have n101 := eq_true c101
      have n69 : (b = 69) = False := eq_false (by rw [c101]; decide)
      simp (config := { maxSteps := 8000000 }) [hg, hp, hki, hd, he, hf, ea, cd, n48, n101, n69]
      exact num_eqB h (by unfold M.inNumber; simp [hk, isE, Tg.Json.ended, cd, n48, n101, n69]) rfl rfl
    have n101 := eq_false c101
    by_cases c69 : b = 69
    · have n69 := eq_true c69
      simp (config := { maxSteps := 8000000 }) [hg, hp, hki, hd, he, hf, ea, cd, n48, n101, n69]
      exact num_eqB h (by unfold M.inNumber; simp [hk, isE, Tg.Json.ended, cd, n48, n101, n69]) rfl rfl
    have n69 := eq_false c69
    simp (config := { maxSteps := 8000000 }) [hg, hp, hki, hd, he, hf, ea, cd, n48, n101, n69]
    exact num_eqB h (by unfold M.inNumber; simp [hk, isE, Tg.Json.ended, cd, n48, n101, n69]) rfl rfl
set_option maxHeartbeats 4000000 in
theorem num14_ex (h : At p H m v) (hk : m.pos = 14) : ∃ H', LC Tryz.prog EJ 76 [ptr p 0, .int .u8 b.toNat] H = some (.tuple #[], H') ∧ Post p H (m.inNumber b) H' := by
  refine meth_ex rfl Tryz.func76 rfl (Nat.le_of_ble_eq_true rfl) (by decide) (by kernel_rfl) h ?_
  have hg := h.get
  have hp := h.lt
  have hki : (m.pos : Int) = 14 := by rw [hk]; rfl
  have hd := fun H => digit_j (H := H) (b := b)
  have hf := fail0_l hg hp
  have he : ∀ H : LH, LC Tryz.prog EJ 77 [.int .i64 14] H = some (.bool true, H) := fun H => ended_j (q := 14)
  obtain ⟨Ha, ea, pa⟩ := after_ex (b := b) h
  cases cd : Tg.Json.digit b with
  | true =>
    have n46 : (b = 46) = False := eq_false (fun hx => by rw [hx] at cd; exact absurd cd (by decide))
    have n101 : (b = 101) = False := eq_false (fun hx => by rw [hx] at cd; exact absurd cd (by decide))
    have n69 : (b = 69) = False := eq_false (fun hx => by rw [hx] at cd; exact absurd cd (by decide))
    have n43 : (b = 43) = False := eq_false (fun hx => by rw [hx] at cd; exact absurd cd (by decide))
    have n45 : (b = 45) = False := eq_false (fun hx => by rw [hx] at cd; exact absurd cd (by decide))
    simp (config := { maxSteps := 8000000 }) [hg, hp, hki, hd, he, hf, ea, cd, n46, n101, n69, n43, n45]
    exact num_eqB h (by unfold M.inNumber; simp [hk, isE, Tg.Json.ended, cd, n46, n101, n69, n43, n45]) rfl rfl
  | false =>
    have n48 : (b = 48) = False := eq_false (fun hx => by rw [hx] at cd; exact absurd cd (by decide))
    by_cases c101 : b = 101
    · have n101 := eq_true c101
      have n46 : (b = 46) = False := eq_false (by rw [c101]; decide)
      have n69 : (b = 69) = False := eq_false (by rw [c101]; decide)
      have n43 : (b = 43) = False := eq_false (by rw [c101]; decide)
      have n45 : (b = 45) = False := eq_false (by rw [c101]; decide)
      simp (config := { maxSteps := 8000000 }) [hg, hp, hki, hd, he, hf, ea, cd, n48, n46, n101, n69, n43, n45]
      exact num_eqB h (by unfold M.inNumber; simp [hk, isE, Tg.Json.ended, cd, n48, n46, n101, n69, n43, n45]) rfl rfl
    have n101 := eq_false c101
    by_cases c69 : b = 69
    · have n69 := eq_true c69
      have n46 : (b = 46) = False := eq_false (by rw [c69]; decide)
      have n101 : (b = 101) = False := eq_false (by rw [c69]; decide)
      have n43 : (b = 43) = False := eq_false (by rw [c69]; decide)
      have n45 : (b = 45) = False := eq_false (by rw [c69]; decide)
      simp (config := { maxSteps := 8000000 }) [hg, hp, hki, hd, he, hf, ea, cd, n48, n46, n101, n69, n43, n45]
      exact num_eqB h (by unfold M.inNumber; simp [hk, isE, Tg.Json.ended, cd, n48, n46, n101, n69, n43, n45]) rfl rfl
    have n69 := eq_false c69
    simp (config := { maxSteps := 8000000 }) [hg, hp, hki, hd, he, hf, ea, cd, n48, n101, n69]
    exact num_afB pa (by unfold M.inNumber; simp [hk, isE, Tg.Json.ended, cd, n48, n101, n69])
set_option maxHeartbeats 4000000 in
theorem num15_ex (h : At p H m v) (hk : m.pos = 15) : ∃ H', LC Tryz.prog EJ 76 [ptr p 0, .int .u8 b.toNat] H = some (.tuple #[], H') ∧ Post p H (m.inNumber b) H' := by
  refine meth_ex rfl Tryz.func76 rfl (Nat.le_of_ble_eq_true rfl) (by decide) (by kernel_rfl) h ?_
  have hg := h.get
  have hp := h.lt
  have hki : (m.pos : Int) = 15 := by rw [hk]; rfl
  have hd := fun H => digit_j (H := H) (b := b)
  have hf := fail0_l hg hp
  have he : ∀ H : LH, LC Tryz.prog EJ 77 [.int .i64 15] H = some (.bool false, H) := fun H => ended_j (q := 15)
  obtain ⟨Ha, ea, pa⟩ := after_ex (b := b) h
  cases cd : Tg.Json.digit b with
  | true =>
    have n46 : (b = 46) = False := eq_false (fun hx => by rw [hx] at cd; exact absurd cd (by decide))
    have n101 : (b = 101) = False := eq_false (fun hx => by rw [hx] at cd; exact absurd cd (by decide))
    have n69 : (b = 69) = False := eq_false (fun hx => by rw [hx] at cd; exact absurd cd (by decide))
    have n43 : (b = 43) = False := eq_false (fun hx => by rw [hx] at cd; exact absurd cd (by decide))
    have n45 : (b = 45) = False := eq_false (fun hx => by rw [hx] at cd; exact absurd cd (by decide))
    simp (config := { maxSteps := 8000000 }) [hg, hp, hki, hd, he, hf, ea, cd, n46, n101, n69, n43, n45]
    exact num_eqB h (by unfold M.inNumber; simp [hk, isE, Tg.Json.ended, cd, n46, n101, n69, n43, n45]) rfl rfl
  | false =>
    have n48 : (b = 48) = False := eq_false (fun hx => by rw [hx] at cd; exact absurd cd (by decide))
    by_cases c43 : b = 43
    · have n43 := eq_true c43
      have n46 : (b = 46) = False := eq_false (by rw [c43]; decide)
      have n101 : (b = 101) = False := eq_false (by rw [c43]; decide)
      have n69 : (b = 69) = False := eq_false (by rw [c43]; decide)
      have n45 : (b = 45) = False := eq_false (by rw [c43]; decide)
      simp (config := { maxSteps := 8000000 }) [hg, hp, hki, hd, he, hf, ea, cd, n48, n46, n101, n69, n43, n45]
      exact num_eqB h (by unfold M.inNumber; simp [hk, isE, Tg.Json.ended, cd, n48, n46, n101, n69, n43, n45]) rfl rfl
    have n43 := eq_false c43
    by_cases c45 : b = 45
    · have n45 := eq_true c45
      have n46 : (b = 46) = False := eq_false (by rw [c45]; decide)
      have n101 : (b = 101) = False := eq_false (by rw [c45]; decide)
      have n69 : (b = 69) = False := eq_false (by rw [c45]; decide)
      have n43 : (b = 43) = False := eq_false (by rw [c45]; decide)
      simp (config := { maxSteps := 8000000 }) [hg, hp, hki, hd, he, hf, ea, cd, n48, n46, n101, n69, n43, n45]
      exact num_eqB h (by unfold M.inNumber; simp [hk, isE, Tg.Json.ended, cd, n48, n46, n101, n69, n43, n45]) rfl rfl
    have n45 := eq_false c45
    by_cases c101 : b = 101
    · have n101 := eq_true c101
      have n69 : (b = 69) = False := eq_false (by rw [c101]; decide)
      simp (config := { maxSteps := 8000000 }) [hg, hp, hki, hd, he, hf, ea, cd, n48, n43, n45, n101, n69]
      exact num_eqB h (by unfold M.inNumber; simp [hk, isE, Tg.Json.ended, cd, n48, n43, n45, n101, n69]) rfl rfl
    have n101 := eq_false c101
    by_cases c69 : b = 69
    · have n69 := eq_true c69
      simp (config := { maxSteps := 8000000 }) [hg, hp, hki, hd, he, hf, ea, cd, n48, n43, n45, n101, n69]
      exact num_eqB h (by unfold M.inNumber; simp [hk, isE, Tg.Json.ended, cd, n48, n43, n45, n101, n69]) rfl rfl
    have n69 := eq_false c69
    simp (config := { maxSteps := 8000000 }) [hg, hp, hki, hd, he, hf, ea, cd, n48, n43, n45, n101, n69]
    exact num_eqB h (by unfold M.inNumber; simp [hk, isE, Tg.Json.ended, cd, n48, n43, n45, n101, n69]) rfl rfl
end
end Go.Proofs.YtgnefbngkhjfcaaGreatDoor.Jn
/-
  The machine of layer 27 (json): a byte within a number.
-/
set_option linter.unusedSimpArgs false
set_option linter.unusedVariables false
set_option maxRecDepth 100000
namespace Go.Proofs.YtgnefbngkhjfcaaGreatDoor.Jn
open Go.Lg Tg.Json

section
variable {p : Nat} {H H' H1 : LH} {m m' m1 : M} {v v' : Value} {b : UInt8}

set_option maxHeartbeats 4000000 in
theorem num16_ex (h : At p H m v) (hk : m.pos = 16) : ∃ H', LC Tryz.prog EJ 76 [ptr p 0, .int .u8 b.toNat] H = some (.tuple #[], H') ∧ Post p H (m.inNumber b) H' := by
  refine meth_ex rfl Tryz.func76 rfl (Nat.le_of_ble_eq_true rfl) (by decide) (by kernel_rfl) h ?_
  have hg := h.get
  have hp := h.lt
  have hki : (m.pos : Int) = 16 := by rw [hk]; rfl
  have hd := fun H => digit_j (H := H) (b := b)
  have hf := fail0_l hg hp
  have he : ∀ H : LH, LC Tryz.prog EJ 77 [.int .i64 16] H = some (.bool false, H) := fun H => ended_j (q := 16)
  obtain ⟨Ha, ea, pa⟩ := after_ex (b := b) h
  cases cd : Tg.Json.digit b with
  | true =>
    have n46 : (b = 46) = False := eq_false (fun hx => by rw [hx] at cd; exact absurd cd (by decide))
    have n101 : (b = 101) = False := eq_false (fun hx => by rw [hx] at cd; exact absurd cd (by decide))
    have n69 : (b = 69) = False := eq_false (fun hx => by rw [hx] at cd; exact absurd cd (by decide))
    have n43 : (b = 43) = False := eq_false (fun hx => by rw [hx] at cd; exact absurd cd (by decide))
    have n45 : (b = 45) = False := eq_false (fun hx => by rw [hx] at cd; exact absurd cd (by decide))
    simp (config := { maxSteps := 8000000 }) [hg, hp, hki, hd, he, hf, ea, cd, n46, n101, n69, n43, n45]
    exact num_eq h (by unfold M.inNumber; simp [hk, isE, Tg.Json.ended, cd, n46, n101, n69, n43, n45]) rfl rfl
  | false =>
    have n48 : (b = 48) = False := eq_false (fun hx => by rw [hx] at cd; exact absurd cd (by decide))
    by_cases c101 : b = 101
    · have n101 := eq_true c101
      have n69 : (b = 69) = False := eq_false (by rw [c101]; decide)
      simp (config := { maxSteps := 8000000 }) [hg, hp, hki, hd, he, hf, ea, cd, n48, n101, n69]
      exact num_eq h (by unfold M.inNumber; simp [hk, isE, Tg.Json.ended, cd, n48, n101, n69]) rfl rfl
    have n101 := eq_false c101
    by_cases c69 : b = 69
    · have n69 := eq_true c69
      simp (config := { maxSteps := 8000000 }) [hg, hp, hki, hd, he, hf, ea, cd, n48, n101, n69]
      exact num_eq h (by unfold M.inNumber; simp [hk, isE, Tg.Json.ended, cd, n48, n101, n69]) rfl rfl
    have n69 := eq_false c69
    simp (config := { maxSteps := 8000000 }) [hg, hp, hki, hd, he, hf, ea, cd, n48, n101, n69]
    exact num_eq h (by unfold M.inNumber; simp [hk, isE, Tg.Json.ended, cd, n48, n101, n69]) rfl rfl
set_option maxHeartbeats 4000000 in
theorem num17_ex (h : At p H m v) (hk : m.pos = 17) : ∃ H', LC Tryz.prog EJ 76 [ptr p 0, .int .u8 b.toNat] H = some (.tuple #[], H') ∧ Post p H (m.inNumber b) H' := by
  refine meth_ex rfl Tryz.func76 rfl (Nat.le_of_ble_eq_true rfl) (by decide) (by kernel_rfl) h ?_
  have hg := h.get
  have hp := h.lt
  have hki : (m.pos : Int) = 17 := by rw [hk]; rfl
  have hd := fun H => digit_j (H := H) (b := b)
  have hf := fail0_l hg hp
  have he : ∀ H : LH, LC Tryz.prog EJ 77 [.int .i64 17] H = some (.bool true, H) := fun H => ended_j (q := 17)
  obtain ⟨Ha, ea, pa⟩ := after_ex (b := b) h
  cases cd : Tg.Json.digit b with
  | true =>
    have n46 : (b = 46) = False := eq_false (fun hx => by rw [hx] at cd; exact absurd cd (by decide))
    have n101 : (b = 101) = False := eq_false (fun hx => by rw [hx] at cd; exact absurd cd (by decide))
    have n69 : (b = 69) = False := eq_false (fun hx => by rw [hx] at cd; exact absurd cd (by decide))
    have n43 : (b = 43) = False := eq_false (fun hx => by rw [hx] at cd; exact absurd cd (by decide))
    have n45 : (b = 45) = False := eq_false (fun hx => by rw [hx] at cd; exact absurd cd (by decide))
    simp (config := { maxSteps := 8000000 }) [hg, hp, hki, hd, he, hf, ea, cd, n46, n101, n69, n43, n45]
    exact num_eq h (by unfold M.inNumber; simp [hk, isE, Tg.Json.ended, cd, n46, n101, n69, n43, n45]) rfl rfl
  | false =>
    have n48 : (b = 48) = False := eq_false (fun hx => by rw [hx] at cd; exact absurd cd (by decide))
    by_cases c101 : b = 101
    · have n101 := eq_true c101
      have n69 : (b = 69) = False := eq_false (by rw [c101]; decide)
      simp (config := { maxSteps := 8000000 }) [hg, hp, hki, hd, he, hf, ea, cd, n48, n101, n69]
      exact num_af pa (by unfold M.inNumber; simp [hk, isE, Tg.Json.ended, cd, n48, n101, n69])
    have n101 := eq_false c101
    by_cases c69 : b = 69
    · have n69 := eq_true c69
      simp (config := { maxSteps := 8000000 }) [hg, hp, hki, hd, he, hf, ea, cd, n48, n101, n69]
      exact num_af pa (by unfold M.inNumber; simp [hk, isE, Tg.Json.ended, cd, n48, n101, n69])
    have n69 := eq_false c69
    simp (config := { maxSteps := 8000000 }) [hg, hp, hki, hd, he, hf, ea, cd, n48, n101, n69]
    exact num_af pa (by unfold M.inNumber; simp [hk, isE, Tg.Json.ended, cd, n48, n101, n69])
theorem inNumber_ex (h : At p H m v) (h10 : 10 ≤ m.pos) (h17 : m.pos ≤ 17) : ∃ H', LC Tryz.prog EJ 76 [ptr p 0, .int .u8 b.toNat] H = some (.tuple #[], H') ∧ Post p H (m.inNumber b) H' := by
  have : m.pos = 10 ∨ m.pos = 11 ∨ m.pos = 12 ∨ m.pos = 13 ∨ m.pos = 14 ∨ m.pos = 15 ∨ m.pos = 16 ∨ m.pos = 17 := by omega
  rcases this with hk | hk | hk | hk | hk | hk | hk | hk
  · exact num10_ex h hk
  · exact num11_ex h hk
  · exact num12_ex h hk
  · exact num13_ex h hk
  · exact num14_ex h hk
  · exact num15_ex h hk
  · exact num16_ex h hk
  · exact num17_ex h hk
end
end Go.Proofs.YtgnefbngkhjfcaaGreatDoor.Jn
/-
  The machine of layer 27 (json): bytes, all at once.
-/
set_option linter.unusedSimpArgs false
set_option linter.unusedVariables false
set_option maxRecDepth 100000
namespace Go.Proofs.YtgnefbngkhjfcaaGreatDoor.Jn
open Go.Lg Tg.Json

section
variable {p : Nat} {H H' H1 : LH} {m m' m1 : M} {v v' : Value} {b : UInt8} {s : List UInt8}
set_option maxHeartbeats 4000000 in
theorem byte_ex (h : At p H m v) (hw : JWF m) : ∃ H', LC Tryz.prog EJ 46 [ptr p 0, .int .u8 b.toNat] H = some (.tuple #[], H') ∧ Post p H (m.byte b) H' := by
  refine meth_ex rfl Tryz.func46 rfl (Nat.le_of_ble_eq_true rfl) (by decide) (by kernel_rfl) h ?_
  have hg := h.get
  have hp := h.lt
  have en := fun m'' (g : m''.stack = m.stack) (d : m''.depth = m.depth) => h.setPost (m' := m'') g d
  have hwh := fun H => white_j (H := H) (b := b)
  have hf := fail0_l hg hp
  have key : ∀ k, m.pos = k → ∀ j : Nat, ((m.pos : Int) = (j : Int)) = (k = j) := fun k hk j => pos_eq hk j
  have e0 : ((m.pos : Int) = 0) = (m.pos = 0) := propext (by omega)
  have e1 : ((m.pos : Int) = 1) = (m.pos = 1) := propext (by omega)
  have e2 : ((m.pos : Int) = 2) = (m.pos = 2) := propext (by omega)
  have e3 : ((m.pos : Int) = 3) = (m.pos = 3) := propext (by omega)
  have e4 : ((m.pos : Int) = 4) = (m.pos = 4) := propext (by omega)
  have e5 : ((m.pos : Int) = 5) = (m.pos = 5) := propext (by omega)
  have e6 : ((m.pos : Int) = 6) = (m.pos = 6) := propext (by omega)
  have e7 : ((m.pos : Int) = 7) = (m.pos = 7) := propext (by omega)
  have e8 : ((m.pos : Int) = 8) = (m.pos = 8) := propext (by omega)
  have e9 : ((m.pos : Int) = 9) = (m.pos = 9) := propext (by omega)
  obtain ⟨Hb, eb, pb⟩ := begin_ex (b := b) h
  obtain ⟨Ha, ea, pa⟩ := after_ex (b := b) h
  obtain ⟨Ht, et, pt⟩ := inText_ex (b := b) h
  obtain ⟨Hs, es, ps⟩ := inSlash_ex (b := b) h
  unfold M.byte
  by_cases c0 : m.pos = 0
  · have f0 := eq_true c0
    rw [if_pos (.inl c0)]
    have f1 : (m.pos = 1) = False := eq_false (by omega)
    cases cw : Tg.Json.white b with
    | true =>
      rw [if_pos rfl]
      simp (config := { maxSteps := 4000000 }) [hg, hp, e0, f0, hwh, cw]; exact h.post
    | false =>
      rw [if_neg (by simp), if_neg (fun hx => by omega)]
      by_cases cb : b = 93
      · simp (config := { maxSteps := 4000000 }) [hg, hp, e0, f0, e1, f1, hwh, cw, eq_true cb, eb]; exact pb
      · simp (config := { maxSteps := 4000000 }) [hg, hp, e0, f0, e1, f1, hwh, cw, eq_false cb, eb]; exact pb
  have f0 := eq_false c0
  by_cases c1 : m.pos = 1
  · have f1 := eq_true c1
    rw [if_pos (.inr c1)]
    cases cw : Tg.Json.white b with
    | true =>
      rw [if_pos rfl]
      simp (config := { maxSteps := 4000000 }) [hg, hp, e0, f0, e1, f1, hwh, cw]; exact h.post
    | false =>
      rw [if_neg (by simp)]
      by_cases cb : b = 93
      · obtain ⟨H2, e2, p2⟩ := pop_ex h (hw.first (.inl c1))
        rw [if_pos ⟨cb, c1⟩]
        simp (config := { maxSteps := 4000000 }) [hg, hp, e0, f0, e1, f1, hwh, cw, eq_true cb, e2]; exact p2
      · rw [if_neg (fun hx => cb hx.1)]
        simp (config := { maxSteps := 4000000 }) [hg, hp, e0, f0, e1, f1, hwh, cw, eq_false cb, eb]; exact pb
  have f1 := eq_false c1
  rw [if_neg (by rintro (hx | hx); exact c0 hx; exact c1 hx)]
  by_cases c2 : m.pos = 2
  · have f2 := eq_true c2
    obtain ⟨Hn, en, pn⟩ := names_ex (b := b) h (fun h3 => hw.first (.inr h3))
    rw [if_pos (.inl c2)]
    simp (config := { maxSteps := 4000000 }) [hg, hp, e0, f0, e1, f1, e2, f2, en]; exact pn
  have f2 := eq_false c2
  by_cases c3 : m.pos = 3
  · have f3 := eq_true c3
    obtain ⟨Hn, en, pn⟩ := names_ex (b := b) h (fun h3 => hw.first (.inr h3))
    rw [if_pos (.inr c3)]
    simp (config := { maxSteps := 4000000 }) [hg, hp, e0, f0, e1, f1, e2, f2, e3, f3, en]; exact pn
  have f3 := eq_false c3
  rw [if_neg (by rintro (hx | hx); exact c2 hx; exact c3 hx)]
  by_cases c4 : m.pos = 4
  · have f4 := eq_true c4
    rw [if_pos c4]
    cases cw : Tg.Json.white b with
    | true =>
      rw [if_pos rfl]
      simp (config := { maxSteps := 4000000 }) [hg, hp, e0, f0, e1, f1, e2, f2, e3, f3, e4, f4, hwh, cw]; exact h.post
    | false =>
      rw [if_neg (by simp)]
      by_cases cb : b = 58
      · rw [if_pos cb]
        simp (config := { maxSteps := 4000000 }) [hg, hp, e0, f0, e1, f1, e2, f2, e3, f3, e4, f4, hwh, cw, eq_true cb]; exact en _ rfl rfl
      · rw [if_neg cb]
        simp (config := { maxSteps := 4000000 }) [hg, hp, e0, f0, e1, f1, e2, f2, e3, f3, e4, f4, hwh, cw, eq_false cb, hf]; exact en _ rfl rfl
  have f4 := eq_false c4
  rw [if_neg c4]
  by_cases c5 : m.pos = 5
  · rw [if_pos c5]
    simp (config := { maxSteps := 4000000 }) [hg, hp, e0, f0, e1, f1, e2, f2, e3, f3, e4, f4, e5, eq_true c5, ea]; exact pa
  have f5 := eq_false c5
  rw [if_neg c5]
  by_cases c6 : m.pos = 6
  · rw [if_pos c6]
    simp (config := { maxSteps := 4000000 }) [hg, hp, e0, f0, e1, f1, e2, f2, e3, f3, e4, f4, e5, f5, e6, eq_true c6, et]; exact pt
  have f6 := eq_false c6
  rw [if_neg c6]
  by_cases c7 : m.pos = 7
  · rw [if_pos c7]
    simp (config := { maxSteps := 4000000 }) [hg, hp, e0, f0, e1, f1, e2, f2, e3, f3, e4, f4, e5, f5, e6, f6, e7, eq_true c7, es]; exact ps
  have f7 := eq_false c7
  rw [if_neg c7]
  by_cases c8 : m.pos = 8
  · obtain ⟨Hu, eu, pu⟩ := inUnicode_ex (b := b) h (hw.hex1 c8) hw.hex
    rw [if_pos c8]
    simp (config := { maxSteps := 4000000 }) [hg, hp, e0, f0, e1, f1, e2, f2, e3, f3, e4, f4, e5, f5, e6, f6, e7, f7, e8, eq_true c8, eu]; exact pu
  have f8 := eq_false c8
  rw [if_neg c8]
  by_cases c9 : m.pos = 9
  · obtain ⟨Hu, eu, pu⟩ := inWord_ex (b := b) h (hw.rest c9)
    rw [if_pos c9]
    simp (config := { maxSteps := 4000000 }) [hg, hp, e0, f0, e1, f1, e2, f2, e3, f3, e4, f4, e5, f5, e6, f6, e7, f7, e8, f8, e9, eq_true c9, eu]; exact pu
  have f9 := eq_false c9
  rw [if_neg c9]
  obtain ⟨Hu, eu, pu⟩ := inNumber_ex (b := b) h (by omega) hw.pos
  simp (config := { maxSteps := 4000000 }) [hg, hp, e0, f0, e1, f1, e2, f2, e3, f3, e4, f4, e5, f5, e6, f6, e7, f7, e8, f8, e9, f9, eu]; exact pu
theorem tell_l (h : At p H m v) : LC Tryz.prog EJ 47 [ptr p 0] H = some (.int .i64 (m.tell : Nat), H) := by
  refine LC_pure rfl Tryz.func47 rfl (Nat.le_of_ble_eq_true rfl) (by decide) (by kernel_rfl) rfl ?_
  have hl := fun H' => h.row.len (H' := H') Tryz.underlying63
  have hg := h.get
  have hp := h.lt
  have e1 : ((m.state : Int) = 1) = (m.state = 1) := propext (by omega)
  have e5 : ((m.pos : Int) = 5) = (m.pos = 5) := propext (by omega)
  have he := fun H => ended_j (H := H) (q := m.pos)
  have hn : ((m.stack.length : Int) = 0) = (m.stack = []) := propext (by rw [← List.length_eq_zero_iff]; omega)
  unfold M.tell
  by_cases c1 : m.state = 1
  · by_cases c2 : m.stack = []
    · by_cases c3 : m.pos = 5
      · rw [if_pos ⟨c1, c2, .inl c3⟩]
        simp (config := { maxSteps := 4000000 }) [hg, hp, hl, e1, eq_true c1, hn, eq_true c2, e5, eq_true c3]
      · cases c4 : Tg.Json.ended m.pos with
        | true =>
          rw [if_pos ⟨c1, c2, .inr rfl⟩]
          simp (config := { maxSteps := 4000000 }) [hg, hp, hl, e1, eq_true c1, hn, eq_true c2, e5, eq_false c3, he, c4]
        | false =>
          rw [if_neg (by rintro ⟨_, _, hx | hx⟩; exact c3 hx; cases hx)]
          simp (config := { maxSteps := 4000000 }) [hg, hp, hl, e1, eq_true c1, hn, eq_true c2, e5, eq_false c3, he, c4]
    · rw [if_neg (fun hx => c2 hx.2.1)]
      simp (config := { maxSteps := 4000000 }) [hg, hp, hl, e1, eq_true c1, hn, eq_false c2]
  · rw [if_neg (fun hx => c1 hx.1)]
    simp (config := { maxSteps := 4000000 }) [hg, hp, hl, e1, eq_false c1]
theorem beg_jwf {m : M} (h : JWF m) (b : UInt8) : JWF (m.beg b) := h.beg b
set_option maxHeartbeats 4000000 in
theorem feed_ex (h : At p H m v) (hw : JWF m) (hs : s.length ≤ 1048576) (hse : m.seen ≤ 1099511627776) : ∃ H', LC Tryz.prog EJ 35 [ptr p 0, str s] H = some (.int .i64 ((m.feed s).tell : Nat), H') ∧ Post p H (m.feed s) H' := by
  refine meth_exv rfl Tryz.func35 rfl (Nat.le_of_ble_eq_true rfl) (by decide) (by kernel_rfl) h ?_
  simp
  refine loop_ind (fun (i : Nat) fr' H' => fr' 0 = ptr p 0 ∧ fr' 1 = str s ∧ fr' 9 = .int .i64 s.length ∧ fr' 10 = .int .i64 i ∧ i ≤ s.length ∧ Post p H (m.feed (s.take i)) H') (fun i => s.length - i) 0 ?_ ?_
  · exact ⟨by simp, by simp, by simp, by simp, Nat.zero_le _, h.post⟩
  rintro i fr' H' ⟨h0, h1, h9, h10, hi, hpo⟩ ih
  obtain ⟨v1, a1⟩ := hpo.at_
  have hg := a1.get
  have hp := a1.lt
  have hwf : JWF (m.feed (s.take i)) := hw.feed
  have hsn : (m.feed (s.take i)).seen ≤ 1099511627776 + 1048576 := by rw [seen_feed]; simp; omega
  by_cases hlt : i < s.length
  · have hwr : IntKind.i64.wrap ((i : Int) + 1) = ((i + 1 : Nat) : Int) := by rw [wrap64_in (by omega) (by omega)]; omega
    have hat : at_ s i = s[i] := by simp [at_, hlt]
    have hst : m.feed (s.take (i + 1)) = (m.feed (s.take i)).feed1 s[i] := by rw [List.take_succ_eq_append_getElem hlt, feed_append]; rfl
    generalize m.feed (s.take i) = m1 at *
    generalize hb : s[i] = b at *
    have hws : IntKind.i64.wrap ((m1.seen : Int) + 1) = ((m1.seen + 1 : Nat) : Int) := by rw [wrap64_in (by omega) (by omega)]; omega
    have hwh := fun H => white_j (H := H) (b := b)
    have e1 : ((m1.state : Int) = 1) = (m1.state = 1) := propext (by omega)
    have pb : Post p H' (m1.beg b) (H'.set p (mb (m1.beg b) v1)) := a1.setPost rfl rfl
    have ab : At p (H'.set p (mb (m1.beg b) v1)) (m1.beg b) v1 := a1.set rfl rfl
    have hbg : ∀ x, x = (m1.begun || !Tg.Json.white b) → mb { m1 with begun := x } v1 = mb (m1.beg b) v1 := fun x hx => by rw [hx]; rfl
    have gb := ab.get
    have lb := ab.lt
    have hws2 : IntKind.i64.wrap (((m1.beg b).seen : Int) + 1) = ((m1.seen + 1 : Nat) : Int) := hws
    by_cases ho : m1.state = 1
    · have fo := eq_true ho
      have fo2 : (((m1.beg b).state : Int) = 1) = True := eq_true (by show ((m1.state : Int) = 1); omega)
      obtain ⟨H2, e2, p2⟩ := byte_ex (b := b) ab (hwf.beg b)
      obtain ⟨v2, a2⟩ := p2.at_
      have hg2 := a2.get
      have hp2 := a2.lt
      have hws3 : IntKind.i64.wrap ((((m1.beg b).byte b).seen : Int) + 1) = ((m1.seen + 1 : Nat) : Int) := by rw [seen_byte]; exact hws
      rw [feed1_open ho] at hst
      cases hbb : m1.begun with
      | true =>
        have hb2 := hbg true (by rw [hbb]; rfl)
        simp (config := { maxSteps := 4000000 }) [h0, h1, h9, h10, hlt, hg, hp, hbb, hwr, hat, hb, hb2, gb, fo2, e2, hg2, hp2, hws3]
        refine ih (i + 1) _ _ (by omega) ⟨by simp [h0], by simp [h1], by simp [h9], by simp, hlt, ?_⟩
        rw [hst]
        exact ((hpo.trans pb).trans p2).trans (a2.setPost rfl rfl)
      | false =>
        have hb2 := hbg (!Tg.Json.white b) (by rw [hbb]; rfl)
        simp (config := { maxSteps := 4000000 }) [h0, h1, h9, h10, hlt, hg, hp, hbb, hwr, hat, hb, hwh, hb2, gb, fo2, e2, hg2, hp2, hws3]
        refine ih (i + 1) _ _ (by omega) ⟨by simp [h0], by simp [h1], by simp [h9], by simp, hlt, ?_⟩
        rw [hst]
        exact ((hpo.trans pb).trans p2).trans (a2.setPost rfl rfl)
    · have fo2 : (((m1.beg b).state : Int) = 1) = False := eq_false (by show ¬ ((m1.state : Int) = 1); omega)
      have hst2 : m1.feed1 b = { m1.beg b with seen := m1.seen + 1 } := by unfold M.feed1; simp only; rw [if_neg ho]; rfl
      rw [hst2] at hst
      cases hbb : m1.begun with
      | true =>
        have hb2 := hbg true (by rw [hbb]; rfl)
        simp (config := { maxSteps := 4000000 }) [h0, h1, h9, h10, hlt, hg, hp, hbb, hwr, hat, hb, hb2, gb, fo2, hws2]
        refine ih (i + 1) _ _ (by omega) ⟨by simp [h0], by simp [h1], by simp [h9], by simp, hlt, ?_⟩
        rw [hst]
        exact hpo.trans (a1.setPost rfl rfl)
      | false =>
        have hb2 := hbg (!Tg.Json.white b) (by rw [hbb]; rfl)
        simp (config := { maxSteps := 4000000 }) [h0, h1, h9, h10, hlt, hg, hp, hbb, hwr, hat, hb, hwh, hb2, gb, fo2, hws2]
        refine ih (i + 1) _ _ (by omega) ⟨by simp [h0], by simp [h1], by simp [h9], by simp, hlt, ?_⟩
        rw [hst]
        exact hpo.trans (a1.setPost rfl rfl)
  · have hi2 : s.take i = s := List.take_of_length_le (by omega)
    rw [hi2] at hpo a1
    have e := tell_l a1
    simp [h0, h1, h9, h10, hlt, e]
    exact hpo
theorem state_l (h : At p H m v) : LC Tryz.prog EJ 40 [ptr p 0] H = some (.int .i64 (m.tell : Nat), H) := by
  refine LC_pure rfl Tryz.func40 rfl (Nat.le_of_ble_eq_true rfl) (by decide) (by kernel_rfl) rfl ?_
  simp [tell_l h]
theorem begun_l (h : At p H m v) : LC Tryz.prog EJ 38 [ptr p 0] H = some (.bool m.begun, H) := by
  refine LC_pure rfl Tryz.func38 rfl (Nat.le_of_ble_eq_true rfl) (by decide) (by kernel_rfl) rfl ?_
  have hg := h.get
  simp [hg]
theorem mb_new {d : Nat} : (⟨[.int .i64 d, .slice none 0 0, .int .i64 0, .bool false, str [], .int .i64 0, .bool false, .int .i64 1, .int .i64 (-1), .int .i64 0], 65, true⟩ : LB) = mb (M.start d) (.slice none 0 0) := rfl
theorem new_l {d : Nat} (h1 : d ≤ 200) : LC Tryz.prog EJ 33 [.int .i64 (d : Nat)] H = some (.tuple #[ptr H.n 0, .int .i64 0], H.new (mb (M.start d) (.slice none 0 0))) := by
  obtain ⟨r, h, e⟩ := LC_runs (Q := fun r => r = (.tuple #[ptr H.n 0, .int .i64 0], H.new (mb (M.start d) (.slice none 0 0)))) (P := Tryz.prog) (E := EJ) (H := H) (args := [.int .i64 (d : Nat)]) rfl Tryz.func33 rfl (Nat.le_of_ble_eq_true rfl) (by decide) (by kernel_rfl) (by
    have f1 : ((d : Int) < 0) = False := eq_false (by omega)
    have f2 : (200 < (d : Int)) = False := eq_false (by omega)
    simp (config := { maxSteps := 4000000 }) [f1, f2, mb_new])
  rw [h, e, trunc_not (by simp [flatB, flat1B, atomB])]
theorem at_new {d : Nat} (h1 : d ≤ 200) (hd : ∀ l, H.n ≤ l → H.get l = none) : At H.n (H.new (mb (M.start d) (.slice none 0 0))) (M.start d) (.slice none 0 0) :=
  ⟨get_new, Nat.lt_succ_self _, .inl ⟨rfl, rfl⟩, fun l hl => by
    have : H.n + 1 ≤ l := hl
    rw [get_new_ne (by omega)]; exact hd l (by omega), by simp [M.start], by simp [M.start]; omega⟩
end
end Go.Proofs.YtgnefbngkhjfcaaGreatDoor.Jn
/-
  The machine of layer 29 (lexer): where it lies, with the machines of both layers below.
-/
set_option linter.unusedSimpArgs false
set_option linter.unusedVariables false
set_option maxRecDepth 100000
namespace Go.Proofs.YtgnefbngkhjfcaaGreatDoor.Jn
open Go.Lg Tg.Json
section
variable {p : Nat} {H H' : LH} {m m' : M} {v v' : Value}
theorem At.back (h : At p H m v) (ha : At p H' m' v') (hle : H.le H') : At p H m' v' := by
  have hg := ha.get
  rw [hle.2 p h.lt, h.get] at hg
  injection hg with hg
  have hv := mb_inj hg
  subst hv
  exact ⟨by rw [h.get, hg], h.lt, ha.row.keep (fun k hk hn => (hle.2 k (h.row_lt hn)).symm), h.dom, ha.len, ha.depth⟩
end
end Go.Proofs.YtgnefbngkhjfcaaGreatDoor.Jn
namespace Go.Proofs.YtgnefbngkhjfcaaGreatDoor
open Go.Lg
section
open Tg.Js
variable {p : Nat} {H H' : LH} {m m' : M} {v v' : Value}
theorem At.back (h : At p H m v) (ha : At p H' m' v') (hle : H.le H') : At p H m' v' := by
  have hg := ha.get
  rw [hle.2 p h.lt, h.get] at hg
  injection hg with hg
  have hv := mb_inj hg
  subst hv
  exact ⟨by rw [h.get, hg], h.lt, ha.row.keep (fun k hk hn => (hle.2 k (h.row_lt hn)).symm), h.dom, ha.len, ha.depth⟩
end
end Go.Proofs.YtgnefbngkhjfcaaGreatDoor
namespace Go.Proofs.YtgnefbngkhjfcaaGreatDoor.Lx
open Go.Lg Tg.Lx

/-- the machine's cells -/
def lc (m : L) (pj ps : Nat) : List Value := [ptr pj 0, ptr ps 0, .int .i64 m.verdict, str m.reason, .int .i64 m.at_, .int .i64 m.seen, .bool m.ended]
def lb (m : L) (pj ps : Nat) : LB := ⟨lc m pj ps, 45, true⟩
section
variable {H : LH} {b : UInt8} {m : L} {p pj ps : Nat}
@[simp] theorem lb_len : (lb m pj ps).cells.length = 7 := by simp only [lb, lc]; simp only [List.length_cons, List.length_nil]
@[simp] theorem lb_rw : (lb m pj ps).rw = true := by simp only [lb]
@[simp] theorem ld_j : (lb m pj ps).cells[0]? = some (ptr pj 0) := rfl
@[simp] theorem lg_j {hl : 0 < (lb m pj ps).cells.length} : (lb m pj ps).cells[0]'hl = ptr pj 0 := rfl
@[simp] theorem ld_s : (lb m pj ps).cells[1]? = some (ptr ps 0) := rfl
@[simp] theorem lg_s {hl : 1 < (lb m pj ps).cells.length} : (lb m pj ps).cells[1]'hl = ptr ps 0 := rfl
@[simp] theorem ld_verdict : (lb m pj ps).cells[2]? = some (.int .i64 m.verdict) := rfl
@[simp] theorem lg_verdict {hl : 2 < (lb m pj ps).cells.length} : (lb m pj ps).cells[2]'hl = .int .i64 m.verdict := rfl
@[simp] theorem st_verdict {x : Int} : (⟨(lb m pj ps).cells.set 2 (.int .i64 x), (lb m pj ps).elem, true⟩ : LB) = lb { m with verdict := x } pj ps := rfl
@[simp] theorem ld_reason : (lb m pj ps).cells[3]? = some (str m.reason) := rfl
@[simp] theorem lg_reason {hl : 3 < (lb m pj ps).cells.length} : (lb m pj ps).cells[3]'hl = str m.reason := rfl
@[simp] theorem st_reason {x : List UInt8} : (⟨(lb m pj ps).cells.set 3 (str x), (lb m pj ps).elem, true⟩ : LB) = lb { m with reason := x } pj ps := rfl
@[simp] theorem ld_at : (lb m pj ps).cells[4]? = some (.int .i64 m.at_) := rfl
@[simp] theorem lg_at {hl : 4 < (lb m pj ps).cells.length} : (lb m pj ps).cells[4]'hl = .int .i64 m.at_ := rfl
@[simp] theorem st_at {x : Int} : (⟨(lb m pj ps).cells.set 4 (.int .i64 x), (lb m pj ps).elem, true⟩ : LB) = lb { m with at_ := x } pj ps := rfl
@[simp] theorem ld_seen : (lb m pj ps).cells[5]? = some (.int .i64 m.seen) := rfl
@[simp] theorem lg_seen {hl : 5 < (lb m pj ps).cells.length} : (lb m pj ps).cells[5]'hl = .int .i64 m.seen := rfl
@[simp] theorem st_seen {x : Int} : (⟨(lb m pj ps).cells.set 5 (.int .i64 x), (lb m pj ps).elem, true⟩ : LB) = lb { m with seen := x } pj ps := rfl
@[simp] theorem ld_ended : (lb m pj ps).cells[6]? = some (.bool m.ended) := rfl
@[simp] theorem lg_ended {hl : 6 < (lb m pj ps).cells.length} : (lb m pj ps).cells[6]'hl = .bool m.ended := rfl
@[simp] theorem st_ended {x : Bool} : (⟨(lb m pj ps).cells.set 6 (.bool x), (lb m pj ps).elem, true⟩ : LB) = lb { m with ended := x } pj ps := rfl
/-- all that lies of a lexer: its own block, both machines, their rows; all of it behind what was there in H0 -/
structure At (H0 : LH) (p pj ps : Nat) (vj vs : Value) (H : LH) (m : L) : Prop where
  get : H.get p = some (lb m pj ps)
  lt : p < H.n
  aj : Jn.At pj H m.j vj
  aS : Go.Proofs.YtgnefbngkhjfcaaGreatDoor.At ps H m.s vs
  d1 : p ≠ pj
  d2 : p ≠ ps
  d3 : pj ≠ ps
  o1 : offRow vj p
  o2 : offRow vs p
  o3 : offRow vj ps
  o4 : offRow vs pj
  o5 : ∀ k, offRow vj k ∨ offRow vs k
  tab : Tab H
  wf : Tg.Json.JWF m.j
  n0 : H0.n ≤ H.n
  b0 : H0.n ≤ p ∧ H0.n ≤ pj ∧ H0.n ≤ ps
  r0 : ∀ k, k < H0.n → offRow vj k ∧ offRow vs k
  keep : ∀ k, k < H0.n → H.get k = H0.get k
def Post (H0 : LH) (p pj ps : Nat) (m : L) (H : LH) : Prop := ∃ vj vs, At H0 p pj ps vj vs H m
variable {H0 H' : LH} {m' : L} {vj vs vj' vs' : Value}
theorem At.post (h : At H0 p pj ps vj vs H m) : Post H0 p pj ps m H := ⟨_, _, h⟩
theorem At.le (h : At H0 p pj ps vj vs H m) : H0.le H := ⟨h.n0, h.keep⟩
/-- the lexer's own cells are written -/
theorem At.set (h : At H0 p pj ps vj vs H m) (hj : m'.j = m.j) (hs : m'.s = m.s) : At H0 p pj ps vj vs (H.set p (lb m' pj ps)) m' := by
  refine ⟨get_set, h.lt, ?_, ?_, h.d1, h.d2, h.d3, h.o1, h.o2, h.o3, h.o4, h.o5, h.tab, by rw [hj]; exact h.wf, h.n0, h.b0, h.r0, fun k hk => ?_⟩
  · rw [hj]
    exact h.aj.keep (Nat.le_refl _) (fun k hk hx => get_set_ne (fun e => by rcases hx with hx | hx; exact h.d1 (e.symm.trans hx); exact hx (e ▸ h.o1))) (fun l hl => by have hl' : H.n ≤ l := hl; have := h.lt; rw [get_set_ne (by omega)]; exact h.aj.dom l hl')
  · rw [hs]
    exact h.aS.keep (Nat.le_refl _) (fun k hk hx => get_set_ne (fun e => by rcases hx with hx | hx; exact h.d2 (e.symm.trans hx); exact hx (e ▸ h.o2))) (fun l hl => by have hl' : H.n ≤ l := hl; have := h.lt; rw [get_set_ne (by omega)]; exact h.aS.dom l hl')
  · rw [get_set_ne (by have := h.b0.1; omega)]; exact h.keep k hk
/-- a new block -/
theorem At.new (h : At H0 p pj ps vj vs H m) {B : LB} : At H0 p pj ps vj vs (H.new B) m :=
  ⟨by rw [get_new_ne (by have := h.lt; omega)]; exact h.get, Nat.lt_succ_of_lt h.lt, h.aj.new, h.aS.new, h.d1, h.d2, h.d3, h.o1, h.o2, h.o3, h.o4, h.o5, h.tab, h.wf, Nat.le_succ_of_le h.n0, h.b0, h.r0,
    fun k hk => by have := h.n0; rw [get_new_ne (by omega)]; exact h.keep k hk⟩
/-- the machine of JSON has gone on -/
theorem At.goJ (h : At H0 p pj ps vj vs H m) {j' : Tg.Json.M} (hp : Jn.Post pj H j' H') (hw : Tg.Json.JWF j') : ∃ vj', At H0 p pj ps vj' vs H' { m with j := j' } := by
  obtain ⟨vj', ha⟩ := hp.at_
  have k := hp.fr _ _ _ h.aj ha
  have hlt := h.aS.lt
  refine ⟨vj', by rw [k.keep p h.lt h.d1 h.o1]; exact h.get, Nat.lt_of_lt_of_le h.lt k.n, ha, ?_, h.d1, h.d2, h.d3, k.off p h.lt h.d1 h.o1, h.o2, k.off ps hlt (Ne.symm h.d3) h.o3, h.o4, fun q => ?_, ⟨by rw [k.ng]; exact h.tab.1, by rw [k.base]; exact h.tab.2⟩, hw, Nat.le_trans h.n0 k.n, h.b0, fun q hq => ?_, fun q hq => ?_⟩
  · refine h.aS.keep k.n (fun q hq hx => ?_) ha.dom
    rcases hx with rfl | hx
    · exact k.keep _ hq (Ne.symm h.d3) h.o3
    · refine k.keep q hq (fun e => hx (e ▸ h.o4)) ?_
      rcases h.o5 q with h5 | h5
      · exact h5
      · exact absurd h5 hx
  · by_cases hx : offRow vs q
    · exact .inr hx
    · refine .inl (k.off q (h.aS.row_lt hx) (fun e => hx (e ▸ h.o4)) ?_)
      rcases h.o5 q with h5 | h5
      · exact h5
      · exact absurd h5 hx
  · have := h.b0.2.1
    have hn := h.n0
    exact ⟨k.off q (by omega) (by omega) (h.r0 q hq).1, (h.r0 q hq).2⟩
  · have := h.b0.2.1
    have hn := h.n0
    rw [k.keep q (by omega) (by omega) (h.r0 q hq).1]; exact h.keep q hq
theorem At.goS (h : At H0 p pj ps vj vs H m) {s' : Tg.Js.M} (hp : Go.Proofs.YtgnefbngkhjfcaaGreatDoor.Post ps H s' H') : ∃ vs', At H0 p pj ps vj vs' H' { m with s := s' } := by
  obtain ⟨vs', ha⟩ := hp.at_
  have k := hp.fr _ _ _ h.aS ha
  have hlt := h.aj.lt
  refine ⟨vs', by rw [k.keep p h.lt h.d2 h.o2]; exact h.get, Nat.lt_of_lt_of_le h.lt k.n, ?_, ha, h.d1, h.d2, h.d3, h.o1, k.off p h.lt h.d2 h.o2, h.o3, k.off pj hlt h.d3 h.o4, fun q => ?_, ⟨by rw [k.ng]; exact h.tab.1, by rw [k.base]; exact h.tab.2⟩, h.wf, Nat.le_trans h.n0 k.n, h.b0, fun q hq => ?_, fun q hq => ?_⟩
  · refine h.aj.keep k.n (fun q hq hx => ?_) ha.dom
    rcases hx with rfl | hx
    · exact k.keep _ hq h.d3 h.o4
    · refine k.keep q hq (fun e => hx (e ▸ h.o3)) ?_
      rcases h.o5 q with h5 | h5
      · exact absurd h5 hx
      · exact h5
  · by_cases hx : offRow vj q
    · exact .inl hx
    · refine .inr (k.off q (h.aj.row_lt hx) (fun e => hx (e ▸ h.o3)) ?_)
      rcases h.o5 q with h5 | h5
      · exact absurd h5 hx
      · exact h5
  · have := h.b0.2.2
    have hn := h.n0
    exact ⟨(h.r0 q hq).1, k.off q (by omega) (by omega) (h.r0 q hq).2⟩
  · have := h.b0.2.2
    have hn := h.n0
    rw [k.keep q (by omega) (by omega) (h.r0 q hq).2]; exact h.keep q hq
/-- a method of the lexer -/
theorem meth_exv {u : Value} {f : FuncId} {fn : Func} {c : Code} {args : List Value} (he : EJ f = none) (hf : Tryz.prog.funcs[f]? = some fn) (hb : fn.body = some c) (hN : args.length ≤ fn.ntmps) (hname : fn.name ≠ "runtime.NumGoroutine") (hcd : codeOk EJ.loud c = true)
    (h : At H0 p pj ps vj vs H m) (hr : Runs Tryz.prog EJ fn [.code c] (enter args) H (fun r => r.1 = u ∧ Post H0 p pj ps m' r.2)) : ∃ H', LC Tryz.prog EJ f args H = some (u, H') ∧ Post H0 p pj ps m' H' := by
  obtain ⟨⟨u', H'⟩, hl, hu, hp⟩ := LC_runs he hf hb hN hname hcd hr
  simp only at hu
  subst hu
  rcases trunc_or u' H H' with e | ⟨e, _, hle⟩
  · exact ⟨H', by rw [hl, e], hp⟩
  · refine ⟨H, by rw [hl, e], ?_⟩
    obtain ⟨vj', vs', ha⟩ := hp
    refine ⟨vj', vs', ?_, h.lt, h.aj.back ha.aj hle, h.aS.back ha.aS hle, h.d1, h.d2, h.d3, ha.o1, ha.o2, ha.o3, ha.o4, ha.o5, h.tab, ha.wf, h.n0, h.b0, ha.r0, h.keep⟩
    rw [← hle.2 p h.lt]; exact ha.get
end
end Go.Proofs.YtgnefbngkhjfcaaGreatDoor.Lx
/-
  The machine of layer 29 (lexer): bytes, the end, all at once.
-/
set_option linter.unusedSimpArgs false
set_option linter.unusedVariables false
set_option maxRecDepth 100000
namespace Go.Proofs.YtgnefbngkhjfcaaGreatDoor.Lx
open Go.Lg Tg.Lx

section
variable {H H' H0 : LH} {b : UInt8} {m m' : L} {p pj ps : Nat} {vj vs : Value} {s : List UInt8}
theorem settle_l {v : Int} {r : List UInt8} (hg : H.get p = some (lb m pj ps)) (hp : p < H.n) : LC Tryz.prog EJ 39 [ptr p 0, .int .i64 v, str r] H = some (.tuple #[], H.set p (lb (m.settle v r) pj ps)) := by
  refine own rfl Tryz.func39 rfl (Nat.le_of_ble_eq_true rfl) (by decide) (by kernel_rfl) hg hp ?_
  simp (config := { maxSteps := 2000000 }) [hg, hp, L.settle]
theorem ends_l {ms : Tg.Js.M} (h : Go.Proofs.YtgnefbngkhjfcaaGreatDoor.At ps H ms vs) : LC Tryz.prog EJ 50 [ptr ps 0] H = some (.int .i64 ms.ends, H) := by
  refine LC_pure rfl Tryz.func50 rfl (Nat.le_of_ble_eq_true rfl) (by decide) (by kernel_rfl) rfl ?_
  have hg := h.get
  simp [hg]
theorem sstate_l {ms : Tg.Js.M} (h : Go.Proofs.YtgnefbngkhjfcaaGreatDoor.At ps H ms vs) : LC Tryz.prog EJ 41 [ptr ps 0] H = some (.int .i64 ms.tell, H) := by
  refine LC_pure rfl Tryz.func41 rfl (Nat.le_of_ble_eq_true rfl) (by decide) (by kernel_rfl) rfl ?_
  simp [tell_l h]
theorem tellJ3 {j : Tg.Json.M} (n : Nat) : ((j.tell : Int) = (n : Int)) = (j.tell = n) := propext (by omega)
theorem look_ex (h : At H0 p pj ps vj vs H m) : ∃ H', LC Tryz.prog EJ 37 [ptr p 0] H = some (.tuple #[], H') ∧ Post H0 p pj ps m.look H' := by
  refine meth_exv rfl Tryz.func37 rfl (Nat.le_of_ble_eq_true rfl) (by decide) (by kernel_rfl) h ?_
  have hg := h.get
  have hp := h.lt
  have hj := Jn.state_l h.aj
  have hs := sstate_l h.aS
  have he := ends_l h.aS
  have hse := fun v r => settle_l (v := v) (r := r) hg hp
  have e3 : ((m.j.tell : Int) = 3) = (m.j.tell = 3) := tellJ3 3
  have e0 : ((m.j.tell : Int) = 0) = (m.j.tell = 0) := tellJ3 0
  have en := fun v r => (h.set (m' := m.settle v r) rfl rfl).post
  unfold L.look
  by_cases c1 : m.j.tell = 3
  · rw [if_pos c1]
    simp (config := { maxSteps := 4000000 }) [hg, hp, hj, hs, he, e3, eq_true c1, hse]
    exact en _ _
  rw [if_neg c1]
  have f1 := eq_false c1
  by_cases c2 : m.s.tell = 0
  · rw [if_pos c2]
    simp (config := { maxSteps := 4000000 }) [hg, hp, hj, hs, he, e3, f1, eq_true c2, hse]
    exact en _ _
  rw [if_neg c2]
  have f2 := eq_false c2
  by_cases c3 : m.j.tell = 0
  · have f3 := eq_true c3
    by_cases c4 : 0 < m.s.ends
    · rw [if_pos ⟨c3, c4⟩]
      simp (config := { maxSteps := 4000000 }) [hg, hp, hj, hs, he, e3, f1, f2, e0, f3, eq_true c4, hse]
      exact en _ _
    · rw [if_neg (fun hx => c4 hx.2)]
      simp (config := { maxSteps := 4000000 }) [hg, hp, hj, hs, he, e3, f1, f2, e0, f3, eq_false c4, hse]
      exact h.post
  · rw [if_neg (fun hx => c3 hx.1)]
    simp (config := { maxSteps := 4000000 }) [hg, hp, hj, hs, he, e3, f1, f2, e0, eq_false c3, hse]
    exact h.post
theorem jseen_step (m : L) (b : UInt8) : (m.step b).j.seen ≤ m.j.seen + 1 := by
  unfold L.step
  split
  · show m.j.seen ≤ _; omega
  · have : ((m.see.take1 b).look).j = m.j.feed [b] := by
      rcases L.look_cases (m.see.take1 b) with e | ⟨v, r, _, e⟩ <;> rw [e] <;> rfl
    rw [this, Tg.Json.seen_feed]; simp
theorem jseen_feed (t : List UInt8) : ∀ m : L, (m.feed t).j.seen ≤ m.j.seen + t.length := by
  induction t with
  | nil => intro m; exact Nat.le_refl _
  | cons b r ih =>
    intro m
    have h1 := ih (m.step b)
    have h2 := jseen_step m b
    show ((m.step b).feed r).j.seen ≤ _
    simp only [List.length_cons]; omega
set_option maxHeartbeats 4000000 in
theorem feed0_ex (h : At H0 p pj ps vj vs H m) (hs : s.length ≤ 1048576) (hse : m.j.seen ≤ 549755813888) : ∃ H', LC Tryz.prog EJ 23 [ptr p 0, str s] H = some (.int .i64 (m.feed s).verdict, H') ∧ Post H0 p pj ps (m.feed s) H' := by
  refine meth_exv rfl Tryz.func23 rfl (Nat.le_of_ble_eq_true rfl) (by decide) (by kernel_rfl) h ?_
  simp
  refine loop_ind (fun (i : Nat) fr' H' => fr' 0 = ptr p 0 ∧ fr' 1 = str s ∧ fr' 7 = .int .i64 s.length ∧ fr' 8 = .int .i64 i ∧ i ≤ s.length ∧ Post H0 p pj ps (m.feed (s.take i)) H') (fun i => s.length - i) 0 ?_ ?_
  · exact ⟨by simp, by simp, by simp, by simp, Nat.zero_le _, h.post⟩
  rintro i fr' H' ⟨h0, h1, h9, h10, hi, vj1, vs1, a1⟩ ih
  have hg := a1.get
  have hp := a1.lt
  have hsn : (m.feed (s.take i)).j.seen ≤ 1099511627776 := by have := jseen_feed (s.take i) m; simp at this; omega
  by_cases hlt : i < s.length
  · have hwr : IntKind.i64.wrap ((i : Int) + 1) = ((i + 1 : Nat) : Int) := by rw [wrap64_in (by omega) (by omega)]; omega
    have hst := L.feed_take m s hlt
    have hsub : sub s (i : Int) ((i : Int) + 1) = [s[i]] := by
      unfold sub
      have e1 : ((i : Int)).toNat = i := by omega
      have e2 : ((i : Int) + 1).toNat = i + 1 := by omega
      rw [e1, e2, List.take_succ_eq_append_getElem hlt, List.drop_append_of_le_length (by simp; omega)]
      rw [List.drop_eq_nil_of_le (by simp; omega)]; rfl
    have hb1 : ((i : Int) ≤ (i : Int) + 1) = True := eq_true (by omega)
    have hb2 : ((i : Int) + 1 ≤ (s.length : Int)) = True := eq_true (by omega)
    generalize m.feed (s.take i) = m1 at *
    generalize s[i] = b at *
    have aS := a1.set (m' := m1.see) rfl rfl
    have gs := aS.get
    have ls := aS.lt
    have hsee : lb { m1 with seen := IntKind.i64.wrap (m1.seen + 1) } pj ps = lb m1.see pj ps := rfl
    unfold L.step at hst
    by_cases c1 : m1.verdict = 0
    · have f1 : (m1.see.verdict = 0) = True := eq_true c1
      cases c2 : m1.ended with
      | true =>
        rw [if_pos (.inr c2)] at hst
        have f2 : m1.see.ended = true := c2
        simp (config := { maxSteps := 4000000 }) [h0, h1, h9, h10, hlt, hg, hp, hwr, hsee, gs, f1, f2]
        refine ih (i + 1) _ _ (by omega) ⟨by simp [h0], by simp [h1], by simp [h9], by simp, hlt, ?_⟩
        rw [hst]; exact aS.post
      | false =>
        rw [if_neg (by rintro (hx | hx); exact hx c1; rw [c2] at hx; cases hx)] at hst
        have f2 : m1.see.ended = false := c2
        obtain ⟨H2, e2, p2⟩ := Jn.feed_ex (s := [b]) aS.aj aS.wf (by simp) hsn
        obtain ⟨vj2, a2⟩ := aS.goJ p2 aS.wf.feed
        obtain ⟨H3, e3, p3⟩ := feed_ex (s := [b]) a2.aS a2.tab (by simp)
        obtain ⟨vs3, a3⟩ := a2.goS p3
        obtain ⟨H4, e4, vj4, vs4, a4⟩ := look_ex a3
        have g2 := a2.get
        have g3 := a3.get
        simp (config := { maxSteps := 4000000 }) [h0, h1, h9, h10, hlt, hg, hp, hwr, hsee, gs, f1, f2, hsub, hb1, hb2, e2, g2, e3, g3, e4]
        refine ih (i + 1) _ _ (by omega) ⟨by simp [h0], by simp [h1], by simp [h9], by simp, hlt, ?_⟩
        rw [hst]; exact ⟨_, _, a4⟩
    · rw [if_pos (.inl c1)] at hst
      have f1 : (m1.see.verdict = 0) = False := eq_false c1
      simp (config := { maxSteps := 4000000 }) [h0, h1, h9, h10, hlt, hg, hp, hwr, hsee, gs, f1]
      refine ih (i + 1) _ _ (by omega) ⟨by simp [h0], by simp [h1], by simp [h9], by simp, hlt, ?_⟩
      rw [hst]; exact aS.post
  · have hi2 : s.take i = s := List.take_of_length_le (by omega)
    rw [hi2] at a1 hg
    simp [h0, h1, h9, h10, hlt, hg]
    exact a1.post
theorem end0_ex (h : At H0 p pj ps vj vs H m) : ∃ H', LC Tryz.prog EJ 24 [ptr p 0] H = some (.int .i64 m.fin.verdict, H') ∧ Post H0 p pj ps m.fin H' := by
  refine meth_exv rfl Tryz.func24 rfl (Nat.le_of_ble_eq_true rfl) (by decide) (by kernel_rfl) h ?_
  have hg := h.get
  have hp := h.lt
  have ae := h.set (m' := { m with ended := true }) rfl rfl
  have ge := ae.get
  have le := ae.lt
  have hj := Jn.state_l ae.aj
  have hb := Jn.begun_l ae.aj
  have hs := sstate_l ae.aS
  have hse := fun v r => settle_l (v := v) (r := r) ge le
  have en := fun v r => (h.set (m' := ({ m with ended := true } : L).settle v r) rfl rfl)
  have sv : ∀ v r, (({ m with ended := true } : L).settle v r).verdict = v := fun _ _ => rfl
  have e0 : ((m.j.tell : Int) = 0) = (m.j.tell = 0) := tellJ3 0
  unfold L.fin
  by_cases c1 : m.verdict ≠ 0
  · rw [if_pos c1]
    have f1 := eq_false c1
    simp (config := { maxSteps := 4000000 }) [hg, hp, ge, le, c1]
    exact ae.post
  rw [if_neg c1]
  have f1 : (m.verdict = 0) = True := eq_true (Classical.byContradiction c1)
  cases c2 : m.j.begun with
  | false =>
    rw [if_pos rfl]
    have hb' := hb
    rw [show ({ m with ended := true } : L).j.begun = false from c2] at hb'
    simp (config := { maxSteps := 4000000 }) [hg, hp, ge, le, f1, hb', hse, sv]
    exact (en _ _).post
  | true =>
    rw [if_neg (by simp)]
    have hb' := hb
    rw [show ({ m with ended := true } : L).j.begun = true from c2] at hb'
    by_cases c3 : m.j.tell ≠ 0
    · rw [if_pos c3]
      have f3 : (m.j.tell = 0) = False := eq_false c3
      simp (config := { maxSteps := 4000000 }) [hg, hp, ge, le, f1, hb', hj, f3, hse, sv]
      exact (en _ _).post
    · rw [if_neg c3]
      have f3 : (m.j.tell = 0) = True := eq_true (by omega)
      by_cases c4 : m.s.tell = 2
      · rw [if_pos c4]
        simp (config := { maxSteps := 4000000 }) [hg, hp, ge, le, f1, hb', hj, f3, hs, eq_true c4, hse, sv]
        exact (en _ _).post
      · rw [if_neg c4]
        simp (config := { maxSteps := 4000000 }) [hg, hp, ge, le, f1, hb', hj, f3, hs, eq_false c4, hse, sv]
        exact (en _ _).post
end
end Go.Proofs.YtgnefbngkhjfcaaGreatDoor.Lx
/-
  The machine of layer 29 (lexer): a new one, all at once; layer 32 (orbparse).
-/
set_option linter.unusedSimpArgs false
set_option linter.unusedVariables false
set_option maxRecDepth 100000
namespace Go.Proofs.YtgnefbngkhjfcaaGreatDoor.Lx
open Go.Lg Tg.Lx

section
variable {H H' H0 : LH} {b : UInt8} {m m' : L} {p pj ps : Nat} {vj vs : Value} {s : List UInt8}
/-- the heap with a new lexer -/
def fresh (d : Nat) (H : LH) : LH := ((H.new (Jn.mb (Tg.Json.M.start d) (.slice none 0 0))).new (Go.Proofs.YtgnefbngkhjfcaaGreatDoor.mb (Tg.Js.new d) (.slice none 0 0))).new (lb (L.new d) H.n (H.n + 1))
theorem lb_new {d pj ps : Nat} : (⟨[ptr pj 0, ptr ps 0, .int .i64 0, str [], .int .i64 (-1), .int .i64 0, .bool false], 45, true⟩ : LB) = lb (L.new d) pj ps := rfl
theorem fresh_l {d : Nat} (h1 : d ≤ 200) : LC Tryz.prog EJ 22 [.int .i64 (d : Nat)] H = some (.tuple #[ptr (H.n + 2) 0, .int .i64 0], fresh d H) := by
  obtain ⟨r, h, e⟩ := LC_runs (Q := fun r => r = (.tuple #[ptr (H.n + 2) 0, .int .i64 0], fresh d H)) (P := Tryz.prog) (E := EJ) (H := H) (args := [.int .i64 (d : Nat)]) rfl Tryz.func22 rfl (Nat.le_of_ble_eq_true rfl) (by decide) (by kernel_rfl) (by
    have e1 := Jn.new_l (H := H) h1
    have e2 : LC Tryz.prog EJ 34 [.int .i64 (d : Nat)] (H.new (Jn.mb (Tg.Json.M.start d) (.slice none 0 0))) = some (.tuple #[ptr (H.n + 1) 0, .int .i64 0], (H.new (Jn.mb (Tg.Json.M.start d) (.slice none 0 0))).new (Go.Proofs.YtgnefbngkhjfcaaGreatDoor.mb (Tg.Js.new d) (.slice none 0 0))) := New_l (by omega) (by omega)
    simp (config := { maxSteps := 4000000 }) [e1, e2, lb_new (d := d), fresh])
  rw [h, e, trunc_not (by simp [flatB, flat1B, atomB])]
theorem at_fresh {d : Nat} (h1 : d ≤ 200) (hd : ∀ l, H.n ≤ l → H.get l = none) (ht : Tab H) : At H (H.n + 2) H.n (H.n + 1) (.slice none 0 0) (.slice none 0 0) (fresh d H) (L.new d) := by
  have aj := Jn.at_new (H := H) h1 hd
  have aT := at_new (H := H.new (Jn.mb (Tg.Json.M.start d) (.slice none 0 0))) (d := (d : Int)) (by omega) (by omega) aj.dom
  have aT' := aT.new (B := lb (L.new d) H.n (H.n + 1))
  have aj' := (aj.new (B := Go.Proofs.YtgnefbngkhjfcaaGreatDoor.mb (Tg.Js.new d) (.slice none 0 0))).new (B := lb (L.new d) H.n (H.n + 1))
  refine ⟨get_new, Nat.lt_succ_self _, aj', aT', by omega, by omega, by omega, off_nil, off_nil, off_nil, off_nil, fun _ => .inl off_nil, ⟨ht.1, ht.2⟩, Tg.Json.JWF.start h1, ?_, ⟨by omega, Nat.le_refl _, by omega⟩, fun _ _ => ⟨off_nil, off_nil⟩, fun k hk => ?_⟩
  · show H.n ≤ H.n + 1 + 1 + 1; omega
  · unfold fresh
    rw [get_new_ne (by show k ≠ H.n + 1 + 1; omega), get_new_ne (by show k ≠ H.n + 1; omega), get_new_ne (by omega)]
/-- what is judged -/
def jv (v : Int) (r : List UInt8) (a : Int) : Value := .agg ⟨[.int .i64 v, str r, .int .i64 a, .bool false]⟩
@[simp] theorem flat_jv {v : Int} {r : List UInt8} {a : Int} : flatB (jv v r a) = true := by simp [jv, flatB, flat1B]
def jb (v : Int) (r : List UInt8) (a : Int) : LB := ⟨[.int .i64 v, str r, .int .i64 a, .bool false], 24, true⟩
@[simp] theorem jb_cells {v : Int} {r : List UInt8} {a : Int} : (jb v r a).cells = [.int .i64 v, str r, .int .i64 a, .bool false] := by simp only [jb]
@[simp] theorem jb_rw {v : Int} {r : List UInt8} {a : Int} : (jb v r a).rw = true := by simp only [jb]
/-- all at once, in plain words -/
def wholeP (s : List UInt8) (d : Nat) (en : Bool) : L := if en then ((L.new d).feed s).fin else (L.new d).feed s
def atP (m : L) : Int := if m.at_ < 0 then 0 else m.at_
theorem clampN (d : Int) : ∃ D : Nat, (D : Int) = clamp d ∧ D ≤ 200 := by
  have hc : 0 ≤ clamp d ∧ clamp d ≤ 200 := by unfold clamp; repeat' split
                                              all_goals omega
  exact ⟨(clamp d).toNat, by omega, by omega⟩
theorem whole_l {d : Int} {en : Bool} {D : Nat} (hD : (D : Int) = clamp d) (h2 : D ≤ 200) (hd : ∀ l, H.n ≤ l → H.get l = none) (ht : Tab H) (hs : s.length ≤ 1048576) :
    LC Tryz.prog EJ 7 [str s, .int .i64 d, .bool en] H = some (jv (wholeP s D en).verdict (wholeP s D en).reason (atP (wholeP s D en)), H) := by
  refine LC_pure rfl Tryz.func7 rfl (Nat.le_of_ble_eq_true rfl) (by decide) (by kernel_rfl) flat_jv ?_
  have hcl : (if 200 < (if d < 0 then (0 : Int) else d) then (200 : Int) else if d < 0 then 0 else d) = (D : Int) := by rw [hD]; unfold clamp; rfl
  have hd1 : ∀ l, (H.new (jb 0 [] 0)).n ≤ l → (H.new (jb 0 [] 0)).get l = none := fun l hl => by
    have hl' : H.n + 1 ≤ l := hl
    rw [get_new_ne (by omega)]; exact hd l (by omega)
  have hjb : (⟨[.int .i64 0, str [], .int .i64 0, .bool false], 24, true⟩ : LB) = jb 0 [] 0 := rfl
  have ef : LC Tryz.prog EJ 22 [.int .i64 (D : Nat)] (H.new (jb 0 [] 0)) = some (.tuple #[ptr (H.n + 3) 0, .int .i64 0], fresh D (H.new (jb 0 [] 0))) := fresh_l h2
  have a0 := at_fresh (H := H.new (jb 0 [] 0)) h2 hd1 ⟨ht.1, ht.2⟩
  have a0' : At (H.new (jb 0 [] 0)) (H.n + 3) (H.n + 1) (H.n + 2) (.slice none 0 0) (.slice none 0 0) (fresh D (H.new (jb 0 [] 0))) (L.new D) := a0
  obtain ⟨H1, e1, vj1, vs1, a1⟩ := feed0_ex a0' hs (by show (0 : Nat) ≤ _; omega)
  cases en with
  | false =>
    have hm : wholeP s D false = (L.new D).feed s := rfl
    rw [hm]
    generalize (L.new D).feed s = m at *
    have g1 := a1.get
    have k1 : H1.get H.n = some (jb 0 [] 0) := by rw [a1.keep H.n (Nat.lt_succ_self _)]; exact get_new
    have hle : H.le H1 := le_refl.new.trans a1.le
    have k1n : H.n < H1.n := Nat.lt_of_lt_of_le (Nat.lt_succ_self _) a1.n0
    have hat : (if m.at_ < 0 then (0 : Int) else m.at_) = atP m := rfl
    simp (config := { maxSteps := 4000000 }) [hjb, hcl, ef, e1, g1, k1, hat, jv, splice, hle.set]
  | true =>
    have hm : wholeP s D true = ((L.new D).feed s).fin := rfl
    rw [hm]
    generalize (L.new D).feed s = m at *
    obtain ⟨H2, e2, vj2, vs2, a2⟩ := end0_ex a1
    generalize m.fin = m2 at *
    have g2 := a2.get
    have k2 : H2.get H.n = some (jb 0 [] 0) := by rw [a2.keep H.n (Nat.lt_succ_self _)]; exact get_new
    have hle : H.le H2 := le_refl.new.trans a2.le
    have hat : (if m2.at_ < 0 then (0 : Int) else m2.at_) = atP m2 := rfl
    simp (config := { maxSteps := 4000000 }) [hjb, hcl, ef, e1, e2, g2, k2, hat, jv, splice, hle.set]
end
end Go.Proofs.YtgnefbngkhjfcaaGreatDoor.Lx
/-
  Layer 32 (orbparse), and the laws of layers 29 and 32 that need no reference.
-/
set_option linter.unusedSimpArgs false
set_option linter.unusedVariables false
set_option maxRecDepth 100000
namespace Go.Proofs.YtgnefbngkhjfcaaGreatDoor.Lx
open Go.Lg Tg.Lx

section
variable {H H' H0 : LH} {b : UInt8} {m m' : L} {p pj ps : Nat} {vj vs : Value} {s t : List UInt8}
/-- rules -/
def rv (l : Bool) (k d : Int) : Value := .agg ⟨[.bool l, .int .i64 k, .int .i64 d]⟩
@[simp] theorem flat_rv {l : Bool} {k d : Int} : flatB (rv l k d) = true := by simp [rv, flatB, flat1B]
def lim (k : Int) : Int := if 1048576 < (if k < 1445 then (1445 : Int) else k) then 1048576 else if k < 1445 then 1445 else k
def snAt (n : Int) : Int := if 1445 < (if n < 0 then (0 : Int) else n) then 1445 else if n < 0 then 0 else n
theorem limit_l {l : Bool} {k d : Int} : LC Tryz.prog EJ 29 [rv l k d] H = some (.int .i64 (lim k), H) := by
  refine LC_pure rfl Tryz.func29 rfl (Nat.le_of_ble_eq_true rfl) (by decide) (by kernel_rfl) rfl ?_
  simp [rv, lim, le_refl.new]
theorem snAt_l {n : Int} : LC Tryz.prog EJ 30 [.int .i64 n] H = some (.int .i64 (snAt n), H) := by
  refine LC_pure rfl Tryz.func30 rfl (Nat.le_of_ble_eq_true rfl) (by decide) (by kernel_rfl) rfl ?_
  simp [snAt]
theorem lim_in (k : Int) : 1445 ≤ lim k ∧ lim k ≤ 1048576 := by
  unfold lim; repeat' split
  all_goals omega
/-- what is judged: a verdict, why, where -/
structure J where
  v : Int
  r : List UInt8
  a : Int
def ofP (s : List UInt8) (k : Int) (D : Nat) (en : Bool) : J :=
  let m := wholeP (s.take (if lim k < s.length then lim k else s.length).toNat) D (en && decide ((s.length : Int) < lim k))
  if m.verdict ≠ 0 then ⟨m.verdict, m.reason, if atP m < snAt s.length then snAt s.length else atP m⟩
  else if lim k ≤ (s.length : Int) then ⟨2, L.rLimit, lim k⟩
  else ⟨m.verdict, m.reason, atP m⟩
def J.val (j : J) : Value := jv j.v j.r j.a
@[simp] theorem flat_jval {j : J} : flatB j.val = true := flat_jv
theorem of_l {l : Bool} {k d : Int} {en : Bool} {D : Nat} (hD : (D : Int) = clamp d) (h2 : D ≤ 200) (hd : ∀ l, H.n ≤ l → H.get l = none) (ht : Tab H) (hs : s.length ≤ 9223372036854775807) :
    LC Tryz.prog EJ 10 [str s, rv l k d, .bool en] H = some ((ofP s k D en).val, H) := by
  refine LC_pure rfl Tryz.func10 rfl (Nat.le_of_ble_eq_true rfl) (by decide) (by kernel_rfl) flat_jval ?_
  obtain ⟨hk1, hk2⟩ := lim_in k
  unfold ofP
  dsimp only
  have hl : ∀ H, LC Tryz.prog EJ 29 [.agg ⟨[.bool l, .int .i64 k, .int .i64 d]⟩] H = some (.int .i64 (lim k), H) := fun H => limit_l
  generalize lim k = K at *
  have ha := fun H => snAt_l (H := H) (n := s.length)
  generalize snAt s.length = q at *
  have hmin : (if (K : Int) < s.length then K else (s.length : Int)) ≤ s.length := by split <;> omega
  have hmin0 : 0 ≤ (if (K : Int) < s.length then K else (s.length : Int)) := by split <;> omega
  generalize hN : (if (K : Int) < s.length then K else (s.length : Int)) = N at *
  have hlen : (s.take N.toNat).length ≤ 1048576 := by
    have : N ≤ 1048576 := by rw [← hN]; split <;> omega
    simp; omega
  generalize hu : s.take N.toNat = u at *
  have B1 : ∀ (en2 : Bool), LC Tryz.prog EJ 7 [str u, .int .i64 d, .bool en2] ((H.new ⟨[.bool l, .int .i64 k, .int .i64 d], 29, true⟩).new (jb 0 [] 0)).ro = some (jv (wholeP u D en2).verdict (wholeP u D en2).reason (atP (wholeP u D en2)), ((H.new ⟨[.bool l, .int .i64 k, .int .i64 d], 29, true⟩).new (jb 0 [] 0)).ro) := fun en2 => by
    refine whole_l hD h2 (fun j hj => ?_) ⟨ht.1, ht.2⟩ hlen
    have hj' : H.n + 1 + 1 ≤ j := hj
    rw [get_ro, get_new_ne (by show j ≠ H.n + 1; omega), get_new_ne (by omega), hd j (by omega)]; rfl
  have hjb : (⟨[.int .i64 0, str [], .int .i64 0, .bool false], 24, true⟩ : LB) = jb 0 [] 0 := rfl
  have hle : H.le (((H.new ⟨[.bool l, .int .i64 k, .int .i64 d], 29, true⟩).new (jb 0 [] 0)).new (jb 0 [] 0)) := le_refl.new.new.new
  have hfa : ∀ (v : Int) (r : List UInt8) (a : Int), flatB (.agg ⟨[.int .i64 v, str r, .int .i64 a, .bool false]⟩) = true := fun v r a => flat_jv
  have c1 : ((s.length : Int) < K) = True ∧ (K ≤ (s.length : Int)) = False ∨ ((s.length : Int) < K) = False ∧ (K ≤ (s.length : Int)) = True := by
    rcases Int.lt_or_le (s.length : Int) K with h1 | h1
    · exact .inl ⟨eq_true h1, eq_false (by omega)⟩
    · exact .inr ⟨eq_false (by omega), eq_true h1⟩
  obtain ⟨en2, h2e⟩ : ∃ en2, en2 = (en && decide ((s.length : Int) < K)) := ⟨_, rfl⟩
  rw [← h2e]
  have B2 := B1 en2
  generalize wholeP u D en2 = m at *
  have c2 : m.verdict = 0 ∨ m.verdict ≠ 0 := Decidable.em _
  generalize atP m = am at *
  rcases c1 with ⟨f1, f2⟩ | ⟨f1, f2⟩ <;> cases en <;> simp only [f1, decide_true, decide_false, Bool.true_and, Bool.false_and] at h2e <;> subst h2e <;> rcases c2 with f3 | f3 <;> simp (config := { maxSteps := 4000000, maxDischargeDepth := 9 }) [rv, jv, J.val, hl, ha, hjb, hN, hu, hmin, hmin0, f1, f2, f3, B2, hfa, splice, L.rLimit, LH.le.set, LH.le.new]
end
end Go.Proofs.YtgnefbngkhjfcaaGreatDoor.Lx
/-
  The reference of layer 29 (lexer), of layer 32 (orbparse).
-/
set_option linter.unusedSimpArgs false
set_option linter.unusedVariables false
set_option maxRecDepth 100000
namespace Go.Proofs.YtgnefbngkhjfcaaGreatDoor.Lx
open Go.Lg Tg.Lx
open Go.Proofs.YtgnefbngkhjfcaaGreatDoor.Rd (sv rb drop_at sub_take)
section
variable {H : LH} {s : List UInt8} {D : Nat}
theorem rwhole_l (hD : D ≤ 200) (hs : s.length ≤ 1000000) : LC Tryz.prog EJ 26 [str s, .int .i64 (D : Int)] H = some (.tuple #[.int .i64 ((Tg.Json.whole s D).1 : Int), .int .i64 (Tg.Json.whole s D).2], H) := by
  refine LC_ext (s := specWhole27) rfl ?_
  simp only [specWhole27, str]
  rw [if_pos ⟨by rw [ba_size]; omega, by omega, by omega⟩]
  rfl
theorem rbegun_l (hs : s.length ≤ 1000000) : LC Tryz.prog EJ 27 [str s] H = some (.bool (decide (Tg.Json.skip s < s.length)), H) := by
  refine LC_ext (s := specBegun27) rfl ?_
  simp only [specBegun27, str]
  rw [if_pos (by rw [ba_size]; omega), ba_size]
theorem rstate_l {x : Tg.Rd.R} : LC Tryz.prog EJ 28 [sv x] H = some (.int .i64 x.state, H) := by
  refine LC_pure rfl Tryz.func28 rfl (Nat.le_of_ble_eq_true rfl) (by decide) (by kernel_rfl) rfl ?_
  unfold Tg.Rd.R.state
  by_cases c1 : 0 ≤ x.bad
  · simp [sv, Rd.rcs, eq_true c1, le_refl.new]
  · cases c2 : x.within with
    | true => simp [sv, Rd.rcs, eq_false c1, c2, le_refl.new]
    | false =>
      by_cases c3 : x.opn = []
      · simp [sv, Rd.rcs, eq_false c1, c2, c3, le_refl.new]
      · simp [sv, Rd.rcs, eq_false c1, c2, eq_false c3, c3, le_refl.new]
theorem jz_eq : (⟨[.int .i64 0, str [], .int .i64 0, .bool false], 24, true⟩ : LB) = jb 0 [] 0 := rfl
theorem jbuild0 : lbE Tryz.prog 24 (some (.agg ⟨[.int .i64 0, .string ⟨#[]⟩, .int .i64 0, .bool false]⟩)) [] = some (.agg ⟨[.int .i64 0, .string ⟨#[]⟩, .int .i64 0, .bool false]⟩) := by kernel_rfl
theorem natI (a b : Nat) : ((a : Int) = (b : Int)) = (a = b) := propext (by omega)
theorem at_some {i : Nat} (h : i < s.length) : (s[i]? = some 32) ↔ at_ s (i : Int) = 32 := by
  simp [at_, h]
set_option maxHeartbeats 4000000 in
theorem ref29_l {en : Bool} (h2 : D ≤ 200) (hd : ∀ l, H.n ≤ l → H.get l = none) (hs : s.length ≤ 900000) : LC Tryz.prog EJ 8 [str s, .int .i64 (D : Int), .bool en] H = some (jv (refW s D en).1 (refW s D en).2.1 (refW s D en).2.2, H) := by
  refine LC_pure rfl Tryz.func8 rfl (Nat.le_of_ble_eq_true rfl) (by decide) (by kernel_rfl) flat_jv ?_
  simp (config := { maxSteps := 4000000 }) [jz_eq]
  obtain ⟨G, hG⟩ : ∃ G, refGo s D s.length 1 = G := ⟨_, rfl⟩
  refine loop_ind (fun (n : Nat) fr' H' => fr' 0 = str s ∧ fr' 1 = .int .i64 (D : Int) ∧ fr' 2 = .bool en ∧ fr' 6 = ptr H.n 0 ∧ fr' 7 = .int .i64 ((n + 1 : Nat) : Int) ∧ n ≤ s.length ∧ refGo s D (s.length - n) (n + 1) = G ∧ H'.get H.n = some (jb 0 [] 0) ∧ H.n < H'.n ∧ H.le H' ∧ ∀ l, H'.n ≤ l → H'.get l = none) (fun n => s.length - n) 0 ?_ ?_
  · refine ⟨by simp, by simp, by simp, by simp, by simp, Nat.zero_le _, hG, get_new, Nat.lt_succ_self _, le_refl.new, fun l hl => ?_⟩
    have hl' : H.n + 1 ≤ l := hl
    rw [get_new_ne (by omega)]; exact hd l (by omega)
  rintro n fr' H' ⟨g0, g1, g2, g6, g7, hn, hgo, hz, hzn, hle, hdm⟩ ih
  have w0 : IntKind.i64.wrap (n : Int) = (n : Int) := by rw [wrap64_in (by omega) (by omega)]
  have w2 : IntKind.i64.wrap ((n : Int) + 1 + 1) = (n : Int) + 1 + 1 := by rw [wrap64_in (by omega) (by omega)]
  have lo : ∀ B : LB, H.le (H'.set H.n B) := fun B => hle.set (Nat.le_refl _)
  by_cases hlt : n < s.length
  · have hlt' : ((n : Int) + 1 ≤ (s.length : Int)) = True := eq_true (by omega)
    have hlt2 : ((n : Int) < (s.length : Int)) = True := eq_true (by omega)
    obtain ⟨f, hf⟩ : ∃ f, s.length - n = f + 1 := ⟨s.length - n - 1, by omega⟩
    rw [hf] at hgo
    unfold refGo at hgo
    have hgo2 : s.length - (n + 1) = f := by omega
    have at1 : (s[n + 1 - 1]? = some 32) ↔ at_ s (n : Int) = 32 := by rw [show n + 1 - 1 = n by omega]; exact at_some hlt
    have p0 : (0 ≤ (n : Int) + 1) = True := eq_true (by omega)
    have p1 : ((n : Int) + 1).toNat = n + 1 := by omega
    have u3 : 0 < n → IntKind.i64.wrap ((n : Int) + 1 - 2) = (n : Int) - 1 := fun h => by rw [wrap64_in (by omega) (by omega)]; omega
    have at2 : 0 < n → ((s[n + 1 - 2]? = some 32) ↔ at_ s ((n : Int) - 1) = 32) := fun h => by
      rw [show n + 1 - 2 = n - 1 by omega, show (n : Int) - 1 = ((n - 1 : Nat) : Int) by omega]; exact at_some (by omega)
    by_cases hsk : skipB s (n + 1) = true
    · rw [if_pos hsk] at hgo
      unfold skipB at hsk
      simp only [Bool.and_eq_true, decide_eq_true_eq] at hsk
      obtain ⟨⟨k1, k2⟩, k3⟩ := hsk
      have hn0 : 0 < n := by omega
      have e1 := eq_true (at1.1 k2)
      have e2 := eq_true ((at2 hn0).1 k3)
      have u1 := u3 hn0
      have v1 : (1 < (n : Int) + 1) = True := eq_true (by omega)
      have v2 : (0 ≤ (n : Int) - 1) = True := eq_true (by omega)
      have v3 : ((n : Int) - 1 < (s.length : Int)) = True := eq_true (by omega)
      simp (config := { maxSteps := 4000000 }) [g0, g1, g2, g6, g7, hlt', hlt2, w0, w2, e1, e2, u1, v1, v2, v3, (show (1 ≤ (n : Int)) = True from eq_true (by omega)), hn0]
      exact ih (n + 1) _ _ (by omega) ⟨by simp [g0], by simp [g1], by simp [g2], by simp [g6], by simp, by omega, by rw [hgo2]; exact hgo, hz, hzn, hle, hdm⟩
    · rw [if_neg hsk] at hgo
      have hsk2 : ((1 < (n : Int) + 1) = False) ∨ ((1 < (n : Int) + 1) = True ∧ (at_ s (n : Int) = 32) = False) ∨ ((1 < (n : Int) + 1) = True ∧ (at_ s (n : Int) = 32) = True ∧ IntKind.i64.wrap ((n : Int) + 1 - 2) = (n : Int) - 1 ∧ (0 ≤ (n : Int) - 1) = True ∧ ((n : Int) - 1 < (s.length : Int)) = True ∧ (at_ s ((n : Int) - 1) = 32) = False) := by
        rcases Nat.eq_zero_or_pos n with h | h
        · exact .inl (eq_false (by omega))
        · by_cases h3 : at_ s (n : Int) = 32
          · refine .inr (.inr ⟨eq_true (by omega), eq_true h3, u3 h, eq_true (by omega), eq_true (by omega), eq_false (fun h4 => hsk ?_)⟩)
            unfold skipB
            rw [decide_eq_true (by omega : 1 < n + 1), decide_eq_true (at1.2 h3), decide_eq_true ((at2 h).2 h4)]; rfl
          · exact .inr (.inl ⟨eq_true (by omega), eq_false h3⟩)
      have hlen : (s.take (n + 1)).length ≤ 900000 := by simp; omega
      have hrd : ∀ K : LH, (∀ l, K.n ≤ l → K.get l = none) → LC Tryz.prog EJ 25 [str (s.take (n + 1)), .int .i64 (D : Int)] K = some (sv (Tg.Rd.read (s.take (n + 1)) D), K) := fun K hK => Rd.read_l (by omega) (by omega) hK (by omega)
      have hwh := fun K : LH => rwhole_l (H := K) (s := s.take (n + 1)) h2 (by omega)
      unfold chk at hgo
      obtain ⟨X, hX⟩ : ∃ X, Tg.Rd.read (s.take (n + 1)) D = X := ⟨_, rfl⟩
      obtain ⟨J, hJ⟩ : ∃ J, Tg.Json.whole (s.take (n + 1)) D = J := ⟨_, rfl⟩
      rw [hX, hJ] at hgo
      simp only [hX] at hrd
      simp only [hJ] at hwh
      have hrd2 := hrd _ hdm
      have hz2 : ∀ B : LB, (H'.new B).get H.n = some (jb 0 [] 0) := fun B => by rw [get_new_ne (by omega)]; exact hz
      have lo2 : ∀ B B' : LB, H.le ((H'.new B).set H.n B') := fun B B' => hle.new.set (Nat.le_refl _)
      have dm2 : ∀ B : LB, ∀ l, (H'.new B).n ≤ l → (H'.new B).get l = none := fun B l hl => by
        have hl' : H'.n + 1 ≤ l := hl
        rw [get_new_ne (by omega)]; exact hdm l (by omega)
      have hzn2 : ∀ B : LB, H.n < (H'.new B).n := fun B => by show H.n < H'.n + 1; omega
      have q3 : (((J.1 : Nat) : Int) = 3) = (J.1 = 3) := natI _ 3
      have q0 : (((J.1 : Nat) : Int) = 0) = (J.1 = 0) := natI _ 0
      by_cases c1 : J.1 = 3
      · rw [if_pos c1] at hgo
        have hG3 : G = some (2, L.rDeep, n + 1) := hgo.symm
        unfold refW
        rw [hG, hG3]
        have f1 := eq_true c1
        rcases hsk2 with r1 | ⟨r1, r2⟩ | ⟨r1, r2, r3, r4, r5, r6⟩
        · simp (config := { maxSteps := 4000000 }) [g0, g1, g2, g6, g7, hlt', hlt2, w0, p0, p1, r1, hrd2, hwh, q3, q0, sv, Rd.rcs, splice, lo2, hz2, hzn2, hzn, hz, jv, f1, L.rDeep]
        · simp (config := { maxSteps := 4000000 }) [g0, g1, g2, g6, g7, hlt', hlt2, w0, p0, p1, r1, r2, hrd2, hwh, q3, q0, sv, Rd.rcs, splice, lo2, hz2, hzn2, hzn, hz, jv, f1, L.rDeep]
        · simp (config := { maxSteps := 4000000 }) [g0, g1, g2, g6, g7, hlt', hlt2, w0, p0, p1, r1, r2, r3, r4, r5, r6, (show (1 ≤ (n : Int)) = True from eq_true (by have := r4; simp at this; omega)), hrd2, hwh, q3, q0, sv, Rd.rcs, splice, lo2, hz2, hzn2, hzn, hz, jv, f1, L.rDeep]
      · rw [if_neg c1] at hgo
        have f1 := eq_false c1
        by_cases c2 : 0 ≤ X.bad
        · rw [if_pos c2] at hgo
          have hG3 : G = some (2, L.rNo, n + 1) := hgo.symm
          unfold refW
          rw [hG, hG3]
          have f2 := eq_true c2
          rcases hsk2 with r1 | ⟨r1, r2⟩ | ⟨r1, r2, r3, r4, r5, r6⟩
          · simp (config := { maxSteps := 4000000 }) [g0, g1, g2, g6, g7, hlt', hlt2, w0, p0, p1, r1, hrd2, hwh, q3, q0, sv, Rd.rcs, splice, lo2, hz2, hzn2, hzn, hz, jv, f1, f2, L.rNo]
          · simp (config := { maxSteps := 4000000 }) [g0, g1, g2, g6, g7, hlt', hlt2, w0, p0, p1, r1, r2, hrd2, hwh, q3, q0, sv, Rd.rcs, splice, lo2, hz2, hzn2, hzn, hz, jv, f1, f2, L.rNo]
          · simp (config := { maxSteps := 4000000 }) [g0, g1, g2, g6, g7, hlt', hlt2, w0, p0, p1, r1, r2, r3, r4, r5, r6, (show (1 ≤ (n : Int)) = True from eq_true (by have := r4; simp at this; omega)), hrd2, hwh, q3, q0, sv, Rd.rcs, splice, lo2, hz2, hzn2, hzn, hz, jv, f1, f2, L.rNo]
        · rw [if_neg c2] at hgo
          have f2 := eq_false c2
          by_cases c3 : J.1 = 0
          · have f3 := eq_true c3
            by_cases c4 : 0 < X.ends
            · rw [if_pos ⟨c3, c4⟩] at hgo
              have hG3 : G = some (1, L.rScript, n + 1) := hgo.symm
              unfold refW
              rw [hG, hG3]
              have f4 := eq_true c4
              rcases hsk2 with r1 | ⟨r1, r2⟩ | ⟨r1, r2, r3, r4, r5, r6⟩
              · simp (config := { maxSteps := 4000000 }) [g0, g1, g2, g6, g7, hlt', hlt2, w0, p0, p1, r1, hrd2, hwh, q3, q0, sv, Rd.rcs, splice, lo2, hz2, hzn2, hzn, hz, jv, f1, f2, f3, f4, L.rScript]
              · simp (config := { maxSteps := 4000000 }) [g0, g1, g2, g6, g7, hlt', hlt2, w0, p0, p1, r1, r2, hrd2, hwh, q3, q0, sv, Rd.rcs, splice, lo2, hz2, hzn2, hzn, hz, jv, f1, f2, f3, f4, L.rScript]
              · simp (config := { maxSteps := 4000000 }) [g0, g1, g2, g6, g7, hlt', hlt2, w0, p0, p1, r1, r2, r3, r4, r5, r6, (show (1 ≤ (n : Int)) = True from eq_true (by have := r4; simp at this; omega)), hrd2, hwh, q3, q0, sv, Rd.rcs, splice, lo2, hz2, hzn2, hzn, hz, jv, f1, f2, f3, f4, L.rScript]
            · rw [if_neg (fun h => c4 h.2)] at hgo
              have f4 := eq_false c4
              rcases hsk2 with r1 | ⟨r1, r2⟩ | ⟨r1, r2, r3, r4, r5, r6⟩
              · simp (config := { maxSteps := 4000000 }) [g0, g1, g2, g6, g7, hlt', hlt2, w0, w2, p0, p1, r1, hrd2, hwh, q3, q0, sv, Rd.rcs, splice, lo2, hz2, hzn2, hzn, hz, jv, f1, f2, f3, f4]
                exact ih (n + 1) _ _ (by omega) ⟨by simp [g0], by simp [g1], by simp [g2], by simp [g6], by simp, by omega, by rw [hgo2]; exact hgo, hz2 _, hzn2 _, hle.new, dm2 _⟩
              · simp (config := { maxSteps := 4000000 }) [g0, g1, g2, g6, g7, hlt', hlt2, w0, w2, p0, p1, r1, r2, hrd2, hwh, q3, q0, sv, Rd.rcs, splice, lo2, hz2, hzn2, hzn, hz, jv, f1, f2, f3, f4]
                exact ih (n + 1) _ _ (by omega) ⟨by simp [g0], by simp [g1], by simp [g2], by simp [g6], by simp, by omega, by rw [hgo2]; exact hgo, hz2 _, hzn2 _, hle.new, dm2 _⟩
              · simp (config := { maxSteps := 4000000 }) [g0, g1, g2, g6, g7, hlt', hlt2, w0, w2, p0, p1, r1, r2, r3, r4, r5, r6, (show (1 ≤ (n : Int)) = True from eq_true (by have := r4; simp at this; omega)), hrd2, hwh, q3, q0, sv, Rd.rcs, splice, lo2, hz2, hzn2, hzn, hz, jv, f1, f2, f3, f4]
                exact ih (n + 1) _ _ (by omega) ⟨by simp [g0], by simp [g1], by simp [g2], by simp [g6], by simp, by omega, by rw [hgo2]; exact hgo, hz2 _, hzn2 _, hle.new, dm2 _⟩
          · rw [if_neg (fun h => c3 h.1)] at hgo
            have f3 := eq_false c3
            rcases hsk2 with r1 | ⟨r1, r2⟩ | ⟨r1, r2, r3, r4, r5, r6⟩
            · simp (config := { maxSteps := 4000000 }) [g0, g1, g2, g6, g7, hlt', hlt2, w0, w2, p0, p1, r1, hrd2, hwh, q3, q0, sv, Rd.rcs, splice, lo2, hz2, hzn2, hzn, hz, jv, f1, f2, f3]
              exact ih (n + 1) _ _ (by omega) ⟨by simp [g0], by simp [g1], by simp [g2], by simp [g6], by simp, by omega, by rw [hgo2]; exact hgo, hz2 _, hzn2 _, hle.new, dm2 _⟩
            · simp (config := { maxSteps := 4000000 }) [g0, g1, g2, g6, g7, hlt', hlt2, w0, w2, p0, p1, r1, r2, hrd2, hwh, q3, q0, sv, Rd.rcs, splice, lo2, hz2, hzn2, hzn, hz, jv, f1, f2, f3]
              exact ih (n + 1) _ _ (by omega) ⟨by simp [g0], by simp [g1], by simp [g2], by simp [g6], by simp, by omega, by rw [hgo2]; exact hgo, hz2 _, hzn2 _, hle.new, dm2 _⟩
            · simp (config := { maxSteps := 4000000 }) [g0, g1, g2, g6, g7, hlt', hlt2, w0, w2, p0, p1, r1, r2, r3, r4, r5, r6, (show (1 ≤ (n : Int)) = True from eq_true (by have := r4; simp at this; omega)), hrd2, hwh, q3, q0, sv, Rd.rcs, splice, lo2, hz2, hzn2, hzn, hz, jv, f1, f2, f3]
              exact ih (n + 1) _ _ (by omega) ⟨by simp [g0], by simp [g1], by simp [g2], by simp [g6], by simp, by omega, by rw [hgo2]; exact hgo, hz2 _, hzn2 _, hle.new, dm2 _⟩
  · have hlt' : ((n : Int) + 1 ≤ (s.length : Int)) = False := eq_false (by omega)
    have hG2 : G = none := by rw [← hgo, show s.length - n = 0 by omega]; rfl
    have hwh := fun K : LH => rwhole_l (H := K) (s := s) h2 (by omega)
    have hbg := fun K : LH => rbegun_l (H := K) (s := s) (by omega)
    have hrd : ∀ K : LH, (∀ l, K.n ≤ l → K.get l = none) → LC Tryz.prog EJ 25 [str s, .int .i64 (D : Int)] K = some (sv (Tg.Rd.read s D), K) := fun K hK => Rd.read_l (by omega) (by omega) hK (by omega)
    have hrd2 := hrd _ hdm
    have ej : ((Tg.Json.whole s D).1 : Int) = 0 ↔ (Tg.Json.whole s D).1 = 0 := by omega
    unfold refW
    rw [hG, hG2]
    dsimp only
    cases en with
    | false =>
      rw [if_pos rfl]
      have jb0 : lbE Tryz.prog 24 (some (.agg ⟨[.int .i64 0, str [], .int .i64 0, .bool false]⟩)) [] = some (.agg ⟨[.int .i64 0, str [], .int .i64 0, .bool false]⟩) := jbuild0
      simp (config := { maxSteps := 4000000 }) [jb0, g0, g1, g2, g6, g7, hlt', hzn, hz, jv, splice, lo]
    | true =>
      rw [if_neg (show ¬ (true = false) by simp)]
      by_cases c1 : Tg.Json.skip s < s.length
      · rw [if_neg (Decidable.not_not.2 c1)]
        have f1 : decide (Tg.Json.skip s < s.length) = true := decide_eq_true c1
        by_cases c2 : (Tg.Json.whole s D).1 = 0
        · rw [if_neg (Decidable.not_not.2 c2)]
          by_cases c3 : (Tg.Rd.read s D).state = 2
          · rw [if_pos c3]
            simp (config := { maxSteps := 4000000 }) [g0, g1, g2, g6, g7, hlt', hzn, hz, jv, splice, lo, hwh, hbg, f1, c1, c2, hrd2, rstate_l, c3, L.rScript]
          · rw [if_neg c3]
            simp (config := { maxSteps := 4000000 }) [g0, g1, g2, g6, g7, hlt', hzn, hz, jv, splice, lo, hwh, hbg, f1, c1, c2, hrd2, rstate_l, eq_false c3, L.rCut]
        · rw [if_pos c2]
          simp (config := { maxSteps := 4000000 }) [g0, g1, g2, g6, g7, hlt', hzn, hz, jv, splice, lo, hwh, hbg, f1, c1, eq_false c2, L.rJson]
      · rw [if_pos c1]
        have f1 : decide (Tg.Json.skip s < s.length) = false := decide_eq_false c1
        simp (config := { maxSteps := 4000000 }) [g0, g1, g2, g6, g7, hlt', hzn, hz, jv, splice, lo, hwh, hbg, f1, eq_false c1, L.rBlank]
end
end Go.Proofs.YtgnefbngkhjfcaaGreatDoor.Lx
/-
  A logical run of Go code: structs compared, part by part.
-/
set_option linter.unusedSimpArgs false
set_option linter.unusedVariables false
set_option maxRecDepth 100000
namespace Go.Lg
theorem pureVal_map {α β : Type} {P : Program} (s : Sem α) (f : α → β) : pureVal P (f <$> s) = (pureVal P s).map f := by
  show pureVal P (s >>= fun x => pure (f x)) = _
  rw [pureVal_bind]; cases pureVal P s <;> rfl
theorem eqIn_int {P : Program} {d : Nat} {t : TypeId} {k : IntKind} {a b : Int} (hu : P.underlying t = some (.int k)) : pureVal P (Op.equalIn (d + 1) t (.int k a) (.int k b)) = some (a == b) := by
  unfold Op.equalIn
  simp only [pureVal_bind, pureVal_und, hu, Option.bind_some, pureVal_pure, if_true]
theorem eqIn_str {P : Program} {d : Nat} {t : TypeId} {a b : List UInt8} (hu : P.underlying t = some .string) : pureVal P (Op.equalIn (d + 1) t (str a) (str b)) = some (decide (a = b)) := by
  unfold Op.equalIn
  simp only [pureVal_bind, pureVal_und, hu, Option.bind_some, str]
  show some _ = _
  congr 1
  rw [Bool.eq_iff_iff, Go.MapKept.bytes_beq]; simp
theorem eqIn_bool {P : Program} {d : Nat} {t : TypeId} {a b : Bool} (hu : P.underlying t = some .bool) : pureVal P (Op.equalIn (d + 1) t (.bool a) (.bool b)) = some (a == b) := by
  unfold Op.equalIn
  simp only [pureVal_bind, pureVal_und, hu, Option.bind_some, pureVal_pure]
theorem part_cell {P : Program} {t : TypeId} {cs : Array Value} {o : Nat} {v : Value} (ha : aggB P t = some false) (h : cs[o]? = some v) : pureVal P (part t cs o) = some v := by
  unfold part
  have : pureVal P (isAgg t) = some false := by
    unfold aggB at ha
    unfold isAgg
    obtain ⟨d, hd, hf⟩ := Option.map_eq_some_iff.1 ha
    simp only [pureVal_bind, pureVal_und, hd, Option.bind_some]
    cases d <;> first | rfl | (simp [aggD] at hf)
  simp only [pureVal_bind, this, Option.bind_some, h]
  rfl
/-- two aggregates of a type that is guarded by nothing -/
theorem lbin_agg {P : Program} {t : TypeId} {xs ys : List Value} {b : Bool} (hx : flatB (.agg ⟨xs⟩) = true) (hy : flatB (.agg ⟨ys⟩) = true) (hg : P.eqGuardType P.depth t = false)
    (he : pureVal P (Op.equalIn Op.maxDepth t (.agg ⟨xs⟩) (.agg ⟨ys⟩)) = some b) : lbin P .eql t (.agg ⟨xs⟩) (.agg ⟨ys⟩) = some (.bool b) := by
  unfold lbin
  simp only
  rw [if_pos (by rw [hx, hy]; rfl)]
  unfold pureFlat eqGuard
  simp only [binOp, Op.equal, pureVal_bind]
  have e1 : ∀ X Y : Value, pureVal P (if (!true) = true then (pure () : Sem Unit) else do
      let __do_lift ← program
      let __do_lift_1 ← program
      if (!__do_lift.eqGuardType __do_lift_1.depth t) = true then pure ()
      else do
        let __do_lift ← Op.eqGuardIn Op.maxDepth t X Y
        if __do_lift = true then unsupported (Unsupported.noEntry "binop/eql: two nil values of an interface type with methods, in a part of a struct or an array") else pure ()) = some () := by
    intro X Y
    rw [if_neg (by decide)]
    simp only [pureVal_bind, pureVal_program, Option.bind_some, hg, Bool.not_false, if_true, pureVal_pure]
  rw [e1, he]
  rfl
end Go.Lg
/-
  The laws of layers 29 and 32 that need no reference: what they come to.
-/
set_option linter.unusedSimpArgs false
set_option linter.unusedVariables false
set_option maxRecDepth 100000
namespace Go.Proofs.YtgnefbngkhjfcaaGreatDoor.Lx
open Go.Lg Tg.Lx

section
variable {H H' H0 : LH} {b : UInt8} {s t : List UInt8}
theorem live1 : (wholeP [120, 61, 49, 59] 9 false).verdict = 1 ∧ atP (wholeP [120, 61, 49, 59] 9 false) = 4 := by decide +kernel
theorem live2 : (wholeP [91, 49, 93] 9 true).verdict = 2 ∧ (wholeP [91, 49, 93] 9 true).reason = [106, 115, 111, 110] := by decide +kernel
theorem live3 : (ofP [120, 61, 49, 59] 1445 9 false).v = 1 ∧ (ofP [120, 61, 49, 59] 1445 9 false).r = [115, 99, 114, 105, 112, 116] ∧ (ofP [120, 61, 49, 59] 1445 9 false).a = 4 := by decide +kernel
theorem lives29_l (hd : ∀ l, H.n ≤ l → H.get l = none) (ht : Tab H) : LC Tryz.prog EJ 9 [] H = some (.bool true, H) := by
  refine LC_pure rfl Tryz.func9 rfl (Nat.le_of_ble_eq_true rfl) (by decide) (by kernel_rfl) rfl ?_
  have h1 := whole_l (s := [120, 61, 49, 59]) (d := 9) (en := false) (D := 9) (by decide) (by decide) hd ht (by decide)
  have h2 := whole_l (s := [91, 49, 93]) (d := 9) (en := true) (D := 9) (by decide) (by decide) hd ht (by decide)
  rw [live1.1, live1.2] at h1
  rw [live2.1, live2.2] at h2
  generalize (wholeP [120, 61, 49, 59] 9 false).reason = r1 at *
  generalize atP (wholeP [91, 49, 93] 9 true) = a2 at *
  simp (config := { maxSteps := 4000000, maxDischargeDepth := 9 }) [h1, h2, jv, splice, LH.le.set, LH.le.new]
theorem jstood : Tryz.prog.stoodInHeld 24 = false := by kernel_rfl
theorem jguard : Tryz.prog.eqGuardType Tryz.prog.depth 24 = false := by kernel_rfl
theorem jv_eq {v v' a a' : Int} {r r' : List UInt8} : lbin Tryz.prog .eql 24 (jv v r a) (jv v' r' a') = some (.bool (decide (v = v') && decide (r = r') && decide (a = a'))) := by
  refine lbin_agg flat_jv flat_jv jguard ?_
  show pureVal Tryz.prog (Op.equalIn ((9998 + 1) + 1) _ _ _) = _
  unfold Op.equalIn
  simp only [pureVal_bind, pureVal_und, Tryz.underlying24, Option.bind_some, pureVal_program, jstood, Bool.false_eq_true, if_false, pureVal_pure]
  by_cases h1 : v = v' <;> by_cases h2 : r = r' <;> by_cases h3 : a = a' <;>
    simp [← Array.forIn_toList, pureVal_bind, part_cell, eqIn_int, eqIn_str, eqIn_bool, h1, h2, h3, Tryz.underlying3, Tryz.underlying9, Tryz.underlying4]
theorem lives32_l (hd : ∀ l, H.n ≤ l → H.get l = none) (ht : Tab H) : LC Tryz.prog EJ 14 [] H = some (.bool true, H) := by
  refine LC_pure rfl Tryz.func14 rfl (Nat.le_of_ble_eq_true rfl) (by decide) (by kernel_rfl) rfl ?_
  have h1 : LC Tryz.prog EJ 10 [str [120, 61, 49, 59], .agg ⟨[.bool false, .int .i64 1445, .int .i64 9]⟩, .bool false] H = _ := of_l (s := [120, 61, 49, 59]) (l := false) (k := 1445) (d := 9) (en := false) (D := 9) (by decide) (by decide) hd ht (by decide)
  unfold J.val at h1
  rw [live3.1, live3.2.1, live3.2.2] at h1
  have e := jv_eq (v := 1) (v' := 1) (a := 4) (a' := 4) (r := [115, 99, 114, 105, 112, 116]) (r' := [115, 99, 114, 105, 112, 116])
  unfold jv at h1 e
  simp (config := { maxSteps := 4000000 }) [h1, e]
/-! ### a body of blanks -/
theorem lim1445 : lim 1445 = 1445 := by decide
theorem take_lim (t : List UInt8) : t.take (if (1445 : Int) < t.length then (1445 : Int) else t.length).toNat = t.take 1445 := by
  split
  · rfl
  · rw [List.take_of_length_le (by omega), List.take_of_length_le (by omega)]
theorem ofP_1445 (t : List UInt8) (D : Nat) (en : Bool) : ofP t 1445 D en =
    (if (wholeP (t.take 1445) D (en && decide ((t.length : Int) < 1445))).verdict ≠ 0 then ⟨(wholeP (t.take 1445) D (en && decide ((t.length : Int) < 1445))).verdict, (wholeP (t.take 1445) D (en && decide ((t.length : Int) < 1445))).reason, if atP (wholeP (t.take 1445) D (en && decide ((t.length : Int) < 1445))) < snAt t.length then snAt t.length else atP (wholeP (t.take 1445) D (en && decide ((t.length : Int) < 1445)))⟩
     else if (1445 : Int) ≤ (t.length : Int) then ⟨2, L.rLimit, 1445⟩ else ⟨(wholeP (t.take 1445) D (en && decide ((t.length : Int) < 1445))).verdict, (wholeP (t.take 1445) D (en && decide ((t.length : Int) < 1445))).reason, atP (wholeP (t.take 1445) D (en && decide ((t.length : Int) < 1445)))⟩) := by
  unfold ofP
  rw [lim1445, take_lim]
theorem wholeP_at (u : List UInt8) (D : Nat) (en : Bool) (hu : u.length ≤ 1048576) : atP (wholeP u D en) ≤ u.length := by
  have h := (L.Inv.new D).feed u (by omega)
  have hi : L.Inv (0 + u.length) (wholeP u D en) := by
    unfold wholeP
    split
    · exact h.fin
    · exact h
  have h1 := hi.at1
  unfold atP
  split <;> omega
theorem long_plain (t : List UInt8) (D : Nat) (en : Bool) (ht : t.length ≤ 1000000) :
    ((1445 ≤ t.length ∨ en = true) → (ofP t 1445 D en).v ≠ 0) ∧
    (1445 ≤ t.length → (ofP t 1445 D en).v = 1 → (ofP t 1445 D en).a ≤ 1445) ∧
    ((ofP t 1445 D en).v ≠ 0 → en = false → (ofP (t ++ [64, 35]) 1445 D true).v = (ofP t 1445 D en).v ∧ (ofP (t ++ [64, 35]) 1445 D true).r = (ofP t 1445 D en).r ∧ ((ofP (t ++ [64, 35]) 1445 D true).a = (ofP t 1445 D en).a ∨ t.length < 1445)) := by
  have hul : (t.take 1445).length ≤ 1445 := by simp; omega
  have hat := fun en => wholeP_at (t.take 1445) D en (by omega)
  refine ⟨fun h => ?_, fun h1 h2 => ?_, fun h1 h2 => ?_⟩
  · rw [ofP_1445]
    split
    · rename_i hv; exact hv
    · rename_i hv
      split
      · show (2 : Int) ≠ 0; decide
      · rename_i hlt
        have he : en = true := by rcases h with h | h; omega; exact h
        exfalso
        apply hv
        rw [he, show (true && decide ((t.length : Int) < 1445)) = true by simp; omega]
        exact L.fin_verdict _
  · rw [ofP_1445] at h2 ⊢
    have hs : snAt (t.length : Int) = 1445 := by
      unfold snAt
      rw [if_neg (show ¬ ((t.length : Int) < 0) by omega)]
      split <;> omega
    split
    · rw [hs]
      show (if _ then _ else _) ≤ (1445 : Int)
      have := hat (en && decide ((t.length : Int) < 1445))
      split <;> omega
    · rename_i hv
      rw [if_neg hv, if_pos (by omega)] at h2
      cases h2
  · subst h2
    by_cases hl : 1445 ≤ t.length
    · have e1 : (t ++ [64, 35]).take 1445 = t.take 1445 := List.take_append_of_le_length hl
      have e2 : (true && decide (((t ++ [64, 35] : List UInt8).length : Int) < 1445)) = (false && decide ((t.length : Int) < 1445)) := by simp; omega
      have s1 : snAt (t.length : Int) = 1445 := by
        unfold snAt
        rw [if_neg (show ¬ ((t.length : Int) < 0) by omega)]
        split <;> omega
      have s2 : snAt ((t ++ [64, 35] : List UInt8).length : Int) = 1445 := by
        unfold snAt
        rw [if_neg (show ¬ (((t ++ [64, 35] : List UInt8).length : Int) < 0) by omega)]
        have : (t ++ [64, 35] : List UInt8).length = t.length + 2 := by simp
        split <;> omega
      have l2 : (1445 : Int) ≤ ((t ++ [64, 35] : List UInt8).length : Int) := by simp; omega
      rw [ofP_1445, ofP_1445, e1, e2, s1, s2]
      split
      · exact ⟨rfl, rfl, .inl rfl⟩
      · rw [if_pos (show (1445 : Int) ≤ t.length by omega)]; first | exact ⟨rfl, rfl, .inl rfl⟩ | (rw [if_pos l2]; exact ⟨rfl, rfl, .inl rfl⟩)
    · have e0 : t.take 1445 = t := List.take_of_length_le (by omega)
      have hm : wholeP (t.take 1445) D (false && decide ((t.length : Int) < 1445)) = (L.new D).feed t := by rw [e0]; rfl
      rw [ofP_1445 t D false, hm] at h1
      rw [ofP_1445 t D false, hm]
      have hv : ((L.new D).feed t).verdict ≠ 0 := by
        intro hv
        rw [if_neg (fun hx => hx hv), if_neg (by omega)] at h1
        exact h1 hv
      rw [if_pos hv]
      have e1 : (t ++ [64, 35]).take 1445 = t ++ ([64, 35] : List UInt8).take (1445 - t.length) := by
        rw [List.take_append, List.take_of_length_le (show t.length ≤ 1445 by omega)]
      have key : ∀ en, (wholeP ((t ++ [64, 35]).take 1445) D en).verdict = ((L.new D).feed t).verdict ∧ (wholeP ((t ++ [64, 35]).take 1445) D en).reason = ((L.new D).feed t).reason := by
        intro en
        rw [e1]
        have hst := L.stuck (([64, 35] : List UInt8).take (1445 - t.length)) ((L.new D).feed t) hv
        rw [← L.feed_append] at hst
        cases en with
        | false => exact ⟨hst.1, hst.2.1⟩
        | true =>
          have hf := L.fin_stuck ((L.new D).feed (t ++ ([64, 35] : List UInt8).take (1445 - t.length))) (by rw [hst.1]; exact hv)
          exact ⟨hf.1.trans hst.1, hf.2.1.trans hst.2.1⟩
      rw [ofP_1445, if_pos (by rw [(key _).1]; exact hv)]
      exact ⟨(key _).1, (key _).2, .inr (by omega)⟩
theorem dom_new {H : LH} {B : LB} (hd : ∀ l, H.n ≤ l → H.get l = none) : ∀ l, (H.new B).n ≤ l → (H.new B).get l = none := fun l hl => by
  have hl' : H.n + 1 ≤ l := hl
  rw [get_new_ne (by omega)]; exact hd l (by omega)
theorem tab_new {H : LH} {B : LB} (ht : Tab H) : Tab (H.new B) := ⟨ht.1, ht.2⟩
end
end Go.Proofs.YtgnefbngkhjfcaaGreatDoor.Lx
