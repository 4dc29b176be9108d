/-
  Texts joined, part 4: JsonPlain, JsonNum, JsonRef, JsonRefB, JsonRefC, JsonRefD, JsonRefE, JsonRefF, JsonRefG, JsLib, Door, LxPlain, JsPure, JsMach, LgQui.
-/
import Derived.Test.YtgnefbngkhjfcaaDoorM1
import Derived.Test.YtgnefbngkhjfcaaDoorM3
import Derived.Deep.DeepCutAuto
import Derived.Test.YtgnefbngkhjfcaaDoorRows
import Derived.ProofKit
import Derived.LaidMore
import Derived.LaidSub
import Derived.Lib.LaidTab
import Derived.Stop.Joined
/-
  The plain law of layer 27: the machine that reads JSON byte by byte comes to what the reference, value within value, comes to. No program in sight.
-/
set_option linter.unusedSimpArgs false
set_option linter.unusedVariables false
namespace Tg.Json

/-- bytes that part -/
def white (b : UInt8) : Bool := b == 32 || b == 9 || b == 10 || b == 13
def digit (b : UInt8) : Bool := 48 ≤ b && b ≤ 57
def hex (b : UInt8) : Bool := digit b || (97 ≤ b && b ≤ 102) || (65 ≤ b && b ≤ 70)
def esc (b : UInt8) : Bool := b == 34 || b == 92 || b == 47 || b == 98 || b == 102 || b == 110 || b == 114 || b == 116

/-- the machine of the program -/
structure M where
  depth : Nat
  stack : List UInt8
  pos : Nat
  key : Bool
  rest : List UInt8
  hex : Nat
  begun : Bool
  state : Nat
  place : Int
  seen : Nat

def M.start (d : Nat) : M := ⟨d, [], 0, false, [], 0, false, 1, -1, 0⟩

def M.top (m : M) : UInt8 := m.stack.getLast?.getD 0
def M.fail (m : M) (s : Nat) : M := { m with state := s, place := m.seen }
def M.push (m : M) (b : UInt8) (p : Nat) : M := if m.stack.length = m.depth then m.fail 3 else { m with stack := m.stack ++ [b], pos := p }
def M.pop (m : M) : M := { m with stack := m.stack.dropLast, pos := 5 }
def M.first (m : M) (b : UInt8) : M :=
  if b = 91 then m.push b 1
  else if b = 123 then m.push b 3
  else if b = 34 then { m with pos := 6, key := false }
  else if b = 45 then { m with pos := 10 }
  else if b = 48 then { m with pos := 11 }
  else if digit b then { m with pos := 12 }
  else if b = 116 then { m with pos := 9, rest := [114, 117, 101] }
  else if b = 102 then { m with pos := 9, rest := [97, 108, 115, 101] }
  else if b = 110 then { m with pos := 9, rest := [117, 108, 108] }
  else m.fail 0
def M.after (m : M) (b : UInt8) : M :=
  let m := { m with pos := 5 }
  if white b then m
  else if b = 44 ∧ m.top = 91 then { m with pos := 0 }
  else if b = 44 ∧ m.top = 123 then { m with pos := 2 }
  else if (b = 93 ∧ m.top = 91) ∨ (b = 125 ∧ m.top = 123) then m.pop
  else m.fail 0
def M.inText (m : M) (b : UInt8) : M :=
  if b = 34 then (if m.key then { m with pos := 4 } else { m with pos := 5 })
  else if b = 92 then { m with pos := 7 }
  else if b < 32 then m.fail 0
  else m
def M.inSlash (m : M) (b : UInt8) : M :=
  if b = 117 then { m with pos := 8, hex := 4 }
  else if esc b then { m with pos := 6 }
  else m.fail 0
def M.inUnicode (m : M) (b : UInt8) : M :=
  if Json.hex b then (if m.hex - 1 = 0 then { m with pos := 6, hex := m.hex - 1 } else { m with hex := m.hex - 1 })
  else m.fail 0
def M.inWord (m : M) (b : UInt8) : M :=
  if m.rest.head? = some b then (if m.rest.tail = [] then { m with rest := m.rest.tail, pos := 5 } else { m with rest := m.rest.tail })
  else m.fail 0
def ended (p : Nat) : Bool := p == 11 || p == 12 || p == 14 || p == 17
def isE (b : UInt8) : Bool := b == 101 || b == 69
def M.inNumber (m : M) (b : UInt8) : M :=
  if m.pos = 10 ∧ b = 48 then { m with pos := 11 }
  else if (m.pos = 10 ∨ m.pos = 12) ∧ digit b then { m with pos := 12 }
  else if (m.pos = 13 ∨ m.pos = 14) ∧ digit b then { m with pos := 14 }
  else if (m.pos = 15 ∨ m.pos = 16 ∨ m.pos = 17) ∧ digit b then { m with pos := 17 }
  else if m.pos = 15 ∧ (b = 43 ∨ b = 45) then { m with pos := 16 }
  else if (m.pos = 11 ∨ m.pos = 12) ∧ b = 46 then { m with pos := 13 }
  else if (m.pos = 11 ∨ m.pos = 12 ∨ m.pos = 14) ∧ isE b then { m with pos := 15 }
  else if ended m.pos then m.after b
  else m.fail 0
def M.names (m : M) (b : UInt8) : M :=
  if white b then m
  else if b = 34 then { m with pos := 6, key := true }
  else if b = 125 ∧ m.pos = 3 then m.pop
  else m.fail 0
def M.byte (m : M) (b : UInt8) : M :=
  if m.pos = 0 ∨ m.pos = 1 then
    (if white b then m else if b = 93 ∧ m.pos = 1 then m.pop else m.first b)
  else if m.pos = 2 ∨ m.pos = 3 then m.names b
  else if m.pos = 4 then (if white b then m else if b = 58 then { m with pos := 0 } else m.fail 0)
  else if m.pos = 5 then m.after b
  else if m.pos = 6 then m.inText b
  else if m.pos = 7 then m.inSlash b
  else if m.pos = 8 then m.inUnicode b
  else if m.pos = 9 then m.inWord b
  else m.inNumber b
def M.tell (m : M) : Nat := if m.state = 1 ∧ m.stack = [] ∧ (m.pos = 5 ∨ ended m.pos) then 2 else m.state
def M.feed1 (m : M) (b : UInt8) : M :=
  let m := { m with begun := m.begun || !white b }
  let m := if m.state = 1 then m.byte b else m
  { m with seen := m.seen + 1 }
def M.feed (m : M) (l : List UInt8) : M := l.foldl M.feed1 m

/-! The reference: what is read off the rest of the bytes: how many, and how it is: 0 bad, 1 open, 3 deep, 4 well. -/

def skip : List UInt8 → Nat
  | [] => 0
  | b :: r => if white b then skip r + 1 else 0
def word : List UInt8 → List UInt8 → Nat × Nat
  | _, [] => (0, 4)
  | [], _ :: _ => (0, 1)
  | b :: r, c :: w => if b = c then ((word r w).1 + 1, (word r w).2) else (0, 0)
def add (n : Nat) (x : Nat × Nat) : Nat × Nat := (x.1 + n, x.2)
/-- a text: 0 within it, 1 behind a backslash, 2 to 5: so many digits and one come -/
def quote : Nat → List UInt8 → Nat × Nat
  | _, [] => (0, 1)
  | k, b :: r =>
    if k = 0 then
      (if b < 32 then (0, 0) else if b = 34 then (1, 4) else if b = 92 then add 1 (quote 1 r) else add 1 (quote 0 r))
    else if k = 1 then
      (if b = 117 then add 1 (quote 5 r) else if esc b then add 1 (quote 0 r) else (0, 0))
    else (if hex b then add 1 (quote (if k = 2 then 0 else k - 1) r) else (0, 0))
/-- a number, from where it stands -/
def number : Nat → List UInt8 → Nat × Nat
  | p, [] => if ended p then (0, 4) else (0, 1)
  | p, b :: r =>
    if p = 10 ∧ b = 48 then add 1 (number 11 r)
    else if (p = 10 ∨ p = 12) ∧ digit b then add 1 (number 12 r)
    else if (p = 13 ∨ p = 14) ∧ digit b then add 1 (number 14 r)
    else if (p = 15 ∨ p = 16 ∨ p = 17) ∧ digit b then add 1 (number 17 r)
    else if p = 15 ∧ (b = 43 ∨ b = 45) then add 1 (number 16 r)
    else if (p = 11 ∨ p = 12) ∧ b = 46 then add 1 (number 13 r)
    else if (p = 11 ∨ p = 12 ∨ p = 14) ∧ isE b then add 1 (number 15 r)
    else if ended p then (0, 4)
    else (0, 0)
/-- a name and its colon, or nothing -/
def named : Bool → List UInt8 → Nat × Nat
  | false, _ => (0, 4)
  | true, [] => (0, 1)
  | true, b :: r =>
    if b ≠ 34 then (0, 0)
    else if (quote 0 r).2 ≠ 4 then add 1 (quote 0 r)
    else
      let n := (quote 0 r).1
      let k := skip (r.drop n)
      match (r.drop n).drop k with
      | [] => (1 + n + k, 1)
      | c :: _ => if c ≠ 58 then (1 + n + k, 0) else (1 + n + k + 1, 4)
def close (o : Bool) : UInt8 := if o then 125 else 93
/-- what comes behind an element -/
def behindElem (o : Bool) (next : List UInt8 → Nat × Nat) (l : List UInt8) : Nat × Nat :=
  match l.drop (skip l) with
  | [] => (skip l, 1)
  | c :: q => if c = close o then (skip l + 1, 4) else if c ≠ 44 then (skip l, 0) else add (skip l + 1) (next q)
/-- an array or an object, what opens it gone by -/
def list (val : List UInt8 → Nat × Nat) (o : Bool) : Nat → Bool → List UInt8 → Nat × Nat
  | 0, _, _ => (0, 1)
  | f + 1, one, l =>
    match l.drop (skip l) with
    | [] => (skip l, 1)
    | b :: r =>
      if one ∧ b = close o then (skip l + 1, 4)
      else add (skip l)
        (if (named o (b :: r)).2 ≠ 4 then named o (b :: r)
         else add (named o (b :: r)).1
          (let l1 := (b :: r).drop (named o (b :: r)).1
           if (val l1).2 ≠ 4 then val l1
           else add (val l1).1 (behindElem o (list val o f false) (l1.drop (val l1).1))))
def value : Nat → List UInt8 → Nat × Nat
  | 0, l =>
    match l.drop (skip l) with
    | [] => (skip l, 1)
    | b :: r =>
      if b = 91 ∨ b = 123 then (skip l, 3)
      else add (skip l) (flat b r)
  | d + 1, l =>
    match l.drop (skip l) with
    | [] => (skip l, 1)
    | b :: r =>
      if b = 91 ∨ b = 123 then add (skip l + 1) (list (value d) (b == 123) (r.length + 1) true r)
      else add (skip l) (flat b r)
where flat (b : UInt8) (r : List UInt8) : Nat × Nat :=
  if b = 34 then add 1 (quote 0 r)
  else if b = 45 then add 1 (number 10 r)
  else if digit b then number 10 (b :: r)
  else if b = 116 then word (b :: r) [116, 114, 117, 101]
  else if b = 102 then word (b :: r) [102, 97, 108, 115, 101]
  else if b = 110 then word (b :: r) [110, 117, 108, 108]
  else (0, 0)
/-- the state of all, and the place of the first byte that can't be -/
def whole (l : List UInt8) (d : Nat) : Nat × Int :=
  let x := value d l
  if x.2 = 1 then (1, -1)
  else if x.2 ≠ 4 then (x.2, x.1)
  else
    let k := skip (l.drop x.1)
    if x.1 + k < l.length then (0, (x.1 + k : Nat)) else (2, -1)

/-! The law. -/
theorem feed_nil (m : M) : m.feed [] = m := rfl
theorem feed_cons (m : M) (b : UInt8) (r : List UInt8) : m.feed (b :: r) = (m.feed1 b).feed r := rfl
theorem feed_append (m : M) (l k : List UInt8) : m.feed (l ++ k) = (m.feed l).feed k := by simp [M.feed, List.foldl_append]

theorem feed_stuck (l : List UInt8) : ∀ m : M, m.state ≠ 1 → (m.feed l).state = m.state ∧ (m.feed l).place = m.place := by
  induction l with
  | nil => intro m _; exact ⟨rfl, rfl⟩
  | cons b r ih =>
    intro m h
    have := ih (m.feed1 b) (by simp [M.feed1, h])
    rw [feed_cons]
    simp only [M.feed1, h] at this ⊢
    exact this

theorem seen_first (m : M) (b : UInt8) : (m.first b).seen = m.seen := by
  unfold M.first M.push M.fail; simp only [apply_ite M.seen, ite_self]
theorem seen_after (m : M) (b : UInt8) : (m.after b).seen = m.seen := by
  unfold M.after M.pop M.fail; simp only [apply_ite M.seen, ite_self]
theorem seen_inNumber (m : M) (b : UInt8) : (m.inNumber b).seen = m.seen := by
  unfold M.inNumber M.fail; simp only [apply_ite M.seen, ite_self, seen_after]
theorem seen_byte (m : M) (b : UInt8) : (m.byte b).seen = m.seen := by
  unfold M.byte M.names M.inText M.inSlash M.inUnicode M.inWord M.pop M.fail
  simp only [apply_ite M.seen, ite_self, seen_after, seen_first, seen_inNumber]
theorem seen_feed1 (m : M) (b : UInt8) : (m.feed1 b).seen = m.seen + 1 := by
  unfold M.feed1; simp only; split
  · rw [seen_byte]
  · rfl

/-- what has begun -/
def M.beg (m : M) (b : UInt8) : M := { m with begun := m.begun || !white b }
theorem feed1_open {m : M} {b : UInt8} (h : m.state = 1) : m.feed1 b = { (m.beg b).byte b with seen := m.seen + 1 } := by
  unfold M.feed1; simp only; rw [if_pos h]
  show _ = ({ (m.beg b).byte b with seen := (m.beg b).seen + 1 } : M)
  rw [← seen_byte (m.beg b) b]; rfl

/-- what reading comes to, and where the machine then stands -/
def Goes (m : M) (l : List UInt8) (x : Nat × Nat) (ok : M → List UInt8 → Prop) : Prop :=
  (x.2 = 4 ∧ x.1 ≤ l.length ∧ ∃ m' : M, m.feed l = m'.feed (l.drop x.1) ∧ m'.depth = m.depth ∧ m'.state = 1 ∧ m'.place = m.place ∧ m'.seen = m.seen + x.1 ∧ ok m' (l.drop x.1)) ∨
  (x.2 = 1 ∧ (m.feed l).tell = 1 ∧ (m.feed l).place = m.place) ∨
  ((x.2 = 0 ∨ x.2 = 3) ∧ (m.feed l).state = x.2 ∧ (m.feed l).place = ((m.seen + x.1 : Nat) : Int) ∧ x.1 < l.length)

theorem Goes.seq {m : M} {l : List UInt8} {n : Nat} {y : Nat × Nat} {ok ok' : M → List UInt8 → Prop} (h : Goes m l (n, 4) ok)
    (k : ∀ m' : M, m'.depth = m.depth → m'.state = 1 → m'.place = m.place → ok m' (l.drop n) → Goes m' (l.drop n) y ok') : Goes m l (add n y) ok' := by
  rcases h with ⟨_, hn, m', hf, hd, hs, hp, he, ho⟩ | ⟨h, _⟩ | ⟨h, _⟩
  · simp only at hn hf he ho
    rcases k m' hd hs hp ho with ⟨h4, hn', m'', hf', hd', hs', hp', he', ho'⟩ | ⟨h1, ht, hp'⟩ | ⟨h0, hs', hp', hl⟩
    · refine .inl ⟨h4, ?_, m'', ?_, hd'.trans hd, hs', hp'.trans hp, ?_, ?_⟩
      · simp only [add]; simp at hn'; omega
      · simp only [add]; rw [hf, hf', List.drop_drop, Nat.add_comm]
      · simp only [add]; omega
      · simp only [add]; rw [List.drop_drop, Nat.add_comm] at ho'; exact ho'
    · exact .inr (.inl ⟨h1, by rw [hf]; exact ht, by rw [hf, hp', hp]⟩)
    · refine .inr (.inr ⟨h0, by rw [hf]; exact hs', ?_, ?_⟩)
      · rw [hf, hp', he]; simp only [add]; congr 1; omega
      · simp only [add]; simp at hl; omega
  · simp at h
  · simp at h
theorem Goes.one {m : M} {b : UInt8} {r : List UInt8} {y : Nat × Nat} {ok : M → List UInt8 → Prop}
    (hd : (m.feed1 b).depth = m.depth) (hp : (m.feed1 b).place = m.place) (hs : (m.feed1 b).state = 1)
    (k : Goes (m.feed1 b) r y ok) : Goes m (b :: r) (add 1 y) ok := by
  have : Goes m (b :: r) (1, 4) (fun m' _ => m' = m.feed1 b) :=
    .inl ⟨rfl, by simp, m.feed1 b, by simp [feed_cons], hd, hs, hp, seen_feed1 m b, rfl⟩
  refine this.seq (fun m' _ _ _ h => ?_)
  subst h; exact k
theorem Goes.bad {m : M} {b : UInt8} {r : List UInt8} {s : Nat} {ok : M → List UInt8 → Prop} (hs : s = 0 ∨ s = 3)
    (h : (m.feed1 b).state = s) (hp : (m.feed1 b).place = m.seen) : Goes m (b :: r) (0, s) ok := by
  refine .inr (.inr ⟨hs, ?_, ?_, by simp⟩) <;> rw [feed_cons]
  · rw [(feed_stuck r _ (by rw [h]; omega)).1, h]
  · rw [(feed_stuck r _ (by rw [h]; omega)).2, hp]; simp
theorem Goes.here {m : M} {l : List UInt8} {ok : M → List UInt8 → Prop} (h1 : m.state = 1) (h : ok m l) : Goes m l (0, 4) ok :=
  .inl ⟨rfl, by simp, m, by simp, rfl, h1, rfl, by simp, by simpa using h⟩
theorem Goes.mono {m : M} {l : List UInt8} {x : Nat × Nat} {ok ok' : M → List UInt8 → Prop} (h : Goes m l x ok) (k : ∀ m' l', ok m' l' → ok' m' l') : Goes m l x ok' := by
  rcases h with ⟨h4, hn, m', hf, hd, hs, hp, he, ho⟩ | h | h
  · exact .inl ⟨h4, hn, m', hf, hd, hs, hp, he, k _ _ ho⟩
  · exact .inr (.inl h)
  · exact .inr (.inr h)

/-- where texts stand -/
def tpos (k : Nat) : Nat := if k = 0 then 6 else if k = 1 then 7 else 8
theorem quote_goes (l : List UInt8) : ∀ (k : Nat) (m : M), m.state = 1 → m.pos = tpos k → (2 ≤ k → m.hex = k - 1) → k ≤ 5 →
    Goes m l (quote k l) (fun m' _ => m'.stack = m.stack ∧ m'.pos = if m.key then 4 else 5) := by
  induction l with
  | nil =>
    intro k m h1 hp _ _
    refine .inr (.inl ⟨by simp [quote], ?_, rfl⟩)
    show m.tell = 1
    unfold M.tell
    rw [if_neg, h1]
    rw [hp]; unfold tpos; rintro ⟨_, _, h⟩; revert h; split <;> (try split) <;> decide
  | cons b r ih =>
    intro k m h1 hp hh hk
    unfold quote
    by_cases k0 : k = 0
    · subst k0
      simp only [tpos, if_true] at hp
      rw [if_pos rfl]
      by_cases c1 : b < 32
      · rw [if_pos c1]
        have c2 : b ≠ 34 := by rintro rfl; revert c1; decide
        have c3 : b ≠ 92 := by rintro rfl; revert c1; decide
        exact Goes.bad (.inl rfl) (by simp [M.feed1, h1, M.byte, hp, M.inText, c1, c2, c3, M.fail]) (by simp [M.feed1, h1, M.byte, hp, M.inText, c1, c2, c3, M.fail])
      · rw [if_neg c1]
        by_cases c2 : b = 34
        · rw [if_pos c2]
          have : (1, 4) = add 1 (0, 4) := rfl
          rw [this]
          refine Goes.one ?_ ?_ ?_ (Goes.here ?_ ⟨?_, ?_⟩) <;> cases hkey : m.key <;> simp [M.feed1, h1, M.byte, hp, M.inText, c2, hkey]
        · rw [if_neg c2]
          by_cases c3 : b = 92
          · rw [if_pos c3]
            refine Goes.one ?_ ?_ ?_ ((ih 1 _ ?_ ?_ (by omega) (by omega)).mono ?_)
            all_goals simp [M.feed1, h1, M.byte, hp, M.inText, c3, tpos]
          · rw [if_neg c3]
            refine Goes.one ?_ ?_ ?_ ((ih 0 _ ?_ ?_ (by omega) (by omega)).mono ?_)
            all_goals simp [M.feed1, h1, M.byte, hp, M.inText, c3, c2, c1, tpos]
    · rw [if_neg k0]
      by_cases k1 : k = 1
      · subst k1
        simp only [tpos] at hp
        rw [if_pos rfl]
        by_cases c1 : b = 117
        · rw [if_pos c1]
          refine Goes.one ?_ ?_ ?_ ((ih 5 _ ?_ ?_ (fun _ => ?_) (by omega)).mono ?_)
          all_goals simp [M.feed1, h1, M.byte, hp, M.inSlash, c1, tpos]
        · rw [if_neg c1]
          by_cases c2 : esc b
          · rw [if_pos c2]
            refine Goes.one ?_ ?_ ?_ ((ih 0 _ ?_ ?_ (fun _ => ?_) (by omega)).mono ?_)
            all_goals first | omega | simp [M.feed1, h1, M.byte, hp, M.inSlash, c1, c2, tpos]
          · rw [if_neg c2]
            exact Goes.bad (.inl rfl) (by simp [M.feed1, h1, M.byte, hp, M.inSlash, c1, c2, M.fail]) (by simp [M.feed1, h1, M.byte, hp, M.inSlash, c1, c2, M.fail])
      · rw [if_neg k1]
        have hx := hh (by omega)
        have hp8 : m.pos = 8 := by rw [hp]; simp [tpos, k0, k1]
        by_cases c1 : hex b
        · rw [if_pos c1]
          by_cases k2 : k = 2
          · subst k2
            rw [if_pos rfl]
            refine Goes.one ?_ ?_ ?_ ((ih 0 _ ?_ ?_ (fun _ => ?_) (by omega)).mono ?_)
            all_goals first | omega | simp [M.feed1, h1, M.byte, hp8, M.inUnicode, c1, hx, tpos]
          · rw [if_neg k2]
            have e1 : ¬ (k - 1 - 1 = 0) := by omega
            have e2 : ¬ (k - 1 = 0) := by omega
            have e3 : ¬ (k - 1 = 1) := by omega
            refine Goes.one ?_ ?_ ?_ ((ih (k - 1) _ ?_ ?_ (fun _ => ?_) (by omega)).mono ?_)
            all_goals simp [M.feed1, h1, M.byte, hp8, M.inUnicode, c1, hx, tpos, e1, e2, e3]
        · rw [if_neg c1]
          exact Goes.bad (.inl rfl) (by simp [M.feed1, h1, M.byte, hp8, M.inUnicode, c1, M.fail]) (by simp [M.feed1, h1, M.byte, hp8, M.inUnicode, c1, M.fail])

theorem number_goes (l : List UInt8) : ∀ (p : Nat) (m : M), m.state = 1 → m.pos = p → 10 ≤ p → p ≤ 17 →
    Goes m l (number p l) (fun m' l' => m'.stack = m.stack ∧ ended m'.pos = true ∧ ∀ b r, l' = b :: r → (m'.beg b).byte b = (m'.beg b).after b) := by
  induction l with
  | nil =>
    intro p m h1 hp _ _
    unfold number
    by_cases c : ended p = true
    · rw [if_pos c]
      exact Goes.here h1 ⟨rfl, by rw [hp]; exact c, fun b r h => by simp at h⟩
    · rw [if_neg c]
      refine .inr (.inl ⟨rfl, ?_, rfl⟩)
      show m.tell = 1
      unfold M.tell
      rw [if_neg, h1]
      rintro ⟨_, _, h | h⟩
      · omega
      · rw [hp] at h; exact c h
  | cons b r ih =>
    intro p m h1 hp h10 h17
    have hp' : (m.beg b).pos = p := hp
    have hb' : (m.beg b).byte b = (m.beg b).inNumber b := by
      unfold M.byte
      rw [if_neg (by omega), if_neg (by omega), if_neg (by omega), if_neg (by omega), if_neg (by omega), if_neg (by omega), if_neg (by omega), if_neg (by omega)]
    have go : ∀ q : Nat, 10 ≤ q → q ≤ 17 → (m.beg b).inNumber b = { m.beg b with pos := q } → 
        Goes m (b :: r) (add 1 (number q r)) (fun m' l' => m'.stack = m.stack ∧ ended m'.pos = true ∧ ∀ b r, l' = b :: r → (m'.beg b).byte b = (m'.beg b).after b) := by
      intro q hq hq' e
      refine Goes.one ?_ ?_ ?_ ((ih q _ ?_ ?_ hq hq').mono ?_)
      all_goals rw [feed1_open h1, hb', e]
      all_goals first | exact h1 | exact fun _ _ h => h | rfl
    unfold number
    by_cases c1 : p = 10 ∧ b = 48
    · rw [if_pos c1]; exact go 11 (by omega) (by omega) (by unfold M.inNumber; rw [hp', if_pos c1])
    rw [if_neg c1]
    by_cases c2 : (p = 10 ∨ p = 12) ∧ digit b
    · rw [if_pos c2]; exact go 12 (by omega) (by omega) (by unfold M.inNumber; rw [hp', if_neg c1, if_pos c2])
    rw [if_neg c2]
    by_cases c3 : (p = 13 ∨ p = 14) ∧ digit b
    · rw [if_pos c3]; exact go 14 (by omega) (by omega) (by unfold M.inNumber; rw [hp', if_neg c1, if_neg c2, if_pos c3])
    rw [if_neg c3]
    by_cases c4 : (p = 15 ∨ p = 16 ∨ p = 17) ∧ digit b
    · rw [if_pos c4]; exact go 17 (by omega) (by omega) (by unfold M.inNumber; rw [hp', if_neg c1, if_neg c2, if_neg c3, if_pos c4])
    rw [if_neg c4]
    by_cases c5 : p = 15 ∧ (b = 43 ∨ b = 45)
    · rw [if_pos c5]; exact go 16 (by omega) (by omega) (by unfold M.inNumber; rw [hp', if_neg c1, if_neg c2, if_neg c3, if_neg c4, if_pos c5])
    rw [if_neg c5]
    by_cases c6 : (p = 11 ∨ p = 12) ∧ b = 46
    · rw [if_pos c6]; exact go 13 (by omega) (by omega) (by unfold M.inNumber; rw [hp', if_neg c1, if_neg c2, if_neg c3, if_neg c4, if_neg c5, if_pos c6])
    rw [if_neg c6]
    by_cases c7 : (p = 11 ∨ p = 12 ∨ p = 14) ∧ isE b
    · rw [if_pos c7]; exact go 15 (by omega) (by omega) (by unfold M.inNumber; rw [hp', if_neg c1, if_neg c2, if_neg c3, if_neg c4, if_neg c5, if_neg c6, if_pos c7])
    rw [if_neg c7]
    by_cases c8 : ended p = true
    · rw [if_pos c8]
      refine Goes.here h1 ⟨rfl, by rw [hp]; exact c8, fun b' r' e => ?_⟩
      injection e with e1 e2
      subst e1
      rw [hb']; unfold M.inNumber; rw [hp', if_neg c1, if_neg c2, if_neg c3, if_neg c4, if_neg c5, if_neg c6, if_neg c7, if_pos c8]
    · rw [if_neg c8]
      have e : (m.beg b).inNumber b = (m.beg b).fail 0 := by
        unfold M.inNumber; rw [hp', if_neg c1, if_neg c2, if_neg c3, if_neg c4, if_neg c5, if_neg c6, if_neg c7, if_neg c8]
      exact Goes.bad (.inl rfl) (by rw [feed1_open h1, hb', e]; rfl) (by rw [feed1_open h1, hb', e]; rfl)

/-- the rest of a word: not empty -/
theorem word_goes (l : List UInt8) : ∀ (w : List UInt8) (m : M), m.state = 1 → m.pos = 9 → m.rest = w → w ≠ [] →
    Goes m l (word l w) (fun m' _ => m'.stack = m.stack ∧ m'.pos = 5) := by
  induction l with
  | nil =>
    intro w m h1 hp hr hw
    obtain ⟨c, w', rfl⟩ := List.exists_cons_of_ne_nil hw
    refine .inr (.inl ⟨rfl, ?_, rfl⟩)
    show m.tell = 1
    unfold M.tell
    rw [if_neg, h1]
    rw [hp]; rintro ⟨_, _, h⟩; revert h; decide
  | cons b r ih =>
    intro w m h1 hp hr hw
    obtain ⟨c, w', rfl⟩ := List.exists_cons_of_ne_nil hw
    unfold word
    by_cases e : b = c
    · subst e
      rw [if_pos rfl]
      by_cases hw' : w' = []
      · subst hw'
        have : ((word r []).1 + 1, (word r []).2) = add 1 (0, 4) := by cases r <;> rfl
        rw [this]
        refine Goes.one ?_ ?_ ?_ (Goes.here ?_ ⟨?_, ?_⟩)
        all_goals simp [M.feed1, h1, M.byte, hp, M.inWord, hr]
      · refine Goes.one (y := word r w') ?_ ?_ ?_ ((ih w' _ ?_ ?_ ?_ hw').mono ?_)
        all_goals simp [M.feed1, h1, M.byte, hp, M.inWord, hr, hw']
    · rw [if_neg e]
      have e' : ¬ c = b := fun h => e h.symm
      exact Goes.bad (.inl rfl) (by simp [M.feed1, h1, M.byte, hp, M.inWord, hr, e', M.fail]) (by simp [M.feed1, h1, M.byte, hp, M.inWord, hr, e', M.fail])

/-- blanks where nothing turns by them -/
theorem skip_le (l : List UInt8) : skip l ≤ l.length := by
  induction l with
  | nil => simp [skip]
  | cons b r ih => unfold skip; split <;> simp <;> omega
theorem skip_head (l : List UInt8) (b : UInt8) (r : List UInt8) (h : l.drop (skip l) = b :: r) : white b = false := by
  induction l with
  | nil => simp [skip] at h
  | cons c q ih =>
    unfold skip at h
    by_cases e : white c = true
    · rw [if_pos e] at h; exact ih h
    · rw [if_neg e] at h; simp at h; rw [← h.1]; simpa using e
theorem skip_goes (l : List UInt8) : ∀ (m : M), m.state = 1 → (∀ n : M, n.pos = m.pos → ∀ b, white b = true → n.byte b = n) →
    Goes m l (skip l, 4) (fun m' _ => m'.stack = m.stack ∧ m'.pos = m.pos) := by
  induction l with
  | nil => intro m h1 _; exact Goes.here h1 ⟨rfl, rfl⟩
  | cons b r ih =>
    intro m h1 hw
    unfold skip
    by_cases e : white b = true
    · rw [if_pos e]
      have hb := hw (m.beg b) rfl b e
      refine Goes.one (y := (skip r, 4)) ?_ ?_ ?_ ((ih _ ?_ ?_).mono ?_)
      all_goals rw [feed1_open h1, hb]
      all_goals first | exact h1 | exact hw | exact fun _ _ h => h | rfl
    · rw [if_neg e]; exact Goes.here h1 ⟨rfl, rfl⟩

def okB (st : List UInt8) (m : M) (l : List UInt8) : Prop :=
  m.stack = st ∧ (m.pos = 5 ∨ ended m.pos = true) ∧ ∀ b r, l = b :: r → (m.beg b).byte b = (m.beg b).after b
theorem okB_five {m : M} {l : List UInt8} (h : m.pos = 5) : okB m.stack m l := by
  refine ⟨rfl, .inl h, fun b r _ => ?_⟩
  have : (m.beg b).pos = 5 := h
  unfold M.byte
  rw [if_neg (by omega), if_neg (by omega), if_neg (by omega), if_pos this]
theorem okB_number {m m' : M} {l : List UInt8} (h : m'.stack = m.stack ∧ ended m'.pos = true ∧ ∀ b r, l = b :: r → (m'.beg b).byte b = (m'.beg b).after b) : okB m.stack m' l :=
  ⟨h.1, .inr h.2.1, h.2.2⟩
theorem okB_of {st : List UInt8} {m : M} {l : List UInt8} (h1 : m.stack = st) (h : m.pos = 5) : okB st m l := h1 ▸ okB_five h
theorem Goes.chok {m : M} {l : List UInt8} {x : Nat × Nat} {ok ok' : M → List UInt8 → Prop} (h : Goes m l x ok) (h4 : x.2 ≠ 4) : Goes m l x ok' := by
  rcases h with h | h | h
  · exact absurd h.1 h4
  · exact .inr (.inl h)
  · exact .inr (.inr h)
theorem Goes.open {m : M} {l : List UInt8} {n : Nat} {ok : M → List UInt8 → Prop} (h : m.tell = 1) (e : l = []) : Goes m l (n, 1) ok := by
  subst e; exact .inr (.inl ⟨rfl, h, rfl⟩)
/-- the second part is at hand where the first is gone by -/
theorem Goes.then {m : M} {l : List UInt8} {n : Nat} {ok : M → List UInt8 → Prop} {x : Nat × Nat} {ok' : M → List UInt8 → Prop} (h : Goes m l (n, 4) ok) (hx : x.1 = n + (x.1 - n))
    (k : ∀ m' : M, m'.depth = m.depth → m'.state = 1 → m'.place = m.place → ok m' (l.drop n) → Goes m' (l.drop n) (x.1 - n, x.2) ok') : Goes m l x ok' := by
  have := h.seq k
  have e : add n (x.1 - n, x.2) = x := by unfold add; ext <;> simp; omega
  rwa [e] at this

theorem after_white {n : M} (h : n.pos = 5) (b : UInt8) (hb : white b = true) : n.byte b = n := by
  unfold M.byte
  rw [if_neg (by omega), if_neg (by omega), if_neg (by omega), if_pos h]
  unfold M.after; rw [if_pos hb]; cases n; simp at h; simp [h]
theorem behind_goes {st : List UInt8} (l : List UInt8) (m : M) (h1 : m.state = 1) (h : okB st m l) : Goes m l (skip l, 4) (okB st) := by
  cases l with
  | nil => exact Goes.here h1 h
  | cons b r =>
    by_cases e : white b = true
    · have hb : (m.beg b).byte b = { m.beg b with pos := 5 } := by
        rw [h.2.2 b r rfl]; unfold M.after; rw [if_pos e]
      have : skip (b :: r) = skip r + 1 := by rw [skip, if_pos e]
      rw [this]
      refine Goes.one (y := (skip r, 4)) ?_ ?_ ?_ ((skip_goes r _ ?_ ?_).mono ?_)
      all_goals rw [feed1_open h1, hb]
      · rfl
      · rfl
      · exact h1
      · exact h1
      · exact fun n hn b hb => after_white hn b hb
      · rintro m' l' ⟨h2, h3⟩
        exact okB_of (h2.trans h.1) h3
    · have : skip (b :: r) = 0 := by rw [skip, if_neg e]
      rw [this]; exact Goes.here h1 h

def opn (o : Bool) : UInt8 := if o then 123 else 91
def lpos (o one : Bool) : Nat := if o then (if one then 3 else 2) else (if one then 1 else 0)
theorem top_opn {m : M} {st : List UInt8} {o : Bool} (h : m.stack = st ++ [opn o]) : m.top = opn o := by simp [M.top, h]

theorem named_goes {m : M} {b : UInt8} {r : List UInt8} (h1 : m.state = 1) (hp : m.pos = 2 ∨ m.pos = 3) (hw : white b = false) (h3 : m.pos = 3 → b ≠ 125) :
    Goes m (b :: r) (named true (b :: r)) (fun m' _ => m'.stack = m.stack ∧ m'.pos = 0) := by
  have hb : (m.beg b).byte b = (m.beg b).names b := by
    have : (m.beg b).pos = m.pos := rfl
    unfold M.byte; rw [if_neg (by omega), if_pos (by omega)]
  by_cases c : b = 34
  · have hb2 : (m.beg b).byte b = { m.beg b with pos := 6, key := true } := by rw [hb]; unfold M.names; rw [if_neg (by simp [hw]), if_pos c]
    have hq : Goes m (b :: r) (add 1 (quote 0 r)) (fun m' _ => m'.stack = m.stack ∧ m'.pos = 4) := by
      refine Goes.one ?_ ?_ ?_ ((quote_goes r 0 _ ?_ ?_ ?_ ?_).mono ?_)
      all_goals try rw [feed1_open h1, hb2]
      all_goals first | rfl | exact h1 | exact fun _ _ h => h | (intro h; omega) | omega
    simp only [named]
    rw [if_neg (by simp [c])]
    by_cases q : (quote 0 r).2 = 4
    · rw [if_neg (by simp [q])]
      have eq : add 1 (quote 0 r) = (1 + (quote 0 r).1, 4) := by unfold add; rw [q, Nat.add_comm]
      rw [eq] at hq
      generalize hn : (quote 0 r).1 = n at *
      have hdrop : (b :: r).drop (1 + n) = r.drop n := by rw [Nat.add_comm]; rfl
      have hk : Goes m (b :: r) (1 + n + skip (r.drop n), 4) (fun m' _ => m'.stack = m.stack ∧ m'.pos = 4) := by
        have := hq.seq (y := (skip (r.drop n), 4)) (ok' := fun m' _ => m'.stack = m.stack ∧ m'.pos = 4) (fun m' _ hs _ ho => by
          rw [hdrop]
          refine (skip_goes (r.drop n) m' hs (fun k hk b hb => ?_)).mono (fun _ _ h => ⟨h.1.trans ho.1, h.2.trans ho.2⟩)
          unfold M.byte
          rw [if_neg (by omega), if_neg (by omega), if_pos (by omega), if_pos hb])
        simpa [add, Nat.add_comm] using this
      have hd2 : (b :: r).drop (1 + n + skip (r.drop n)) = (r.drop n).drop (skip (r.drop n)) := by rw [← List.drop_drop, hdrop]
      split
      · rename_i e
        refine hk.then (by simp) (fun m' _ hs _ ho => Goes.open ?_ (by rw [hd2]; exact e))
        unfold M.tell; rw [if_neg, hs]
        rw [ho.2]; rintro ⟨_, _, h⟩; revert h; decide
      · rename_i c' q' e
        have hwc := skip_head _ _ _ e
        have hpos : ∀ m' : M, m'.pos = 4 → (m'.beg c').byte c' = if c' = 58 then { m'.beg c' with pos := 0 } else (m'.beg c').fail 0 := by
          intro m' h
          have : (m'.beg c').pos = 4 := h
          unfold M.byte
          rw [if_neg (by omega), if_neg (by omega), if_pos this, if_neg (by simp [hwc])]
        by_cases c58 : c' = 58
        · rw [if_neg (by simp [c58])]
          refine hk.then (by simp) (fun m' _ hs _ ho => ?_)
          rw [hd2, e]
          have hbb := hpos m' ho.2
          rw [if_pos c58] at hbb
          have : ((1 + n + skip (r.drop n) + 1, 4).1 - (1 + n + skip (r.drop n)), (1 + n + skip (r.drop n) + 1, 4).2) = add 1 (0, 4) := by simp [add]
          rw [this]
          refine Goes.one ?_ ?_ ?_ (Goes.here ?_ ⟨?_, ?_⟩)
          all_goals rw [feed1_open hs, hbb]
          · rfl
          · rfl
          · exact hs
          · exact hs
          · exact ho.1
        · rw [if_pos c58]
          refine hk.then (by simp) (fun m' _ hs _ ho => ?_)
          rw [hd2, e]
          have hbb := hpos m' ho.2
          rw [if_neg c58] at hbb
          simp only [Nat.sub_self]
          exact Goes.bad (.inl rfl) (by rw [feed1_open hs, hbb]; rfl) (by rw [feed1_open hs, hbb]; rfl)
    · rw [if_pos q]; exact hq.chok (by simpa [add] using q)
  · simp only [named]
    rw [if_pos c]
    have hb2 : (m.beg b).byte b = (m.beg b).fail 0 := by
      rw [hb]; unfold M.names
      rw [if_neg (by simp [hw]), if_neg c, if_neg (fun h => h3 h.2 h.1)]
    exact Goes.bad (.inl rfl) (by rw [feed1_open h1, hb2]; rfl) (by rw [feed1_open h1, hb2]; rfl)

theorem tell_open {m : M} (h1 : m.state = 1) (h : m.stack ≠ []) : m.tell = 1 := by
  unfold M.tell; rw [if_neg (fun x => h x.2.1), h1]
theorem tell_open' {m : M} (h1 : m.state = 1) (h : m.pos ≤ 10) (h5 : m.pos ≠ 5) : m.tell = 1 := by
  unfold M.tell; rw [if_neg, h1]
  rintro ⟨_, _, x | x⟩
  · exact h5 x
  · unfold ended at x; simp at x; omega
theorem behindElem_goes {st : List UInt8} {o : Bool} {next : List UInt8 → Nat × Nat} {m : M} {l : List UInt8} (h1 : m.state = 1) (h : okB (st ++ [opn o]) m l)
    (hn : ∀ (c : UInt8) (q : List UInt8) (m' : M), l.drop (skip l) = c :: q → m'.state = 1 → m'.stack = st ++ [opn o] → m'.depth = m.depth → m'.pos = lpos o false → Goes m' q (next q) (okB st)) :
    Goes m l (behindElem o next l) (okB st) := by
  have hk := behind_goes l m h1 h
  unfold behindElem
  split
  · rename_i e
    refine hk.then (by simp) (fun m' _ hs _ ho => Goes.open ?_ e)
    exact tell_open hs (by rw [ho.1]; simp)
  · rename_i c q e
    have hw := skip_head _ _ _ e
    have key : ∀ m' : M, okB (st ++ [opn o]) m' (l.drop (skip l)) → (m'.beg c).byte c = if c = close o then { m'.beg c with stack := st, pos := 5 } else if c = 44 then { m'.beg c with pos := lpos o false } else ({ m'.beg c with pos := 5 } : M).fail 0 := by
      intro m' ho
      rw [ho.2.2 c q e]
      have ht : ({ m'.beg c with pos := 5 } : M).top = opn o := by
        have : ({ m'.beg c with pos := 5 } : M).stack = st ++ [opn o] := ho.1
        exact top_opn this
      have hst : (m'.beg c).stack = st ++ [opn o] := ho.1
      unfold M.after
      simp only [ht, hw, M.pop, hst, List.dropLast_concat]
      cases o <;> by_cases c1 : c = 44 <;> by_cases c2 : c = 93 <;> by_cases c3 : c = 125 <;> simp_all [opn, close, lpos]
    by_cases c1 : c = close o
    · rw [if_pos c1]
      refine hk.then (by simp) (fun m' _ hs _ ho => ?_)
      have hb := key m' ho
      rw [if_pos c1] at hb
      rw [e]
      have : ((skip l + 1, 4).1 - skip l, (skip l + 1, 4).2) = add 1 (0, 4) := by simp [add]
      rw [this]
      refine Goes.one ?_ ?_ ?_ (Goes.here ?_ (okB_of ?_ ?_))
      all_goals rw [feed1_open hs, hb]
      all_goals first | rfl | exact hs
    · rw [if_neg c1]
      by_cases c2 : c = 44
      · rw [if_neg (by simp [c2])]
        have : add (skip l + 1) (next q) = add (skip l) (add 1 (next q)) := by simp [add]; omega
        rw [this]
        refine hk.seq (fun m' hd hs _ ho => ?_)
        have hb := key m' ho
        rw [if_neg c1, if_pos c2] at hb
        rw [e]
        refine Goes.one ?_ ?_ ?_ (hn c q _ e ?_ ?_ ?_ ?_)
        all_goals rw [feed1_open hs, hb]
        all_goals first | rfl | exact hs | exact ho.1 | exact hd
      · rw [if_pos c2]
        refine hk.then (by simp) (fun m' _ hs _ ho => ?_)
        have hb := key m' ho
        rw [if_neg c1, if_neg c2] at hb
        rw [e]
        simp only [Nat.sub_self]
        exact Goes.bad (.inl rfl) (by rw [feed1_open hs, hb]; rfl) (by rw [feed1_open hs, hb]; rfl)

/-- where a value may begin -/
def vpos (m : M) (l : List UInt8) : Prop := m.pos = 0 ∨ (m.pos = 1 ∧ ∀ b r, l.drop (skip l) = b :: r → b ≠ 93)
theorem list_goes {st : List UInt8} {o : Bool} {D : Nat} {val : List UInt8 → Nat × Nat}
    (hval : ∀ (m : M) (l : List UInt8), m.state = 1 → m.stack = st ++ [opn o] → m.depth = D → vpos m l → Goes m l (val l) (okB (st ++ [opn o]))) :
    ∀ (f : Nat) (l : List UInt8) (one : Bool) (m : M), l.length < f → m.state = 1 → m.stack = st ++ [opn o] → m.depth = D → m.pos = lpos o one →
      Goes m l (list val o f one l) (okB st) := by
  intro f
  induction f with
  | zero => intro l one m h; omega
  | succ f ih =>
    intro l one m hf h1 hst hd hp
    have hwhite : ∀ n : M, n.pos = m.pos → ∀ b, white b = true → n.byte b = n := by
      intro n hn b hb
      rw [hp] at hn
      unfold M.byte M.names
      rw [hn]
      cases o <;> cases one <;> simp [lpos, hb]
    have hk := skip_goes l m h1 hwhite
    unfold list
    split
    · rename_i e
      refine hk.then (by simp) (fun m' _ hs _ ho => Goes.open ?_ e)
      exact tell_open hs (by rw [ho.1, hst]; simp)
    · rename_i b r e
      have hw := skip_head _ _ _ e
      have hlen : r.length + 1 ≤ l.length := by
        have := congrArg List.length e; simp at this; omega
      by_cases c : one = true ∧ b = close o
      · rw [if_pos c]
        refine hk.then (by simp) (fun m' _ hs _ ho => ?_)
        rw [e]
        have hpp : (m'.beg b).pos = lpos o one := ho.2.trans hp
        have hss : (m'.beg b).stack = st ++ [opn o] := ho.1.trans hst
        have hb : (m'.beg b).byte b = { m'.beg b with stack := st, pos := 5 } := by
          unfold M.byte M.names M.pop
          rw [hpp, hss]
          obtain ⟨rfl, rfl⟩ := c
          cases o <;> simp [lpos, close, white]
        have : ((skip l + 1, 4).1 - skip l, (skip l + 1, 4).2) = add 1 (0, 4) := by simp [add]
        rw [this]
        refine Goes.one ?_ ?_ ?_ (Goes.here ?_ (okB_of ?_ ?_))
        all_goals rw [feed1_open hs, hb]
        all_goals first | rfl | exact hs
      · rw [if_neg c]
        refine hk.seq (fun m' hd' hs _ ho => ?_)
        rw [e]
        have hpp : m'.pos = lpos o one := ho.2.trans hp
        have hss : m'.stack = st ++ [opn o] := ho.1.trans hst
        have hname : Goes m' (b :: r) (named o (b :: r)) (fun m2 _ => m2.stack = st ++ [opn o] ∧ ((o = true ∧ m2.pos = 0) ∨ (o = false ∧ m2.pos = lpos o one))) := by
          cases o with
          | true =>
            refine (named_goes hs ?_ hw ?_).mono (fun _ _ h => ⟨h.1.trans hss, .inl ⟨rfl, h.2⟩⟩)
            · rw [hpp]; cases one <;> simp [lpos]
            · intro h3 h4
              rw [hpp] at h3
              cases one with
              | true => exact c ⟨rfl, h4⟩
              | false => simp [lpos] at h3
          | false => exact Goes.here hs ⟨hss, .inr ⟨rfl, hpp⟩⟩
        by_cases c4 : (named o (b :: r)).2 = 4
        · rw [if_neg (by simp [c4])]
          have eqn : named o (b :: r) = ((named o (b :: r)).1, 4) := by rw [← c4]
          rw [eqn] at hname
          have hn0 : o = false → (named o (b :: r)).1 = 0 := by rintro rfl; rfl
          generalize (named o (b :: r)).1 = n at *
          refine hname.seq (fun m2 hd2 hs2 _ ho2 => ?_)
          have hv : vpos m2 ((b :: r).drop n) := by
            rcases ho2.2 with ⟨_, h⟩ | ⟨h, h'⟩
            · exact .inl h
            · subst h
              cases one with
              | false => exact .inl h'
              | true =>
                refine .inr ⟨h', fun b' r' hbr => ?_⟩
                rw [hn0 rfl] at hbr
                have : skip (b :: r) = 0 := by rw [skip, if_neg (by simp [hw])]
                simp only [List.drop_zero, this] at hbr
                injection hbr with h1 h2
                rintro rfl
                exact c ⟨rfl, h1⟩
          have hg := hval m2 ((b :: r).drop n) hs2 ho2.1 ((hd2.trans hd').trans hd) hv
          have hl1 : ((b :: r).drop n).length ≤ r.length + 1 := by simp
          generalize hl : (b :: r).drop n = l1 at *
          simp only
          by_cases cv : (val l1).2 = 4
          · rw [if_neg (by simp [cv])]
            have eqv : val l1 = ((val l1).1, 4) := by rw [← cv]
            rw [eqv] at hg
            refine hg.seq (fun m3 hd3 hs3 _ ho3 => ?_)
            refine behindElem_goes hs3 ho3 (fun c' q' m4 e4 hs4 hst4 hd4 hp4 => ?_)
            refine ih q' false m4 ?_ hs4 hst4 ?_ hp4
            · have := congrArg List.length e4
              simp at this
              omega
            · rw [hd4, hd3, hd2, hd', hd]
          · rw [if_pos cv]; exact hg.chok cv
        · rw [if_pos c4]; exact hname.chok c4

theorem flat_goes {m : M} {b : UInt8} {r : List UInt8} (h1 : m.state = 1) (hp : m.pos = 0 ∨ (m.pos = 1 ∧ b ≠ 93)) (hw : white b = false) (c1 : b ≠ 91) (c2 : b ≠ 123) :
    Goes m (b :: r) (value.flat b r) (okB m.stack) := by
  have hb : (m.beg b).byte b = (m.beg b).first b := by
    have : (m.beg b).pos = m.pos := rfl
    unfold M.byte
    rw [if_pos (by omega), if_neg (by simp [hw]), if_neg (by rintro ⟨x, y⟩; rcases hp with h | h; omega; exact h.2 x)]
  unfold value.flat
  unfold M.first at hb
  rw [if_neg c1, if_neg c2] at hb
  by_cases d1 : b = 34
  · rw [if_pos d1] at hb ⊢
    refine Goes.one ?_ ?_ ?_ ((quote_goes r 0 _ ?_ ?_ ?_ ?_).mono ?_)
    all_goals try rw [feed1_open h1, hb]
    all_goals first | rfl | exact h1 | (intro h; omega) | omega | exact fun _ _ h => okB_of h.1 h.2
  rw [if_neg d1] at hb ⊢
  by_cases d2 : b = 45
  · rw [if_pos d2] at hb ⊢
    refine Goes.one ?_ ?_ ?_ ((number_goes r 10 _ ?_ ?_ ?_ ?_).mono ?_)
    all_goals try rw [feed1_open h1, hb]
    all_goals first | rfl | exact h1 | omega | exact fun _ _ h => ⟨h.1, .inr h.2.1, h.2.2⟩
  rw [if_neg d2] at hb ⊢
  by_cases d3 : b = 48
  · rw [if_pos d3] at hb
    have hdig : digit b = true := by rw [d3]; decide
    have : number 10 (b :: r) = add 1 (number 11 r) := by rw [number, if_pos ⟨rfl, d3⟩]
    rw [if_pos hdig, this]
    refine Goes.one ?_ ?_ ?_ ((number_goes r 11 _ ?_ ?_ ?_ ?_).mono ?_)
    all_goals try rw [feed1_open h1, hb]
    all_goals first | rfl | exact h1 | omega | exact fun _ _ h => ⟨h.1, .inr h.2.1, h.2.2⟩
  rw [if_neg d3] at hb
  by_cases d4 : digit b = true
  · rw [if_pos d4] at hb ⊢
    have : number 10 (b :: r) = add 1 (number 12 r) := by rw [number, if_neg (fun x => d3 x.2), if_pos ⟨.inl rfl, d4⟩]
    rw [this]
    refine Goes.one ?_ ?_ ?_ ((number_goes r 12 _ ?_ ?_ ?_ ?_).mono ?_)
    all_goals try rw [feed1_open h1, hb]
    all_goals first | rfl | exact h1 | omega | exact fun _ _ h => ⟨h.1, .inr h.2.1, h.2.2⟩
  rw [if_neg d4] at hb ⊢
  have wd : ∀ w : List UInt8, w ≠ [] → (m.beg b).byte b = { m.beg b with pos := 9, rest := w } → Goes m (b :: r) (word (b :: r) (b :: w)) (okB m.stack) := by
    intro w hne h
    have : word (b :: r) (b :: w) = add 1 (word r w) := by rw [word, if_pos rfl]; rfl
    rw [this]
    refine Goes.one ?_ ?_ ?_ ((word_goes r w _ ?_ ?_ ?_ hne).mono ?_)
    all_goals try rw [feed1_open h1, h]
    all_goals first | rfl | exact h1 | exact fun _ _ h => okB_of h.1 h.2
  by_cases d5 : b = 116
  · rw [if_pos d5] at hb ⊢; subst d5; exact wd _ (by simp) hb
  rw [if_neg d5] at hb ⊢
  by_cases d6 : b = 102
  · rw [if_pos d6] at hb ⊢; subst d6; exact wd _ (by simp) hb
  rw [if_neg d6] at hb ⊢
  by_cases d7 : b = 110
  · rw [if_pos d7] at hb ⊢; subst d7; exact wd _ (by simp) hb
  rw [if_neg d7] at hb ⊢
  exact Goes.bad (.inl rfl) (by rw [feed1_open h1, hb]; rfl) (by rw [feed1_open h1, hb]; rfl)

theorem value_skip {m : M} {l : List UInt8} (h1 : m.state = 1) (hp : vpos m l) : Goes m l (skip l, 4) (fun m' _ => m'.stack = m.stack ∧ m'.pos = m.pos) := by
  refine skip_goes l m h1 (fun n hn b hb => ?_)
  unfold M.byte
  rw [if_pos (by rcases hp with h | h <;> omega), if_pos hb]
theorem value_goes (D : Nat) : ∀ (d : Nat) (st : List UInt8), st.length + d = D → ∀ (m : M) (l : List UInt8), m.state = 1 → m.stack = st → m.depth = D → vpos m l →
    Goes m l (value d l) (okB st) := by
  intro d
  induction d with
  | zero =>
    intro st hD m l h1 hst hd hp
    have hk := value_skip h1 hp
    unfold value
    split
    · rename_i e
      refine hk.then (by simp) (fun m' _ hs _ ho => Goes.open ?_ e)
      have : m'.pos = m.pos := ho.2
      exact tell_open' hs (by rcases hp with h | h <;> omega) (by rcases hp with h | h <;> omega)
    · rename_i b r e
      have hw := skip_head _ _ _ e
      have hpos : ∀ m' : M, m'.pos = m.pos → (m'.pos = 0 ∨ (m'.pos = 1 ∧ b ≠ 93)) := by
        intro m' h
        rcases hp with h' | ⟨h', h''⟩
        · exact .inl (h.trans h')
        · exact .inr ⟨h.trans h', h'' b r e⟩
      by_cases c : b = 91 ∨ b = 123
      · rw [if_pos c]
        refine hk.then (by simp) (fun m' hd' hs _ ho => ?_)
        rw [e]
        simp only [Nat.sub_self]
        have hb : (m'.beg b).byte b = (m'.beg b).fail 3 := by
          have hx := hpos (m'.beg b) ho.2
          unfold M.byte
          rw [if_pos (by omega), if_neg (by simp [hw]), if_neg (by rintro ⟨x, y⟩; rcases hx with h | h; omega; exact h.2 x)]
          have hlen : (m'.beg b).stack.length = (m'.beg b).depth := by
            show m'.stack.length = m'.depth
            rw [ho.1, hst, hd', hd]; omega
          unfold M.first M.push
          rcases c with rfl | rfl <;> simp [hlen]
        exact Goes.bad (.inr rfl) (by rw [feed1_open hs, hb]; rfl) (by rw [feed1_open hs, hb]; rfl)
      · rw [if_neg c]
        refine hk.seq (fun m' hd' hs _ ho => ?_)
        rw [e]
        have := flat_goes (r := r) hs (hpos m' ho.2) hw (fun h => c (.inl h)) (fun h => c (.inr h))
        rwa [ho.1, hst] at this
  | succ d ih =>
    intro st hD m l h1 hst hd hp
    have hk := value_skip h1 hp
    unfold value
    split
    · rename_i e
      refine hk.then (by simp) (fun m' _ hs _ ho => Goes.open ?_ e)
      have : m'.pos = m.pos := ho.2
      exact tell_open' hs (by rcases hp with h | h <;> omega) (by rcases hp with h | h <;> omega)
    · rename_i b r e
      have hw := skip_head _ _ _ e
      have hpos : ∀ m' : M, m'.pos = m.pos → (m'.pos = 0 ∨ (m'.pos = 1 ∧ b ≠ 93)) := by
        intro m' h
        rcases hp with h' | ⟨h', h''⟩
        · exact .inl (h.trans h')
        · exact .inr ⟨h.trans h', h'' b r e⟩
      by_cases c : b = 91 ∨ b = 123
      · rw [if_pos c]
        have : add (skip l + 1) (list (value d) (b == 123) (r.length + 1) true r) = add (skip l) (add 1 (list (value d) (b == 123) (r.length + 1) true r)) := by simp [add]; omega
        rw [this]
        refine hk.seq (fun m' hd' hs _ ho => ?_)
        rw [e]
        have hb : (m'.beg b).byte b = { m'.beg b with stack := st ++ [opn (b == 123)], pos := lpos (b == 123) true } := by
          have hx := hpos (m'.beg b) ho.2
          have hstk : (m'.beg b).stack = st := ho.1.trans hst
          unfold M.byte
          rw [if_pos (by omega), if_neg (by simp [hw]), if_neg (by rintro ⟨x, y⟩; rcases hx with h | h; omega; exact h.2 x)]
          have hlen : ¬ (m'.beg b).stack.length = (m'.beg b).depth := by
            show ¬ m'.stack.length = m'.depth
            rw [ho.1, hst, hd', hd]; omega
          unfold M.first M.push
          rw [hstk] at hlen ⊢
          rcases c with rfl | rfl <;> simp [hlen, opn, lpos]
        refine Goes.one ?_ ?_ ?_ (list_goes (st := st) (o := b == 123) (D := D) (ih (st ++ [opn (b == 123)]) (by simp; omega)) (r.length + 1) r true _ (by omega) ?_ ?_ ?_ ?_)
        all_goals rw [feed1_open hs, hb]
        all_goals first | rfl | exact hs | exact hd'.trans hd
      · rw [if_neg c]
        refine hk.seq (fun m' hd' hs _ ho => ?_)
        rw [e]
        have := flat_goes (r := r) hs (hpos m' ho.2) hw (fun h => c (.inl h)) (fun h => c (.inr h))
        rwa [ho.1, hst] at this

/-- THE LAW: the machine tells what the reference tells. -/
theorem whole_eq (l : List UInt8) (d : Nat) : (((M.start d).feed l).tell, ((M.start d).feed l).place) = whole l d := by
  have h := value_goes d d [] (by simp) (M.start d) l rfl rfl rfl (.inl rfl)
  unfold whole
  rcases h with ⟨h4, hn, m', hf, hd, hs, hp, he, ho⟩ | ⟨h1, ht, hp⟩ | ⟨h0, hs, hp, hl⟩
  · simp only [h4]
    rw [if_neg (by decide), if_neg (by decide)]
    rw [hf]
    have hk := behind_goes _ m' hs ho
    generalize hl2 : l.drop (value d l).1 = l2 at *
    have hlen : l2.length = l.length - (value d l).1 := by rw [← hl2]; simp
    rcases hk with ⟨_, hn2, m2, hf2, hd2, hs2, hp2, he2, ho2⟩ | ⟨h, _⟩ | ⟨h, _⟩
    · simp only at hn2 hf2 he2 ho2
      rw [hf2]
      cases e : l2.drop (skip l2) with
      | nil =>
        have : ¬ ((value d l).1 + skip l2 < l.length) := by
          have := congrArg List.length e; simp at this; omega
        rw [if_neg this]
        show (m2.tell, m2.place) = (2, -1)
        have : m2.tell = 2 := by
          unfold M.tell; rw [if_pos ⟨hs2, ho2.1, ho2.2.1⟩]
        rw [this, hp2, hp]; rfl
      | cons c q =>
        have : (value d l).1 + skip l2 < l.length := by
          have := congrArg List.length e; simp at this; omega
        rw [if_pos this]
        have hw := skip_head _ _ _ e
        have hb : (m2.beg c).byte c = ({ m2.beg c with pos := 5 } : M).fail 0 := by
          rw [ho2.2.2 c q e]
          have ht : ({ m2.beg c with pos := 5 } : M).top = 0 := by
            have : ({ m2.beg c with pos := 5 } : M).stack = [] := ho2.1
            unfold M.top; rw [this]; rfl
          unfold M.after
          simp [ht, hw]
        rw [feed_cons]
        have hst : (m2.feed1 c).state = 0 := by rw [feed1_open hs2, hb]; rfl
        have hpl : (m2.feed1 c).place = m2.seen := by rw [feed1_open hs2, hb]; rfl
        have := feed_stuck q (m2.feed1 c) (by omega)
        have ht : ((m2.feed1 c).feed q).tell = 0 := by
          unfold M.tell; rw [if_neg (fun x => by rw [this.1, hst] at x; omega), this.1, hst]
        rw [ht, this.2, hpl, he2, he]
        simp [M.start]
    · simp at h
    · simp at h
  · rw [if_pos h1, ht, hp]; rfl
  · rw [if_neg (by rcases h0 with h | h <;> omega), if_pos (by rcases h0 with h | h <;> omega)]
    have : ((M.start d).feed l).tell = (value d l).2 := by
      unfold M.tell; rw [if_neg (fun x => by rw [hs] at x; rcases h0 with h | h <;> omega), hs]
    rw [this, hp]; simp [M.start]

/-! What holds of each machine that bytes are fed to. -/
structure JWF (m : M) : Prop where
  hex : m.hex ≤ 4
  hex1 : m.pos = 8 → 1 ≤ m.hex
  rest : m.pos = 9 → m.rest ≠ []
  rlen : m.rest.length ≤ 5
  first : m.pos = 1 ∨ m.pos = 3 → m.stack ≠ []
  len : m.stack.length ≤ m.depth
  depth : m.depth ≤ 200
  pos : m.pos ≤ 17
  state : m.state ≤ 3
theorem JWF.at {m : M} (h : JWF m) (p : Nat) (hp : p ≤ 17) (h1 : p ≠ 1) (h3 : p ≠ 3) (h8 : p ≠ 8) (h9 : p ≠ 9) : JWF { m with pos := p } :=
  ⟨h.hex, fun e => absurd e h8, fun e => absurd e h9, h.rlen, fun e => by rcases e with e | e; exact absurd e h1; exact absurd e h3, h.len, h.depth, hp, h.state⟩
theorem JWF.fail {m : M} (h : JWF m) (s : Nat) (hs : s ≤ 3) : JWF (m.fail s) := ⟨h.hex, h.hex1, h.rest, h.rlen, h.first, h.len, h.depth, h.pos, hs⟩
theorem JWF.pop {m : M} (h : JWF m) : JWF m.pop :=
  ⟨h.hex, fun e => by simp [M.pop] at e, fun e => by simp [M.pop] at e, h.rlen, fun e => by simp [M.pop] at e, by have := h.len; simp [M.pop]; omega, h.depth, by simp [M.pop], h.state⟩
theorem JWF.push {m : M} (h : JWF m) (b : UInt8) (p : Nat) (hp : p ≤ 17) (h8 : p ≠ 8) (h9 : p ≠ 9) : JWF (m.push b p) := by
  unfold M.push
  split
  · exact h.fail 3 (by omega)
  · exact ⟨h.hex, fun e => absurd e h8, fun e => absurd e h9, h.rlen, fun _ => by simp, by have := h.len; simp; omega, h.depth, hp, h.state⟩
theorem JWF.key {m : M} (h : JWF m) (k : Bool) : JWF { m with key := k } := ⟨h.hex, h.hex1, h.rest, h.rlen, h.first, h.len, h.depth, h.pos, h.state⟩
theorem JWF.beg {m : M} (h : JWF m) (b : UInt8) : JWF (m.beg b) := ⟨h.hex, h.hex1, h.rest, h.rlen, h.first, h.len, h.depth, h.pos, h.state⟩
theorem JWF.saw {m : M} (h : JWF m) (n : Nat) : JWF { m with seen := n } := ⟨h.hex, h.hex1, h.rest, h.rlen, h.first, h.len, h.depth, h.pos, h.state⟩
theorem JWF.after {m : M} (h : JWF m) (b : UInt8) : JWF (m.after b) := by
  have h5 := h.at 5 (by omega) (by omega) (by omega) (by omega) (by omega)
  unfold M.after
  simp only
  repeat' split
  · exact h5
  · exact h.at 0 (by omega) (by omega) (by omega) (by omega) (by omega)
  · exact h.at 2 (by omega) (by omega) (by omega) (by omega) (by omega)
  · exact h5.pop
  · exact h5.fail 0 (by omega)
theorem jwf_ite {c : Prop} [Decidable c] {a b : M} (h1 : JWF a) (h2 : JWF b) : JWF (if c then a else b) := by split <;> assumption
theorem JWF.byte {m : M} (h : JWF m) (b : UInt8) : JWF (m.byte b) := by
  unfold M.byte
  by_cases c1 : m.pos = 0 ∨ m.pos = 1
  · rw [if_pos c1]
    unfold M.first
    have w : ∀ r : List UInt8, r ≠ [] → r.length ≤ 5 → JWF { m with pos := 9, rest := r } := fun r hr hl =>
      ⟨h.hex, fun e => by simp at e, fun _ => hr, hl, fun e => by simp at e, h.len, h.depth, by simp, h.state⟩
    repeat' (with_reducible refine jwf_ite ?_ ?_)
    · exact h
    · exact h.pop
    · exact h.push _ _ (by omega) (by omega) (by omega)
    · exact h.push _ _ (by omega) (by omega) (by omega)
    · exact (h.at 6 (by omega) (by omega) (by omega) (by omega) (by omega)).key false
    · exact h.at 10 (by omega) (by omega) (by omega) (by omega) (by omega)
    · exact h.at 11 (by omega) (by omega) (by omega) (by omega) (by omega)
    · exact h.at 12 (by omega) (by omega) (by omega) (by omega) (by omega)
    · exact w _ (by simp) (by simp)
    · exact w _ (by simp) (by simp)
    · exact w _ (by simp) (by simp)
    · exact h.fail 0 (by omega)
  rw [if_neg c1]
  by_cases c2 : m.pos = 2 ∨ m.pos = 3
  · rw [if_pos c2]
    unfold M.names
    repeat' split
    · exact h
    · exact (h.at 6 (by omega) (by omega) (by omega) (by omega) (by omega)).key true
    · exact h.pop
    · exact h.fail 0 (by omega)
  rw [if_neg c2]
  by_cases c3 : m.pos = 4
  · rw [if_pos c3]
    repeat' split
    · exact h
    · exact h.at 0 (by omega) (by omega) (by omega) (by omega) (by omega)
    · exact h.fail 0 (by omega)
  rw [if_neg c3]
  by_cases c4 : m.pos = 5
  · rw [if_pos c4]; exact h.after b
  rw [if_neg c4]
  by_cases c5 : m.pos = 6
  · rw [if_pos c5]
    unfold M.inText
    repeat' split
    · exact h.at 4 (by omega) (by omega) (by omega) (by omega) (by omega)
    · exact h.at 5 (by omega) (by omega) (by omega) (by omega) (by omega)
    · exact h.at 7 (by omega) (by omega) (by omega) (by omega) (by omega)
    · exact h.fail 0 (by omega)
    · exact h
  rw [if_neg c5]
  by_cases c6 : m.pos = 7
  · rw [if_pos c6]
    unfold M.inSlash
    repeat' split
    · exact ⟨by simp, fun _ => by simp, fun e => by simp at e, h.rlen, fun e => by simp at e, h.len, h.depth, by simp, h.state⟩
    · exact h.at 6 (by omega) (by omega) (by omega) (by omega) (by omega)
    · exact h.fail 0 (by omega)
  rw [if_neg c6]
  by_cases c7 : m.pos = 8
  · rw [if_pos c7]
    unfold M.inUnicode
    have := h.hex
    repeat' split
    · exact ⟨by simp; omega, fun e => by simp at e, fun e => by simp at e, h.rlen, fun e => by simp at e, h.len, h.depth, by simp, h.state⟩
    · exact ⟨by simp; omega, fun _ => by simp; omega, fun e => by simp [c7] at e, h.rlen, fun e => by simp [c7] at e, h.len, h.depth, h.pos, h.state⟩
    · exact h.fail 0 (by omega)
  rw [if_neg c7]
  by_cases c8 : m.pos = 9
  · rw [if_pos c8]
    unfold M.inWord
    have := h.rlen
    repeat' split
    · exact ⟨h.hex, fun e => by simp at e, fun e => by simp at e, by simp; omega, fun e => by simp at e, h.len, h.depth, by simp, h.state⟩
    · exact ⟨h.hex, fun e => by simp [c8] at e, fun _ => by assumption, by simp; omega, fun e => by simp [c8] at e, h.len, h.depth, h.pos, h.state⟩
    · exact h.fail 0 (by omega)
  rw [if_neg c8]
  unfold M.inNumber
  repeat' split
  · exact h.at 11 (by omega) (by omega) (by omega) (by omega) (by omega)
  · exact h.at 12 (by omega) (by omega) (by omega) (by omega) (by omega)
  · exact h.at 14 (by omega) (by omega) (by omega) (by omega) (by omega)
  · exact h.at 17 (by omega) (by omega) (by omega) (by omega) (by omega)
  · exact h.at 16 (by omega) (by omega) (by omega) (by omega) (by omega)
  · exact h.at 13 (by omega) (by omega) (by omega) (by omega) (by omega)
  · exact h.at 15 (by omega) (by omega) (by omega) (by omega) (by omega)
  · exact h.after b
  · exact h.fail 0 (by omega)
theorem JWF.feed1 {m : M} (h : JWF m) (b : UInt8) : JWF (m.feed1 b) := by
  unfold M.feed1
  simp only
  split
  · exact ((h.beg b).byte b).saw _
  · exact (h.beg b).saw _
theorem JWF.feed {l : List UInt8} : ∀ {m : M}, JWF m → JWF (m.feed l) := by
  induction l with
  | nil => intro m h; exact h
  | cons b r ih => intro m h; exact ih (h.feed1 b)
theorem JWF.start {d : Nat} (h : d ≤ 200) : JWF (M.start d) := ⟨by simp [M.start], fun _ => by simp_all [M.start], fun _ => by simp_all [M.start], by simp [M.start], fun e => by simp [M.start] at e, by simp [M.start], h, by simp [M.start], by simp [M.start]⟩
theorem seen_feed (l : List UInt8) : ∀ m : M, (m.feed l).seen = m.seen + l.length := by
  induction l with
  | nil => intro m; rfl
  | cons b r ih => intro m; rw [feed_cons, ih, seen_feed1]; simp; omega
theorem depth_feed1 (m : M) (b : UInt8) : (m.feed1 b).depth = m.depth := by
  have : ∀ n : M, (n.byte b).depth = n.depth := by
    intro n
    unfold M.byte M.names M.inText M.inSlash M.inUnicode M.inWord M.first M.inNumber M.after M.push M.pop M.fail
    simp only [apply_ite M.depth, ite_self]
  unfold M.feed1
  simp only
  split
  · exact this _
  · rfl
theorem depth_feed (l : List UInt8) : ∀ m : M, (m.feed l).depth = m.depth := by
  induction l with
  | nil => intro m; rfl
  | cons b r ih => intro m; rw [feed_cons, ih, depth_feed1]
/-- the first byte but what parts -/
theorem begun_byte (m : M) (b : UInt8) : (m.byte b).begun = m.begun := by
  unfold M.byte M.names M.inText M.inSlash M.inUnicode M.inWord M.first M.inNumber M.after M.push M.pop M.fail
  simp only [apply_ite M.begun, ite_self]
theorem begun_feed (l : List UInt8) : ∀ m : M, (m.feed l).begun = (m.begun || decide (skip l < l.length)) := by
  induction l with
  | nil => intro m; simp [feed_nil]
  | cons b r ih =>
    intro m
    have h1 : (m.feed1 b).begun = (m.begun || !white b) := by
      unfold M.feed1; simp only; split
      · rw [begun_byte]
      · rfl
    have hs : skip (b :: r) = if white b = true then skip r + 1 else 0 := rfl
    rw [feed_cons, ih, h1, hs]
    by_cases e : white b = true
    · simp [e]
    · simp [e]
/-- where it is bad, once it is -/
theorem place_byte (m : M) (b : UInt8) (h1 : m.state = 1) : (m.byte b).state = 1 ∧ (m.byte b).place = m.place ∨ (m.byte b).state ≠ 1 ∧ (m.byte b).place = m.seen := by
  have hf : ∀ s : Nat, s ≠ 1 → (m.fail s).state ≠ 1 ∧ (m.fail s).place = m.seen := fun s hs => ⟨hs, rfl⟩
  have hp : ∀ (c : UInt8) (p : Nat), (m.push c p).state = 1 ∧ (m.push c p).place = m.place ∨ (m.push c p).state ≠ 1 ∧ (m.push c p).place = m.seen := by
    intro c p; unfold M.push; split
    · exact .inr (hf 3 (by omega))
    · exact .inl ⟨h1, rfl⟩
  have ha : (m.after b).state = 1 ∧ (m.after b).place = m.place ∨ (m.after b).state ≠ 1 ∧ (m.after b).place = m.seen := by
    unfold M.after; simp only; repeat' split
    all_goals first | exact .inl ⟨h1, rfl⟩ | exact .inr (hf 0 (by omega)) | exact .inr ⟨by simp [M.fail], rfl⟩
  have hi : ∀ (c : Prop) [Decidable c] (x y : M), (x.state = 1 ∧ x.place = m.place ∨ x.state ≠ 1 ∧ x.place = m.seen) → (y.state = 1 ∧ y.place = m.place ∨ y.state ≠ 1 ∧ y.place = m.seen) →
      ((if c then x else y).state = 1 ∧ (if c then x else y).place = m.place ∨ (if c then x else y).state ≠ 1 ∧ (if c then x else y).place = m.seen) := by
    intro c _ x y hx hy; split <;> assumption
  unfold M.byte
  by_cases c1 : m.pos = 0 ∨ m.pos = 1
  · rw [if_pos c1]; unfold M.first; repeat' (with_reducible refine hi _ _ _ ?_ ?_)
    all_goals first | exact .inl ⟨h1, rfl⟩ | exact .inr (hf 0 (by omega)) | exact hp _ _
  rw [if_neg c1]
  by_cases c2 : m.pos = 2 ∨ m.pos = 3
  · rw [if_pos c2]; unfold M.names; repeat' split
    all_goals first | exact .inl ⟨h1, rfl⟩ | exact .inr (hf 0 (by omega))
  rw [if_neg c2]
  by_cases c3 : m.pos = 4
  · rw [if_pos c3]; repeat' split
    all_goals first | exact .inl ⟨h1, rfl⟩ | exact .inr (hf 0 (by omega))
  rw [if_neg c3]
  by_cases c4 : m.pos = 5
  · rw [if_pos c4]; exact ha
  rw [if_neg c4]
  by_cases c5 : m.pos = 6
  · rw [if_pos c5]; unfold M.inText; repeat' split
    all_goals first | exact .inl ⟨h1, rfl⟩ | exact .inr (hf 0 (by omega))
  rw [if_neg c5]
  by_cases c6 : m.pos = 7
  · rw [if_pos c6]; unfold M.inSlash; repeat' split
    all_goals first | exact .inl ⟨h1, rfl⟩ | exact .inr (hf 0 (by omega))
  rw [if_neg c6]
  by_cases c7 : m.pos = 8
  · rw [if_pos c7]; unfold M.inUnicode; repeat' split
    all_goals first | exact .inl ⟨h1, rfl⟩ | exact .inr (hf 0 (by omega))
  rw [if_neg c7]
  by_cases c8 : m.pos = 9
  · rw [if_pos c8]; unfold M.inWord; repeat' split
    all_goals first | exact .inl ⟨h1, rfl⟩ | exact .inr (hf 0 (by omega))
  rw [if_neg c8]
  unfold M.inNumber; repeat' split
  all_goals first | exact .inl ⟨h1, rfl⟩ | exact ha | exact .inr (hf 0 (by omega))
theorem place_feed (l : List UInt8) : ∀ m : M, m.state = 1 → (m.feed l).state = 1 ∧ (m.feed l).place = m.place ∨ (m.feed l).state ≠ 1 ∧ (m.seen : Int) ≤ (m.feed l).place ∧ (m.feed l).place < m.seen + l.length := by
  induction l with
  | nil => intro m h; exact .inl ⟨h, rfl⟩
  | cons b r ih =>
    intro m h
    rw [feed_cons]
    have hb := place_byte (m.beg b) b h
    have he : m.feed1 b = { (m.beg b).byte b with seen := m.seen + 1 } := feed1_open h
    rcases hb with ⟨h1, h2⟩ | ⟨h1, h2⟩
    · have hs : (m.feed1 b).state = 1 := by rw [he]; exact h1
      have hp : (m.feed1 b).place = m.place := by rw [he]; exact h2
      have hn := seen_feed1 m b
      rcases ih (m.feed1 b) hs with ⟨k1, k2⟩ | ⟨k1, k2, k3⟩
      · exact .inl ⟨k1, by rw [k2, hp]⟩
      · refine .inr ⟨k1, ?_, ?_⟩
        · rw [hn] at k2; omega
        · rw [hn] at k3; simp; omega
    · have hs : (m.feed1 b).state ≠ 1 := by rw [he]; exact h1
      have hp : (m.feed1 b).place = m.seen := by rw [he]; exact h2
      have := feed_stuck r _ hs
      refine .inr ⟨by rw [this.1]; exact hs, ?_, ?_⟩
      · rw [this.2, hp]; omega
      · rw [this.2, hp]; simp; omega
end Tg.Json
/-
  The plain law of layer 27: a number by runs of digits is the number byte by byte.
-/
set_option linter.unusedSimpArgs false
set_option linter.unusedVariables false
namespace Tg.Json
def digits : List UInt8 → Nat
  | [] => 0
  | b :: r => if digit b then digits r + 1 else 0
def run (l : List UInt8) : Nat × Nat :=
  match l with
  | [] => (0, 1)
  | b :: _ => if digit b then (digits l, 4) else (0, 0)
/-- a number behind its sign, by runs of digits -/
def expPart (l : List UInt8) : Nat × Nat :=
  match l with
  | [] => (0, 4)
  | c :: r =>
    if c.toNat = 101 ∨ c.toNat = 69 then
      (match r with
       | [] => add 1 (run r)
       | d :: q => if d.toNat = 43 ∨ d.toNat = 45 then add 2 (run q) else add 1 (run r))
    else (0, 4)
def pointPart (l : List UInt8) : Nat × Nat :=
  match l with
  | [] => expPart l
  | c :: r => if c.toNat = 46 then (if (run r).2 = 4 then add (1 + (run r).1) (expPart (r.drop (run r).1)) else add 1 (run r)) else expPart l
def intPart (l : List UInt8) : Nat × Nat :=
  match l with
  | [] => run l
  | c :: r => if (run l).2 = 4 then (if c.toNat = 48 then add 1 (pointPart r) else add (run l).1 (pointPart (l.drop (run l).1))) else run l
theorem run_cases (l : List UInt8) : (run l).2 = 4 ∧ l ≠ [] ∨ (run l).2 ≠ 4 := by
  unfold run; split
  · exact .inr (by decide)
  · split
    · exact .inl ⟨rfl, by simp⟩
    · exact .inr (by decide)
theorem digits_le (l : List UInt8) : digits l ≤ l.length := by
  induction l with
  | nil => simp [digits]
  | cons b r ih => unfold digits; split <;> simp <;> omega
theorem run_le (l : List UInt8) : (run l).1 ≤ l.length := by
  unfold run; split
  · simp
  · split
    · exact digits_le _
    · simp

theorem add_add (a b : Nat) (x : Nat × Nat) : add a (add b x) = add (a + b) x := by simp only [add]; congr 1; omega
theorem add_zero (x : Nat × Nat) : add 0 x = x := rfl
theorem isE_iff (b : UInt8) : isE b = true ↔ (b.toNat = 101 ∨ b.toNat = 69) := by
  simp [isE, ← UInt8.toNat_inj]
theorem u8n (b k : UInt8) : b = k ↔ b.toNat = k.toNat := UInt8.toNat_inj.symm
theorem number_cons (p : Nat) (b : UInt8) (r : List UInt8) : number p (b :: r) =
    if p = 10 ∧ b = 48 then add 1 (number 11 r)
    else if (p = 10 ∨ p = 12) ∧ digit b then add 1 (number 12 r)
    else if (p = 13 ∨ p = 14) ∧ digit b then add 1 (number 14 r)
    else if (p = 15 ∨ p = 16 ∨ p = 17) ∧ digit b then add 1 (number 17 r)
    else if p = 15 ∧ (b = 43 ∨ b = 45) then add 1 (number 16 r)
    else if (p = 11 ∨ p = 12) ∧ b = 46 then add 1 (number 13 r)
    else if (p = 11 ∨ p = 12 ∨ p = 14) ∧ isE b then add 1 (number 15 r)
    else if ended p then (0, 4)
    else (0, 0) := rfl
theorem num17 (l : List UInt8) : number 17 l = (digits l, 4) := by
  induction l with
  | nil => rfl
  | cons b r ih =>
    rw [number_cons]; unfold digits
    by_cases h : digit b = true
    · simp [h, ih, add]
    · simp [h, ended]
theorem num16 (l : List UInt8) : number 16 l = run l := by
  cases l with
  | nil => rfl
  | cons b r =>
    rw [number_cons]; unfold run
    by_cases h : digit b = true
    · simp [h, num17, add, digits]
    · simp [h, ended]
theorem num15 (l : List UInt8) : number 15 l = (match l with
    | [] => run []
    | d :: q => if d.toNat = 43 ∨ d.toNat = 45 then add 1 (run q) else run (d :: q)) := by
  cases l with
  | nil => rfl
  | cons b r =>
    have h1 : (b = 43 ∨ b = 45) ↔ (b.toNat = 43 ∨ b.toNat = 45) := by simp only [u8n, UInt8.reduceToNat]
    rw [number_cons]
    by_cases h : digit b = true
    · have h2 : ¬ (b.toNat = 43 ∨ b.toNat = 45) := by
        intro hh
        simp only [digit, UInt8.le_iff_toNat_le, UInt8.reduceToNat, Bool.and_eq_true, decide_eq_true_eq] at h
        omega
      simp [h, h2, num17, run, add, digits]
    · by_cases h2 : (b = 43 ∨ b = 45)
      · have h3 := h1.1 h2
        simp [h, h2, h3, num16]
      · have h3 := fun x => h2 (h1.2 x)
        show _ = if b.toNat = 43 ∨ b.toNat = 45 then _ else _
        rw [if_neg h3]
        simp [h, h2, ended, isE, run]
theorem exp_eq (p : Nat) (hp : p = 11 ∨ p = 14) (b : UInt8) (r : List UInt8) (h46 : p = 11 → b ≠ 46) (hd : p = 14 → digit b = false) : number p (b :: r) = expPart (b :: r) := by
  rw [number_cons]; unfold expPart
  have hE := isE_iff b
  by_cases h : isE b = true
  · have h2 := hE.1 h
    have hx := num15 r
    rcases hp with rfl | rfl
    · have := h46 rfl
      simp only [h, h2, this, if_true]
      simp
      rw [hx]
      cases r with
      | nil => rfl
      | cons d q => simp only; split <;> simp [add_add]
    · have := hd rfl
      simp only [h, h2, this, if_true]
      simp
      rw [hx]
      cases r with
      | nil => rfl
      | cons d q => simp only; split <;> simp [add_add]
  · have h2 := fun x => h (hE.2 x)
    rcases hp with rfl | rfl
    · have := h46 rfl
      simp only; rw [if_neg h2]
      simp [h, this, ended]
    · have := hd rfl
      simp only; rw [if_neg h2]
      simp [h, this, ended]
theorem num14 (l : List UInt8) : number 14 l = add (digits l) (expPart (l.drop (digits l))) := by
  induction l with
  | nil => rfl
  | cons b r ih =>
    by_cases h : digit b = true
    · have e : digits (b :: r) = digits r + 1 := by rw [digits, if_pos h]
      have : number 14 (b :: r) = add 1 (number 14 r) := by rw [number_cons]; simp [h]
      rw [this, ih, e, add_add, Nat.add_comm]; rfl
    · have e : digits (b :: r) = 0 := by rw [digits, if_neg h]
      rw [e, exp_eq 14 (.inr rfl) b r (by simp) (fun _ => by simpa using h)]; rfl
theorem num13 (r : List UInt8) : number 13 r = if (run r).2 = 4 then add (run r).1 (expPart (r.drop (run r).1)) else run r := by
  cases r with
  | nil => rfl
  | cons b r =>
    by_cases h : digit b = true
    · have e : run (b :: r) = (digits (b :: r), 4) := by rw [run, if_pos h]
      have e2 : digits (b :: r) = digits r + 1 := by rw [digits, if_pos h]
      have : number 13 (b :: r) = add 1 (number 14 r) := by rw [number_cons]; simp [h]
      rw [this, e, if_pos rfl, num14, add_add, e2, Nat.add_comm]; rfl
    · have e : run (b :: r) = (0, 0) := by rw [run, if_neg h]
      rw [e, if_neg (by decide)]
      rw [number_cons]; simp [h, ended]
theorem num11 (l : List UInt8) : number 11 l = pointPart l := by
  cases l with
  | nil => rfl
  | cons b r =>
    by_cases h : b = 46
    · have h' : b.toNat = 46 := by rw [h]; rfl
      have : number 11 (b :: r) = add 1 (number 13 r) := by rw [number_cons]; simp [h]
      unfold pointPart
      simp only
      rw [this, if_pos h', num13]
      split
      · rw [add_add]
      · rfl
    · have h' : ¬ b.toNat = 46 := fun x => h (by rw [u8n]; exact x)
      rw [exp_eq 11 (.inl rfl) b r (fun _ => h) (by simp)]
      show _ = pointPart (b :: r)
      unfold pointPart; simp only; rw [if_neg h']
theorem num12 (l : List UInt8) : number 12 l = add (digits l) (pointPart (l.drop (digits l))) := by
  induction l with
  | nil => rfl
  | cons b r ih =>
    by_cases h : digit b = true
    · have e : digits (b :: r) = digits r + 1 := by rw [digits, if_pos h]
      have : number 12 (b :: r) = add 1 (number 12 r) := by rw [number_cons]; simp [h]
      rw [this, ih, e, add_add, Nat.add_comm]; rfl
    · have e : digits (b :: r) = 0 := by rw [digits, if_neg h]
      rw [e]
      show _ = pointPart (b :: r)
      rw [← num11, number_cons, number_cons]; simp [h, ended]
theorem num10 (l : List UInt8) : number 10 l = intPart l := by
  cases l with
  | nil => rfl
  | cons b r =>
    unfold intPart
    simp only
    by_cases h : digit b = true
    · have e : run (b :: r) = (digits (b :: r), 4) := by rw [run, if_pos h]
      have e2 : digits (b :: r) = digits r + 1 := by rw [digits, if_pos h]
      rw [e, if_pos rfl]
      by_cases h48 : b = 48
      · have h' : b.toNat = 48 := by rw [h48]; rfl
        have : number 10 (b :: r) = add 1 (number 11 r) := by rw [number_cons]; simp [h48]
        rw [this, if_pos h', num11]
      · have h' : ¬ b.toNat = 48 := fun x => h48 (by rw [u8n]; exact x)
        have : number 10 (b :: r) = add 1 (number 12 r) := by rw [number_cons]; simp [h48, h]
        rw [this, if_neg h', num12, e2, add_add, Nat.add_comm]; rfl
    · have e : run (b :: r) = (0, 0) := by rw [run, if_neg h]
      rw [e, if_neg (by decide)]
      have : b ≠ 48 := by rintro rfl; exact h (by decide)
      rw [number_cons]; simp [h, this, ended]
end Tg.Json
/-
  The reference for JSON: what its functions compute.
-/
set_option linter.unusedSimpArgs false
set_option linter.unusedVariables false
namespace Go.Proofs.YtgnefbngkhjfcaaDoor
open Go.RowKit Go.Tg Tg.Json

theorem u8_iff (c k : UInt8) : (c = k) ↔ c.toNat = k.toNat := UInt8.toNat_inj.symm

theorem white_nat (c : UInt8) : white c = decide (c.toNat = 32 ∨ c.toNat = 9 ∨ c.toNat = 10 ∨ c.toNat = 13) := by
  rw [Bool.eq_iff_iff]; simp [white, u8_iff]; omega
theorem digit_nat (c : UInt8) : digit c = decide (48 ≤ c.toNat ∧ c.toNat ≤ 57) := by
  rw [Bool.eq_iff_iff]; simp [digit, UInt8.le_iff_toNat_le]
theorem hex_nat (c : UInt8) : hex c = decide ((48 ≤ c.toNat ∧ c.toNat ≤ 57) ∨ (97 ≤ c.toNat ∧ c.toNat ≤ 102) ∨ (65 ≤ c.toNat ∧ c.toNat ≤ 70)) := by
  rw [Bool.eq_iff_iff]; simp [hex, digit, UInt8.le_iff_toNat_le]; omega


def has (l : List UInt8) (b : UInt8) : Bool := l.contains b
theorem has_cons (c : UInt8) (l : List UInt8) (b : UInt8) : has (c :: l) b = (c == b || has l b) := by
  unfold has; rw [List.contains_cons]; congr 1; rw [Bool.eq_iff_iff]; simp; exact eq_comm
def stv (n : Nat) : Int := if n = 4 then -1 else n
def said (at_ : Nat) (x : Nat × Nat) : Value := .agg #[.int .i64 (at_ + x.1 : Nat), .int .i64 (stv x.2)]
theorem drop_cons {s : ByteArray} {k : Nat} (h : k < s.size) : s.data.toList.drop k = s[k] :: s.data.toList.drop (k + 1) := by
  rw [List.drop_eq_getElem_cons (by simpa using h)]; rfl
theorem u8_beq (a b : UInt8) : ((a.toNat : Int) == b.toNat) = (a == b) := by
  rw [Bool.eq_iff_iff]; simp [← UInt8.toNat_inj]; omega
theorem drop_end {s : ByteArray} {k : Nat} (h : ¬ k < s.size) : s.data.toList.drop k = [] := by
  apply List.drop_eq_nil_of_le; simp; omega

theorem has_any (s : ByteArray) (b : UInt8) (w : World) (hs : s.size ≤ maxLen) :
    Calls Tryd.prog 64 #[.string s, .int .u8 b.toNat] w fun e w' => e = .returned (.bool (has s.data.toList b)) ∧ w = w' := by
  unfold maxLen at hs
  go_enter Tryd.func64, Tryd.ntmps64
  go_wp2
  go_loop [5] (fun i => ∃ k : Nat, k ≤ s.size ∧ i = .int .i64 k ∧ Hid (has (s.data.toList.drop k) b = has s.data.toList b)) (fun i => s.size - (intOf i).toNat)
  case atStart => exact ⟨0, Nat.zero_le _, rfl, rfl⟩
  case round =>
    obtain ⟨k, hk, rfl, hF⟩ := hrel
    by_cases hlt : k < s.size
    · have hd := drop_cons hlt
      have hb := u8_beq s[k] b
      have HD := Lib.hid hd
      have HB := Lib.hid hb
      clear hd hb
      go_wp2
      · go_ret
        refine ⟨ret_bool ?_, rfl⟩
        rw [← hF.out, HD.out, has_cons, ← HB.out, ‹((s[k].toNat : Int) == b.toNat) = true›]; rfl
      · go_round
        case rel =>
          refine ⟨k + 1, by omega, by go_num, ?_⟩
          show _ = _
          rw [← hF.out, HD.out, has_cons, ← HB.out, ‹((s[k].toNat : Int) == b.toNat) = false›]; rfl
        case measure => simp [intOf]; omega
    · have hd := drop_end hlt
      have HD := Lib.hid hd
      clear hd
      go_wp2
      go_ret
      refine ⟨ret_bool ?_, rfl⟩
      rw [← hF.out, HD.out]; rfl

theorem white_has (c : UInt8) : has [9, 10, 13, 32] c = white c := by
  have h : ∀ n : Fin 256, has [9, 10, 13, 32] (UInt8.ofNat n.val) = white (UInt8.ofNat n.val) := by decide +kernel
  have := h ⟨c.toNat, UInt8.toNat_lt c⟩
  simpa only [UInt8.ofNat_toNat] using this
theorem esc_has (c : UInt8) : has [34, 92, 47, 98, 102, 110, 114, 116] c = esc c := by
  have h : ∀ n : Fin 256, has [34, 92, 47, 98, 102, 110, 114, 116] (UInt8.ofNat n.val) = esc (UInt8.ofNat n.val) := by decide +kernel
  have := h ⟨c.toNat, UInt8.toNat_lt c⟩
  simpa only [UInt8.ofNat_toNat] using this
theorem hasWhite_any (c : UInt8) (w : World) :
    Calls Tryd.prog 64 #[.string ⟨#[9, 10, 13, 32]⟩, .int .u8 c.toNat] w fun e w' => e = .returned (.bool (white c)) ∧ w = w' := by
  rw [← white_has]; exact has_any ⟨#[9, 10, 13, 32]⟩ c w (by decide)
theorem hasEsc_any (c : UInt8) (w : World) :
    Calls Tryd.prog 64 #[.string ⟨#[34, 92, 47, 98, 102, 110, 114, 116]⟩, .int .u8 c.toNat] w fun e w' => e = .returned (.bool (esc c)) ∧ w = w' := by
  rw [← esc_has]; exact has_any ⟨#[34, 92, 47, 98, 102, 110, 114, 116]⟩ c w (by decide)
theorem skip_any (s : ByteArray) (at_ : Nat) (w : World) (hs : s.size ≤ maxLen) (ha : at_ ≤ s.size) :
    Calls Tryd.prog 41 #[.string s, .int .i64 at_] w fun e w' => e = .returned (.int .i64 (at_ + skip (s.data.toList.drop at_) : Nat)) ∧ w = w' := by
  unfold maxLen at hs
  go_enter Tryd.func41, Tryd.ntmps41
  go_wp2
  go_loop [1] (fun i => ∃ k : Nat, k ≤ s.size ∧ i = .int .i64 k ∧ Hid (k + skip (s.data.toList.drop k) = at_ + skip (s.data.toList.drop at_))) (fun i => s.size - (intOf i).toNat)
  case atStart => exact ⟨at_, ha, rfl, rfl⟩
  case round =>
    obtain ⟨k, hk, rfl, hF⟩ := hrel
    by_cases hlt : k < s.size
    · have hd := drop_cons hlt
      have HD := Lib.hid hd
      clear hd
      go_wp2_with (go_at_call 64; refine (hasWhite_any _ _).mono ?_; rintro e w' ⟨rfl, rfl⟩)
      · go_round
        case rel =>
          refine ⟨k + 1, by omega, by go_num, ?_⟩
          show _ = _
          rw [← hF.out, HD.out, skip, if_pos (by assumption)]; omega
        case measure => simp [intOf]; omega
      · go_ret
        refine ⟨ret_int ?_, rfl⟩
        rw [← hF.out, HD.out, skip, if_neg (by simp only [*]; decide)]; rfl
    · have hd := drop_end hlt
      have HD := Lib.hid hd
      clear hd
      go_wp2
      go_ret
      refine ⟨ret_int ?_, rfl⟩
      have h := hF.out
      rw [HD.out] at h
      have e : skip [] = 0 := rfl
      omega

theorem said_eq {a : Nat} {x : Nat × Nat} {n st : Int} (h1 : n = (a + x.1 : Nat)) (h2 : st = stv x.2) : Ending.returned (.agg #[.int .i64 n, .int .i64 st]) = .returned (said a x) := by
  rw [h1, h2]; rfl
set_option maxHeartbeats 1000000 in
theorem word_any (s v : ByteArray) (at_ : Nat) (w : World) (hs : s.size ≤ 1048576) (hv : v.size ≤ 8) (ha : at_ ≤ s.size) :
    Calls Tryd.prog 63 #[.string s, .int .i64 at_, .string v] w fun e w' => e = .returned (said at_ (word (s.data.toList.drop at_) v.data.toList)) ∧ Change (fun _ => False) w w' := by
  go_enter Tryd.func63, Tryd.ntmps63
  go_wp2
  go_loopw [7] (fun i wr => ∃ k : Nat, k ≤ v.size ∧ at_ + k ≤ s.size ∧ i = .int .i64 k ∧ Hid (add k (word (s.data.toList.drop (at_ + k)) (v.data.toList.drop k)) = word (s.data.toList.drop at_) v.data.toList) ∧ Blk wr w.heap.size 56 #[.int .i64 0, .int .i64 0] ∧ Change (fun _ => False) w wr) (fun i _ => v.size - (intOf i).toNat)
  case atStart => exact ⟨0, Nat.zero_le _, ha, rfl, by show add 0 _ = _; simp [add], Blk.new _ _ _, (Change.refl _ w).alloc _⟩
  case round =>
    obtain ⟨k, hk, hks, rfl, hF, hb, hc⟩ := hrel
    have hf := hb.free
    have c0 : wr.cell? ⟨w.heap.size, 0, none⟩ = some (.int .i64 0) := hb.cell 0
    have c1 : wr.cell? ⟨w.heap.size, 1, none⟩ = some (.int .i64 0) := hb.cell 1
    have HC := Lib.hid hc
    have HB := Lib.hid hb
    clear hc hb
    by_cases hlt : k < v.size
    · have hdv := Lib.hid (drop_cons hlt)
      by_cases hss : at_ + k < s.size
      · have hds := Lib.hid (drop_cons hss)
        have hcmp := Lib.hid (u8_beq s[at_ + k] v[k])
        have e0 : ((at_ : Int) + k == s.size) = false := by rw [beq_eq_false_iff_ne]; omega
        have b0 : (0 : Int) ≤ (at_ : Int) + k := by omega
        have b1 : ((at_ : Int) + k) < s.size := by omega
        have b2 : (k : Int) < v.size := by omega
        have e1 : ((at_ : Int) + k).toNat = at_ + k := by omega
        have e2 : IntKind.i64.wrap ((at_ : Int) + k) = (at_ : Int) + k := IntWalk.i64_in _ (by omega)
        by_cases hx : ((s[at_ + k].toNat : Int) == v[k].toNat) = true
        · have hx' : ((s[at_ + k].toNat : Int) != v[k].toNat) = false := by simp only [bne, hx]; rfl
          go_wp2_with fail
          go_quiet (fail)
          go_wp2
          refine ⟨⟨k + 1, by omega, by omega, by go_num, ?_, HB.out.drewN _, HC.out.drewN _⟩, by simp [intOf]; omega⟩
          show _ = _
          have ex : s[at_ + k] = v[k] := by rw [hcmp.out] at hx; simpa using hx
          rw [← hF.out, hds.out, hdv.out, word, if_pos ex]
          show add (k + 1) (word (List.drop (at_ + k + 1) _) _) = _
          generalize word (List.drop (at_ + k + 1) s.data.toList) (List.drop (k + 1) v.data.toList) = y
          simp only [add, Prod.mk.injEq]; exact ⟨by omega, trivial⟩
        · have hx' : ((s[at_ + k].toNat : Int) != v[k].toNat) = true := by simp only [bne, hx]; rfl
          have ex : ¬ s[at_ + k] = v[k] := by rw [hcmp.out] at hx; simpa using hx
          have HX := Lib.hid ex
          clear ex
          go_wp2_with fail
          go_quiet (fail)
          go_wp2
          refine bodyPost_ret (v := .agg #[.int .i64 (at_ + k), .int .i64 0]) (by simp [results, Tryd.results63, go_sem, c0, c1]) rfl ⟨?_, ?_⟩
          · rw [← hF.out, hds.out, hdv.out, word, if_neg HX.out]; exact said_eq (by simp [add]) rfl
          · (repeat (first | exact HC.out | refine Change.drewN ?_ _ | refine Change.drew ?_ | refine Change.setCell ?_ (.inr (by simp)) _))
      · have hds := Lib.hid (drop_end hss)
        have e0 : ((at_ : Int) + k == s.size) = true := by rw [beq_iff_eq]; omega
        have hk1 : at_ + k = s.size := by omega
        have HK := Lib.hid hk1
        clear hk1
        go_wp2
        refine bodyPost_ret (v := .agg #[.int .i64 (at_ + k), .int .i64 1]) (by simp [results, Tryd.results63, go_sem, c0, c1]) rfl ⟨?_, ?_⟩
        · rw [← hF.out, hds.out, hdv.out, word]; exact said_eq (by simp [add]) rfl
        · (repeat (first | exact HC.out | refine Change.drewN ?_ _ | refine Change.drew ?_ | refine Change.setCell ?_ (.inr (by simp)) _))
    · have hdv := Lib.hid (drop_end hlt)
      have hkv : k = v.size := by omega
      have HK := Lib.hid hkv
      clear hkv
      go_wp2
      refine bodyPost_ret (v := .agg #[.int .i64 (at_ + v.size), .int .i64 (-1)]) (by simp [results, Tryd.results63, go_sem, c0, c1]) rfl ⟨?_, ?_⟩
      · rw [← hF.out, hdv.out]
        have : ∀ l : List UInt8, word l [] = (0, 4) := by intro l; cases l <;> rfl
        rw [this, ← HK.out]; exact said_eq (by simp [add]) rfl
      · (repeat (first | exact HC.out | refine Change.drewN ?_ _ | refine Change.drew ?_ | refine Change.setCell ?_ (.inr (by simp)) _))

theorem rdigit_any (c : UInt8) (w : World) :
    Calls Tryd.prog 61 #[.int .u8 c.toNat] w fun e w' => e = .returned (.bool (digit c)) ∧ w = w' := by
  rw [digit_nat]
  go_enter Tryd.func61, Tryd.ntmps61
  go_wp2
  all_goals go_ret
  all_goals (refine ⟨ret_bool ?_, rfl⟩; try simp only [beq_iff_eq, beq_eq_false_iff_ne, ne_eq] at *)
  all_goals (rw [Bool.eq_iff_iff]; simp; try omega)
set_option maxHeartbeats 1000000 in
theorem run_any (s : ByteArray) (at_ : Nat) (w : World) (hs : s.size ≤ 1048576) (ha : at_ ≤ s.size) :
    Calls Tryd.prog 87 #[.string s, .int .i64 at_] w fun e w' => e = .returned (said at_ (run (s.data.toList.drop at_))) ∧ Change (fun _ => False) w w' := by
  by_cases hss : at_ < s.size
  · have hds := Lib.hid (drop_cons hss)
    have e0 : ((at_ : Int) == s.size) = false := by rw [beq_eq_false_iff_ne]; omega
    cases hdg : digit s[at_]
    · have Hdg := Lib.hid hdg
      have hb : Blk (w.alloc (.cells #[.int .i64 0, .int .i64 0] 56)) w.heap.size _ _ := Blk.new w 56 #[.int .i64 0, .int .i64 0]
      go_enter Tryd.func87, Tryd.ntmps87
      go_wp2_with (go_at_call 61; refine (rdigit_any _ _).mono ?_; rintro e w' ⟨rfl, rfl⟩)
      refine bodyPost_ret (v := .agg #[.int .i64 at_, .int .i64 0]) (by simp [results, Tryd.results87, go_sem]) rfl ⟨?_, ?_⟩
      · rw [hds.out, run, if_neg (by rw [Hdg.out]; decide)]; exact said_eq (by simp) rfl
      · exact (Change.refl _ w).alloc _
    · have Hdg := Lib.hid hdg
      go_enter Tryd.func87, Tryd.ntmps87
      go_wp2_with (go_at_call 61; refine (rdigit_any _ _).mono ?_; rintro e w' ⟨rfl, rfl⟩)
      go_loopw [1] (fun i wr => ∃ k : Nat, k ≤ s.size ∧ at_ ≤ k ∧ i = .int .i64 k ∧ Hid (k + digits (s.data.toList.drop k) = at_ + digits (s.data.toList.drop at_)) ∧ Blk wr w.heap.size 56 #[.int .i64 0, .int .i64 0] ∧ Change (fun _ => False) w wr) (fun i _ => s.size - (intOf i).toNat)
      case atStart => exact ⟨at_, ha, Nat.le_refl _, rfl, rfl, Blk.new _ _ _, (Change.refl _ w).alloc _⟩
      case round =>
        obtain ⟨k, hk, hak, rfl, hF, hb, hc⟩ := hrel
        have hf := hb.free
        have c0 : wr.cell? ⟨w.heap.size, 0, none⟩ = some (.int .i64 0) := hb.cell 0
        have c1 : wr.cell? ⟨w.heap.size, 1, none⟩ = some (.int .i64 0) := hb.cell 1
        have HC := Lib.hid hc
        have HB := Lib.hid hb
        clear hc hb
        have Hend : Hid (digits (s.data.toList.drop k) = 0 → Ending.returned (.agg #[.int .i64 k, .int .i64 (-1)]) = Ending.returned (said at_ (run (s.data.toList.drop at_)))) := by
          intro h0
          have h := hF.out
          rw [h0] at h
          have hr : run (s.data.toList.drop at_) = (digits (s.data.toList.drop at_), 4) := by
            rw [hds.out, run, if_pos Hdg.out]
          rw [hr]; exact said_eq (by simp; omega) rfl
        by_cases hlt : k < s.size
        · have hdk := Lib.hid (drop_cons hlt)
          cases hdgk : digit s[k]
          · have Hk := Lib.hid hdgk
            go_wp2_with (go_at_call 61; refine (rdigit_any _ _).mono ?_; rintro e w' ⟨rfl, rfl⟩)
            refine bodyPost_ret (v := .agg #[.int .i64 k, .int .i64 (-1)]) (by simp [results, Tryd.results87, go_sem, c0, c1]) rfl ⟨?_, ?_⟩
            · exact Hend.out (by rw [hdk.out, digits, if_neg (by rw [Hk.out]; decide)])
            · (repeat (first | exact HC.out | refine Change.drewN ?_ _ | refine Change.drew ?_ | refine Change.setCell ?_ (.inr (by simp)) _))
          · have Hk := Lib.hid hdgk
            go_wp2_with (go_at_call 61; refine (rdigit_any _ _).mono ?_; rintro e w' ⟨rfl, rfl⟩)
            refine ⟨⟨k + 1, by omega, by omega, by go_num, ?_, HB.out, HC.out⟩, by simp [intOf]; omega⟩
            show _ = _
            rw [← hF.out, hdk.out, digits, if_pos Hk.out]; omega
        · have hdk := Lib.hid (drop_end hlt)
          go_wp2_with (go_at_call 61; refine (rdigit_any _ _).mono ?_; rintro e w' ⟨rfl, rfl⟩)
          refine bodyPost_ret (v := .agg #[.int .i64 k, .int .i64 (-1)]) (by simp [results, Tryd.results87, go_sem, c0, c1]) rfl ⟨?_, ?_⟩
          · exact Hend.out (by rw [hdk.out]; rfl)
          · (repeat (first | exact HC.out | refine Change.drewN ?_ _ | refine Change.drew ?_ | refine Change.setCell ?_ (.inr (by simp)) _))
  · have hds := Lib.hid (drop_end hss)
    have e0 : ((at_ : Int) == s.size) = true := by rw [beq_iff_eq]; omega
    have hk1 : at_ = s.size := by omega
    have HK := Lib.hid hk1
    clear hk1
    go_enter Tryd.func87, Tryd.ntmps87
    go_wp2
    refine bodyPost_ret (v := .agg #[.int .i64 at_, .int .i64 1]) (by simp [results, Tryd.results87, go_sem]) rfl ⟨?_, ?_⟩
    · rw [hds.out, run]; exact said_eq (by simp) rfl
    · exact (Change.refl _ w).alloc _
end Go.Proofs.YtgnefbngkhjfcaaDoor
/-
  The reference for JSON: texts and numbers.
-/
set_option linter.unusedSimpArgs false
set_option linter.unusedVariables false
namespace Go.Proofs.YtgnefbngkhjfcaaDoor
open Go.RowKit Go.Tg Tg.Json

def hexLow : ByteArray := ⟨#[48, 49, 50, 51, 52, 53, 54, 55, 56, 57, 97, 98, 99, 100, 101, 102]⟩
def hexGo (c : UInt8) : Nat → Nat → Int
  | 0, _ => -1
  | f + 1, k => if ((#[48, 49, 50, 51, 52, 53, 54, 55, 56, 57, 97, 98, 99, 100, 101, 102] : Array UInt8).getD k 0).toNat = c.toNat ∨ ((#[48, 49, 50, 51, 52, 53, 54, 55, 56, 57, 65, 66, 67, 68, 69, 70] : Array UInt8).getD k 0).toNat = c.toNat then k else hexGo c f (k + 1)
theorem hexGo_hex (c : UInt8) : (0 ≤ hexGo c 16 0 ∧ hex c = true) ∨ (hexGo c 16 0 < 0 ∧ hex c = false) := by
  have h : ∀ n : Fin 256, (0 ≤ hexGo (UInt8.ofNat n.val) 16 0 ∧ hex (UInt8.ofNat n.val) = true) ∨ (hexGo (UInt8.ofNat n.val) 16 0 < 0 ∧ hex (UInt8.ofNat n.val) = false) := by decide +kernel
  have := h ⟨c.toNat, UInt8.toNat_lt c⟩
  simpa only [UInt8.ofNat_toNat] using this
theorem ba_getD (a : Array UInt8) (k : Nat) (h : k < (⟨a⟩ : ByteArray).size) : (⟨a⟩ : ByteArray)[k]'h = a.getD k 0 := by
  have h' : k < a.size := h
  show a[k] = _
  simp [Array.getD, h']
theorem hexv_any (c : UInt8) (w : World) :
    Calls Tryd.prog 86 #[.int .u8 c.toNat] w fun e w' => e = .returned (.int .i64 (hexGo c 16 0)) ∧ w = w' := by
  go_enter Tryd.func86, Tryd.ntmps86
  go_wp2
  go_loop [5] (fun i => ∃ k : Nat, k ≤ 16 ∧ i = .int .i64 k ∧ Hid (hexGo c (16 - k) k = hexGo c 16 0)) (fun i => 16 - (intOf i).toNat)
  case atStart => exact ⟨0, by omega, rfl, rfl⟩
  case round =>
    obtain ⟨k, hk, rfl, hF⟩ := hrel
    by_cases hlt : k < 16
    · have hs : Hid (hexGo c (16 - k) k = if ((#[48, 49, 50, 51, 52, 53, 54, 55, 56, 57, 97, 98, 99, 100, 101, 102] : Array UInt8).getD k 0).toNat = c.toNat ∨ ((#[48, 49, 50, 51, 52, 53, 54, 55, 56, 57, 65, 66, 67, 68, 69, 70] : Array UInt8).getD k 0).toNat = c.toNat then (k : Int) else hexGo c (16 - (k + 1)) (k + 1)) := by
        obtain ⟨f, hf⟩ : ∃ f, 16 - k = f + 1 := ⟨15 - k, by omega⟩
        have hf' : 16 - (k + 1) = f := by omega
        show hexGo c (16 - k) k = _
        rw [hf, hf']; rfl
      go_wp2
      · go_ret
        refine ⟨ret_int ?_, rfl⟩
        rw [← hF.out, hs.out, if_pos]
        simp only [ba_getD] at *
        exact .inl (by omega)
      · go_ret
        refine ⟨ret_int ?_, rfl⟩
        rw [← hF.out, hs.out, if_pos]
        simp only [ba_getD, beq_iff_eq] at *
        omega
      · refine ⟨⟨k + 1, by omega, by go_num, ?_⟩, by simp [intOf]; omega⟩
        show _ = _
        rw [← hF.out, hs.out, if_neg]
        simp only [ba_getD, beq_iff_eq, beq_eq_false_iff_ne, ne_eq] at *
        omega
    · go_wp2
      go_ret
      refine ⟨ret_int ?_, rfl⟩
      have h := hF.out
      obtain rfl : k = 16 := by omega
      rw [← h]; rfl

theorem said_add (a n : Nat) (x : Nat × Nat) : said a (add n x) = said (a + n) x := by
  simp only [said, add]; rw [show a + (x.1 + n) = a + n + x.1 from by omega]
theorem said_fin {a : Nat} {x : Nat × Nat} {n st : Int} (h1 : n = (a + x.1 : Nat)) (h2 : st = stv x.2) : Ending.returned (.agg #[.int .i64 n, .int .i64 st]) = .returned (said a x) := said_eq h1 h2
set_option maxHeartbeats 1000000 in
theorem quote_any (s : ByteArray) (at_ : Nat) (w : World) (hs : s.size ≤ 1048576) (ha : at_ ≤ s.size) :
    Calls Tryd.prog 60 #[.string s, .int .i64 at_] w fun e w' => e = .returned (said at_ (quote 0 (s.data.toList.drop at_))) ∧ Change (fun _ => False) w w' := by
  go_enter Tryd.func60, Tryd.ntmps60
  go_wp2
  go_loopw [1] (fun i wr => ∃ k : Nat, k ≤ s.size ∧ i = .int .i64 k ∧ Hid (said k (quote 0 (s.data.toList.drop k)) = said at_ (quote 0 (s.data.toList.drop at_))) ∧ Blk wr w.heap.size 56 #[.int .i64 0, .int .i64 0] ∧ Change (fun _ => False) w wr) (fun i _ => s.size - (intOf i).toNat)
  case atStart => exact ⟨at_, ha, rfl, rfl, Blk.new _ _ _, (Change.refl _ w).alloc _⟩
  case round =>
    obtain ⟨k, hk, rfl, hF, hb, hc⟩ := hrel
    have hf := hb.free
    have c0 : wr.cell? ⟨w.heap.size, 0, none⟩ = some (.int .i64 0) := hb.cell 0
    have c1 : wr.cell? ⟨w.heap.size, 1, none⟩ = some (.int .i64 0) := hb.cell 1
    have HC := Lib.hid hc
    have HB := Lib.hid hb
    clear hc hb
    by_cases hlt : k < s.size
    · have hdk := Lib.hid (drop_cons hlt)
      have hu := u8_lt s[k]
      by_cases b1 : s[k] < 32
      · have n1 : (s[k].toNat : Int) < 32 := by simp only [UInt8.lt_iff_toNat_lt, UInt8.reduceToNat] at b1; omega
        have B1 := Lib.hid b1
        clear b1
        go_wp2
        refine bodyPost_ret (v := .agg #[.int .i64 (k), .int .i64 (0)]) (by simp [results, Tryd.results60, go_sem, c0, c1]) rfl ⟨?_, ?_⟩
        · rw [← hF.out]; rw [hdk.out, quote, if_pos rfl, if_pos B1.out]; exact said_fin (by simp) rfl
        · (repeat (first | exact HC.out | refine Change.drewN ?_ _ | refine Change.drew ?_ | refine Change.setCell ?_ (.inr (by simp)) _))

      · have n1 : ¬ (s[k].toNat : Int) < 32 := by simp only [UInt8.lt_iff_toNat_lt, UInt8.reduceToNat] at b1; omega
        have B1 := Lib.hid b1
        clear b1
        rcases u8_is s[k] 34 34 rfl with ⟨b2, n2⟩ | ⟨b2, n2⟩
        · have B2 := Lib.hid b2
          clear b2
          go_wp2
          refine bodyPost_ret (v := .agg #[.int .i64 (k + 1), .int .i64 (-1)]) (by simp [results, Tryd.results60, go_sem, c0, c1]) rfl ⟨?_, ?_⟩
          · rw [← hF.out]; rw [hdk.out, quote, if_pos rfl, if_neg B1.out, if_pos B2.out]; exact said_fin (by simp) rfl
          · (repeat (first | exact HC.out | refine Change.drewN ?_ _ | refine Change.drew ?_ | refine Change.setCell ?_ (.inr (by simp)) _))

        · have B2 := Lib.hid b2
          clear b2
          rcases u8_is s[k] 92 92 rfl with ⟨b3, n3⟩ | ⟨b3, n3⟩
          · have n3' : ((s[k].toNat : Int) != 92) = false := by simp only [bne, n3]; rfl
            have B3 := Lib.hid b3
            clear b3 n3
            have HQ : Hid (said (k + 1) (quote 1 (s.data.toList.drop (k + 1))) = said at_ (quote 0 (s.data.toList.drop at_))) := by
              show _ = _
              rw [← hF.out, hdk.out, quote, if_pos rfl, if_neg B1.out, if_neg B2.out, if_pos B3.out, said_add]
            by_cases hl2 : k + 1 < s.size
            · have hd2 := Lib.hid (drop_cons hl2)
              have e0 : ((k : Int) + 1 == s.size) = false := by rw [beq_eq_false_iff_ne]; omega
              rcases u8_is s[k + 1] 117 117 rfl with ⟨b4, n4⟩ | ⟨b4, n4⟩
              · have B4 := Lib.hid b4
                clear b4
                have HV : Hid (said (k + 1 + 1) (quote 5 (s.data.toList.drop (k + 1 + 1))) = said at_ (quote 0 (s.data.toList.drop at_))) := by
                  show _ = _
                  rw [← HQ.out, hd2.out, quote, if_neg (by decide), if_pos rfl, if_pos B4.out, said_add]
                go_wp2
                obtain ⟨wo, rfl⟩ : ∃ wo : World, wo = wr := ⟨_, rfl⟩
                go_loop [6] (fun i => ∃ j : Nat, 1 ≤ j ∧ j ≤ 5 ∧ i = .int .i64 j ∧ k + 1 + j ≤ s.size ∧ Hid (said (k + 1 + j) (quote (if j = 5 then 0 else 6 - j) (s.data.toList.drop (k + 1 + j))) = said at_ (quote 0 (s.data.toList.drop at_)))) (fun i => 5 - (intOf i).toNat)
                case atStart => exact ⟨1, by omega, by omega, rfl, by omega, HV⟩
                case round =>
                  obtain ⟨j, hj1, hj5, rfl, hjs, hG⟩ := hrel
                  by_cases hj : j < 5
                  · by_cases hl3 : k + 1 + j < s.size
                    · have hd3 := Lib.hid (drop_cons hl3)
                      have hx := hexGo_hex s[k + 1 + j]
                      have b0 : (0 : Int) ≤ (k : Int) + 1 + j := by omega
                      have b5 : ((k : Int) + 1 + j) < s.size := by omega
                      have e1 : ((k : Int) + 1 + j).toNat = k + 1 + j := by omega
                      rcases hx with ⟨x1, x2⟩ | ⟨x1, x2⟩
                      · have X2 := Lib.hid x2
                        clear x2
                        go_wp2_with (go_at_call 86; refine (hexv_any _ _).mono ?_; rintro e w' ⟨rfl, rfl⟩)
                        refine ⟨⟨j + 1, by omega, by omega, by go_num, by omega, ?_⟩, by simp [intOf]; omega⟩
                        show _ = _
                        rw [← hG.out, hd3.out, if_neg (show ¬ j = 5 by omega), quote, if_neg (show ¬ 6 - j = 0 by omega), if_neg (show ¬ 6 - j = 1 by omega), if_pos X2.out, said_add]
                        have : (if 6 - j = 2 then 0 else 6 - j - 1) = (if j + 1 = 5 then 0 else 6 - (j + 1)) := by split <;> split <;> omega
                        rw [this]; rfl
                      · have X2 := Lib.hid x2
                        clear x2
                        go_wp2_with (go_at_call 86; refine (hexv_any _ _).mono ?_; rintro e w' ⟨rfl, rfl⟩)
                        refine bodyPost_ret (v := .agg #[.int .i64 (k + 1 + j), .int .i64 0]) (by simp [results, Tryd.results60, go_sem, c0, c1]) rfl ⟨?_, ?_⟩
                        · rw [← hG.out, hd3.out, if_neg (show ¬ j = 5 by omega), quote, if_neg (show ¬ 6 - j = 0 by omega), if_neg (show ¬ 6 - j = 1 by omega), if_neg (by rw [X2.out]; decide)]; exact said_fin (by simp) rfl
                        · (repeat (first | exact HC.out | refine Change.drewN ?_ _ | refine Change.drew ?_ | refine Change.setCell ?_ (.inr (by simp)) _))
                    · have hd3 := Lib.hid (drop_end hl3)
                      have hle : k + 1 + j = s.size := by omega
                      have HL := Lib.hid hle
                      clear hle
                      go_wp2
                      refine bodyPost_ret (v := .agg #[.int .i64 s.size, .int .i64 1]) (by simp [results, Tryd.results60, go_sem, c0, c1]) rfl ⟨?_, ?_⟩
                      · rw [← hG.out, hd3.out, if_neg (show ¬ j = 5 by omega)]
                        have : ∀ q, quote q [] = (0, 1) := fun _ => rfl
                        rw [this, HL.out]; exact said_fin (by simp) rfl
                      · (repeat (first | exact HC.out | refine Change.drewN ?_ _ | refine Change.drew ?_ | refine Change.setCell ?_ (.inr (by simp)) _))
                  · go_wp2
                    refine ⟨⟨k + 6, by omega, by go_num, ?_, HB.out, HC.out⟩, by simp [intOf]; omega⟩
                    obtain rfl : j = 5 := by omega
                    exact hG
              · have B4 := Lib.hid b4
                clear b4
                cases hes : esc s[k + 1]
                · have HE := Lib.hid hes
                  go_wp2_with (first | (go_at_call 64; refine (hasEsc_any _ _).mono ?_; rintro e w' ⟨rfl, rfl⟩))
                  refine bodyPost_ret (v := .agg #[.int .i64 (k + 1), .int .i64 0]) (by simp [results, Tryd.results60, go_sem, c0, c1]) rfl ⟨?_, ?_⟩
                  · rw [← HQ.out, hd2.out, quote, if_neg (by decide), if_pos rfl, if_neg B4.out, if_neg (by rw [HE.out]; decide)]; exact said_fin (by simp) rfl
                  · (repeat (first | exact HC.out | refine Change.drewN ?_ _ | refine Change.drew ?_ | refine Change.setCell ?_ (.inr (by simp)) _))
                · have HE := Lib.hid hes
                  go_wp2_with (first | (go_at_call 64; refine (hasEsc_any _ _).mono ?_; rintro e w' ⟨rfl, rfl⟩))
                  refine ⟨⟨k + 2, by omega, by go_num, ?_, HB.out, HC.out⟩, by simp [intOf]; omega⟩
                  show _ = _
                  rw [← HQ.out, hd2.out, quote, if_neg (by decide), if_pos rfl, if_neg B4.out, if_pos HE.out, said_add]
            · have hd2 := Lib.hid (drop_end hl2)
              have e0 : ((k : Int) + 1 == s.size) = true := by rw [beq_iff_eq]; omega
              go_wp2
              refine bodyPost_ret (v := .agg #[.int .i64 (k + 1), .int .i64 1]) (by simp [results, Tryd.results60, go_sem, c0, c1]) rfl ⟨?_, ?_⟩
              · rw [← HQ.out, hd2.out]; exact said_fin (by simp [quote]) rfl
              · (repeat (first | exact HC.out | refine Change.drewN ?_ _ | refine Change.drew ?_ | refine Change.setCell ?_ (.inr (by simp)) _))
          · have n3' : ((s[k].toNat : Int) != 92) = true := by simp only [bne, n3]; rfl
            have B3 := Lib.hid b3
            clear b3 n3
            go_wp2
            refine ⟨⟨k + 1, by omega, by go_num, ?_, HB.out, HC.out⟩, by simp [intOf]; omega⟩
            show _ = _
            rw [← hF.out, hdk.out, quote, if_pos rfl, if_neg B1.out, if_neg B2.out, if_neg B3.out, said_add]
    · have hdk := Lib.hid (drop_end hlt)
      go_wp2
      refine bodyPost_ret (v := .agg #[.int .i64 (k), .int .i64 (1)]) (by simp [results, Tryd.results60, go_sem, c0, c1]) rfl ⟨?_, ?_⟩
      · rw [← hF.out]; rw [hdk.out]; exact said_fin (by simp [quote]) rfl
      · (repeat (first | exact HC.out | refine Change.drewN ?_ _ | refine Change.drew ?_ | refine Change.setCell ?_ (.inr (by simp)) _))

end Go.Proofs.YtgnefbngkhjfcaaDoor
/-
  The reference for JSON: numbers.
-/
set_option linter.unusedSimpArgs false
set_option linter.unusedVariables false
namespace Go.Proofs.YtgnefbngkhjfcaaDoor
open Go.RowKit Go.Tg Tg.Json

theorem stv_four (n : Nat) : stv n = -1 ↔ n = 4 := by unfold stv; split <;> omega
theorem run_any2 (s : ByteArray) (x : Int) (k : Nat) (w : World) (hs : s.size ≤ 1048576) (hx : x = k) (hk : k ≤ s.size) :
    Calls Tryd.prog 87 #[.string s, .int .i64 x] w fun e w' => e = .returned (.agg #[.int .i64 (k + (run (s.data.toList.drop k)).1 : Nat), .int .i64 (stv (run (s.data.toList.drop k)).2)]) ∧ Change (fun _ => False) w w' := by
  subst hx; exact run_any s k w hs hk
theorem blk_agg {w : World} {b : Nat} {t : TypeId} {x y : Value} (h : Blk w b t #[x, y]) : w.cell? ⟨b, 0, none⟩ = some x ∧ w.cell? ⟨b, 1, none⟩ = some y ∧ ∀ i, w.frozen? ⟨b, i, none⟩ = false := ⟨h.cell 0, h.cell 1, h.free⟩
theorem post_said {fn : Func} {R : Ending → World → Prop} {a : Act} {W : World} {b : Nat} {x y : Value} {t : Tmp} (hb : Blk W b 56 #[x, y]) (hres : fn.results = #[ResultVar.cell t 56]) (hd : a.defers = []) (hp : a.tmps.getD t undef = .pointer (some ⟨b, 0, none⟩))
    (hR : R (.returned (.agg #[x, y])) W) : bodyPost Tryd.prog fn R .ret a W := by
  have c0 : W.cell? ⟨b, 0, none⟩ = some x := hb.cell 0
  have c1 : W.cell? ⟨b, 1, none⟩ = some y := hb.cell 1
  refine bodyPost_ret (v := .agg #[x, y]) ?_ hd hR
  have hp' : a.tmps[t]?.getD undef = .pointer (some ⟨b, 0, none⟩) := by rw [← hp]; simp [Array.getD_eq_getD_getElem?]
  simp [results, hres, go_sem, c0, c1, hp']
set_option maxHeartbeats 2000000 in
set_option maxRecDepth 100000 in
theorem number_any (s : ByteArray) (at_ : Nat) (w : World) (hs : s.size ≤ 1048576) (ha : at_ < s.size) :
    Calls Tryd.prog 62 #[.string s, .int .i64 at_] w fun e w' =>
      e = .returned (if s[at_].toNat = 45 then said (at_ + 1) (intPart (s.data.toList.drop (at_ + 1))) else said at_ (intPart (s.data.toList.drop at_))) ∧ Change (fun _ => False) w w' := by
  obtain ⟨R, hR⟩ : ∃ R, R = (if s[at_].toNat = 45 then said (at_ + 1) (intPart (s.data.toList.drop (at_ + 1))) else said at_ (intPart (s.data.toList.drop at_))) := ⟨_, rfl⟩
  rw [← hR]
  have HR := Lib.hid hR
  clear hR
  have hu := u8_lt s[at_]
  go_enter Tryd.func62, Tryd.ntmps62
  go_upto_if 9 with (fail)
  go_cut [1] (fun i wr => ∃ k : Nat, k ≤ s.size ∧ i = .int .i64 k ∧ Hid (said k (intPart (s.data.toList.drop k)) = R) ∧ Blk wr w.heap.size 56 #[.int .i64 0, .int .i64 0] ∧ Change (fun _ => False) w wr)
  case first =>
    go_wp2
    all_goals go_meet
    · refine ⟨at_ + 1, by omega, by go_num, ?_, Blk.new _ _ _, (Change.refl _ w).alloc _⟩
      show _ = _
      rw [HR.out, if_pos (by simp only [beq_iff_eq] at *; omega)]
    · refine ⟨at_, by omega, rfl, ?_, Blk.new _ _ _, (Change.refl _ w).alloc _⟩
      show _ = _
      rw [HR.out, if_neg (by simp only [beq_eq_false_iff_ne, ne_eq] at *; omega)]
  case rest =>
    obtain ⟨k, hk, rfl, hF, hb, hc⟩ := hcut
    have HB := Lib.hid hb
    have HC := Lib.hid hc
    clear hb hc hu
    go_wp2_with fail
    refine (run_any2 s k k _ hs rfl hk).mono ?_
    rintro e w1 ⟨rfl, hc1⟩
    have hc2 := HC.out.trans hc1 (fun i h => h.elim)
    have hb2 := HB.out.of_change hc1 (fun h => h)
    have HB2 := Lib.hid hb2
    have HC2 := Lib.hid hc2
    clear hc1 hb2 hc2
    have hlt := HB2.out.lt
    rcases run_cases (s.data.toList.drop k) with ⟨h4, hne⟩ | h4
    · have hk1 : k < s.size := by
        rcases Nat.lt_or_ge k s.size with h | h
        · exact h
        · exact absurd (drop_end (by omega)) hne
      have hdk := Lib.hid (drop_cons hk1)
      have e4 : (stv (run (s.data.toList.drop k)).2 != -1) = false := by rw [h4]; rfl
      have hle := run_le (s.data.toList.drop k)
      simp only [List.length_drop, Array.length_toList] at hle
      have hle2 : k + (run (s.data.toList.drop k)).1 ≤ s.size := by
        have : s.data.size = s.size := rfl
        omega
      have HX : Hid (s[k].toNat = 48 → said (k + 1) (pointPart (s.data.toList.drop (k + 1))) = R) := by
        intro h48
        rw [← hF.out, hdk.out]; unfold intPart; simp only
        rw [if_pos (by rw [← hdk.out]; exact h4), if_pos h48, said_add]
      have HY : Hid (s[k].toNat ≠ 48 → said (k + (run (s.data.toList.drop k)).1) (pointPart (s.data.toList.drop (k + (run (s.data.toList.drop k)).1))) = R) := by
        intro h48
        rw [← hF.out, hdk.out]; unfold intPart; simp only
        rw [if_pos (by rw [← hdk.out]; exact h4), if_neg h48, said_add, ← hdk.out, List.drop_drop]
      generalize run (s.data.toList.drop k) = x at *
      clear h4 hle hne
      have hs1 : (stv x.2) = -1 := by rw [bne_eq_false_iff_eq] at e4; exact e4
      have Hs1 := Lib.hid hs1
      clear hs1
      go_upto_if 22 with (fail)
      go_cut [] (fun wr => ∃ k1 : Nat, k1 ≤ s.size ∧ Hid (said k1 (pointPart (s.data.toList.drop k1)) = R) ∧ Blk wr w1.heap.size 56 #[.int .i64 k1, .int .i64 (-1)] ∧ Blk wr w.heap.size 56 #[.int .i64 0, .int .i64 0] ∧ Change (fun _ => False) w wr)
      case first =>
        go_wp2
        all_goals go_meet
        · refine ⟨k + 1, by omega, HX.out (by simp only [beq_iff_eq] at *; omega), ?_, HB2.out.alloc _, HC2.out.alloc _⟩
          rw [Hs1.out]; exact Blk.new _ _ _
        · refine ⟨k + x.1, by omega, HY.out (by simp only [beq_eq_false_iff_ne, ne_eq] at *; omega), ?_, HB2.out.alloc _, HC2.out.alloc _⟩
          rw [Hs1.out]; exact Blk.new _ _ _
      case rest =>
        obtain ⟨k1, hk1, hG, hbx, hb0, hc0⟩ := hcut
        have HBX := Lib.hid hbx
        have HB0 := Lib.hid hb0
        have HC0 := Lib.hid hc0
        have d0 := hbx.cell 0
        simp only [List.getElem?_toArray, List.getElem?_cons_zero] at d0
        clear hbx hb0 hc0 e4
        go_upto_region 9 with (fail)
        go_cut [37] (fun v wx => (Blk wx w1.heap.size 56 #[.int .i64 k1, .int .i64 (-1)] ∧ Blk wx w.heap.size 56 #[.int .i64 0, .int .i64 0] ∧ Change (fun _ => False) w wx) ∧ ∃ pt : Bool, v = .bool pt ∧ Hid (pt = true ↔ ∃ h : k1 < s.size, s[k1].toNat = 46))
        case first =>
          by_cases hl : k1 < s.size
          · rcases u8_is s[k1] 46 46 rfl with ⟨b1, n1⟩ | ⟨b1, n1⟩
            · have B1 := Lib.hid b1
              clear b1
              go_wp2
              go_meet
              exact ⟨⟨HBX.out, HB0.out, HC0.out⟩, true, rfl, ⟨fun _ => ⟨hl, by rw [B1.out]; rfl⟩, fun _ => rfl⟩⟩
            · have B1 := Lib.hid b1
              clear b1
              go_wp2
              go_meet
              exact ⟨⟨HBX.out, HB0.out, HC0.out⟩, false, rfl, ⟨fun h => by simp at h, fun ⟨_, h⟩ => absurd (by simp only [u8_iff, UInt8.reduceToNat]; exact h) B1.out⟩⟩
          · go_wp2
            go_meet
            exact ⟨⟨HBX.out, HB0.out, HC0.out⟩, false, rfl, ⟨fun h => by simp at h, fun ⟨h, _⟩ => absurd h hl⟩⟩
        case rest =>
        obtain ⟨⟨hbx, hb0, hc0⟩, pt, rfl, hpt⟩ := hcut
        obtain ⟨c0, c1, hf⟩ := blk_agg hbx
        have HBX := Lib.hid hbx
        have HB0 := Lib.hid hb0
        have HC0 := Lib.hid hc0
        clear hbx hb0 hc0
        go_upto_if 37 with (fail)
        go_cut [1] (fun i wr => ∃ k2 : Nat, k2 ≤ s.size ∧ i = .int .i64 k2 ∧ Hid (said k2 (expPart (s.data.toList.drop k2)) = R) ∧ Blk wr w.heap.size 56 #[.int .i64 0, .int .i64 0] ∧ Change (fun _ => False) w wr)
        case first =>
          cases pt
          · go_wp2
            go_meet
            refine ⟨k1, hk1, rfl, ?_, HB0.out, HC0.out⟩
            show _ = _
            rw [← hG.out]
            have hpt' : ¬ ∃ h : k1 < s.size, s[k1].toNat = 46 := fun h => by have := hpt.out.2 h; simp at this
            by_cases hl : k1 < s.size
            · rw [drop_cons hl]; unfold pointPart; simp only
              rw [if_neg (fun h => hpt' ⟨hl, h⟩)]
            · rw [drop_end hl]; rfl
          · obtain ⟨hl, h46⟩ := hpt.out.1 rfl
            have hd1 := Lib.hid (drop_cons hl)
            have H46 := Lib.hid h46
            clear h46
            go_wp2_with fail
            refine (run_any2 s _ (k1 + 1) _ hs (by omega) (by omega)).mono ?_
            rintro e w2 ⟨rfl, hc2⟩
            have hc3 := HC0.out.trans hc2 (fun i h => h.elim)
            have hb3 := HB0.out.of_change hc2 (fun h => h)
            have hbx3 := HBX.out.of_change hc2 (fun h => h)
            obtain ⟨d0, d1, hf3⟩ := blk_agg hbx3
            have HB3 := Lib.hid hb3
            have HC3 := Lib.hid hc3
            have HBX3 := Lib.hid hbx3
            clear hb3 hc3 hbx3 hc2 c0 c1 hf
            have hle := run_le (s.data.toList.drop (k1 + 1))
            simp only [List.length_drop, Array.length_toList] at hle
            have hle2 : k1 + 1 + (run (s.data.toList.drop (k1 + 1))).1 ≤ s.size := by
              have : s.data.size = s.size := rfl
              omega
            by_cases h4 : (run (s.data.toList.drop (k1 + 1))).2 = 4
            · have HZ : Hid (said (k1 + 1 + (run (s.data.toList.drop (k1 + 1))).1) (expPart (s.data.toList.drop (k1 + 1 + (run (s.data.toList.drop (k1 + 1))).1))) = R) := by
                show _ = _
                rw [← hG.out, hd1.out]; unfold pointPart; simp only
                rw [if_pos H46.out, if_pos h4, said_add, List.drop_drop, show k1 + (1 + (run (s.data.toList.drop (k1 + 1))).1) = k1 + 1 + (run (s.data.toList.drop (k1 + 1))).1 from by omega]
              have e5 : (stv (run (s.data.toList.drop (k1 + 1))).2 != -1) = false := by rw [h4]; rfl
              generalize run (s.data.toList.drop (k1 + 1)) = y at *
              clear h4 hle
              go_wp2
              go_meet
              refine ⟨_, hle2, by go_num, HZ, ?_, ?_⟩
              · repeat (first | exact HB3.out | refine Blk.setOther ?_ (by simp; omega) _)
              · repeat (first | exact HC3.out | refine Change.setCell ?_ (.inr (by simp; omega)) _)
            · have HZ : Hid (said (k1 + 1) (run (s.data.toList.drop (k1 + 1))) = R) := by
                show _ = _
                rw [← hG.out, hd1.out]; unfold pointPart; simp only
                rw [if_pos H46.out, if_neg h4, said_add]
              have e5 : (stv (run (s.data.toList.drop (k1 + 1))).2 != -1) = true := by rw [bne_iff_ne]; exact fun h => h4 ((stv_four _).1 h)
              generalize run (s.data.toList.drop (k1 + 1)) = y at *
              clear h4 hle
              obtain ⟨g0, g1, hg⟩ := blk_agg HB3.out
              have hnw : ¬ w.heap.size = w1.heap.size := by omega
              have hnw' : ¬ w1.heap.size = w.heap.size := by omega
              go_wp2
              refine post_said (b := w.heap.size) ((((HB3.out.setBlk hnw 0 _).setBlk hnw 1 _).set 0 _).set 1 _) rfl rfl rfl ⟨?_, ?_⟩
              · rw [← HZ.out]; rfl
              · repeat (first | exact HC3.out | refine Change.setCell ?_ (.inr (by first | (simp; done) | (simp; omega))) _)
        case rest =>
          obtain ⟨k2, hk2, rfl, hE, hb0, hc0⟩ := hcut
          clear c0 c1 hf d0
          obtain ⟨c0, c1, hf⟩ := blk_agg hb0
          have HB0 := Lib.hid hb0
          have HC0 := Lib.hid hc0
          clear hb0 hc0
          go_upto_region 14 with (fail)
          go_cut [63] (fun v wx => (Blk wx w.heap.size 56 #[.int .i64 0, .int .i64 0] ∧ Change (fun _ => False) w wx) ∧ ∃ pt : Bool, v = .bool pt ∧ Hid (pt = true ↔ ∃ h : k2 < s.size, (s[k2].toNat = 101 ∨ s[k2].toNat = 69)))
          case first =>
            by_cases hl : k2 < s.size
            · rcases u8_is s[k2] 101 101 rfl with ⟨b1, n1⟩ | ⟨b1, n1⟩
              · have B1 := Lib.hid b1
                clear b1
                go_wp2
                go_meet
                exact ⟨⟨HB0.out, HC0.out⟩, true, rfl, ⟨fun _ => ⟨hl, .inl (by rw [B1.out]; rfl)⟩, fun _ => rfl⟩⟩
              · rcases u8_is s[k2] 69 69 rfl with ⟨b2, n2⟩ | ⟨b2, n2⟩
                · have B2 := Lib.hid b2
                  clear b1 b2
                  go_wp2
                  go_meet
                  exact ⟨⟨HB0.out, HC0.out⟩, true, rfl, ⟨fun _ => ⟨hl, .inr (by rw [B2.out]; rfl)⟩, fun _ => rfl⟩⟩
                · have m1 : s[k2].toNat ≠ 101 := by rw [beq_eq_false_iff_ne] at n1; omega
                  have m2 : s[k2].toNat ≠ 69 := by rw [beq_eq_false_iff_ne] at n2; omega
                  have M := Lib.hid (And.intro m1 m2)
                  clear b1 b2 m1 m2
                  go_wp2
                  go_meet
                  exact ⟨⟨HB0.out, HC0.out⟩, false, rfl, ⟨fun h => by simp at h, fun ⟨_, h⟩ => by rcases h with h | h; exact absurd h M.out.1; exact absurd h M.out.2⟩⟩
            · go_wp2
              go_meet
              exact ⟨⟨HB0.out, HC0.out⟩, false, rfl, ⟨fun h => by simp at h, fun ⟨h, _⟩ => absurd h hl⟩⟩
          case rest =>
          obtain ⟨⟨hb0, hc0⟩, pt, rfl, hpt⟩ := hcut
          clear c0 c1 hf
          obtain ⟨c0, c1, hf⟩ := blk_agg hb0
          have HB0 := Lib.hid hb0
          have HC0 := Lib.hid hc0
          clear hb0 hc0
          cases pt
          · have hpt' : ¬ ∃ h : k2 < s.size, (s[k2].toNat = 101 ∨ s[k2].toNat = 69) := fun h => by have := hpt.out.2 h; simp at this
            have HE : Hid (said k2 (0, 4) = R) := by
              show _ = _
              rw [← hE.out]
              by_cases hl : k2 < s.size
              · rw [drop_cons hl]; unfold expPart; simp only
                rw [if_neg (fun h => hpt' ⟨hl, h⟩)]
              · rw [drop_end hl]; rfl
            clear hpt'
            go_wp2
            refine post_said (b := w.heap.size) ((HB0.out.set 0 _).set 1 _) rfl rfl rfl ⟨?_, ?_⟩
            · rw [← HE.out]; rfl
            · repeat (first | exact HC0.out | refine Change.setCell ?_ (.inr (by first | (simp; done) | (simp; omega))) _)
          · obtain ⟨hl, hee⟩ := hpt.out.1 rfl
            have hd2 := Lib.hid (drop_cons hl)
            have HEE := Lib.hid hee
            clear hee
            go_upto_region 16 with (fail)
            go_cut [81] (fun v wx => (Blk wx w.heap.size 56 #[.int .i64 0, .int .i64 0] ∧ Change (fun _ => False) w wx) ∧ ∃ pt : Bool, v = .bool pt ∧ Hid (pt = true ↔ ∃ h : k2 + 1 < s.size, (s[k2 + 1].toNat = 43 ∨ s[k2 + 1].toNat = 45)))
            case first =>
              by_cases hl : k2 + 1 < s.size
              · rcases u8_is s[k2 + 1] 43 43 rfl with ⟨b1, n1⟩ | ⟨b1, n1⟩
                · have B1 := Lib.hid b1
                  clear b1
                  go_wp2
                  go_meet
                  exact ⟨⟨HB0.out, HC0.out⟩, true, rfl, ⟨fun _ => ⟨hl, .inl (by rw [B1.out]; rfl)⟩, fun _ => rfl⟩⟩
                · rcases u8_is s[k2 + 1] 45 45 rfl with ⟨b2, n2⟩ | ⟨b2, n2⟩
                  · have B2 := Lib.hid b2
                    clear b1 b2
                    go_wp2
                    go_meet
                    exact ⟨⟨HB0.out, HC0.out⟩, true, rfl, ⟨fun _ => ⟨hl, .inr (by rw [B2.out]; rfl)⟩, fun _ => rfl⟩⟩
                  · have m1 : s[k2 + 1].toNat ≠ 43 := by rw [beq_eq_false_iff_ne] at n1; omega
                    have m2 : s[k2 + 1].toNat ≠ 45 := by rw [beq_eq_false_iff_ne] at n2; omega
                    have M := Lib.hid (And.intro m1 m2)
                    clear b1 b2 m1 m2
                    go_wp2
                    go_meet
                    exact ⟨⟨HB0.out, HC0.out⟩, false, rfl, ⟨fun h => by simp at h, fun ⟨_, h⟩ => by rcases h with h | h; exact absurd h M.out.1; exact absurd h M.out.2⟩⟩
              · go_wp2
                go_meet
                exact ⟨⟨HB0.out, HC0.out⟩, false, rfl, ⟨fun h => by simp at h, fun ⟨h, _⟩ => absurd h hl⟩⟩
            case rest =>
            obtain ⟨⟨hb0, hc0⟩, pt, rfl, hpt2⟩ := hcut
            clear c0 c1 hf
            have HB0 := Lib.hid hb0
            have HC0 := Lib.hid hc0
            clear hb0 hc0
            cases pt
            · have hpt' : ¬ ∃ h : k2 + 1 < s.size, (s[k2 + 1].toNat = 43 ∨ s[k2 + 1].toNat = 45) := fun h => by have := hpt2.out.2 h; simp at this
              have HE : Hid (said (k2 + 1) (run (s.data.toList.drop (k2 + 1))) = R) := by
                show _ = _
                rw [← hE.out, hd2.out]; unfold expPart; simp only
                rw [if_pos HEE.out]
                by_cases hl : k2 + 1 < s.size
                · rw [drop_cons hl]; simp only
                  rw [if_neg (fun h => hpt' ⟨hl, h⟩), said_add]
                · rw [drop_end hl]; simp only; rw [said_add]
              clear hpt'
              go_wp2_with fail
              refine (run_any2 s _ (k2 + 1) _ hs (by omega) (by omega)).mono ?_
              rintro e w2 ⟨rfl, hc2⟩
              have hc3 := HC0.out.trans hc2 (fun i h => h.elim)
              have hb3 := HB0.out.of_change hc2 (fun h => h)
              obtain ⟨d0, d1, hf3⟩ := blk_agg hb3
              have HB3 := Lib.hid hb3
              have HC3 := Lib.hid hc3
              clear hb3 hc3 hc2
              go_wp2
              refine post_said (b := w.heap.size) ((HB3.out.set 0 _).set 1 _) rfl rfl rfl ⟨?_, ?_⟩
              · rw [← HE.out]; rfl
              · repeat (first | exact HC3.out | refine Change.setCell ?_ (.inr (by first | (simp; done) | (simp; omega))) _)
            · obtain ⟨hl2, hss⟩ := hpt2.out.1 rfl
              have HE : Hid (said (k2 + 2) (run (s.data.toList.drop (k2 + 2))) = R) := by
                show _ = _
                rw [← hE.out, hd2.out]; unfold expPart; simp only
                rw [if_pos HEE.out, drop_cons hl2]; simp only
                rw [if_pos hss, said_add]
              clear hss
              go_wp2_with fail
              refine (run_any2 s _ (k2 + 2) _ hs (by omega) (by omega)).mono ?_
              rintro e w2 ⟨rfl, hc2⟩
              have hc3 := HC0.out.trans hc2 (fun i h => h.elim)
              have hb3 := HB0.out.of_change hc2 (fun h => h)
              obtain ⟨d0, d1, hf3⟩ := blk_agg hb3
              have HB3 := Lib.hid hb3
              have HC3 := Lib.hid hc3
              clear hb3 hc3 hc2
              go_wp2
              refine post_said (b := w.heap.size) ((HB3.out.set 0 _).set 1 _) rfl rfl rfl ⟨?_, ?_⟩
              · rw [← HE.out]; rfl
              · repeat (first | exact HC3.out | refine Change.setCell ?_ (.inr (by first | (simp; done) | (simp; omega))) _)
    · obtain ⟨c0, c1, hf⟩ := blk_agg HB2.out
      have e4 : (stv (run (s.data.toList.drop k)).2 != -1) = true := by rw [bne_iff_ne]; exact fun h => h4 ((stv_four _).1 h)
      have HX : Hid (intPart (s.data.toList.drop k) = run (s.data.toList.drop k)) := by
        show _ = _
        unfold intPart; split
        · next h => rw [h]
        · next h => rw [h] at h4 ⊢; rw [if_neg h4]
      generalize run (s.data.toList.drop k) = x at *
      clear h4
      go_wp2
      refine post_said (b := w.heap.size) (((HB2.out.set 0 _).set 1 _).alloc _) rfl rfl rfl ⟨?_, ?_⟩
      · rw [← hF.out, HX.out]; rfl
      · (repeat (first | exact HC2.out | refine Change.drewN ?_ _ | refine Change.drew ?_ | refine Change.alloc ?_ _ | refine Change.setCell ?_ (.inr (by simp)) _))
end Go.Proofs.YtgnefbngkhjfcaaDoor
/-
  The reference for JSON: values.
-/
set_option linter.unusedSimpArgs false
set_option linter.unusedVariables false
namespace Go.Proofs.YtgnefbngkhjfcaaDoor
open Go.RowKit Go.Tg Tg.Json

theorem said_open (a : Nat) (x : Nat × Nat) : ∃ n st : Int, said a x = .agg #[.int .i64 n, .int .i64 st] ∧ n = (a + x.1 : Nat) ∧ st = stv x.2 := ⟨_, _, rfl, rfl, rfl⟩
theorem value_eq (d : Nat) (l : List UInt8) : value d l = match l.drop (skip l) with
    | [] => (skip l, 1)
    | b :: r => if b = 91 ∨ b = 123 then (match d with | 0 => (skip l, 3) | d + 1 => add (skip l + 1) (list (value d) (b == 123) (r.length + 1) true r)) else add (skip l) (value.flat b r) := by
  cases d <;> rfl
/-- what value owes -/
def ValC (d : Nat) : Prop := ∀ (s : ByteArray) (a : Nat) (w : World), s.size ≤ 1048576 → a ≤ s.size →
  Calls Tryd.prog 40 #[.string s, .int .i64 a, .int .i64 d] w fun e w' => e = .returned (said a (value d (s.data.toList.drop a))) ∧ Change (fun _ => False) w w'
/-- what list owes -/
def ListC (d : Nat) : Prop := ∀ (s : ByteArray) (a : Nat) (o : Bool) (w : World), s.size ≤ 1048576 → a ≤ s.size →
  Calls Tryd.prog 59 #[.string s, .int .i64 a, .int .i64 d, .bool o] w fun e w' => e = .returned (said a (list (value d) o ((s.data.toList.drop a).length + 1) true (s.data.toList.drop a))) ∧ Change (fun _ => False) w w'
theorem listI {d : Nat} (h : ListC d) (s : ByteArray) (a : Nat) (o ob : Bool) (x y : Int) (w : World) (hs : s.size ≤ 1048576) (ha : a ≤ s.size) (hx : x = a) (hy : y = d) (ho : ob = o) :
  Calls Tryd.prog 59 #[.string s, .int .i64 x, .int .i64 y, .bool ob] w fun e w' => e = .returned (said a (list (value d) o ((s.data.toList.drop a).length + 1) true (s.data.toList.drop a))) ∧ Change (fun _ => False) w w' := by
  subst hx hy ho; exact h s a ob w hs ha
theorem quoteI (s : ByteArray) (a : Nat) (x : Int) (w : World) (hs : s.size ≤ 1048576) (ha : a ≤ s.size) (hx : x = a) :
    Calls Tryd.prog 60 #[.string s, .int .i64 x] w fun e w' => e = .returned (said a (quote 0 (s.data.toList.drop a))) ∧ Change (fun _ => False) w w' := by
  subst hx; exact quote_any s a w hs ha
theorem rdigitI (c : UInt8) (x : Int) (w : World) (hx : x = c.toNat) :
    Calls Tryd.prog 61 #[.int .u8 x] w fun e w' => e = .returned (.bool (digit c)) ∧ w = w' := by
  subst hx; exact rdigit_any c w
theorem number10_any (s : ByteArray) (a : Nat) (w : World) (hs : s.size ≤ 1048576) (ha : a < s.size) :
    Calls Tryd.prog 62 #[.string s, .int .i64 a] w fun e w' => e = .returned (said a (if s[a] = 45 then add 1 (number 10 (s.data.toList.drop (a + 1))) else number 10 (s[a] :: s.data.toList.drop (a + 1)))) ∧ Change (fun _ => False) w w' := by
  refine (number_any s a w hs ha).mono ?_
  rintro e w' ⟨rfl, hc⟩
  refine ⟨?_, hc⟩
  congr 1
  by_cases h45 : s[a] = 45
  · rw [if_pos (by rw [h45]; rfl), if_pos h45, said_add, num10]
  · rw [if_neg (fun h => h45 (by rw [u8n]; exact h)), if_neg h45, num10, ← drop_cons ha]


set_option maxHeartbeats 8000000 in
set_option maxRecDepth 100000 in
theorem value_zero : ValC 0 := by
  intro s a w hs ha
  have hsk := skip_le (s.data.toList.drop a)
  simp only [List.length_drop, Array.length_toList] at hsk
  have hsz : s.data.size = s.size := rfl
  rw [hsz] at hsk
  have hR := value_eq 0 (s.data.toList.drop a)
  rw [List.drop_drop] at hR
  obtain ⟨p, hp⟩ : ∃ p, p = a + skip (s.data.toList.drop a) := ⟨_, rfl⟩
  have hps : p ≤ s.size := by omega
  obtain ⟨R, hRR⟩ : ∃ R, R = said a (value 0 (s.data.toList.drop a)) := ⟨_, rfl⟩
  rw [← hRR]
  rw [hR, ← hp] at hRR
  obtain ⟨k, hk⟩ : ∃ k, k = skip (s.data.toList.drop a) := ⟨_, rfl⟩
  rw [← hk] at hRR hp
  have HRR := Lib.hid hRR
  have HP := Lib.hid hp
  have HK := Lib.hid hk
  clear hRR hp hk hR hsk
  go_enter Tryd.func40, Tryd.ntmps40
  go_wp2_with fail
  refine (skip_any s a _ (by unfold maxLen; omega) ha).mono ?_
  rintro e w1 ⟨rfl, rfl⟩
  rw [← HK.out, ← HP.out]
  have hb : Blk (w.alloc (.cells #[.int .i64 0, .int .i64 0] 56)) w.heap.size 56 #[.int .i64 0, .int .i64 0] := Blk.new w 56 #[.int .i64 0, .int .i64 0]
  have hc : Change (fun _ => False) w (w.alloc (.cells #[.int .i64 0, .int .i64 0] 56)) := (Change.refl _ w).alloc _
  generalize w.alloc (.cells #[.int .i64 0, .int .i64 0] 56) = w1 at *
  obtain ⟨c0, c1, hf⟩ := blk_agg hb
  have HB := Lib.hid hb
  have HC := Lib.hid hc
  clear hb hc
  by_cases hlt : p < s.size
  · have hd := drop_cons hlt
    have hu := u8_lt s[p]
    have e0 : ((p : Int) == s.size) = false := by rw [beq_eq_false_iff_ne]; omega
    rcases u8_is s[p] 91 91 rfl with ⟨b1, n1⟩ | ⟨b1, n1⟩
    · have HF : Hid (R = said p (0, 3)) := by
        show _ = _
        rw [HRR.out, hd]; simp only; rw [if_pos (.inl b1)]; simp only [said]; rw [HP.out]; rfl
      clear hd b1
      go_wp2
      refine post_said (b := w.heap.size) ((HB.out.set 0 _).set 1 _) rfl rfl rfl ⟨?_, ?_⟩
      · rw [HF.out]; rfl
      · (repeat (first | exact HC.out | refine Change.drewN ?_ _ | refine Change.drew ?_ | refine Change.alloc ?_ _ | refine Change.setCell ?_ (.inr (by first | (simp; done) | (simp; omega))) _))
    rcases u8_is s[p] 123 123 rfl with ⟨b2, n2⟩ | ⟨b2, n2⟩
    · have HF : Hid (R = said p (0, 3)) := by
        show _ = _
        rw [HRR.out, hd]; simp only; rw [if_pos (.inr b2)]; simp only [said]; rw [HP.out]; rfl
      clear hd b1 b2
      go_wp2
      refine post_said (b := w.heap.size) ((HB.out.set 0 _).set 1 _) rfl rfl rfl ⟨?_, ?_⟩
      · rw [HF.out]; rfl
      · (repeat (first | exact HC.out | refine Change.drewN ?_ _ | refine Change.drew ?_ | refine Change.alloc ?_ _ | refine Change.setCell ?_ (.inr (by first | (simp; done) | (simp; omega))) _))
    rcases u8_is s[p] 34 34 rfl with ⟨b3, n3⟩ | ⟨b3, n3⟩
    · have HF : Hid (R = said (p + 1) (quote 0 (s.data.toList.drop (p + 1)))) := by
        show _ = _
        rw [HRR.out, hd]; simp only; rw [if_neg (by intro h; rcases h with h | h; exact b1 h; exact b2 h), value.flat, if_pos b3, said_add, said_add, ← HP.out]
      clear hd b1 b2 b3
      go_wp2_with fail
      refine (quoteI s (p + 1) _ _ hs (by omega) (by omega)).mono ?_
      rintro e w2 ⟨rfl, hc2⟩
      have hc3 := HC.out.trans hc2 (fun i h => h.elim)
      have hb3 := HB.out.of_change hc2 (fun h => h)
      obtain ⟨g0, g1, hg⟩ := blk_agg hb3
      have HB3 := Lib.hid hb3
      have HC3 := Lib.hid hc3
      clear hb3 hc3 hc2 c0 c1 hf
      obtain ⟨rn, rs, hsd, -, -⟩ := said_open _ _
      rw [hsd]
      have HSD := Lib.hid hsd
      clear hsd
      go_wp2
      refine post_said (b := w.heap.size) ((HB3.out.set 0 _).set 1 _) rfl rfl rfl ⟨?_, ?_⟩
      · rw [HF.out, ← HSD.out]
      · (repeat (first | exact HC3.out | refine Change.drewN ?_ _ | refine Change.drew ?_ | refine Change.alloc ?_ _ | refine Change.setCell ?_ (.inr (by first | (simp; done) | (simp; omega))) _))
    rcases u8_is s[p] 45 45 rfl with ⟨b4, n4⟩ | ⟨b4, n4⟩
    · have HF : Hid (R = said p (if s[p] = 45 then add 1 (number 10 (s.data.toList.drop (p + 1))) else number 10 (s[p] :: s.data.toList.drop (p + 1)))) := by
        show _ = _
        rw [HRR.out, hd]; simp only; rw [if_neg (by intro h; rcases h with h | h; exact b1 h; exact b2 h), value.flat, if_neg b3, if_pos b4, if_pos b4, said_add, ← HP.out]
      have HN := Lib.hid (number10_any s p w1 hs hlt)
      clear hd b1 b2 b3 b4
      go_wp2_with fail
      refine (HN.out).mono ?_
      rintro e w2 ⟨rfl, hc2⟩
      have hc3 := HC.out.trans hc2 (fun i h => h.elim)
      have hb3 := HB.out.of_change hc2 (fun h => h)
      obtain ⟨g0, g1, hg⟩ := blk_agg hb3
      have HB3 := Lib.hid hb3
      have HC3 := Lib.hid hc3
      clear hb3 hc3 hc2 c0 c1 hf
      obtain ⟨rn, rs, hsd, -, -⟩ := said_open _ _
      rw [hsd]
      have HSD := Lib.hid hsd
      clear hsd
      go_wp2
      refine post_said (b := w.heap.size) ((HB3.out.set 0 _).set 1 _) rfl rfl rfl ⟨?_, ?_⟩
      · rw [HF.out, ← HSD.out]
      · (repeat (first | exact HC3.out | refine Change.drewN ?_ _ | refine Change.drew ?_ | refine Change.alloc ?_ _ | refine Change.setCell ?_ (.inr (by first | (simp; done) | (simp; omega))) _))
    cases hdg : digit s[p]
    rotate_left
    · have HF : Hid (R = said p (if s[p] = 45 then add 1 (number 10 (s.data.toList.drop (p + 1))) else number 10 (s[p] :: s.data.toList.drop (p + 1)))) := by
        show _ = _
        rw [HRR.out, hd]; simp only; rw [if_neg (by intro h; rcases h with h | h; exact b1 h; exact b2 h), value.flat, if_neg b3, if_neg b4, if_neg b4, if_pos hdg, said_add, ← HP.out]
      have HN := Lib.hid (number10_any s p w1 hs hlt)
      clear hd b1 b2 b3 b4
      go_wp2_with (go_at_call 61; refine Calls.mono (rdigitI s[p] _ _ ?_) ?_; (first | rfl | omega | (simp only [beq_iff_eq] at *; omega)); rintro e w' ⟨rfl, rfl⟩)
      refine (HN.out).mono ?_
      rintro e w2 ⟨rfl, hc2⟩
      have hc3 := HC.out.trans hc2 (fun i h => h.elim)
      have hb3 := HB.out.of_change hc2 (fun h => h)
      obtain ⟨g0, g1, hg⟩ := blk_agg hb3
      have HB3 := Lib.hid hb3
      have HC3 := Lib.hid hc3
      clear hb3 hc3 hc2 c0 c1 hf
      obtain ⟨rn, rs, hsd, -, -⟩ := said_open _ _
      rw [hsd]
      have HSD := Lib.hid hsd
      clear hsd
      go_wp2
      refine post_said (b := w.heap.size) ((HB3.out.set 0 _).set 1 _) rfl rfl rfl ⟨?_, ?_⟩
      · rw [HF.out, ← HSD.out]
      · (repeat (first | exact HC3.out | refine Change.drewN ?_ _ | refine Change.drew ?_ | refine Change.alloc ?_ _ | refine Change.setCell ?_ (.inr (by first | (simp; done) | (simp; omega))) _))
    rcases u8_is s[p] 116 116 rfl with ⟨b5, n5⟩ | ⟨b5, n5⟩
    · have HF : Hid (R = said p (word (s.data.toList.drop p) [116, 114, 117, 101])) := by
        show _ = _
        rw [HRR.out, hd]; simp only; rw [if_neg (by intro h; rcases h with h | h; exact b1 h; exact b2 h), value.flat, if_neg b3, if_neg b4, if_neg (by rw [hdg]; decide), if_pos b5, said_add, ← HP.out]
      clear hd b1 b2 b3 b4 b5
      go_wp2_with (go_at_call 61; refine Calls.mono (rdigitI s[p] _ _ ?_) ?_; (first | rfl | omega | (simp only [beq_iff_eq] at *; omega)); rintro e w' ⟨rfl, rfl⟩)
      refine (word_any s ⟨#[116, 114, 117, 101]⟩ p _ hs (by decide) (by omega)).mono ?_
      rintro e w2 ⟨rfl, hc2⟩
      have hc3 := HC.out.trans hc2 (fun i h => h.elim)
      have hb3 := HB.out.of_change hc2 (fun h => h)
      obtain ⟨g0, g1, hg⟩ := blk_agg hb3
      have HB3 := Lib.hid hb3
      have HC3 := Lib.hid hc3
      clear hb3 hc3 hc2 c0 c1 hf
      obtain ⟨rn, rs, hsd, -, -⟩ := said_open _ _
      rw [hsd]
      have HSD := Lib.hid hsd
      clear hsd
      go_wp2
      refine post_said (b := w.heap.size) ((HB3.out.set 0 _).set 1 _) rfl rfl rfl ⟨?_, ?_⟩
      · rw [HF.out, ← HSD.out]
      · (repeat (first | exact HC3.out | refine Change.drewN ?_ _ | refine Change.drew ?_ | refine Change.alloc ?_ _ | refine Change.setCell ?_ (.inr (by first | (simp; done) | (simp; omega))) _))
    rcases u8_is s[p] 102 102 rfl with ⟨b6, n6⟩ | ⟨b6, n6⟩
    · have HF : Hid (R = said p (word (s.data.toList.drop p) [102, 97, 108, 115, 101])) := by
        show _ = _
        rw [HRR.out, hd]; simp only; rw [if_neg (by intro h; rcases h with h | h; exact b1 h; exact b2 h), value.flat, if_neg b3, if_neg b4, if_neg (by rw [hdg]; decide), if_neg b5, if_pos b6, said_add, ← HP.out]
      clear hd b1 b2 b3 b4 b5 b6
      go_wp2_with (go_at_call 61; refine Calls.mono (rdigitI s[p] _ _ ?_) ?_; (first | rfl | omega | (simp only [beq_iff_eq] at *; omega)); rintro e w' ⟨rfl, rfl⟩)
      refine (word_any s ⟨#[102, 97, 108, 115, 101]⟩ p _ hs (by decide) (by omega)).mono ?_
      rintro e w2 ⟨rfl, hc2⟩
      have hc3 := HC.out.trans hc2 (fun i h => h.elim)
      have hb3 := HB.out.of_change hc2 (fun h => h)
      obtain ⟨g0, g1, hg⟩ := blk_agg hb3
      have HB3 := Lib.hid hb3
      have HC3 := Lib.hid hc3
      clear hb3 hc3 hc2 c0 c1 hf
      obtain ⟨rn, rs, hsd, -, -⟩ := said_open _ _
      rw [hsd]
      have HSD := Lib.hid hsd
      clear hsd
      go_wp2
      refine post_said (b := w.heap.size) ((HB3.out.set 0 _).set 1 _) rfl rfl rfl ⟨?_, ?_⟩
      · rw [HF.out, ← HSD.out]
      · (repeat (first | exact HC3.out | refine Change.drewN ?_ _ | refine Change.drew ?_ | refine Change.alloc ?_ _ | refine Change.setCell ?_ (.inr (by first | (simp; done) | (simp; omega))) _))
    rcases u8_is s[p] 110 110 rfl with ⟨b7, n7⟩ | ⟨b7, n7⟩
    · have HF : Hid (R = said p (word (s.data.toList.drop p) [110, 117, 108, 108])) := by
        show _ = _
        rw [HRR.out, hd]; simp only; rw [if_neg (by intro h; rcases h with h | h; exact b1 h; exact b2 h), value.flat, if_neg b3, if_neg b4, if_neg (by rw [hdg]; decide), if_neg b5, if_neg b6, if_pos b7, said_add, ← HP.out]
      clear hd b1 b2 b3 b4 b5 b6 b7
      go_wp2_with (go_at_call 61; refine Calls.mono (rdigitI s[p] _ _ ?_) ?_; (first | rfl | omega | (simp only [beq_iff_eq] at *; omega)); rintro e w' ⟨rfl, rfl⟩)
      refine (word_any s ⟨#[110, 117, 108, 108]⟩ p _ hs (by decide) (by omega)).mono ?_
      rintro e w2 ⟨rfl, hc2⟩
      have hc3 := HC.out.trans hc2 (fun i h => h.elim)
      have hb3 := HB.out.of_change hc2 (fun h => h)
      obtain ⟨g0, g1, hg⟩ := blk_agg hb3
      have HB3 := Lib.hid hb3
      have HC3 := Lib.hid hc3
      clear hb3 hc3 hc2 c0 c1 hf
      obtain ⟨rn, rs, hsd, -, -⟩ := said_open _ _
      rw [hsd]
      have HSD := Lib.hid hsd
      clear hsd
      go_wp2
      refine post_said (b := w.heap.size) ((HB3.out.set 0 _).set 1 _) rfl rfl rfl ⟨?_, ?_⟩
      · rw [HF.out, ← HSD.out]
      · (repeat (first | exact HC3.out | refine Change.drewN ?_ _ | refine Change.drew ?_ | refine Change.alloc ?_ _ | refine Change.setCell ?_ (.inr (by first | (simp; done) | (simp; omega))) _))
    have HF : Hid (R = said p (0, 0)) := by
      show _ = _
      rw [HRR.out, hd]; simp only; rw [if_neg (by intro h; rcases h with h | h; exact b1 h; exact b2 h), value.flat, if_neg b3, if_neg b4, if_neg (by rw [hdg]; decide), if_neg b5, if_neg b6, if_neg b7, said_add, ← HP.out]
    clear hd b1 b2 b3 b4 b5 b6 b7
    go_wp2_with (go_at_call 61; refine Calls.mono (rdigitI s[p] _ _ ?_) ?_; (first | rfl | omega | (simp only [beq_iff_eq] at *; omega)); rintro e w' ⟨rfl, rfl⟩)
    refine post_said (b := w.heap.size) ((HB.out.set 0 _).set 1 _) rfl rfl rfl ⟨?_, ?_⟩
    · rw [HF.out]; rfl
    · (repeat (first | exact HC.out | refine Change.drewN ?_ _ | refine Change.drew ?_ | refine Change.alloc ?_ _ | refine Change.setCell ?_ (.inr (by first | (simp; done) | (simp; omega))) _))
  · have hd := drop_end hlt
    have e0 : ((p : Int) == s.size) = true := by rw [beq_iff_eq]; omega
    have HF : Hid (R = said p (0, 1)) := by
      show _ = _
      rw [HRR.out, hd]; simp only [said]; rw [HP.out]; rfl
    have hpe : p = s.size := by omega
    have HPE := Lib.hid hpe
    clear hd hpe
    go_wp2
    refine post_said (b := w.heap.size) ((HB.out.set 0 _).set 1 _) rfl rfl rfl ⟨?_, ?_⟩
    · rw [HF.out]; rfl
    · (repeat (first | exact HC.out | refine Change.drewN ?_ _ | refine Change.drew ?_ | refine Change.alloc ?_ _ | refine Change.setCell ?_ (.inr (by first | (simp; done) | (simp; omega))) _))


set_option maxHeartbeats 16000000 in
set_option maxRecDepth 100000 in
theorem value_succ (d : Nat) (hd200 : d ≤ 1000) (hl : ListC d) : ValC (d + 1) := by
  intro s a w hs ha
  have HL := Lib.hid hl
  clear hl
  have z0 : (((d + 1 : Nat) : Int) == 0) = false := by rw [beq_eq_false_iff_ne]; omega
  have z1 : ((d : Int) + 1 == 0) = false := by rw [beq_eq_false_iff_ne]; omega
  have hsk := skip_le (s.data.toList.drop a)
  simp only [List.length_drop, Array.length_toList] at hsk
  have hsz : s.data.size = s.size := rfl
  rw [hsz] at hsk
  have hR := value_eq (d + 1) (s.data.toList.drop a)
  rw [List.drop_drop] at hR
  obtain ⟨p, hp⟩ : ∃ p, p = a + skip (s.data.toList.drop a) := ⟨_, rfl⟩
  have hps : p ≤ s.size := by omega
  obtain ⟨R, hRR⟩ : ∃ R, R = said a (value (d + 1) (s.data.toList.drop a)) := ⟨_, rfl⟩
  rw [← hRR]
  rw [hR, ← hp] at hRR
  obtain ⟨k, hk⟩ : ∃ k, k = skip (s.data.toList.drop a) := ⟨_, rfl⟩
  rw [← hk] at hRR hp
  have HRR := Lib.hid hRR
  have HP := Lib.hid hp
  have HK := Lib.hid hk
  clear hRR hp hk hR hsk
  go_enter Tryd.func40, Tryd.ntmps40
  go_wp2_with fail
  refine (skip_any s a _ (by unfold maxLen; omega) ha).mono ?_
  rintro e w1 ⟨rfl, rfl⟩
  rw [← HK.out, ← HP.out]
  have hb : Blk (w.alloc (.cells #[.int .i64 0, .int .i64 0] 56)) w.heap.size 56 #[.int .i64 0, .int .i64 0] := Blk.new w 56 #[.int .i64 0, .int .i64 0]
  have hc : Change (fun _ => False) w (w.alloc (.cells #[.int .i64 0, .int .i64 0] 56)) := (Change.refl _ w).alloc _
  generalize w.alloc (.cells #[.int .i64 0, .int .i64 0] 56) = w1 at *
  obtain ⟨c0, c1, hf⟩ := blk_agg hb
  have HB := Lib.hid hb
  have HC := Lib.hid hc
  clear hb hc
  by_cases hlt : p < s.size
  · have hd := drop_cons hlt
    have hu := u8_lt s[p]
    have e0 : ((p : Int) == s.size) = false := by rw [beq_eq_false_iff_ne]; omega
    rcases u8_is s[p] 91 91 rfl with ⟨b1, n1⟩ | ⟨b1, n1⟩
    · have HF : Hid (R = said (p + 1) (list (value d) false ((s.data.toList.drop (p + 1)).length + 1) true (s.data.toList.drop (p + 1)))) := by
        show _ = _
        rw [HRR.out, hd]; simp only; rw [if_pos (.inl b1), said_add, show (s[p] == 123) = false from by rw [b1]; rfl, ← Nat.add_assoc, ← HP.out]
      clear hd b1
      go_wp2_with fail
      refine (listI HL.out s (p + 1) false _ _ _ _ hs (by omega) (by omega) (by omega) (by first | assumption | rfl | (rw [beq_eq_false_iff_ne]; simp only [beq_iff_eq] at *; omega))).mono ?_
      rintro e w2 ⟨rfl, hc2⟩
      have hc3 := HC.out.trans hc2 (fun i h => h.elim)
      have hb3 := HB.out.of_change hc2 (fun h => h)
      obtain ⟨g0, g1, hg⟩ := blk_agg hb3
      have HB3 := Lib.hid hb3
      have HC3 := Lib.hid hc3
      clear hb3 hc3 hc2 c0 c1 hf
      obtain ⟨rn, rs, hsd, -, -⟩ := said_open _ _
      rw [hsd]
      have HSD := Lib.hid hsd
      clear hsd
      go_wp2
      refine post_said (b := w.heap.size) ((HB3.out.set 0 _).set 1 _) rfl rfl rfl ⟨?_, ?_⟩
      · rw [HF.out, ← HSD.out]
      · (repeat (first | exact HC3.out | refine Change.drewN ?_ _ | refine Change.drew ?_ | refine Change.alloc ?_ _ | refine Change.setCell ?_ (.inr (by first | (simp; done) | (simp; omega))) _))
    rcases u8_is s[p] 123 123 rfl with ⟨b2, n2⟩ | ⟨b2, n2⟩
    · have HF : Hid (R = said (p + 1) (list (value d) true ((s.data.toList.drop (p + 1)).length + 1) true (s.data.toList.drop (p + 1)))) := by
        show _ = _
        rw [HRR.out, hd]; simp only; rw [if_pos (.inr b2), said_add, show (s[p] == 123) = true from by rw [b2]; rfl, ← Nat.add_assoc, ← HP.out]
      clear hd b1 b2
      go_wp2_with fail
      refine (listI HL.out s (p + 1) true _ _ _ _ hs (by omega) (by omega) (by omega) (by first | assumption | rfl | (rw [beq_eq_false_iff_ne]; simp only [beq_iff_eq] at *; omega))).mono ?_
      rintro e w2 ⟨rfl, hc2⟩
      have hc3 := HC.out.trans hc2 (fun i h => h.elim)
      have hb3 := HB.out.of_change hc2 (fun h => h)
      obtain ⟨g0, g1, hg⟩ := blk_agg hb3
      have HB3 := Lib.hid hb3
      have HC3 := Lib.hid hc3
      clear hb3 hc3 hc2 c0 c1 hf
      obtain ⟨rn, rs, hsd, -, -⟩ := said_open _ _
      rw [hsd]
      have HSD := Lib.hid hsd
      clear hsd
      go_wp2
      refine post_said (b := w.heap.size) ((HB3.out.set 0 _).set 1 _) rfl rfl rfl ⟨?_, ?_⟩
      · rw [HF.out, ← HSD.out]
      · (repeat (first | exact HC3.out | refine Change.drewN ?_ _ | refine Change.drew ?_ | refine Change.alloc ?_ _ | refine Change.setCell ?_ (.inr (by first | (simp; done) | (simp; omega))) _))
    rcases u8_is s[p] 34 34 rfl with ⟨b3, n3⟩ | ⟨b3, n3⟩
    · have HF : Hid (R = said (p + 1) (quote 0 (s.data.toList.drop (p + 1)))) := by
        show _ = _
        rw [HRR.out, hd]; simp only; rw [if_neg (by intro h; rcases h with h | h; exact b1 h; exact b2 h), value.flat, if_pos b3, said_add, said_add, ← HP.out]
      clear hd b1 b2 b3
      go_wp2_with fail
      refine (quoteI s (p + 1) _ _ hs (by omega) (by omega)).mono ?_
      rintro e w2 ⟨rfl, hc2⟩
      have hc3 := HC.out.trans hc2 (fun i h => h.elim)
      have hb3 := HB.out.of_change hc2 (fun h => h)
      obtain ⟨g0, g1, hg⟩ := blk_agg hb3
      have HB3 := Lib.hid hb3
      have HC3 := Lib.hid hc3
      clear hb3 hc3 hc2 c0 c1 hf
      obtain ⟨rn, rs, hsd, -, -⟩ := said_open _ _
      rw [hsd]
      have HSD := Lib.hid hsd
      clear hsd
      go_wp2
      refine post_said (b := w.heap.size) ((HB3.out.set 0 _).set 1 _) rfl rfl rfl ⟨?_, ?_⟩
      · rw [HF.out, ← HSD.out]
      · (repeat (first | exact HC3.out | refine Change.drewN ?_ _ | refine Change.drew ?_ | refine Change.alloc ?_ _ | refine Change.setCell ?_ (.inr (by first | (simp; done) | (simp; omega))) _))
    rcases u8_is s[p] 45 45 rfl with ⟨b4, n4⟩ | ⟨b4, n4⟩
    · have HF : Hid (R = said p (if s[p] = 45 then add 1 (number 10 (s.data.toList.drop (p + 1))) else number 10 (s[p] :: s.data.toList.drop (p + 1)))) := by
        show _ = _
        rw [HRR.out, hd]; simp only; rw [if_neg (by intro h; rcases h with h | h; exact b1 h; exact b2 h), value.flat, if_neg b3, if_pos b4, if_pos b4, said_add, ← HP.out]
      have HN := Lib.hid (number10_any s p w1 hs hlt)
      clear hd b1 b2 b3 b4
      go_wp2_with fail
      refine (HN.out).mono ?_
      rintro e w2 ⟨rfl, hc2⟩
      have hc3 := HC.out.trans hc2 (fun i h => h.elim)
      have hb3 := HB.out.of_change hc2 (fun h => h)
      obtain ⟨g0, g1, hg⟩ := blk_agg hb3
      have HB3 := Lib.hid hb3
      have HC3 := Lib.hid hc3
      clear hb3 hc3 hc2 c0 c1 hf
      obtain ⟨rn, rs, hsd, -, -⟩ := said_open _ _
      rw [hsd]
      have HSD := Lib.hid hsd
      clear hsd
      go_wp2
      refine post_said (b := w.heap.size) ((HB3.out.set 0 _).set 1 _) rfl rfl rfl ⟨?_, ?_⟩
      · rw [HF.out, ← HSD.out]
      · (repeat (first | exact HC3.out | refine Change.drewN ?_ _ | refine Change.drew ?_ | refine Change.alloc ?_ _ | refine Change.setCell ?_ (.inr (by first | (simp; done) | (simp; omega))) _))
    cases hdg : digit s[p]
    rotate_left
    · have HF : Hid (R = said p (if s[p] = 45 then add 1 (number 10 (s.data.toList.drop (p + 1))) else number 10 (s[p] :: s.data.toList.drop (p + 1)))) := by
        show _ = _
        rw [HRR.out, hd]; simp only; rw [if_neg (by intro h; rcases h with h | h; exact b1 h; exact b2 h), value.flat, if_neg b3, if_neg b4, if_neg b4, if_pos hdg, said_add, ← HP.out]
      have HN := Lib.hid (number10_any s p w1 hs hlt)
      clear hd b1 b2 b3 b4
      go_wp2_with (go_at_call 61; refine Calls.mono (rdigitI s[p] _ _ ?_) ?_; (first | rfl | omega | (simp only [beq_iff_eq] at *; omega)); rintro e w' ⟨rfl, rfl⟩)
      refine (HN.out).mono ?_
      rintro e w2 ⟨rfl, hc2⟩
      have hc3 := HC.out.trans hc2 (fun i h => h.elim)
      have hb3 := HB.out.of_change hc2 (fun h => h)
      obtain ⟨g0, g1, hg⟩ := blk_agg hb3
      have HB3 := Lib.hid hb3
      have HC3 := Lib.hid hc3
      clear hb3 hc3 hc2 c0 c1 hf
      obtain ⟨rn, rs, hsd, -, -⟩ := said_open _ _
      rw [hsd]
      have HSD := Lib.hid hsd
      clear hsd
      go_wp2
      refine post_said (b := w.heap.size) ((HB3.out.set 0 _).set 1 _) rfl rfl rfl ⟨?_, ?_⟩
      · rw [HF.out, ← HSD.out]
      · (repeat (first | exact HC3.out | refine Change.drewN ?_ _ | refine Change.drew ?_ | refine Change.alloc ?_ _ | refine Change.setCell ?_ (.inr (by first | (simp; done) | (simp; omega))) _))
    rcases u8_is s[p] 116 116 rfl with ⟨b5, n5⟩ | ⟨b5, n5⟩
    · have HF : Hid (R = said p (word (s.data.toList.drop p) [116, 114, 117, 101])) := by
        show _ = _
        rw [HRR.out, hd]; simp only; rw [if_neg (by intro h; rcases h with h | h; exact b1 h; exact b2 h), value.flat, if_neg b3, if_neg b4, if_neg (by rw [hdg]; decide), if_pos b5, said_add, ← HP.out]
      clear hd b1 b2 b3 b4 b5
      go_wp2_with (go_at_call 61; refine Calls.mono (rdigitI s[p] _ _ ?_) ?_; (first | rfl | omega | (simp only [beq_iff_eq] at *; omega)); rintro e w' ⟨rfl, rfl⟩)
      refine (word_any s ⟨#[116, 114, 117, 101]⟩ p _ hs (by decide) (by omega)).mono ?_
      rintro e w2 ⟨rfl, hc2⟩
      have hc3 := HC.out.trans hc2 (fun i h => h.elim)
      have hb3 := HB.out.of_change hc2 (fun h => h)
      obtain ⟨g0, g1, hg⟩ := blk_agg hb3
      have HB3 := Lib.hid hb3
      have HC3 := Lib.hid hc3
      clear hb3 hc3 hc2 c0 c1 hf
      obtain ⟨rn, rs, hsd, -, -⟩ := said_open _ _
      rw [hsd]
      have HSD := Lib.hid hsd
      clear hsd
      go_wp2
      refine post_said (b := w.heap.size) ((HB3.out.set 0 _).set 1 _) rfl rfl rfl ⟨?_, ?_⟩
      · rw [HF.out, ← HSD.out]
      · (repeat (first | exact HC3.out | refine Change.drewN ?_ _ | refine Change.drew ?_ | refine Change.alloc ?_ _ | refine Change.setCell ?_ (.inr (by first | (simp; done) | (simp; omega))) _))
    rcases u8_is s[p] 102 102 rfl with ⟨b6, n6⟩ | ⟨b6, n6⟩
    · have HF : Hid (R = said p (word (s.data.toList.drop p) [102, 97, 108, 115, 101])) := by
        show _ = _
        rw [HRR.out, hd]; simp only; rw [if_neg (by intro h; rcases h with h | h; exact b1 h; exact b2 h), value.flat, if_neg b3, if_neg b4, if_neg (by rw [hdg]; decide), if_neg b5, if_pos b6, said_add, ← HP.out]
      clear hd b1 b2 b3 b4 b5 b6
      go_wp2_with (go_at_call 61; refine Calls.mono (rdigitI s[p] _ _ ?_) ?_; (first | rfl | omega | (simp only [beq_iff_eq] at *; omega)); rintro e w' ⟨rfl, rfl⟩)
      refine (word_any s ⟨#[102, 97, 108, 115, 101]⟩ p _ hs (by decide) (by omega)).mono ?_
      rintro e w2 ⟨rfl, hc2⟩
      have hc3 := HC.out.trans hc2 (fun i h => h.elim)
      have hb3 := HB.out.of_change hc2 (fun h => h)
      obtain ⟨g0, g1, hg⟩ := blk_agg hb3
      have HB3 := Lib.hid hb3
      have HC3 := Lib.hid hc3
      clear hb3 hc3 hc2 c0 c1 hf
      obtain ⟨rn, rs, hsd, -, -⟩ := said_open _ _
      rw [hsd]
      have HSD := Lib.hid hsd
      clear hsd
      go_wp2
      refine post_said (b := w.heap.size) ((HB3.out.set 0 _).set 1 _) rfl rfl rfl ⟨?_, ?_⟩
      · rw [HF.out, ← HSD.out]
      · (repeat (first | exact HC3.out | refine Change.drewN ?_ _ | refine Change.drew ?_ | refine Change.alloc ?_ _ | refine Change.setCell ?_ (.inr (by first | (simp; done) | (simp; omega))) _))
    rcases u8_is s[p] 110 110 rfl with ⟨b7, n7⟩ | ⟨b7, n7⟩
    · have HF : Hid (R = said p (word (s.data.toList.drop p) [110, 117, 108, 108])) := by
        show _ = _
        rw [HRR.out, hd]; simp only; rw [if_neg (by intro h; rcases h with h | h; exact b1 h; exact b2 h), value.flat, if_neg b3, if_neg b4, if_neg (by rw [hdg]; decide), if_neg b5, if_neg b6, if_pos b7, said_add, ← HP.out]
      clear hd b1 b2 b3 b4 b5 b6 b7
      go_wp2_with (go_at_call 61; refine Calls.mono (rdigitI s[p] _ _ ?_) ?_; (first | rfl | omega | (simp only [beq_iff_eq] at *; omega)); rintro e w' ⟨rfl, rfl⟩)
      refine (word_any s ⟨#[110, 117, 108, 108]⟩ p _ hs (by decide) (by omega)).mono ?_
      rintro e w2 ⟨rfl, hc2⟩
      have hc3 := HC.out.trans hc2 (fun i h => h.elim)
      have hb3 := HB.out.of_change hc2 (fun h => h)
      obtain ⟨g0, g1, hg⟩ := blk_agg hb3
      have HB3 := Lib.hid hb3
      have HC3 := Lib.hid hc3
      clear hb3 hc3 hc2 c0 c1 hf
      obtain ⟨rn, rs, hsd, -, -⟩ := said_open _ _
      rw [hsd]
      have HSD := Lib.hid hsd
      clear hsd
      go_wp2
      refine post_said (b := w.heap.size) ((HB3.out.set 0 _).set 1 _) rfl rfl rfl ⟨?_, ?_⟩
      · rw [HF.out, ← HSD.out]
      · (repeat (first | exact HC3.out | refine Change.drewN ?_ _ | refine Change.drew ?_ | refine Change.alloc ?_ _ | refine Change.setCell ?_ (.inr (by first | (simp; done) | (simp; omega))) _))
    have HF : Hid (R = said p (0, 0)) := by
      show _ = _
      rw [HRR.out, hd]; simp only; rw [if_neg (by intro h; rcases h with h | h; exact b1 h; exact b2 h), value.flat, if_neg b3, if_neg b4, if_neg (by rw [hdg]; decide), if_neg b5, if_neg b6, if_neg b7, said_add, ← HP.out]
    clear hd b1 b2 b3 b4 b5 b6 b7
    go_wp2_with (go_at_call 61; refine Calls.mono (rdigitI s[p] _ _ ?_) ?_; (first | rfl | omega | (simp only [beq_iff_eq] at *; omega)); rintro e w' ⟨rfl, rfl⟩)
    refine post_said (b := w.heap.size) ((HB.out.set 0 _).set 1 _) rfl rfl rfl ⟨?_, ?_⟩
    · rw [HF.out]; rfl
    · (repeat (first | exact HC.out | refine Change.drewN ?_ _ | refine Change.drew ?_ | refine Change.alloc ?_ _ | refine Change.setCell ?_ (.inr (by first | (simp; done) | (simp; omega))) _))
  · have hd := drop_end hlt
    have e0 : ((p : Int) == s.size) = true := by rw [beq_iff_eq]; omega
    have HF : Hid (R = said p (0, 1)) := by
      show _ = _
      rw [HRR.out, hd]; simp only [said]; rw [HP.out]; rfl
    have hpe : p = s.size := by omega
    have HPE := Lib.hid hpe
    clear hd hpe
    go_wp2
    refine post_said (b := w.heap.size) ((HB.out.set 0 _).set 1 _) rfl rfl rfl ⟨?_, ?_⟩
    · rw [HF.out]; rfl
    · (repeat (first | exact HC.out | refine Change.drewN ?_ _ | refine Change.drew ?_ | refine Change.alloc ?_ _ | refine Change.setCell ?_ (.inr (by first | (simp; done) | (simp; omega))) _))

end Go.Proofs.YtgnefbngkhjfcaaDoor
/-
  The reference for JSON: arrays and objects.
-/
set_option linter.unusedSimpArgs false
set_option linter.unusedVariables false
namespace Go.Proofs.YtgnefbngkhjfcaaDoor
open Go.RowKit Go.Tg Tg.Json

/-- an element, and what comes behind it -/
def elem (val : List UInt8 → Nat × Nat) (o : Bool) (next : List UInt8 → Nat × Nat) (l : List UInt8) : Nat × Nat :=
  if (val l).2 ≠ 4 then val l else add (val l).1 (behindElem o next (l.drop (val l).1))
theorem list_eq (val : List UInt8 → Nat × Nat) (o one : Bool) (g : Nat) (l : List UInt8) : list val o (g + 1) one l =
    match l.drop (skip l) with
    | [] => (skip l, 1)
    | b :: r =>
      if one ∧ b = close o then (skip l + 1, 4)
      else add (skip l)
        (if (named o (b :: r)).2 ≠ 4 then named o (b :: r)
         else add (named o (b :: r)).1 (elem val o (list val o g false) ((b :: r).drop (named o (b :: r)).1))) := rfl
theorem valI {d : Nat} (h : ValC d) (s : ByteArray) (a : Nat) (x : Int) (w : World) (hs : s.size ≤ 1048576) (ha : a ≤ s.size) (hx : x = a) :
  Calls Tryd.prog 40 #[.string s, .int .i64 x, .int .i64 d] w fun e w' => e = .returned (said a (value d (s.data.toList.drop a))) ∧ Change (fun _ => False) w w' := by
  subst hx; exact h s a w hs ha
theorem skipI (s : ByteArray) (a : Nat) (x : Int) (w : World) (hs : s.size ≤ 1048576) (ha : a ≤ s.size) (hx : x = a) :
    Calls Tryd.prog 41 #[.string s, .int .i64 x] w fun e w' => (∃ p : Nat, e = .returned (.int .i64 p) ∧ p ≤ s.size ∧ Hid (p = a + skip (s.data.toList.drop a))) ∧ w = w' := by
  subst hx
  have hsk := skip_le (s.data.toList.drop a)
  simp only [List.length_drop, Array.length_toList] at hsk
  have hsz : s.data.size = s.size := rfl
  refine (skip_any s a w (by unfold maxLen; omega) ha).mono ?_
  rintro e w' ⟨rfl, rfl⟩
  exact ⟨⟨_, rfl, by omega, rfl⟩, rfl⟩
theorem value_le (d : Nat) (l : List UInt8) (h : (value d l).2 = 4) : (value d l).1 ≤ l.length := by
  rcases value_goes d d [] (by simp) (M.start d) l rfl rfl rfl (.inl rfl) with ⟨_, h, _⟩ | ⟨h1, _⟩ | ⟨h1, _⟩
  · exact h
  · omega
  · omega
theorem quote_le (l : List UInt8) (h : (quote 0 l).2 = 4) : (quote 0 l).1 ≤ l.length := by
  rcases quote_goes l 0 { M.start 0 with pos := 6 } rfl rfl (by intro h; omega) (by omega) with ⟨_, h, _⟩ | ⟨h1, _⟩ | ⟨h1, _⟩
  · exact h
  · omega
  · omega
theorem behind_at (o : Bool) (next : List UInt8 → Nat × Nat) (s : ByteArray) (q t : Nat) (ht : t = q + skip (s.data.toList.drop q)) :
    said q (behindElem o next (s.data.toList.drop q)) = (match s.data.toList.drop t with
      | [] => said t (0, 1)
      | c :: r => if c = close o then said (t + 1) (0, 4) else if c ≠ 44 then said t (0, 0) else said (t + 1) (next r)) := by
  subst ht
  unfold behindElem
  rw [List.drop_drop]
  generalize s.data.toList.drop (q + skip (s.data.toList.drop q)) = m
  cases m with
  | nil => rfl
  | cons c r =>
    simp only
    by_cases h1 : c = close o
    · rw [if_pos h1, if_pos h1]; simp only [said]; rfl
    · rw [if_neg h1, if_neg h1]
      by_cases h2 : c ≠ 44
      · rw [if_pos h2, if_pos h2]; rfl
      · rw [if_neg h2, if_neg h2, said_add]; rfl


set_option maxHeartbeats 16000000 in
set_option maxRecDepth 100000 in
theorem list_arr (d : Nat) (hd1000 : d ≤ 1000) (hv : ValC d) (s : ByteArray) (a : Nat) (w : World) (hs : s.size ≤ 1048576) (ha : a ≤ s.size) :
  Calls Tryd.prog 59 #[.string s, .int .i64 a, .int .i64 d, .bool false] w fun e w' => e = .returned (said a (list (value d) false ((s.data.toList.drop a).length + 1) true (s.data.toList.drop a))) ∧ Change (fun _ => False) w w' := by
  obtain ⟨R, hR⟩ : ∃ R, R = said a (list (value d) false ((s.data.toList.drop a).length + 1) true (s.data.toList.drop a)) := ⟨_, rfl⟩
  rw [← hR]
  have HR := Lib.hid hR
  have HV := Lib.hid hv
  clear hR hv
  go_enter Tryd.func59, Tryd.ntmps59
  go_wp2
  go_loopw [1, 10] (fun i n wr => ∃ k nn f : Nat, k ≤ s.size ∧ nn ≤ k ∧ i = .int .i64 k ∧ n = .int .i64 nn ∧ s.size - k < f ∧ Hid (said k (list (value d) false f (nn == 0) (s.data.toList.drop k)) = R) ∧ Blk wr w.heap.size 56 #[.int .i64 0, .int .i64 0] ∧ Change (fun _ => False) w wr) (fun i _ _ => s.size - (intOf i).toNat)
  case atStart =>
    refine ⟨a, 0, _, ha, Nat.zero_le _, rfl, rfl, ?_, HR.out.symm, Blk.new _ _ _, (Change.refl _ w).alloc _⟩
    have hsz : s.data.size = s.size := rfl
    simp only [List.length_drop, Array.length_toList]; omega
  case round =>
    obtain ⟨k, nn, f, hk, hnk, rfl, rfl, hfl, hF, hb, hc⟩ := hrel
    obtain ⟨g, rfl⟩ : ∃ g, f = g + 1 := ⟨f - 1, by omega⟩
    obtain ⟨c0, c1, hf⟩ := blk_agg hb
    have HB := Lib.hid hb
    have HC := Lib.hid hc
    clear hb hc
    go_wp2_with fail
    refine (skipI s k _ _ hs hk rfl).mono ?_
    rintro e w1 ⟨⟨p, rfl, hps, hP⟩, rfl⟩
    have hkp : k ≤ p := by have := hP.out; omega
    by_cases hlt : p < s.size
    · have hd := Lib.hid (drop_cons hlt)
      have e0 : ((p : Int) == s.size) = false := by rw [beq_eq_false_iff_ne]; omega
      have HL : Hid (R = if (nn == 0) = true ∧ s[p] = close false then said (p + 1) (0, 4) else said p (if (named false (s[p] :: s.data.toList.drop (p + 1))).2 ≠ 4 then named false (s[p] :: s.data.toList.drop (p + 1)) else add (named false (s[p] :: s.data.toList.drop (p + 1))).1 (elem (value d) false (list (value d) false g false) ((s[p] :: s.data.toList.drop (p + 1)).drop (named false (s[p] :: s.data.toList.drop (p + 1))).1)))) := by
        show _ = _
        rw [← hF.out, list_eq, List.drop_drop, ← hP.out, hd.out]; simp only
        split
        · simp only [said]; rw [hP.out]; rfl
        · rw [said_add, ← hP.out]
      go_upto_region 9 with (fail)
      go_cut [33] from 14 to 103 (fun v wx => (Blk wx w.heap.size 56 #[.int .i64 0, .int .i64 0] ∧ Change (fun _ => False) w wx) ∧ ∃ pt : Bool, v = .bool pt ∧ Hid (pt = true ↔ ((nn == 0) = true ∧ s[p] = close false)))
      case first =>
        by_cases hn : nn = 0
        · subst hn
          rcases u8_is s[p] 93 93 rfl with ⟨b1, n1⟩ | ⟨b1, n1⟩
          · have B1 := Lib.hid b1
            clear b1
            go_wp2
            go_meet
            exact ⟨⟨HB.out, HC.out⟩, true, rfl, ⟨fun _ => ⟨rfl, B1.out⟩, fun _ => rfl⟩⟩
          · have B1 := Lib.hid b1
            clear b1
            go_wp2
            go_meet
            exact ⟨⟨HB.out, HC.out⟩, false, rfl, ⟨fun h => by simp at h, fun h => absurd h.2 B1.out⟩⟩
        · have n0 : ((nn : Int) == 0) = false := by rw [beq_eq_false_iff_ne]; omega
          have n0' : (nn == 0) = false := by rw [beq_eq_false_iff_ne]; exact hn
          have N0 := Lib.hid n0'
          clear n0'
          go_wp2
          go_meet
          exact ⟨⟨HB.out, HC.out⟩, false, rfl, ⟨fun h => by simp at h, fun h => by rw [N0.out] at h; simp at h⟩⟩
      case rest =>
      obtain ⟨⟨hb, hc⟩, pt, rfl, hpt⟩ := hcut
      clear c0 c1 hf
      obtain ⟨c0, c1, hf⟩ := blk_agg hb
      have HB := Lib.hid hb
      have HC := Lib.hid hc
      clear hb hc
      cases pt
      rotate_left
      · have HF : Hid (R = said (p + 1) (0, 4)) := by
          show _ = _
          rw [HL.out, if_pos (hpt.out.1 rfl)]
        go_wp2
        refine post_said (b := w.heap.size) (((HB.out.set 0 _).set 1 _)) rfl rfl rfl ⟨?_, ?_⟩
        · rw [HF.out]; rfl
        · (repeat (first | exact HC.out | refine Change.drewN ?_ _ | refine Change.drew ?_ | refine Change.alloc ?_ _ | refine Change.setCell ?_ (.inr (by first | (simp; done) | (simp; omega) | omega)) _))

      have HL2 : Hid (R = said p (if (named false (s[p] :: s.data.toList.drop (p + 1))).2 ≠ 4 then named false (s[p] :: s.data.toList.drop (p + 1)) else add (named false (s[p] :: s.data.toList.drop (p + 1))).1 (elem (value d) false (list (value d) false g false) ((s[p] :: s.data.toList.drop (p + 1)).drop (named false (s[p] :: s.data.toList.drop (p + 1))).1)))) := by
        show _ = _
        rw [HL.out, if_neg (fun h => by have := hpt.out.2 h; simp at this)]
      have HE : Hid (R = said p (elem (value d) false (list (value d) false g false) (s.data.toList.drop p))) := by
        show _ = _
        rw [HL2.out, hd.out]; rfl
      go_wp2_with fail
      refine (valI HV.out s (p) _ _ hs (by omega) (by omega)).mono ?_
      rintro e w2 ⟨rfl, hc2⟩
      have hc3 := (HC.out).trans hc2 (fun i h => h.elim)
      have hb3 := (HB.out).of_change hc2 (fun h => h)
      clear c0 c1 hf
      obtain ⟨c0, c1, hf⟩ := blk_agg hb3
      have HB3 := Lib.hid hb3
      have HC3 := Lib.hid hc3
      have hlt2 := hb3.lt
      clear hb3 hc3 hc2
      obtain ⟨rn, rs, hsd, hrn, hrs⟩ := said_open (p) (value d (s.data.toList.drop (p)))
      have hvl := value_le d (s.data.toList.drop (p))
      simp only [List.length_drop, Array.length_toList] at hvl
      have hsz : s.data.size = s.size := rfl
      rw [hsz] at hvl
      have HE2 : Hid (R = said (p) (elem (value d) false (list (value d) false g false) (s.data.toList.drop (p)))) := HE
      rw [hsd]
      by_cases h4 : (value d (s.data.toList.drop (p))).2 = 4
      · obtain ⟨q, hq⟩ : ∃ q, q = (p) + (value d (s.data.toList.drop (p))).1 := ⟨_, rfl⟩
        have hqs : q ≤ s.size := by have := hvl h4; omega
        have HQ : Hid (R = said q (behindElem false (list (value d) false g false) (s.data.toList.drop q))) := by
          show _ = _
          rw [HE2.out, elem, if_neg (by simp [h4]), said_add, List.drop_drop, ← hq]
        have e4 : rs = -1 := by rw [hrs, h4]; rfl
        have eq : rn = q := by rw [hrn, hq]
        have hqat : (p) ≤ q := by omega
        subst e4 eq
        clear hsd hrs hrn hq h4 hvl hsz
        go_wp2_with fail
        refine (skipI s q _ _ hs hqs (by first | rfl | omega)).mono ?_
        rintro e w3 ⟨⟨t, rfl, hts, hT⟩, rfl⟩
        have htq : q ≤ t := by have := hT.out; omega
        have HBH := Lib.hid (behind_at false (list (value d) false g false) s q t hT.out)
        by_cases hlt3 : t < s.size
        · have hd3 := Lib.hid (drop_cons hlt3)
          have e5 : ((t : Int) == s.size) = false := by rw [beq_eq_false_iff_ne]; omega
          rcases u8_is s[t] 93 93 rfl with ⟨b1, n1⟩ | ⟨b1, n1⟩
          · have B1 := Lib.hid b1
            clear b1
            have HF : Hid (R = said (t + 1) (0, 4)) := by
              show _ = _
              rw [HQ.out, HBH.out, hd3.out]; simp only; rw [if_pos (by rw [B1.out]; rfl)]
            go_wp2
            refine post_said (b := w.heap.size) (((HB3.out.set 0 _).set 1 _).alloc _) rfl rfl rfl ⟨?_, ?_⟩
            · rw [HF.out]; rfl
            · (repeat (first | exact HC3.out | refine Change.drewN ?_ _ | refine Change.drew ?_ | refine Change.alloc ?_ _ | refine Change.setCell ?_ (.inr (by first | (simp; done) | (simp; omega) | omega)) _))

          · have B1 := Lib.hid b1
            clear b1
            rcases u8_is s[t] 44 44 rfl with ⟨b2, n2⟩ | ⟨b2, n2⟩
            · have n2' : ((s[t].toNat : Int) != 44) = false := by simp only [bne, n2]; rfl
              have B2 := Lib.hid b2
              clear b2 n2
              have HF : Hid (R = said (t + 1) (list (value d) false g false (s.data.toList.drop (t + 1)))) := by
                show _ = _
                rw [HQ.out, HBH.out, hd3.out]; simp only; rw [if_neg (show ¬ s[t] = close false from B1.out), if_neg (by simp [B2.out])]
              go_wp2
              refine ⟨⟨t + 1, nn + 1, g, by omega, by omega, by go_num, by go_num, by omega, ?_, ?_, ?_⟩, by simp [intOf]; omega⟩
              · show _ = _
                rw [HF.out]; rfl
              · repeat (first | exact HB3.out | refine Blk.alloc ?_ _)
              · (repeat (first | exact HC3.out | refine Change.drewN ?_ _ | refine Change.drew ?_ | refine Change.alloc ?_ _ | refine Change.setCell ?_ (.inr (by first | (simp; done) | (simp; omega) | omega)) _))
            · have n2' : ((s[t].toNat : Int) != 44) = true := by simp only [bne, n2]; rfl
              have B2 := Lib.hid b2
              clear b2 n2
              have HF : Hid (R = said t (0, 0)) := by
                show _ = _
                rw [HQ.out, HBH.out, hd3.out]; simp only; rw [if_neg (show ¬ s[t] = close false from B1.out), if_pos B2.out]
              go_wp2
              refine post_said (b := w.heap.size) (((HB3.out.set 0 _).set 1 _).alloc _) rfl rfl rfl ⟨?_, ?_⟩
              · rw [HF.out]; rfl
              · (repeat (first | exact HC3.out | refine Change.drewN ?_ _ | refine Change.drew ?_ | refine Change.alloc ?_ _ | refine Change.setCell ?_ (.inr (by first | (simp; done) | (simp; omega) | omega)) _))

        · have hd3 := Lib.hid (drop_end hlt3)
          have e5 : ((t : Int) == s.size) = true := by rw [beq_iff_eq]; omega
          have HF : Hid (R = said t (0, 1)) := by
            show _ = _
            rw [HQ.out, HBH.out, hd3.out]
          go_wp2
          refine post_said (b := w.heap.size) (((HB3.out.set 0 _).set 1 _).alloc _) rfl rfl rfl ⟨?_, ?_⟩
          · rw [HF.out]; rfl
          · (repeat (first | exact HC3.out | refine Change.drewN ?_ _ | refine Change.drew ?_ | refine Change.alloc ?_ _ | refine Change.setCell ?_ (.inr (by first | (simp; done) | (simp; omega) | omega)) _))

      · have HQ : Hid (R = .agg #[.int .i64 rn, .int .i64 rs]) := by
          show _ = _
          rw [HE2.out, elem, if_pos h4, hsd]
        have e4 : (rs != -1) = true := by rw [bne_iff_ne, hrs]; exact fun h => h4 ((stv_four _).1 h)
        clear hsd hrs hrn h4 hvl hsz
        go_wp2
        refine post_said (b := w.heap.size) (((HB3.out.set 0 _).set 1 _).alloc _) rfl rfl rfl ⟨?_, ?_⟩
        · rw [HQ.out]
        · (repeat (first | exact HC3.out | refine Change.drewN ?_ _ | refine Change.drew ?_ | refine Change.alloc ?_ _ | refine Change.setCell ?_ (.inr (by first | (simp; done) | (simp; omega) | omega)) _))

    · have hd := Lib.hid (drop_end hlt)
      have e0 : ((p : Int) == s.size) = true := by rw [beq_iff_eq]; omega
      have HF : Hid (R = said p (0, 1)) := by
        show _ = _
        rw [← hF.out, list_eq, List.drop_drop, ← hP.out, hd.out]; simp only [said]; rw [hP.out]; rfl
      go_wp2
      refine post_said (b := w.heap.size) (((HB.out.set 0 _).set 1 _)) rfl rfl rfl ⟨?_, ?_⟩
      · rw [HF.out]; rfl
      · (repeat (first | exact HC.out | refine Change.drewN ?_ _ | refine Change.drew ?_ | refine Change.alloc ?_ _ | refine Change.setCell ?_ (.inr (by first | (simp; done) | (simp; omega) | omega)) _))


end Go.Proofs.YtgnefbngkhjfcaaDoor
/-
  The reference for JSON: objects.
-/
set_option linter.unusedSimpArgs false
set_option linter.unusedVariables false
namespace Go.Proofs.YtgnefbngkhjfcaaDoor
open Go.RowKit Go.Tg Tg.Json


set_option maxHeartbeats 16000000 in
set_option maxRecDepth 100000 in
theorem list_obj (d : Nat) (hd1000 : d ≤ 1000) (hv : ValC d) (s : ByteArray) (a : Nat) (w : World) (hs : s.size ≤ 1048576) (ha : a ≤ s.size) :
  Calls Tryd.prog 59 #[.string s, .int .i64 a, .int .i64 d, .bool true] w fun e w' => e = .returned (said a (list (value d) true ((s.data.toList.drop a).length + 1) true (s.data.toList.drop a))) ∧ Change (fun _ => False) w w' := by
  obtain ⟨R, hR⟩ : ∃ R, R = said a (list (value d) true ((s.data.toList.drop a).length + 1) true (s.data.toList.drop a)) := ⟨_, rfl⟩
  rw [← hR]
  have HR := Lib.hid hR
  have HV := Lib.hid hv
  clear hR hv
  go_enter Tryd.func59, Tryd.ntmps59
  go_wp2
  go_loopw [1, 10] (fun i n wr => ∃ k nn f : Nat, k ≤ s.size ∧ nn ≤ k ∧ i = .int .i64 k ∧ n = .int .i64 nn ∧ s.size - k < f ∧ Hid (said k (list (value d) true f (nn == 0) (s.data.toList.drop k)) = R) ∧ Blk wr w.heap.size 56 #[.int .i64 0, .int .i64 0] ∧ Change (fun _ => False) w wr) (fun i _ _ => s.size - (intOf i).toNat)
  case atStart =>
    refine ⟨a, 0, _, ha, Nat.zero_le _, rfl, rfl, ?_, HR.out.symm, Blk.new _ _ _, (Change.refl _ w).alloc _⟩
    have hsz : s.data.size = s.size := rfl
    simp only [List.length_drop, Array.length_toList]; omega
  case round =>
    obtain ⟨k, nn, f, hk, hnk, rfl, rfl, hfl, hF, hb, hc⟩ := hrel
    obtain ⟨g, rfl⟩ : ∃ g, f = g + 1 := ⟨f - 1, by omega⟩
    obtain ⟨c0, c1, hf⟩ := blk_agg hb
    have HB := Lib.hid hb
    have HC := Lib.hid hc
    clear hb hc
    go_wp2_with fail
    refine (skipI s k _ _ hs hk rfl).mono ?_
    rintro e w1 ⟨⟨p, rfl, hps, hP⟩, rfl⟩
    have hkp : k ≤ p := by have := hP.out; omega
    by_cases hlt : p < s.size
    · have hd := Lib.hid (drop_cons hlt)
      have e0 : ((p : Int) == s.size) = false := by rw [beq_eq_false_iff_ne]; omega
      have HL : Hid (R = if (nn == 0) = true ∧ s[p] = close true then said (p + 1) (0, 4) else said p (if (named true (s[p] :: s.data.toList.drop (p + 1))).2 ≠ 4 then named true (s[p] :: s.data.toList.drop (p + 1)) else add (named true (s[p] :: s.data.toList.drop (p + 1))).1 (elem (value d) true (list (value d) true g false) ((s[p] :: s.data.toList.drop (p + 1)).drop (named true (s[p] :: s.data.toList.drop (p + 1))).1)))) := by
        show _ = _
        rw [← hF.out, list_eq, List.drop_drop, ← hP.out, hd.out]; simp only
        split
        · simp only [said]; rw [hP.out]; rfl
        · rw [said_add, ← hP.out]
      go_upto_region 9 with (fail)
      go_cut [33] from 14 to 103 (fun v wx => (Blk wx w.heap.size 56 #[.int .i64 0, .int .i64 0] ∧ Change (fun _ => False) w wx) ∧ ∃ pt : Bool, v = .bool pt ∧ Hid (pt = true ↔ ((nn == 0) = true ∧ s[p] = close true)))
      case first =>
        by_cases hn : nn = 0
        · subst hn
          rcases u8_is s[p] 125 125 rfl with ⟨b1, n1⟩ | ⟨b1, n1⟩
          · have B1 := Lib.hid b1
            clear b1
            go_wp2
            go_meet
            exact ⟨⟨HB.out, HC.out⟩, true, rfl, ⟨fun _ => ⟨rfl, B1.out⟩, fun _ => rfl⟩⟩
          · have B1 := Lib.hid b1
            clear b1
            go_wp2
            go_meet
            exact ⟨⟨HB.out, HC.out⟩, false, rfl, ⟨fun h => by simp at h, fun h => absurd h.2 B1.out⟩⟩
        · have n0 : ((nn : Int) == 0) = false := by rw [beq_eq_false_iff_ne]; omega
          have n0' : (nn == 0) = false := by rw [beq_eq_false_iff_ne]; exact hn
          have N0 := Lib.hid n0'
          clear n0'
          go_wp2
          go_meet
          exact ⟨⟨HB.out, HC.out⟩, false, rfl, ⟨fun h => by simp at h, fun h => by rw [N0.out] at h; simp at h⟩⟩
      case rest =>
      obtain ⟨⟨hb, hc⟩, pt, rfl, hpt⟩ := hcut
      clear c0 c1 hf
      obtain ⟨c0, c1, hf⟩ := blk_agg hb
      have HB := Lib.hid hb
      have HC := Lib.hid hc
      clear hb hc
      cases pt
      rotate_left
      · have HF : Hid (R = said (p + 1) (0, 4)) := by
          show _ = _
          rw [HL.out, if_pos (hpt.out.1 rfl)]
        go_wp2
        refine post_said (b := w.heap.size) (((HB.out.set 0 _).set 1 _)) rfl rfl rfl ⟨?_, ?_⟩
        · rw [HF.out]; rfl
        · (repeat (first | exact HC.out | refine Change.drewN ?_ _ | refine Change.drew ?_ | refine Change.alloc ?_ _ | refine Change.setCell ?_ (.inr (by first | (simp; done) | (simp; omega) | omega)) _))

      have HL2 : Hid (R = said p (if (named true (s[p] :: s.data.toList.drop (p + 1))).2 ≠ 4 then named true (s[p] :: s.data.toList.drop (p + 1)) else add (named true (s[p] :: s.data.toList.drop (p + 1))).1 (elem (value d) true (list (value d) true g false) ((s[p] :: s.data.toList.drop (p + 1)).drop (named true (s[p] :: s.data.toList.drop (p + 1))).1)))) := by
        show _ = _
        rw [HL.out, if_neg (fun h => by have := hpt.out.2 h; simp at this)]
      rcases u8_is s[p] 34 34 rfl with ⟨b3, n3⟩ | ⟨b3, n3⟩
      rotate_left
      · have n3' : ((s[p].toNat : Int) != 34) = true := by simp only [bne, n3]; rfl
        have HF : Hid (R = said p (0, 0)) := by
          show _ = _
          rw [HL2.out]; unfold named; simp only; rw [if_pos b3, if_pos (by decide)]
        clear b3 n3
        go_wp2
        refine post_said (b := w.heap.size) (((HB.out.set 0 _).set 1 _)) rfl rfl rfl ⟨?_, ?_⟩
        · rw [HF.out]; rfl
        · (repeat (first | exact HC.out | refine Change.drewN ?_ _ | refine Change.drew ?_ | refine Change.alloc ?_ _ | refine Change.setCell ?_ (.inr (by first | (simp; done) | (simp; omega) | omega)) _))

      have n3' : ((s[p].toNat : Int) != 34) = false := by simp only [bne, n3]; rfl
      have B3 := Lib.hid b3
      clear b3 n3
      go_wp2_with fail
      refine (quoteI s (p + 1) _ _ hs (by omega) (by omega)).mono ?_
      rintro e w2 ⟨rfl, hc2⟩
      have hc3 := HC.out.trans hc2 (fun i h => h.elim)
      have hb3 := HB.out.of_change hc2 (fun h => h)
      clear c0 c1 hf HB HC
      obtain ⟨c0, c1, hf⟩ := blk_agg hb3
      have HB := Lib.hid hb3
      have HC := Lib.hid hc3
      have hltq := hb3.lt
      clear hb3 hc3 hc2
      obtain ⟨rn0, rs0, hsd0, hrn0, hrs0⟩ := said_open (p + 1) (quote 0 (s.data.toList.drop (p + 1)))
      have hql := quote_le (s.data.toList.drop (p + 1))
      simp only [List.length_drop, Array.length_toList] at hql
      have hsz0 : s.data.size = s.size := rfl
      rw [hsz0] at hql
      rw [hsd0]
      by_cases h40 : (quote 0 (s.data.toList.drop (p + 1))).2 = 4
      rotate_left
      · have HF : Hid (R = .agg #[.int .i64 rn0, .int .i64 rs0]) := by
          show _ = _
          have hnm : named true (s[p] :: s.data.toList.drop (p + 1)) = add 1 (quote 0 (s.data.toList.drop (p + 1))) := by
            unfold named; simp only; rw [if_neg (by simp [B3.out]), if_pos h40]
          rw [HL2.out, hnm, if_pos (by simpa [add] using h40), said_add, hsd0]
        have e40 : (rs0 != -1) = true := by rw [bne_iff_ne, hrs0]; exact fun h => h40 ((stv_four _).1 h)
        clear hsd0 hrs0 hrn0 h40 hql hsz0
        go_wp2
        refine post_said (b := w.heap.size) (((HB.out.set 0 _).set 1 _).alloc _) rfl rfl rfl ⟨?_, ?_⟩
        · rw [HF.out]
        · (repeat (first | exact HC.out | refine Change.drewN ?_ _ | refine Change.drew ?_ | refine Change.alloc ?_ _ | refine Change.setCell ?_ (.inr (by first | (simp; done) | (simp; omega) | omega)) _))

      obtain ⟨q0, hq0⟩ : ∃ q0, q0 = p + 1 + (quote 0 (s.data.toList.drop (p + 1))).1 := ⟨_, rfl⟩
      have hq0s : q0 ≤ s.size := by have := hql h40; omega
      have hpq : p + 1 ≤ q0 := by omega
      have e40 : rs0 = -1 := by rw [hrs0, h40]; rfl
      have eq0 : rn0 = q0 := by rw [hrn0, hq0]
      have HNM : Hid (named true (s[p] :: s.data.toList.drop (p + 1)) = (match s.data.toList.drop (q0 + skip (s.data.toList.drop q0)) with
          | [] => (q0 + skip (s.data.toList.drop q0) - p, 1)
          | c :: _ => if c ≠ 58 then (q0 + skip (s.data.toList.drop q0) - p, 0) else (q0 + skip (s.data.toList.drop q0) + 1 - p, 4))) := by
        show _ = _
        unfold named; simp only; rw [if_neg (by simp [B3.out]), if_neg (by simp [h40])]
        have e1 : (s.data.toList.drop (p + 1)).drop (quote 0 (s.data.toList.drop (p + 1))).1 = s.data.toList.drop q0 := by rw [List.drop_drop, ← hq0]
        have e2 : ∀ n, 1 + (quote 0 (s.data.toList.drop (p + 1))).1 + n = q0 + n - p := by intro n; omega
        have e3 : ∀ n, q0 + n - p + 1 = q0 + n + 1 - p := by intro n; omega
        rw [e1, List.drop_drop, e2, e3]
        all_goals (generalize s.data.toList.drop (q0 + skip (s.data.toList.drop q0)) = mm; cases mm <;> rfl)
      subst e40 eq0
      clear hsd0 hrs0 hrn0 hq0 h40 hql hsz0
      go_wp2_with fail
      refine (skipI s q0 _ _ hs hq0s (by first | rfl | omega)).mono ?_
      rintro e w3 ⟨⟨t0, rfl, ht0s, hT0⟩, rfl⟩
      have htq0 : q0 ≤ t0 := by have := hT0.out; omega
      by_cases hltt : t0 < s.size
      rotate_left
      · have hd3 := Lib.hid (drop_end hltt)
        have e5 : ((t0 : Int) == s.size) = true := by rw [beq_iff_eq]; omega
        have HF : Hid (R = said t0 (0, 1)) := by
          show _ = _
          have hnm : named true (s[p] :: s.data.toList.drop (p + 1)) = (t0 - p, 1) := by rw [HNM.out, ← hT0.out, hd3.out]
          rw [HL2.out, hnm, if_pos (by simp)]; simp only [said]; rw [show p + (t0 - p) = t0 + 0 from by omega]
        go_wp2
        refine post_said (b := w.heap.size) (((HB.out.set 0 _).set 1 _).alloc _) rfl rfl rfl ⟨?_, ?_⟩
        · rw [HF.out]; rfl
        · (repeat (first | exact HC.out | refine Change.drewN ?_ _ | refine Change.drew ?_ | refine Change.alloc ?_ _ | refine Change.setCell ?_ (.inr (by first | (simp; done) | (simp; omega) | omega)) _))

      have hd3 := Lib.hid (drop_cons hltt)
      have e5 : ((t0 : Int) == s.size) = false := by rw [beq_eq_false_iff_ne]; omega
      rcases u8_is s[t0] 58 58 rfl with ⟨b5, n5⟩ | ⟨b5, n5⟩
      rotate_left
      · have n5' : ((s[t0].toNat : Int) != 58) = true := by simp only [bne, n5]; rfl
        have HF : Hid (R = said t0 (0, 0)) := by
          show _ = _
          have hnm : named true (s[p] :: s.data.toList.drop (p + 1)) = (t0 - p, 0) := by rw [HNM.out, ← hT0.out, hd3.out]; simp only; rw [if_pos b5]
          rw [HL2.out, hnm, if_pos (by simp)]; simp only [said]; rw [show p + (t0 - p) = t0 + 0 from by omega]
        clear b5 n5
        go_wp2
        refine post_said (b := w.heap.size) (((HB.out.set 0 _).set 1 _).alloc _) rfl rfl rfl ⟨?_, ?_⟩
        · rw [HF.out]; rfl
        · (repeat (first | exact HC.out | refine Change.drewN ?_ _ | refine Change.drew ?_ | refine Change.alloc ?_ _ | refine Change.setCell ?_ (.inr (by first | (simp; done) | (simp; omega) | omega)) _))

      have n5' : ((s[t0].toNat : Int) != 58) = false := by simp only [bne, n5]; rfl
      have HE : Hid (R = said (t0 + 1) (elem (value d) true (list (value d) true g false) (s.data.toList.drop (t0 + 1)))) := by
        show _ = _
        have hnm : named true (s[p] :: s.data.toList.drop (p + 1)) = (t0 + 1 - p, 4) := by rw [HNM.out, ← hT0.out, hd3.out]; simp only; rw [if_neg (by simp [b5])]
        rw [HL2.out, hnm, if_neg (by simp), said_add, ← hd.out, List.drop_drop, show p + (t0 + 1 - p) = t0 + 1 from by omega]
      clear b5 n5
      go_wp2_with fail
      refine (valI HV.out s (t0 + 1) _ _ hs (by omega) (by omega)).mono ?_
      rintro e w2 ⟨rfl, hc2⟩
      have hc3 := (HC.out.alloc _).trans hc2 (fun i h => h.elim)
      have hb3 := (HB.out.alloc _).of_change hc2 (fun h => h)
      clear c0 c1 hf
      obtain ⟨c0, c1, hf⟩ := blk_agg hb3
      have HB3 := Lib.hid hb3
      have HC3 := Lib.hid hc3
      have hlt2 := hb3.lt
      clear hb3 hc3 hc2
      obtain ⟨rn, rs, hsd, hrn, hrs⟩ := said_open (t0 + 1) (value d (s.data.toList.drop (t0 + 1)))
      have hvl := value_le d (s.data.toList.drop (t0 + 1))
      simp only [List.length_drop, Array.length_toList] at hvl
      have hsz : s.data.size = s.size := rfl
      rw [hsz] at hvl
      have HE2 : Hid (R = said (t0 + 1) (elem (value d) true (list (value d) true g false) (s.data.toList.drop (t0 + 1)))) := HE
      rw [hsd]
      by_cases h4 : (value d (s.data.toList.drop (t0 + 1))).2 = 4
      · obtain ⟨q, hq⟩ : ∃ q, q = (t0 + 1) + (value d (s.data.toList.drop (t0 + 1))).1 := ⟨_, rfl⟩
        have hqs : q ≤ s.size := by have := hvl h4; omega
        have HQ : Hid (R = said q (behindElem true (list (value d) true g false) (s.data.toList.drop q))) := by
          show _ = _
          rw [HE2.out, elem, if_neg (by simp [h4]), said_add, List.drop_drop, ← hq]
        have e4 : rs = -1 := by rw [hrs, h4]; rfl
        have eq : rn = q := by rw [hrn, hq]
        have hqat : (t0 + 1) ≤ q := by omega
        subst e4 eq
        clear hsd hrs hrn hq h4 hvl hsz
        go_wp2_with fail
        refine (skipI s q _ _ hs hqs (by first | rfl | omega)).mono ?_
        rintro e w3 ⟨⟨t, rfl, hts, hT⟩, rfl⟩
        have htq : q ≤ t := by have := hT.out; omega
        have HBH := Lib.hid (behind_at true (list (value d) true g false) s q t hT.out)
        by_cases hlt3 : t < s.size
        · have hd3 := Lib.hid (drop_cons hlt3)
          have e5 : ((t : Int) == s.size) = false := by rw [beq_eq_false_iff_ne]; omega
          rcases u8_is s[t] 125 125 rfl with ⟨b1, n1⟩ | ⟨b1, n1⟩
          · have B1 := Lib.hid b1
            clear b1
            have HF : Hid (R = said (t + 1) (0, 4)) := by
              show _ = _
              rw [HQ.out, HBH.out, hd3.out]; simp only; rw [if_pos (by rw [B1.out]; rfl)]
            go_wp2
            refine post_said (b := w.heap.size) (((HB3.out.set 0 _).set 1 _).alloc _) rfl rfl rfl ⟨?_, ?_⟩
            · rw [HF.out]; rfl
            · (repeat (first | exact HC3.out | refine Change.drewN ?_ _ | refine Change.drew ?_ | refine Change.alloc ?_ _ | refine Change.setCell ?_ (.inr (by first | (simp; done) | (simp; omega) | omega)) _))

          · have B1 := Lib.hid b1
            clear b1
            rcases u8_is s[t] 44 44 rfl with ⟨b2, n2⟩ | ⟨b2, n2⟩
            · have n2' : ((s[t].toNat : Int) != 44) = false := by simp only [bne, n2]; rfl
              have B2 := Lib.hid b2
              clear b2 n2
              have HF : Hid (R = said (t + 1) (list (value d) true g false (s.data.toList.drop (t + 1)))) := by
                show _ = _
                rw [HQ.out, HBH.out, hd3.out]; simp only; rw [if_neg (show ¬ s[t] = close true from B1.out), if_neg (by simp [B2.out])]
              go_wp2
              refine ⟨⟨t + 1, nn + 1, g, by omega, by omega, by go_num, by go_num, by omega, ?_, ?_, ?_⟩, by simp [intOf]; omega⟩
              · show _ = _
                rw [HF.out]; rfl
              · repeat (first | exact HB3.out | refine Blk.alloc ?_ _)
              · (repeat (first | exact HC3.out | refine Change.drewN ?_ _ | refine Change.drew ?_ | refine Change.alloc ?_ _ | refine Change.setCell ?_ (.inr (by first | (simp; done) | (simp; omega) | omega)) _))
            · have n2' : ((s[t].toNat : Int) != 44) = true := by simp only [bne, n2]; rfl
              have B2 := Lib.hid b2
              clear b2 n2
              have HF : Hid (R = said t (0, 0)) := by
                show _ = _
                rw [HQ.out, HBH.out, hd3.out]; simp only; rw [if_neg (show ¬ s[t] = close true from B1.out), if_pos B2.out]
              go_wp2
              refine post_said (b := w.heap.size) (((HB3.out.set 0 _).set 1 _).alloc _) rfl rfl rfl ⟨?_, ?_⟩
              · rw [HF.out]; rfl
              · (repeat (first | exact HC3.out | refine Change.drewN ?_ _ | refine Change.drew ?_ | refine Change.alloc ?_ _ | refine Change.setCell ?_ (.inr (by first | (simp; done) | (simp; omega) | omega)) _))

        · have hd3 := Lib.hid (drop_end hlt3)
          have e5 : ((t : Int) == s.size) = true := by rw [beq_iff_eq]; omega
          have HF : Hid (R = said t (0, 1)) := by
            show _ = _
            rw [HQ.out, HBH.out, hd3.out]
          go_wp2
          refine post_said (b := w.heap.size) (((HB3.out.set 0 _).set 1 _).alloc _) rfl rfl rfl ⟨?_, ?_⟩
          · rw [HF.out]; rfl
          · (repeat (first | exact HC3.out | refine Change.drewN ?_ _ | refine Change.drew ?_ | refine Change.alloc ?_ _ | refine Change.setCell ?_ (.inr (by first | (simp; done) | (simp; omega) | omega)) _))

      · have HQ : Hid (R = .agg #[.int .i64 rn, .int .i64 rs]) := by
          show _ = _
          rw [HE2.out, elem, if_pos h4, hsd]
        have e4 : (rs != -1) = true := by rw [bne_iff_ne, hrs]; exact fun h => h4 ((stv_four _).1 h)
        clear hsd hrs hrn h4 hvl hsz
        go_wp2
        refine post_said (b := w.heap.size) (((HB3.out.set 0 _).set 1 _).alloc _) rfl rfl rfl ⟨?_, ?_⟩
        · rw [HQ.out]
        · (repeat (first | exact HC3.out | refine Change.drewN ?_ _ | refine Change.drew ?_ | refine Change.alloc ?_ _ | refine Change.setCell ?_ (.inr (by first | (simp; done) | (simp; omega) | omega)) _))

    · have hd := Lib.hid (drop_end hlt)
      have e0 : ((p : Int) == s.size) = true := by rw [beq_iff_eq]; omega
      have HF : Hid (R = said p (0, 1)) := by
        show _ = _
        rw [← hF.out, list_eq, List.drop_drop, ← hP.out, hd.out]; simp only [said]; rw [hP.out]; rfl
      go_wp2
      refine post_said (b := w.heap.size) (((HB.out.set 0 _).set 1 _)) rfl rfl rfl ⟨?_, ?_⟩
      · rw [HF.out]; rfl
      · (repeat (first | exact HC.out | refine Change.drewN ?_ _ | refine Change.drew ?_ | refine Change.alloc ?_ _ | refine Change.setCell ?_ (.inr (by first | (simp; done) | (simp; omega) | omega)) _))


end Go.Proofs.YtgnefbngkhjfcaaDoor
/-
  The reference for JSON: all of it.
-/
set_option linter.unusedSimpArgs false
set_option linter.unusedVariables false
namespace Go.Proofs.YtgnefbngkhjfcaaDoor
open Go.RowKit Go.Tg Tg.Json

theorem listC_of (d : Nat) (hd : d ≤ 1000) (h : ValC d) : ListC d := by
  intro s a o w hs ha
  cases o
  · exact list_arr d hd h s a w hs ha
  · exact list_obj d hd h s a w hs ha
theorem valC_all (d : Nat) (hd : d ≤ 1000) : ValC d := by
  induction d with
  | zero => exact value_zero
  | succ d ih => exact value_succ d (by omega) (listC_of d (by omega) (ih (by omega)))

def wholeN (l : List UInt8) (d : Nat) : Int := (whole l d).1
def wholeP (l : List UInt8) (d : Nat) : Int := (whole l d).2
theorem ret_two {a b c d : Int} (h1 : a = c) (h2 : b = d) : Ending.returned (.tuple #[.int .i64 a, .int .i64 b]) = .returned (.tuple #[.int .i64 c, .int .i64 d]) := by rw [h1, h2]
set_option maxHeartbeats 2000000 in
theorem rwhole_any (s : ByteArray) (d : Nat) (w : World) (hs : s.size ≤ 1048576) (hd : d ≤ 200) :
    Calls Tryd.prog 22 #[.string s, .int .i64 d] w fun e w' => e = .returned (.tuple #[.int .i64 (wholeN s.data.toList d), .int .i64 (wholeP s.data.toList d)]) ∧ Change (fun _ => False) w w' := by
  have HV := Lib.hid (valC_all d (by omega))
  have hvl := value_le d s.data.toList
  have hsz : s.data.size = s.size := rfl
  simp only [Array.length_toList, hsz] at hvl
  obtain ⟨x, hx⟩ : ∃ x, x = value d s.data.toList := ⟨_, rfl⟩
  have hN : Hid (wholeN s.data.toList d = (if x.2 = 1 then (1, -1) else if x.2 ≠ 4 then (x.2, (x.1 : Int)) else if x.1 + skip (s.data.toList.drop x.1) < s.size then (0, ((x.1 + skip (s.data.toList.drop x.1) : Nat) : Int)) else (2, -1) : Nat × Int).1) := by
    show _ = _
    rw [hx]; unfold wholeN whole; simp only [Array.length_toList, hsz]
  have hP : Hid (wholeP s.data.toList d = (if x.2 = 1 then (1, -1) else if x.2 ≠ 4 then (x.2, (x.1 : Int)) else if x.1 + skip (s.data.toList.drop x.1) < s.size then (0, ((x.1 + skip (s.data.toList.drop x.1) : Nat) : Int)) else (2, -1) : Nat × Int).2) := by
    show _ = _
    rw [hx]; unfold wholeP whole; simp only [Array.length_toList, hsz]
  rw [← hx] at hvl
  have HX := Lib.hid hx
  clear hx hsz
  go_enter Tryd.func22, Tryd.ntmps22
  go_wp2_with fail
  refine (valI HV.out s 0 _ _ hs (by omega) rfl).mono ?_
  rintro e w1 ⟨rfl, hc⟩
  obtain ⟨rn, rs, hsd, hrn, hrs⟩ := said_open 0 (value d (s.data.toList.drop 0))
  rw [hsd]
  rw [List.drop_zero, ← HX.out] at hrn hrs
  have hrn' : rn = x.1 := by omega
  clear hsd hrn
  have HC := Lib.hid hc
  clear hc
  subst hrn'
  by_cases h1 : x.2 = 1
  · have e1 : rs = 1 := by rw [hrs, h1]; rfl
    subst e1
    have H1 := Lib.hid h1
    clear hrs h1 hvl
    go_wp2
    go_ret2
    refine ⟨ret_two ?_ ?_, ?_⟩
    · rw [hN.out, if_pos H1.out]; rfl
    · rw [hP.out, if_pos H1.out]
    · repeat (first | exact HC.out | refine Change.drewN ?_ _ | refine Change.alloc ?_ _ | refine Change.setCell ?_ (.inr (by first | (simp; done) | (simp; omega) | omega)) _)
  by_cases h4 : x.2 = 4
  · have e1 : rs = -1 := by rw [hrs, h4]; rfl
    subst e1
    have hle := hvl h4
    have H4 := Lib.hid h4
    clear hrs h1 h4 hvl
    go_wp2_with fail
    refine (skipI s x.1 _ _ hs hle rfl).mono ?_
    rintro e w3 ⟨⟨t, rfl, hts, hT⟩, rfl⟩
    by_cases hlt : t < s.size
    · go_wp2
      go_ret2
      refine ⟨ret_two ?_ ?_, ?_⟩
      · rw [hN.out, if_neg (by rw [H4.out]; decide), if_neg (by simp [H4.out]), if_pos (by rw [← hT.out]; exact hlt)]; rfl
      · rw [hP.out, if_neg (by rw [H4.out]; decide), if_neg (by simp [H4.out]), if_pos (by rw [← hT.out]; exact hlt), ← hT.out]
      · repeat (first | exact HC.out | refine Change.drewN ?_ _ | refine Change.alloc ?_ _ | refine Change.setCell ?_ (.inr (by first | (simp; done) | (simp; omega) | omega)) _)
    · go_wp2
      go_ret2
      refine ⟨ret_two ?_ ?_, ?_⟩
      · rw [hN.out, if_neg (by rw [H4.out]; decide), if_neg (by simp [H4.out]), if_neg (by rw [← hT.out]; exact hlt)]; rfl
      · rw [hP.out, if_neg (by rw [H4.out]; decide), if_neg (by simp [H4.out]), if_neg (by rw [← hT.out]; exact hlt)]
      · repeat (first | exact HC.out | refine Change.drewN ?_ _ | refine Change.alloc ?_ _ | refine Change.setCell ?_ (.inr (by first | (simp; done) | (simp; omega) | omega)) _)
  · have e1 : (rs == 1) = false := by rw [beq_eq_false_iff_ne, hrs]; unfold stv; split <;> omega
    have e2 : (rs != -1) = true := by rw [bne_iff_ne, hrs]; exact fun h => h4 ((stv_four _).1 h)
    have hrs' : rs = x.2 := by rw [hrs]; unfold stv; rw [if_neg h4]
    have H1 := Lib.hid h1
    have H4 := Lib.hid h4
    have HRS := Lib.hid hrs'
    clear hrs h1 h4 hvl hrs'
    go_wp2
    go_quiet (fail)
    go_wp2
    go_ret2
    refine ⟨ret_two ?_ ?_, ?_⟩
    · rw [hN.out, if_neg H1.out, if_pos H4.out, HRS.out]
    · rw [hP.out, if_neg H1.out, if_pos H4.out]
    · repeat (first | exact HC.out | refine Change.drewN ?_ _ | refine Change.alloc ?_ _ | refine Change.setCell ?_ (.inr (by first | (simp; done) | (simp; omega) | omega)) _)
theorem rwholeI (s : ByteArray) (x : Int) (d : Nat) (w : World) (hx : x = d) (hs : s.size ≤ 1048576) (hd : d ≤ 200) :
    Calls Tryd.prog 22 #[.string s, .int .i64 x] w fun e w' => e = .returned (.tuple #[.int .i64 (wholeN s.data.toList d), .int .i64 (wholeP s.data.toList d)]) ∧ Change (fun _ => False) w w' := by
  subst hx; exact rwhole_any s d w hs hd
end Go.Proofs.YtgnefbngkhjfcaaDoor
/-
  The library functions that layer 28 asks: strings.IndexByte, strings.Fields.
-/
set_option linter.unusedSimpArgs false
set_option linter.unusedVariables false
namespace Go.Proofs.YtgnefbngkhjfcaaDoor
open Go.Lg Go.Tg Tg.Js

/-- the table of blanks lies in the package's variable -/
def Tab (H : LH) : Prop := 0 < H.ng ∧ Lib.TabIs Tryd.prog H.base "strings.asciiSpace" .u8 Lib.asciiSpaceTab
def specIndexByte : Lg.Spec := fun args H => match args with
  | [.string s, .int .u8 c] => some (.int .i64 (Lib.indexByte s.data.toList c.toNat.toUInt8), H)
  | _ => none
open Classical in
noncomputable def specFields : Lg.Spec := fun args H => match args with
  | [.string s] => if s.size < 4294967281 ∧ (∀ (j : Nat) b, s.data.toList[j]? = some b → b.toNat < 128) ∧ Tab H ∧ (Lib.fields s.data.toList).length ≤ maxLen then
      some (sl H.n (Lib.fields s.data.toList).length (Lib.fields s.data.toList).length, H.new ⟨(Lib.fields s.data.toList).map (fun l => .string ⟨l.toArray⟩), 9, true⟩)
    else none
  | _ => none
/-- the number of the machine's that the search in strings reads lies in its variable -/
def MaxL (H : LH) : Prop := 2 < H.ng ∧ ∃ m, H.base.cell? ⟨2, 0, none⟩ = some (.int .i64 m)
open Classical in
noncomputable def specSplit : Lg.Spec := fun args H => match args with
  | [.string s, .string sep] => if s.size < 4294967281 ∧ 1 ≤ sep.size ∧ MaxL H ∧ Lib.countB s sep + 1 ≤ maxLen ∧ (Lib.splitB sep 0 (Lib.countB s sep) s).length = Lib.countB s sep + 1 then
      some (sl H.n (Lib.countB s sep + 1) (Lib.countB s sep + 1), H.new ⟨(Lib.splitB sep 0 (Lib.countB s sep) s).map Value.string, 9, true⟩)
    else none
  | _ => none
/-- the reference for JSON -/
def specWhole27 : Lg.Spec := fun args H => match args with
  | [.string s, .int .i64 d] => if s.size ≤ 1048576 ∧ 0 ≤ d ∧ d ≤ 200 then some (.tuple #[.int .i64 (Go.Proofs.YtgnefbngkhjfcaaDoor.wholeN s.data.toList d.toNat), .int .i64 (Go.Proofs.YtgnefbngkhjfcaaDoor.wholeP s.data.toList d.toNat)], H) else none
  | _ => none
noncomputable def specsMore : List (FuncId × Lg.Spec) := [
  (48, specSplit)
  ] ++ [
  (22, specWhole27)
  ] ++ [
  ]
noncomputable def EJ : Ext := extLL ([(82, specIndexByte), (74, specFields)] ++ specsMore) [66, 15]
@[simp] theorem EJ_ch {n id k : Nat} : EJ.loud.ch n id k = chT n id k := rfl
@[simp] theorem EJ_loud {g : FuncId} : EJ.loud g = (decide (g = 66) || decide (g = 15)) := by
  unfold EJ extLL
  simp only [List.contains_cons, List.contains_nil, Bool.or_false]
  rw [Bool.eq_iff_iff]; simp
theorem tab_at {P : Program} {H : LH} {ι : Ren} {w : World} (hrel : Rel P H ι w) (h : Tab H) : Lib.TabIs Tryd.prog w "strings.asciiSpace" .u8 Lib.asciiSpaceTab := by
  have h2 := h.2
  unfold Lib.TabIs World.var? at h2 ⊢
  rw [show Tryd.prog.globalNamed "strings.asciiSpace" = some 0 by kernel_rfl] at h2 ⊢
  simp only [Option.bind_some] at h2 ⊢
  rw [pin_block hrel h.1]
  exact h2
theorem max_at {P : Program} {H : LH} {ι : Ren} {w : World} (hrel : Rel P H ι w) (h : MaxL H) : ∃ m, w.cell? ⟨2, 0, none⟩ = some (.int .i64 m) := by
  obtain ⟨h1, m, h2⟩ := h
  refine ⟨m, ?_⟩
  unfold World.cell? at h2 ⊢
  rw [pin_block hrel h1]
  exact h2
theorem more_ok : ∀ p ∈ specsMore, SpecOk Tryd.prog p.1 p.2 := by
  intro p hp
  rcases List.mem_append.1 hp with hp | hp
  rcases List.mem_append.1 hp with hp | hp
  · skip
    rcases List.mem_cons.1 hp with rfl | hp
    · intro args H v H' h
      refine ⟨⟨_, Tryd.func48, rfl, by decide⟩, ?_⟩
      unfold specSplit at h
      dsimp only at h
      split at h
      · rename_i s sep
        split at h
        · rename_i hc
          obtain ⟨h1, h2, h3, h4, h5⟩ := hc
          simp only [Option.some.injEq, Prod.mk.injEq] at h
          obtain ⟨rfl, rfl⟩ := h
          exact callOk_row (fun x hx => by
            rcases List.mem_cons.1 hx with rfl | hx
            · rfl
            · rcases List.mem_cons.1 hx with rfl | hx
              · rfl
              · cases hx) (fun x hx => by
              obtain ⟨l, _, rfl⟩ := List.mem_map.1 hx
              rfl) (by kernel_rfl) (by simpa using h5) h4 (fun ι w hrel => by
                obtain ⟨m, hm⟩ := max_at hrel h3
                exact Tryd.strings_Split s sep m w h1 hm h2)
        · cases h
      · cases h
    cases hp
  · skip
    rcases List.mem_cons.1 hp with rfl | hp
    · intro args H v H' h
      refine ⟨⟨_, Tryd.func22, rfl, by decide⟩, ?_⟩
      unfold specWhole27 at h
      dsimp only at h
      split at h
      · rename_i s d
        split at h
        · rename_i hc
          obtain ⟨h1, h2, h3⟩ := hc
          simp only [Option.some.injEq, Prod.mk.injEq] at h
          obtain ⟨rfl, rfl⟩ := h
          exact callOk_flatC (fun x hx => by
            rcases List.mem_cons.1 hx with rfl | hx
            · rfl
            · rcases List.mem_cons.1 hx with rfl | hx
              · rfl
              · cases hx) rfl (fun w => rwholeI s d d.toNat w (by omega) h1 (by omega))
        · cases h
      · cases h
    cases hp
  · skip
    cases hp
theorem extOk : ExtOk Tryd.prog EJ := by
  refine extL_ok (fun p hp => ?_)
  rcases List.mem_append.1 hp with hp | hp
  case inr => exact more_ok p hp
  rcases List.mem_cons.1 hp with rfl | hp
  · intro args H v H' h
    refine ⟨⟨_, Tryd.func82, rfl, by decide⟩, ?_⟩
    unfold specIndexByte at h
    dsimp only at h
    split at h
    · simp only [Option.some.injEq, Prod.mk.injEq] at h
      obtain ⟨rfl, rfl⟩ := h
      exact callOk_flat (fun x hx => by
        rcases List.mem_cons.1 hx with rfl | hx
        · rfl
        · rcases List.mem_cons.1 hx with rfl | hx
          · rfl
          · cases hx) rfl (fun w => Tryd.strings_IndexByte _ _ w)
    · cases h
  · rcases List.mem_cons.1 hp with rfl | hp
    · intro args H v H' h
      refine ⟨⟨_, Tryd.func74, rfl, by decide⟩, ?_⟩
      unfold specFields at h
      dsimp only at h
      split at h
      · rename_i s
        split at h
        · rename_i hc
          obtain ⟨h1, h2, h3, h4⟩ := hc
          simp only [Option.some.injEq, Prod.mk.injEq] at h
          obtain ⟨rfl, rfl⟩ := h
          exact callOk_row (fun x hx => by
            rcases List.mem_cons.1 hx with rfl | hx
            · rfl
            · cases hx) (fun x hx => by
              obtain ⟨l, _, rfl⟩ := List.mem_map.1 hx
              rfl) (by kernel_rfl) (by simp) h4 (fun ι w hrel => Tryd.strings_Fields s w h1 h2 (tab_at hrel h3))
        · cases h
      · cases h
    · cases hp
theorem tOk : TOk Tryd.prog (LC Tryd.prog EJ) := LC_ok extOk mixed
section
variable {H : LH}
@[simp] theorem indexByte_l {s : List UInt8} {c : UInt8} : LC Tryd.prog EJ 82 [str s, .int .u8 c.toNat] H = some (.int .i64 (Lib.indexByte s c), H) := by
  refine LC_ext (s := specIndexByte) rfl ?_
  simp [specIndexByte, str]
def kwText : List UInt8 := w "await break case catch class const continue default delete do else export extends finally for from function get if import in instanceof let new of return set static switch throw try typeof var void while with yield async as"
theorem fields_kw : Lib.fields kwText = keywords := by decide +kernel
theorem kw_ascii : (kwText.all fun b => decide (b.toNat < 128)) = true := by decide +kernel
theorem fields_l (ht : Tab H) : LC Tryd.prog EJ 74 [str kwText] H = some (sl H.n 39 39, H.new ⟨keywords.map str, 9, true⟩) := by
  refine LC_ext (s := specFields) rfl ?_
  have e : (⟨kwText.toArray⟩ : ByteArray).data.toList = kwText := by simp
  have hl : keywords.length = 39 := by decide +kernel
  simp only [specFields, str, e, fields_kw, hl]
  have ha : ∀ (j : Nat) b, kwText[j]? = some b → b.toNat < 128 := fun j b hb => by
    have := List.all_eq_true.1 kw_ascii b (List.mem_of_getElem? hb)
    simpa using this
  rw [if_pos ⟨by rw [ba_size]; decide +kernel, ha, ht, by simp [maxLen, fields_kw, hl]⟩]
  rfl
end
end Go.Proofs.YtgnefbngkhjfcaaDoor
/-
  What the listed package variables give: the table of blanks lies in its variable.
-/
set_option linter.unusedSimpArgs false
set_option linter.unusedVariables false
set_option maxRecDepth 100000
namespace Go.Proofs.YtgnefbngkhjfcaaDoor
open Go.ChangeShapes Go.WideShapes Go.ChangeAt Go.RowKit Go.Tg Go.Lg

noncomputable def laid2 : List (String × DataW Unit) := [("unicode.White_Space", Rows.laid_unicode_White_Space), ("strings.asciiSpace", Rows.laid_strings_asciiSpace)]
theorem ownKnob0 : ownKnob Tryd.prog.godebug = none := by kernel_rfl
theorem gTab : Tryd.prog.globalNamed "strings.asciiSpace" = some 0 := by kernel_rfl
theorem tab_of_laid {W : World} (h : laidMetH Tryd.prog laid2 W) : Lib.TabIs Tryd.prog W "strings.asciiSpace" .u8 Lib.asciiSpaceTab := by
  have h1 : laidMet Tryd.prog laid2 W := by rwa [MakeChecks.laidMetH_plain _ _ _ (by kernel_rfl)] at h
  have h2 := h1.filter (fun x => x.1 == "strings.asciiSpace")
  have e : laid2.filter (fun x => x.1 == "strings.asciiSpace") = [("strings.asciiSpace", Lib.tabData .u8 Lib.asciiSpaceTab)] := by kernel_rfl
  rw [e] at h2
  exact Lib.tabIs_of_head (g := 0) (t := 87) (e := 5) (n := 256) gTab (by kernel_rfl) (by kernel_rfl) (by kernel_rfl) (by kernel_rfl) (by kernel_rfl) h2
abbrev ngT : Nat := 0 + 1
theorem size_of_laid {W : World} (h : laidMetH Tryd.prog laid2 W) : ngT ≤ W.heap.size := by
  have h1 := tab_of_laid h
  have := h1.cell gTab 0 (by decide)
  rcases Nat.lt_or_ge 0 W.heap.size with h2 | h2
  · exact h2
  · simp [World.cell?, Array.getElem?_eq_none h2] at this
theorem tab_empty {W : World} (h : laidMetH Tryd.prog laid2 W) : Tab (LH.empty W ngT) := ⟨Nat.lt_succ_self _, tab_of_laid h⟩
theorem door_met (os : Os) (args : Array Value) : laidMetH Tryd.prog laid2 ((World.doorLaid Tryd.prog 4000 os).forCall (fun _ _ => 0) ⟨#[], args, []⟩).memory :=
  laidMetH_of_parts3 (fuel := 12) (laidMet_of_run' 12 (by kernel_rfl) (by kernel_rfl)) (by kernel_rfl) (by kernel_rfl)
theorem door_shaped (os : Os) (args : Array Value) : True := trivial
end Go.Proofs.YtgnefbngkhjfcaaDoor
/-
  The machine of layer 29 (lexer) in plain Lean, and plain laws on it. No program in sight.
-/
set_option linter.unusedSimpArgs false
set_option linter.unusedVariables false
namespace Tg.Lx

structure L where
  j : Tg.Json.M
  s : Tg.Js.M
  verdict : Int
  reason : List UInt8
  at_ : Int
  seen : Int
  ended : Bool

namespace L
def settle (m : L) (v : Int) (r : List UInt8) : L := { m with verdict := v, reason := r, at_ := m.seen }
def rDeep : List UInt8 := [100, 101, 101, 112]
def rNo : List UInt8 := [110, 111, 32, 115, 99, 114, 105, 112, 116]
def rScript : List UInt8 := [115, 99, 114, 105, 112, 116]
def rBlank : List UInt8 := [98, 108, 97, 110, 107]
def rJson : List UInt8 := [106, 115, 111, 110]
def rCut : List UInt8 := [99, 117, 116, 32, 111, 102, 102]
def rLimit : List UInt8 := [108, 105, 109, 105, 116]
def look (m : L) : L :=
  if m.j.tell = 3 then m.settle 2 rDeep
  else if m.s.tell = 0 then m.settle 2 rNo
  else if m.j.tell = 0 ∧ 0 < m.s.ends then m.settle 1 rScript
  else m
def see (m : L) : L := { m with seen := Tg.Js.w64 (m.seen + 1) }
def take1 (m : L) (b : UInt8) : L := { m with j := m.j.feed [b], s := m.s.feed [b] }
def step (m : L) (b : UInt8) : L := if m.verdict ≠ 0 ∨ m.ended = true then m.see else (m.see.take1 b).look
def feed (m : L) (s : List UInt8) : L := s.foldl step m
def fin (m : L) : L :=
  if m.verdict ≠ 0 then { m with ended := true }
  else if m.j.begun = false then ({ m with ended := true } : L).settle 1 rBlank
  else if m.j.tell ≠ 0 then ({ m with ended := true } : L).settle 2 rJson
  else if m.s.tell = 2 then ({ m with ended := true } : L).settle 1 rScript
  else ({ m with ended := true } : L).settle 2 rCut
def new (d : Nat) : L := ⟨Tg.Json.M.start d, Tg.Js.new d, 0, [], -1, 0, false⟩

theorem feed_append (m : L) (s t : List UInt8) : m.feed (s ++ t) = (m.feed s).feed t := by simp [feed]
theorem feed_take (m : L) (s : List UInt8) {i : Nat} (h : i < s.length) : m.feed (s.take (i + 1)) = (m.feed (s.take i)).step s[i] := by
  rw [List.take_succ_eq_append_getElem h, feed_append]; rfl
/-- a verdict stays -/
theorem stuck (t : List UInt8) : ∀ m : L, m.verdict ≠ 0 → (m.feed t).verdict = m.verdict ∧ (m.feed t).reason = m.reason ∧ (m.feed t).at_ = m.at_ := by
  induction t with
  | nil => intro m _; exact ⟨rfl, rfl, rfl⟩
  | cons b r ih =>
    intro m h
    have e : m.step b = m.see := by unfold step; rw [if_pos (.inl h)]
    have := ih m.see h
    have e2 : m.feed (b :: r) = (m.step b).feed r := rfl
    rw [e2, e]; exact this
theorem fin_verdict (m : L) : m.fin.verdict ≠ 0 := by
  unfold fin settle
  by_cases h : m.verdict ≠ 0
  · rw [if_pos h]; exact h
  · rw [if_neg h]
    repeat' split
    all_goals simp
theorem fin_stuck (m : L) (h : m.verdict ≠ 0) : m.fin.verdict = m.verdict ∧ m.fin.reason = m.reason ∧ m.fin.at_ = m.at_ := by
  unfold fin; rw [if_pos h]; exact ⟨rfl, rfl, rfl⟩
/-- what holds behind n bytes -/
structure Inv (n : Nat) (m : L) : Prop where
  seen : m.seen = n
  at1 : m.at_ ≤ n
  at0 : -1 ≤ m.at_
  at2 : m.verdict ≠ 0 → 0 ≤ m.at_
  v : m.verdict = 0 ∨ m.verdict = 1 ∨ m.verdict = 2
theorem look_cases (m : L) : m.look = m ∨ ∃ v r, (v = 1 ∨ v = 2) ∧ m.look = m.settle v r := by
  unfold look
  repeat' split
  · exact .inr ⟨2, rDeep, .inr rfl, rfl⟩
  · exact .inr ⟨2, rNo, .inr rfl, rfl⟩
  · exact .inr ⟨1, rScript, .inl rfl, rfl⟩
  · exact .inl rfl
theorem fin_cases (m : L) : m.fin = { m with ended := true } ∧ m.verdict ≠ 0 ∨ ∃ v r, (v = 1 ∨ v = 2) ∧ m.fin = ({ m with ended := true } : L).settle v r := by
  unfold fin
  by_cases h : m.verdict ≠ 0
  · rw [if_pos h]; exact .inl ⟨rfl, h⟩
  · rw [if_neg h]
    repeat' split
    · exact .inr ⟨_, _, .inl rfl, rfl⟩
    · exact .inr ⟨_, _, .inr rfl, rfl⟩
    · exact .inr ⟨_, _, .inl rfl, rfl⟩
    · exact .inr ⟨_, _, .inr rfl, rfl⟩
theorem Inv.step {n : Nat} {m : L} (h : Inv n m) (hn : n < 1152921504606846976) (b : UInt8) : Inv (n + 1) (m.step b) := by
  have hw : Tg.Js.w64 (m.seen + 1) = ((n + 1 : Nat) : Int) := by rw [h.seen]; rw [Tg.Js.w64_in (by omega) (by omega)]; omega
  have hs : Inv (n + 1) m.see := ⟨hw, by have := h.at1; show m.at_ ≤ _; omega, h.at0, h.at2, h.v⟩
  unfold L.step
  split
  · exact hs
  · have ht : Inv (n + 1) (m.see.take1 b) := ⟨hs.seen, hs.at1, hs.at0, hs.at2, hs.v⟩
    rcases look_cases (m.see.take1 b) with e | ⟨v, r, hv, e⟩
    · rw [e]; exact ht
    · rw [e]
      have e1 := ht.seen
      refine ⟨e1, ?_, ?_, ?_, ?_⟩
      · show (m.see.take1 b).seen ≤ _; omega
      · show -1 ≤ (m.see.take1 b).seen; omega
      · intro _; show 0 ≤ (m.see.take1 b).seen; omega
      · exact .inr hv
theorem Inv.feed (t : List UInt8) : ∀ {n : Nat} {m : L}, Inv n m → n + t.length ≤ 1152921504606846976 → Inv (n + t.length) (m.feed t) := by
  induction t with
  | nil => intro n m h _; exact h
  | cons b r ih =>
    intro n m h hn
    simp only [List.length_cons] at hn
    have := ih (h.step (by omega) b) (by omega)
    rw [show n + 1 + r.length = n + (b :: r).length by simp; omega] at this
    exact this
theorem Inv.new (d : Nat) : Inv 0 (new d) := ⟨rfl, by show (-1 : Int) ≤ 0; omega, Int.le_refl _, fun h => absurd rfl h, .inl rfl⟩
theorem Inv.fin {n : Nat} {m : L} (h : Inv n m) : Inv n m.fin := by
  rcases fin_cases m with ⟨e, _⟩ | ⟨v, r, hv, e⟩
  · rw [e]; exact ⟨h.seen, h.at1, h.at0, h.at2, h.v⟩
  · rw [e]
    have e1 := h.seen
    exact ⟨e1, by show m.seen ≤ _; omega, by show -1 ≤ m.seen; omega, fun _ => by show 0 ≤ m.seen; omega, .inr hv⟩
/-- both machines as long as there is no verdict -/
theorem feed_open (t : List UInt8) : ∀ m : L, m.ended = false → (m.feed t).verdict = 0 → (m.feed t).j = m.j.feed t ∧ (m.feed t).s = m.s.feed t ∧ (m.feed t).ended = false := by
  induction t with
  | nil => intro m h _; exact ⟨rfl, rfl, h⟩
  | cons b r ih =>
    intro m he hv
    have hv' : ((m.step b).feed r).verdict = 0 := hv
    have hm : m.verdict = 0 := by
      refine Classical.byContradiction (fun hne => ?_)
      have := (stuck (b :: r) m hne).1
      rw [hv] at this; exact hne this.symm
    have e : m.step b = (m.see.take1 b).look := by unfold step; rw [if_neg (by rintro (h | h); exact h hm; rw [he] at h; cases h)]
    rcases look_cases (m.see.take1 b) with e2 | ⟨v, r', hvv, e2⟩
    · rw [e2] at e
      have := ih (m.step b) (by rw [e]; exact he) hv'
      rw [e] at this
      show ((m.step b).feed r).j = _ ∧ ((m.step b).feed r).s = _ ∧ ((m.step b).feed r).ended = _
      rw [e]
      exact this
    · rw [e2] at e
      have : (m.step b).verdict ≠ 0 := by rw [e]; show v ≠ 0; rcases hvv with rfl | rfl <;> decide
      have h2 := (stuck r (m.step b) this).1
      rw [hv'] at h2
      exact absurd h2.symm this
/-- what is let through ahead of the end has a beginning that is no JSON -/
theorem allowed (t : List UInt8) : ∀ m : L, m.ended = false → m.verdict = 0 → (m.feed t).verdict = 1 → ∃ u k, t = u ++ k ∧ (m.j.feed u).tell = 0 := by
  induction t with
  | nil => intro m _ hv h; rw [show m.feed [] = m from rfl, hv] at h; cases h
  | cons b r ih =>
    intro m he hv h
    have e : m.step b = (m.see.take1 b).look := by unfold step; rw [if_neg (by rintro (h | h); exact h hv; rw [he] at h; cases h)]
    have h' : ((m.step b).feed r).verdict = 1 := h
    have hj : (m.see.take1 b).j = m.j.feed [b] := rfl
    by_cases hz : (m.step b).verdict = 0
    · have e3 : m.step b = m.see.take1 b := by
        rcases look_cases (m.see.take1 b) with e2 | ⟨v, r', hvv, e2⟩
        · rw [e, e2]
        · rw [e, e2] at hz
          have hz' : v = 0 := hz
          rcases hvv with rfl | rfl <;> cases hz'
      obtain ⟨u, k, hu, ht⟩ := ih (m.step b) (by rw [e3]; exact he) hz h'
      refine ⟨b :: u, k, by rw [hu]; rfl, ?_⟩
      rw [e3] at ht
      exact ht
    · have h2 := (stuck r (m.step b) hz).1
      rw [h'] at h2
      refine ⟨[b], r, rfl, ?_⟩
      rw [e] at h2
      unfold look at h2
      split at h2
      · cases h2
      · split at h2
        · cases h2
        · split at h2
          · rename_i h3; exact h3.1
          · rw [show (m.see.take1 b).verdict = m.verdict from rfl, hv] at h2; cases h2
theorem bad_stays (m : Tg.Json.M) (u k : List UInt8) (h : (m.feed u).tell = 0) : (m.feed (u ++ k)).tell = 0 := by
  have hs : (m.feed u).state = 0 := by
    unfold Tg.Json.M.tell at h
    split at h
    · cases h
    · exact h
  rw [Tg.Json.feed_append]
  have := (Tg.Json.feed_stuck k (m.feed u) (by omega)).1
  unfold Tg.Json.M.tell
  rw [if_neg (fun hx => by omega), this, hs]
theorem done_begun (s : List UInt8) (d : Nat) (h : ((Tg.Json.M.start d).feed s).tell = 2) : ((Tg.Json.M.start d).feed s).begun = true := by
  rw [Tg.Json.begun_feed]
  have hw := congrArg Prod.fst (Tg.Json.whole_eq s d)
  simp only [h] at hw
  refine Classical.byContradiction (fun hne => ?_)
  have hge : s.length ≤ Tg.Json.skip s := by
    simp [Tg.Json.M.start] at hne; omega
  have hd : s.drop (Tg.Json.skip s) = [] := List.drop_eq_nil_of_le hge
  have hv : (Tg.Json.value d s).2 = 1 := by
    cases d <;> (unfold Tg.Json.value; rw [hd])
  unfold Tg.Json.whole at hw
  simp [hv] at hw
/-- what is JSON as a whole never is let through -/
theorem json_blocks (d : Nat) (u r : List UInt8) (h : ((Tg.Json.M.start d).feed (u ++ r)).tell = 2) :
    ((new d).feed u).verdict ≠ 1 ∧ (((new d).feed u).feed r).verdict ≠ 1 ∧ (((new d).feed u).feed r).fin.verdict = 2 := by
  have key : ∀ t k, t ++ k = u ++ r → ((new d).feed t).verdict ≠ 1 := by
    intro t k ht hv
    obtain ⟨u', k', e, hb⟩ := allowed t (new d) rfl rfl hv
    have := bad_stays _ u' (k' ++ k) hb
    rw [← List.append_assoc, ← e, ht] at this
    have h' : ((new d).j.feed (u ++ r)).tell = 2 := h
    rw [this] at h'; cases h'
  have k2 := key (u ++ r) [] (by simp)
  refine ⟨key u r rfl, by rw [← feed_append]; exact k2, ?_⟩
  rw [← feed_append]
  have hi := (Inv.new d).feed (u ++ r)
  generalize hm : (new d).feed (u ++ r) = m at *
  by_cases hv : m.verdict = 0
  · obtain ⟨hj, _, _⟩ := feed_open (u ++ r) (new d) rfl (by rw [hm]; exact hv)
    rw [hm] at hj
    have hj' : m.j = (Tg.Json.M.start d).feed (u ++ r) := hj
    unfold fin
    rw [if_neg (fun hx => hx hv), hj', done_begun _ _ h, if_neg (by simp), h, if_pos (by decide)]
    rfl
  · rw [(fin_stuck m hv).1]
    have : m.verdict = 0 ∨ m.verdict = 1 ∨ m.verdict = 2 := by
      rw [← hm]
      have : ∀ (t : List UInt8) (n : L), (n.verdict = 0 ∨ n.verdict = 1 ∨ n.verdict = 2) → ((n.feed t).verdict = 0 ∨ (n.feed t).verdict = 1 ∨ (n.feed t).verdict = 2) := by
        intro t
        induction t with
        | nil => intro n hn; exact hn
        | cons b q ih =>
          intro n hn
          refine ih (n.step b) ?_
          unfold step
          split
          · exact hn
          · rcases look_cases (n.see.take1 b) with e | ⟨v, r', hvv, e⟩
            · rw [e]; exact hn
            · rw [e]; exact .inr hvv
      exact this (u ++ r) (new d) (.inl rfl)
    omega
end L
end Tg.Lx
/-
  The machine of layer 28 (jscript): what its judges of bytes come to.
-/
set_option linter.unusedSimpArgs false
set_option linter.unusedVariables false
namespace Go.Proofs.YtgnefbngkhjfcaaDoor
open Go.Lg Tg.Js

section
variable {H : LH} {b : UInt8}
theorem digit_in : LC Tryd.prog EJ 97 [.int .u8 b.toNat] H = some (.bool (digit b), H) := by
  refine LC_pure rfl Tryd.func97 rfl (Nat.le_of_ble_eq_true rfl) (by decide) (by kernel_rfl) rfl ?_
  simp +contextual [digit, -Int.not_le, -Int.not_lt]
theorem digit_l : LC Tryd.prog EJ 81 [.int .u8 b.toNat] H = some (.bool (digit b), H) := by
  refine LC_pure rfl Tryd.func81 rfl (Nat.le_of_ble_eq_true rfl) (by decide) (by kernel_rfl) rfl ?_
  simp +contextual [digit_in, -Int.not_le, -Int.not_lt]
theorem small_l : LC Tryd.prog EJ 128 [.int .u8 b.toNat] H = some (.bool (decide (97 ≤ (b.toNat : Int)) && decide ((b.toNat : Int) ≤ 122)), H) := by
  refine LC_pure rfl Tryd.func128 rfl (Nat.le_of_ble_eq_true rfl) (by decide) (by kernel_rfl) rfl ?_
  simp +contextual [-Int.not_le, -Int.not_lt]
theorem great_l : LC Tryd.prog EJ 129 [.int .u8 b.toNat] H = some (.bool (decide (65 ≤ (b.toNat : Int)) && decide ((b.toNat : Int) ≤ 90)), H) := by
  refine LC_pure rfl Tryd.func129 rfl (Nat.le_of_ble_eq_true rfl) (by decide) (by kernel_rfl) rfl ?_
  simp +contextual [-Int.not_le, -Int.not_lt]
theorem letter_in : LC Tryd.prog EJ 116 [.int .u8 b.toNat] H = some (.bool (letter b), H) := by
  refine LC_pure rfl Tryd.func116 rfl (Nat.le_of_ble_eq_true rfl) (by decide) (by kernel_rfl) rfl ?_
  simp +contextual [letter, small_l, great_l, -Int.not_le, -Int.not_lt]
theorem letter_l : LC Tryd.prog EJ 96 [.int .u8 b.toNat] H = some (.bool (letter b), H) := by
  refine LC_pure rfl Tryd.func96 rfl (Nat.le_of_ble_eq_true rfl) (by decide) (by kernel_rfl) rfl ?_
  simp +contextual [letter_in, -Int.not_le, -Int.not_lt]
theorem feed_l : LC Tryd.prog EJ 75 [.int .u8 b.toNat] H = some (.bool (feedB b), H) := by
  refine LC_pure rfl Tryd.func75 rfl (Nat.le_of_ble_eq_true rfl) (by decide) (by kernel_rfl) rfl ?_
  simp +contextual [feedB, -Int.not_le, -Int.not_lt]
theorem white_l : LC Tryd.prog EJ 76 [.int .u8 b.toNat] H = some (.bool (white b), H) := by
  refine LC_pure rfl Tryd.func76 rfl (Nat.le_of_ble_eq_true rfl) (by decide) (by kernel_rfl) rfl ?_
  simp +contextual [white, -Int.not_le, -Int.not_lt]
theorem inner_l : LC Tryd.prog EJ 77 [.int .u8 b.toNat] H = some (.bool (inner b), H) := by
  refine LC_pure rfl Tryd.func77 rfl (Nat.le_of_ble_eq_true rfl) (by decide) (by kernel_rfl) rfl ?_
  simp (config := { maxSteps := 2000000 }) +contextual [inner, letter_l, digit_l, -Int.not_le, -Int.not_lt]
theorem pair_l : LC Tryd.prog EJ 118 [.int .u8 b.toNat] H = some (.int .u8 (M.pair b).toNat, H) := by
  refine LC_pure rfl Tryd.func118 rfl (Nat.le_of_ble_eq_true rfl) (by decide) (by kernel_rfl) rfl ?_
  simp +contextual [M.pair, -Int.not_le, -Int.not_lt]
end
end Go.Proofs.YtgnefbngkhjfcaaDoor
/-
  The machine of layer 28 (jscript): its fields, and its methods that leave its stack as it is.
-/
set_option linter.unusedSimpArgs false
set_option linter.unusedVariables false
namespace Go.Proofs.YtgnefbngkhjfcaaDoor
open Go.Lg Tg.Js

/-- the machine's cells -/
def mc (m : M) (v : Value) : List Value := [.int .i64 m.depth, v, .int .i64 m.at_, .int .u8 m.by_.toNat, .bool m.taken, str m.said, .int .i64 m.last, .bool m.broken, .bool m.bad, .int .i64 m.place, .int .i64 m.pieces, .int .i64 m.ends, .int .i64 m.seen]
def mb (m : M) (v : Value) : LB := ⟨mc m v, 53, true⟩
theorem set_self {H : LH} {l : Nat} {b : LB} (h : H.get l = some b) : H.set l b = H := by
  cases H with
  | mk n g ho w0 ng =>
    simp only [LH.set, LH.mk.injEq, true_and, and_true]
    funext k
    split
    · rename_i e; subst e; exact h.symm
    · rfl
@[simp] theorem u8inj {a b : UInt8} : ((a.toNat : Int) = b.toNat) = (a = b) := by
  apply propext
  constructor
  · intro h; exact UInt8.toNat_inj.1 (by omega)
  · rintro rfl; rfl
set_option maxRecDepth 100000
section
variable {H : LH} {b : UInt8} {m : M} {v : Value} {p : Nat}
@[simp] theorem mb_len : (mb m v).cells.length = 13 := by simp only [mb, mc]; simp only [List.length_cons, List.length_nil]
@[simp] theorem mb_rw : (mb m v).rw = true := by simp only [mb]
theorem mb_elem : (mb m v).elem = 53 := rfl
@[simp] theorem ld_depth : (mb m v).cells[0]? = some (.int .i64 m.depth) := rfl
@[simp] theorem lg_depth {hl : 0 < (mb m v).cells.length} : (mb m v).cells[0]'hl = (.int .i64 m.depth) := rfl
@[simp] theorem st_depth {x : Int} : (⟨(mb m v).cells.set 0 (.int .i64 x), (mb m v).elem, true⟩ : LB) = mb { m with depth := x } v := rfl
@[simp] theorem ld_at_ : (mb m v).cells[2]? = some (.int .i64 m.at_) := rfl
@[simp] theorem lg_at_ {hl : 2 < (mb m v).cells.length} : (mb m v).cells[2]'hl = (.int .i64 m.at_) := rfl
@[simp] theorem st_at_ {x : Int} : (⟨(mb m v).cells.set 2 (.int .i64 x), (mb m v).elem, true⟩ : LB) = mb { m with at_ := x } v := rfl
@[simp] theorem ld_by_ : (mb m v).cells[3]? = some (.int .u8 m.by_.toNat) := rfl
@[simp] theorem lg_by_ {hl : 3 < (mb m v).cells.length} : (mb m v).cells[3]'hl = (.int .u8 m.by_.toNat) := rfl
@[simp] theorem st_by_ {x : UInt8} : (⟨(mb m v).cells.set 3 (.int .u8 x.toNat), (mb m v).elem, true⟩ : LB) = mb { m with by_ := x } v := rfl
@[simp] theorem ld_taken : (mb m v).cells[4]? = some (.bool m.taken) := rfl
@[simp] theorem lg_taken {hl : 4 < (mb m v).cells.length} : (mb m v).cells[4]'hl = (.bool m.taken) := rfl
@[simp] theorem st_taken {x : Bool} : (⟨(mb m v).cells.set 4 (.bool x), (mb m v).elem, true⟩ : LB) = mb { m with taken := x } v := rfl
@[simp] theorem ld_said : (mb m v).cells[5]? = some (str m.said) := rfl
@[simp] theorem lg_said {hl : 5 < (mb m v).cells.length} : (mb m v).cells[5]'hl = (str m.said) := rfl
@[simp] theorem st_said {x : List UInt8} : (⟨(mb m v).cells.set 5 (str x), (mb m v).elem, true⟩ : LB) = mb { m with said := x } v := rfl
@[simp] theorem ld_last : (mb m v).cells[6]? = some (.int .i64 m.last) := rfl
@[simp] theorem lg_last {hl : 6 < (mb m v).cells.length} : (mb m v).cells[6]'hl = (.int .i64 m.last) := rfl
@[simp] theorem st_last {x : Int} : (⟨(mb m v).cells.set 6 (.int .i64 x), (mb m v).elem, true⟩ : LB) = mb { m with last := x } v := rfl
@[simp] theorem ld_broken : (mb m v).cells[7]? = some (.bool m.broken) := rfl
@[simp] theorem lg_broken {hl : 7 < (mb m v).cells.length} : (mb m v).cells[7]'hl = (.bool m.broken) := rfl
@[simp] theorem st_broken {x : Bool} : (⟨(mb m v).cells.set 7 (.bool x), (mb m v).elem, true⟩ : LB) = mb { m with broken := x } v := rfl
@[simp] theorem ld_bad : (mb m v).cells[8]? = some (.bool m.bad) := rfl
@[simp] theorem lg_bad {hl : 8 < (mb m v).cells.length} : (mb m v).cells[8]'hl = (.bool m.bad) := rfl
@[simp] theorem st_bad {x : Bool} : (⟨(mb m v).cells.set 8 (.bool x), (mb m v).elem, true⟩ : LB) = mb { m with bad := x } v := rfl
@[simp] theorem ld_place : (mb m v).cells[9]? = some (.int .i64 m.place) := rfl
@[simp] theorem lg_place {hl : 9 < (mb m v).cells.length} : (mb m v).cells[9]'hl = (.int .i64 m.place) := rfl
@[simp] theorem st_place {x : Int} : (⟨(mb m v).cells.set 9 (.int .i64 x), (mb m v).elem, true⟩ : LB) = mb { m with place := x } v := rfl
@[simp] theorem ld_pieces : (mb m v).cells[10]? = some (.int .i64 m.pieces) := rfl
@[simp] theorem lg_pieces {hl : 10 < (mb m v).cells.length} : (mb m v).cells[10]'hl = (.int .i64 m.pieces) := rfl
@[simp] theorem st_pieces {x : Int} : (⟨(mb m v).cells.set 10 (.int .i64 x), (mb m v).elem, true⟩ : LB) = mb { m with pieces := x } v := rfl
@[simp] theorem ld_ends : (mb m v).cells[11]? = some (.int .i64 m.ends) := rfl
@[simp] theorem lg_ends {hl : 11 < (mb m v).cells.length} : (mb m v).cells[11]'hl = (.int .i64 m.ends) := rfl
@[simp] theorem st_ends {x : Int} : (⟨(mb m v).cells.set 11 (.int .i64 x), (mb m v).elem, true⟩ : LB) = mb { m with ends := x } v := rfl
@[simp] theorem ld_seen : (mb m v).cells[12]? = some (.int .i64 m.seen) := rfl
@[simp] theorem lg_seen {hl : 12 < (mb m v).cells.length} : (mb m v).cells[12]'hl = (.int .i64 m.seen) := rfl
@[simp] theorem st_seen {x : Int} : (⟨(mb m v).cells.set 12 (.int .i64 x), (mb m v).elem, true⟩ : LB) = mb { m with seen := x } v := rfl
@[simp] theorem st_by34 : (⟨(mb m v).cells.set 3 (.int .u8 34), (mb m v).elem, true⟩ : LB) = mb { m with by_ := 34 } v := rfl
@[simp] theorem st_by39 : (⟨(mb m v).cells.set 3 (.int .u8 39), (mb m v).elem, true⟩ : LB) = mb { m with by_ := 39 } v := rfl
@[simp] theorem st_by47 : (⟨(mb m v).cells.set 3 (.int .u8 47), (mb m v).elem, true⟩ : LB) = mb { m with by_ := 47 } v := rfl
@[simp] theorem st_by96 : (⟨(mb m v).cells.set 3 (.int .u8 96), (mb m v).elem, true⟩ : LB) = mb { m with by_ := 96 } v := rfl
@[simp] theorem ld_stack : (mb m v).cells[1]? = some v := rfl
@[simp] theorem lg_stack {hl : 1 < (mb m v).cells.length} : (mb m v).cells[1]'hl = v := rfl
@[simp] theorem st_stack {x : Value} : (⟨(mb m v).cells.set 1 x, (mb m v).elem, true⟩ : LB) = mb m x := rfl
/-- a method that writes the machine's own block alone -/
theorem own {f : FuncId} {fn : Func} {c : Code} {args : List Value} {u : Value} {B B' : LB} (he : EJ f = none) (hf : Tryd.prog.funcs[f]? = some fn) (hb : fn.body = some c) (hN : args.length ≤ fn.ntmps) (hname : fn.name ≠ "runtime.NumGoroutine") (hcd : codeOk EJ.loud fn.ntmps c = true)
    (hB : H.get p = some B) (hp : p < H.n) (hr : Runs Tryd.prog EJ fn [.code c] (enter args) H (fun r => r = (u, H.set p B'))) : LC Tryd.prog EJ f args H = some (u, H.set p B') := by
  obtain ⟨r, h, rfl⟩ := LC_runs he hf hb hN hname hcd hr
  rw [h, trunc_set hB hp]
theorem joined_l (h : H.get p = some (mb m v)) : LC Tryd.prog EJ 78 [ptr p 0] H = some (.bool m.joined, H) := by
  refine LC_pure rfl Tryd.func78 rfl (Nat.le_of_ble_eq_true rfl) (by decide) (by kernel_rfl) rfl ?_
  simp +contextual [h, M.joined]
theorem fail_l (h : H.get p = some (mb m v)) (hp : p < H.n) : LC Tryd.prog EJ 79 [ptr p 0] H = some (.tuple #[], H.set p (mb (m.fail) v)) := by
  refine own rfl Tryd.func79 rfl (Nat.le_of_ble_eq_true rfl) (by decide) (by kernel_rfl) h hp ?_
  simp (config := { maxSteps := 2000000 }) +contextual [h, hp, set_self h, M.fail, -Int.not_le, -Int.not_lt]
theorem fail_s (hp : p < H.n) : LC Tryd.prog EJ 79 [ptr p 0] (H.set p (mb m v)) = some (.tuple #[], H.set p (mb (m.fail) v)) := by
  rw [fail_l get_set hp, set_set]
theorem piece_l (h : H.get p = some (mb m v)) (hp : p < H.n) : LC Tryd.prog EJ 80 [ptr p 0] H = some (.tuple #[], H.set p (mb (m.piece) v)) := by
  refine own rfl Tryd.func80 rfl (Nat.le_of_ble_eq_true rfl) (by decide) (by kernel_rfl) h hp ?_
  simp (config := { maxSteps := 2000000 }) +contextual [h, hp, set_self h, M.piece, -Int.not_le, -Int.not_lt]
theorem piece_s (hp : p < H.n) : LC Tryd.prog EJ 80 [ptr p 0] (H.set p (mb m v)) = some (.tuple #[], H.set p (mb (m.piece) v)) := by
  rw [piece_l get_set hp, set_set]
theorem ended_l {l : Int} (h : H.get p = some (mb m v)) (hp : p < H.n) : LC Tryd.prog EJ 84 [ptr p 0, .int .i64 l] H = some (.tuple #[], H.set p (mb (m.ended l) v)) := by
  refine own rfl Tryd.func84 rfl (Nat.le_of_ble_eq_true rfl) (by decide) (by kernel_rfl) h hp ?_
  simp (config := { maxSteps := 2000000 }) +contextual [h, hp, set_self h, M.ended, -Int.not_le, -Int.not_lt]
theorem ended_s {l : Int} (hp : p < H.n) : LC Tryd.prog EJ 84 [ptr p 0, .int .i64 l] (H.set p (mb m v)) = some (.tuple #[], H.set p (mb (m.ended l) v)) := by
  rw [ended_l get_set hp, set_set]
theorem inRemark_l (h : H.get p = some (mb m v)) (hp : p < H.n) : LC Tryd.prog EJ 56 [ptr p 0, .int .u8 b.toNat] H = some (.tuple #[], H.set p (mb (m.inRemark b) v)) := by
  refine own rfl Tryd.func56 rfl (Nat.le_of_ble_eq_true rfl) (by decide) (by kernel_rfl) h hp ?_
  simp (config := { maxSteps := 2000000 }) +contextual [h, hp, set_self h, M.inRemark, feed_l, -Int.not_le, -Int.not_lt]
theorem inRemark_s (hp : p < H.n) : LC Tryd.prog EJ 56 [ptr p 0, .int .u8 b.toNat] (H.set p (mb m v)) = some (.tuple #[], H.set p (mb (m.inRemark b) v)) := by
  rw [inRemark_l get_set hp, set_set]
theorem inLess_l (h : H.get p = some (mb m v)) (hp : p < H.n) : LC Tryd.prog EJ 57 [ptr p 0, .int .u8 b.toNat] H = some (.tuple #[], H.set p (mb (m.inLess b) v)) := by
  refine own rfl Tryd.func57 rfl (Nat.le_of_ble_eq_true rfl) (by decide) (by kernel_rfl) h hp ?_
  simp (config := { maxSteps := 2000000 }) +contextual [h, hp, set_self h, M.inLess, fail_l h hp, -Int.not_le, -Int.not_lt]
theorem inLess_s (hp : p < H.n) : LC Tryd.prog EJ 57 [ptr p 0, .int .u8 b.toNat] (H.set p (mb m v)) = some (.tuple #[], H.set p (mb (m.inLess b) v)) := by
  rw [inLess_l get_set hp, set_set]
theorem inText_l (h : H.get p = some (mb m v)) (hp : p < H.n) : LC Tryd.prog EJ 58 [ptr p 0, .int .u8 b.toNat] H = some (.tuple #[], H.set p (mb (m.inText b) v)) := by
  refine own rfl Tryd.func58 rfl (Nat.le_of_ble_eq_true rfl) (by decide) (by kernel_rfl) h hp ?_
  simp (config := { maxSteps := 2000000 }) +contextual [h, hp, set_self h, M.inText, feed_l, fail_l h hp, ended_l h hp, -Int.not_le, -Int.not_lt]
theorem inText_s (hp : p < H.n) : LC Tryd.prog EJ 58 [ptr p 0, .int .u8 b.toNat] (H.set p (mb m v)) = some (.tuple #[], H.set p (mb (m.inText b) v)) := by
  rw [inText_l get_set hp, set_set]
end
end Go.Proofs.YtgnefbngkhjfcaaDoor
/-
  A logical run of Go code: rules for regions whose order is open.
-/
set_option linter.unusedSimpArgs false
set_option linter.unusedVariables false
namespace Go.Lg
open Go.Tg Go.RowKit
section
variable {P : Program} {fr : Fr} {H H0 : LH} {T : Callee} {L : Loud} {t s : TypeId} {x y i c : Operand}
@[simp ↓] theorem lmixx_move : lmixx P T (.move x) fr H0 H = lopx P T (.move x) fr H := rfl
@[simp ↓] theorem loud_move : loudOp L (.move x) = false := rfl
@[simp ↓] theorem lmixx_assign : lmixx P T (.assign x) fr H0 H = lopx P T (.assign x) fr H := rfl
@[simp ↓] theorem loud_assign : loudOp L (.assign x) = false := rfl
@[simp ↓] theorem lmixx_pick : lmixx P T (.pick c x y) fr H0 H = lopx P T (.pick c x y) fr H := rfl
@[simp ↓] theorem loud_pick : loudOp L (.pick c x y) = false := rfl
@[simp ↓] theorem lmixx_box : lmixx P T (.box t x) fr H0 H = lopx P T (.box t x) fr H := rfl
@[simp ↓] theorem loud_box : loudOp L (.box t x) = false := rfl
@[simp ↓] theorem lmixx_alloc : lmixx P T (.alloc t) fr H0 H = lopx P T (.alloc t) fr H := rfl
@[simp ↓] theorem loud_alloc : loudOp L (.alloc t) = false := rfl
@[simp ↓] theorem lmixx_load : lmixx P T (.load t x) fr H0 H = lopx P T (.load t x) fr H := rfl
@[simp ↓] theorem loud_load : loudOp L (.load t x) = false := rfl
@[simp ↓] theorem lmixx_nilCheck : lmixx P T (.nilCheck x) fr H0 H = lopx P T (.nilCheck x) fr H := rfl
@[simp ↓] theorem loud_nilCheck : loudOp L (.nilCheck x) = false := rfl
@[simp ↓] theorem lmixx_fieldAddr {f : Nat} : lmixx P T (.fieldAddr t x f) fr H0 H = lopx P T (.fieldAddr t x f) fr H := rfl
@[simp ↓] theorem loud_fieldAddr {f : Nat} : loudOp L (.fieldAddr t x f) = false := rfl
@[simp ↓] theorem lmixx_indexAddr : lmixx P T (.indexAddr t x i) fr H0 H = lopx P T (.indexAddr t x i) fr H := rfl
@[simp ↓] theorem loud_indexAddr : loudOp L (.indexAddr t x i) = false := rfl
@[simp ↓] theorem lmixx_slice {lo hi mx : Option Operand} : lmixx P T (.slice t x lo hi mx) fr H0 H = lopx P T (.slice t x lo hi mx) fr H := rfl
@[simp ↓] theorem loud_slice {lo hi mx : Option Operand} : loudOp L (.slice t x lo hi mx) = false := rfl
@[simp ↓] theorem lmixx_field {f : Nat} : lmixx P T (.field t x f) fr H0 H = lopx P T (.field t x f) fr H := rfl
@[simp ↓] theorem loud_field {f : Nat} : loudOp L (.field t x f) = false := rfl
@[simp ↓] theorem lmixx_extract {f : Nat} : lmixx P T (.extract x f) fr H0 H = lopx P T (.extract x f) fr H := rfl
@[simp ↓] theorem loud_extract {f : Nat} : loudOp L (.extract x f) = false := rfl
@[simp ↓] theorem lmixx_build {ps : Array (Nat × Operand)} : lmixx P T (.build t ps) fr H0 H = lopx P T (.build t ps) fr H := rfl
@[simp ↓] theorem loud_build {ps : Array (Nat × Operand)} : loudOp L (.build t ps) = false := rfl
@[simp ↓] theorem lmixx_buildSlice {f : Nat} {ps : Array (Nat × Operand)} : lmixx P T (.buildSlice t f ps) fr H0 H = lopx P T (.buildSlice t f ps) fr H := rfl
@[simp ↓] theorem loud_buildSlice {f : Nat} {ps : Array (Nat × Operand)} : loudOp L (.buildSlice t f ps) = false := rfl
@[simp ↓] theorem lmixx_binOp {op : BinOp} : lmixx P T (.binOp op t x y s) fr H0 H = lopx P T (.binOp op t x y s) fr H := rfl
@[simp ↓] theorem loud_binOp {op : BinOp} : loudOp L (.binOp op t x y s) = false := rfl
@[simp ↓] theorem lmixx_unOp {uop : UnOp} : lmixx P T (.unOp uop t x) fr H0 H = lopx P T (.unOp uop t x) fr H := rfl
@[simp ↓] theorem loud_unOp {uop : UnOp} : loudOp L (.unOp uop t x) = false := rfl
@[simp ↓] theorem lmixx_convert : lmixx P T (.convert s t x) fr H0 H = lopx P T (.convert s t x) fr H := rfl
@[simp ↓] theorem loud_convert : loudOp L (.convert s t x) = false := rfl
@[simp ↓] theorem lmixx_index : lmixx P T (.index t x i) fr H0 H = lopx P T (.index t x i) fr H := rfl
@[simp ↓] theorem loud_index : loudOp L (.index t x i) = false := rfl
@[simp ↓] theorem lmixx_makeFunc {g : Fn} {c1 c2 : Array Operand} : lmixx P T (.makeFunc g c1 c2) fr H0 H = lopx P T (.makeFunc g c1 c2) fr H := rfl
@[simp ↓] theorem loud_makeFunc {g : Fn} {c1 c2 : Array Operand} : loudOp L (.makeFunc g c1 c2) = false := rfl
@[simp ↓] theorem loud_store : loudOp L (.store t x y) = true := rfl
@[simp ↓] theorem loud_append {args : Array Operand} {ts : Array TypeId} : loudOp L (.call ⟨.builtin .append, args, ts⟩) = true := rfl
@[simp ↓] theorem loud_len {args : Array Operand} {ts : Array TypeId} : loudOp L (.call ⟨.builtin .len, args, ts⟩) = false := rfl
@[simp ↓] theorem loud_min {args : Array Operand} {ts : Array TypeId} : loudOp L (.call ⟨.builtin .min, args, ts⟩) = false := rfl
@[simp ↓] theorem loud_max {args : Array Operand} {ts : Array TypeId} : loudOp L (.call ⟨.builtin .max, args, ts⟩) = false := rfl
@[simp ↓] theorem loud_call {g : FuncId} {args : Array Operand} {ts : Array TypeId} : loudOp L (.call ⟨.value (.func g), args, ts⟩) = L g := rfl
@[simp ↓] theorem loud_callt {g : Tmp} {args : Array Operand} {ts : Array TypeId} : loudOp L (.call ⟨.value (.tmp g), args, ts⟩) = false := rfl
def sameH (x : Option (Value × LH)) (H : LH) : Option (Value × LH) := x.map fun r => (r.1, H)
@[simp] theorem sameH_some {v : Value} {H1 : LH} : sameH (some (v, H1)) H = some (v, H) := rfl
@[simp] theorem sameH_none : sameH none H = none := rfl
@[simp ↓] theorem lmixx_len {args : List Operand} {ts : List TypeId} : lmixx P T (.call ⟨.builtin .len, ⟨args⟩, ⟨ts⟩⟩) fr H0 H = sameH (lbuiltin P .len ts (args.map (ev fr)) H) H := rfl
@[simp ↓] theorem lmixx_min {args : List Operand} {ts : List TypeId} : lmixx P T (.call ⟨.builtin .min, ⟨args⟩, ⟨ts⟩⟩) fr H0 H = sameH (lbuiltin P .min ts (args.map (ev fr)) H) H := rfl
@[simp ↓] theorem lmixx_max {args : List Operand} {ts : List TypeId} : lmixx P T (.call ⟨.builtin .max, ⟨args⟩, ⟨ts⟩⟩) fr H0 H = sameH (lbuiltin P .max ts (args.map (ev fr)) H) H := rfl
/-- a call in an open order: of numbers and texts, or ahead of all new blocks -/
def mcall (b : Bool) (x : Option (Value × LH)) (H : LH) : Option (Value × LH) := match b, x with | true, some (v, _) => if flatB v then some (v, H) else none | _, _ => none
@[simp] theorem mcall_some {v : Value} {H1 : LH} (h : flatB v = true) : mcall true (some (v, H1)) H = some (v, H) := by simp [mcall, h]
@[simp] theorem mcall_none {b : Bool} : mcall b none H = none := by cases b <;> rfl
@[congr] theorem mcall_congr {b b' : Bool} {x x' : Option (Value × LH)} (h1 : b = b') (h2 : x = x') : mcall b x H = mcall b' x' H := by rw [h1, h2]
def flatL : List Value → Bool
  | [] => true
  | v :: l => flatB v && flatL l
@[simp] theorem flatL_nil : flatL [] = true := rfl
@[simp] theorem flatL_cons {v : Value} {l : List Value} : flatL (v :: l) = (flatB v && flatL l) := rfl
theorem flatL_eq : ∀ l : List Value, l.all flatB = flatL l
  | [] => rfl
  | v :: l => by simp only [List.all_cons, flatL, flatL_eq l]
def lowH (H0 H : LH) (f : Value) (args : List Value) : Bool := H.n == H0.n || (flatB f && flatL args)
@[simp] theorem lowH_same {f : Value} {args : List Value} : lowH H H f args = true := by simp [lowH]
@[simp] theorem lowH_flat {f : Value} {args : List Value} (h1 : flatB f = true) (h2 : flatL args = true) : lowH H0 H f args = true := by simp [lowH, h1, h2]
@[simp] theorem flat_fn {g : FuncId} : flatB (.func (.func g) #[] #[]) = true := rfl
@[simp ↓] theorem lmixx_call {f : Operand} {args : List Operand} {ts : Array TypeId} : lmixx P T (.call ⟨.value f, ⟨args⟩, ts⟩) fr H0 H = mcall (lowH H0 H (ev fr f) (args.map (ev fr))) (lcallee P T (ev fr f) (args.map (ev fr)) H0.ro) H := by
  show (if (H.n == H0.n || (flatB (ev fr f) && (args.map (ev fr)).all flatB)) = true then (match lcallee P T (ev fr f) (args.map (ev fr)) H0.ro with | some (v, _) => if flatB v then some v else none | none => none).map (fun v => (v, H)) else none) = _
  rw [flatL_eq]
  unfold lowH mcall
  cases (H.n == H0.n || (flatB (ev fr f) && flatL (args.map (ev fr)))) with
  | false => rfl
  | true =>
    rw [if_pos rfl]
    cases lcallee P T (ev fr f) (args.map (ev fr)) H0.ro with
    | none => rfl
    | some x =>
      obtain ⟨v, H1⟩ := x
      simp only
      split <;> rfl
end
end Go.Lg
