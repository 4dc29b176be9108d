/-
  The plain law of layer 27: the machine that reads JSON byte by byte comes to what the reference, value within value, comes to. No program in sight.
-/
set_option linter.unusedSimpArgs false
set_option linter.unusedVariables false
namespace Tg.Json

/-- bytes that part -/
def white (b : UInt8) : Bool := b == 32 || b == 9 || b == 10 || b == 13
def digit (b : UInt8) : Bool := 48 ≤ b && b ≤ 57
def hex (b : UInt8) : Bool := digit b || (97 ≤ b && b ≤ 102) || (65 ≤ b && b ≤ 70)
def esc (b : UInt8) : Bool := b == 34 || b == 92 || b == 47 || b == 98 || b == 102 || b == 110 || b == 114 || b == 116

/-- the machine of the program -/
structure M where
  depth : Nat
  stack : List UInt8
  pos : Nat
  key : Bool
  rest : List UInt8
  hex : Nat
  begun : Bool
  state : Nat
  place : Int
  seen : Nat

def M.start (d : Nat) : M := ⟨d, [], 0, false, [], 0, false, 1, -1, 0⟩

def M.top (m : M) : UInt8 := m.stack.getLast?.getD 0
def M.fail (m : M) (s : Nat) : M := { m with state := s, place := m.seen }
def M.push (m : M) (b : UInt8) (p : Nat) : M := if m.stack.length = m.depth then m.fail 3 else { m with stack := m.stack ++ [b], pos := p }
def M.pop (m : M) : M := { m with stack := m.stack.dropLast, pos := 5 }
def M.first (m : M) (b : UInt8) : M :=
  if b = 91 then m.push b 1
  else if b = 123 then m.push b 3
  else if b = 34 then { m with pos := 6, key := false }
  else if b = 45 then { m with pos := 10 }
  else if b = 48 then { m with pos := 11 }
  else if digit b then { m with pos := 12 }
  else if b = 116 then { m with pos := 9, rest := [114, 117, 101] }
  else if b = 102 then { m with pos := 9, rest := [97, 108, 115, 101] }
  else if b = 110 then { m with pos := 9, rest := [117, 108, 108] }
  else m.fail 0
def M.after (m : M) (b : UInt8) : M :=
  let m := { m with pos := 5 }
  if white b then m
  else if b = 44 ∧ m.top = 91 then { m with pos := 0 }
  else if b = 44 ∧ m.top = 123 then { m with pos := 2 }
  else if (b = 93 ∧ m.top = 91) ∨ (b = 125 ∧ m.top = 123) then m.pop
  else m.fail 0
def M.inText (m : M) (b : UInt8) : M :=
  if b = 34 then (if m.key then { m with pos := 4 } else { m with pos := 5 })
  else if b = 92 then { m with pos := 7 }
  else if b < 32 then m.fail 0
  else m
def M.inSlash (m : M) (b : UInt8) : M :=
  if b = 117 then { m with pos := 8, hex := 4 }
  else if esc b then { m with pos := 6 }
  else m.fail 0
def M.inUnicode (m : M) (b : UInt8) : M :=
  if Json.hex b then (if m.hex - 1 = 0 then { m with pos := 6, hex := m.hex - 1 } else { m with hex := m.hex - 1 })
  else m.fail 0
def M.inWord (m : M) (b : UInt8) : M :=
  if m.rest.head? = some b then (if m.rest.tail = [] then { m with rest := m.rest.tail, pos := 5 } else { m with rest := m.rest.tail })
  else m.fail 0
def ended (p : Nat) : Bool := p == 11 || p == 12 || p == 14 || p == 17
def isE (b : UInt8) : Bool := b == 101 || b == 69
def M.inNumber (m : M) (b : UInt8) : M :=
  if m.pos = 10 ∧ b = 48 then { m with pos := 11 }
  else if (m.pos = 10 ∨ m.pos = 12) ∧ digit b then { m with pos := 12 }
  else if (m.pos = 13 ∨ m.pos = 14) ∧ digit b then { m with pos := 14 }
  else if (m.pos = 15 ∨ m.pos = 16 ∨ m.pos = 17) ∧ digit b then { m with pos := 17 }
  else if m.pos = 15 ∧ (b = 43 ∨ b = 45) then { m with pos := 16 }
  else if (m.pos = 11 ∨ m.pos = 12) ∧ b = 46 then { m with pos := 13 }
  else if (m.pos = 11 ∨ m.pos = 12 ∨ m.pos = 14) ∧ isE b then { m with pos := 15 }
  else if ended m.pos then m.after b
  else m.fail 0
def M.names (m : M) (b : UInt8) : M :=
  if white b then m
  else if b = 34 then { m with pos := 6, key := true }
  else if b = 125 ∧ m.pos = 3 then m.pop
  else m.fail 0
def M.byte (m : M) (b : UInt8) : M :=
  if m.pos = 0 ∨ m.pos = 1 then
    (if white b then m else if b = 93 ∧ m.pos = 1 then m.pop else m.first b)
  else if m.pos = 2 ∨ m.pos = 3 then m.names b
  else if m.pos = 4 then (if white b then m else if b = 58 then { m with pos := 0 } else m.fail 0)
  else if m.pos = 5 then m.after b
  else if m.pos = 6 then m.inText b
  else if m.pos = 7 then m.inSlash b
  else if m.pos = 8 then m.inUnicode b
  else if m.pos = 9 then m.inWord b
  else m.inNumber b
def M.tell (m : M) : Nat := if m.state = 1 ∧ m.stack = [] ∧ (m.pos = 5 ∨ ended m.pos) then 2 else m.state
def M.feed1 (m : M) (b : UInt8) : M :=
  let m := { m with begun := m.begun || !white b }
  let m := if m.state = 1 then m.byte b else m
  { m with seen := m.seen + 1 }
def M.feed (m : M) (l : List UInt8) : M := l.foldl M.feed1 m

/-! The reference: what is read off the rest of the bytes: how many, and how it is: 0 bad, 1 open, 3 deep, 4 well. -/

def skip : List UInt8 → Nat
  | [] => 0
  | b :: r => if white b then skip r + 1 else 0
def word : List UInt8 → List UInt8 → Nat × Nat
  | _, [] => (0, 4)
  | [], _ :: _ => (0, 1)
  | b :: r, c :: w => if b = c then ((word r w).1 + 1, (word r w).2) else (0, 0)
def add (n : Nat) (x : Nat × Nat) : Nat × Nat := (x.1 + n, x.2)
/-- a text: 0 within it, 1 behind a backslash, 2 to 5: so many digits and one come -/
def quote : Nat → List UInt8 → Nat × Nat
  | _, [] => (0, 1)
  | k, b :: r =>
    if k = 0 then
      (if b < 32 then (0, 0) else if b = 34 then (1, 4) else if b = 92 then add 1 (quote 1 r) else add 1 (quote 0 r))
    else if k = 1 then
      (if b = 117 then add 1 (quote 5 r) else if esc b then add 1 (quote 0 r) else (0, 0))
    else (if hex b then add 1 (quote (if k = 2 then 0 else k - 1) r) else (0, 0))
/-- a number, from where it stands -/
def number : Nat → List UInt8 → Nat × Nat
  | p, [] => if ended p then (0, 4) else (0, 1)
  | p, b :: r =>
    if p = 10 ∧ b = 48 then add 1 (number 11 r)
    else if (p = 10 ∨ p = 12) ∧ digit b then add 1 (number 12 r)
    else if (p = 13 ∨ p = 14) ∧ digit b then add 1 (number 14 r)
    else if (p = 15 ∨ p = 16 ∨ p = 17) ∧ digit b then add 1 (number 17 r)
    else if p = 15 ∧ (b = 43 ∨ b = 45) then add 1 (number 16 r)
    else if (p = 11 ∨ p = 12) ∧ b = 46 then add 1 (number 13 r)
    else if (p = 11 ∨ p = 12 ∨ p = 14) ∧ isE b then add 1 (number 15 r)
    else if ended p then (0, 4)
    else (0, 0)
/-- a name and its colon, or nothing -/
def named : Bool → List UInt8 → Nat × Nat
  | false, _ => (0, 4)
  | true, [] => (0, 1)
  | true, b :: r =>
    if b ≠ 34 then (0, 0)
    else if (quote 0 r).2 ≠ 4 then add 1 (quote 0 r)
    else
      let n := (quote 0 r).1
      let k := skip (r.drop n)
      match (r.drop n).drop k with
      | [] => (1 + n + k, 1)
      | c :: _ => if c ≠ 58 then (1 + n + k, 0) else (1 + n + k + 1, 4)
def close (o : Bool) : UInt8 := if o then 125 else 93
/-- what comes behind an element -/
def behindElem (o : Bool) (next : List UInt8 → Nat × Nat) (l : List UInt8) : Nat × Nat :=
  match l.drop (skip l) with
  | [] => (skip l, 1)
  | c :: q => if c = close o then (skip l + 1, 4) else if c ≠ 44 then (skip l, 0) else add (skip l + 1) (next q)
/-- an array or an object, what opens it gone by -/
def list (val : List UInt8 → Nat × Nat) (o : Bool) : Nat → Bool → List UInt8 → Nat × Nat
  | 0, _, _ => (0, 1)
  | f + 1, one, l =>
    match l.drop (skip l) with
    | [] => (skip l, 1)
    | b :: r =>
      if one ∧ b = close o then (skip l + 1, 4)
      else add (skip l)
        (if (named o (b :: r)).2 ≠ 4 then named o (b :: r)
         else add (named o (b :: r)).1
          (let l1 := (b :: r).drop (named o (b :: r)).1
           if (val l1).2 ≠ 4 then val l1
           else add (val l1).1 (behindElem o (list val o f false) (l1.drop (val l1).1))))
def value : Nat → List UInt8 → Nat × Nat
  | 0, l =>
    match l.drop (skip l) with
    | [] => (skip l, 1)
    | b :: r =>
      if b = 91 ∨ b = 123 then (skip l, 3)
      else add (skip l) (flat b r)
  | d + 1, l =>
    match l.drop (skip l) with
    | [] => (skip l, 1)
    | b :: r =>
      if b = 91 ∨ b = 123 then add (skip l + 1) (list (value d) (b == 123) (r.length + 1) true r)
      else add (skip l) (flat b r)
where flat (b : UInt8) (r : List UInt8) : Nat × Nat :=
  if b = 34 then add 1 (quote 0 r)
  else if b = 45 then add 1 (number 10 r)
  else if digit b then number 10 (b :: r)
  else if b = 116 then word (b :: r) [116, 114, 117, 101]
  else if b = 102 then word (b :: r) [102, 97, 108, 115, 101]
  else if b = 110 then word (b :: r) [110, 117, 108, 108]
  else (0, 0)
/-- the state of all, and the place of the first byte that can't be -/
def whole (l : List UInt8) (d : Nat) : Nat × Int :=
  let x := value d l
  if x.2 = 1 then (1, -1)
  else if x.2 ≠ 4 then (x.2, x.1)
  else
    let k := skip (l.drop x.1)
    if x.1 + k < l.length then (0, (x.1 + k : Nat)) else (2, -1)

/-! The law. -/
theorem feed_nil (m : M) : m.feed [] = m := rfl
theorem feed_cons (m : M) (b : UInt8) (r : List UInt8) : m.feed (b :: r) = (m.feed1 b).feed r := rfl
theorem feed_append (m : M) (l k : List UInt8) : m.feed (l ++ k) = (m.feed l).feed k := by simp [M.feed, List.foldl_append]

theorem feed_stuck (l : List UInt8) : ∀ m : M, m.state ≠ 1 → (m.feed l).state = m.state ∧ (m.feed l).place = m.place := by
  induction l with
  | nil => intro m _; exact ⟨rfl, rfl⟩
  | cons b r ih =>
    intro m h
    have := ih (m.feed1 b) (by simp [M.feed1, h])
    rw [feed_cons]
    simp only [M.feed1, h] at this ⊢
    exact this

theorem seen_first (m : M) (b : UInt8) : (m.first b).seen = m.seen := by
  unfold M.first M.push M.fail; simp only [apply_ite M.seen, ite_self]
theorem seen_after (m : M) (b : UInt8) : (m.after b).seen = m.seen := by
  unfold M.after M.pop M.fail; simp only [apply_ite M.seen, ite_self]
theorem seen_inNumber (m : M) (b : UInt8) : (m.inNumber b).seen = m.seen := by
  unfold M.inNumber M.fail; simp only [apply_ite M.seen, ite_self, seen_after]
theorem seen_byte (m : M) (b : UInt8) : (m.byte b).seen = m.seen := by
  unfold M.byte M.names M.inText M.inSlash M.inUnicode M.inWord M.pop M.fail
  simp only [apply_ite M.seen, ite_self, seen_after, seen_first, seen_inNumber]
theorem seen_feed1 (m : M) (b : UInt8) : (m.feed1 b).seen = m.seen + 1 := by
  unfold M.feed1; simp only; split
  · rw [seen_byte]
  · rfl

/-- what has begun -/
def M.beg (m : M) (b : UInt8) : M := { m with begun := m.begun || !white b }
theorem feed1_open {m : M} {b : UInt8} (h : m.state = 1) : m.feed1 b = { (m.beg b).byte b with seen := m.seen + 1 } := by
  unfold M.feed1; simp only; rw [if_pos h]
  show _ = ({ (m.beg b).byte b with seen := (m.beg b).seen + 1 } : M)
  rw [← seen_byte (m.beg b) b]; rfl

/-- what reading comes to, and where the machine then stands -/
def Goes (m : M) (l : List UInt8) (x : Nat × Nat) (ok : M → List UInt8 → Prop) : Prop :=
  (x.2 = 4 ∧ x.1 ≤ l.length ∧ ∃ m' : M, m.feed l = m'.feed (l.drop x.1) ∧ m'.depth = m.depth ∧ m'.state = 1 ∧ m'.place = m.place ∧ m'.seen = m.seen + x.1 ∧ ok m' (l.drop x.1)) ∨
  (x.2 = 1 ∧ (m.feed l).tell = 1 ∧ (m.feed l).place = m.place) ∨
  ((x.2 = 0 ∨ x.2 = 3) ∧ (m.feed l).state = x.2 ∧ (m.feed l).place = ((m.seen + x.1 : Nat) : Int) ∧ x.1 < l.length)

theorem Goes.seq {m : M} {l : List UInt8} {n : Nat} {y : Nat × Nat} {ok ok' : M → List UInt8 → Prop} (h : Goes m l (n, 4) ok)
    (k : ∀ m' : M, m'.depth = m.depth → m'.state = 1 → m'.place = m.place → ok m' (l.drop n) → Goes m' (l.drop n) y ok') : Goes m l (add n y) ok' := by
  rcases h with ⟨_, hn, m', hf, hd, hs, hp, he, ho⟩ | ⟨h, _⟩ | ⟨h, _⟩
  · simp only at hn hf he ho
    rcases k m' hd hs hp ho with ⟨h4, hn', m'', hf', hd', hs', hp', he', ho'⟩ | ⟨h1, ht, hp'⟩ | ⟨h0, hs', hp', hl⟩
    · refine .inl ⟨h4, ?_, m'', ?_, hd'.trans hd, hs', hp'.trans hp, ?_, ?_⟩
      · simp only [add]; simp at hn'; omega
      · simp only [add]; rw [hf, hf', List.drop_drop, Nat.add_comm]
      · simp only [add]; omega
      · simp only [add]; rw [List.drop_drop, Nat.add_comm] at ho'; exact ho'
    · exact .inr (.inl ⟨h1, by rw [hf]; exact ht, by rw [hf, hp', hp]⟩)
    · refine .inr (.inr ⟨h0, by rw [hf]; exact hs', ?_, ?_⟩)
      · rw [hf, hp', he]; simp only [add]; congr 1; omega
      · simp only [add]; simp at hl; omega
  · simp at h
  · simp at h
theorem Goes.one {m : M} {b : UInt8} {r : List UInt8} {y : Nat × Nat} {ok : M → List UInt8 → Prop}
    (hd : (m.feed1 b).depth = m.depth) (hp : (m.feed1 b).place = m.place) (hs : (m.feed1 b).state = 1)
    (k : Goes (m.feed1 b) r y ok) : Goes m (b :: r) (add 1 y) ok := by
  have : Goes m (b :: r) (1, 4) (fun m' _ => m' = m.feed1 b) :=
    .inl ⟨rfl, by simp, m.feed1 b, by simp [feed_cons], hd, hs, hp, seen_feed1 m b, rfl⟩
  refine this.seq (fun m' _ _ _ h => ?_)
  subst h; exact k
theorem Goes.bad {m : M} {b : UInt8} {r : List UInt8} {s : Nat} {ok : M → List UInt8 → Prop} (hs : s = 0 ∨ s = 3)
    (h : (m.feed1 b).state = s) (hp : (m.feed1 b).place = m.seen) : Goes m (b :: r) (0, s) ok := by
  refine .inr (.inr ⟨hs, ?_, ?_, by simp⟩) <;> rw [feed_cons]
  · rw [(feed_stuck r _ (by rw [h]; omega)).1, h]
  · rw [(feed_stuck r _ (by rw [h]; omega)).2, hp]; simp
theorem Goes.here {m : M} {l : List UInt8} {ok : M → List UInt8 → Prop} (h1 : m.state = 1) (h : ok m l) : Goes m l (0, 4) ok :=
  .inl ⟨rfl, by simp, m, by simp, rfl, h1, rfl, by simp, by simpa using h⟩
theorem Goes.mono {m : M} {l : List UInt8} {x : Nat × Nat} {ok ok' : M → List UInt8 → Prop} (h : Goes m l x ok) (k : ∀ m' l', ok m' l' → ok' m' l') : Goes m l x ok' := by
  rcases h with ⟨h4, hn, m', hf, hd, hs, hp, he, ho⟩ | h | h
  · exact .inl ⟨h4, hn, m', hf, hd, hs, hp, he, k _ _ ho⟩
  · exact .inr (.inl h)
  · exact .inr (.inr h)

/-- where texts stand -/
def tpos (k : Nat) : Nat := if k = 0 then 6 else if k = 1 then 7 else 8
theorem quote_goes (l : List UInt8) : ∀ (k : Nat) (m : M), m.state = 1 → m.pos = tpos k → (2 ≤ k → m.hex = k - 1) → k ≤ 5 →
    Goes m l (quote k l) (fun m' _ => m'.stack = m.stack ∧ m'.pos = if m.key then 4 else 5) := by
  induction l with
  | nil =>
    intro k m h1 hp _ _
    refine .inr (.inl ⟨by simp [quote], ?_, rfl⟩)
    show m.tell = 1
    unfold M.tell
    rw [if_neg, h1]
    rw [hp]; unfold tpos; rintro ⟨_, _, h⟩; revert h; split <;> (try split) <;> decide
  | cons b r ih =>
    intro k m h1 hp hh hk
    unfold quote
    by_cases k0 : k = 0
    · subst k0
      simp only [tpos, if_true] at hp
      rw [if_pos rfl]
      by_cases c1 : b < 32
      · rw [if_pos c1]
        have c2 : b ≠ 34 := by rintro rfl; revert c1; decide
        have c3 : b ≠ 92 := by rintro rfl; revert c1; decide
        exact Goes.bad (.inl rfl) (by simp [M.feed1, h1, M.byte, hp, M.inText, c1, c2, c3, M.fail]) (by simp [M.feed1, h1, M.byte, hp, M.inText, c1, c2, c3, M.fail])
      · rw [if_neg c1]
        by_cases c2 : b = 34
        · rw [if_pos c2]
          have : (1, 4) = add 1 (0, 4) := rfl
          rw [this]
          refine Goes.one ?_ ?_ ?_ (Goes.here ?_ ⟨?_, ?_⟩) <;> cases hkey : m.key <;> simp [M.feed1, h1, M.byte, hp, M.inText, c2, hkey]
        · rw [if_neg c2]
          by_cases c3 : b = 92
          · rw [if_pos c3]
            refine Goes.one ?_ ?_ ?_ ((ih 1 _ ?_ ?_ (by omega) (by omega)).mono ?_)
            all_goals simp [M.feed1, h1, M.byte, hp, M.inText, c3, tpos]
          · rw [if_neg c3]
            refine Goes.one ?_ ?_ ?_ ((ih 0 _ ?_ ?_ (by omega) (by omega)).mono ?_)
            all_goals simp [M.feed1, h1, M.byte, hp, M.inText, c3, c2, c1, tpos]
    · rw [if_neg k0]
      by_cases k1 : k = 1
      · subst k1
        simp only [tpos] at hp
        rw [if_pos rfl]
        by_cases c1 : b = 117
        · rw [if_pos c1]
          refine Goes.one ?_ ?_ ?_ ((ih 5 _ ?_ ?_ (fun _ => ?_) (by omega)).mono ?_)
          all_goals simp [M.feed1, h1, M.byte, hp, M.inSlash, c1, tpos]
        · rw [if_neg c1]
          by_cases c2 : esc b
          · rw [if_pos c2]
            refine Goes.one ?_ ?_ ?_ ((ih 0 _ ?_ ?_ (fun _ => ?_) (by omega)).mono ?_)
            all_goals first | omega | simp [M.feed1, h1, M.byte, hp, M.inSlash, c1, c2, tpos]
          · rw [if_neg c2]
            exact Goes.bad (.inl rfl) (by simp [M.feed1, h1, M.byte, hp, M.inSlash, c1, c2, M.fail]) (by simp [M.feed1, h1, M.byte, hp, M.inSlash, c1, c2, M.fail])
      · rw [if_neg k1]
        have hx := hh (by omega)
        have hp8 : m.pos = 8 := by rw [hp]; simp [tpos, k0, k1]
        by_cases c1 : hex b
        · rw [if_pos c1]
          by_cases k2 : k = 2
          · subst k2
            rw [if_pos rfl]
            refine Goes.one ?_ ?_ ?_ ((ih 0 _ ?_ ?_ (fun _ => ?_) (by omega)).mono ?_)
            all_goals first | omega | simp [M.feed1, h1, M.byte, hp8, M.inUnicode, c1, hx, tpos]
          · rw [if_neg k2]
            have e1 : ¬ (k - 1 - 1 = 0) := by omega
            have e2 : ¬ (k - 1 = 0) := by omega
            have e3 : ¬ (k - 1 = 1) := by omega
            refine Goes.one ?_ ?_ ?_ ((ih (k - 1) _ ?_ ?_ (fun _ => ?_) (by omega)).mono ?_)
            all_goals simp [M.feed1, h1, M.byte, hp8, M.inUnicode, c1, hx, tpos, e1, e2, e3]
        · rw [if_neg c1]
          exact Goes.bad (.inl rfl) (by simp [M.feed1, h1, M.byte, hp8, M.inUnicode, c1, M.fail]) (by simp [M.feed1, h1, M.byte, hp8, M.inUnicode, c1, M.fail])

theorem number_goes (l : List UInt8) : ∀ (p : Nat) (m : M), m.state = 1 → m.pos = p → 10 ≤ p → p ≤ 17 →
    Goes m l (number p l) (fun m' l' => m'.stack = m.stack ∧ ended m'.pos = true ∧ ∀ b r, l' = b :: r → (m'.beg b).byte b = (m'.beg b).after b) := by
  induction l with
  | nil =>
    intro p m h1 hp _ _
    unfold number
    by_cases c : ended p = true
    · rw [if_pos c]
      exact Goes.here h1 ⟨rfl, by rw [hp]; exact c, fun b r h => by simp at h⟩
    · rw [if_neg c]
      refine .inr (.inl ⟨rfl, ?_, rfl⟩)
      show m.tell = 1
      unfold M.tell
      rw [if_neg, h1]
      rintro ⟨_, _, h | h⟩
      · omega
      · rw [hp] at h; exact c h
  | cons b r ih =>
    intro p m h1 hp h10 h17
    have hp' : (m.beg b).pos = p := hp
    have hb' : (m.beg b).byte b = (m.beg b).inNumber b := by
      unfold M.byte
      rw [if_neg (by omega), if_neg (by omega), if_neg (by omega), if_neg (by omega), if_neg (by omega), if_neg (by omega), if_neg (by omega), if_neg (by omega)]
    have go : ∀ q : Nat, 10 ≤ q → q ≤ 17 → (m.beg b).inNumber b = { m.beg b with pos := q } → 
        Goes m (b :: r) (add 1 (number q r)) (fun m' l' => m'.stack = m.stack ∧ ended m'.pos = true ∧ ∀ b r, l' = b :: r → (m'.beg b).byte b = (m'.beg b).after b) := by
      intro q hq hq' e
      refine Goes.one ?_ ?_ ?_ ((ih q _ ?_ ?_ hq hq').mono ?_)
      all_goals rw [feed1_open h1, hb', e]
      all_goals first | exact h1 | exact fun _ _ h => h | rfl
    unfold number
    by_cases c1 : p = 10 ∧ b = 48
    · rw [if_pos c1]; exact go 11 (by omega) (by omega) (by unfold M.inNumber; rw [hp', if_pos c1])
    rw [if_neg c1]
    by_cases c2 : (p = 10 ∨ p = 12) ∧ digit b
    · rw [if_pos c2]; exact go 12 (by omega) (by omega) (by unfold M.inNumber; rw [hp', if_neg c1, if_pos c2])
    rw [if_neg c2]
    by_cases c3 : (p = 13 ∨ p = 14) ∧ digit b
    · rw [if_pos c3]; exact go 14 (by omega) (by omega) (by unfold M.inNumber; rw [hp', if_neg c1, if_neg c2, if_pos c3])
    rw [if_neg c3]
    by_cases c4 : (p = 15 ∨ p = 16 ∨ p = 17) ∧ digit b
    · rw [if_pos c4]; exact go 17 (by omega) (by omega) (by unfold M.inNumber; rw [hp', if_neg c1, if_neg c2, if_neg c3, if_pos c4])
    rw [if_neg c4]
    by_cases c5 : p = 15 ∧ (b = 43 ∨ b = 45)
    · rw [if_pos c5]; exact go 16 (by omega) (by omega) (by unfold M.inNumber; rw [hp', if_neg c1, if_neg c2, if_neg c3, if_neg c4, if_pos c5])
    rw [if_neg c5]
    by_cases c6 : (p = 11 ∨ p = 12) ∧ b = 46
    · rw [if_pos c6]; exact go 13 (by omega) (by omega) (by unfold M.inNumber; rw [hp', if_neg c1, if_neg c2, if_neg c3, if_neg c4, if_neg c5, if_pos c6])
    rw [if_neg c6]
    by_cases c7 : (p = 11 ∨ p = 12 ∨ p = 14) ∧ isE b
    · rw [if_pos c7]; exact go 15 (by omega) (by omega) (by unfold M.inNumber; rw [hp', if_neg c1, if_neg c2, if_neg c3, if_neg c4, if_neg c5, if_neg c6, if_pos c7])
    rw [if_neg c7]
    by_cases c8 : ended p = true
    · rw [if_pos c8]
      refine Goes.here h1 ⟨rfl, by rw [hp]; exact c8, fun b' r' e => ?_⟩
      injection e with e1 e2
      subst e1
      rw [hb']; unfold M.inNumber; rw [hp', if_neg c1, if_neg c2, if_neg c3, if_neg c4, if_neg c5, if_neg c6, if_neg c7, if_pos c8]
    · rw [if_neg c8]
      have e : (m.beg b).inNumber b = (m.beg b).fail 0 := by
        unfold M.inNumber; rw [hp', if_neg c1, if_neg c2, if_neg c3, if_neg c4, if_neg c5, if_neg c6, if_neg c7, if_neg c8]
      exact Goes.bad (.inl rfl) (by rw [feed1_open h1, hb', e]; rfl) (by rw [feed1_open h1, hb', e]; rfl)

/-- the rest of a word: not empty -/
theorem word_goes (l : List UInt8) : ∀ (w : List UInt8) (m : M), m.state = 1 → m.pos = 9 → m.rest = w → w ≠ [] →
    Goes m l (word l w) (fun m' _ => m'.stack = m.stack ∧ m'.pos = 5) := by
  induction l with
  | nil =>
    intro w m h1 hp hr hw
    obtain ⟨c, w', rfl⟩ := List.exists_cons_of_ne_nil hw
    refine .inr (.inl ⟨rfl, ?_, rfl⟩)
    show m.tell = 1
    unfold M.tell
    rw [if_neg, h1]
    rw [hp]; rintro ⟨_, _, h⟩; revert h; decide
  | cons b r ih =>
    intro w m h1 hp hr hw
    obtain ⟨c, w', rfl⟩ := List.exists_cons_of_ne_nil hw
    unfold word
    by_cases e : b = c
    · subst e
      rw [if_pos rfl]
      by_cases hw' : w' = []
      · subst hw'
        have : ((word r []).1 + 1, (word r []).2) = add 1 (0, 4) := by cases r <;> rfl
        rw [this]
        refine Goes.one ?_ ?_ ?_ (Goes.here ?_ ⟨?_, ?_⟩)
        all_goals simp [M.feed1, h1, M.byte, hp, M.inWord, hr]
      · refine Goes.one (y := word r w') ?_ ?_ ?_ ((ih w' _ ?_ ?_ ?_ hw').mono ?_)
        all_goals simp [M.feed1, h1, M.byte, hp, M.inWord, hr, hw']
    · rw [if_neg e]
      have e' : ¬ c = b := fun h => e h.symm
      exact Goes.bad (.inl rfl) (by simp [M.feed1, h1, M.byte, hp, M.inWord, hr, e', M.fail]) (by simp [M.feed1, h1, M.byte, hp, M.inWord, hr, e', M.fail])

/-- blanks where nothing turns by them -/
theorem skip_le (l : List UInt8) : skip l ≤ l.length := by
  induction l with
  | nil => simp [skip]
  | cons b r ih => unfold skip; split <;> simp <;> omega
theorem skip_head (l : List UInt8) (b : UInt8) (r : List UInt8) (h : l.drop (skip l) = b :: r) : white b = false := by
  induction l with
  | nil => simp [skip] at h
  | cons c q ih =>
    unfold skip at h
    by_cases e : white c = true
    · rw [if_pos e] at h; exact ih h
    · rw [if_neg e] at h; simp at h; rw [← h.1]; simpa using e
theorem skip_goes (l : List UInt8) : ∀ (m : M), m.state = 1 → (∀ n : M, n.pos = m.pos → ∀ b, white b = true → n.byte b = n) →
    Goes m l (skip l, 4) (fun m' _ => m'.stack = m.stack ∧ m'.pos = m.pos) := by
  induction l with
  | nil => intro m h1 _; exact Goes.here h1 ⟨rfl, rfl⟩
  | cons b r ih =>
    intro m h1 hw
    unfold skip
    by_cases e : white b = true
    · rw [if_pos e]
      have hb := hw (m.beg b) rfl b e
      refine Goes.one (y := (skip r, 4)) ?_ ?_ ?_ ((ih _ ?_ ?_).mono ?_)
      all_goals rw [feed1_open h1, hb]
      all_goals first | exact h1 | exact hw | exact fun _ _ h => h | rfl
    · rw [if_neg e]; exact Goes.here h1 ⟨rfl, rfl⟩

def okB (st : List UInt8) (m : M) (l : List UInt8) : Prop :=
  m.stack = st ∧ (m.pos = 5 ∨ ended m.pos = true) ∧ ∀ b r, l = b :: r → (m.beg b).byte b = (m.beg b).after b
theorem okB_five {m : M} {l : List UInt8} (h : m.pos = 5) : okB m.stack m l := by
  refine ⟨rfl, .inl h, fun b r _ => ?_⟩
  have : (m.beg b).pos = 5 := h
  unfold M.byte
  rw [if_neg (by omega), if_neg (by omega), if_neg (by omega), if_pos this]
theorem okB_number {m m' : M} {l : List UInt8} (h : m'.stack = m.stack ∧ ended m'.pos = true ∧ ∀ b r, l = b :: r → (m'.beg b).byte b = (m'.beg b).after b) : okB m.stack m' l :=
  ⟨h.1, .inr h.2.1, h.2.2⟩
theorem okB_of {st : List UInt8} {m : M} {l : List UInt8} (h1 : m.stack = st) (h : m.pos = 5) : okB st m l := h1 ▸ okB_five h
theorem Goes.chok {m : M} {l : List UInt8} {x : Nat × Nat} {ok ok' : M → List UInt8 → Prop} (h : Goes m l x ok) (h4 : x.2 ≠ 4) : Goes m l x ok' := by
  rcases h with h | h | h
  · exact absurd h.1 h4
  · exact .inr (.inl h)
  · exact .inr (.inr h)
theorem Goes.open {m : M} {l : List UInt8} {n : Nat} {ok : M → List UInt8 → Prop} (h : m.tell = 1) (e : l = []) : Goes m l (n, 1) ok := by
  subst e; exact .inr (.inl ⟨rfl, h, rfl⟩)
/-- the second part is at hand where the first is gone by -/
theorem Goes.then {m : M} {l : List UInt8} {n : Nat} {ok : M → List UInt8 → Prop} {x : Nat × Nat} {ok' : M → List UInt8 → Prop} (h : Goes m l (n, 4) ok) (hx : x.1 = n + (x.1 - n))
    (k : ∀ m' : M, m'.depth = m.depth → m'.state = 1 → m'.place = m.place → ok m' (l.drop n) → Goes m' (l.drop n) (x.1 - n, x.2) ok') : Goes m l x ok' := by
  have := h.seq k
  have e : add n (x.1 - n, x.2) = x := by unfold add; ext <;> simp; omega
  rwa [e] at this

theorem after_white {n : M} (h : n.pos = 5) (b : UInt8) (hb : white b = true) : n.byte b = n := by
  unfold M.byte
  rw [if_neg (by omega), if_neg (by omega), if_neg (by omega), if_pos h]
  unfold M.after; rw [if_pos hb]; cases n; simp at h; simp [h]
theorem behind_goes {st : List UInt8} (l : List UInt8) (m : M) (h1 : m.state = 1) (h : okB st m l) : Goes m l (skip l, 4) (okB st) := by
  cases l with
  | nil => exact Goes.here h1 h
  | cons b r =>
    by_cases e : white b = true
    · have hb : (m.beg b).byte b = { m.beg b with pos := 5 } := by
        rw [h.2.2 b r rfl]; unfold M.after; rw [if_pos e]
      have : skip (b :: r) = skip r + 1 := by rw [skip, if_pos e]
      rw [this]
      refine Goes.one (y := (skip r, 4)) ?_ ?_ ?_ ((skip_goes r _ ?_ ?_).mono ?_)
      all_goals rw [feed1_open h1, hb]
      · rfl
      · rfl
      · exact h1
      · exact h1
      · exact fun n hn b hb => after_white hn b hb
      · rintro m' l' ⟨h2, h3⟩
        exact okB_of (h2.trans h.1) h3
    · have : skip (b :: r) = 0 := by rw [skip, if_neg e]
      rw [this]; exact Goes.here h1 h

def opn (o : Bool) : UInt8 := if o then 123 else 91
def lpos (o one : Bool) : Nat := if o then (if one then 3 else 2) else (if one then 1 else 0)
theorem top_opn {m : M} {st : List UInt8} {o : Bool} (h : m.stack = st ++ [opn o]) : m.top = opn o := by simp [M.top, h]

theorem named_goes {m : M} {b : UInt8} {r : List UInt8} (h1 : m.state = 1) (hp : m.pos = 2 ∨ m.pos = 3) (hw : white b = false) (h3 : m.pos = 3 → b ≠ 125) :
    Goes m (b :: r) (named true (b :: r)) (fun m' _ => m'.stack = m.stack ∧ m'.pos = 0) := by
  have hb : (m.beg b).byte b = (m.beg b).names b := by
    have : (m.beg b).pos = m.pos := rfl
    unfold M.byte; rw [if_neg (by omega), if_pos (by omega)]
  by_cases c : b = 34
  · have hb2 : (m.beg b).byte b = { m.beg b with pos := 6, key := true } := by rw [hb]; unfold M.names; rw [if_neg (by simp [hw]), if_pos c]
    have hq : Goes m (b :: r) (add 1 (quote 0 r)) (fun m' _ => m'.stack = m.stack ∧ m'.pos = 4) := by
      refine Goes.one ?_ ?_ ?_ ((quote_goes r 0 _ ?_ ?_ ?_ ?_).mono ?_)
      all_goals try rw [feed1_open h1, hb2]
      all_goals first | rfl | exact h1 | exact fun _ _ h => h | (intro h; omega) | omega
    simp only [named]
    rw [if_neg (by simp [c])]
    by_cases q : (quote 0 r).2 = 4
    · rw [if_neg (by simp [q])]
      have eq : add 1 (quote 0 r) = (1 + (quote 0 r).1, 4) := by unfold add; rw [q, Nat.add_comm]
      rw [eq] at hq
      generalize hn : (quote 0 r).1 = n at *
      have hdrop : (b :: r).drop (1 + n) = r.drop n := by rw [Nat.add_comm]; rfl
      have hk : Goes m (b :: r) (1 + n + skip (r.drop n), 4) (fun m' _ => m'.stack = m.stack ∧ m'.pos = 4) := by
        have := hq.seq (y := (skip (r.drop n), 4)) (ok' := fun m' _ => m'.stack = m.stack ∧ m'.pos = 4) (fun m' _ hs _ ho => by
          rw [hdrop]
          refine (skip_goes (r.drop n) m' hs (fun k hk b hb => ?_)).mono (fun _ _ h => ⟨h.1.trans ho.1, h.2.trans ho.2⟩)
          unfold M.byte
          rw [if_neg (by omega), if_neg (by omega), if_pos (by omega), if_pos hb])
        simpa [add, Nat.add_comm] using this
      have hd2 : (b :: r).drop (1 + n + skip (r.drop n)) = (r.drop n).drop (skip (r.drop n)) := by rw [← List.drop_drop, hdrop]
      split
      · rename_i e
        refine hk.then (by simp) (fun m' _ hs _ ho => Goes.open ?_ (by rw [hd2]; exact e))
        unfold M.tell; rw [if_neg, hs]
        rw [ho.2]; rintro ⟨_, _, h⟩; revert h; decide
      · rename_i c' q' e
        have hwc := skip_head _ _ _ e
        have hpos : ∀ m' : M, m'.pos = 4 → (m'.beg c').byte c' = if c' = 58 then { m'.beg c' with pos := 0 } else (m'.beg c').fail 0 := by
          intro m' h
          have : (m'.beg c').pos = 4 := h
          unfold M.byte
          rw [if_neg (by omega), if_neg (by omega), if_pos this, if_neg (by simp [hwc])]
        by_cases c58 : c' = 58
        · rw [if_neg (by simp [c58])]
          refine hk.then (by simp) (fun m' _ hs _ ho => ?_)
          rw [hd2, e]
          have hbb := hpos m' ho.2
          rw [if_pos c58] at hbb
          have : ((1 + n + skip (r.drop n) + 1, 4).1 - (1 + n + skip (r.drop n)), (1 + n + skip (r.drop n) + 1, 4).2) = add 1 (0, 4) := by simp [add]
          rw [this]
          refine Goes.one ?_ ?_ ?_ (Goes.here ?_ ⟨?_, ?_⟩)
          all_goals rw [feed1_open hs, hbb]
          · rfl
          · rfl
          · exact hs
          · exact hs
          · exact ho.1
        · rw [if_pos c58]
          refine hk.then (by simp) (fun m' _ hs _ ho => ?_)
          rw [hd2, e]
          have hbb := hpos m' ho.2
          rw [if_neg c58] at hbb
          simp only [Nat.sub_self]
          exact Goes.bad (.inl rfl) (by rw [feed1_open hs, hbb]; rfl) (by rw [feed1_open hs, hbb]; rfl)
    · rw [if_pos q]; exact hq.chok (by simpa [add] using q)
  · simp only [named]
    rw [if_pos c]
    have hb2 : (m.beg b).byte b = (m.beg b).fail 0 := by
      rw [hb]; unfold M.names
      rw [if_neg (by simp [hw]), if_neg c, if_neg (fun h => h3 h.2 h.1)]
    exact Goes.bad (.inl rfl) (by rw [feed1_open h1, hb2]; rfl) (by rw [feed1_open h1, hb2]; rfl)

theorem tell_open {m : M} (h1 : m.state = 1) (h : m.stack ≠ []) : m.tell = 1 := by
  unfold M.tell; rw [if_neg (fun x => h x.2.1), h1]
theorem tell_open' {m : M} (h1 : m.state = 1) (h : m.pos ≤ 10) (h5 : m.pos ≠ 5) : m.tell = 1 := by
  unfold M.tell; rw [if_neg, h1]
  rintro ⟨_, _, x | x⟩
  · exact h5 x
  · unfold ended at x; simp at x; omega
theorem behindElem_goes {st : List UInt8} {o : Bool} {next : List UInt8 → Nat × Nat} {m : M} {l : List UInt8} (h1 : m.state = 1) (h : okB (st ++ [opn o]) m l)
    (hn : ∀ (c : UInt8) (q : List UInt8) (m' : M), l.drop (skip l) = c :: q → m'.state = 1 → m'.stack = st ++ [opn o] → m'.depth = m.depth → m'.pos = lpos o false → Goes m' q (next q) (okB st)) :
    Goes m l (behindElem o next l) (okB st) := by
  have hk := behind_goes l m h1 h
  unfold behindElem
  split
  · rename_i e
    refine hk.then (by simp) (fun m' _ hs _ ho => Goes.open ?_ e)
    exact tell_open hs (by rw [ho.1]; simp)
  · rename_i c q e
    have hw := skip_head _ _ _ e
    have key : ∀ m' : M, okB (st ++ [opn o]) m' (l.drop (skip l)) → (m'.beg c).byte c = if c = close o then { m'.beg c with stack := st, pos := 5 } else if c = 44 then { m'.beg c with pos := lpos o false } else ({ m'.beg c with pos := 5 } : M).fail 0 := by
      intro m' ho
      rw [ho.2.2 c q e]
      have ht : ({ m'.beg c with pos := 5 } : M).top = opn o := by
        have : ({ m'.beg c with pos := 5 } : M).stack = st ++ [opn o] := ho.1
        exact top_opn this
      have hst : (m'.beg c).stack = st ++ [opn o] := ho.1
      unfold M.after
      simp only [ht, hw, M.pop, hst, List.dropLast_concat]
      cases o <;> by_cases c1 : c = 44 <;> by_cases c2 : c = 93 <;> by_cases c3 : c = 125 <;> simp_all [opn, close, lpos]
    by_cases c1 : c = close o
    · rw [if_pos c1]
      refine hk.then (by simp) (fun m' _ hs _ ho => ?_)
      have hb := key m' ho
      rw [if_pos c1] at hb
      rw [e]
      have : ((skip l + 1, 4).1 - skip l, (skip l + 1, 4).2) = add 1 (0, 4) := by simp [add]
      rw [this]
      refine Goes.one ?_ ?_ ?_ (Goes.here ?_ (okB_of ?_ ?_))
      all_goals rw [feed1_open hs, hb]
      all_goals first | rfl | exact hs
    · rw [if_neg c1]
      by_cases c2 : c = 44
      · rw [if_neg (by simp [c2])]
        have : add (skip l + 1) (next q) = add (skip l) (add 1 (next q)) := by simp [add]; omega
        rw [this]
        refine hk.seq (fun m' hd hs _ ho => ?_)
        have hb := key m' ho
        rw [if_neg c1, if_pos c2] at hb
        rw [e]
        refine Goes.one ?_ ?_ ?_ (hn c q _ e ?_ ?_ ?_ ?_)
        all_goals rw [feed1_open hs, hb]
        all_goals first | rfl | exact hs | exact ho.1 | exact hd
      · rw [if_pos c2]
        refine hk.then (by simp) (fun m' _ hs _ ho => ?_)
        have hb := key m' ho
        rw [if_neg c1, if_neg c2] at hb
        rw [e]
        simp only [Nat.sub_self]
        exact Goes.bad (.inl rfl) (by rw [feed1_open hs, hb]; rfl) (by rw [feed1_open hs, hb]; rfl)

/-- where a value may begin -/
def vpos (m : M) (l : List UInt8) : Prop := m.pos = 0 ∨ (m.pos = 1 ∧ ∀ b r, l.drop (skip l) = b :: r → b ≠ 93)
theorem list_goes {st : List UInt8} {o : Bool} {D : Nat} {val : List UInt8 → Nat × Nat}
    (hval : ∀ (m : M) (l : List UInt8), m.state = 1 → m.stack = st ++ [opn o] → m.depth = D → vpos m l → Goes m l (val l) (okB (st ++ [opn o]))) :
    ∀ (f : Nat) (l : List UInt8) (one : Bool) (m : M), l.length < f → m.state = 1 → m.stack = st ++ [opn o] → m.depth = D → m.pos = lpos o one →
      Goes m l (list val o f one l) (okB st) := by
  intro f
  induction f with
  | zero => intro l one m h; omega
  | succ f ih =>
    intro l one m hf h1 hst hd hp
    have hwhite : ∀ n : M, n.pos = m.pos → ∀ b, white b = true → n.byte b = n := by
      intro n hn b hb
      rw [hp] at hn
      unfold M.byte M.names
      rw [hn]
      cases o <;> cases one <;> simp [lpos, hb]
    have hk := skip_goes l m h1 hwhite
    unfold list
    split
    · rename_i e
      refine hk.then (by simp) (fun m' _ hs _ ho => Goes.open ?_ e)
      exact tell_open hs (by rw [ho.1, hst]; simp)
    · rename_i b r e
      have hw := skip_head _ _ _ e
      have hlen : r.length + 1 ≤ l.length := by
        have := congrArg List.length e; simp at this; omega
      by_cases c : one = true ∧ b = close o
      · rw [if_pos c]
        refine hk.then (by simp) (fun m' _ hs _ ho => ?_)
        rw [e]
        have hpp : (m'.beg b).pos = lpos o one := ho.2.trans hp
        have hss : (m'.beg b).stack = st ++ [opn o] := ho.1.trans hst
        have hb : (m'.beg b).byte b = { m'.beg b with stack := st, pos := 5 } := by
          unfold M.byte M.names M.pop
          rw [hpp, hss]
          obtain ⟨rfl, rfl⟩ := c
          cases o <;> simp [lpos, close, white]
        have : ((skip l + 1, 4).1 - skip l, (skip l + 1, 4).2) = add 1 (0, 4) := by simp [add]
        rw [this]
        refine Goes.one ?_ ?_ ?_ (Goes.here ?_ (okB_of ?_ ?_))
        all_goals rw [feed1_open hs, hb]
        all_goals first | rfl | exact hs
      · rw [if_neg c]
        refine hk.seq (fun m' hd' hs _ ho => ?_)
        rw [e]
        have hpp : m'.pos = lpos o one := ho.2.trans hp
        have hss : m'.stack = st ++ [opn o] := ho.1.trans hst
        have hname : Goes m' (b :: r) (named o (b :: r)) (fun m2 _ => m2.stack = st ++ [opn o] ∧ ((o = true ∧ m2.pos = 0) ∨ (o = false ∧ m2.pos = lpos o one))) := by
          cases o with
          | true =>
            refine (named_goes hs ?_ hw ?_).mono (fun _ _ h => ⟨h.1.trans hss, .inl ⟨rfl, h.2⟩⟩)
            · rw [hpp]; cases one <;> simp [lpos]
            · intro h3 h4
              rw [hpp] at h3
              cases one with
              | true => exact c ⟨rfl, h4⟩
              | false => simp [lpos] at h3
          | false => exact Goes.here hs ⟨hss, .inr ⟨rfl, hpp⟩⟩
        by_cases c4 : (named o (b :: r)).2 = 4
        · rw [if_neg (by simp [c4])]
          have eqn : named o (b :: r) = ((named o (b :: r)).1, 4) := by rw [← c4]
          rw [eqn] at hname
          have hn0 : o = false → (named o (b :: r)).1 = 0 := by rintro rfl; rfl
          generalize (named o (b :: r)).1 = n at *
          refine hname.seq (fun m2 hd2 hs2 _ ho2 => ?_)
          have hv : vpos m2 ((b :: r).drop n) := by
            rcases ho2.2 with ⟨_, h⟩ | ⟨h, h'⟩
            · exact .inl h
            · subst h
              cases one with
              | false => exact .inl h'
              | true =>
                refine .inr ⟨h', fun b' r' hbr => ?_⟩
                rw [hn0 rfl] at hbr
                have : skip (b :: r) = 0 := by rw [skip, if_neg (by simp [hw])]
                simp only [List.drop_zero, this] at hbr
                injection hbr with h1 h2
                rintro rfl
                exact c ⟨rfl, h1⟩
          have hg := hval m2 ((b :: r).drop n) hs2 ho2.1 ((hd2.trans hd').trans hd) hv
          have hl1 : ((b :: r).drop n).length ≤ r.length + 1 := by simp
          generalize hl : (b :: r).drop n = l1 at *
          simp only
          by_cases cv : (val l1).2 = 4
          · rw [if_neg (by simp [cv])]
            have eqv : val l1 = ((val l1).1, 4) := by rw [← cv]
            rw [eqv] at hg
            refine hg.seq (fun m3 hd3 hs3 _ ho3 => ?_)
            refine behindElem_goes hs3 ho3 (fun c' q' m4 e4 hs4 hst4 hd4 hp4 => ?_)
            refine ih q' false m4 ?_ hs4 hst4 ?_ hp4
            · have := congrArg List.length e4
              simp at this
              omega
            · rw [hd4, hd3, hd2, hd', hd]
          · rw [if_pos cv]; exact hg.chok cv
        · rw [if_pos c4]; exact hname.chok c4

theorem flat_goes {m : M} {b : UInt8} {r : List UInt8} (h1 : m.state = 1) (hp : m.pos = 0 ∨ (m.pos = 1 ∧ b ≠ 93)) (hw : white b = false) (c1 : b ≠ 91) (c2 : b ≠ 123) :
    Goes m (b :: r) (value.flat b r) (okB m.stack) := by
  have hb : (m.beg b).byte b = (m.beg b).first b := by
    have : (m.beg b).pos = m.pos := rfl
    unfold M.byte
    rw [if_pos (by omega), if_neg (by simp [hw]), if_neg (by rintro ⟨x, y⟩; rcases hp with h | h; omega; exact h.2 x)]
  unfold value.flat
  unfold M.first at hb
  rw [if_neg c1, if_neg c2] at hb
  by_cases d1 : b = 34
  · rw [if_pos d1] at hb ⊢
    refine Goes.one ?_ ?_ ?_ ((quote_goes r 0 _ ?_ ?_ ?_ ?_).mono ?_)
    all_goals try rw [feed1_open h1, hb]
    all_goals first | rfl | exact h1 | (intro h; omega) | omega | exact fun _ _ h => okB_of h.1 h.2
  rw [if_neg d1] at hb ⊢
  by_cases d2 : b = 45
  · rw [if_pos d2] at hb ⊢
    refine Goes.one ?_ ?_ ?_ ((number_goes r 10 _ ?_ ?_ ?_ ?_).mono ?_)
    all_goals try rw [feed1_open h1, hb]
    all_goals first | rfl | exact h1 | omega | exact fun _ _ h => ⟨h.1, .inr h.2.1, h.2.2⟩
  rw [if_neg d2] at hb ⊢
  by_cases d3 : b = 48
  · rw [if_pos d3] at hb
    have hdig : digit b = true := by rw [d3]; decide
    have : number 10 (b :: r) = add 1 (number 11 r) := by rw [number, if_pos ⟨rfl, d3⟩]
    rw [if_pos hdig, this]
    refine Goes.one ?_ ?_ ?_ ((number_goes r 11 _ ?_ ?_ ?_ ?_).mono ?_)
    all_goals try rw [feed1_open h1, hb]
    all_goals first | rfl | exact h1 | omega | exact fun _ _ h => ⟨h.1, .inr h.2.1, h.2.2⟩
  rw [if_neg d3] at hb
  by_cases d4 : digit b = true
  · rw [if_pos d4] at hb ⊢
    have : number 10 (b :: r) = add 1 (number 12 r) := by rw [number, if_neg (fun x => d3 x.2), if_pos ⟨.inl rfl, d4⟩]
    rw [this]
    refine Goes.one ?_ ?_ ?_ ((number_goes r 12 _ ?_ ?_ ?_ ?_).mono ?_)
    all_goals try rw [feed1_open h1, hb]
    all_goals first | rfl | exact h1 | omega | exact fun _ _ h => ⟨h.1, .inr h.2.1, h.2.2⟩
  rw [if_neg d4] at hb ⊢
  have wd : ∀ w : List UInt8, w ≠ [] → (m.beg b).byte b = { m.beg b with pos := 9, rest := w } → Goes m (b :: r) (word (b :: r) (b :: w)) (okB m.stack) := by
    intro w hne h
    have : word (b :: r) (b :: w) = add 1 (word r w) := by rw [word, if_pos rfl]; rfl
    rw [this]
    refine Goes.one ?_ ?_ ?_ ((word_goes r w _ ?_ ?_ ?_ hne).mono ?_)
    all_goals try rw [feed1_open h1, h]
    all_goals first | rfl | exact h1 | exact fun _ _ h => okB_of h.1 h.2
  by_cases d5 : b = 116
  · rw [if_pos d5] at hb ⊢; subst d5; exact wd _ (by simp) hb
  rw [if_neg d5] at hb ⊢
  by_cases d6 : b = 102
  · rw [if_pos d6] at hb ⊢; subst d6; exact wd _ (by simp) hb
  rw [if_neg d6] at hb ⊢
  by_cases d7 : b = 110
  · rw [if_pos d7] at hb ⊢; subst d7; exact wd _ (by simp) hb
  rw [if_neg d7] at hb ⊢
  exact Goes.bad (.inl rfl) (by rw [feed1_open h1, hb]; rfl) (by rw [feed1_open h1, hb]; rfl)

theorem value_skip {m : M} {l : List UInt8} (h1 : m.state = 1) (hp : vpos m l) : Goes m l (skip l, 4) (fun m' _ => m'.stack = m.stack ∧ m'.pos = m.pos) := by
  refine skip_goes l m h1 (fun n hn b hb => ?_)
  unfold M.byte
  rw [if_pos (by rcases hp with h | h <;> omega), if_pos hb]
theorem value_goes (D : Nat) : ∀ (d : Nat) (st : List UInt8), st.length + d = D → ∀ (m : M) (l : List UInt8), m.state = 1 → m.stack = st → m.depth = D → vpos m l →
    Goes m l (value d l) (okB st) := by
  intro d
  induction d with
  | zero =>
    intro st hD m l h1 hst hd hp
    have hk := value_skip h1 hp
    unfold value
    split
    · rename_i e
      refine hk.then (by simp) (fun m' _ hs _ ho => Goes.open ?_ e)
      have : m'.pos = m.pos := ho.2
      exact tell_open' hs (by rcases hp with h | h <;> omega) (by rcases hp with h | h <;> omega)
    · rename_i b r e
      have hw := skip_head _ _ _ e
      have hpos : ∀ m' : M, m'.pos = m.pos → (m'.pos = 0 ∨ (m'.pos = 1 ∧ b ≠ 93)) := by
        intro m' h
        rcases hp with h' | ⟨h', h''⟩
        · exact .inl (h.trans h')
        · exact .inr ⟨h.trans h', h'' b r e⟩
      by_cases c : b = 91 ∨ b = 123
      · rw [if_pos c]
        refine hk.then (by simp) (fun m' hd' hs _ ho => ?_)
        rw [e]
        simp only [Nat.sub_self]
        have hb : (m'.beg b).byte b = (m'.beg b).fail 3 := by
          have hx := hpos (m'.beg b) ho.2
          unfold M.byte
          rw [if_pos (by omega), if_neg (by simp [hw]), if_neg (by rintro ⟨x, y⟩; rcases hx with h | h; omega; exact h.2 x)]
          have hlen : (m'.beg b).stack.length = (m'.beg b).depth := by
            show m'.stack.length = m'.depth
            rw [ho.1, hst, hd', hd]; omega
          unfold M.first M.push
          rcases c with rfl | rfl <;> simp [hlen]
        exact Goes.bad (.inr rfl) (by rw [feed1_open hs, hb]; rfl) (by rw [feed1_open hs, hb]; rfl)
      · rw [if_neg c]
        refine hk.seq (fun m' hd' hs _ ho => ?_)
        rw [e]
        have := flat_goes (r := r) hs (hpos m' ho.2) hw (fun h => c (.inl h)) (fun h => c (.inr h))
        rwa [ho.1, hst] at this
  | succ d ih =>
    intro st hD m l h1 hst hd hp
    have hk := value_skip h1 hp
    unfold value
    split
    · rename_i e
      refine hk.then (by simp) (fun m' _ hs _ ho => Goes.open ?_ e)
      have : m'.pos = m.pos := ho.2
      exact tell_open' hs (by rcases hp with h | h <;> omega) (by rcases hp with h | h <;> omega)
    · rename_i b r e
      have hw := skip_head _ _ _ e
      have hpos : ∀ m' : M, m'.pos = m.pos → (m'.pos = 0 ∨ (m'.pos = 1 ∧ b ≠ 93)) := by
        intro m' h
        rcases hp with h' | ⟨h', h''⟩
        · exact .inl (h.trans h')
        · exact .inr ⟨h.trans h', h'' b r e⟩
      by_cases c : b = 91 ∨ b = 123
      · rw [if_pos c]
        have : add (skip l + 1) (list (value d) (b == 123) (r.length + 1) true r) = add (skip l) (add 1 (list (value d) (b == 123) (r.length + 1) true r)) := by simp [add]; omega
        rw [this]
        refine hk.seq (fun m' hd' hs _ ho => ?_)
        rw [e]
        have hb : (m'.beg b).byte b = { m'.beg b with stack := st ++ [opn (b == 123)], pos := lpos (b == 123) true } := by
          have hx := hpos (m'.beg b) ho.2
          have hstk : (m'.beg b).stack = st := ho.1.trans hst
          unfold M.byte
          rw [if_pos (by omega), if_neg (by simp [hw]), if_neg (by rintro ⟨x, y⟩; rcases hx with h | h; omega; exact h.2 x)]
          have hlen : ¬ (m'.beg b).stack.length = (m'.beg b).depth := by
            show ¬ m'.stack.length = m'.depth
            rw [ho.1, hst, hd', hd]; omega
          unfold M.first M.push
          rw [hstk] at hlen ⊢
          rcases c with rfl | rfl <;> simp [hlen, opn, lpos]
        refine Goes.one ?_ ?_ ?_ (list_goes (st := st) (o := b == 123) (D := D) (ih (st ++ [opn (b == 123)]) (by simp; omega)) (r.length + 1) r true _ (by omega) ?_ ?_ ?_ ?_)
        all_goals rw [feed1_open hs, hb]
        all_goals first | rfl | exact hs | exact hd'.trans hd
      · rw [if_neg c]
        refine hk.seq (fun m' hd' hs _ ho => ?_)
        rw [e]
        have := flat_goes (r := r) hs (hpos m' ho.2) hw (fun h => c (.inl h)) (fun h => c (.inr h))
        rwa [ho.1, hst] at this

/-- THE LAW: the machine tells what the reference tells. -/
theorem whole_eq (l : List UInt8) (d : Nat) : (((M.start d).feed l).tell, ((M.start d).feed l).place) = whole l d := by
  have h := value_goes d d [] (by simp) (M.start d) l rfl rfl rfl (.inl rfl)
  unfold whole
  rcases h with ⟨h4, hn, m', hf, hd, hs, hp, he, ho⟩ | ⟨h1, ht, hp⟩ | ⟨h0, hs, hp, hl⟩
  · simp only [h4]
    rw [if_neg (by decide), if_neg (by decide)]
    rw [hf]
    have hk := behind_goes _ m' hs ho
    generalize hl2 : l.drop (value d l).1 = l2 at *
    have hlen : l2.length = l.length - (value d l).1 := by rw [← hl2]; simp
    rcases hk with ⟨_, hn2, m2, hf2, hd2, hs2, hp2, he2, ho2⟩ | ⟨h, _⟩ | ⟨h, _⟩
    · simp only at hn2 hf2 he2 ho2
      rw [hf2]
      cases e : l2.drop (skip l2) with
      | nil =>
        have : ¬ ((value d l).1 + skip l2 < l.length) := by
          have := congrArg List.length e; simp at this; omega
        rw [if_neg this]
        show (m2.tell, m2.place) = (2, -1)
        have : m2.tell = 2 := by
          unfold M.tell; rw [if_pos ⟨hs2, ho2.1, ho2.2.1⟩]
        rw [this, hp2, hp]; rfl
      | cons c q =>
        have : (value d l).1 + skip l2 < l.length := by
          have := congrArg List.length e; simp at this; omega
        rw [if_pos this]
        have hw := skip_head _ _ _ e
        have hb : (m2.beg c).byte c = ({ m2.beg c with pos := 5 } : M).fail 0 := by
          rw [ho2.2.2 c q e]
          have ht : ({ m2.beg c with pos := 5 } : M).top = 0 := by
            have : ({ m2.beg c with pos := 5 } : M).stack = [] := ho2.1
            unfold M.top; rw [this]; rfl
          unfold M.after
          simp [ht, hw]
        rw [feed_cons]
        have hst : (m2.feed1 c).state = 0 := by rw [feed1_open hs2, hb]; rfl
        have hpl : (m2.feed1 c).place = m2.seen := by rw [feed1_open hs2, hb]; rfl
        have := feed_stuck q (m2.feed1 c) (by omega)
        have ht : ((m2.feed1 c).feed q).tell = 0 := by
          unfold M.tell; rw [if_neg (fun x => by rw [this.1, hst] at x; omega), this.1, hst]
        rw [ht, this.2, hpl, he2, he]
        simp [M.start]
    · simp at h
    · simp at h
  · rw [if_pos h1, ht, hp]; rfl
  · rw [if_neg (by rcases h0 with h | h <;> omega), if_pos (by rcases h0 with h | h <;> omega)]
    have : ((M.start d).feed l).tell = (value d l).2 := by
      unfold M.tell; rw [if_neg (fun x => by rw [hs] at x; rcases h0 with h | h <;> omega), hs]
    rw [this, hp]; simp [M.start]

/-! What holds of each machine that bytes are fed to. -/
structure JWF (m : M) : Prop where
  hex : m.hex ≤ 4
  hex1 : m.pos = 8 → 1 ≤ m.hex
  rest : m.pos = 9 → m.rest ≠ []
  rlen : m.rest.length ≤ 5
  first : m.pos = 1 ∨ m.pos = 3 → m.stack ≠ []
  len : m.stack.length ≤ m.depth
  depth : m.depth ≤ 200
  pos : m.pos ≤ 17
  state : m.state ≤ 3
theorem JWF.at {m : M} (h : JWF m) (p : Nat) (hp : p ≤ 17) (h1 : p ≠ 1) (h3 : p ≠ 3) (h8 : p ≠ 8) (h9 : p ≠ 9) : JWF { m with pos := p } :=
  ⟨h.hex, fun e => absurd e h8, fun e => absurd e h9, h.rlen, fun e => by rcases e with e | e; exact absurd e h1; exact absurd e h3, h.len, h.depth, hp, h.state⟩
theorem JWF.fail {m : M} (h : JWF m) (s : Nat) (hs : s ≤ 3) : JWF (m.fail s) := ⟨h.hex, h.hex1, h.rest, h.rlen, h.first, h.len, h.depth, h.pos, hs⟩
theorem JWF.pop {m : M} (h : JWF m) : JWF m.pop :=
  ⟨h.hex, fun e => by simp [M.pop] at e, fun e => by simp [M.pop] at e, h.rlen, fun e => by simp [M.pop] at e, by have := h.len; simp [M.pop]; omega, h.depth, by simp [M.pop], h.state⟩
theorem JWF.push {m : M} (h : JWF m) (b : UInt8) (p : Nat) (hp : p ≤ 17) (h8 : p ≠ 8) (h9 : p ≠ 9) : JWF (m.push b p) := by
  unfold M.push
  split
  · exact h.fail 3 (by omega)
  · exact ⟨h.hex, fun e => absurd e h8, fun e => absurd e h9, h.rlen, fun _ => by simp, by have := h.len; simp; omega, h.depth, hp, h.state⟩
theorem JWF.key {m : M} (h : JWF m) (k : Bool) : JWF { m with key := k } := ⟨h.hex, h.hex1, h.rest, h.rlen, h.first, h.len, h.depth, h.pos, h.state⟩
theorem JWF.beg {m : M} (h : JWF m) (b : UInt8) : JWF (m.beg b) := ⟨h.hex, h.hex1, h.rest, h.rlen, h.first, h.len, h.depth, h.pos, h.state⟩
theorem JWF.saw {m : M} (h : JWF m) (n : Nat) : JWF { m with seen := n } := ⟨h.hex, h.hex1, h.rest, h.rlen, h.first, h.len, h.depth, h.pos, h.state⟩
theorem JWF.after {m : M} (h : JWF m) (b : UInt8) : JWF (m.after b) := by
  have h5 := h.at 5 (by omega) (by omega) (by omega) (by omega) (by omega)
  unfold M.after
  simp only
  repeat' split
  · exact h5
  · exact h.at 0 (by omega) (by omega) (by omega) (by omega) (by omega)
  · exact h.at 2 (by omega) (by omega) (by omega) (by omega) (by omega)
  · exact h5.pop
  · exact h5.fail 0 (by omega)
theorem jwf_ite {c : Prop} [Decidable c] {a b : M} (h1 : JWF a) (h2 : JWF b) : JWF (if c then a else b) := by split <;> assumption
theorem JWF.byte {m : M} (h : JWF m) (b : UInt8) : JWF (m.byte b) := by
  unfold M.byte
  by_cases c1 : m.pos = 0 ∨ m.pos = 1
  · rw [if_pos c1]
    unfold M.first
    have w : ∀ r : List UInt8, r ≠ [] → r.length ≤ 5 → JWF { m with pos := 9, rest := r } := fun r hr hl =>
      ⟨h.hex, fun e => by simp at e, fun _ => hr, hl, fun e => by simp at e, h.len, h.depth, by simp, h.state⟩
    repeat' (with_reducible refine jwf_ite ?_ ?_)
    · exact h
    · exact h.pop
    · exact h.push _ _ (by omega) (by omega) (by omega)
    · exact h.push _ _ (by omega) (by omega) (by omega)
    · exact (h.at 6 (by omega) (by omega) (by omega) (by omega) (by omega)).key false
    · exact h.at 10 (by omega) (by omega) (by omega) (by omega) (by omega)
    · exact h.at 11 (by omega) (by omega) (by omega) (by omega) (by omega)
    · exact h.at 12 (by omega) (by omega) (by omega) (by omega) (by omega)
    · exact w _ (by simp) (by simp)
    · exact w _ (by simp) (by simp)
    · exact w _ (by simp) (by simp)
    · exact h.fail 0 (by omega)
  rw [if_neg c1]
  by_cases c2 : m.pos = 2 ∨ m.pos = 3
  · rw [if_pos c2]
    unfold M.names
    repeat' split
    · exact h
    · exact (h.at 6 (by omega) (by omega) (by omega) (by omega) (by omega)).key true
    · exact h.pop
    · exact h.fail 0 (by omega)
  rw [if_neg c2]
  by_cases c3 : m.pos = 4
  · rw [if_pos c3]
    repeat' split
    · exact h
    · exact h.at 0 (by omega) (by omega) (by omega) (by omega) (by omega)
    · exact h.fail 0 (by omega)
  rw [if_neg c3]
  by_cases c4 : m.pos = 5
  · rw [if_pos c4]; exact h.after b
  rw [if_neg c4]
  by_cases c5 : m.pos = 6
  · rw [if_pos c5]
    unfold M.inText
    repeat' split
    · exact h.at 4 (by omega) (by omega) (by omega) (by omega) (by omega)
    · exact h.at 5 (by omega) (by omega) (by omega) (by omega) (by omega)
    · exact h.at 7 (by omega) (by omega) (by omega) (by omega) (by omega)
    · exact h.fail 0 (by omega)
    · exact h
  rw [if_neg c5]
  by_cases c6 : m.pos = 7
  · rw [if_pos c6]
    unfold M.inSlash
    repeat' split
    · exact ⟨by simp, fun _ => by simp, fun e => by simp at e, h.rlen, fun e => by simp at e, h.len, h.depth, by simp, h.state⟩
    · exact h.at 6 (by omega) (by omega) (by omega) (by omega) (by omega)
    · exact h.fail 0 (by omega)
  rw [if_neg c6]
  by_cases c7 : m.pos = 8
  · rw [if_pos c7]
    unfold M.inUnicode
    have := h.hex
    repeat' split
    · exact ⟨by simp; omega, fun e => by simp at e, fun e => by simp at e, h.rlen, fun e => by simp at e, h.len, h.depth, by simp, h.state⟩
    · exact ⟨by simp; omega, fun _ => by simp; omega, fun e => by simp [c7] at e, h.rlen, fun e => by simp [c7] at e, h.len, h.depth, h.pos, h.state⟩
    · exact h.fail 0 (by omega)
  rw [if_neg c7]
  by_cases c8 : m.pos = 9
  · rw [if_pos c8]
    unfold M.inWord
    have := h.rlen
    repeat' split
    · exact ⟨h.hex, fun e => by simp at e, fun e => by simp at e, by simp; omega, fun e => by simp at e, h.len, h.depth, by simp, h.state⟩
    · exact ⟨h.hex, fun e => by simp [c8] at e, fun _ => by assumption, by simp; omega, fun e => by simp [c8] at e, h.len, h.depth, h.pos, h.state⟩
    · exact h.fail 0 (by omega)
  rw [if_neg c8]
  unfold M.inNumber
  repeat' split
  · exact h.at 11 (by omega) (by omega) (by omega) (by omega) (by omega)
  · exact h.at 12 (by omega) (by omega) (by omega) (by omega) (by omega)
  · exact h.at 14 (by omega) (by omega) (by omega) (by omega) (by omega)
  · exact h.at 17 (by omega) (by omega) (by omega) (by omega) (by omega)
  · exact h.at 16 (by omega) (by omega) (by omega) (by omega) (by omega)
  · exact h.at 13 (by omega) (by omega) (by omega) (by omega) (by omega)
  · exact h.at 15 (by omega) (by omega) (by omega) (by omega) (by omega)
  · exact h.after b
  · exact h.fail 0 (by omega)
theorem JWF.feed1 {m : M} (h : JWF m) (b : UInt8) : JWF (m.feed1 b) := by
  unfold M.feed1
  simp only
  split
  · exact ((h.beg b).byte b).saw _
  · exact (h.beg b).saw _
theorem JWF.feed {l : List UInt8} : ∀ {m : M}, JWF m → JWF (m.feed l) := by
  induction l with
  | nil => intro m h; exact h
  | cons b r ih => intro m h; exact ih (h.feed1 b)
theorem JWF.start {d : Nat} (h : d ≤ 200) : JWF (M.start d) := ⟨by simp [M.start], fun _ => by simp_all [M.start], fun _ => by simp_all [M.start], by simp [M.start], fun e => by simp [M.start] at e, by simp [M.start], h, by simp [M.start], by simp [M.start]⟩
theorem seen_feed (l : List UInt8) : ∀ m : M, (m.feed l).seen = m.seen + l.length := by
  induction l with
  | nil => intro m; rfl
  | cons b r ih => intro m; rw [feed_cons, ih, seen_feed1]; simp; omega
theorem depth_feed1 (m : M) (b : UInt8) : (m.feed1 b).depth = m.depth := by
  have : ∀ n : M, (n.byte b).depth = n.depth := by
    intro n
    unfold M.byte M.names M.inText M.inSlash M.inUnicode M.inWord M.first M.inNumber M.after M.push M.pop M.fail
    simp only [apply_ite M.depth, ite_self]
  unfold M.feed1
  simp only
  split
  · exact this _
  · rfl
theorem depth_feed (l : List UInt8) : ∀ m : M, (m.feed l).depth = m.depth := by
  induction l with
  | nil => intro m; rfl
  | cons b r ih => intro m; rw [feed_cons, ih, depth_feed1]
/-- the first byte but what parts -/
theorem begun_byte (m : M) (b : UInt8) : (m.byte b).begun = m.begun := by
  unfold M.byte M.names M.inText M.inSlash M.inUnicode M.inWord M.first M.inNumber M.after M.push M.pop M.fail
  simp only [apply_ite M.begun, ite_self]
theorem begun_feed (l : List UInt8) : ∀ m : M, (m.feed l).begun = (m.begun || decide (skip l < l.length)) := by
  induction l with
  | nil => intro m; simp [feed_nil]
  | cons b r ih =>
    intro m
    have h1 : (m.feed1 b).begun = (m.begun || !white b) := by
      unfold M.feed1; simp only; split
      · rw [begun_byte]
      · rfl
    have hs : skip (b :: r) = if white b = true then skip r + 1 else 0 := rfl
    rw [feed_cons, ih, h1, hs]
    by_cases e : white b = true
    · simp [e]
    · simp [e]
/-- where it is bad, once it is -/
theorem place_byte (m : M) (b : UInt8) (h1 : m.state = 1) : (m.byte b).state = 1 ∧ (m.byte b).place = m.place ∨ (m.byte b).state ≠ 1 ∧ (m.byte b).place = m.seen := by
  have hf : ∀ s : Nat, s ≠ 1 → (m.fail s).state ≠ 1 ∧ (m.fail s).place = m.seen := fun s hs => ⟨hs, rfl⟩
  have hp : ∀ (c : UInt8) (p : Nat), (m.push c p).state = 1 ∧ (m.push c p).place = m.place ∨ (m.push c p).state ≠ 1 ∧ (m.push c p).place = m.seen := by
    intro c p; unfold M.push; split
    · exact .inr (hf 3 (by omega))
    · exact .inl ⟨h1, rfl⟩
  have ha : (m.after b).state = 1 ∧ (m.after b).place = m.place ∨ (m.after b).state ≠ 1 ∧ (m.after b).place = m.seen := by
    unfold M.after; simp only; repeat' split
    all_goals first | exact .inl ⟨h1, rfl⟩ | exact .inr (hf 0 (by omega)) | exact .inr ⟨by simp [M.fail], rfl⟩
  have hi : ∀ (c : Prop) [Decidable c] (x y : M), (x.state = 1 ∧ x.place = m.place ∨ x.state ≠ 1 ∧ x.place = m.seen) → (y.state = 1 ∧ y.place = m.place ∨ y.state ≠ 1 ∧ y.place = m.seen) →
      ((if c then x else y).state = 1 ∧ (if c then x else y).place = m.place ∨ (if c then x else y).state ≠ 1 ∧ (if c then x else y).place = m.seen) := by
    intro c _ x y hx hy; split <;> assumption
  unfold M.byte
  by_cases c1 : m.pos = 0 ∨ m.pos = 1
  · rw [if_pos c1]; unfold M.first; repeat' (with_reducible refine hi _ _ _ ?_ ?_)
    all_goals first | exact .inl ⟨h1, rfl⟩ | exact .inr (hf 0 (by omega)) | exact hp _ _
  rw [if_neg c1]
  by_cases c2 : m.pos = 2 ∨ m.pos = 3
  · rw [if_pos c2]; unfold M.names; repeat' split
    all_goals first | exact .inl ⟨h1, rfl⟩ | exact .inr (hf 0 (by omega))
  rw [if_neg c2]
  by_cases c3 : m.pos = 4
  · rw [if_pos c3]; repeat' split
    all_goals first | exact .inl ⟨h1, rfl⟩ | exact .inr (hf 0 (by omega))
  rw [if_neg c3]
  by_cases c4 : m.pos = 5
  · rw [if_pos c4]; exact ha
  rw [if_neg c4]
  by_cases c5 : m.pos = 6
  · rw [if_pos c5]; unfold M.inText; repeat' split
    all_goals first | exact .inl ⟨h1, rfl⟩ | exact .inr (hf 0 (by omega))
  rw [if_neg c5]
  by_cases c6 : m.pos = 7
  · rw [if_pos c6]; unfold M.inSlash; repeat' split
    all_goals first | exact .inl ⟨h1, rfl⟩ | exact .inr (hf 0 (by omega))
  rw [if_neg c6]
  by_cases c7 : m.pos = 8
  · rw [if_pos c7]; unfold M.inUnicode; repeat' split
    all_goals first | exact .inl ⟨h1, rfl⟩ | exact .inr (hf 0 (by omega))
  rw [if_neg c7]
  by_cases c8 : m.pos = 9
  · rw [if_pos c8]; unfold M.inWord; repeat' split
    all_goals first | exact .inl ⟨h1, rfl⟩ | exact .inr (hf 0 (by omega))
  rw [if_neg c8]
  unfold M.inNumber; repeat' split
  all_goals first | exact .inl ⟨h1, rfl⟩ | exact ha | exact .inr (hf 0 (by omega))
theorem place_feed (l : List UInt8) : ∀ m : M, m.state = 1 → (m.feed l).state = 1 ∧ (m.feed l).place = m.place ∨ (m.feed l).state ≠ 1 ∧ (m.seen : Int) ≤ (m.feed l).place ∧ (m.feed l).place < m.seen + l.length := by
  induction l with
  | nil => intro m h; exact .inl ⟨h, rfl⟩
  | cons b r ih =>
    intro m h
    rw [feed_cons]
    have hb := place_byte (m.beg b) b h
    have he : m.feed1 b = { (m.beg b).byte b with seen := m.seen + 1 } := feed1_open h
    rcases hb with ⟨h1, h2⟩ | ⟨h1, h2⟩
    · have hs : (m.feed1 b).state = 1 := by rw [he]; exact h1
      have hp : (m.feed1 b).place = m.place := by rw [he]; exact h2
      have hn := seen_feed1 m b
      rcases ih (m.feed1 b) hs with ⟨k1, k2⟩ | ⟨k1, k2, k3⟩
      · exact .inl ⟨k1, by rw [k2, hp]⟩
      · refine .inr ⟨k1, ?_, ?_⟩
        · rw [hn] at k2; omega
        · rw [hn] at k3; simp; omega
    · have hs : (m.feed1 b).state ≠ 1 := by rw [he]; exact h1
      have hp : (m.feed1 b).place = m.seen := by rw [he]; exact h2
      have := feed_stuck r _ hs
      refine .inr ⟨by rw [this.1]; exact hs, ?_, ?_⟩
      · rw [this.2, hp]; omega
      · rw [this.2, hp]; simp; omega
end Tg.Json
