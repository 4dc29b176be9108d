/-
  The machine of layer 28 (jscript) in plain Lean.
-/
import Derived.Test.YtgnefbngkhjfcaaDoorKit
set_option linter.unusedSimpArgs false
set_option linter.unusedVariables false
namespace Tg.Js

abbrev w64 (n : Int) : Int := Go.IntKind.i64.wrap n
theorem w64_in {n : Int} (h1 : -9223372036854775808 ≤ n) (h2 : n ≤ 9223372036854775807) : w64 n = n := Go.IntWalk.i64_in _ ⟨h1, h2⟩
structure M where
  depth : Int
  stack : List UInt8
  at_ : Int
  by_ : UInt8
  taken : Bool
  said : List UInt8
  last : Int
  broken : Bool
  bad : Bool
  place : Int
  pieces : Int
  ends : Int
  seen : Int
deriving DecidableEq

def letter (b : UInt8) : Bool := decide (97 ≤ (b.toNat : Int)) && decide ((b.toNat : Int) ≤ 122) || decide (65 ≤ (b.toNat : Int)) && decide ((b.toNat : Int) ≤ 90)
def digit (b : UInt8) : Bool := decide (48 ≤ (b.toNat : Int)) && decide ((b.toNat : Int) ≤ 57)
def feedB (b : UInt8) : Bool := decide (b = 10) || decide (b = 13)
def white (b : UInt8) : Bool := decide (b = 32) || decide (9 ≤ (b.toNat : Int)) && decide ((b.toNat : Int) ≤ 13)
def inner (b : UInt8) : Bool := letter b || digit b || decide (b = 95) || decide (b = 36) || decide (128 ≤ (b.toNat : Int))
def w (s : String) : List UInt8 := s.toUTF8.data.toList
def keywords : List (List UInt8) := ["await", "break", "case", "catch", "class", "const", "continue", "default", "delete", "do", "else", "export", "extends", "finally", "for", "from", "function", "get", "if", "import", "in", "instanceof", "let", "new", "of", "return", "set", "static", "switch", "throw", "try", "typeof", "var", "void", "while", "with", "yield", "async", "as"].map w
def isKeyword (s : List UInt8) : Bool := keywords.contains s
def signs : List UInt8 := w "{}()[];,<>=!+-*/%&|^~?:."

namespace M
variable (m : M) (b : UInt8)
def fail : M := { m with bad := true, place := m.seen }
def piece : M := { m with pieces := w64 (m.pieces + 1) }
def joined : Bool := m.last == 1 && !m.broken
def ended (last : Int) : M := { m with at_ := 0, last := last, broken := false }
def push : M := if (m.stack.length : Int) = m.depth then m.fail else { m with stack := m.stack ++ [b] }.ended 0
def pair : UInt8 := if b = 41 then 40 else if b = 93 then 91 else 123
/-- the last sign that is open -/
def top : Option UInt8 := m.stack.getLast?
def pop : M :=
  match m.stack.getLast? with
  | none => m.fail
  | some t =>
    if b = 125 ∧ t = 96 then { m with stack := m.stack.dropLast, at_ := 4, by_ := 96 }
    else if t = pair b then
      let m' : M := { m with stack := m.stack.dropLast }
      if b ≠ 125 then m'.ended 1
      else
        let m2 := m'.ended 2
        if m.stack.length = 1 then { m2 with ends := w64 (m2.ends + 1) } else m2
    else m.fail
def sign : M :=
  let p := m.piece
  if b = 40 ∨ b = 91 ∨ b = 123 then p.push b
  else if b = 41 ∨ b = 93 ∨ b = 125 then p.pop b
  else if b = 59 then
    let q := p.ended 0
    if q.stack = [] then { q with ends := w64 (q.ends + 1) } else q
  else p.ended 0
def begin : M :=
  if feedB b then { m with broken := true }
  else if white b then m
  else if inner b then
    if m.joined then m.fail
    else { m.piece with at_ := if digit b then 2 else 1, said := [b] }
  else if b = 34 ∨ b = 39 then
    if m.joined then m.fail else { m.piece with at_ := 3, by_ := b }
  else if b = 96 then { m.piece with at_ := 4, by_ := b }
  else if b = 47 then { m with at_ := 9 }
  else if b = 60 ∧ m.pieces = 0 then { m with at_ := 13 }
  else if signs.contains b then m.sign b
  else m.fail
def inWord : M :=
  if inner b ∨ m.at_ = 2 ∧ b = 46 then (if (m.said.length : Int) ≤ 10 then { m with said := m.said ++ [b] } else m)
  else if m.at_ = 1 ∧ isKeyword m.said then (m.ended 3).begin b
  else (m.ended 1).begin b
def inText : M :=
  if m.taken then { m with taken := false }
  else if m.at_ ≠ 4 ∧ feedB b then m.fail
  else if b = 92 then { m with taken := true }
  else if m.at_ = 7 then (if b = 93 then { m with at_ := 6 } else m)
  else if m.at_ = 6 ∧ b = 91 then { m with at_ := 7 }
  else if m.at_ = 4 ∧ b = 36 then { m with at_ := 5 }
  else if b = m.by_ ∧ m.at_ = 6 then { m with at_ := 8 }
  else if b = m.by_ then m.ended 1
  else m
def inDollar : M :=
  let p : M := { m with at_ := 4 }
  if b = 123 then p.push 96 else p.inText b
def inSlash : M :=
  if b = 47 then { m with at_ := 10 }
  else if b = 42 then { m with at_ := 11 }
  else if m.last = 1 ∨ m.last = 2 then (m.sign 47).begin b
  else { m.piece with at_ := 6, by_ := 47 }.inText b
def inRemark : M :=
  let p : M := { m with broken := m.broken || feedB b }
  if m.at_ = 10 ∧ feedB b then { p with at_ := 0 }
  else if m.at_ = 12 ∧ b = 47 then { p with at_ := 0 }
  else if m.at_ ≠ 10 ∧ b = 42 then { p with at_ := 12 }
  else if m.at_ = 12 then { p with at_ := 11 }
  else p
def inLess : M :=
  if m.at_ = 13 ∧ b = 33 then { m with at_ := 14 }
  else if m.at_ = 14 ∧ b = 45 then { m with at_ := 15 }
  else if m.at_ = 15 ∧ b = 45 then { m with at_ := 10 }
  else m.fail
def byte : M :=
  if m.at_ = 0 then m.begin b
  else if m.at_ = 1 ∨ m.at_ = 2 ∨ m.at_ = 8 then m.inWord b
  else if m.at_ = 5 then m.inDollar b
  else if m.at_ = 9 then m.inSlash b
  else if m.at_ = 10 ∨ m.at_ = 11 ∨ m.at_ = 12 then m.inRemark b
  else if m.at_ = 13 ∨ m.at_ = 14 ∨ m.at_ = 15 then m.inLess b
  else m.inText b
def tell : Int :=
  if m.bad then 0
  else if m.stack = [] ∧ (m.at_ = 0 ∨ m.at_ = 1 ∨ m.at_ = 2 ∨ m.at_ = 8 ∨ m.at_ = 10) then 2
  else 1
/-- one byte of a piece -/
def step : M := let p := if m.bad then m else m.byte b
  { p with seen := w64 (p.seen + 1) }
def feed (m : M) (s : List UInt8) : M := s.foldl step m
end M
def new (depth : Int) : M := { depth := depth, stack := [], at_ := 0, by_ := 0, taken := false, said := [], last := 0, broken := false, bad := false, place := -1, pieces := 0, ends := 0, seen := 0 }
theorem lives1 : ((new 5).feed (w "var x = 1;")).tell = 2 ∧ ((new 5).feed (w "var x = 1;")).ends = 1 := by decide +kernel
theorem lives2 : ((new 5).feed (w "Hello world")).tell = 0 ∧ ((new 5).feed (w "Hello world")).place = 6 := by decide +kernel

/-! ### what stays -/
namespace M
theorem feed_append (m : M) (s t : List UInt8) : m.feed (s ++ t) = (m.feed s).feed t := by simp [feed]
/-- what a byte may do -/
structure Nx (c : Nat) (m m' : M) : Prop where
  seen : m'.seen = m.seen
  isBad : m'.bad = true → m'.place = m.seen ∨ m.bad = true ∧ m'.place = m.place
  good : m'.bad = false → m'.place = m.place ∧ m.bad = false
  ends : 0 ≤ m.ends → m.ends ≤ 4611686018427387904 → m.ends ≤ m'.ends ∧ m'.ends ≤ m.ends + c
theorem Nx.trans {c d e : Nat} {m m1 m2 : M} (h : Nx c m m1) (k : Nx d m1 m2) (hc : c ≤ 1) (he : c + d ≤ e) (hm : m1.ends ≤ 4611686018427387904 ∨ c = 0) : Nx e m m2 := by
  refine ⟨k.seen.trans h.seen, fun hb => ?_, fun hb => ?_, fun h0 h1 => ?_⟩
  · rcases k.isBad hb with k1 | ⟨k1, k2⟩
    · exact .inl (k1.trans h.seen)
    · rcases h.isBad k1 with h1 | ⟨h1, h2⟩
      · exact .inl (k2.trans h1)
      · exact .inr ⟨h1, k2.trans h2⟩
  · obtain ⟨k1, k2⟩ := k.good hb
    obtain ⟨h1, h2⟩ := h.good k2
    exact ⟨k1.trans h1, h2⟩
  · obtain ⟨a1, a2⟩ := h.ends h0 h1
    obtain ⟨b1, b2⟩ := k.ends (by omega) (by omega)
    omega
theorem Nx.same {c : Nat} {m m' : M} (h1 : m'.seen = m.seen) (h2 : m'.bad = m.bad) (h3 : m'.place = m.place) (h4 : m'.ends = m.ends) : Nx c m m' :=
  ⟨h1, fun h => .inr ⟨h2 ▸ h, h3⟩, fun h => ⟨h3, h2 ▸ h⟩, fun _ _ => by omega⟩
theorem Nx.fail {c : Nat} (m : M) : Nx c m m.fail := ⟨rfl, fun _ => .inl rfl, (fun h => by simp [M.fail] at h), fun _ _ => by simp only [M.fail]; omega⟩
theorem Nx.inc {m m' : M} (h1 : m'.seen = m.seen) (h2 : m'.bad = m.bad) (h3 : m'.place = m.place) (h4 : m'.ends = w64 (m.ends + 1)) : Nx 1 m m' :=
  ⟨h1, fun h => .inr ⟨h2 ▸ h, h3⟩, fun h => ⟨h3, h2 ▸ h⟩, fun h0 h5 => by rw [h4, w64_in (by omega) (by omega)]; omega⟩
theorem push_nx (m : M) (b : UInt8) : Nx 0 m (m.push b) := by
  unfold push
  split
  · exact Nx.fail m
  · exact Nx.same rfl rfl rfl rfl
theorem pop_nx (m : M) (b : UInt8) : Nx 1 m (m.pop b) := by
  unfold pop
  split
  · exact Nx.fail m
  · split
    · exact Nx.same rfl rfl rfl rfl
    · split
      · dsimp only
        split
        · exact Nx.same rfl rfl rfl rfl
        · split
          · exact Nx.inc rfl rfl rfl rfl
          · exact Nx.same rfl rfl rfl rfl
      · exact Nx.fail m
theorem sign_nx (m : M) (b : UInt8) : Nx 1 m (m.sign b) := by
  have hp : Nx 0 m m.piece := Nx.same rfl rfl rfl rfl
  unfold sign
  dsimp only
  split
  · exact hp.trans (push_nx _ b) (by omega) (by omega) (.inr rfl)
  · split
    · exact hp.trans (pop_nx _ b) (by omega) (by omega) (.inr rfl)
    · split
      · split
        · exact Nx.inc rfl rfl rfl rfl
        · exact Nx.same rfl rfl rfl rfl
      · exact Nx.same rfl rfl rfl rfl
theorem sign47 (m : M) : Nx 0 m (m.sign 47) := by
  unfold sign
  simp only [show ¬((47 : UInt8) = 40 ∨ (47 : UInt8) = 91 ∨ (47 : UInt8) = 123) by decide, show ¬((47 : UInt8) = 41 ∨ (47 : UInt8) = 93 ∨ (47 : UInt8) = 125) by decide, show ¬((47 : UInt8) = 59) by decide, if_false]
  exact Nx.same rfl rfl rfl rfl
theorem begin_nx (m : M) (b : UInt8) : Nx 1 m (m.begin b) := by
  unfold begin
  repeat' split
  all_goals first | exact Nx.fail m | exact sign_nx m b | exact Nx.same rfl rfl rfl rfl
theorem inText_nx (m : M) (b : UInt8) : Nx 1 m (m.inText b) := by
  unfold inText
  repeat' split
  all_goals first | exact Nx.fail m | exact Nx.same rfl rfl rfl rfl
theorem byte_nx (m : M) (b : UInt8) : Nx 1 m (m.byte b) := by
  unfold byte
  split
  · exact begin_nx m b
  split
  · unfold inWord
    split
    · split <;> exact Nx.same rfl rfl rfl rfl
    · split
      · exact (Nx.same (c := 0) (m := m) (m' := m.ended 3) rfl rfl rfl rfl).trans (begin_nx _ b) (by omega) (by omega) (.inr rfl)
      · exact (Nx.same (c := 0) (m := m) (m' := m.ended 1) rfl rfl rfl rfl).trans (begin_nx _ b) (by omega) (by omega) (.inr rfl)
  split
  · unfold inDollar
    dsimp only
    split
    · exact (Nx.same (c := 0) (m := m) (m' := { m with at_ := 4 }) rfl rfl rfl rfl).trans (push_nx _ 96) (by omega) (by omega) (.inr rfl)
    · exact (Nx.same (c := 0) (m := m) (m' := { m with at_ := 4 }) rfl rfl rfl rfl).trans (inText_nx _ b) (by omega) (by omega) (.inr rfl)
  split
  · unfold inSlash
    split
    · exact Nx.same rfl rfl rfl rfl
    split
    · exact Nx.same rfl rfl rfl rfl
    split
    · exact (sign47 m).trans (begin_nx _ b) (by omega) (by omega) (.inr rfl)
    · exact (Nx.same (c := 0) (m := m) (m' := { m.piece with at_ := 6, by_ := 47 }) rfl rfl rfl rfl).trans (inText_nx _ b) (by omega) (by omega) (.inr rfl)
  split
  · unfold inRemark
    dsimp only
    repeat' split
    all_goals exact Nx.same rfl rfl rfl rfl
  split
  · unfold inLess
    repeat' split
    all_goals first | exact Nx.fail m | exact Nx.same rfl rfl rfl rfl
  · exact inText_nx m b
/-- behind n bytes -/
structure Inv (n : Nat) (m : M) : Prop where
  seen : m.seen = n
  isBad : m.bad = true → 0 ≤ m.place ∧ m.place < n
  good : m.bad = false → m.place = -1
  e0 : 0 ≤ m.ends
  e1 : m.ends ≤ n
theorem step_bad (m : M) (b : UInt8) (h : m.bad = true) : m.step b = { m with seen := w64 (m.seen + 1) } := by
  unfold step; simp [h]
theorem step_good (m : M) (b : UInt8) (h : m.bad = false) : m.step b = { m.byte b with seen := w64 ((m.byte b).seen + 1) } := by
  unfold step; simp [h]
theorem step_inv {n : Nat} {m : M} (h : Inv n m) (hn : n < 1152921504606846976) (b : UInt8) : Inv (n + 1) (m.step b) ∧ m.ends ≤ (m.step b).ends ∧ (m.bad = true → (m.step b).bad = true ∧ (m.step b).place = m.place ∧ (m.step b).ends = m.ends) ∧ (m.bad = false → (m.step b).bad = true → (n : Int) ≤ (m.step b).place) := by
  have hs := h.seen
  have e0 := h.e0
  have e1 := h.e1
  cases hb : m.bad with
  | true =>
    rw [step_bad m b hb]
    obtain ⟨p1, p2⟩ := h.isBad hb
    refine ⟨⟨?_, fun _ => ⟨p1, ?_⟩, fun h2 => ?_, e0, ?_⟩, Int.le_refl _, fun _ => ⟨hb, rfl, rfl⟩, fun h2 => by cases h2⟩
    · show w64 (m.seen + 1) = _
      rw [hs, w64_in (by omega) (by omega)]; omega
    · show m.place < _; omega
    · have : m.bad = false := h2
      rw [hb] at this; cases this
    · show m.ends ≤ _; omega
  | false =>
    rw [step_good m b hb]
    have hx := byte_nx m b
    obtain ⟨g1, g2⟩ := hx.ends e0 (by omega)
    refine ⟨⟨?_, fun h2 => ?_, fun h2 => ?_, ?_, ?_⟩, g1, (fun h2 => by cases h2), fun _ h2 => ?_⟩
    · show w64 ((m.byte b).seen + 1) = _
      rw [hx.seen, hs, w64_in (by omega) (by omega)]; omega
    · show 0 ≤ (m.byte b).place ∧ (m.byte b).place < _
      rcases hx.isBad h2 with h3 | ⟨h3, _⟩
      · rw [h3, hs]; omega
      · rw [hb] at h3; cases h3
    · show (m.byte b).place = -1
      rw [(hx.good h2).1]; exact h.good hb
    · show 0 ≤ (m.byte b).ends; omega
    · show (m.byte b).ends ≤ _; omega
    · show _ ≤ (m.byte b).place
      rcases hx.isBad h2 with h3 | ⟨h3, _⟩
      · rw [h3, hs]; omega
      · rw [hb] at h3; cases h3
theorem feed_inv : ∀ (t : List UInt8) (n : Nat) (m : M), Inv n m → n + t.length ≤ 1152921504606846976 → Inv (n + t.length) (m.feed t) ∧ m.ends ≤ (m.feed t).ends ∧ (m.bad = true → (m.feed t).bad = true ∧ (m.feed t).place = m.place ∧ (m.feed t).ends = m.ends) ∧ (m.bad = false → (m.feed t).bad = true → (n : Int) ≤ (m.feed t).place)
  | [], n, m, h, _ => ⟨h, Int.le_refl _, fun h => ⟨h, rfl, rfl⟩, fun h1 h2 => by
      have : m.bad = true := h2
      rw [h1] at this; cases this⟩
  | b :: t, n, m, h, hn => by
    have hl : (b :: t).length = t.length + 1 := rfl
    obtain ⟨h1, h2, h3, h4⟩ := step_inv h (by omega) b
    obtain ⟨g1, g2, g3, g4⟩ := feed_inv t (n + 1) (m.step b) h1 (by omega)
    have e : m.feed (b :: t) = (m.step b).feed t := rfl
    rw [e]
    refine ⟨by rw [hl, show n + (t.length + 1) = n + 1 + t.length by omega]; exact g1, Int.le_trans h2 g2, fun hb => ?_, fun hb hb2 => ?_⟩
    · obtain ⟨a1, a2, a3⟩ := h3 hb
      obtain ⟨b1, b2, b3⟩ := g3 a1
      exact ⟨b1, b2.trans a2, b3.trans a3⟩
    · cases hs : (m.step b).bad with
      | true =>
        have := h4 hb hs
        rw [(g3 hs).2.1]; exact this
      | false =>
        have := g4 hs hb2
        omega
theorem new_inv (d : Int) : Inv 0 (new d) := ⟨rfl, (fun h => by cases h), fun _ => rfl, Int.le_refl 0, Int.le_refl 0⟩
theorem tell_bad {m : M} : m.tell = 0 ↔ m.bad = true := by
  unfold tell
  cases m.bad <;> simp
  split <;> decide
/-- the law -/
theorem stays (d : Int) (s t : List UInt8) (hs : s.length ≤ 1000) (ht : t.length ≤ 1000) :
    let m := (new d).feed s
    let m' := (new d).feed (s ++ t)
    (m.tell = 0 → m'.tell = 0 ∧ m'.place = m.place ∧ m'.ends = m.ends ∧ 0 ≤ m.place ∧ m.place < s.length) ∧
    (m.tell ≠ 0 → m.place = -1 ∧ (m'.place = -1 ∨ (s.length : Int) ≤ m'.place) ∧ m.ends ≤ m'.ends) := by
  dsimp only
  obtain ⟨i1, _, _, _⟩ := feed_inv s 0 (new d) (new_inv d) (by omega)
  rw [Nat.zero_add] at i1
  obtain ⟨j1, j2, j3, j4⟩ := feed_inv t s.length ((new d).feed s) i1 (by omega)
  rw [feed_append]
  constructor
  · intro h
    have hb := tell_bad.1 h
    obtain ⟨a1, a2, a3⟩ := j3 hb
    exact ⟨tell_bad.2 a1, a2, a3, i1.isBad hb⟩
  · intro h
    have hb : ((new d).feed s).bad = false := by
      cases hq : ((new d).feed s).bad with
      | true => exact absurd (tell_bad.2 hq) h
      | false => rfl
    refine ⟨i1.good hb, ?_, j2⟩
    cases hq : (((new d).feed s).feed t).bad with
    | true => exact .inr (j4 hb hq)
    | false => exact .inl (j1.good hq)
end M
end Tg.Js
