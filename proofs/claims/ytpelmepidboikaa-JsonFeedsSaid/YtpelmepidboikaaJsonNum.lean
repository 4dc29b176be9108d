/-
  The plain law of layer 27: a number by runs of digits is the number byte by byte.
-/
import Derived.Test.YtpelmepidboikaaJsonPlain
set_option linter.unusedSimpArgs false
set_option linter.unusedVariables false
namespace Tg.Json
def digits : List UInt8 → Nat
  | [] => 0
  | b :: r => if digit b then digits r + 1 else 0
def run (l : List UInt8) : Nat × Nat :=
  match l with
  | [] => (0, 1)
  | b :: _ => if digit b then (digits l, 4) else (0, 0)
/-- a number behind its sign, by runs of digits -/
def expPart (l : List UInt8) : Nat × Nat :=
  match l with
  | [] => (0, 4)
  | c :: r =>
    if c.toNat = 101 ∨ c.toNat = 69 then
      (match r with
       | [] => add 1 (run r)
       | d :: q => if d.toNat = 43 ∨ d.toNat = 45 then add 2 (run q) else add 1 (run r))
    else (0, 4)
def pointPart (l : List UInt8) : Nat × Nat :=
  match l with
  | [] => expPart l
  | c :: r => if c.toNat = 46 then (if (run r).2 = 4 then add (1 + (run r).1) (expPart (r.drop (run r).1)) else add 1 (run r)) else expPart l
def intPart (l : List UInt8) : Nat × Nat :=
  match l with
  | [] => run l
  | c :: r => if (run l).2 = 4 then (if c.toNat = 48 then add 1 (pointPart r) else add (run l).1 (pointPart (l.drop (run l).1))) else run l
theorem run_cases (l : List UInt8) : (run l).2 = 4 ∧ l ≠ [] ∨ (run l).2 ≠ 4 := by
  unfold run; split
  · exact .inr (by decide)
  · split
    · exact .inl ⟨rfl, by simp⟩
    · exact .inr (by decide)
theorem digits_le (l : List UInt8) : digits l ≤ l.length := by
  induction l with
  | nil => simp [digits]
  | cons b r ih => unfold digits; split <;> simp <;> omega
theorem run_le (l : List UInt8) : (run l).1 ≤ l.length := by
  unfold run; split
  · simp
  · split
    · exact digits_le _
    · simp

theorem add_add (a b : Nat) (x : Nat × Nat) : add a (add b x) = add (a + b) x := by simp only [add]; congr 1; omega
theorem add_zero (x : Nat × Nat) : add 0 x = x := rfl
theorem isE_iff (b : UInt8) : isE b = true ↔ (b.toNat = 101 ∨ b.toNat = 69) := by
  simp [isE, ← UInt8.toNat_inj]
theorem u8n (b k : UInt8) : b = k ↔ b.toNat = k.toNat := UInt8.toNat_inj.symm
theorem number_cons (p : Nat) (b : UInt8) (r : List UInt8) : number p (b :: r) =
    if p = 10 ∧ b = 48 then add 1 (number 11 r)
    else if (p = 10 ∨ p = 12) ∧ digit b then add 1 (number 12 r)
    else if (p = 13 ∨ p = 14) ∧ digit b then add 1 (number 14 r)
    else if (p = 15 ∨ p = 16 ∨ p = 17) ∧ digit b then add 1 (number 17 r)
    else if p = 15 ∧ (b = 43 ∨ b = 45) then add 1 (number 16 r)
    else if (p = 11 ∨ p = 12) ∧ b = 46 then add 1 (number 13 r)
    else if (p = 11 ∨ p = 12 ∨ p = 14) ∧ isE b then add 1 (number 15 r)
    else if ended p then (0, 4)
    else (0, 0) := rfl
theorem num17 (l : List UInt8) : number 17 l = (digits l, 4) := by
  induction l with
  | nil => rfl
  | cons b r ih =>
    rw [number_cons]; unfold digits
    by_cases h : digit b = true
    · simp [h, ih, add]
    · simp [h, ended]
theorem num16 (l : List UInt8) : number 16 l = run l := by
  cases l with
  | nil => rfl
  | cons b r =>
    rw [number_cons]; unfold run
    by_cases h : digit b = true
    · simp [h, num17, add, digits]
    · simp [h, ended]
theorem num15 (l : List UInt8) : number 15 l = (match l with
    | [] => run []
    | d :: q => if d.toNat = 43 ∨ d.toNat = 45 then add 1 (run q) else run (d :: q)) := by
  cases l with
  | nil => rfl
  | cons b r =>
    have h1 : (b = 43 ∨ b = 45) ↔ (b.toNat = 43 ∨ b.toNat = 45) := by simp only [u8n, UInt8.reduceToNat]
    rw [number_cons]
    by_cases h : digit b = true
    · have h2 : ¬ (b.toNat = 43 ∨ b.toNat = 45) := by
        intro hh
        simp only [digit, UInt8.le_iff_toNat_le, UInt8.reduceToNat, Bool.and_eq_true, decide_eq_true_eq] at h
        omega
      simp [h, h2, num17, run, add, digits]
    · by_cases h2 : (b = 43 ∨ b = 45)
      · have h3 := h1.1 h2
        simp [h, h2, h3, num16]
      · have h3 := fun x => h2 (h1.2 x)
        show _ = if b.toNat = 43 ∨ b.toNat = 45 then _ else _
        rw [if_neg h3]
        simp [h, h2, ended, isE, run]
theorem exp_eq (p : Nat) (hp : p = 11 ∨ p = 14) (b : UInt8) (r : List UInt8) (h46 : p = 11 → b ≠ 46) (hd : p = 14 → digit b = false) : number p (b :: r) = expPart (b :: r) := by
  rw [number_cons]; unfold expPart
  have hE := isE_iff b
  by_cases h : isE b = true
  · have h2 := hE.1 h
    have hx := num15 r
    rcases hp with rfl | rfl
    · have := h46 rfl
      simp only [h, h2, this, if_true]
      simp
      rw [hx]
      cases r with
      | nil => rfl
      | cons d q => simp only; split <;> simp [add_add]
    · have := hd rfl
      simp only [h, h2, this, if_true]
      simp
      rw [hx]
      cases r with
      | nil => rfl
      | cons d q => simp only; split <;> simp [add_add]
  · have h2 := fun x => h (hE.2 x)
    rcases hp with rfl | rfl
    · have := h46 rfl
      simp only; rw [if_neg h2]
      simp [h, this, ended]
    · have := hd rfl
      simp only; rw [if_neg h2]
      simp [h, this, ended]
theorem num14 (l : List UInt8) : number 14 l = add (digits l) (expPart (l.drop (digits l))) := by
  induction l with
  | nil => rfl
  | cons b r ih =>
    by_cases h : digit b = true
    · have e : digits (b :: r) = digits r + 1 := by rw [digits, if_pos h]
      have : number 14 (b :: r) = add 1 (number 14 r) := by rw [number_cons]; simp [h]
      rw [this, ih, e, add_add, Nat.add_comm]; rfl
    · have e : digits (b :: r) = 0 := by rw [digits, if_neg h]
      rw [e, exp_eq 14 (.inr rfl) b r (by simp) (fun _ => by simpa using h)]; rfl
theorem num13 (r : List UInt8) : number 13 r = if (run r).2 = 4 then add (run r).1 (expPart (r.drop (run r).1)) else run r := by
  cases r with
  | nil => rfl
  | cons b r =>
    by_cases h : digit b = true
    · have e : run (b :: r) = (digits (b :: r), 4) := by rw [run, if_pos h]
      have e2 : digits (b :: r) = digits r + 1 := by rw [digits, if_pos h]
      have : number 13 (b :: r) = add 1 (number 14 r) := by rw [number_cons]; simp [h]
      rw [this, e, if_pos rfl, num14, add_add, e2, Nat.add_comm]; rfl
    · have e : run (b :: r) = (0, 0) := by rw [run, if_neg h]
      rw [e, if_neg (by decide)]
      rw [number_cons]; simp [h, ended]
theorem num11 (l : List UInt8) : number 11 l = pointPart l := by
  cases l with
  | nil => rfl
  | cons b r =>
    by_cases h : b = 46
    · have h' : b.toNat = 46 := by rw [h]; rfl
      have : number 11 (b :: r) = add 1 (number 13 r) := by rw [number_cons]; simp [h]
      unfold pointPart
      simp only
      rw [this, if_pos h', num13]
      split
      · rw [add_add]
      · rfl
    · have h' : ¬ b.toNat = 46 := fun x => h (by rw [u8n]; exact x)
      rw [exp_eq 11 (.inl rfl) b r (fun _ => h) (by simp)]
      show _ = pointPart (b :: r)
      unfold pointPart; simp only; rw [if_neg h']
theorem num12 (l : List UInt8) : number 12 l = add (digits l) (pointPart (l.drop (digits l))) := by
  induction l with
  | nil => rfl
  | cons b r ih =>
    by_cases h : digit b = true
    · have e : digits (b :: r) = digits r + 1 := by rw [digits, if_pos h]
      have : number 12 (b :: r) = add 1 (number 12 r) := by rw [number_cons]; simp [h]
      rw [this, ih, e, add_add, Nat.add_comm]; rfl
    · have e : digits (b :: r) = 0 := by rw [digits, if_neg h]
      rw [e]
      show _ = pointPart (b :: r)
      rw [← num11, number_cons, number_cons]; simp [h, ended]
theorem num10 (l : List UInt8) : number 10 l = intPart l := by
  cases l with
  | nil => rfl
  | cons b r =>
    unfold intPart
    simp only
    by_cases h : digit b = true
    · have e : run (b :: r) = (digits (b :: r), 4) := by rw [run, if_pos h]
      have e2 : digits (b :: r) = digits r + 1 := by rw [digits, if_pos h]
      rw [e, if_pos rfl]
      by_cases h48 : b = 48
      · have h' : b.toNat = 48 := by rw [h48]; rfl
        have : number 10 (b :: r) = add 1 (number 11 r) := by rw [number_cons]; simp [h48]
        rw [this, if_pos h', num11]
      · have h' : ¬ b.toNat = 48 := fun x => h48 (by rw [u8n]; exact x)
        have : number 10 (b :: r) = add 1 (number 12 r) := by rw [number_cons]; simp [h48, h]
        rw [this, if_neg h', num12, e2, add_add, Nat.add_comm]; rfl
    · have e : run (b :: r) = (0, 0) := by rw [run, if_neg h]
      rw [e, if_neg (by decide)]
      have : b ≠ 48 := by rintro rfl; exact h (by decide)
      rw [number_cons]; simp [h, this, ended]
end Tg.Json
