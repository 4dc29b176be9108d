/-
  Texts joined, part 4: LgApp, LgByte, LgQui, LgMore, LgNum, StLib, StEnv, NuPlain, NuCode, LgCut, NuIs, NuParts, NuPartsC, NuFloat, NuLives, NuPartsR, NuOrd, NuValues, NuValLaw.
-/
import Derived.Test.YteckofomnhminaaDoorM3
import Derived.Test.YteckofomnhminaaDoorM1
import Derived.WalkKit
import Derived.Laws.Externs
import Derived.Shelf.Strings.SlTrimAscii
import Derived.Lib.SlTrimSet
/-
  A logical run of Go code: rows of elements of any size, that take many elements at once.
-/
set_option linter.unusedSimpArgs false
set_option linter.unusedVariables false
namespace Go.Lg
open Go.Tg Go.RowKit

section
variable {P : Program} {H H' : LH} {v x : Value} {xs new : List Value} {e t : TypeId} {N n m s : Nat} {b : LB}
/-- v is a row of n elements of s cells, in a block behind N -/
def RowN (N : Nat) (H : LH) (e : TypeId) (s : Nat) (v : Value) (n : Nat) (xs : List Value) : Prop :=
  xs.length = n * s ∧ ((v = .slice none 0 0 ∧ n = 0) ∨ ∃ k c rest, v = sl k n c ∧ N ≤ k ∧ k < H.n ∧ H.get k = some ⟨xs ++ rest, e, true⟩ ∧ n ≤ c ∧ (xs ++ rest).length = c * s)
theorem RowN.nil : RowN N H e s (.slice none 0 0) 0 [] := ⟨by simp, .inl ⟨rfl, rfl⟩⟩
theorem RowN.lt (h : RowN N H e s v n xs) : xs.length = n * s := h.1
theorem RowN.len (h : RowN N H e s v n xs) (hu : P.underlying t = some (.slice e)) : lbuiltin P .len [t] [v] H' = some (.int .i64 n, H') := by
  rcases h.2 with ⟨rfl, rfl⟩ | ⟨k, c, rest, rfl, _⟩
  · exact lbuiltin_len_slice hu
  · exact lbuiltin_len_slice hu
theorem RowN.cell (h : RowN N H e s v n xs) : cellB v = true := by
  rcases h.2 with ⟨rfl, rfl⟩ | ⟨k, c, rest, rfl, _⟩ <;> simp
theorem RowN.keep (h : RowN N H e s v n xs) (hn : H.n ≤ H'.n) (hk : ∀ k, N ≤ k → ¬ offRow v k → k < H.n → H'.get k = H.get k) : RowN N H' e s v n xs := by
  refine ⟨h.1, ?_⟩
  rcases h.2 with ⟨rfl, rfl⟩ | ⟨k, c, rest, rfl, h1, h2, h3, h4, h5⟩
  · exact .inl ⟨rfl, rfl⟩
  · exact .inr ⟨k, c, rest, rfl, h1, by omega, by rw [hk k h1 (fun h => h _ _ rfl) h2]; exact h3, h4, h5⟩
theorem RowN.off_of_elem (h : RowN N H e s v n xs) {l : Nat} (hl : H.get l = some b) (hne : b.elem ≠ e) : offRow v l := by
  rcases h.2 with ⟨rfl, rfl⟩ | ⟨k, c, rest, rfl, _, _, h2, _⟩
  · exact off_nil
  · intro n c h
    injection h with h
    injection h with h
    injection h with h
    subst h
    rw [h2] at hl
    injection hl with hl
    subst hl
    exact hne rfl
theorem RowN.off_ge (h : RowN N H e s v n xs) {l : Nat} (hl : H.n ≤ l) : offRow v l := by
  rcases h.2 with ⟨rfl, rfl⟩ | ⟨k, c, rest, rfl, _, h1, _⟩
  · exact off_nil
  · intro n c h
    injection h with h
    injection h with h
    injection h with h
    omega
theorem RowN.off_lt (h : RowN N H e s v n xs) {l : Nat} (hl : l < N) : offRow v l := by
  rcases h.2 with ⟨rfl, rfl⟩ | ⟨k, c, rest, rfl, h1, _⟩
  · exact off_nil
  · intro n c h
    injection h with h
    injection h with h
    injection h with h
    omega
/-- a row without room -/
def Full (v : Value) : Prop := ∀ k n c, v = sl k n c → c = n
theorem full_new {k n : Nat} : Full (sl k n n) := fun k' n' c' h => by
  injection h with _ h1 h2
  omega
theorem full_nil : Full (.slice none 0 0) := fun k n c h => by cases h
/-- what an append leaves -/
structure Kept (H H' : LH) (v v' : Value) : Prop where
  le : H.n ≤ H'.n
  get : ∀ k, k < H.n → offRow v k → H'.get k = H.get k
  off : ∀ k, k < H.n → offRow v k → offRow v' k
  base : H'.base = H.base
  ng : H'.ng = H.ng
/-- elements more -/
theorem RowN.app (h : RowN N H e s v n xs) (hu : P.underlying t = some (.slice e)) (hs : lesz P e = some s) (hc : new.all cellB = true) (hl : new.length = m * s) (hm : n + m ≤ maxElems) (hN : N ≤ H.n) (hf : m ≤ 1 ∨ Full v) :
    ∃ v' H', lapp P t v (some (m, new)) H = some (v', H') ∧ RowN N H' e s v' (n + m) (xs ++ new) ∧ Kept H H' v v' ∧ (Full v → Full v') := by
  have hlen : (xs ++ new).length = (n + m) * s := by rw [List.length_append, h.1, hl, Nat.add_mul]
  by_cases h0 : m = 0
  · subst h0
    have hn0 : new = [] := List.eq_nil_of_length_eq_zero (by rw [hl, Nat.zero_mul])
    subst hn0
    refine ⟨v, H, ?_, by simpa using h, ⟨Nat.le_refl _, fun _ _ _ => rfl, fun _ _ h => h, rfl, rfl⟩, fun h => h⟩
    rcases h.2 with ⟨rfl, rfl⟩ | ⟨k, c, rest, rfl, _, _, h2, h3, h4⟩
    · exact lapp_nil0 hu hs
    · simp only [lapp, hu, hs, hc, h2, if_true]
      rw [if_pos ⟨trivial, trivial, trivial, h4, h3⟩]
  rcases h.2 with ⟨rfl, rfl⟩ | ⟨k, c, rest, rfl, h1, h2, h3, h4, h5⟩
  · have hx : xs = [] := List.eq_nil_of_length_eq_zero (by rw [h.1, Nat.zero_mul])
    subst hx
    refine ⟨_, _, lapp_nil hu hs hc h0 (by omega), ⟨hlen, .inr ⟨H.n, m, [], by simp, hN, by simp, by simp, by omega, by simpa using hl⟩⟩, ⟨by simp, fun k hk _ => get_new_ne (by omega), fun k hk _ n c h => ?_, rfl, rfl⟩, fun _ => full_new⟩
    injection h with h
    injection h with h
    injection h with h
    omega
  · rcases Nat.lt_or_ge c (n + m) with hroom | hroom
    · by_cases hnc : n = c
      · subst hnc
        have hr : rest = [] := List.eq_nil_of_length_eq_zero (by rw [List.length_append, h.1] at h5; omega)
        subst hr
        rw [List.append_nil] at h3
        have ha := lapp_grow (P := P) (H := H) (t := t) (m := m) (new := new) (n := n) (s := s) hu hs hc h0 hm h3 rfl rfl h.1
        refine ⟨_, _, ha, ⟨hlen, .inr ⟨H.n, n + m, [], by simp, hN, by simp, ?_, Nat.le_refl _, by simpa using hlen⟩⟩, ⟨by simp, fun j hj ho => ?_, fun j hj ho n c h => ?_, rfl, rfl⟩, fun _ => full_new⟩
        · rw [show H.n = (H.kill k).n from rfl, get_new]; simp
        · have hjk : j ≠ k := fun e => ho _ _ (by rw [e])
          rw [get_new_ne (by simp; omega), get_kill_ne hjk]
        · injection h with h
          injection h with h
          injection h with h
          omega
      · exfalso
        rcases hf with hf | hf
        · omega
        · exact hnc (hf k n c rfl).symm
    · have ha := lapp_in (P := P) (H := H) (t := t) (m := m) (new := new) (n := n) (cp := c) (s := s) hu hs hc h0 h3 rfl rfl h5 hroom
      have hrest : rest.length = (c - n) * s := by
        rw [List.length_append, h.1] at h5
        rw [Nat.sub_mul]; omega
      have hmr : m * s ≤ (c - n) * s := Nat.mul_le_mul_right _ (by omega)
      refine ⟨_, _, ha, ⟨hlen, .inr ⟨k, c, rest.drop (m * s), rfl, h1, h2, ?_, hroom, ?_⟩⟩, ⟨Nat.le_refl _, fun j hj ho => ?_, fun j hj ho n c' h => ?_, rfl, rfl⟩, fun hf => absurd (hf k n c rfl) (by omega)⟩
      · rw [get_set]
        congr 2
        simp only [splice]
        rw [← h.1, List.take_left', List.drop_append, hl]
        · simp [List.drop_eq_nil_of_le]
        · rfl
      · rw [List.length_append, hlen, List.length_drop, hrest, ← Nat.sub_mul, ← Nat.add_mul]
        congr 1; omega
      · have hjk : j ≠ k := fun e => ho _ _ (by rw [e])
        rw [get_set_ne hjk]
      · injection h with h
        injection h with h
        injection h with h
        subst h
        exact ho _ _ rfl
end
end Go.Lg
/-
  Bytes as the numbers that they are.
-/
set_option linter.unusedSimpArgs false
set_option linter.unusedVariables false
namespace Go.Lg
theorem u8eq (b : UInt8) (n : Nat) (hn : n < 256) : ((b.toNat : Int) = n) = (b = UInt8.ofNat n) := by
  have := b.toNat_lt
  apply propext
  constructor
  · intro h
    apply UInt8.toNat_inj.1
    simp; omega
  · rintro rfl
    simp; omega
section
variable {b : UInt8}
@[simp] theorem u8q0 : ((b.toNat : Int) = 0) = (b = 0) := u8eq b 0 (by decide)
@[simp] theorem u8q1 : ((b.toNat : Int) = 1) = (b = 1) := u8eq b 1 (by decide)
@[simp] theorem u8q2 : ((b.toNat : Int) = 2) = (b = 2) := u8eq b 2 (by decide)
@[simp] theorem u8q3 : ((b.toNat : Int) = 3) = (b = 3) := u8eq b 3 (by decide)
@[simp] theorem u8q4 : ((b.toNat : Int) = 4) = (b = 4) := u8eq b 4 (by decide)
@[simp] theorem u8q5 : ((b.toNat : Int) = 5) = (b = 5) := u8eq b 5 (by decide)
@[simp] theorem u8q6 : ((b.toNat : Int) = 6) = (b = 6) := u8eq b 6 (by decide)
@[simp] theorem u8q7 : ((b.toNat : Int) = 7) = (b = 7) := u8eq b 7 (by decide)
@[simp] theorem u8q8 : ((b.toNat : Int) = 8) = (b = 8) := u8eq b 8 (by decide)
@[simp] theorem u8q9 : ((b.toNat : Int) = 9) = (b = 9) := u8eq b 9 (by decide)
@[simp] theorem u8q10 : ((b.toNat : Int) = 10) = (b = 10) := u8eq b 10 (by decide)
@[simp] theorem u8q11 : ((b.toNat : Int) = 11) = (b = 11) := u8eq b 11 (by decide)
@[simp] theorem u8q12 : ((b.toNat : Int) = 12) = (b = 12) := u8eq b 12 (by decide)
@[simp] theorem u8q13 : ((b.toNat : Int) = 13) = (b = 13) := u8eq b 13 (by decide)
@[simp] theorem u8q14 : ((b.toNat : Int) = 14) = (b = 14) := u8eq b 14 (by decide)
@[simp] theorem u8q15 : ((b.toNat : Int) = 15) = (b = 15) := u8eq b 15 (by decide)
@[simp] theorem u8q16 : ((b.toNat : Int) = 16) = (b = 16) := u8eq b 16 (by decide)
@[simp] theorem u8q17 : ((b.toNat : Int) = 17) = (b = 17) := u8eq b 17 (by decide)
@[simp] theorem u8q18 : ((b.toNat : Int) = 18) = (b = 18) := u8eq b 18 (by decide)
@[simp] theorem u8q19 : ((b.toNat : Int) = 19) = (b = 19) := u8eq b 19 (by decide)
@[simp] theorem u8q20 : ((b.toNat : Int) = 20) = (b = 20) := u8eq b 20 (by decide)
@[simp] theorem u8q21 : ((b.toNat : Int) = 21) = (b = 21) := u8eq b 21 (by decide)
@[simp] theorem u8q22 : ((b.toNat : Int) = 22) = (b = 22) := u8eq b 22 (by decide)
@[simp] theorem u8q23 : ((b.toNat : Int) = 23) = (b = 23) := u8eq b 23 (by decide)
@[simp] theorem u8q24 : ((b.toNat : Int) = 24) = (b = 24) := u8eq b 24 (by decide)
@[simp] theorem u8q25 : ((b.toNat : Int) = 25) = (b = 25) := u8eq b 25 (by decide)
@[simp] theorem u8q26 : ((b.toNat : Int) = 26) = (b = 26) := u8eq b 26 (by decide)
@[simp] theorem u8q27 : ((b.toNat : Int) = 27) = (b = 27) := u8eq b 27 (by decide)
@[simp] theorem u8q28 : ((b.toNat : Int) = 28) = (b = 28) := u8eq b 28 (by decide)
@[simp] theorem u8q29 : ((b.toNat : Int) = 29) = (b = 29) := u8eq b 29 (by decide)
@[simp] theorem u8q30 : ((b.toNat : Int) = 30) = (b = 30) := u8eq b 30 (by decide)
@[simp] theorem u8q31 : ((b.toNat : Int) = 31) = (b = 31) := u8eq b 31 (by decide)
@[simp] theorem u8q32 : ((b.toNat : Int) = 32) = (b = 32) := u8eq b 32 (by decide)
@[simp] theorem u8q33 : ((b.toNat : Int) = 33) = (b = 33) := u8eq b 33 (by decide)
@[simp] theorem u8q34 : ((b.toNat : Int) = 34) = (b = 34) := u8eq b 34 (by decide)
@[simp] theorem u8q35 : ((b.toNat : Int) = 35) = (b = 35) := u8eq b 35 (by decide)
@[simp] theorem u8q36 : ((b.toNat : Int) = 36) = (b = 36) := u8eq b 36 (by decide)
@[simp] theorem u8q37 : ((b.toNat : Int) = 37) = (b = 37) := u8eq b 37 (by decide)
@[simp] theorem u8q38 : ((b.toNat : Int) = 38) = (b = 38) := u8eq b 38 (by decide)
@[simp] theorem u8q39 : ((b.toNat : Int) = 39) = (b = 39) := u8eq b 39 (by decide)
@[simp] theorem u8q40 : ((b.toNat : Int) = 40) = (b = 40) := u8eq b 40 (by decide)
@[simp] theorem u8q41 : ((b.toNat : Int) = 41) = (b = 41) := u8eq b 41 (by decide)
@[simp] theorem u8q42 : ((b.toNat : Int) = 42) = (b = 42) := u8eq b 42 (by decide)
@[simp] theorem u8q43 : ((b.toNat : Int) = 43) = (b = 43) := u8eq b 43 (by decide)
@[simp] theorem u8q44 : ((b.toNat : Int) = 44) = (b = 44) := u8eq b 44 (by decide)
@[simp] theorem u8q45 : ((b.toNat : Int) = 45) = (b = 45) := u8eq b 45 (by decide)
@[simp] theorem u8q46 : ((b.toNat : Int) = 46) = (b = 46) := u8eq b 46 (by decide)
@[simp] theorem u8q47 : ((b.toNat : Int) = 47) = (b = 47) := u8eq b 47 (by decide)
@[simp] theorem u8q48 : ((b.toNat : Int) = 48) = (b = 48) := u8eq b 48 (by decide)
@[simp] theorem u8q49 : ((b.toNat : Int) = 49) = (b = 49) := u8eq b 49 (by decide)
@[simp] theorem u8q50 : ((b.toNat : Int) = 50) = (b = 50) := u8eq b 50 (by decide)
@[simp] theorem u8q51 : ((b.toNat : Int) = 51) = (b = 51) := u8eq b 51 (by decide)
@[simp] theorem u8q52 : ((b.toNat : Int) = 52) = (b = 52) := u8eq b 52 (by decide)
@[simp] theorem u8q53 : ((b.toNat : Int) = 53) = (b = 53) := u8eq b 53 (by decide)
@[simp] theorem u8q54 : ((b.toNat : Int) = 54) = (b = 54) := u8eq b 54 (by decide)
@[simp] theorem u8q55 : ((b.toNat : Int) = 55) = (b = 55) := u8eq b 55 (by decide)
@[simp] theorem u8q56 : ((b.toNat : Int) = 56) = (b = 56) := u8eq b 56 (by decide)
@[simp] theorem u8q57 : ((b.toNat : Int) = 57) = (b = 57) := u8eq b 57 (by decide)
@[simp] theorem u8q58 : ((b.toNat : Int) = 58) = (b = 58) := u8eq b 58 (by decide)
@[simp] theorem u8q59 : ((b.toNat : Int) = 59) = (b = 59) := u8eq b 59 (by decide)
@[simp] theorem u8q60 : ((b.toNat : Int) = 60) = (b = 60) := u8eq b 60 (by decide)
@[simp] theorem u8q61 : ((b.toNat : Int) = 61) = (b = 61) := u8eq b 61 (by decide)
@[simp] theorem u8q62 : ((b.toNat : Int) = 62) = (b = 62) := u8eq b 62 (by decide)
@[simp] theorem u8q63 : ((b.toNat : Int) = 63) = (b = 63) := u8eq b 63 (by decide)
@[simp] theorem u8q64 : ((b.toNat : Int) = 64) = (b = 64) := u8eq b 64 (by decide)
@[simp] theorem u8q65 : ((b.toNat : Int) = 65) = (b = 65) := u8eq b 65 (by decide)
@[simp] theorem u8q66 : ((b.toNat : Int) = 66) = (b = 66) := u8eq b 66 (by decide)
@[simp] theorem u8q67 : ((b.toNat : Int) = 67) = (b = 67) := u8eq b 67 (by decide)
@[simp] theorem u8q68 : ((b.toNat : Int) = 68) = (b = 68) := u8eq b 68 (by decide)
@[simp] theorem u8q69 : ((b.toNat : Int) = 69) = (b = 69) := u8eq b 69 (by decide)
@[simp] theorem u8q70 : ((b.toNat : Int) = 70) = (b = 70) := u8eq b 70 (by decide)
@[simp] theorem u8q71 : ((b.toNat : Int) = 71) = (b = 71) := u8eq b 71 (by decide)
@[simp] theorem u8q72 : ((b.toNat : Int) = 72) = (b = 72) := u8eq b 72 (by decide)
@[simp] theorem u8q73 : ((b.toNat : Int) = 73) = (b = 73) := u8eq b 73 (by decide)
@[simp] theorem u8q74 : ((b.toNat : Int) = 74) = (b = 74) := u8eq b 74 (by decide)
@[simp] theorem u8q75 : ((b.toNat : Int) = 75) = (b = 75) := u8eq b 75 (by decide)
@[simp] theorem u8q76 : ((b.toNat : Int) = 76) = (b = 76) := u8eq b 76 (by decide)
@[simp] theorem u8q77 : ((b.toNat : Int) = 77) = (b = 77) := u8eq b 77 (by decide)
@[simp] theorem u8q78 : ((b.toNat : Int) = 78) = (b = 78) := u8eq b 78 (by decide)
@[simp] theorem u8q79 : ((b.toNat : Int) = 79) = (b = 79) := u8eq b 79 (by decide)
@[simp] theorem u8q80 : ((b.toNat : Int) = 80) = (b = 80) := u8eq b 80 (by decide)
@[simp] theorem u8q81 : ((b.toNat : Int) = 81) = (b = 81) := u8eq b 81 (by decide)
@[simp] theorem u8q82 : ((b.toNat : Int) = 82) = (b = 82) := u8eq b 82 (by decide)
@[simp] theorem u8q83 : ((b.toNat : Int) = 83) = (b = 83) := u8eq b 83 (by decide)
@[simp] theorem u8q84 : ((b.toNat : Int) = 84) = (b = 84) := u8eq b 84 (by decide)
@[simp] theorem u8q85 : ((b.toNat : Int) = 85) = (b = 85) := u8eq b 85 (by decide)
@[simp] theorem u8q86 : ((b.toNat : Int) = 86) = (b = 86) := u8eq b 86 (by decide)
@[simp] theorem u8q87 : ((b.toNat : Int) = 87) = (b = 87) := u8eq b 87 (by decide)
@[simp] theorem u8q88 : ((b.toNat : Int) = 88) = (b = 88) := u8eq b 88 (by decide)
@[simp] theorem u8q89 : ((b.toNat : Int) = 89) = (b = 89) := u8eq b 89 (by decide)
@[simp] theorem u8q90 : ((b.toNat : Int) = 90) = (b = 90) := u8eq b 90 (by decide)
@[simp] theorem u8q91 : ((b.toNat : Int) = 91) = (b = 91) := u8eq b 91 (by decide)
@[simp] theorem u8q92 : ((b.toNat : Int) = 92) = (b = 92) := u8eq b 92 (by decide)
@[simp] theorem u8q93 : ((b.toNat : Int) = 93) = (b = 93) := u8eq b 93 (by decide)
@[simp] theorem u8q94 : ((b.toNat : Int) = 94) = (b = 94) := u8eq b 94 (by decide)
@[simp] theorem u8q95 : ((b.toNat : Int) = 95) = (b = 95) := u8eq b 95 (by decide)
@[simp] theorem u8q96 : ((b.toNat : Int) = 96) = (b = 96) := u8eq b 96 (by decide)
@[simp] theorem u8q97 : ((b.toNat : Int) = 97) = (b = 97) := u8eq b 97 (by decide)
@[simp] theorem u8q98 : ((b.toNat : Int) = 98) = (b = 98) := u8eq b 98 (by decide)
@[simp] theorem u8q99 : ((b.toNat : Int) = 99) = (b = 99) := u8eq b 99 (by decide)
@[simp] theorem u8q100 : ((b.toNat : Int) = 100) = (b = 100) := u8eq b 100 (by decide)
@[simp] theorem u8q101 : ((b.toNat : Int) = 101) = (b = 101) := u8eq b 101 (by decide)
@[simp] theorem u8q102 : ((b.toNat : Int) = 102) = (b = 102) := u8eq b 102 (by decide)
@[simp] theorem u8q103 : ((b.toNat : Int) = 103) = (b = 103) := u8eq b 103 (by decide)
@[simp] theorem u8q104 : ((b.toNat : Int) = 104) = (b = 104) := u8eq b 104 (by decide)
@[simp] theorem u8q105 : ((b.toNat : Int) = 105) = (b = 105) := u8eq b 105 (by decide)
@[simp] theorem u8q106 : ((b.toNat : Int) = 106) = (b = 106) := u8eq b 106 (by decide)
@[simp] theorem u8q107 : ((b.toNat : Int) = 107) = (b = 107) := u8eq b 107 (by decide)
@[simp] theorem u8q108 : ((b.toNat : Int) = 108) = (b = 108) := u8eq b 108 (by decide)
@[simp] theorem u8q109 : ((b.toNat : Int) = 109) = (b = 109) := u8eq b 109 (by decide)
@[simp] theorem u8q110 : ((b.toNat : Int) = 110) = (b = 110) := u8eq b 110 (by decide)
@[simp] theorem u8q111 : ((b.toNat : Int) = 111) = (b = 111) := u8eq b 111 (by decide)
@[simp] theorem u8q112 : ((b.toNat : Int) = 112) = (b = 112) := u8eq b 112 (by decide)
@[simp] theorem u8q113 : ((b.toNat : Int) = 113) = (b = 113) := u8eq b 113 (by decide)
@[simp] theorem u8q114 : ((b.toNat : Int) = 114) = (b = 114) := u8eq b 114 (by decide)
@[simp] theorem u8q115 : ((b.toNat : Int) = 115) = (b = 115) := u8eq b 115 (by decide)
@[simp] theorem u8q116 : ((b.toNat : Int) = 116) = (b = 116) := u8eq b 116 (by decide)
@[simp] theorem u8q117 : ((b.toNat : Int) = 117) = (b = 117) := u8eq b 117 (by decide)
@[simp] theorem u8q118 : ((b.toNat : Int) = 118) = (b = 118) := u8eq b 118 (by decide)
@[simp] theorem u8q119 : ((b.toNat : Int) = 119) = (b = 119) := u8eq b 119 (by decide)
@[simp] theorem u8q120 : ((b.toNat : Int) = 120) = (b = 120) := u8eq b 120 (by decide)
@[simp] theorem u8q121 : ((b.toNat : Int) = 121) = (b = 121) := u8eq b 121 (by decide)
@[simp] theorem u8q122 : ((b.toNat : Int) = 122) = (b = 122) := u8eq b 122 (by decide)
@[simp] theorem u8q123 : ((b.toNat : Int) = 123) = (b = 123) := u8eq b 123 (by decide)
@[simp] theorem u8q124 : ((b.toNat : Int) = 124) = (b = 124) := u8eq b 124 (by decide)
@[simp] theorem u8q125 : ((b.toNat : Int) = 125) = (b = 125) := u8eq b 125 (by decide)
@[simp] theorem u8q126 : ((b.toNat : Int) = 126) = (b = 126) := u8eq b 126 (by decide)
@[simp] theorem u8q127 : ((b.toNat : Int) = 127) = (b = 127) := u8eq b 127 (by decide)
@[simp] theorem u8q128 : ((b.toNat : Int) = 128) = (b = 128) := u8eq b 128 (by decide)
@[simp] theorem u8q129 : ((b.toNat : Int) = 129) = (b = 129) := u8eq b 129 (by decide)
@[simp] theorem u8q130 : ((b.toNat : Int) = 130) = (b = 130) := u8eq b 130 (by decide)
@[simp] theorem u8q131 : ((b.toNat : Int) = 131) = (b = 131) := u8eq b 131 (by decide)
@[simp] theorem u8q132 : ((b.toNat : Int) = 132) = (b = 132) := u8eq b 132 (by decide)
@[simp] theorem u8q133 : ((b.toNat : Int) = 133) = (b = 133) := u8eq b 133 (by decide)
@[simp] theorem u8q134 : ((b.toNat : Int) = 134) = (b = 134) := u8eq b 134 (by decide)
@[simp] theorem u8q135 : ((b.toNat : Int) = 135) = (b = 135) := u8eq b 135 (by decide)
@[simp] theorem u8q136 : ((b.toNat : Int) = 136) = (b = 136) := u8eq b 136 (by decide)
@[simp] theorem u8q137 : ((b.toNat : Int) = 137) = (b = 137) := u8eq b 137 (by decide)
@[simp] theorem u8q138 : ((b.toNat : Int) = 138) = (b = 138) := u8eq b 138 (by decide)
@[simp] theorem u8q139 : ((b.toNat : Int) = 139) = (b = 139) := u8eq b 139 (by decide)
@[simp] theorem u8q140 : ((b.toNat : Int) = 140) = (b = 140) := u8eq b 140 (by decide)
@[simp] theorem u8q141 : ((b.toNat : Int) = 141) = (b = 141) := u8eq b 141 (by decide)
@[simp] theorem u8q142 : ((b.toNat : Int) = 142) = (b = 142) := u8eq b 142 (by decide)
@[simp] theorem u8q143 : ((b.toNat : Int) = 143) = (b = 143) := u8eq b 143 (by decide)
@[simp] theorem u8q144 : ((b.toNat : Int) = 144) = (b = 144) := u8eq b 144 (by decide)
@[simp] theorem u8q145 : ((b.toNat : Int) = 145) = (b = 145) := u8eq b 145 (by decide)
@[simp] theorem u8q146 : ((b.toNat : Int) = 146) = (b = 146) := u8eq b 146 (by decide)
@[simp] theorem u8q147 : ((b.toNat : Int) = 147) = (b = 147) := u8eq b 147 (by decide)
@[simp] theorem u8q148 : ((b.toNat : Int) = 148) = (b = 148) := u8eq b 148 (by decide)
@[simp] theorem u8q149 : ((b.toNat : Int) = 149) = (b = 149) := u8eq b 149 (by decide)
@[simp] theorem u8q150 : ((b.toNat : Int) = 150) = (b = 150) := u8eq b 150 (by decide)
@[simp] theorem u8q151 : ((b.toNat : Int) = 151) = (b = 151) := u8eq b 151 (by decide)
@[simp] theorem u8q152 : ((b.toNat : Int) = 152) = (b = 152) := u8eq b 152 (by decide)
@[simp] theorem u8q153 : ((b.toNat : Int) = 153) = (b = 153) := u8eq b 153 (by decide)
@[simp] theorem u8q154 : ((b.toNat : Int) = 154) = (b = 154) := u8eq b 154 (by decide)
@[simp] theorem u8q155 : ((b.toNat : Int) = 155) = (b = 155) := u8eq b 155 (by decide)
@[simp] theorem u8q156 : ((b.toNat : Int) = 156) = (b = 156) := u8eq b 156 (by decide)
@[simp] theorem u8q157 : ((b.toNat : Int) = 157) = (b = 157) := u8eq b 157 (by decide)
@[simp] theorem u8q158 : ((b.toNat : Int) = 158) = (b = 158) := u8eq b 158 (by decide)
@[simp] theorem u8q159 : ((b.toNat : Int) = 159) = (b = 159) := u8eq b 159 (by decide)
@[simp] theorem u8q160 : ((b.toNat : Int) = 160) = (b = 160) := u8eq b 160 (by decide)
@[simp] theorem u8q161 : ((b.toNat : Int) = 161) = (b = 161) := u8eq b 161 (by decide)
@[simp] theorem u8q162 : ((b.toNat : Int) = 162) = (b = 162) := u8eq b 162 (by decide)
@[simp] theorem u8q163 : ((b.toNat : Int) = 163) = (b = 163) := u8eq b 163 (by decide)
@[simp] theorem u8q164 : ((b.toNat : Int) = 164) = (b = 164) := u8eq b 164 (by decide)
@[simp] theorem u8q165 : ((b.toNat : Int) = 165) = (b = 165) := u8eq b 165 (by decide)
@[simp] theorem u8q166 : ((b.toNat : Int) = 166) = (b = 166) := u8eq b 166 (by decide)
@[simp] theorem u8q167 : ((b.toNat : Int) = 167) = (b = 167) := u8eq b 167 (by decide)
@[simp] theorem u8q168 : ((b.toNat : Int) = 168) = (b = 168) := u8eq b 168 (by decide)
@[simp] theorem u8q169 : ((b.toNat : Int) = 169) = (b = 169) := u8eq b 169 (by decide)
@[simp] theorem u8q170 : ((b.toNat : Int) = 170) = (b = 170) := u8eq b 170 (by decide)
@[simp] theorem u8q171 : ((b.toNat : Int) = 171) = (b = 171) := u8eq b 171 (by decide)
@[simp] theorem u8q172 : ((b.toNat : Int) = 172) = (b = 172) := u8eq b 172 (by decide)
@[simp] theorem u8q173 : ((b.toNat : Int) = 173) = (b = 173) := u8eq b 173 (by decide)
@[simp] theorem u8q174 : ((b.toNat : Int) = 174) = (b = 174) := u8eq b 174 (by decide)
@[simp] theorem u8q175 : ((b.toNat : Int) = 175) = (b = 175) := u8eq b 175 (by decide)
@[simp] theorem u8q176 : ((b.toNat : Int) = 176) = (b = 176) := u8eq b 176 (by decide)
@[simp] theorem u8q177 : ((b.toNat : Int) = 177) = (b = 177) := u8eq b 177 (by decide)
@[simp] theorem u8q178 : ((b.toNat : Int) = 178) = (b = 178) := u8eq b 178 (by decide)
@[simp] theorem u8q179 : ((b.toNat : Int) = 179) = (b = 179) := u8eq b 179 (by decide)
@[simp] theorem u8q180 : ((b.toNat : Int) = 180) = (b = 180) := u8eq b 180 (by decide)
@[simp] theorem u8q181 : ((b.toNat : Int) = 181) = (b = 181) := u8eq b 181 (by decide)
@[simp] theorem u8q182 : ((b.toNat : Int) = 182) = (b = 182) := u8eq b 182 (by decide)
@[simp] theorem u8q183 : ((b.toNat : Int) = 183) = (b = 183) := u8eq b 183 (by decide)
@[simp] theorem u8q184 : ((b.toNat : Int) = 184) = (b = 184) := u8eq b 184 (by decide)
@[simp] theorem u8q185 : ((b.toNat : Int) = 185) = (b = 185) := u8eq b 185 (by decide)
@[simp] theorem u8q186 : ((b.toNat : Int) = 186) = (b = 186) := u8eq b 186 (by decide)
@[simp] theorem u8q187 : ((b.toNat : Int) = 187) = (b = 187) := u8eq b 187 (by decide)
@[simp] theorem u8q188 : ((b.toNat : Int) = 188) = (b = 188) := u8eq b 188 (by decide)
@[simp] theorem u8q189 : ((b.toNat : Int) = 189) = (b = 189) := u8eq b 189 (by decide)
@[simp] theorem u8q190 : ((b.toNat : Int) = 190) = (b = 190) := u8eq b 190 (by decide)
@[simp] theorem u8q191 : ((b.toNat : Int) = 191) = (b = 191) := u8eq b 191 (by decide)
@[simp] theorem u8q192 : ((b.toNat : Int) = 192) = (b = 192) := u8eq b 192 (by decide)
@[simp] theorem u8q193 : ((b.toNat : Int) = 193) = (b = 193) := u8eq b 193 (by decide)
@[simp] theorem u8q194 : ((b.toNat : Int) = 194) = (b = 194) := u8eq b 194 (by decide)
@[simp] theorem u8q195 : ((b.toNat : Int) = 195) = (b = 195) := u8eq b 195 (by decide)
@[simp] theorem u8q196 : ((b.toNat : Int) = 196) = (b = 196) := u8eq b 196 (by decide)
@[simp] theorem u8q197 : ((b.toNat : Int) = 197) = (b = 197) := u8eq b 197 (by decide)
@[simp] theorem u8q198 : ((b.toNat : Int) = 198) = (b = 198) := u8eq b 198 (by decide)
@[simp] theorem u8q199 : ((b.toNat : Int) = 199) = (b = 199) := u8eq b 199 (by decide)
@[simp] theorem u8q200 : ((b.toNat : Int) = 200) = (b = 200) := u8eq b 200 (by decide)
@[simp] theorem u8q201 : ((b.toNat : Int) = 201) = (b = 201) := u8eq b 201 (by decide)
@[simp] theorem u8q202 : ((b.toNat : Int) = 202) = (b = 202) := u8eq b 202 (by decide)
@[simp] theorem u8q203 : ((b.toNat : Int) = 203) = (b = 203) := u8eq b 203 (by decide)
@[simp] theorem u8q204 : ((b.toNat : Int) = 204) = (b = 204) := u8eq b 204 (by decide)
@[simp] theorem u8q205 : ((b.toNat : Int) = 205) = (b = 205) := u8eq b 205 (by decide)
@[simp] theorem u8q206 : ((b.toNat : Int) = 206) = (b = 206) := u8eq b 206 (by decide)
@[simp] theorem u8q207 : ((b.toNat : Int) = 207) = (b = 207) := u8eq b 207 (by decide)
@[simp] theorem u8q208 : ((b.toNat : Int) = 208) = (b = 208) := u8eq b 208 (by decide)
@[simp] theorem u8q209 : ((b.toNat : Int) = 209) = (b = 209) := u8eq b 209 (by decide)
@[simp] theorem u8q210 : ((b.toNat : Int) = 210) = (b = 210) := u8eq b 210 (by decide)
@[simp] theorem u8q211 : ((b.toNat : Int) = 211) = (b = 211) := u8eq b 211 (by decide)
@[simp] theorem u8q212 : ((b.toNat : Int) = 212) = (b = 212) := u8eq b 212 (by decide)
@[simp] theorem u8q213 : ((b.toNat : Int) = 213) = (b = 213) := u8eq b 213 (by decide)
@[simp] theorem u8q214 : ((b.toNat : Int) = 214) = (b = 214) := u8eq b 214 (by decide)
@[simp] theorem u8q215 : ((b.toNat : Int) = 215) = (b = 215) := u8eq b 215 (by decide)
@[simp] theorem u8q216 : ((b.toNat : Int) = 216) = (b = 216) := u8eq b 216 (by decide)
@[simp] theorem u8q217 : ((b.toNat : Int) = 217) = (b = 217) := u8eq b 217 (by decide)
@[simp] theorem u8q218 : ((b.toNat : Int) = 218) = (b = 218) := u8eq b 218 (by decide)
@[simp] theorem u8q219 : ((b.toNat : Int) = 219) = (b = 219) := u8eq b 219 (by decide)
@[simp] theorem u8q220 : ((b.toNat : Int) = 220) = (b = 220) := u8eq b 220 (by decide)
@[simp] theorem u8q221 : ((b.toNat : Int) = 221) = (b = 221) := u8eq b 221 (by decide)
@[simp] theorem u8q222 : ((b.toNat : Int) = 222) = (b = 222) := u8eq b 222 (by decide)
@[simp] theorem u8q223 : ((b.toNat : Int) = 223) = (b = 223) := u8eq b 223 (by decide)
@[simp] theorem u8q224 : ((b.toNat : Int) = 224) = (b = 224) := u8eq b 224 (by decide)
@[simp] theorem u8q225 : ((b.toNat : Int) = 225) = (b = 225) := u8eq b 225 (by decide)
@[simp] theorem u8q226 : ((b.toNat : Int) = 226) = (b = 226) := u8eq b 226 (by decide)
@[simp] theorem u8q227 : ((b.toNat : Int) = 227) = (b = 227) := u8eq b 227 (by decide)
@[simp] theorem u8q228 : ((b.toNat : Int) = 228) = (b = 228) := u8eq b 228 (by decide)
@[simp] theorem u8q229 : ((b.toNat : Int) = 229) = (b = 229) := u8eq b 229 (by decide)
@[simp] theorem u8q230 : ((b.toNat : Int) = 230) = (b = 230) := u8eq b 230 (by decide)
@[simp] theorem u8q231 : ((b.toNat : Int) = 231) = (b = 231) := u8eq b 231 (by decide)
@[simp] theorem u8q232 : ((b.toNat : Int) = 232) = (b = 232) := u8eq b 232 (by decide)
@[simp] theorem u8q233 : ((b.toNat : Int) = 233) = (b = 233) := u8eq b 233 (by decide)
@[simp] theorem u8q234 : ((b.toNat : Int) = 234) = (b = 234) := u8eq b 234 (by decide)
@[simp] theorem u8q235 : ((b.toNat : Int) = 235) = (b = 235) := u8eq b 235 (by decide)
@[simp] theorem u8q236 : ((b.toNat : Int) = 236) = (b = 236) := u8eq b 236 (by decide)
@[simp] theorem u8q237 : ((b.toNat : Int) = 237) = (b = 237) := u8eq b 237 (by decide)
@[simp] theorem u8q238 : ((b.toNat : Int) = 238) = (b = 238) := u8eq b 238 (by decide)
@[simp] theorem u8q239 : ((b.toNat : Int) = 239) = (b = 239) := u8eq b 239 (by decide)
@[simp] theorem u8q240 : ((b.toNat : Int) = 240) = (b = 240) := u8eq b 240 (by decide)
@[simp] theorem u8q241 : ((b.toNat : Int) = 241) = (b = 241) := u8eq b 241 (by decide)
@[simp] theorem u8q242 : ((b.toNat : Int) = 242) = (b = 242) := u8eq b 242 (by decide)
@[simp] theorem u8q243 : ((b.toNat : Int) = 243) = (b = 243) := u8eq b 243 (by decide)
@[simp] theorem u8q244 : ((b.toNat : Int) = 244) = (b = 244) := u8eq b 244 (by decide)
@[simp] theorem u8q245 : ((b.toNat : Int) = 245) = (b = 245) := u8eq b 245 (by decide)
@[simp] theorem u8q246 : ((b.toNat : Int) = 246) = (b = 246) := u8eq b 246 (by decide)
@[simp] theorem u8q247 : ((b.toNat : Int) = 247) = (b = 247) := u8eq b 247 (by decide)
@[simp] theorem u8q248 : ((b.toNat : Int) = 248) = (b = 248) := u8eq b 248 (by decide)
@[simp] theorem u8q249 : ((b.toNat : Int) = 249) = (b = 249) := u8eq b 249 (by decide)
@[simp] theorem u8q250 : ((b.toNat : Int) = 250) = (b = 250) := u8eq b 250 (by decide)
@[simp] theorem u8q251 : ((b.toNat : Int) = 251) = (b = 251) := u8eq b 251 (by decide)
@[simp] theorem u8q252 : ((b.toNat : Int) = 252) = (b = 252) := u8eq b 252 (by decide)
@[simp] theorem u8q253 : ((b.toNat : Int) = 253) = (b = 253) := u8eq b 253 (by decide)
@[simp] theorem u8q254 : ((b.toNat : Int) = 254) = (b = 254) := u8eq b 254 (by decide)
@[simp] theorem u8q255 : ((b.toNat : Int) = 255) = (b = 255) := u8eq b 255 (by decide)
@[simp] theorem u8lt : ((b.toNat : Int) < 256) = True := by simp; have := b.toNat_lt; omega
end
end Go.Lg
/-
  A logical run of Go code: rules for regions whose order is open.
-/
set_option linter.unusedSimpArgs false
set_option linter.unusedVariables false
namespace Go.Lg
open Go.Tg Go.RowKit
section
variable {P : Program} {fr : Fr} {H H0 : LH} {T : Callee} {L : Loud} {t s : TypeId} {x y i c : Operand}
@[simp ↓] theorem lmixx_move : lmixx P T (.move x) fr H0 H = lopx P T (.move x) fr H := rfl
@[simp ↓] theorem loud_move : loudOp L (.move x) = false := rfl
@[simp ↓] theorem lmixx_assign : lmixx P T (.assign x) fr H0 H = lopx P T (.assign x) fr H := rfl
@[simp ↓] theorem loud_assign : loudOp L (.assign x) = false := rfl
@[simp ↓] theorem lmixx_pick : lmixx P T (.pick c x y) fr H0 H = lopx P T (.pick c x y) fr H := rfl
@[simp ↓] theorem loud_pick : loudOp L (.pick c x y) = false := rfl
@[simp ↓] theorem lmixx_box : lmixx P T (.box t x) fr H0 H = lopx P T (.box t x) fr H := rfl
@[simp ↓] theorem loud_box : loudOp L (.box t x) = false := rfl
@[simp ↓] theorem lmixx_alloc : lmixx P T (.alloc t) fr H0 H = lopx P T (.alloc t) fr H := rfl
@[simp ↓] theorem loud_alloc : loudOp L (.alloc t) = false := rfl
@[simp ↓] theorem lmixx_load : lmixx P T (.load t x) fr H0 H = lopx P T (.load t x) fr H := rfl
@[simp ↓] theorem loud_load : loudOp L (.load t x) = false := rfl
@[simp ↓] theorem lmixx_nilCheck : lmixx P T (.nilCheck x) fr H0 H = lopx P T (.nilCheck x) fr H := rfl
@[simp ↓] theorem loud_nilCheck : loudOp L (.nilCheck x) = false := rfl
@[simp ↓] theorem lmixx_fieldAddr {f : Nat} : lmixx P T (.fieldAddr t x f) fr H0 H = lopx P T (.fieldAddr t x f) fr H := rfl
@[simp ↓] theorem loud_fieldAddr {f : Nat} : loudOp L (.fieldAddr t x f) = false := rfl
@[simp ↓] theorem lmixx_indexAddr : lmixx P T (.indexAddr t x i) fr H0 H = lopx P T (.indexAddr t x i) fr H := rfl
@[simp ↓] theorem loud_indexAddr : loudOp L (.indexAddr t x i) = false := rfl
@[simp ↓] theorem lmixx_slice {lo hi mx : Option Operand} : lmixx P T (.slice t x lo hi mx) fr H0 H = lopx P T (.slice t x lo hi mx) fr H := rfl
@[simp ↓] theorem loud_slice {lo hi mx : Option Operand} : loudOp L (.slice t x lo hi mx) = false := rfl
@[simp ↓] theorem lmixx_field {f : Nat} : lmixx P T (.field t x f) fr H0 H = lopx P T (.field t x f) fr H := rfl
@[simp ↓] theorem loud_field {f : Nat} : loudOp L (.field t x f) = false := rfl
@[simp ↓] theorem lmixx_extract {f : Nat} : lmixx P T (.extract x f) fr H0 H = lopx P T (.extract x f) fr H := rfl
@[simp ↓] theorem loud_extract {f : Nat} : loudOp L (.extract x f) = false := rfl
@[simp ↓] theorem lmixx_build {ps : Array (Nat × Operand)} : lmixx P T (.build t ps) fr H0 H = lopx P T (.build t ps) fr H := rfl
@[simp ↓] theorem loud_build {ps : Array (Nat × Operand)} : loudOp L (.build t ps) = false := rfl
@[simp ↓] theorem lmixx_buildSlice {f : Nat} {ps : Array (Nat × Operand)} : lmixx P T (.buildSlice t f ps) fr H0 H = lopx P T (.buildSlice t f ps) fr H := rfl
@[simp ↓] theorem loud_buildSlice {f : Nat} {ps : Array (Nat × Operand)} : loudOp L (.buildSlice t f ps) = false := rfl
@[simp ↓] theorem lmixx_binOp {op : BinOp} : lmixx P T (.binOp op t x y s) fr H0 H = lopx P T (.binOp op t x y s) fr H := rfl
@[simp ↓] theorem loud_binOp {op : BinOp} : loudOp L (.binOp op t x y s) = false := rfl
@[simp ↓] theorem lmixx_unOp {uop : UnOp} : lmixx P T (.unOp uop t x) fr H0 H = lopx P T (.unOp uop t x) fr H := rfl
@[simp ↓] theorem loud_unOp {uop : UnOp} : loudOp L (.unOp uop t x) = false := rfl
@[simp ↓] theorem lmixx_convert : lmixx P T (.convert s t x) fr H0 H = lopx P T (.convert s t x) fr H := rfl
@[simp ↓] theorem loud_convert : loudOp L (.convert s t x) = false := rfl
@[simp ↓] theorem lmixx_index : lmixx P T (.index t x i) fr H0 H = lopx P T (.index t x i) fr H := rfl
@[simp ↓] theorem loud_index : loudOp L (.index t x i) = false := rfl
@[simp ↓] theorem lmixx_makeFunc {g : Fn} {c1 c2 : Array Operand} : lmixx P T (.makeFunc g c1 c2) fr H0 H = lopx P T (.makeFunc g c1 c2) fr H := rfl
@[simp ↓] theorem loud_makeFunc {g : Fn} {c1 c2 : Array Operand} : loudOp L (.makeFunc g c1 c2) = false := rfl
@[simp ↓] theorem loud_store : loudOp L (.store t x y) = true := rfl
@[simp ↓] theorem loud_append {args : Array Operand} {ts : Array TypeId} : loudOp L (.call ⟨.builtin .append, args, ts⟩) = true := rfl
@[simp ↓] theorem loud_len {args : Array Operand} {ts : Array TypeId} : loudOp L (.call ⟨.builtin .len, args, ts⟩) = false := rfl
@[simp ↓] theorem loud_min {args : Array Operand} {ts : Array TypeId} : loudOp L (.call ⟨.builtin .min, args, ts⟩) = false := rfl
@[simp ↓] theorem loud_max {args : Array Operand} {ts : Array TypeId} : loudOp L (.call ⟨.builtin .max, args, ts⟩) = false := rfl
@[simp ↓] theorem loud_call {g : FuncId} {args : Array Operand} {ts : Array TypeId} : loudOp L (.call ⟨.value (.func g), args, ts⟩) = L g := rfl
@[simp ↓] theorem loud_callt {g : Tmp} {args : Array Operand} {ts : Array TypeId} : loudOp L (.call ⟨.value (.tmp g), args, ts⟩) = false := rfl
def sameH (x : Option (Value × LH)) (H : LH) : Option (Value × LH) := x.map fun r => (r.1, H)
@[simp] theorem sameH_some {v : Value} {H1 : LH} : sameH (some (v, H1)) H = some (v, H) := rfl
@[simp] theorem sameH_none : sameH none H = none := rfl
@[simp ↓] theorem lmixx_len {args : List Operand} {ts : List TypeId} : lmixx P T (.call ⟨.builtin .len, ⟨args⟩, ⟨ts⟩⟩) fr H0 H = sameH (lbuiltin P .len ts (args.map (ev fr)) H) H := rfl
@[simp ↓] theorem lmixx_min {args : List Operand} {ts : List TypeId} : lmixx P T (.call ⟨.builtin .min, ⟨args⟩, ⟨ts⟩⟩) fr H0 H = sameH (lbuiltin P .min ts (args.map (ev fr)) H) H := rfl
@[simp ↓] theorem lmixx_max {args : List Operand} {ts : List TypeId} : lmixx P T (.call ⟨.builtin .max, ⟨args⟩, ⟨ts⟩⟩) fr H0 H = sameH (lbuiltin P .max ts (args.map (ev fr)) H) H := rfl
/-- a call in an open order: of numbers and texts, or ahead of all new blocks -/
def mcall (b : Bool) (x : Option (Value × LH)) (H : LH) : Option (Value × LH) := match b, x with | true, some (v, _) => if flatB v then some (v, H) else none | _, _ => none
@[simp] theorem mcall_some {v : Value} {H1 : LH} (h : flatB v = true) : mcall true (some (v, H1)) H = some (v, H) := by simp [mcall, h]
@[simp] theorem mcall_none {b : Bool} : mcall b none H = none := by cases b <;> rfl
@[congr] theorem mcall_congr {b b' : Bool} {x x' : Option (Value × LH)} (h1 : b = b') (h2 : x = x') : mcall b x H = mcall b' x' H := by rw [h1, h2]
def flatL : List Value → Bool
  | [] => true
  | v :: l => flatB v && flatL l
@[simp] theorem flatL_nil : flatL [] = true := rfl
@[simp] theorem flatL_cons {v : Value} {l : List Value} : flatL (v :: l) = (flatB v && flatL l) := rfl
theorem flatL_eq : ∀ l : List Value, l.all flatB = flatL l
  | [] => rfl
  | v :: l => by simp only [List.all_cons, flatL, flatL_eq l]
def lowH (H0 H : LH) (f : Value) (args : List Value) : Bool := H.n == H0.n || (flatB f && flatL args)
@[simp] theorem lowH_same {f : Value} {args : List Value} : lowH H H f args = true := by simp [lowH]
@[simp] theorem lowH_flat {f : Value} {args : List Value} (h1 : flatB f = true) (h2 : flatL args = true) : lowH H0 H f args = true := by simp [lowH, h1, h2]
@[simp] theorem flat_fn {g : FuncId} : flatB (.func (.func g) #[] #[]) = true := rfl
@[simp ↓] theorem lmixx_call {f : Operand} {args : List Operand} {ts : Array TypeId} : lmixx P T (.call ⟨.value f, ⟨args⟩, ts⟩) fr H0 H = mcall (lowH H0 H (ev fr f) (args.map (ev fr))) (lcallee P T (ev fr f) (args.map (ev fr)) H0.ro) H := by
  show (if (H.n == H0.n || (flatB (ev fr f) && (args.map (ev fr)).all flatB)) = true then (match lcallee P T (ev fr f) (args.map (ev fr)) H0.ro with | some (v, _) => if flatB v then some v else none | none => none).map (fun v => (v, H)) else none) = _
  rw [flatL_eq]
  unfold lowH mcall
  cases (H.n == H0.n || (flatB (ev fr f) && flatL (args.map (ev fr)))) with
  | false => rfl
  | true =>
    rw [if_pos rfl]
    cases lcallee P T (ev fr f) (args.map (ev fr)) H0.ro with
    | none => rfl
    | some x =>
      obtain ⟨v, H1⟩ := x
      simp only
      split <;> rfl
end
end Go.Lg
/-
  A logical run of Go code: more rules.
-/
set_option linter.unusedSimpArgs false
set_option linter.unusedVariables false
namespace Go.Lg
open Go.Tg Go.RowKit
section
variable {P : Program} {H : LH} {t : TypeId} {a b : Bool}
theorem pureVal_equal_b (hu : P.underlying t = some .bool) : pureVal P (Op.equal t (.bool a) (.bool b)) = some (a == b) := by
  unfold Op.equal
  show pureVal P (Op.equalIn (9999 + 1) t (.bool a) (.bool b)) = _
  unfold Op.equalIn
  simp only [pureVal_bind, pureVal_und, hu, Option.bind_some, pureVal_pure]
@[simp] theorem lbin_beq (hu : P.underlying t = some .bool) : lbin P .eql t (.bool a) (.bool b) = some (.bool (a == b)) := lbin_bb (by simp only [binOp, pureVal_bind, pureVal_equal_b hu, Option.bind_some, pureVal_pure]) rfl
@[simp] theorem lbin_bne (hu : P.underlying t = some .bool) : lbin P .neq t (.bool a) (.bool b) = some (.bool (a != b)) := lbin_bb (by simp only [binOp, pureVal_bind, pureVal_equal_b hu, Option.bind_some, pureVal_pure]; rfl) rfl
@[simp ↓] theorem ev_str0 {fr : Fr} : ev fr (.const (.string ⟨#[]⟩)) = str [] := rfl
@[simp ↓] theorem ev_str1 {fr : Fr} : ev fr (.const (.string ByteArray.empty)) = str [] := rfl
@[simp] theorem ev_strc {fr : Fr} {l : List UInt8} : ev fr (.const (str l)) = str l := by
  show (if flatB (str l) then str l else unk) = _
  rw [if_pos flat_str]
@[simp] theorem get_new_eq {H : LH} {b : LB} {l : Nat} (h : l = H.n) : (H.new b).get l = some b := by subst h; exact get_new
@[simp] theorem new_set_eq {H : LH} {b c : LB} {l : Nat} (h : l = H.n) : (H.new b).set l c = H.new c := by subst h; exact new_set
@[simp ↓] theorem lopx_makeSlice {T : Callee} {fr : Fr} {x y : Operand} : lopx P T (.makeSlice t x y) fr H = lmake P t (ev fr x) (ev fr y) H := rfl
@[simp] theorem lmake_one {e : TypeId} {z : Value} {l c : Int} {k k' : IntKind} (hu : P.underlying t = some (.slice e)) (hs : lesz P e = some 1) (hz : zr P e = some z) (hf : flatB z = true) (hc : cellB z = true) (h0 : 0 ≤ l) (h1 : l ≤ c) (h2 : c ≤ 1048576) :
    lmake P t (.int k l) (.int k' c) H = some (.slice (some ⟨H.n, 0, none⟩) l.toNat c.toNat, H.new ⟨List.replicate c.toNat z, e, true⟩) := by
  unfold lesz at hs
  unfold zr at hz
  unfold lmake
  simp only [hu]
  cases hi : P.info? e with
  | none => simp [hi] at hs
  | some i =>
    simp only [hi, Option.bind_some] at hs hz
    rw [hz] at hs
    simp only at hs
    split at hs
    · rename_i hh
      simp only [Option.some.injEq] at hs
      simp only [hz]
      have hcs : z.cells = #[z] := cells_one hc
      rw [if_pos (by
        simp only [Bool.and_eq_true, decide_eq_true_eq, beq_iff_eq]
        refine ⟨⟨⟨⟨⟨⟨hf, by omega⟩, h0⟩, h1⟩, by rw [hs]; omega⟩, hh.2.2⟩, by rw [hcs, hs]; rfl⟩)]
      congr 3
      rw [hcs, hs, Nat.mul_one]
      congr 1
      apply List.ext_getElem
      · simp
      · intro i h1 h2
        simp [Nat.mod_one]
    · cases hs
end
end Go.Lg
/-
  A logical run of Go code: bits of numbers, shifts, floats.
-/
set_option linter.unusedSimpArgs false
set_option linter.unusedVariables false
namespace Go.Lg
open Go.Tg Go.RowKit
section
variable {P : Program} {H : LH} {t c : TypeId} {kd kd' : IntKind} {a b : Int} {k : FloatKind} {x y r : Nat}
/-! ### bits -/
def bAnd (kd : IntKind) (a b : Int) : Int := kd.wrap ((BitVec.ofInt kd.bits a &&& BitVec.ofInt kd.bits b).toNat)
def bOr (kd : IntKind) (a b : Int) : Int := kd.wrap ((BitVec.ofInt kd.bits a ||| BitVec.ofInt kd.bits b).toNat)
def bXor (kd : IntKind) (a b : Int) : Int := kd.wrap ((BitVec.ofInt kd.bits a ^^^ BitVec.ofInt kd.bits b).toNat)
def bNot (kd : IntKind) (a b : Int) : Int := kd.wrap ((BitVec.ofInt kd.bits a &&& ~~~ BitVec.ofInt kd.bits b).toNat)
@[simp] theorem lbin_and : lbin P .and t (.int kd a) (.int kd b) = some (.int kd (bAnd kd a b)) := lbin_ii (by simp [binOp, Op.intBits, bAnd]) rfl
@[simp] theorem lbin_or : lbin P .or t (.int kd a) (.int kd b) = some (.int kd (bOr kd a b)) := lbin_ii (by simp [binOp, Op.intBits, bOr]) rfl
@[simp] theorem lbin_xor : lbin P .xor t (.int kd a) (.int kd b) = some (.int kd (bXor kd a b)) := lbin_ii (by simp [binOp, Op.intBits, bXor]) rfl
@[simp] theorem lbin_andNot : lbin P .andNot t (.int kd a) (.int kd b) = some (.int kd (bNot kd a b)) := lbin_ii (by simp [binOp, Op.intBits, bNot]) rfl
theorem lbin_sh {op : BinOp} {v : Value} (h : pureVal P (binOp op t (.int kd a) (.int kd' b)) = some v) (hv : flatB v = true) : lbin P op t (.int kd a) (.int kd' b) = some v := by
  have e : pureVal P (do eqGuard op t (.tmp 0) (.tmp 0) (.int kd a) (.int kd' b); binOp op t (.int kd a) (.int kd' b) : Sem Value) = some v := by
    rw [← h]; cases op <;> rfl
  show pureFlat P (do eqGuard op t (.tmp 0) (.tmp 0) _ _; binOp op t _ _) = some v
  unfold pureFlat
  rw [e]
  simp only [hv, if_true]
@[simp] theorem lbin_shl (h : 0 ≤ b) : lbin P .shl t (.int kd a) (.int kd' b) = some (.int kd (kd.wrap (a * 2 ^ (min b.toNat kd.bits)))) := lbin_sh (by
  have : ¬ b < 0 := by omega
  simp [binOp, Op.shift, this]) rfl
@[simp] theorem lbin_shr (h : 0 ≤ b) : lbin P .shr t (.int kd a) (.int kd' b) = some (.int kd (a.fdiv (2 ^ (min b.toNat kd.bits)))) := lbin_sh (by
  have : ¬ b < 0 := by omega
  simp [binOp, Op.shift, this]) rfl
theorem ofInt_nat {n : Nat} {m : Nat} : (BitVec.ofInt n (m : Int)).toNat = m % 2 ^ n := by
  rw [BitVec.toNat_ofInt]; omega
theorem and64 {m n : Nat} (hm : m < 18446744073709551616) (hn : n < 18446744073709551616) : bAnd .u64 m n = ((m &&& n : Nat) : Int) := by
  unfold bAnd
  rw [BitVec.toNat_and, show IntKind.u64.bits = 64 from rfl, ofInt_nat, ofInt_nat, Nat.mod_eq_of_lt hm, Nat.mod_eq_of_lt hn]
  have := Nat.and_le_left (n := m) (m := n)
  rw [show IntKind.u64.wrap ((m &&& n : Nat) : Int) = ((m &&& n : Nat) : Int) % 18446744073709551616 from IntKind.wrap_u64 _]; omega
theorem or64 {m n : Nat} (hm : m < 18446744073709551616) (hn : n < 18446744073709551616) : bOr .u64 m n = ((m ||| n : Nat) : Int) := by
  unfold bOr
  rw [BitVec.toNat_or, show IntKind.u64.bits = 64 from rfl, ofInt_nat, ofInt_nat, Nat.mod_eq_of_lt hm, Nat.mod_eq_of_lt hn]
  have : (m ||| n) < 2 ^ 64 := Nat.or_lt_two_pow hm hn
  rw [show IntKind.u64.wrap ((m ||| n : Nat) : Int) = ((m ||| n : Nat) : Int) % 18446744073709551616 from IntKind.wrap_u64 _]; omega
/-- without the sign's bit -/
theorem not63 {m : Nat} (hm : m < 18446744073709551616) : bNot .u64 m 9223372036854775808 = ((m % 9223372036854775808 : Nat) : Int) := by
  unfold bNot
  have e : (BitVec.ofInt IntKind.u64.bits (m : Int) &&& ~~~ BitVec.ofInt IntKind.u64.bits 9223372036854775808).toNat = m % 9223372036854775808 := by
    rw [BitVec.toNat_and, show IntKind.u64.bits = 64 from rfl, ofInt_nat, Nat.mod_eq_of_lt hm]
    rw [show (~~~ BitVec.ofInt 64 9223372036854775808).toNat = 2 ^ 63 - 1 from rfl, Nat.and_two_pow_sub_one_eq_mod]
  rw [e, show IntKind.u64.wrap ((m % 9223372036854775808 : Nat) : Int) = ((m % 9223372036854775808 : Nat) : Int) % 18446744073709551616 from IntKind.wrap_u64 _]; omega
theorem sign63 {m : Nat} (hm : m < 18446744073709551616) : bAnd .u64 m 9223372036854775808 = if 9223372036854775808 ≤ m then 9223372036854775808 else 0 := by
  have := and64 (m := m) (n := 9223372036854775808) hm (by decide)
  rw [show ((9223372036854775808 : Nat) : Int) = 9223372036854775808 from rfl] at this
  rw [this]
  have e2 : (m &&& 9223372036854775808 : Nat) = if 9223372036854775808 ≤ m then 9223372036854775808 else 0 := by
    apply Nat.eq_of_testBit_eq
    intro i
    rw [Nat.testBit_and, show (9223372036854775808 : Nat) = 2 ^ 63 from rfl, Nat.testBit_two_pow]
    by_cases hi : 63 = i
    · subst hi
      rw [Nat.testBit_eq_decide_div_mod_eq]
      split
      · have : m / 2 ^ 63 % 2 = 1 := by omega
        rw [this, Nat.testBit_two_pow]; simp
      · have : m / 2 ^ 63 % 2 = 0 := by omega
        simp [this]
    · split
      · rw [Nat.testBit_two_pow]; simp [hi]
      · simp [hi]
  rw [e2]
  split <;> rfl
/-! ### floats -/
@[simp ↓] theorem ev_float {fr : Fr} : ev fr (.const (.float k x)) = .float k x := rfl
@[simp] theorem flat_float : flatB (.float k x) = true := by simp [flatB, flat1B, atomB]
@[simp] theorem cell_float : cellB (.float k x) = true := by simp only [cellB]
theorem lbin_ff {op : BinOp} {v : Value} (h : pureVal P (binOp op t (.float k x) (.float k y)) = some v) (hv : flatB v = true) : lbin P op t (.float k x) (.float k y) = some v := by
  have e : pureVal P (do eqGuard op t (.tmp 0) (.tmp 0) (.float k x) (.float k y); binOp op t (.float k x) (.float k y) : Sem Value) = some v := by
    rw [← h]; cases op <;> rfl
  show pureFlat P (do eqGuard op t (.tmp 0) (.tmp 0) _ _; binOp op t _ _) = some v
  unfold pureFlat
  rw [e]
  simp only [hv, if_true]
theorem lbin_fmul (h : k.format.mul x y = some r) : lbin P .mul t (.float k x) (.float k y) = some (.float k r) := lbin_ff (by
  simp only [binOp, Op.floatArith, ne_eq, not_true_eq_false, if_false, pureVal_bind, pureVal_pure, Option.bind_some, h]) rfl
theorem lbin_fdiv (h : k.format.div x y = some r) : lbin P .quo t (.float k x) (.float k y) = some (.float k r) := lbin_ff (by
  simp only [binOp, Op.floatArith, ne_eq, not_true_eq_false, if_false, pureVal_bind, pureVal_pure, Option.bind_some, h]) rfl
theorem lbin_feq : lbin P .eql t (.float k x) (.float k y) = some (.bool (k.format.order x y == some .eq)) := lbin_ff (by
  simp only [binOp, Op.floatCmp, ne_eq, not_true_eq_false, if_false, pureVal_pure]) rfl
theorem lbin_fne : lbin P .neq t (.float k x) (.float k y) = some (.bool (k.format.order x y != some .eq)) := lbin_ff (by
  simp only [binOp, Op.floatCmp, ne_eq, not_true_eq_false, if_false, pureVal_pure]) rfl
theorem lbin_flt : lbin P .lss t (.float k x) (.float k y) = some (.bool (k.format.order x y == some .lt)) := lbin_ff (by
  simp only [binOp, Op.floatCmp, ne_eq, not_true_eq_false, if_false, pureVal_pure]) rfl
theorem lbin_fgt : lbin P .gtr t (.float k x) (.float k y) = some (.bool (k.format.order x y == some .gt)) := lbin_ff (by
  simp only [binOp, Op.floatCmp, ne_eq, not_true_eq_false, if_false, pureVal_pure]) rfl
theorem lconv_if {n : Int} (h1 : P.underlying t = some (.int kd)) (h2 : P.underlying c = some (.float k)) : lconv P t c (.int kd n) H = some (.float k (k.nearest n)) := by
  have e : pureVal P (convert t c (.int kd n)) = some (.float k (k.nearest n)) := by
    simp only [convert, pureVal_bind, pureVal_und, h1, h2, Option.bind_some]
    rfl
  unfold lconv
  simp only [flat_int, if_true, pureFlat, e, flat_float]
attribute [simp] lbin_feq lbin_fne lbin_flt lbin_fgt lconv_if
end
end Go.Lg
/-
  Library functions by their contracts: strings, math.
-/
set_option linter.unusedSimpArgs false
set_option linter.unusedVariables false
namespace Go.Lg
open Go.Tg Go.RowKit
/-- of flat arguments, a flat value -/
def flatSpec (g : List Value → Option Value) : Lg.Spec := fun args H => (g args).map fun v => (v, H)
theorem specOk_flat {P : Program} {f : FuncId} {g : List Value → Option Value} (he : Entered P f)
    (h : ∀ args v, g args = some v → (∀ x ∈ args, flatB x = true) ∧ flatB v = true ∧ ∀ w, Calls P f args.toArray w fun e w' => e = .returned v ∧ Change (fun _ => False) w w') : SpecOk P f (flatSpec g) := by
  intro args H v H' hs
  unfold flatSpec at hs
  obtain ⟨u, hu, e⟩ := Option.map_eq_some_iff.1 hs
  simp only [Prod.mk.injEq] at e
  obtain ⟨rfl, rfl⟩ := e
  obtain ⟨h1, h2, h3⟩ := h args u hu
  exact .inl ⟨he, callOk_flatC h1 h2 h3⟩
theorem specOk_ext {P : Program} {f : FuncId} {g : List Value → Option Value}
    (h : ∀ args v, g args = some v → (∀ x ∈ args, flatB x = true) ∧ flatB v = true ∧ ∀ w, (callFunc f args.toArray).run P w = .ok (.value v) w) : SpecOk P f (flatSpec g) := by
  intro args H v H' hs
  unfold flatSpec at hs
  obtain ⟨u, hu, e⟩ := Option.map_eq_some_iff.1 hs
  simp only [Prod.mk.injEq] at e
  obtain ⟨rfl, rfl⟩ := e
  exact .inr ⟨rfl, h args u hu⟩
theorem change_of_below {w w' : World} (h : Below w.heap.size w w') : Change (fun _ => False) w w' := ⟨h.os, h.tape, h.output, h.size, fun k hk _ => h.block k hk⟩
theorem same_mono {P : Program} {f : FuncId} {args : Array Value} {w : World} {v : Value} (h : Calls P f args w fun e w' => e = .returned v ∧ w' = w) : Calls P f args w fun e w' => e = .returned v ∧ Change (fun _ => False) w w' :=
  h.mono fun e w' ⟨h1, h2⟩ => ⟨h1, by rw [h2]; exact Change.refl _ _⟩
theorem below_mono {P : Program} {f : FuncId} {args : Array Value} {w : World} {v : Value} (h : Calls P f args w fun e w' => e = .returned v ∧ Below w.heap.size w w') : Calls P f args w fun e w' => e = .returned v ∧ Change (fun _ => False) w w' :=
  h.mono fun e w' ⟨h1, h2⟩ => ⟨h1, change_of_below h2⟩
theorem flat2 {x y : Value} (hx : flatB x = true) (hy : flatB y = true) : ∀ z ∈ [x, y], flatB z = true := by
  intro z hz
  rcases List.mem_cons.1 hz with rfl | hz
  · exact hx
  · rcases List.mem_cons.1 hz with rfl | hz
    · exact hy
    · cases hz
theorem flat1 {x : Value} (hx : flatB x = true) : ∀ z ∈ [x], flatB z = true := by
  intro z hz
  rcases List.mem_cons.1 hz with rfl | hz
  · exact hx
  · cases hz
theorem LC_flat {P : Program} {E : Ext} {f : FuncId} {g : List Value → Option Value} {args : List Value} {v : Value} {H : LH} (he : E f = some (flatSpec g)) (hg : g args = some v) : LC P E f args H = some (v, H) := LC_ext he (by simp [flatSpec, hg])
def asc (s : ByteArray) : Prop := ∀ (j : Nat) b, s.data.toList[j]? = some b → b.toNat < 128
def ascL (s : List UInt8) : Prop := ∀ b ∈ s, b.toNat < 128
theorem asc_of {s : List UInt8} (h : ascL s) : asc ⟨s.toArray⟩ := fun j b hb => h b (List.mem_of_getElem? (by simpa using hb))
end Go.Lg
namespace Go.Proofs.YteckofomnhminaaDoor
open Go.Lg Go.Tg

def gIndexByte : List Value → Option Value
  | [.string s, .int .u8 c] => some (.int .i64 (Lib.indexByte s.data.toList c.toNat.toUInt8))
  | _ => none
theorem ok_IndexByte : SpecOk Tryd.prog 106 (flatSpec gIndexByte) := specOk_flat ⟨_, Tryd.func106, rfl, by decide⟩ fun args v h => by
  unfold gIndexByte at h
  split at h
  · injection h with h; subst h
    exact ⟨flat2 rfl rfl, rfl, fun w => same_mono (Tryd.strings_IndexByte _ _ w)⟩
  · cases h
def gTrimPrefix : List Value → Option Value
  | [.string s, .string p] => some (.string ⟨(Lib.trimPrefix s.data.toList p.data.toList).toArray⟩)
  | _ => none
theorem ok_TrimPrefix : SpecOk Tryd.prog 77 (flatSpec gTrimPrefix) := specOk_flat ⟨_, Tryd.func77, rfl, by decide⟩ fun args v h => by
  unfold gTrimPrefix at h
  split at h
  · injection h with h; subst h
    exact ⟨flat2 rfl rfl, rfl, fun w => same_mono (Tryd.strings_TrimPrefix _ _ w)⟩
  · cases h
def gTrimSuffix : List Value → Option Value
  | [.string s, .string p] => if s.size ≤ 9223372036854775807 then some (.string ⟨(Lib.trimSuffix s.data.toList p.data.toList).toArray⟩) else none
  | _ => none
theorem ok_TrimSuffix : SpecOk Tryd.prog 37 (flatSpec gTrimSuffix) := specOk_flat ⟨_, Tryd.func37, rfl, by decide⟩ fun args v h => by
  unfold gTrimSuffix at h
  split at h
  · split at h
    · rename_i hs
      injection h with h; subst h
      exact ⟨flat2 rfl rfl, rfl, fun w => same_mono (Tryd.strings_TrimSuffix _ _ w hs)⟩
    · cases h
  · cases h
def gHasPrefix : List Value → Option Value
  | [.string s, .string p] => some (.bool (Lib.hasPrefix s.data.toList p.data.toList))
  | _ => none
theorem ok_HasPrefix : SpecOk Tryd.prog 126 (flatSpec gHasPrefix) := specOk_flat ⟨_, Tryd.func126, rfl, by decide⟩ fun args v h => by
  unfold gHasPrefix at h
  split at h
  · injection h with h; subst h
    exact ⟨flat2 rfl rfl, rfl, fun w => same_mono (Tryd.strings_HasPrefix _ _ w)⟩
  · cases h
open Classical in
noncomputable def gIndexAny : List Value → Option Value
  | [.string s, .string c] => if s.size < 4294967281 ∧ c.size < 4294967281 ∧ asc s ∧ asc c then some (.int .i64 (Lib.indexAny s.data.toList c.data.toList)) else none
  | _ => none
theorem ok_IndexAny : SpecOk Tryd.prog 78 (flatSpec gIndexAny) := specOk_flat ⟨_, Tryd.func78, rfl, by decide⟩ fun args v h => by
  unfold gIndexAny at h
  split at h
  · split at h
    · rename_i hs
      obtain ⟨h1, h2, h3, h4⟩ := hs
      injection h with h; subst h
      exact ⟨flat2 rfl rfl, rfl, fun w => below_mono (Tryd.strings_IndexAny_laid _ _ w h1 h2 h3 h4)⟩
    · cases h
  · cases h
open Classical in
noncomputable def gTrimLeft : List Value → Option Value
  | [.string s, .string c] => if c.size < 4294967281 ∧ asc c then some (.string ⟨(Lib.trimLeftS s.data.toList c.data.toList).toArray⟩) else none
  | _ => none
theorem ok_TrimLeft : SpecOk Tryd.prog 80 (flatSpec gTrimLeft) := specOk_flat ⟨_, Tryd.func80, rfl, by decide⟩ fun args v h => by
  unfold gTrimLeft at h
  split at h
  · split at h
    · rename_i hs
      obtain ⟨h1, h2⟩ := hs
      injection h with h; subst h
      exact ⟨flat2 rfl rfl, rfl, fun w => below_mono (Any.strings_TrimLeft_laid Tryd.lays161 (by kernel_rfl) _ _ w h1 h2)⟩
    · cases h
  · cases h
open Classical in
noncomputable def gTrimRight : List Value → Option Value
  | [.string s, .string c] => if s.size ≤ 9223372036854775807 ∧ c.size < 4294967281 ∧ asc c then some (.string ⟨(Lib.trimRightS s.data.toList c.data.toList).toArray⟩) else none
  | _ => none
theorem ok_TrimRight : SpecOk Tryd.prog 81 (flatSpec gTrimRight) := specOk_flat ⟨_, Tryd.func81, rfl, by decide⟩ fun args v h => by
  unfold gTrimRight at h
  split at h
  · split at h
    · rename_i hs
      obtain ⟨h0, h1, h2⟩ := hs
      injection h with h; subst h
      exact ⟨flat2 rfl rfl, rfl, fun w => below_mono (Any.strings_TrimRight_laid Tryd.lays162 (by kernel_rfl) _ _ w h0 h1 h2)⟩
    · cases h
  · cases h
def gIndex : List Value → Option Value
  | [.string s, .string ⟨⟨[c]⟩⟩] => some (.int .i64 (Lib.indexByte s.data.toList c))
  | _ => none
theorem ok_Index : SpecOk Tryd.prog 136 (flatSpec gIndex) := specOk_flat ⟨_, Tryd.func136, rfl, by decide⟩ fun args v h => by
  unfold gIndex at h
  split at h
  · injection h with h; subst h
    exact ⟨flat2 rfl rfl, rfl, fun w => same_mono (Tryd.stringslite_Index_one _ _ w)⟩
  · cases h
def gFBits : List Value → Option Value
  | [.float .f64 x] => some (.int .u64 x)
  | _ => none
theorem ok_FBits : SpecOk Tryd.prog 56 (flatSpec gFBits) := specOk_ext fun args v h => by
  unfold gFBits at h
  split at h
  · injection h with h; subst h
    refine ⟨flat1 (by simp), rfl, fun w => ?_⟩
    rw [run_callFunc_extern Tryd.func56 (by kernel_rfl) (by kernel_rfl) (by kernel_rfl) (e := Extern.MathFloatBits.float64bits) (by kernel_rfl)]
    rfl
  · cases h
def gFFrom : List Value → Option Value
  | [.int .u64 x] => some (.float .f64 x.toNat)
  | _ => none
theorem ok_FFrom : SpecOk Tryd.prog 88 (flatSpec gFFrom) := specOk_ext fun args v h => by
  unfold gFFrom at h
  split at h
  · injection h with h; subst h
    refine ⟨flat1 (by simp), by simp, fun w => ?_⟩
    rw [run_callFunc_extern Tryd.func88 (by kernel_rfl) (by kernel_rfl) (by kernel_rfl) (e := Extern.MathFloatBits.float64frombits) (by kernel_rfl)]
    rfl
  · cases h
noncomputable def specsStr : List (FuncId × Lg.Spec) := [
  (56, flatSpec gFBits),
  (88, flatSpec gFFrom),
  (106, flatSpec gIndexByte),
  (77, flatSpec gTrimPrefix),
  (37, flatSpec gTrimSuffix),
  (126, flatSpec gHasPrefix),
  (78, flatSpec gIndexAny),
  (80, flatSpec gTrimLeft),
  (81, flatSpec gTrimRight),
  (136, flatSpec gIndex),
  ]
theorem str_ok : ∀ p ∈ specsStr, SpecOk Tryd.prog p.1 p.2 := by
  intro p hp
  unfold specsStr at hp
  rcases List.mem_cons.1 hp with rfl | hp
  · exact ok_FBits
  rcases List.mem_cons.1 hp with rfl | hp
  · exact ok_FFrom
  rcases List.mem_cons.1 hp with rfl | hp
  · exact ok_IndexByte
  rcases List.mem_cons.1 hp with rfl | hp
  · exact ok_TrimPrefix
  rcases List.mem_cons.1 hp with rfl | hp
  · exact ok_TrimSuffix
  rcases List.mem_cons.1 hp with rfl | hp
  · exact ok_HasPrefix
  rcases List.mem_cons.1 hp with rfl | hp
  · exact ok_IndexAny
  rcases List.mem_cons.1 hp with rfl | hp
  · exact ok_TrimLeft
  rcases List.mem_cons.1 hp with rfl | hp
  · exact ok_TrimRight
  rcases List.mem_cons.1 hp with rfl | hp
  · exact ok_Index
  cases hp
end Go.Proofs.YteckofomnhminaaDoor
/-
  The library functions of these laws, as rules.
-/
set_option linter.unusedSimpArgs false
set_option linter.unusedVariables false
namespace Go.Proofs.YteckofomnhminaaDoor
open Go.Lg Go.Tg

noncomputable def EJ : Ext := extLL specsStr []
@[simp] theorem EJ_ch {n id k : Nat} : EJ.loud.ch n id k = chT n id k := rfl
@[simp] theorem EJ_loud {g : FuncId} : EJ.loud g = false := rfl
theorem extOk : ExtOk Tryd.prog EJ := extL_ok str_ok
theorem tOk : TOk Tryd.prog (LC Tryd.prog EJ) := LC_ok extOk mixed
section
variable {H : LH} {s t p : List UInt8}
@[simp] theorem indexByte_l {c : UInt8} : LC Tryd.prog EJ 106 [str s, .int .u8 c.toNat] H = some (.int .i64 (Lib.indexByte s c), H) := LC_flat (g := gIndexByte) rfl (by simp [gIndexByte, str])
@[simp] theorem trimPrefix_l : LC Tryd.prog EJ 77 [str s, str p] H = some (str (Lib.trimPrefix s p), H) := LC_flat (g := gTrimPrefix) rfl (by simp [gTrimPrefix, str])
theorem trimSuffix_l (h : s.length ≤ 9223372036854775807) : LC Tryd.prog EJ 37 [str s, str p] H = some (str (Lib.trimSuffix s p), H) := LC_flat (g := gTrimSuffix) rfl (by
  unfold gTrimSuffix str
  dsimp only
  rw [if_pos (by rw [ba_size]; exact h)])
@[simp] theorem hasPrefix_l : LC Tryd.prog EJ 126 [str s, str p] H = some (.bool (Lib.hasPrefix s p), H) := LC_flat (g := gHasPrefix) rfl (by simp [gHasPrefix, str])
theorem indexAny_l (h1 : s.length < 4294967281) (h2 : p.length < 4294967281) (h3 : ascL s) (h4 : ascL p) : LC Tryd.prog EJ 78 [str s, str p] H = some (.int .i64 (Lib.indexAny s p), H) := LC_flat (g := gIndexAny) rfl (by
  unfold gIndexAny str
  dsimp only
  rw [if_pos ⟨by rw [ba_size]; exact h1, by rw [ba_size]; exact h2, asc_of h3, asc_of h4⟩])
theorem trimLeft_l (h2 : p.length < 4294967281) (h4 : ascL p) : LC Tryd.prog EJ 80 [str s, str p] H = some (str (Lib.trimLeftS s p), H) := LC_flat (g := gTrimLeft) rfl (by
  unfold gTrimLeft str
  dsimp only
  rw [if_pos ⟨by rw [ba_size]; exact h2, asc_of h4⟩])
theorem trimRight_l (h1 : s.length ≤ 9223372036854775807) (h2 : p.length < 4294967281) (h4 : ascL p) : LC Tryd.prog EJ 81 [str s, str p] H = some (str (Lib.trimRightS s p), H) := LC_flat (g := gTrimRight) rfl (by
  unfold gTrimRight str
  dsimp only
  rw [if_pos ⟨by rw [ba_size]; exact h1, by rw [ba_size]; exact h2, asc_of h4⟩])
@[simp] theorem index1_l {c : UInt8} : LC Tryd.prog EJ 136 [str s, str [c]] H = some (.int .i64 (Lib.indexByte s c), H) := LC_flat (g := gIndex) rfl (by simp [gIndex, str])
@[simp] theorem fbits_l {x : Nat} : LC Tryd.prog EJ 56 [.float .f64 x] H = some (.int .u64 x, H) := LC_flat (g := gFBits) rfl (by simp [gFBits])
@[simp] theorem ffrom_l {x : Int} : LC Tryd.prog EJ 88 [.int .u64 x] H = some (.float .f64 x.toNat, H) := LC_flat (g := gFFrom) rfl (by simp [gFFrom])
end
end Go.Proofs.YteckofomnhminaaDoor
/-
  Plain laws of numbers' texts: the machine of states and the grammar agree.
-/
set_option linter.unusedSimpArgs false
set_option linter.unusedVariables false
namespace Tg.Nu
def isD (b : UInt8) : Bool := decide (48 ≤ (b.toNat : Int)) && decide ((b.toNat : Int) ≤ 57)
def isE (b : UInt8) : Bool := decide (b = 101) || decide (b = 69)
def wh (st : Nat) : Bool := st == 2 || st == 3 || st == 5 || st == 8
def nx (st : Nat) (b : UInt8) : Nat :=
  if st = 0 ∨ st = 1 then
    if b = 45 ∧ st = 0 then 1 else if b = 48 then 2 else if isD b then 3 else 9
  else if (st = 4 ∨ st = 5) ∧ isD b then 5
  else if st = 6 ∨ st = 7 ∨ st = 8 then
    if isD b then 8 else if st = 6 ∧ (b = 43 ∨ b = 45) then 7 else 9
  else if st = 3 ∧ isD b then 3
  else if b = 46 ∧ (st = 2 ∨ st = 3) then 4
  else if isE b ∧ wh st then 6 else 9
def en (st : Nat) (s : List UInt8) : Nat := s.foldl nx st
def acc (st : Nat) (s : List UInt8) : Bool := wh (en st s)
theorem nx9 (b : UInt8) : nx 9 b = 9 := by simp [nx, wh]
theorem en9 : ∀ s, en 9 s = 9
  | [] => rfl
  | b :: s => by show en (nx 9 b) s = 9; rw [nx9]; exact en9 s
theorem acc9 (s : List UInt8) : acc 9 s = false := by unfold acc; rw [en9]; rfl
theorem acc_cons (st : Nat) (b : UInt8) (s : List UInt8) : acc st (b :: s) = acc (nx st b) s := rfl
theorem D_not (b : UInt8) (h : isD b = true) : b ≠ 45 ∧ b ≠ 43 ∧ b ≠ 46 ∧ isE b = false := by
  simp only [isD, Bool.and_eq_true, decide_eq_true_eq] at h
  refine ⟨?_, ?_, ?_, ?_⟩
  · rintro rfl; simp at h
  · rintro rfl; simp at h
  · rintro rfl; simp at h
  · simp only [isE, Bool.or_eq_false_iff, decide_eq_false_iff_not]
    constructor <;> (rintro rfl; simp at h)
theorem E_not (b : UInt8) (h : isE b = true) : b ≠ 46 ∧ isD b = false := by
  simp only [isE, Bool.or_eq_true, decide_eq_true_eq] at h
  rcases h with rfl | rfl <;> decide
def hd : List UInt8 → Bool
  | [] => false
  | c :: _ => isD c
theorem hd_cons (c : UInt8) (r : List UInt8) : hd (c :: r) = isD c := rfl
def all8 (v : List UInt8) : Bool := hd v && (v.dropWhile isD).isEmpty
def B6 (r : List UInt8) : Bool :=
  match r with
  | [] => false
  | c :: q => if c = 43 ∨ c = 45 then all8 q else all8 r
def B2 (u : List UInt8) : Bool :=
  match u with
  | [] => true
  | c :: r => isE c && B6 r
def B1 (v : List UInt8) : Bool :=
  match v with
  | [] => true
  | c :: r => if c = 46 then hd r && B2 (r.dropWhile isD) else B2 v
theorem acc8 : ∀ s, acc 8 s = (s.dropWhile isD).isEmpty
  | [] => rfl
  | b :: s => by
    rw [acc_cons, List.dropWhile_cons]
    by_cases h : isD b = true
    · rw [if_pos h, show nx 8 b = 8 by simp [nx, h]]; exact acc8 s
    · rw [if_neg h, show nx 8 b = 9 by simp [nx, h], acc9]; rfl
theorem acc7 (s : List UInt8) : acc 7 s = all8 s := by
  cases s with
  | nil => rfl
  | cons b s =>
    rw [acc_cons]
    unfold all8
    rw [List.dropWhile_cons, hd_cons]
    by_cases h : isD b = true
    · rw [if_pos h, show nx 7 b = 8 by simp [nx, h], acc8, h]; rfl
    · rw [if_neg h, show nx 7 b = 9 by simp [nx, h], acc9]; simp [h]
theorem acc6 (s : List UInt8) : acc 6 s = B6 s := by
  cases s with
  | nil => rfl
  | cons b s =>
    rw [acc_cons]
    unfold B6
    by_cases h : isD b = true
    · obtain ⟨h1, h2, _⟩ := D_not b h
      rw [show nx 6 b = 8 by simp [nx, h], acc8]
      simp [h1, h2, all8, hd, h, List.dropWhile_cons]
    · by_cases h2 : b = 43 ∨ b = 45
      · rw [show nx 6 b = 7 by simp [nx, h, h2], acc7]; simp [h2]
      · rw [show nx 6 b = 9 by simp [nx, h, h2], acc9]; simp [h2, all8, hd, h]
theorem acc5 : ∀ s, acc 5 s = B2 (s.dropWhile isD)
  | [] => rfl
  | b :: s => by
    rw [acc_cons, List.dropWhile_cons]
    by_cases h : isD b = true
    · rw [if_pos h, show nx 5 b = 5 by simp [nx, h]]; exact acc5 s
    · rw [if_neg h]
      unfold B2
      by_cases h2 : isE b = true
      · rw [show nx 5 b = 6 by simp [nx, h, h2, wh], acc6]; simp [h2]
      · rw [show nx 5 b = 9 by simp [nx, h, h2], acc9]; simp [h2]
theorem acc4 (s : List UInt8) : acc 4 s = (hd s && B2 (s.dropWhile isD)) := by
  cases s with
  | nil => rfl
  | cons b s =>
    rw [acc_cons, List.dropWhile_cons]
    unfold hd
    by_cases h : isD b = true
    · rw [if_pos h, show nx 4 b = 5 by simp [nx, h], acc5]; simp [h]
    · rw [if_neg h, show nx 4 b = 9 by simp [nx, h, wh], acc9]; simp [h]
theorem acc3 : ∀ s, acc 3 s = B1 (s.dropWhile isD)
  | [] => rfl
  | b :: s => by
    rw [acc_cons, List.dropWhile_cons]
    by_cases h : isD b = true
    · rw [if_pos h, show nx 3 b = 3 by simp [nx, h]]; exact acc3 s
    · rw [if_neg h]
      unfold B1
      by_cases h1 : b = 46
      · rw [show nx 3 b = 4 by subst h1; rfl, acc4]; simp [h1]
      · by_cases h2 : isE b = true
        · rw [show nx 3 b = 6 by simp [nx, h, h1, h2, wh], acc6]; simp [h1, B2, h2]
        · rw [show nx 3 b = 9 by simp [nx, h, h1, h2], acc9]; simp [h1, B2, h2]
theorem acc2 (s : List UInt8) : acc 2 s = B1 s := by
  cases s with
  | nil => rfl
  | cons b s =>
    rw [acc_cons]
    unfold B1
    by_cases h1 : b = 46
    · rw [show nx 2 b = 4 by subst h1; rfl, acc4]; simp [h1]
    · by_cases h2 : isE b = true
      · rw [show nx 2 b = 6 by simp [nx, h1, h2, wh], acc6]; simp [h1, B2, h2]
      · rw [show nx 2 b = 9 by simp [nx, h1, h2], acc9]; simp [h1, B2, h2]
/-- the reference's grammar, by places -/
def rn (s : List UInt8) (i : Nat) : Nat := ((s.drop i).takeWhile isD).length
def Is2 (s : List UInt8) (i : Nat) : Bool :=
  match s[i]? with
  | some c =>
    if isE c then
      let j := if s[i + 1]? = some 43 ∨ s[i + 1]? = some 45 then i + 2 else i + 1
      if rn s j = 0 then false else j + rn s j == s.length
    else i == s.length
  | none => i == s.length
def Is1 (s : List UInt8) (i : Nat) : Bool := if s[i]? = some 46 then (if rn s (i + 1) = 0 then false else Is2 s (i + 1 + rn s (i + 1))) else Is2 s i
def Is (s : List UInt8) : Bool :=
  let i := if s[0]? = some 45 then 1 else 0
  if rn s i = 0 ∨ (1 < rn s i ∧ s[i]? = some 48) then false else Is1 s (i + rn s i)
theorem drop_take (u : List UInt8) : u.drop (u.takeWhile isD).length = u.dropWhile isD := by
  induction u with
  | nil => rfl
  | cons b u ih =>
    rw [List.takeWhile_cons, List.dropWhile_cons]
    split
    · simpa using ih
    · rfl
theorem drop_rn (s : List UInt8) (i : Nat) : s.drop (i + rn s i) = (s.drop i).dropWhile isD := by
  rw [← List.drop_drop]; exact drop_take _
theorem rn_zero (s : List UInt8) (i : Nat) : (rn s i = 0) = (hd (s.drop i) = false) := by
  unfold rn
  cases s.drop i with
  | nil => simp [hd]
  | cons b u =>
    rw [List.takeWhile_cons]
    unfold hd
    split
    · rename_i h; simp [h]
    · rename_i h; simp [h]
theorem rn_le (s : List UInt8) (i : Nat) (h : i ≤ s.length) : i + rn s i ≤ s.length := by
  have : rn s i ≤ (s.drop i).length := (List.takeWhile_prefix isD).length_le
  rw [List.length_drop] at this; omega
theorem get_drop (s : List UInt8) (i : Nat) : s[i]? = (s.drop i)[0]? := by simp
theorem end_drop (s : List UInt8) (i : Nat) (h : i ≤ s.length) : (i == s.length) = (s.drop i).isEmpty := by
  rw [Bool.eq_iff_iff, beq_iff_eq, List.isEmpty_iff, List.drop_eq_nil_iff]; omega
theorem Is2_eq (s : List UInt8) (i : Nat) (h : i ≤ s.length) : Is2 s i = B2 (s.drop i) := by
  unfold Is2
  rw [get_drop s i, end_drop s i h]
  cases hu : s.drop i with
  | nil => rfl
  | cons c r =>
    have hl : i < s.length := by
      rcases Nat.lt_or_ge i s.length with h | h
      · exact h
      · rw [List.drop_eq_nil_of_le h] at hu; cases hu
    have hr : s.drop (i + 1) = r := by rw [← List.drop_drop, hu]; rfl
    simp only [List.getElem?_cons_zero]
    show _ = (isE c && B6 r)
    by_cases hE : isE c = true
    · rw [if_pos hE, hE, Bool.true_and, get_drop s (i + 1), hr]
      have key : ∀ j, j ≤ s.length → (if rn s j = 0 then false else j + rn s j == s.length) = all8 (s.drop j) := by
        intro j hj
        unfold all8
        rw [← drop_rn, ← end_drop _ _ (rn_le s j hj)]
        by_cases h0 : rn s j = 0
        · rw [if_pos h0]; rw [rn_zero] at h0; simp [h0]
        · rw [if_neg h0]; rw [rn_zero] at h0; simp [h0]
      cases r with
      | nil =>
        simp only [List.getElem?_nil, reduceCtorEq, or_self, if_false]
        rw [key _ hl, hr]; rfl
      | cons d q =>
        have hq : s.drop (i + 2) = q := by rw [show i + 2 = i + 1 + 1 from rfl, ← List.drop_drop, hr]; rfl
        have hl2 : i + 2 ≤ s.length := by
          have := congrArg List.length hr
          simp at this; omega
        simp only [List.getElem?_cons_zero, Option.some.injEq]
        unfold B6
        by_cases hs : d = 43 ∨ d = 45
        · simp only [if_pos hs]; rw [key _ hl2, hq]
        · simp only [if_neg hs]; rw [key _ hl, hr]
    · rw [if_neg hE]; simp [hE]
theorem Is1_eq (s : List UInt8) (i : Nat) (h : i ≤ s.length) : Is1 s i = B1 (s.drop i) := by
  unfold Is1
  rw [get_drop s i]
  cases hu : s.drop i with
  | nil =>
    simp only [List.getElem?_nil, reduceCtorEq, if_false]
    rw [Is2_eq s i h, hu]; rfl
  | cons c r =>
    have hl : i < s.length := by
      rcases Nat.lt_or_ge i s.length with h | h
      · exact h
      · rw [List.drop_eq_nil_of_le h] at hu; cases hu
    have hr : s.drop (i + 1) = r := by rw [← List.drop_drop, hu]; rfl
    simp only [List.getElem?_cons_zero, Option.some.injEq]
    unfold B1
    by_cases h46 : c = 46
    · simp only [if_pos h46]
      by_cases h0 : rn s (i + 1) = 0
      · rw [if_pos h0]; rw [rn_zero, hr] at h0; simp [h0]
      · rw [if_neg h0, Is2_eq _ _ (rn_le _ _ hl), drop_rn, hr]; rw [rn_zero, hr] at h0; simp [h0]
    · simp only [if_neg h46]
      rw [Is2_eq s i h, hu]
theorem rn_cons (s r : List UInt8) (c : UInt8) (i : Nat) (h : s.drop i = c :: r) (hc : isD c = true) : rn s i = (r.takeWhile isD).length + 1 := by
  unfold rn; rw [h, List.takeWhile_cons, if_pos hc]; rfl
theorem hd_len (r : List UInt8) : (0 < (r.takeWhile isD).length) ↔ hd r = true := by
  cases r with
  | nil => simp [hd]
  | cons c q => rw [List.takeWhile_cons]; unfold hd; split <;> simp_all
theorem acc1_eq (s : List UInt8) (i : Nat) (h : i ≤ s.length) : acc 1 (s.drop i) = (if rn s i = 0 ∨ (1 < rn s i ∧ s[i]? = some 48) then false else Is1 s (i + rn s i)) := by
  rw [get_drop s i]
  by_cases h0 : rn s i = 0
  · rw [if_pos (.inl h0)]
    rw [rn_zero] at h0
    cases hu : s.drop i with
    | nil => rfl
    | cons c r =>
      rw [hu] at h0
      have hc : isD c = false := h0
      have h48 : c ≠ 48 := by rintro rfl; cases hc
      rw [acc_cons, show nx 1 c = 9 by simp [nx, hc, h48], acc9]
  · cases hu : s.drop i with
    | nil => rw [rn_zero, hu] at h0; exact absurd rfl h0
    | cons c r =>
      have hc : isD c = true := by rw [rn_zero, hu] at h0; simpa [hd] using h0
      have hn := rn_cons s r c i hu hc
      have hdw : (s.drop i).dropWhile isD = r.dropWhile isD := by rw [hu, List.dropWhile_cons, if_pos hc]
      have hI : Is1 s (i + rn s i) = B1 (r.dropWhile isD) := by rw [Is1_eq _ _ (rn_le _ _ h), drop_rn, hdw]
      simp only [List.getElem?_cons_zero, Option.some.injEq]
      rw [acc_cons]
      by_cases h48 : c = 48
      · subst h48
        rw [show nx 1 48 = 2 from rfl, acc2, hI]
        by_cases hr : hd r = true
        · rw [if_pos (.inr ⟨by have := (hd_len r).2 hr; omega, rfl⟩)]
          cases r with
          | nil => cases hr
          | cons d q =>
            have hD : isD d = true := hr
            obtain ⟨_, _, h46, hE⟩ := D_not d hD
            simp [B1, h46, B2, hE]
        · have hl : ¬ 1 < rn s i := (by
            have : ¬ 0 < (r.takeWhile isD).length := fun h => hr ((hd_len r).1 h)
            omega)
          rw [if_neg (fun h => h.elim h0 (fun h => hl h.1))]
          congr 1
          cases r with
          | nil => rfl
          | cons d q => rw [List.dropWhile_cons, if_neg]; exact hr
      · rw [if_neg (fun h => h.elim h0 (fun h => h48 h.2)), hI, show nx 1 c = 3 by simp [nx, hc, h48], acc3]
/-- the machine and the grammar -/
theorem is_eq (s : List UInt8) : Is s = acc 0 s := by
  unfold Is
  cases s with
  | nil => rfl
  | cons b r =>
    simp only [List.getElem?_cons_zero, Option.some.injEq]
    by_cases h : b = 45
    · subst h
      simp only [if_true]
      exact (acc1_eq (45 :: r) 1 (by simp)).symm
    · simp only [if_neg h]
      have := acc1_eq (b :: r) 0 (by simp)
      rw [← this, List.drop_zero, acc_cons, acc_cons]
      congr 1
      simp [nx, h]
theorem en_lt : ∀ (s : List UInt8) (st : Nat), st ≤ 9 → en st s ≤ 9
  | [], st, h => h
  | b :: s, st, h => en_lt s (nx st b) (by unfold nx; repeat (first | omega | split))
theorem en_append (st : Nat) (s t : List UInt8) : en st (s ++ t) = en (en st s) t := by unfold en; rw [List.foldl_append]
/-- the state of a text -/
def stP (s : List UInt8) : Nat := if Is s then 2 else if Is (s ++ [49]) then 1 else 0
def stC (s : List UInt8) : Nat := if en 0 s = 9 then 0 else if wh (en 0 s) then 2 else 1
theorem st_eq (s : List UInt8) : stC s = stP s := by
  unfold stC stP
  rw [is_eq, is_eq]
  unfold acc
  rw [en_append]
  have h := en_lt s 0 (by omega)
  generalize en 0 s = k at *
  have : k = 0 ∨ k = 1 ∨ k = 2 ∨ k = 3 ∨ k = 4 ∨ k = 5 ∨ k = 6 ∨ k = 7 ∨ k = 8 ∨ k = 9 := by omega
  rcases this with rfl | rfl | rfl | rfl | rfl | rfl | rfl | rfl | rfl | rfl <;> rfl
/-- the longest number's text: from above, and from below -/
def longP (s : List UInt8) : Nat → Nat
  | 0 => 0
  | n + 1 => if Is (s.take (n + 1)) then n + 1 else longP s n
theorem longP_is (s : List UInt8) : ∀ n, longP s n ≤ n ∧ (longP s n ≠ 0 → Is (s.take (longP s n)) = true)
  | 0 => ⟨Nat.le_refl _, fun h => absurd rfl h⟩
  | n + 1 => by
    unfold longP
    split
    · exact ⟨Nat.le_refl _, fun _ => by assumption⟩
    · have := longP_is s n; exact ⟨by omega, this.2⟩
theorem longP_lost (s : List UInt8) (i : Nat) (h : en 0 (s.take i) = 9) : ∀ n, i ≤ n → longP s n = longP s i
  | 0, h0 => by rw [show i = 0 by omega]
  | n + 1, h0 => by
    rcases Nat.lt_or_ge n i with h1 | h1
    · rw [show i = n + 1 by omega]
    · have e : Is (s.take (n + 1)) = false := by
        rw [is_eq]; unfold acc
        have : s.take (n + 1) = s.take i ++ (s.take (n + 1)).drop i := by
          rw [show s.take i = (s.take (n + 1)).take i by rw [List.take_take, Nat.min_eq_left h0], List.take_append_drop]
        rw [this, en_append, h, en9]; rfl
      show (if Is (s.take (n + 1)) = true then n + 1 else longP s n) = _
      rw [e, if_neg (by simp)]
      exact longP_lost s i h n h1
end Tg.Nu
namespace Tg.Nu
theorem en_take (k : Nat) (s : List UInt8) {i : Nat} (h : i < s.length) : en k (s.take (i + 1)) = nx (en k (s.take i)) s[i] := by
  rw [List.take_succ_eq_append_getElem h, en_append]; rfl
theorem en_lost (k : Nat) (s : List UInt8) (i : Nat) (h : en k (s.take i) = 9) : en k s = 9 := by
  have := en_append k (s.take i) (s.drop i)
  rw [List.take_append_drop, h, en9] at this
  exact this
theorem longP_step (s : List UInt8) (i : Nat) (h : i < s.length) : longP s (i + 1) = if wh (nx (en 0 (s.take i)) s[i]) then i + 1 else longP s i := by
  show (if Is (s.take (i + 1)) = true then i + 1 else longP s i) = _
  rw [is_eq]; unfold acc; rw [en_take 0 s h]
end Tg.Nu
/-
  Layer 9 (jnum): texts of numbers: what the judges come to.
-/
set_option linter.unusedSimpArgs false
set_option linter.unusedVariables false
set_option maxRecDepth 100000
namespace Go.Proofs.YteckofomnhminaaDoor
open Go.Lg Tg.Nu
section
variable {H : LH} {b : UInt8} {s : List UInt8}
theorem digit_in : LC Tryd.prog EJ 105 [.int .u8 b.toNat] H = some (.bool (isD b), H) := by
  refine LC_pure rfl Tryd.func105 rfl (Nat.le_of_ble_eq_true rfl) (by decide) (by kernel_rfl) rfl ?_
  simp +contextual [isD, -Int.not_le, -Int.not_lt]
theorem digit_l : LC Tryd.prog EJ 121 [.int .u8 b.toNat] H = some (.bool (isD b), H) := by
  refine LC_pure rfl Tryd.func121 rfl (Nat.le_of_ble_eq_true rfl) (by decide) (by kernel_rfl) rfl ?_
  simp +contextual [digit_in, -Int.not_le, -Int.not_lt]
theorem digit3_l : LC Tryd.prog EJ 83 [.int .u8 b.toNat] H = some (.bool (isD b), H) := by
  refine LC_pure rfl Tryd.func83 rfl (Nat.le_of_ble_eq_true rfl) (by decide) (by kernel_rfl) rfl ?_
  simp +contextual [isD, -Int.not_le, -Int.not_lt]
theorem ten_cases {st : Nat} (h : st ≤ 9) : st = 0 ∨ st = 1 ∨ st = 2 ∨ st = 3 ∨ st = 4 ∨ st = 5 ∨ st = 6 ∨ st = 7 ∨ st = 8 ∨ st = 9 := by omega
theorem whole_l {st : Nat} (h : st ≤ 9) : LC Tryd.prog EJ 53 [.int .i64 (st : Int)] H = some (.bool (wh st), H) := by
  refine LC_pure rfl Tryd.func53 rfl (Nat.le_of_ble_eq_true rfl) (by decide) (by kernel_rfl) rfl ?_
  rcases ten_cases h with rfl | rfl | rfl | rfl | rfl | rfl | rfl | rfl | rfl | rfl <;> simp [wh]
theorem next_l {st : Nat} (h : st ≤ 9) : LC Tryd.prog EJ 84 [.int .i64 (st : Int), .int .u8 b.toNat] H = some (.int .i64 (nx st b : Nat), H) := by
  have w2 : LC Tryd.prog EJ 53 [.int .i64 2] H = _ := whole_l (st := 2) (by decide)
  have w3 : LC Tryd.prog EJ 53 [.int .i64 3] H = _ := whole_l (st := 3) (by decide)
  have w4 : LC Tryd.prog EJ 53 [.int .i64 4] H = _ := whole_l (st := 4) (by decide)
  have w5 : LC Tryd.prog EJ 53 [.int .i64 5] H = _ := whole_l (st := 5) (by decide)
  have w9 : LC Tryd.prog EJ 53 [.int .i64 9] H = _ := whole_l (st := 9) (by decide)
  have hD := D_not b
  have hE := E_not b
  refine LC_pure rfl Tryd.func84 rfl (Nat.le_of_ble_eq_true rfl) (by decide) (by kernel_rfl) rfl ?_
  rcases ten_cases h with rfl | rfl | rfl | rfl | rfl | rfl | rfl | rfl | rfl | rfl
  · by_cases h45 : b = 45
    · subst h45
      have hdl := digit_l (H := H) (b := 45)
      rw [show isD 45 = false from rfl] at hdl
      simp at hdl
      simp [nx, isE, wh, hdl, w2, w3, w4, w5, w9, show isD 45 = false from rfl]
    by_cases h48 : b = 48
    · subst h48
      have hdl := digit_l (H := H) (b := 48)
      rw [show isD 48 = true from rfl] at hdl
      simp at hdl
      simp [nx, isE, wh, hdl, w2, w3, w4, w5, w9, show isD 48 = true from rfl]
    cases hd : isD b with
    | true =>
      obtain ⟨d45, d43, d46, dE⟩ := hD hd
      simp [nx, isE, wh, digit_l, w2, w3, w4, w5, w9, hd, h45, h48, d45, d43, d46]
    | false =>
      simp [nx, isE, wh, digit_l, w2, w3, w4, w5, w9, h45, h48, hd]
  · by_cases h45 : b = 45
    · subst h45
      have hdl := digit_l (H := H) (b := 45)
      rw [show isD 45 = false from rfl] at hdl
      simp at hdl
      simp [nx, isE, wh, hdl, w2, w3, w4, w5, w9, show isD 45 = false from rfl]
    by_cases h48 : b = 48
    · subst h48
      have hdl := digit_l (H := H) (b := 48)
      rw [show isD 48 = true from rfl] at hdl
      simp at hdl
      simp [nx, isE, wh, hdl, w2, w3, w4, w5, w9, show isD 48 = true from rfl]
    cases hd : isD b with
    | true =>
      obtain ⟨d45, d43, d46, dE⟩ := hD hd
      simp [nx, isE, wh, digit_l, w2, w3, w4, w5, w9, hd, h45, h48, d45, d43, d46]
    | false =>
      simp [nx, isE, wh, digit_l, w2, w3, w4, w5, w9, h45, h48, hd]
  · by_cases h46 : b = 46
    · subst h46
      have hdl := digit_l (H := H) (b := 46)
      rw [show isD 46 = false from rfl] at hdl
      simp at hdl
      simp [nx, isE, wh, hdl, w2, w3, w4, w5, w9, show isD 46 = false from rfl]
    by_cases h101 : b = 101
    · subst h101
      have hdl := digit_l (H := H) (b := 101)
      rw [show isD 101 = false from rfl] at hdl
      simp at hdl
      simp [nx, isE, wh, hdl, w2, w3, w4, w5, w9, show isD 101 = false from rfl]
    by_cases h69 : b = 69
    · subst h69
      have hdl := digit_l (H := H) (b := 69)
      rw [show isD 69 = false from rfl] at hdl
      simp at hdl
      simp [nx, isE, wh, hdl, w2, w3, w4, w5, w9, show isD 69 = false from rfl]
    simp [nx, isE, wh, digit_l, w2, w3, w4, w5, w9, h46, h101, h69]
  · cases hd : isD b with
    | true =>
      obtain ⟨d45, d43, d46, dE⟩ := hD hd
      simp [nx, isE, wh, digit_l, w2, w3, w4, w5, w9, hd, d45, d43, d46]
    | false =>
      by_cases h46 : b = 46
      · subst h46
        have hdl := digit_l (H := H) (b := 46)
        rw [show isD 46 = false from rfl] at hdl
        simp at hdl
        simp [nx, isE, wh, hdl, w2, w3, w4, w5, w9, show isD 46 = false from rfl]
      by_cases h101 : b = 101
      · subst h101
        have hdl := digit_l (H := H) (b := 101)
        rw [show isD 101 = false from rfl] at hdl
        simp at hdl
        simp [nx, isE, wh, hdl, w2, w3, w4, w5, w9, show isD 101 = false from rfl]
      by_cases h69 : b = 69
      · subst h69
        have hdl := digit_l (H := H) (b := 69)
        rw [show isD 69 = false from rfl] at hdl
        simp at hdl
        simp [nx, isE, wh, hdl, w2, w3, w4, w5, w9, show isD 69 = false from rfl]
      simp [nx, isE, wh, digit_l, w2, w3, w4, w5, w9, hd, h46, h101, h69]
  · cases hd : isD b with
    | true =>
      obtain ⟨d45, d43, d46, dE⟩ := hD hd
      simp [nx, isE, wh, digit_l, w2, w3, w4, w5, w9, hd, d45, d43, d46]
    | false =>
      by_cases h46 : b = 46
      · subst h46
        have hdl := digit_l (H := H) (b := 46)
        rw [show isD 46 = false from rfl] at hdl
        simp at hdl
        simp [nx, isE, wh, hdl, w2, w3, w4, w5, w9, show isD 46 = false from rfl]
      by_cases h101 : b = 101
      · subst h101
        have hdl := digit_l (H := H) (b := 101)
        rw [show isD 101 = false from rfl] at hdl
        simp at hdl
        simp [nx, isE, wh, hdl, w2, w3, w4, w5, w9, show isD 101 = false from rfl]
      by_cases h69 : b = 69
      · subst h69
        have hdl := digit_l (H := H) (b := 69)
        rw [show isD 69 = false from rfl] at hdl
        simp at hdl
        simp [nx, isE, wh, hdl, w2, w3, w4, w5, w9, show isD 69 = false from rfl]
      simp [nx, isE, wh, digit_l, w2, w3, w4, w5, w9, hd, h46, h101, h69]
  · cases hd : isD b with
    | true =>
      obtain ⟨d45, d43, d46, dE⟩ := hD hd
      simp [nx, isE, wh, digit_l, w2, w3, w4, w5, w9, hd, d45, d43, d46]
    | false =>
      by_cases h46 : b = 46
      · subst h46
        have hdl := digit_l (H := H) (b := 46)
        rw [show isD 46 = false from rfl] at hdl
        simp at hdl
        simp [nx, isE, wh, hdl, w2, w3, w4, w5, w9, show isD 46 = false from rfl]
      by_cases h101 : b = 101
      · subst h101
        have hdl := digit_l (H := H) (b := 101)
        rw [show isD 101 = false from rfl] at hdl
        simp at hdl
        simp [nx, isE, wh, hdl, w2, w3, w4, w5, w9, show isD 101 = false from rfl]
      by_cases h69 : b = 69
      · subst h69
        have hdl := digit_l (H := H) (b := 69)
        rw [show isD 69 = false from rfl] at hdl
        simp at hdl
        simp [nx, isE, wh, hdl, w2, w3, w4, w5, w9, show isD 69 = false from rfl]
      simp [nx, isE, wh, digit_l, w2, w3, w4, w5, w9, hd, h46, h101, h69]
  · cases hd : isD b with
    | true =>
      obtain ⟨d45, d43, d46, dE⟩ := hD hd
      simp [nx, isE, wh, digit_l, w2, w3, w4, w5, w9, hd, d45, d43, d46]
    | false =>
      by_cases h43 : b = 43
      · subst h43
        have hdl := digit_l (H := H) (b := 43)
        rw [show isD 43 = false from rfl] at hdl
        simp at hdl
        simp [nx, isE, wh, hdl, w2, w3, w4, w5, w9, show isD 43 = false from rfl]
      by_cases h45 : b = 45
      · subst h45
        have hdl := digit_l (H := H) (b := 45)
        rw [show isD 45 = false from rfl] at hdl
        simp at hdl
        simp [nx, isE, wh, hdl, w2, w3, w4, w5, w9, show isD 45 = false from rfl]
      simp [nx, isE, wh, digit_l, w2, w3, w4, w5, w9, hd, h43, h45]
  · cases hd : isD b with
    | true =>
      obtain ⟨d45, d43, d46, dE⟩ := hD hd
      simp [nx, isE, wh, digit_l, w2, w3, w4, w5, w9, hd, d45, d43, d46]
    | false =>
      simp [nx, isE, wh, digit_l, w2, w3, w4, w5, w9, hd]
  · cases hd : isD b with
    | true =>
      obtain ⟨d45, d43, d46, dE⟩ := hD hd
      simp [nx, isE, wh, digit_l, w2, w3, w4, w5, w9, hd, d45, d43, d46]
    | false =>
      simp [nx, isE, wh, digit_l, w2, w3, w4, w5, w9, hd]
  · by_cases h46 : b = 46
    · subst h46
      have hdl := digit_l (H := H) (b := 46)
      rw [show isD 46 = false from rfl] at hdl
      simp at hdl
      simp [nx, isE, wh, hdl, w2, w3, w4, w5, w9, show isD 46 = false from rfl]
    by_cases h101 : b = 101
    · subst h101
      have hdl := digit_l (H := H) (b := 101)
      rw [show isD 101 = false from rfl] at hdl
      simp at hdl
      simp [nx, isE, wh, hdl, w2, w3, w4, w5, w9, show isD 101 = false from rfl]
    by_cases h69 : b = 69
    · subst h69
      have hdl := digit_l (H := H) (b := 69)
      rw [show isD 69 = false from rfl] at hdl
      simp at hdl
      simp [nx, isE, wh, hdl, w2, w3, w4, w5, w9, show isD 69 = false from rfl]
    simp [nx, isE, wh, digit_l, w2, w3, w4, w5, w9, h46, h101, h69]
theorem at_of {s : List UInt8} {i : Nat} {c : UInt8} (h : s[i]? = some c) : at_ s (i : Int) = c := by
  unfold at_
  rw [show ((i : Nat) : Int).toNat = i by omega, List.getD_eq_getElem?_getD, h]; rfl
theorem at_in {s : List UInt8} {i : Nat} (h : i < s.length) : at_ s (i : Int) = s[i] := at_of (List.getElem?_eq_getElem h)
theorem end_l (hs : s.length ≤ 9223372036854775806) : LC Tryd.prog EJ 52 [str s] H = some (.int .i64 (en 0 s : Nat), H) := by
  refine LC_pure rfl Tryd.func52 rfl (Nat.le_of_ble_eq_true rfl) (by decide) (by kernel_rfl) rfl ?_
  simp
  refine loop_ind (fun (i : Nat) fr' H' => fr' 0 = str s ∧ fr' 3 = .int .i64 (en 0 (s.take i) : Nat) ∧ fr' 4 = .int .i64 i ∧ i ≤ s.length ∧ H' = H) (fun i => s.length - i) 0 (by simp [en]) ?_
  rintro i fr' H' ⟨h0, h3, h4, hi, rfl⟩ ih
  by_cases hlt : i < s.length
  · by_cases h9 : en 0 (s.take i) = 9
    · have e := en_lost 0 s i h9
      rw [h9] at h3
      simp [h0, h3, h4, hlt, e]
    · have h9' : (((en 0 (s.take i) : Nat) : Int) = 9) = False := eq_false (by omega)
      have hn := next_l (H := H') (b := s[i]) (en_lt (s.take i) 0 (by omega))
      rw [← en_take 0 s hlt] at hn
      have hw : IntKind.i64.wrap ((i : Int) + 1) = ((i + 1 : Nat) : Int) := by rw [wrap64_in (by omega) (by omega)]; omega
      simp [h0, h3, h4, hlt, h9', at_in hlt, hn, hw]
      exact ih (i + 1) _ _ (by omega) ⟨by simp [h0], by simp, by simp, hlt, rfl⟩
  · have e : s.take i = s := List.take_of_length_le (by omega)
    rw [e] at h3
    simp [h0, h3, h4, hlt]
theorem scan_in (hs : s.length ≤ 9223372036854775806) : LC Tryd.prog EJ 51 [str s] H = some (.tuple #[.int .i64 (longP s s.length : Nat), .bool (decide (0 < longP s s.length))], H) := by
  refine LC_pure rfl Tryd.func51 rfl (Nat.le_of_ble_eq_true rfl) (by decide) (by kernel_rfl) rfl ?_
  simp
  refine loop_ind (fun (i : Nat) fr' H' => fr' 0 = str s ∧ fr' 4 = .int .i64 (en 0 (s.take i) : Nat) ∧ fr' 5 = .int .i64 (longP s i : Nat) ∧ fr' 6 = .int .i64 i ∧ i ≤ s.length ∧ H' = H) (fun i => s.length - i) 0 (by simp [en, longP]) ?_
  rintro i fr' H' ⟨h0, h4, h5, h6, hi, rfl⟩ ih
  by_cases hlt : i < s.length
  · by_cases h9 : en 0 (s.take i) = 9
    · have e := longP_lost s i h9 s.length hi
      rw [h9] at h4
      simp [h0, h4, h5, h6, hlt, e]
    · have h9' : (((en 0 (s.take i) : Nat) : Int) = 9) = False := eq_false (by omega)
      have hn := next_l (H := H') (b := s[i]) (en_lt (s.take i) 0 (by omega))
      have hl := longP_step s i hlt
      have hle := en_lt (s.take (i + 1)) 0 (by omega)
      rw [← en_take 0 s hlt] at hn hl
      have hwh := whole_l (H := H') hle
      have hw : IntKind.i64.wrap ((i : Int) + 1) = ((i + 1 : Nat) : Int) := by rw [wrap64_in (by omega) (by omega)]; omega
      cases hc : wh (en 0 (s.take (i + 1))) with
      | true =>
        rw [hc] at hwh hl
        rw [if_pos rfl] at hl
        simp [h0, h4, h5, h6, hlt, h9', at_in hlt, hn, hw, hwh]
        exact ih (i + 1) _ _ (by omega) ⟨by simp [h0], by simp, by simp [hl], by simp, hlt, rfl⟩
      | false =>
        rw [hc] at hwh hl
        rw [if_neg (by simp)] at hl
        simp [h0, h4, h5, h6, hlt, h9', at_in hlt, hn, hw, hwh]
        exact ih (i + 1) _ _ (by omega) ⟨by simp [h0], by simp, by simp [hl, h5], by simp, hlt, rfl⟩
  · have e : i = s.length := by omega
    subst e
    simp [h0, h4, h5, h6, hlt]
theorem Scan_l (hs : s.length ≤ 9223372036854775806) : LC Tryd.prog EJ 23 [str s] H = some (.tuple #[.int .i64 (longP s s.length : Nat), .bool (decide (0 < longP s s.length))], H) := by
  refine LC_pure rfl Tryd.func23 rfl (Nat.le_of_ble_eq_true rfl) (by decide) (by kernel_rfl) rfl ?_
  simp [scan_in hs]
theorem State_l (hs : s.length ≤ 9223372036854775806) : LC Tryd.prog EJ 25 [str s] H = some (.int .i64 (stC s : Nat), H) := by
  refine LC_pure rfl Tryd.func25 rfl (Nat.le_of_ble_eq_true rfl) (by decide) (by kernel_rfl) rfl ?_
  have hle := en_lt s 0 (by omega)
  have hwh := whole_l (H := H) hle
  by_cases h9 : en 0 s = 9
  · simp [end_l hs, stC, h9]
  · have h9' : (((en 0 s : Nat) : Int) = 9) = False := eq_false (by omega)
    cases hc : wh (en 0 s) <;> rw [hc] at hwh <;> simp [end_l hs, stC, h9, h9', hwh, hc]
theorem run_l {i : Nat} (hi0 : i ≤ s.length) (hs : s.length ≤ 9223372036854775806) : LC Tryd.prog EJ 48 [str s, .int .i64 i] H = some (.int .i64 (rn s i : Nat), H) := by
  refine LC_pure rfl Tryd.func48 rfl (Nat.le_of_ble_eq_true rfl) (by decide) (by kernel_rfl) rfl ?_
  have hle := rn_le s i hi0
  simp
  refine loop_ind (fun (k : Nat) fr' H' => fr' 0 = str s ∧ fr' 1 = .int .i64 i ∧ fr' 5 = .int .i64 k ∧ i + k ≤ s.length ∧ rn s i = k + rn s (i + k) ∧ H' = H) (fun k => s.length - k) 0 (by simp [hi0]) ?_
  rintro k fr' H' ⟨h0, h1, h5, hk, hr, rfl⟩ ih
  have hw1 : IntKind.i64.wrap ((i : Int) + k) = ((i + k : Nat) : Int) := by rw [wrap64_in (by omega) (by omega)]; omega
  by_cases hlt : i + k < s.length
  · have hlt' : ((i : Int) + k < s.length) = True := eq_true (by omega)
    have h00 : (0 ≤ (i : Int) + k) = True := eq_true (by omega)
    have hd := List.drop_eq_getElem_cons hlt
    have hat : at_ s ((i : Int) + k) = s[i + k] := by
      unfold at_
      rw [show ((i : Int) + k).toNat = i + k by omega, List.getD_eq_getElem?_getD, List.getElem?_eq_getElem hlt]; rfl
    cases hc : isD s[i + k] with
    | true =>
      have hr2 : rn s (i + k) = rn s (i + (k + 1)) + 1 := by
        unfold rn
        rw [hd, List.takeWhile_cons, if_pos hc]; rfl
      have hw : IntKind.i64.wrap ((k : Int) + 1) = ((k + 1 : Nat) : Int) := by rw [wrap64_in (by omega) (by omega)]; omega
      simp [h0, h1, h5, hw1, hlt', h00, digit3_l, hat, hc, hw]
      exact ih (k + 1) _ _ (by omega) ⟨by simp [h0], by simp [h1], by simp, by omega, by omega, rfl⟩
    | false =>
      have hr2 : rn s (i + k) = 0 := by
        unfold rn
        rw [hd, List.takeWhile_cons, if_neg (by rw [hc]; simp)]; rfl
      rw [hr2] at hr
      simp [h0, h1, h5, hw1, hlt', h00, digit3_l, hat, hc, hr]
  · have hlt' : ((i : Int) + k < s.length) = False := eq_false (by omega)
    have hr2 : rn s (i + k) = 0 := by have := rn_le s (i + k) hk; omega
    rw [hr2] at hr
    simp [h0, h1, h5, hw1, hlt', hr]
end
end Go.Proofs.YteckofomnhminaaDoor
/-
  A logical run of Go code: a run cut at a point of a row of statements.
-/
set_option linter.unusedSimpArgs false
set_option linter.unusedVariables false
namespace Go.Lg
open Go.Tg Go.RowKit
/-- what stands behind the first n statements -/
def seqDrop : Nat → Code → Code
  | 0, c => c
  | n + 1, .seq _ b => seqDrop n b
  | _ + 1, c => c
/-- the first n statements, with another rest -/
def seqPre : Nat → Code → Code → Code
  | 0, _, K => K
  | n + 1, .seq a b, K => .seq a (seqPre n b K)
  | _ + 1, c, _ => c
@[simp ↓] theorem seqDrop_zero {c : Code} : seqDrop 0 c = c := by cases c <;> rfl
@[simp ↓] theorem seqDrop_succ {n : Nat} {a b : Code} : seqDrop (n + 1) (.seq a b) = seqDrop n b := rfl
@[simp ↓] theorem seqPre_zero {c K : Code} : seqPre 0 c K = K := by cases c <;> rfl
@[simp ↓] theorem seqPre_succ {n : Nat} {a b K : Code} : seqPre (n + 1) (.seq a b) K = .seq a (seqPre n b K) := rfl
@[simp] theorem splice_all {cs vs : List Value} (h : cs.length = vs.length) : splice cs 0 vs = vs := by
  unfold splice; simp [h]
@[simp] theorem atom_str {l : List UInt8} : atomB (str l) = true := by simp only [atomB, str]
@[simp] theorem atom_int {k : IntKind} {n : Int} : atomB (.int k n) = true := by simp only [atomB]
@[simp] theorem atom_bool {b : Bool} : atomB (.bool b) = true := by simp only [atomB]
@[simp] theorem atom_nil : atomB (.pointer none) = true := by simp only [atomB]
@[simp] theorem atom_nilslice : atomB (.slice none 0 0) = true := by simp [atomB]
@[simp] theorem lbE_nil {P : Program} {t : TypeId} {z : List Value} (hp : plcB P t = true) (hz : z.all atomB = true) : lbE P t (some (.agg ⟨z⟩)) [] = some (.agg ⟨z⟩) := by
  rw [lbE_agg (by simp only [knownL]) hz, lfill_nil hp]; rfl
section
variable {H H' : LH} {b : LB} {l : Nat}
@[simp] theorem le_new_iff (h : H.n ≤ H'.n) : H.le (H'.new b) ↔ H.le H' := by
  constructor
  · intro hl; exact ⟨h, fun k hk => by rw [← hl.2 k hk, get_new_ne (by omega)]⟩
  · intro hl; exact hl.new
@[simp] theorem le_set_iff (h : H.n ≤ l) : H.le (H'.set l b) ↔ H.le H' := by
  constructor
  · intro hl; exact ⟨hl.1, fun k hk => by rw [← hl.2 k hk, get_set_ne (by omega)]⟩
  · intro hl; exact hl.set h
@[simp] theorem le_kill_iff (h : H.n ≤ l) : H.le (H'.kill l) ↔ H.le H' := by
  constructor
  · intro hl; exact ⟨hl.1, fun k hk => by rw [← hl.2 k hk, get_kill_ne (by omega)]⟩
  · intro hl; exact hl.kill h
end
section
variable {P : Program} {E : Ext} {fn : Func} {k : List Item} {fr : Fr} {H : LH} {Q : Value × LH → Prop} {c : Code}
theorem runs_cut (n : Nat) (Inv : Fr → LH → Prop) (h1 : ∀ fr H, Inv fr H → Runs P E fn (.code (seqDrop n c) :: k) fr H Q)
    (h2 : ∀ K, (∀ fr H, Inv fr H → Runs P E fn (.code K :: k) fr H Q) → Runs P E fn (.code (seqPre n c K) :: k) fr H Q) (hc : seqPre n c (seqDrop n c) = c) : Runs P E fn (.code c :: k) fr H Q := by
  have := h2 (seqDrop n c) h1
  rw [hc] at this
  exact this
/-- a way to a place in a code: behind n statements; what stands ahead in a pair; what is done if so, if not; a block's body -/
inductive Dir where
  | d (n : Nat)
  | l
  | t
  | e
  | b
def cAt : List Dir → Code → Code
  | [], c => c
  | .d n :: p, c => cAt p (seqDrop n c)
  | .l :: p, .seq a _ => cAt p a
  | .t :: p, .cond _ a _ => cAt p a
  | .e :: p, .cond _ _ a => cAt p a
  | .b :: p, .block _ a => cAt p a
  | _ :: _, c => c
def cPut : List Dir → Code → Code → Code
  | [], _, K => K
  | .d n :: p, c, K => seqPre n c (cPut p (seqDrop n c) K)
  | .l :: p, .seq a b, K => .seq (cPut p a K) b
  | .t :: p, .cond x a b, K => .cond x (cPut p a K) b
  | .e :: p, .cond x a b, K => .cond x a (cPut p b K)
  | .b :: p, .block i a, K => .block i (cPut p a K)
  | _ :: _, c, _ => c
/-- what is still to be done behind that place -/
def cK : List Dir → Code → List Item → List Item
  | [], _, k => k
  | .d n :: p, c, k => cK p (seqDrop n c) k
  | .l :: p, .seq a b, k => cK p a (.code b :: k)
  | .t :: p, .cond _ a _, k => cK p a k
  | .e :: p, .cond _ _ a, k => cK p a k
  | .b :: p, .block i a, k => cK p a (.inBlock i :: k)
  | _ :: _, _, k => k
section
variable {p : List Dir} {n i : Nat} {a b K : Code} {x : Operand}
@[simp ↓] theorem cAt_nil : cAt [] c = c := by cases c <;> rfl
@[simp ↓] theorem cAt_d : cAt (.d n :: p) c = cAt p (seqDrop n c) := by cases c <;> rfl
@[simp ↓] theorem cAt_l : cAt (.l :: p) (.seq a b) = cAt p a := rfl
@[simp ↓] theorem cAt_t : cAt (.t :: p) (.cond x a b) = cAt p a := rfl
@[simp ↓] theorem cAt_e : cAt (.e :: p) (.cond x a b) = cAt p b := rfl
@[simp ↓] theorem cAt_b : cAt (.b :: p) (.block i a) = cAt p a := rfl
@[simp ↓] theorem cPut_nil : cPut [] c K = K := by cases c <;> rfl
@[simp ↓] theorem cPut_d : cPut (.d n :: p) c K = seqPre n c (cPut p (seqDrop n c) K) := by cases c <;> rfl
@[simp ↓] theorem cPut_l : cPut (.l :: p) (.seq a b) K = .seq (cPut p a K) b := rfl
@[simp ↓] theorem cPut_t : cPut (.t :: p) (.cond x a b) K = .cond x (cPut p a K) b := rfl
@[simp ↓] theorem cPut_e : cPut (.e :: p) (.cond x a b) K = .cond x a (cPut p b K) := rfl
@[simp ↓] theorem cPut_b : cPut (.b :: p) (.block i a) K = .block i (cPut p a K) := rfl
@[simp ↓] theorem cK_nil : cK [] c k = k := by cases c <;> rfl
@[simp ↓] theorem cK_d : cK (.d n :: p) c k = cK p (seqDrop n c) k := by cases c <;> rfl
@[simp ↓] theorem cK_l : cK (.l :: p) (.seq a b) k = cK p a (.code b :: k) := rfl
@[simp ↓] theorem cK_t : cK (.t :: p) (.cond x a b) k = cK p a k := rfl
@[simp ↓] theorem cK_e : cK (.e :: p) (.cond x a b) k = cK p b k := rfl
@[simp ↓] theorem cK_b : cK (.b :: p) (.block i a) k = cK p a (.inBlock i :: k) := rfl
end
theorem runs_at (p : List Dir) (Inv : Fr → LH → Prop) (h1 : ∀ fr H, Inv fr H → Runs P E fn (.code (cAt p c) :: cK p c k) fr H Q)
    (h2 : ∀ K, (∀ fr H, Inv fr H → Runs P E fn (.code K :: cK p c k) fr H Q) → Runs P E fn (.code (cPut p c K) :: k) fr H Q) (hc : cPut p c (cAt p c) = c) : Runs P E fn (.code c :: k) fr H Q := by
  have := h2 (cAt p c) h1
  rw [hc] at this
  exact this
end
end Go.Lg
/-
  Layer 9 (jnum): what the reference's judge of a number's text comes to.
-/
set_option linter.unusedSimpArgs false
set_option linter.unusedVariables false
set_option maxRecDepth 100000
namespace Tg.Nu
theorem Is_go {s : List UInt8} {i : Nat} (hi : i = if s[0]? = some 45 then 1 else 0) : Is s = if rn s i = 0 ∨ (1 < rn s i ∧ s[i]? = some 48) then false else Is1 s (i + rn s i) := by
  subst hi; rfl
theorem Is1_dot {s : List UInt8} {i : Nat} (h : s[i]? = some 46) : Is1 s i = if rn s (i + 1) = 0 then false else Is2 s (i + 1 + rn s (i + 1)) := by unfold Is1; rw [if_pos h]
theorem Is1_no {s : List UInt8} {i : Nat} (h : s[i]? ≠ some 46) : Is1 s i = Is2 s i := by unfold Is1; rw [if_neg h]
theorem Is2_E {s : List UInt8} {i j : Nat} {c : UInt8} (h : s[i]? = some c) (hE : isE c = true) (hj : j = if s[i + 1]? = some 43 ∨ s[i + 1]? = some 45 then i + 2 else i + 1) : Is2 s i = if rn s j = 0 then false else j + rn s j == s.length := by
  subst hj; unfold Is2; rw [h]; dsimp only; rw [if_pos hE]
theorem Is2_no {s : List UInt8} {i : Nat} {c : UInt8} (h : s[i]? = some c) (hE : isE c = false) : Is2 s i = (i == s.length) := by
  unfold Is2; rw [h]; dsimp only; rw [if_neg (by rw [hE]; simp)]
theorem Is2_end {s : List UInt8} {i : Nat} (h : s[i]? = none) : Is2 s i = (i == s.length) := by
  unfold Is2; rw [h]
theorem isE_iff {c : UInt8} : (isE c = true) ↔ (c = 101 ∨ c = 69) := by simp [isE]
end Tg.Nu
namespace Go.Proofs.YteckofomnhminaaDoor
open Go.Lg Tg.Nu
section
variable {H : LH} {b : UInt8} {s : List UInt8}
theorem is_l (hs : s.length ≤ 1048577) : LC Tryd.prog EJ 20 [str s] H = some (.bool (Is s), H) := by
  refine LC_pure rfl Tryd.func20 rfl (Nat.le_of_ble_eq_true rfl) (by decide) (by kernel_rfl) rfl ?_
  have hrun := fun (i : Nat) (hi : i ≤ s.length) (H : LH) => run_l (H := H) hi (show s.length ≤ 9223372036854775806 by omega)
  have hwr : ∀ i : Nat, i ≤ s.length → IntKind.i64.wrap ((i : Int) + 1) = ((i + 1 : Nat) : Int) := fun i hi => by rw [wrap64_in (by omega) (by omega)]; omega
  have hwr2 : ∀ i j : Nat, i + j ≤ s.length → IntKind.i64.wrap ((i : Int) + (j : Int)) = ((i + j : Nat) : Int) := fun i j hi => by rw [wrap64_in (by omega) (by omega)]; omega
  -- the last test
  refine runs_cut 8 (fun fr' H' => ∃ i : Nat, fr' 0 = str s ∧ fr' 3 = .int .i64 i ∧ Is s = (i == s.length) ∧ H' = H) ?_ (fun K8 hK8 => ?_) rfl
  · rintro fr' H' ⟨i, h0, h3, he, rfl⟩
    rw [he]
    have e : ((i : Int) = (s.length : Int)) = (i = s.length) := by apply propext; omega
    simp [h0, h3, e]
    rfl
  -- behind the sign of the power
  refine runs_at [.d 7, .l, .d 1, .t, .d 2] (fun fr' H' => ∃ j : Nat, fr' 0 = str s ∧ fr' 3 = .int .i64 j ∧ j ≤ s.length ∧ Is s = (if rn s j = 0 then false else j + rn s j == s.length) ∧ H' = H) ?_ (fun K9 hK9 => ?_) rfl
  · rintro fr' H' ⟨j, h0, h3, hj, he, rfl⟩
    have h1 := hrun j hj H'
    have hle := rn_le s j hj
    generalize rn s j = n at *
    by_cases hn : n = 0
    · subst hn
      rw [if_pos rfl] at he
      simp [h0, h3, h1, he]
    · rw [if_neg hn] at he
      have q := eq_false (show ¬ n = 0 by omega)
      have h2 := hwr2 j n hle
      generalize j + n = j2 at *
      simp [h0, h3, h1, q, h2]
      exact hK8 _ _ ⟨j2, by simp [h0], by simp, he, rfl⟩
  -- the power
  refine runs_cut 7 (fun fr' H' => ∃ i : Nat, fr' 0 = str s ∧ fr' 3 = .int .i64 i ∧ i ≤ s.length ∧ Is s = Is2 s i ∧ H' = H) ?_ (fun K7 hK7 => ?_) rfl
  · rintro fr' H' ⟨i, h0, h3, hi, he, rfl⟩
    rcases Nat.eq_or_lt_of_le hi with z | z
    · have q : ((i : Int) < (s.length : Int)) = False := eq_false (by omega)
      have g : s[i]? = none := by simp [z]
      rw [Is2_end g] at he
      simp [h0, h3, q]
      exact hK8 _ _ ⟨i, by simp [h0], by simp [h3], he, rfl⟩
    · have q : ((i : Int) < (s.length : Int)) = True := eq_true (by omega)
      have g : s[i]? = some s[i] := List.getElem?_eq_getElem z
      have qa : at_ s (i : Int) = s[i] := at_of g
      generalize s[i] = c at *
      cases hE : isE c with
      | false =>
        rw [Is2_no g hE] at he
        have hE1 : c ≠ 101 := by rintro rfl; cases hE
        have hE2 : c ≠ 69 := by rintro rfl; cases hE
        simp [h0, h3, q, qa, hE1, hE2]
        exact hK8 _ _ ⟨i, by simp [h0], by simp [h3], he, rfl⟩
      | true =>
        have hE1 : (c = 101) = True ∨ ((c = 101) = False ∧ (c = 69) = True) := by
          rcases isE_iff.1 hE with h | h
          · exact .inl (eq_true h)
          · exact .inr ⟨eq_false (by rw [h]; decide), eq_true h⟩
        have hw1 := hwr i hi
        have he1 := fun j => Is2_E (s := s) (j := j) g hE
        rcases Nat.eq_or_lt_of_le (show i + 1 ≤ s.length from z) with z2 | z2
        · have q2 : (((i + 1 : Nat) : Int) < (s.length : Int)) = False := eq_false (by omega)
          have g2 : s[i + 1]? = none := by simp [z2]
          rw [he1 (i + 1) (by simp [g2])] at he
          generalize hi1 : i + 1 = i1 at *
          rcases hE1 with e1 | ⟨e1, e2⟩
          · simp [h0, h3, q, qa, e1, hw1, q2]
            exact hK9 _ _ ⟨i1, by simp [h0], by simp, by omega, he, rfl⟩
          · simp [h0, h3, q, qa, e1, e2, hw1, q2]
            exact hK9 _ _ ⟨i1, by simp [h0], by simp, by omega, he, rfl⟩
        · have q2 : (((i + 1 : Nat) : Int) < (s.length : Int)) = True := eq_true (by omega)
          have g2 : s[i + 1]? = some s[i + 1] := List.getElem?_eq_getElem z2
          have qa2 : at_ s ((i + 1 : Nat) : Int) = s[i + 1] := at_of g2
          have hw2 := hwr (i + 1) (by omega)
          by_cases hsg : s[i + 1] = 43 ∨ s[i + 1] = 45
          · rw [he1 (i + 1 + 1) (by simp [g2, hsg])] at he
            have hs1 : (s[i + 1] = 43) = True ∨ ((s[i + 1] = 43) = False ∧ (s[i + 1] = 45) = True) := by
              rcases hsg with h | h
              · exact .inl (eq_true h)
              · exact .inr ⟨eq_false (by rw [h]; decide), eq_true h⟩
            generalize s[i + 1] = c2 at *
            generalize hi2 : i + 1 + 1 = i2 at *
            generalize hi1 : i + 1 = i1 at *
            rcases hs1 with f1 | ⟨f1, f2⟩ <;> rcases hE1 with e1 | ⟨e1, e2⟩
            · simp [h0, h3, q, qa, e1, hw1, q2, qa2, f1, hw2]
              exact hK9 _ _ ⟨i2, by simp [h0], by simp, by omega, he, rfl⟩
            · simp [h0, h3, q, qa, e1, e2, hw1, q2, qa2, f1, hw2]
              exact hK9 _ _ ⟨i2, by simp [h0], by simp, by omega, he, rfl⟩
            · simp [h0, h3, q, qa, e1, hw1, q2, qa2, f1, f2, hw2]
              exact hK9 _ _ ⟨i2, by simp [h0], by simp, by omega, he, rfl⟩
            · simp [h0, h3, q, qa, e1, e2, hw1, q2, qa2, f1, f2, hw2]
              exact hK9 _ _ ⟨i2, by simp [h0], by simp, by omega, he, rfl⟩
          · have f1 := eq_false (show ¬ s[i + 1] = 43 from fun h => hsg (.inl h))
            have f2 := eq_false (show ¬ s[i + 1] = 45 from fun h => hsg (.inr h))
            rw [he1 (i + 1) (by simp [g2, hsg])] at he
            generalize s[i + 1] = c2 at *
            generalize hi1 : i + 1 = i1 at *
            rcases hE1 with e1 | ⟨e1, e2⟩
            · simp [h0, h3, q, qa, e1, hw1, q2, qa2, f1, f2]
              exact hK9 _ _ ⟨i1, by simp [h0], by simp, by omega, he, rfl⟩
            · simp [h0, h3, q, qa, e1, e2, hw1, q2, qa2, f1, f2]
              exact hK9 _ _ ⟨i1, by simp [h0], by simp, by omega, he, rfl⟩
  -- the point
  refine runs_cut 6 (fun fr' H' => ∃ i : Nat, fr' 0 = str s ∧ fr' 3 = .int .i64 i ∧ i ≤ s.length ∧ Is s = Is1 s i ∧ H' = H) ?_ (fun K6 hK6 => ?_) rfl
  · rintro fr' H' ⟨i, h0, h3, hi, he, rfl⟩
    by_cases h46 : s[i]? = some 46
    · have z : i < s.length := (List.getElem?_eq_some_iff.1 h46).1
      have q : ((i : Int) < (s.length : Int)) = True := eq_true (by omega)
      have qa : at_ s (i : Int) = 46 := at_of h46
      have hw1 := hwr i hi
      have h1 := hrun (i + 1) z H'
      have hle := rn_le s (i + 1) z
      rw [Is1_dot h46] at he
      generalize rn s (i + 1) = n at *
      by_cases hn : n = 0
      · subst hn
        rw [if_pos rfl] at he
        generalize hi1 : i + 1 = i1 at *
        simp [h0, h3, q, qa, hw1, h1, he]
      · rw [if_neg hn] at he
        have q2 := eq_false (show ¬ n = 0 by omega)
        have h2 := hwr2 (i + 1) n hle
        generalize hi2 : i + 1 + n = i2 at *
        generalize hi1 : i + 1 = i1 at *
        simp [h0, h3, q, qa, hw1, h1, q2, h2]
        exact hK7 _ _ ⟨i2, by simp [h0], by simp, hle, he, rfl⟩
    · rw [Is1_no h46] at he
      rcases Nat.eq_or_lt_of_le hi with z | z
      · have q : ((i : Int) < (s.length : Int)) = False := eq_false (by omega)
        simp [h0, h3, q]
        exact hK7 _ _ ⟨i, by simp [h0], by simp [h3], hi, he, rfl⟩
      · have q : ((i : Int) < (s.length : Int)) = True := eq_true (by omega)
        have g : s[i]? = some s[i] := List.getElem?_eq_getElem z
        have qa : at_ s (i : Int) = s[i] := at_of g
        rw [g] at h46
        have f1 := eq_false (show ¬ s[i] = 46 from fun h => h46 (by rw [h]))
        simp [h0, h3, q, qa, f1]
        exact hK7 _ _ ⟨i, by simp [h0], by simp [h3], hi, he, rfl⟩
  -- the first digits
  refine runs_cut 3 (fun fr' H' => ∃ i : Nat, fr' 0 = str s ∧ fr' 3 = .int .i64 i ∧ i ≤ s.length ∧ i = (if s[0]? = some 45 then 1 else 0) ∧ H' = H) ?_ (fun K3 hK3 => ?_) rfl
  · rintro fr' H' ⟨i, h0, h3, hi, he, rfl⟩
    have he := Is_go he
    have h1 := hrun i hi H'
    have hle := rn_le s i hi
    by_cases hn : rn s i = 0
    · rw [hn] at h1
      rw [if_pos (.inl hn)] at he
      simp [h0, h3, h1, he]
    · have hz : i < s.length := by
        rcases Nat.eq_or_lt_of_le hi with z | z
        · omega
        · exact z
      have g : s[i]? = some s[i] := List.getElem?_eq_getElem hz
      have qa : at_ s (i : Int) = s[i] := at_of g
      have q : ((i : Int) < (s.length : Int)) = True := eq_true (by omega)
      have h2 := hwr2 i (rn s i) hle
      rw [g] at he
      generalize s[i] = c at *
      generalize rn s i = n at *
      have q1 := eq_false (show ¬ n = 0 by omega)
      by_cases hb : 1 < n ∧ c = 48
      · rw [if_pos (.inr ⟨hb.1, by rw [hb.2]⟩)] at he
        have q2 := eq_true (show (1 : Int) < (n : Int) by omega)
        have q3 := eq_true hb.2
        simp [h0, h3, h1, q, qa, q1, q2, q3, he]
      · rw [if_neg (fun h => h.elim hn (fun h => hb ⟨h.1, by simpa using h.2⟩))] at he
        generalize hi2 : i + n = i2 at *
        by_cases h1n : 1 < n
        · have q2 := eq_true (show (1 : Int) < (n : Int) by omega)
          have q3 := eq_false (show ¬ c = 48 from fun h => hb ⟨h1n, h⟩)
          simp [h0, h3, h1, q, qa, q1, q2, q3, h2]
          exact hK6 _ _ ⟨i2, by simp [h0], by simp, hle, he, rfl⟩
        · have q2 := eq_false (show ¬ (1 : Int) < (n : Int) by omega)
          simp [h0, h3, h1, q, qa, q1, q2, h2]
          exact hK6 _ _ ⟨i2, by simp [h0], by simp, hle, he, rfl⟩
  by_cases h45 : s[0]? = some 45
  · have z : 0 < s.length := (List.getElem?_eq_some_iff.1 h45).1
    have q : (0 < s.length) = True := eq_true (by omega)
    have qa : at_ s 0 = 45 := at_of (i := 0) h45
    simp [q, qa]
    exact hK3 _ _ ⟨1, by simp, by simp, z, by rw [if_pos h45], rfl⟩
  · have hq : (0 < s.length) = False ∨ ((0 < s.length) = True ∧ (at_ s 0 = 45) = False) := by
      rcases Nat.eq_zero_or_pos s.length with z | z
      · exact .inl (eq_false (by omega))
      · refine .inr ⟨eq_true (by omega), eq_false (fun h => h45 ?_)⟩
        have e := at_of (s := s) (i := 0) (List.getElem?_eq_getElem z)
        rw [List.getElem?_eq_getElem z, ← e]; exact congrArg some h
    rcases hq with q | ⟨q, qa⟩
    · simp [q]
      exact hK3 _ _ ⟨0, by simp, by simp, Nat.zero_le _, by rw [if_neg h45], rfl⟩
    · simp [q, qa]
      exact hK3 _ _ ⟨0, by simp, by simp, Nat.zero_le _, by rw [if_neg h45], rfl⟩
end
end Go.Proofs.YteckofomnhminaaDoor
/-
  Layer 9 (jnum): what a number's text says: the code's way and the reference's way.
-/
set_option linter.unusedSimpArgs false
set_option linter.unusedVariables false
namespace Tg.Nu
open Go
theorem mem_tw {p : UInt8 → Bool} : ∀ {l : List UInt8} {b : UInt8}, b ∈ l.takeWhile p → p b = true
  | [], b, h => by cases h
  | x :: l, b, h => by
    rw [List.takeWhile_cons] at h
    split at h
    · rename_i hx
      rcases List.mem_cons.1 h with rfl | h
      · exact hx
      · exact mem_tw h
    · cases h
theorem any_cons (b : UInt8) (l c : List UInt8) : Lib.indexAny (b :: l) c = if c.contains b then 0 else if Lib.indexAny l c == -1 then -1 else Lib.indexAny l c + 1 := rfl
theorem byte_cons (b : UInt8) (l : List UInt8) (c : UInt8) : Lib.indexByte (b :: l) c = if b == c then 0 else if Lib.indexByte l c == -1 then -1 else Lib.indexByte l c + 1 := rfl
def digs (l : List UInt8) : Prop := ∀ b ∈ l, isD b = true
def eoT : Option (UInt8 × List UInt8 × List UInt8) → List UInt8
  | none => []
  | some (e, sg, ep) => e :: (sg ++ ep)
def foT : Option (List UInt8) → List UInt8
  | none => []
  | some f => 46 :: f
structure Num where
  neg : Bool
  ip : List UInt8
  f : Option (List UInt8)
  e : Option (UInt8 × List UInt8 × List UInt8)
def OkE : Option (UInt8 × List UInt8 × List UInt8) → Prop
  | none => True
  | some (c, sg, ep) => isE c = true ∧ (sg = [] ∨ sg = [43] ∨ sg = [45]) ∧ digs ep ∧ ep ≠ []
def OkF : Option (List UInt8) → Prop
  | none => True
  | some f => digs f
structure Num.Ok (n : Num) : Prop where
  ip : digs n.ip
  ip0 : n.ip ≠ []
  f : OkF n.f
  e : OkE n.e
def Num.head (n : Num) : List UInt8 := n.ip ++ foT n.f
def Num.body (n : Num) : List UInt8 := n.head ++ eoT n.e
def Num.text (n : Num) : List UInt8 := (if n.neg then [45] else []) ++ n.body
theorem digs_take (l : List UInt8) : digs (l.takeWhile isD) := fun b hb => mem_tw hb
theorem digs_all {l : List UInt8} (h : (l.dropWhile isD).isEmpty = true) : digs l := by
  intro b hb
  rw [List.isEmpty_iff] at h
  have := List.takeWhile_append_dropWhile (p := isD) (l := l)
  rw [h, List.append_nil] at this
  rw [← this] at hb
  exact mem_tw hb
theorem all8_of {l : List UInt8} (h : all8 l = true) : digs l ∧ l ≠ [] := by
  unfold all8 at h
  rw [Bool.and_eq_true] at h
  exact ⟨digs_all h.2, fun e => by rw [e] at h; exact absurd h.1 (by decide)⟩
theorem B6_of {r : List UInt8} (h : B6 r = true) : ∃ sg ep, r = sg ++ ep ∧ (sg = [] ∨ sg = [43] ∨ sg = [45]) ∧ digs ep ∧ ep ≠ [] := by
  unfold B6 at h
  split at h
  · cases h
  · rename_i c q
    split at h
    · rename_i hc
      obtain ⟨h1, h2⟩ := all8_of h
      rcases hc with rfl | rfl
      · exact ⟨[43], q, rfl, .inr (.inl rfl), h1, h2⟩
      · exact ⟨[45], q, rfl, .inr (.inr rfl), h1, h2⟩
    · obtain ⟨h1, h2⟩ := all8_of h
      exact ⟨[], c :: q, rfl, .inl rfl, h1, h2⟩
theorem B2_of {u : List UInt8} (h : B2 u = true) : ∃ e, u = eoT e ∧ OkE e := by
  unfold B2 at h
  split at h
  · exact ⟨none, rfl, trivial⟩
  · rename_i c r
    rw [Bool.and_eq_true] at h
    obtain ⟨sg, ep, rfl, h2, h3, h4⟩ := B6_of h.2
    exact ⟨some (c, sg, ep), rfl, h.1, h2, h3, h4⟩
theorem B1_of {v : List UInt8} (h : B1 v = true) : ∃ f e, v = foT f ++ eoT e ∧ OkF f ∧ OkE e := by
  unfold B1 at h
  split at h
  · exact ⟨none, none, rfl, trivial, trivial⟩
  · rename_i c r
    split at h
    · rename_i hc
      subst hc
      rw [Bool.and_eq_true] at h
      obtain ⟨e, he, hok⟩ := B2_of h.2
      refine ⟨some (r.takeWhile isD), e, ?_, digs_take r, hok⟩
      show 46 :: r = 46 :: (r.takeWhile isD) ++ eoT e
      rw [← he, List.cons_append, List.takeWhile_append_dropWhile]
    · obtain ⟨e, he, hok⟩ := B2_of h
      exact ⟨none, e, he, trivial, hok⟩
theorem acc1_of {u : List UInt8} (h : acc 1 u = true) : ∃ ip v, u = ip ++ v ∧ digs ip ∧ ip ≠ [] ∧ B1 v = true := by
  cases u with
  | nil => cases h
  | cons c r =>
    rw [acc_cons] at h
    by_cases h48 : c = 48
    · subst h48
      rw [show nx 1 48 = 2 from rfl, acc2] at h
      exact ⟨[48], r, rfl, fun b hb => by rw [List.mem_singleton.1 hb]; rfl, by simp, h⟩
    · cases hc : isD c with
      | true =>
        rw [show nx 1 c = 3 by simp [nx, hc, h48], acc3] at h
        refine ⟨c :: r.takeWhile isD, r.dropWhile isD, ?_, ?_, by simp, h⟩
        · rw [List.cons_append, List.takeWhile_append_dropWhile]
        · intro b hb
          rcases List.mem_cons.1 hb with rfl | hb
          · exact hc
          · exact mem_tw hb
      | false => rw [show nx 1 c = 9 by simp [nx, hc, h48], acc9] at h; cases h
theorem text_of {s : List UInt8} (h : acc 0 s = true) : ∃ n : Num, s = n.text ∧ n.Ok := by
  cases s with
  | nil => cases h
  | cons c r =>
    by_cases h45 : c = 45
    · subst h45
      rw [acc_cons, show nx 0 45 = 1 from rfl] at h
      obtain ⟨ip, v, rfl, h1, h2, h3⟩ := acc1_of h
      obtain ⟨f, e, rfl, h4, h5⟩ := B1_of h3
      exact ⟨⟨true, ip, f, e⟩, by simp [Num.text, Num.body, Num.head], ⟨h1, h2, h4, h5⟩⟩
    · have h' : acc 1 (c :: r) = true := by
        rw [acc_cons] at h ⊢
        rw [show nx 1 c = nx 0 c by simp [nx, h45]]; exact h
      obtain ⟨ip, v, e0, h1, h2, h3⟩ := acc1_of h'
      obtain ⟨f, e, rfl, h4, h5⟩ := B1_of h3
      exact ⟨⟨false, ip, f, e⟩, by simp [Num.text, Num.body, Num.head, e0], ⟨h1, h2, h4, h5⟩⟩
/-! ### the answer -/
def dv (n : Nat) (l : List UInt8) : Nat := l.foldl (fun n b => 10 * n + (b.toNat - 48)) n
def nz (b : UInt8) : Bool := b == 48
def lead (l : List UInt8) : List UInt8 := l.dropWhile nz
def trail (l : List UInt8) : List UInt8 := (l.reverse.dropWhile nz).reverse
def cap40 (n : Nat) : Nat := if 1099511627776 < n then 1099511627776 else n
def Num.fp (n : Num) : List UInt8 := match n.f with | none => [] | some f => f
def Num.pw (n : Num) : Int := match n.e with
  | none => 0
  | some (_, sg, ep) => if sg = [45] then -(cap40 (dv 0 ep) : Int) else cap40 (dv 0 ep)
def Num.all (n : Num) : List UInt8 := lead (n.ip ++ n.fp)
def Num.short (n : Num) : List UInt8 := trail n.all
def clamp (n lo hi : Int) : Int := if n < lo then lo else if hi < n then hi else n
def Num.exp (n : Num) : Int := if n.short = [] then 0 else clamp (n.pw - n.fp.length + (n.all.length - n.short.length)) (-9999) 9999
/-! ### the code's way -/
theorem D_ne {b : UInt8} (h : isD b = true) : b ≠ 45 ∧ b ≠ 43 ∧ b ≠ 46 ∧ b ≠ 101 ∧ b ≠ 69 := by
  obtain ⟨h1, h2, h3, h4⟩ := D_not b h
  refine ⟨h1, h2, h3, ?_, ?_⟩
  · rintro rfl; revert h4; decide
  · rintro rfl; revert h4; decide
theorem Num.Ok.cons {n : Num} (h : n.Ok) : ∃ c r, n.ip = c :: r ∧ isD c = true := by
  cases hip : n.ip with
  | nil => exact absurd hip h.ip0
  | cons c r => exact ⟨c, r, rfl, h.ip c (by rw [hip]; simp)⟩
theorem text_true {n : Num} (h : n.neg = true) : n.text = 45 :: n.body := by unfold Num.text; rw [h]; rfl
theorem text_false {n : Num} (h : n.neg = false) : n.text = n.body := by unfold Num.text; rw [h]; rfl
theorem body_cons {n : Num} (h : n.Ok) : ∃ c r, n.body = c :: r ∧ isD c = true := by
  obtain ⟨c, r, e, hc⟩ := h.cons
  exact ⟨c, r ++ foT n.f ++ eoT n.e, by unfold Num.body Num.head; rw [e]; simp, hc⟩
theorem trim_text {n : Num} (h : n.Ok) : Lib.trimPrefix n.text [45] = n.body := by
  unfold Lib.trimPrefix Lib.hasPrefix
  cases hn : n.neg with
  | true => rw [text_true hn]; simp
  | false =>
    rw [text_false hn]
    obtain ⟨c, r, e, hc⟩ := body_cons h
    have := (D_ne hc).1
    rw [e, if_neg]
    simp; exact fun h => this h.symm
theorem len_text {n : Num} : n.text.length = n.body.length + (if n.neg = true then 1 else 0) := by
  cases hn : n.neg with
  | true => rw [text_true hn]; rfl
  | false => rw [text_false hn]; rfl
theorem any_skip (l r : List UInt8) (h : ∀ b ∈ l, b ≠ 101 ∧ b ≠ 69) : Lib.indexAny (l ++ r) [101, 69] = if Lib.indexAny r [101, 69] = -1 then -1 else Lib.indexAny r [101, 69] + l.length := by
  induction l with
  | nil => simp
  | cons b l ih =>
    obtain ⟨h1, h2⟩ := h b (by simp)
    rw [List.cons_append, any_cons, ih (fun b hb => h b (by simp [hb]))]
    have hc : ([101, 69] : List UInt8).contains b = false := by simp [h1, h2]
    rw [hc]
    have hge := Lib.indexAny_ge [101, 69] r
    by_cases hr : Lib.indexAny r [101, 69] = -1
    · simp [hr]
    · have h3 : Lib.indexAny r [101, 69] + (l.length : Int) ≠ -1 := by omega
      simp [hr, h3]; omega
theorem head_ne {n : Num} (h : n.Ok) : ∀ b ∈ n.head, b ≠ 101 ∧ b ≠ 69 := by
  intro b hb
  unfold Num.head at hb
  rcases List.mem_append.1 hb with hb | hb
  · obtain ⟨_, _, _, h4, h5⟩ := D_ne (h.ip b hb); exact ⟨h4, h5⟩
  · cases hf : n.f with
    | none => rw [hf] at hb; cases hb
    | some f =>
      rw [hf] at hb
      rcases List.mem_cons.1 hb with rfl | hb
      · decide
      · have := h.f; rw [hf] at this
        obtain ⟨_, _, _, h4, h5⟩ := D_ne (this b hb); exact ⟨h4, h5⟩
theorem any_body {n : Num} (h : n.Ok) : Lib.indexAny n.body [101, 69] = match n.e with | none => -1 | some _ => (n.head.length : Int) := by
  unfold Num.body
  rw [any_skip _ _ (head_ne h)]
  cases he : n.e with
  | none => rfl
  | some x =>
    obtain ⟨c, sg, ep⟩ := x
    have hok := h.e
    rw [he] at hok
    have hc : c = 101 ∨ c = 69 := by have := hok.1; simpa [isE] using this
    have h0 : Lib.indexAny (eoT (some (c, sg, ep))) [101, 69] = 0 := by
      show Lib.indexAny (c :: (sg ++ ep)) [101, 69] = 0
      unfold Lib.indexAny
      rw [if_pos]
      rcases hc with rfl | rfl <;> rfl
    rw [h0]; simp
theorem digs_head {l : List UInt8} (h : digs l) (h0 : l ≠ []) : ∃ c r, l = c :: r ∧ isD c = true := by
  cases l with
  | nil => exact absurd rfl h0
  | cons c r => exact ⟨c, r, rfl, h c (by simp)⟩
theorem trim_sign {c : UInt8} {sg ep : List UInt8} (h : OkE (some (c, sg, ep))) : Lib.trimLeftS (sg ++ ep) [43, 45] = ep := by
  obtain ⟨_, hs, hd, h0⟩ := h
  obtain ⟨d, r, rfl, hc⟩ := digs_head hd h0
  obtain ⟨h1, h2, _⟩ := D_ne hc
  have hx : ([43, 45] : List UInt8).contains d = false := by simp [h1, h2]
  unfold Lib.trimLeftS
  rcases hs with rfl | rfl | rfl
  · rw [List.nil_append, List.dropWhile_cons, if_neg (by rw [hx]; simp)]
  · rw [List.singleton_append, List.dropWhile_cons, if_pos (by decide), List.dropWhile_cons, if_neg (by rw [hx]; simp)]
  · rw [List.singleton_append, List.dropWhile_cons, if_pos (by decide), List.dropWhile_cons, if_neg (by rw [hx]; simp)]
theorem body_take {n : Num} : n.body.take n.head.length = n.head := by unfold Num.body; simp
theorem body_drop {n : Num} {c : UInt8} {sg ep : List UInt8} (he : n.e = some (c, sg, ep)) : n.body.drop (n.head.length + 1) = sg ++ ep := by
  unfold Num.body
  rw [he, ← List.drop_drop]
  simp [eoT]
theorem body_sign {n : Num} {c : UInt8} {sg ep : List UInt8} (h : n.Ok) (he : n.e = some (c, sg, ep)) : (n.body[n.head.length + 1]? = some 45) ↔ sg = [45] := by
  have e1 : n.body[n.head.length + 1]? = (sg ++ ep)[0]? := by rw [← body_drop he]; simp
  have hok := h.e
  rw [he] at hok
  obtain ⟨_, hs, hd, h0⟩ := hok
  obtain ⟨d, r, rfl, hc⟩ := digs_head hd h0
  rw [e1]
  rcases hs with rfl | rfl | rfl
  · simp; exact (D_ne hc).1
  · simp
  · simp
theorem byte_skip (l r : List UInt8) (h : ∀ b ∈ l, b ≠ 46) : Lib.indexByte (l ++ r) 46 = if Lib.indexByte r 46 = -1 then -1 else Lib.indexByte r 46 + l.length := by
  induction l with
  | nil => simp
  | cons b l ih =>
    have h1 := h b (by simp)
    rw [List.cons_append, byte_cons, ih (fun b hb => h b (by simp [hb]))]
    have hc : (b == 46) = false := by simp [h1]
    rw [hc]
    have hge := Lib.indexByte_ge r 46
    by_cases hr : Lib.indexByte r 46 = -1
    · simp [hr]
    · have h3 : Lib.indexByte r 46 + (l.length : Int) ≠ -1 := by omega
      simp [hr, h3]; omega
theorem byte_head {n : Num} (h : n.Ok) : Lib.indexByte n.head 46 = match n.f with | none => -1 | some _ => (n.ip.length : Int) := by
  unfold Num.head
  rw [byte_skip _ _ (fun b hb => (D_ne (h.ip b hb)).2.2.1)]
  cases hf : n.f with
  | none => rfl
  | some f => simp [foT, Lib.indexByte]
theorem contains_nz (b : UInt8) : ([48] : List UInt8).contains b = nz b := by simp [nz]; rw [Bool.eq_iff_iff]; simp
theorem trimL_all (l : List UInt8) : Lib.trimLeftS l [48] = lead l := by
  unfold Lib.trimLeftS lead
  congr 1; funext b; exact contains_nz b
theorem trimR_short (l : List UInt8) : Lib.trimRightS l [48] = trail l := by
  unfold Lib.trimRightS trail
  congr 2; funext b; exact contains_nz b
theorem ascii_text {n : Num} (h : n.Ok) : ∀ b ∈ n.body, b.toNat < 128 := by
  have hd : ∀ b, isD b = true → b.toNat < 128 := by
    intro b hb
    simp only [isD, Bool.and_eq_true, decide_eq_true_eq] at hb
    omega
  intro b hb
  unfold Num.body Num.head at hb
  rcases List.mem_append.1 hb with hb | hb
  · rcases List.mem_append.1 hb with hb | hb
    · exact hd b (h.ip b hb)
    · cases hf : n.f with
      | none => rw [hf] at hb; cases hb
      | some f =>
        rw [hf] at hb
        rcases List.mem_cons.1 hb with rfl | hb
        · decide
        · have := h.f; rw [hf] at this; exact hd b (this b hb)
  · cases he : n.e with
    | none => rw [he] at hb; cases hb
    | some x =>
      obtain ⟨c, sg, ep⟩ := x
      have hok := h.e
      rw [he] at hb hok
      obtain ⟨h1, h2, h3, h4⟩ := hok
      rcases List.mem_cons.1 hb with rfl | hb
      · have hc : b = 101 ∨ b = 69 := by simpa [isE] using h1
        rcases hc with rfl | rfl <;> decide
      · rcases List.mem_append.1 hb with hb | hb
        · rcases h2 with rfl | rfl | rfl
          · cases hb
          · rw [List.mem_singleton.1 hb]; decide
          · rw [List.mem_singleton.1 hb]; decide
        · exact hd b (h3 b hb)
/-! ### digits -/
theorem dv_append (n : Nat) (l r : List UInt8) : dv n (l ++ r) = dv (dv n l) r := by unfold dv; rw [List.foldl_append]
theorem dv_take (l : List UInt8) {i : Nat} (h : i < l.length) : dv 0 (l.take (i + 1)) = 10 * dv 0 (l.take i) + (l[i].toNat - 48) := by
  rw [List.take_succ_eq_append_getElem h, dv_append]; rfl
theorem dv_ge (l : List UInt8) : ∀ n, n ≤ dv n l := by
  induction l with
  | nil => intro n; exact Nat.le_refl n
  | cons b l ih => intro n; exact Nat.le_trans (by omega) (ih (10 * n + (b.toNat - 48)))
theorem dv_mono (l : List UInt8) (i : Nat) : dv 0 (l.take i) ≤ dv 0 l := by
  have := dv_append 0 (l.take i) (l.drop i)
  rw [List.take_append_drop] at this
  rw [this]; exact dv_ge _ _
def dC (l : List UInt8) : Nat := if dv 0 l ≤ 9007199254740991 then dv 0 l else 9007199254740991
theorem dC_cap (l : List UInt8) : min (dC l) 1099511627776 = cap40 (dv 0 l) := by unfold dC cap40; split <;> split <;> omega
end Tg.Nu
/-! ### the reference's way -/
namespace Tg.Nu
def rstep (x : Bool × List UInt8 × Int) (b : UInt8) : Bool × List UInt8 × Int :=
  if b = 46 then (true, x.2.1, x.2.2) else (x.1, if x.2.1 ≠ [] ∨ b ≠ 48 then x.2.1 ++ [b] else x.2.1, if x.1 then x.2.2 - 1 else x.2.2)
def rfold (l : List UInt8) : Bool × List UInt8 × Int := l.foldl rstep (false, [], 0)
def cat (d l : List UInt8) : List UInt8 := if d ≠ [] then d ++ l else lead l
theorem cat_cons (d l : List UInt8) (b : UInt8) : cat (if d ≠ [] ∨ b ≠ 48 then d ++ [b] else d) l = cat d (b :: l) := by
  unfold cat
  by_cases hd : d = []
  · subst hd
    by_cases hb : b = 48
    · subst hb; simp [lead, nz]
    · simp [hb, lead, nz]
  · simp [hd]
theorem rfold_run (l : List UInt8) (h : ∀ b ∈ l, b ≠ 46) : ∀ (pt : Bool) (d : List UInt8) (e : Int), l.foldl rstep (pt, d, e) = (pt, if l = [] then d else cat d l, if pt then e - l.length else e) := by
  induction l with
  | nil => intro pt d e; cases pt <;> simp
  | cons b l ih =>
    intro pt d e
    have hb := h b (by simp)
    have e1 : rstep (pt, d, e) b = (pt, if d ≠ [] ∨ b ≠ 48 then d ++ [b] else d, if pt then e - 1 else e) := by unfold rstep; rw [if_neg hb]
    rw [List.foldl_cons, e1, ih (fun b hb => h b (by simp [hb]))]
    by_cases hl : l = []
    · subst hl
      have := cat_cons d [] b
      unfold cat at this
      cases pt <;> by_cases hd : d = [] <;> by_cases hb48 : b = 48 <;> simp_all [cat, lead, nz]
    · rw [if_neg hl, cat_cons d l b, if_neg (show ¬ (b :: l = []) by simp)]
      cases pt <;> simp; omega
theorem lead_app (a b : List UInt8) : lead (a ++ b) = if lead a ≠ [] then lead a ++ b else lead b := by
  unfold lead
  induction a with
  | nil => simp
  | cons x a ih =>
    rw [List.cons_append, List.dropWhile_cons, List.dropWhile_cons]
    by_cases hx : nz x = true
    · rw [if_pos hx, if_pos hx]; exact ih
    · rw [if_neg hx, if_neg hx]; simp
theorem rfold_head {n : Num} (h : n.Ok) : (rfold n.head).2 = (n.all, -(n.fp.length : Int)) := by
  have h46 : ∀ b ∈ n.ip, b ≠ 46 := fun b hb => (D_ne (h.ip b hb)).2.2.1
  unfold rfold Num.head
  rw [List.foldl_append, rfold_run _ h46, if_neg h.ip0]
  have hc : cat [] n.ip = lead n.ip := by simp [cat]
  rw [hc]
  unfold Num.all Num.fp
  cases hf : n.f with
  | none => simp [foT]
  | some f =>
    have hF := h.f
    rw [hf] at hF
    have hf46 : ∀ b ∈ f, b ≠ 46 := fun b hb => (D_ne (hF b hb)).2.2.1
    show (f.foldl rstep (rstep (false, lead n.ip, 0) 46)).2 = _
    have e1 : rstep (false, lead n.ip, 0) 46 = (true, lead n.ip, 0) := rfl
    rw [e1, rfold_run _ hf46]
    dsimp only
    by_cases hf0 : f = []
    · subst hf0; simp
    · rw [if_neg hf0, lead_app]
      unfold cat
      simp
theorem rfold_take (l : List UInt8) {i : Nat} (h : i < l.length) : rfold (l.take (i + 1)) = rstep (rfold (l.take i)) l[i] := by
  unfold rfold
  rw [List.take_succ_eq_append_getElem h, List.foldl_append]; rfl
theorem rfold_bound (l : List UInt8) : (rfold l).2.1.length ≤ l.length ∧ -(l.length : Int) ≤ (rfold l).2.2 ∧ (rfold l).2.2 ≤ 0 := by
  have : ∀ (l : List UInt8) (x : Bool × List UInt8 × Int), (l.foldl rstep x).2.1.length ≤ x.2.1.length + l.length ∧ x.2.2 - l.length ≤ (l.foldl rstep x).2.2 ∧ (l.foldl rstep x).2.2 ≤ x.2.2 := by
    intro l
    induction l with
    | nil => intro x; simp
    | cons b l ih =>
      intro x
      have hi := ih (rstep x b)
      have h1 : (rstep x b).2.1.length ≤ x.2.1.length + 1 ∧ x.2.2 - 1 ≤ (rstep x b).2.2 ∧ (rstep x b).2.2 ≤ x.2.2 := by
        unfold rstep
        split
        · simp; omega
        · refine ⟨?_, ?_, ?_⟩
          · dsimp only; split <;> simp
          · dsimp only; split <;> omega
          · dsimp only; split <;> omega
      rw [List.foldl_cons, List.length_cons]
      omega
  have := this l (false, [], 0)
  simp at this
  exact ⟨this.1, by unfold rfold; omega, this.2.2⟩
/-- a digit less at the end -/
theorem trail_last (l : List UInt8) (h : l ≠ []) (hz : l.getLast h = 48) : trail l = trail l.dropLast := by
  unfold trail
  congr 1
  have e : l.reverse = 48 :: l.dropLast.reverse := by
    conv => lhs; rw [← List.dropLast_concat_getLast h, hz]
    simp
  rw [e, List.dropWhile_cons, if_pos (by rfl)]
theorem trail_stay (l : List UInt8) (h : l = [] ∨ ∃ h : l ≠ [], l.getLast h ≠ 48) : trail l = l := by
  unfold trail
  rcases h with rfl | ⟨h, hz⟩
  · rfl
  · have e : l.reverse = l.getLast h :: l.dropLast.reverse := by
      conv => lhs; rw [← List.dropLast_concat_getLast h]
      simp
    rw [e, List.dropWhile_cons, if_neg (by simpa [nz] using hz), ← e, List.reverse_reverse]
end Tg.Nu
/-
  Layer 9 (jnum): what the code's reader of parts comes to.
-/
set_option linter.unusedSimpArgs false
set_option linter.unusedVariables false
set_option maxRecDepth 100000
namespace Go.Proofs.YteckofomnhminaaDoor
open Go.Lg Tg.Nu
section
variable {H : LH} {b : UInt8} {s t : List UInt8}
theorem cutN_l {k : Int} (h0 : 0 ≤ k) : LC Tryd.prog EJ 16 [str s, .int .i64 k] H = some (str (s.take k.toNat), H) := by
  refine LC_pure rfl Tryd.func16 rfl (Nat.le_of_ble_eq_true rfl) (by decide) (by kernel_rfl) (by simp) ?_
  by_cases hc : k < s.length
  · have f := eq_true hc
    have f2 := eq_true (show k ≤ s.length by omega)
    have f3 := eq_true h0
    simp [f, f2, f3]
  · have f := eq_false hc
    have e : s.take k.toNat = s := List.take_of_length_le (by omega)
    simp [f, e]
theorem digits_l (hs : s.length ≤ 1048576) : LC Tryd.prog EJ 113 [str s] H = some (.int .i64 ((s.takeWhile isD).length : Nat), H) := by
  refine LC_pure rfl Tryd.func113 rfl (Nat.le_of_ble_eq_true rfl) (by decide) (by kernel_rfl) rfl ?_
  simp
  refine loop_ind (fun (i : Nat) fr' H' => fr' 0 = str s ∧ fr' 3 = .int .i64 i ∧ i ≤ s.length ∧ (s.takeWhile isD).length = i + ((s.drop i).takeWhile isD).length ∧ H' = H) (fun i => s.length - i) 0 (by simp) ?_
  rintro i fr' H' ⟨h0, h3, hi, hr, rfl⟩ ih
  by_cases hlt : i < s.length
  · have hd := List.drop_eq_getElem_cons hlt
    rw [hd, List.takeWhile_cons] at hr
    cases hc : isD s[i] with
    | true =>
      rw [hc, if_pos rfl, List.length_cons] at hr
      have hw : IntKind.i64.wrap ((i : Int) + 1) = ((i + 1 : Nat) : Int) := by rw [wrap64_in (by omega) (by omega)]; omega
      simp [h0, h3, hlt, digit_l, at_in hlt, hc, hw]
      exact ih (i + 1) _ _ (by omega) ⟨by simp [h0], by simp, hlt, by omega, rfl⟩
    | false =>
      rw [hc, if_neg (by simp)] at hr
      simp [h0, h3, hlt, digit_l, at_in hlt, hc]
      simp at hr; omega
  · rw [List.drop_eq_nil_of_le (by omega)] at hr
    simp [h0, h3, hlt]
    simp at hr; omega
theorem value_l (hd : digs s) (hs : s.length ≤ 1048576) : LC Tryd.prog EJ 114 [str s] H = some (.tuple #[.int .i64 (dC s : Nat), .bool (decide (dv 0 s ≤ 9007199254740991))], H) := by
  refine LC_pure rfl Tryd.func114 rfl (Nat.le_of_ble_eq_true rfl) (by decide) (by kernel_rfl) rfl ?_
  simp
  refine loop_ind (fun (i : Nat) fr' H' => fr' 0 = str s ∧ fr' 4 = .int .i64 (dv 0 (s.take i) : Nat) ∧ fr' 7 = .int .i64 s.length ∧ fr' 8 = .int .i64 i ∧ i ≤ s.length ∧ dv 0 (s.take i) ≤ 9007199254740991 ∧ H' = H) (fun i => s.length - i) 0 (by simp [dv]) ?_
  rintro i fr' H' ⟨h0, h4, h7, h8, hi, hm, rfl⟩ ih
  by_cases hlt : i < s.length
  · have hD := hd s[i] (List.getElem_mem hlt)
    simp only [isD, Bool.and_eq_true, decide_eq_true_eq] at hD
    have ht := dv_take s hlt
    have hmono := dv_mono s (i + 1)
    have hw1 : IntKind.i64.wrap ((dv 0 (s.take i) : Int) * 10) = (dv 0 (s.take i) : Int) * 10 := by rw [wrap64_in (by omega) (by omega)]
    have hw2 : IntKind.u8.wrap ((s[i].toNat : Int) - 48) = ((s[i].toNat - 48 : Nat) : Int) := by
      have := s[i].toNat_lt
      rw [show IntKind.u8.wrap ((s[i].toNat : Int) - 48) = ((s[i].toNat : Int) - 48) % 256 from IntKind.wrap_u8 _]; omega
    have hw3 : IntKind.i64.wrap ((s[i].toNat - 48 : Nat) : Int) = ((s[i].toNat - 48 : Nat) : Int) := by rw [wrap64_in (by omega) (by omega)]
    have hw4 : IntKind.i64.wrap ((dv 0 (s.take i) : Int) * 10 + ((s[i].toNat - 48 : Nat) : Int)) = ((dv 0 (s.take (i + 1)) : Nat) : Int) := by rw [wrap64_in (by omega) (by omega)]; omega
    have hw : IntKind.i64.wrap ((i : Int) + 1) = ((i + 1 : Nat) : Int) := by rw [wrap64_in (by omega) (by omega)]; omega
    by_cases hbig : dv 0 (s.take (i + 1)) ≤ 9007199254740991
    · have f := eq_false (show ¬ 9007199254740991 < ((dv 0 (s.take (i + 1)) : Nat) : Int) by omega)
      simp [h0, h4, h7, h8, hlt, at_in hlt, hw1, hw2, hw3, hw4, hw, f]
      exact ih (i + 1) _ _ (by omega) ⟨by simp [h0], by simp, by simp [h7], by simp, hlt, hbig, rfl⟩
    · have f := eq_true (show 9007199254740991 < ((dv 0 (s.take (i + 1)) : Nat) : Int) by omega)
      have e1 : ¬ dv 0 s ≤ 9007199254740991 := by omega
      have e2 : dC s = 9007199254740991 := by unfold dC; rw [if_neg e1]
      simp [h0, h4, h7, h8, hlt, at_in hlt, hw1, hw2, hw3, hw4, hw, f, e1, e2]
  · have e : s.take i = s := List.take_of_length_le (by omega)
    rw [e] at hm h4
    have e2 : dC s = dv 0 s := by unfold dC; rw [if_pos hm]
    simp [h0, h4, h7, h8, hlt, hm, e2]
theorem tw_all : ∀ {s : List UInt8}, digs s → s.takeWhile isD = s
  | [], _ => rfl
  | b :: r, h => by rw [List.takeWhile_cons, if_pos (h b (by simp)), tw_all (fun c hc => h c (by simp [hc]))]
theorem prefix_l (hd : digs s) (hs : s.length ≤ 1048576) : LC Tryd.prog EJ 79 [str s] H = some (.tuple #[.int .i64 (dC s : Nat), .int .i64 s.length], H) := by
  refine LC_pure rfl Tryd.func79 rfl (Nat.le_of_ble_eq_true rfl) (by decide) (by kernel_rfl) rfl ?_
  have e : s.takeWhile isD = s := tw_all hd
  have h1 := digits_l (H := H) hs
  rw [e] at h1
  simp [h1, value_l hd hs]
theorem clamp_l {n lo hi : Int} : LC Tryd.prog EJ 82 [.int .i64 n, .int .i64 lo, .int .i64 hi] H = some (.int .i64 (Tg.Nu.clamp n lo hi), H) := by
  refine LC_pure rfl Tryd.func82 rfl (Nat.le_of_ble_eq_true rfl) (by decide) (by kernel_rfl) rfl ?_
  unfold Tg.Nu.clamp
  by_cases h1 : n < lo
  · have f := eq_true h1
    simp [f]
  · have f := eq_false h1
    by_cases h2 : hi < n
    · have g := eq_true h2
      simp [f, g]
    · have g := eq_false h2
      simp [f, g]
/-- strings.Cut at one byte -/
theorem cutlite_some {c : UInt8} {o : Nat} (h : Lib.indexByte s c = o) (hs : s.length ≤ 9223372036854775806) : LC Tryd.prog EJ 100 [str s, str [c]] H = some (.tuple #[str (s.take o), str (s.drop (o + 1)), .bool true], H) := by
  refine LC_pure rfl Tryd.func100 rfl (Nat.le_of_ble_eq_true rfl) (by decide) (by kernel_rfl) rfl ?_
  have hlt : o < s.length := (List.getElem?_eq_some_iff.1 (Lib.indexByte_some h).1).1
  have hw : IntKind.i64.wrap ((o : Int) + 1) = (o : Int) + 1 := by rw [wrap64_in (by omega) (by omega)]
  have e1 : ((o : Int) + 1).toNat = o + 1 := by omega
  have f1 := eq_true (show (o : Int) ≤ s.length by omega)
  have f2 := eq_true (show (o : Int) + 1 ≤ s.length by omega)
  have f3 := eq_true (show (0 : Int) ≤ (o : Int) + 1 by omega)
  simp [h, hw, e1, f1, f2, f3]
theorem cutlite_none {c : UInt8} (h : Lib.indexByte s c = -1) : LC Tryd.prog EJ 100 [str s, str [c]] H = some (.tuple #[str s, str [], .bool false], H) := by
  refine LC_pure rfl Tryd.func100 rfl (Nat.le_of_ble_eq_true rfl) (by decide) (by kernel_rfl) rfl ?_
  simp [h]
theorem scut_some {c : UInt8} {o : Nat} (h : Lib.indexByte s c = o) (hs : s.length ≤ 9223372036854775806) : LC Tryd.prog EJ 63 [str s, str [c]] H = some (.tuple #[str (s.take o), str (s.drop (o + 1)), .bool true], H) := by
  refine LC_pure rfl Tryd.func63 rfl (Nat.le_of_ble_eq_true rfl) (by decide) (by kernel_rfl) rfl ?_
  simp [cutlite_some h hs]
theorem scut_none {c : UInt8} (h : Lib.indexByte s c = -1) : LC Tryd.prog EJ 63 [str s, str [c]] H = some (.tuple #[str s, str [], .bool false], H) := by
  refine LC_pure rfl Tryd.func63 rfl (Nat.le_of_ble_eq_true rfl) (by decide) (by kernel_rfl) rfl ?_
  simp [cutlite_none h]
theorem parts_bad (h : acc 0 s = false) (hs : s.length ≤ 1048576) : LC Tryd.prog EJ 47 [str s] H = some (.tuple #[.bool false, str [], .int .i64 0, .bool false], H) := by
  refine LC_pure rfl Tryd.func47 rfl (Nat.le_of_ble_eq_true rfl) (by decide) (by kernel_rfl) rfl ?_
  have hw := whole_l (H := H) (en_lt s 0 (by omega))
  rw [show wh (en 0 s) = false from h] at hw
  simp [end_l (H := H) (s := s) (by omega), hw]
theorem cap40_le (n : Nat) : cap40 n ≤ 1099511627776 := by unfold cap40; split <;> omega
set_option maxHeartbeats 4000000 in
theorem parts_ok {n : Num} (hn : n.Ok) (h : acc 0 n.text = true) (hs : n.text.length ≤ 1048576) : LC Tryd.prog EJ 47 [str n.text] H = some (.tuple #[.bool n.neg, str n.short, .int .i64 n.exp, .bool true], H) := by
  refine LC_pure rfl Tryd.func47 rfl (Nat.le_of_ble_eq_true rfl) (by decide) (by kernel_rfl) rfl ?_
  have hw := whole_l (H := H) (en_lt n.text 0 (by omega))
  rw [show wh (en 0 n.text) = true from h] at hw
  have hend := end_l (H := H) (s := n.text) (by omega)
  have hlt := len_text (n := n)
  have hbl : n.body.length ≤ 1048576 := by omega
  have hhl : n.head.length ≤ n.body.length := by unfold Num.body; simp
  have f2 : ((n.body.length : Int) < (n.text.length : Int)) = (n.neg = true) := by
    apply propext
    cases hneg : n.neg <;> rw [hneg] at hlt <;> simp at hlt ⊢ <;> omega
  have htp := trim_text hn
  have hia := indexAny_l (H := H) (s := n.body) (p := [101, 69]) (by omega) (by decide) (ascii_text hn) (by intro b hb; simp at hb; rcases hb with rfl | rfl <;> decide)
  rw [any_body hn] at hia
  have hcl := fun x => clamp_l (H := H) (n := x) (lo := -9999) (hi := 9999)
  have hil : n.ip.length ≤ n.head.length := by unfold Num.head; simp
  have hfl : n.fp.length ≤ n.head.length := by
    unfold Num.head Num.fp
    cases n.f <;> simp [foT] <;> omega
  have hil2 : n.ip.length + n.fp.length ≤ n.head.length := by
    unfold Num.head Num.fp
    cases n.f <;> simp [foT] <;> omega
  have hsl : n.short.length ≤ n.all.length := by
    unfold Num.short trail
    rw [List.length_reverse]
    exact Nat.le_trans (List.dropWhile_suffix _).length_le (by simp)
  have hal : n.all.length ≤ n.head.length := by
    unfold Num.all lead
    exact Nat.le_trans (List.dropWhile_suffix _).length_le (by simp; omega)
  have htl := fun l : List UInt8 => trimLeft_l (H := H) (s := l) (p := [48]) (by decide) (by intro b hb; simp at hb; rw [hb]; decide)
  have htr := trimRight_l (H := H) (s := n.all) (p := [48]) (by omega) (by decide) (by intro b hb; simp at hb; rw [hb]; decide)
  rw [trimR_short] at htr
  have htl2 := htl (n.ip ++ n.fp)
  rw [trimL_all] at htl2
  have hall : lead (n.ip ++ n.fp) = n.all := rfl
  have hshort : trail n.all = n.short := rfl
  rw [hall] at htl2
  rw [hshort] at htr
  have hcat : n.ip.length + n.fp.length ≤ 9223372036854775807 := by omega
  have hby := byte_head hn
  -- behind the power: from a power p on
  have hexp : n.exp = if n.short = [] then 0 else clamp (n.pw - n.fp.length + (n.all.length - n.short.length)) (-9999) 9999 := rfl
  have hpw : -1099511627776 ≤ n.pw ∧ n.pw ≤ 1099511627776 := by
    unfold Num.pw
    cases n.e with
    | none => simp
    | some x =>
      obtain ⟨c, sg, ep⟩ := x
      have := cap40_le (dv 0 ep)
      simp only
      split <;> omega
  have w1 : IntKind.i64.wrap (n.pw - (n.fp.length : Int)) = n.pw - (n.fp.length : Int) := by rw [wrap64_in (by omega) (by omega)]
  have w2 : IntKind.i64.wrap ((n.all.length : Int) - (n.short.length : Int)) = (n.all.length : Int) - (n.short.length : Int) := by rw [wrap64_in (by omega) (by omega)]
  have w3 : IntKind.i64.wrap (n.pw - (n.fp.length : Int) + ((n.all.length : Int) - (n.short.length : Int))) = n.pw - (n.fp.length : Int) + ((n.all.length : Int) - (n.short.length : Int)) := by rw [wrap64_in (by omega) (by omega)]
  have w4 : ∀ x : Int, -10000000000000 ≤ x → x ≤ 10000000000000 → IntKind.i64.wrap x = x := fun x h1 h2 => wrap64_in (by omega) (by omega)
  obtain ⟨q, hcut⟩ : ∃ q, LC Tryd.prog EJ 63 [str n.head, str [46]] H = some (.tuple #[str n.ip, str n.fp, .bool q], H) := by
    cases hf : n.f with
    | none =>
      rw [hf] at hby
      have e1 : n.head = n.ip := by unfold Num.head; rw [hf]; simp [foT]
      have e2 : n.fp = [] := by unfold Num.fp; rw [hf]
      refine ⟨false, ?_⟩
      rw [scut_none (by rw [hby]), e1, e2]
    | some f =>
      rw [hf] at hby
      have e1 : n.head = n.ip ++ 46 :: f := by unfold Num.head; rw [hf]; simp [foT]
      have e2 : n.fp = f := by unfold Num.fp; rw [hf]
      refine ⟨true, ?_⟩
      rw [scut_some (o := n.ip.length) (by rw [hby]) (by omega), e1, e2]
      simp
  have hcl2 := hcl (n.pw - n.fp.length + (n.all.length - n.short.length))
  have hcl0 := hcl 0
  rw [show Tg.Nu.clamp 0 (-9999) 9999 = 0 from rfl] at hcl0
  have hsh : (n.short = []) ∨ ¬ (n.short = []) := Classical.em _
  cases he : n.e with
  | none =>
    rw [he] at hia
    have e1 : n.body = n.head := by unfold Num.body; rw [he]; simp [eoT]
    have e2 : n.pw = 0 := by unfold Num.pw; rw [he]
    rw [e2] at w1 w3 hcl2 hexp
    simp only [Int.zero_sub] at w1 w3 hcl2 hexp
    rw [e1] at hia htp f2
    rcases hsh with hs0 | hs0
    · rw [if_pos hs0] at hexp
      simp (config := { maxSteps := 4000000 }) [hw, hend, htp, f2, hia, hcut, htl2, htr, hcl0, hcat, w1, w2, w3, hs0, hexp]
    · rw [if_neg hs0] at hexp
      simp (config := { maxSteps := 4000000 }) [hw, hend, htp, f2, hia, hcut, htl2, htr, hcl2, hcat, w1, w2, w3, hs0, hexp]
  | some x =>
    obtain ⟨c, sg, ep⟩ := x
    rw [he] at hia
    dsimp only at hia
    have hok := hn.e
    rw [he] at hok
    have hbt : n.body.take n.head.length = n.head := body_take
    have hbd := body_drop he
    have hlt2 : n.head.length + 1 ≤ n.body.length := by unfold Num.body; rw [he]; simp [eoT]
    have hlt3 : n.head.length + 1 < n.body.length := by
      obtain ⟨_, _, _, h0⟩ := hok
      have : 0 < ep.length := List.length_pos_iff.2 h0
      unfold Num.body; rw [he]; simp [eoT]; omega
    have hbs := body_sign hn he
    have hp : digs ep := hok.2.2.1
    have hpl : ep.length ≤ 1048576 := by
      have := congrArg List.length hbd
      simp at this; omega
    have hpre := prefix_l (H := H) hp hpl
    have htl3 := trimLeft_l (H := H) (s := sg ++ ep) (p := [43, 45]) (by decide) (by intro b hb; simp at hb; rcases hb with rfl | rfl <;> decide)
    rw [trim_sign hok] at htl3
    have hcap := dC_cap ep
    have hmin : (if (1099511627776 : Int) < ((dC ep : Nat) : Int) then (1099511627776 : Int) else ((dC ep : Nat) : Int)) = ((cap40 (dv 0 ep) : Nat) : Int) := by
      rw [← hcap]; split <;> omega
    have g1 := eq_true (show (n.head.length : Int) ≤ (n.body.length : Int) by omega)
    have g2 := eq_true (show (n.head.length : Int) + 1 ≤ (n.body.length : Int) by omega)
    have g3 := eq_true (show (0 : Int) ≤ (n.head.length : Int) + 1 by omega)
    have g4 := eq_true (show (n.head.length : Int) + 1 < (n.body.length : Int) by omega)
    have g5 := eq_true (show (0 : Int) ≤ (n.head.length : Int) by omega)
    have g6 : ((n.head.length : Int) + 1).toNat = n.head.length + 1 := by omega
    have g7 := w4 ((n.head.length : Int) + 1) (by omega) (by omega)
    have hat : (at_ n.body ((n.head.length : Int) + 1) = 45) = (sg = [45]) := by
      have e0 := at_in (s := n.body) (i := n.head.length + 1) hlt3
      rw [show (((n.head.length + 1 : Nat) : Int)) = (n.head.length : Int) + 1 by omega] at e0
      rw [e0]
      apply propext
      rw [← hbs, List.getElem?_eq_getElem hlt3]; simp
    have hpw2 : n.pw = if sg = [45] then -(cap40 (dv 0 ep) : Int) else cap40 (dv 0 ep) := by unfold Num.pw; rw [he]
    have hc40 := cap40_le (dv 0 ep)
    have g8 : IntKind.i64.wrap (0 - ((cap40 (dv 0 ep) : Nat) : Int)) = -((cap40 (dv 0 ep) : Nat) : Int) := by rw [w4 _ (by omega) (by omega)]; omega
    simp only [Int.zero_sub] at g8
    generalize hK : cap40 (dv 0 ep) = K at *
    generalize hB : n.body = B at *
    generalize hLL : n.head = L at *
    by_cases hsg : sg = [45]
    · rw [if_pos hsg] at hpw2
      rw [hpw2] at w1 w3 hcl2 hexp
      have q1 := eq_true hsg
      rcases hsh with hs0 | hs0
      · rw [if_pos hs0] at hexp
        simp (config := { maxSteps := 4000000 }) [hw, hend, htp, f2, hia, hcut, htl2, htr, hcl0, hcat, w1, w2, w3, hs0, hexp, g1, g2, g3, g4, g5, g6, g7, g8, hbt, hbd, htl3, hpre, hmin, hat, q1]
      · rw [if_neg hs0] at hexp
        simp (config := { maxSteps := 4000000 }) [hw, hend, htp, f2, hia, hcut, htl2, htr, hcl2, hcat, w1, w2, w3, hs0, hexp, g1, g2, g3, g4, g5, g6, g7, g8, hbt, hbd, htl3, hpre, hmin, hat, q1]
    · rw [if_neg hsg] at hpw2
      rw [hpw2] at w1 w3 hcl2 hexp
      have q1 := eq_false hsg
      rcases hsh with hs0 | hs0
      · rw [if_pos hs0] at hexp
        simp (config := { maxSteps := 4000000 }) [hw, hend, htp, f2, hia, hcut, htl2, htr, hcl0, hcat, w1, w2, w3, hs0, hexp, g1, g2, g3, g4, g5, g6, g7, g8, hbt, hbd, htl3, hpre, hmin, hat, q1]
      · rw [if_neg hs0] at hexp
        simp (config := { maxSteps := 4000000 }) [hw, hend, htp, f2, hia, hcut, htl2, htr, hcl2, hcat, w1, w2, w3, hs0, hexp, g1, g2, g3, g4, g5, g6, g7, g8, hbt, hbd, htl3, hpre, hmin, hat, q1]
end
end Go.Proofs.YteckofomnhminaaDoor
/-
  Layer 8 and math: what floats' bits tell.
-/
set_option linter.unusedSimpArgs false
set_option linter.unusedVariables false
set_option maxRecDepth 100000
namespace Tg.Nu
def kind8 (b : Nat) : Int := if 9218868437227405312 < b % 9223372036854775808 then 0 else if b % 9223372036854775808 = 9218868437227405312 then 1 else if b % 9223372036854775808 = 0 then 2 else if b % 9223372036854775808 < 4503599627370496 then 3 else 4
def sign8 (b : Nat) : Int := if kind8 b = 0 then 0 else if 9223372036854775808 ≤ b then -1 else 1
def bits8 (b : Nat) : Nat := if 9218868437227405312 < b % 9223372036854775808 then 9221120237041090561 else b
end Tg.Nu
namespace Go.Proofs.YteckofomnhminaaDoor
open Go.Lg Go.Tg Tg.Nu
section
variable {H : LH} {f : Nat}
theorem tmod63 {f : Nat} : (f : Int).tmod 9223372036854775808 = ((f % 9223372036854775808 : Nat) : Int) := rfl
theorem kind8_l : LC Tryd.prog EJ 31 [.float .f64 f] H = some (.int .i64 (kind8 f), H) := by
  refine LC_pure rfl Tryd.func31 rfl (Nat.le_of_ble_eq_true rfl) (by decide) (by kernel_rfl) rfl ?_
  have e := tmod63 (f := f)
  unfold kind8
  generalize f % 9223372036854775808 = r at *
  by_cases h1 : 9218868437227405312 < r
  · have q1 := eq_true (show (9218868437227405312 : Int) < (r : Int) by omega)
    rw [if_pos h1]
    simp [e, q1]
  · have q1 := eq_false (show ¬ (9218868437227405312 : Int) < (r : Int) by omega)
    rw [if_neg h1]
    by_cases h2 : r = 9218868437227405312
    · subst h2
      simp [e]
    · have q2 := eq_false (show ¬ (r : Int) = 9218868437227405312 by omega)
      rw [if_neg h2]
      by_cases h3 : r = 0
      · subst h3
        simp [e]
      · have q3 := eq_false h3
        rw [if_neg h3]
        by_cases h4 : r < 4503599627370496
        · have q4 := eq_true (show (r : Int) < 4503599627370496 by omega)
          rw [if_pos h4]
          simp [e, q1, q2, q3, q4]
        · have q4 := eq_false (show ¬ (r : Int) < 4503599627370496 by omega)
          rw [if_neg h4]
          simp [e, q1, q2, q3, q4]
theorem sign8_l : LC Tryd.prog EJ 49 [.float .f64 f] H = some (.int .i64 (sign8 f), H) := by
  refine LC_pure rfl Tryd.func49 rfl (Nat.le_of_ble_eq_true rfl) (by decide) (by kernel_rfl) rfl ?_
  unfold sign8
  by_cases h1 : kind8 f = 0
  · simp [kind8_l, h1]
  · by_cases h2 : 9223372036854775808 ≤ f
    · have q2 := eq_true (show (9223372036854775808 : Int) ≤ (f : Int) by omega)
      simp [kind8_l, h1, h2, q2]
    · have q2 := eq_false (show ¬ (9223372036854775808 : Int) ≤ (f : Int) by omega)
      simp [kind8_l, h1, h2, q2]
theorem bits8_l : LC Tryd.prog EJ 29 [.float .f64 f] H = some (.int .u64 (bits8 f : Nat), H) := by
  refine LC_pure rfl Tryd.func29 rfl (Nat.le_of_ble_eq_true rfl) (by decide) (by kernel_rfl) rfl ?_
  have e := tmod63 (f := f)
  unfold bits8
  generalize f % 9223372036854775808 = r at *
  by_cases h1 : 9218868437227405312 < r
  · have q1 := eq_true (show (9218868437227405312 : Int) < (r : Int) by omega)
    rw [if_pos h1]
    simp [e, q1]
  · have q1 := eq_false (show ¬ (9218868437227405312 : Int) < (r : Int) by omega)
    rw [if_neg h1]
    simp [e, q1]
theorem of8_l {n : Int} : LC Tryd.prog EJ 55 [.int .u64 n] H = some (.float .f64 n.toNat, H) := by
  refine LC_pure rfl Tryd.func55 rfl (Nat.le_of_ble_eq_true rfl) (by decide) (by kernel_rfl) (by simp) ?_
  simp
theorem inf_l : LC Tryd.prog EJ 86 [.int .i64 1] H = some (.float .f64 9218868437227405312, H) := by
  refine LC_pure rfl Tryd.func86 rfl (Nat.le_of_ble_eq_true rfl) (by decide) (by kernel_rfl) rfl ?_
  simp
theorem abs_l (h : f < 18446744073709551616) : LC Tryd.prog EJ 124 [.float .f64 f] H = some (.float .f64 (f % 9223372036854775808), H) := by
  refine LC_pure rfl Tryd.func124 rfl (Nat.le_of_ble_eq_true rfl) (by decide) (by kernel_rfl) rfl ?_
  have e := not63 h
  generalize f % 9223372036854775808 = r at *
  simp [e]
/-- the sign below 0 put on a number -/
def neg8 (f : Nat) : Nat := f % 9223372036854775808 + 9223372036854775808
theorem copysign_l (h : f < 18446744073709551616) : LC Tryd.prog EJ 122 [.float .f64 f, .float .f64 13830554455654793216] H = some (.float .f64 (neg8 f), H) := by
  refine LC_pure rfl Tryd.func122 rfl (Nat.le_of_ble_eq_true rfl) (by decide) (by kernel_rfl) rfl ?_
  have e := not63 h
  have e2 := sign63 (m := 13830554455654793216) (by decide)
  rw [show ((13830554455654793216 : Nat) : Int) = 13830554455654793216 from rfl, if_pos (by decide)] at e2
  have e3 := or64 (m := f % 9223372036854775808) (n := 9223372036854775808) (by omega) (by decide)
  rw [show ((9223372036854775808 : Nat) : Int) = 9223372036854775808 from rfl] at e3
  have e4 : (f % 9223372036854775808 ||| 9223372036854775808) = neg8 f := by
    have := Nat.two_pow_add_eq_or_of_lt (i := 63) (b := f % 9223372036854775808) (by omega) 1
    rw [Nat.or_comm, show (9223372036854775808 : Nat) = 2 ^ 63 * 1 from rfl, ← this]
    unfold neg8; omega
  rw [e4] at e3
  generalize neg8 f = q at *
  generalize f % 9223372036854775808 = r at *
  simp [e, e2, e3]
end
end Go.Proofs.YteckofomnhminaaDoor
/-
  Layer 9 (jnum): the living call.
-/
set_option linter.unusedSimpArgs false
set_option linter.unusedVariables false
set_option maxRecDepth 100000
namespace Go.Proofs.YteckofomnhminaaDoor
open Go.Lg Tg.Nu
section
variable {H : LH}
def n1 : Num := ⟨true, [48], some [48], none⟩
def n2 : Num := ⟨false, [49], none, some (101, [], [57, 57, 57])⟩
theorem n1_ok : n1.Ok := ⟨by intro b hb; simp [n1] at hb; subst hb; rfl, by simp [n1], by intro b hb; simp at hb; subst hb; rfl, trivial⟩
theorem n2_ok : n2.Ok := ⟨by intro b hb; simp [n2] at hb; subst hb; rfl, by simp [n2], trivial, rfl, .inl rfl, by intro b hb; simp at hb; subst hb; rfl, by simp⟩
theorem signed_neg : LC Tryd.prog EJ 85 [.float .f64 0, .bool true] H = some (.float .f64 9223372036854775808, H) := by
  refine LC_pure rfl Tryd.func85 rfl (Nat.le_of_ble_eq_true rfl) (by decide) (by kernel_rfl) rfl ?_
  have := copysign_l (H := H) (f := 0) (by decide)
  rw [show neg8 0 = 9223372036854775808 from rfl] at this
  simp [this]
theorem signed_pos {f : Nat} : LC Tryd.prog EJ 85 [.float .f64 f, .bool false] H = some (.float .f64 f, H) := by
  refine LC_pure rfl Tryd.func85 rfl (Nat.le_of_ble_eq_true rfl) (by decide) (by kernel_rfl) rfl ?_
  simp
theorem value1 : LC Tryd.prog EJ 54 [str [45, 48, 46, 48]] H = some (.tuple #[.float .f64 9223372036854775808, .int .i64 0], H) := by
  refine LC_pure rfl Tryd.func54 rfl (Nat.le_of_ble_eq_true rfl) (by decide) (by kernel_rfl) rfl ?_
  have h := parts_ok (H := H) n1_ok rfl (by decide)
  rw [show n1.text = [45, 48, 46, 48] from rfl, show n1.neg = true from rfl, show n1.short = [] from rfl, show n1.exp = 0 from rfl] at h
  simp [h, signed_neg]
theorem value2 : LC Tryd.prog EJ 54 [str [49, 101, 57, 57, 57]] H = some (.tuple #[.float .f64 9218868437227405312, .int .i64 0], H) := by
  refine LC_pure rfl Tryd.func54 rfl (Nat.le_of_ble_eq_true rfl) (by decide) (by kernel_rfl) rfl ?_
  have h := parts_ok (H := H) n2_ok rfl (by decide)
  rw [show n2.text = [49, 101, 57, 57, 57] from rfl, show n2.neg = false from rfl, show n2.short = [49] from rfl, show n2.exp = 999 by decide +kernel] at h
  simp [h, signed_pos, inf_l]
theorem Value1 : LC Tryd.prog EJ 27 [str [45, 48, 46, 48]] H = some (.tuple #[.float .f64 9223372036854775808, .int .i64 0], H) := by
  refine LC_pure rfl Tryd.func27 rfl (Nat.le_of_ble_eq_true rfl) (by decide) (by kernel_rfl) rfl ?_
  simp [value1]
theorem Value2 : LC Tryd.prog EJ 27 [str [49, 101, 57, 57, 57]] H = some (.tuple #[.float .f64 9218868437227405312, .int .i64 0], H) := by
  refine LC_pure rfl Tryd.func27 rfl (Nat.le_of_ble_eq_true rfl) (by decide) (by kernel_rfl) rfl ?_
  simp [value2]
theorem lives_l : LC Tryd.prog EJ 21 [] H = some (.bool true, H) := by
  refine LC_pure rfl Tryd.func21 rfl (Nat.le_of_ble_eq_true rfl) (by decide) (by kernel_rfl) rfl ?_
  have h1 := sign8_l (H := H) (f := 9223372036854775808)
  have h2 := kind8_l (H := H) (f := 9218868437227405312)
  rw [show Tg.Nu.sign8 9223372036854775808 = -1 by decide] at h1
  rw [show Tg.Nu.kind8 9218868437227405312 = 1 by decide] at h2
  simp [Value1, Value2, h1, h2]
end
end Go.Proofs.YteckofomnhminaaDoor
/-
  Layer 9 (jnum): what the reference's reader of parts comes to; the law JnumParts.
-/
set_option linter.unusedSimpArgs false
set_option linter.unusedVariables false
set_option maxRecDepth 100000
namespace Go.Proofs.YteckofomnhminaaDoor
open Go.Lg Tg.Nu
section
variable {H : LH} {b : UInt8} {s : List UInt8}
theorem wrapS {x : Int} (h1 : -9223372036854775808 ≤ x) (h2 : x ≤ 9223372036854775807) : IntKind.i64.wrap x = x := wrap64_in h1 h2
theorem power_l {sg ep : List UInt8} (hs : sg = [] ∨ sg = [43] ∨ sg = [45]) (hd : digs ep) (h0 : ep ≠ []) (hl : ep.length ≤ 1048576) :
    LC Tryd.prog EJ 50 [str (sg ++ ep)] H = some (.int .i64 (if sg = [45] then -(cap40 (dv 0 ep) : Int) else (cap40 (dv 0 ep) : Int)), H) := by
  refine LC_pure rfl Tryd.func50 rfl (Nat.le_of_ble_eq_true rfl) (by decide) (by kernel_rfl) rfl ?_
  -- behind the loop
  refine runs_cut 5 (fun fr' H' => ∃ n : Nat, fr' 3 = .bool (decide (sg = [45])) ∧ fr' 4 = .int .i64 n ∧ cap40 n = cap40 (dv 0 ep) ∧ n ≤ 10995116277770 ∧ H' = H) ?_ (fun K5 hK5 => ?_) rfl
  · rintro fr' H' ⟨n, h3, h4, hc, hn, rfl⟩
    rw [← hc]
    have hK : (cap40 n : Int) = if (1099511627776 : Int) < (n : Int) then 1099511627776 else (n : Int) := by unfold cap40; split <;> split <;> omega
    rw [hK]
    have w1 : ∀ x : Int, -10995116277770 ≤ x → x ≤ 10995116277770 → IntKind.i64.wrap x = x := fun x a b => wrapS (by omega) (by omega)
    by_cases hb : (1099511627776 : Int) < (n : Int)
    · have q := eq_true hb
      by_cases hsg : sg = [45]
      · have q2 := eq_true hsg
        simp [h3, h4, q, q2]
      · have q2 := eq_false hsg
        simp [h3, h4, q, q2]
    · have q := eq_false hb
      by_cases hsg : sg = [45]
      · have q2 := eq_true hsg
        have w2 := w1 (-(n : Int)) (by omega) (by omega)
        simp [h3, h4, q, q2, w2]
      · have q2 := eq_false hsg
        simp [h3, h4, q, q2]
  -- the loop
  refine runs_cut 4 (fun fr' H' => fr' 0 = str ep ∧ fr' 3 = .bool (decide (sg = [45])) ∧ fr' 4 = .int .i64 0 ∧ H' = H) ?_ (fun K4 hK4 => ?_) rfl
  · rintro fr' H' ⟨h0, h3, h4, rfl⟩
    simp
    refine loop_ind (fun (i : Nat) fr2 H2 => fr2 0 = str ep ∧ fr2 3 = .bool (decide (sg = [45])) ∧ (∃ n : Nat, fr2 4 = .int .i64 n ∧ (n = dv 0 (ep.take i) ∨ (1099511627776 ≤ n ∧ 1099511627776 ≤ dv 0 (ep.take i))) ∧ n ≤ 10995116277770) ∧ fr2 5 = .int .i64 i ∧ i ≤ ep.length ∧ H2 = H') (fun i => ep.length - i) 0 ⟨by simp [h0], by simp [h3], ⟨0, by simp [h4], .inl (by simp [dv]), by decide⟩, by simp, by simp, rfl⟩ ?_
    rintro i fr2 H2 ⟨f0, f3, ⟨n, f4, hn, hb⟩, f5, hi, rfl⟩ ih
    by_cases hlt : i < ep.length
    · have ht := dv_take ep hlt
      have hD := hd ep[i] (List.getElem_mem hlt)
      simp only [isD, Bool.and_eq_true, decide_eq_true_eq] at hD
      have hw : IntKind.i64.wrap ((i : Int) + 1) = ((i + 1 : Nat) : Int) := by rw [wrap64_in (by omega) (by omega)]; omega
      have hat := at_in hlt
      by_cases hsm : n < 1099511627776
      · have q := eq_true (show (n : Int) < 1099511627776 by omega)
        have hw1 : IntKind.i64.wrap (10 * (n : Int)) = 10 * (n : Int) := wrapS (by omega) (by omega)
        have hw2 : IntKind.u8.wrap ((ep[i].toNat : Int) - 48) = ((ep[i].toNat - 48 : Nat) : Int) := by
          have := ep[i].toNat_lt
          rw [show IntKind.u8.wrap ((ep[i].toNat : Int) - 48) = ((ep[i].toNat : Int) - 48) % 256 from IntKind.wrap_u8 _]; omega
        have hw3 : IntKind.i64.wrap ((ep[i].toNat - 48 : Nat) : Int) = ((ep[i].toNat - 48 : Nat) : Int) := wrapS (by omega) (by omega)
        have hw4 : IntKind.i64.wrap (10 * (n : Int) + ((ep[i].toNat - 48 : Nat) : Int)) = ((10 * n + (ep[i].toNat - 48) : Nat) : Int) := by rw [wrapS (by omega) (by omega)]; omega
        have hbnd : 10 * n + (ep[i].toNat - 48) ≤ 10995116277770 := by omega
        have hnew : (10 * n + (ep[i].toNat - 48)) = dv 0 (ep.take (i + 1)) ∨ (1099511627776 ≤ 10 * n + (ep[i].toNat - 48) ∧ 1099511627776 ≤ dv 0 (ep.take (i + 1))) := by omega
        generalize 10 * n + (ep[i].toNat - 48) = m at *
        generalize ep[i].toNat - 48 = dg at *
        generalize hi1 : i + 1 = i1 at *
        simp [f0, f3, f4, f5, hlt, q, hat, hw, hw1, hw2, hw3, hw4]
        exact ih i1 _ _ (by omega) ⟨by simp [f0], by simp [f3], ⟨m, by simp, hnew, hbnd⟩, by simp, by omega, rfl⟩
      · have q := eq_false (show ¬ (n : Int) < 1099511627776 by omega)
        have hnew : n = dv 0 (ep.take (i + 1)) ∨ (1099511627776 ≤ n ∧ 1099511627776 ≤ dv 0 (ep.take (i + 1))) := by omega
        generalize hi1 : i + 1 = i1 at *
        simp [f0, f3, f4, f5, hlt, q, hw]
        exact ih i1 _ _ (by omega) ⟨by simp [f0], by simp [f3], ⟨n, by simp [f4], hnew, hb⟩, by simp, by omega, rfl⟩
    · have e : ep.take i = ep := List.take_of_length_le (by omega)
      rw [e] at hn
      simp [f0, f3, f4, f5, hlt]
      exact hK5 _ _ ⟨n, by simp [f3], by simp [f4], by unfold cap40; split <;> split <;> omega, hb, rfl⟩
  -- the sign
  obtain ⟨c, r, rfl, hc⟩ := digs_head hd h0
  obtain ⟨c1, c2, _⟩ := D_ne hc
  have qa : ((0 : Int) < (r.length : Int) + 1 + 1) = True := eq_true (by omega)
  have qb : ((1 : Int) ≤ (r.length : Int) + 1 + 1) = True := eq_true (by omega)
  rcases hs with rfl | rfl | rfl
  · have q : (0 < r.length + 1) = True := eq_true (by omega)
    have e0 : at_ (c :: r) 0 = c := rfl
    simp [e0, c1, c2]
    exact hK4 _ _ ⟨by simp, by simp, by simp, rfl⟩
  · have e0 : at_ (43 :: c :: r) 0 = 43 := rfl
    simp [e0, qa, qb]
    exact hK4 _ _ ⟨by simp, by simp, by simp, rfl⟩
  · have e0 : at_ (45 :: c :: r) 0 = 45 := rfl
    simp [e0, qa, qb]
    exact hK4 _ _ ⟨by simp, by simp, by simp, rfl⟩
abbrev nz0 : LB := ⟨[.bool false, str [], .int .i64 0], 41, true⟩
abbrev nb (neg : Bool) (d : List UInt8) (e : Int) : LB := ⟨[.bool neg, str d, .int .i64 e], 41, true⟩
abbrev nH (H : LH) (neg : Bool) (d : List UInt8) (e : Int) : LH := (H.new nz0).new (nb neg d e)
theorem nH_le {neg : Bool} {d : List UInt8} {e : Int} : H.le (nH H neg d e) := le_refl.new.new
theorem partsR_l {n : Num} (hn : n.Ok) (hs : n.text.length ≤ 1048576) : LC Tryd.prog EJ 22 [str n.text] H = some (.agg #[.bool n.neg, str n.short, .int .i64 n.exp], H) := by
  refine LC_pure rfl Tryd.func22 rfl (Nat.le_of_ble_eq_true rfl) (by decide) (by kernel_rfl) rfl ?_
  have hlt := len_text (n := n)
  have hhl : n.head.length ≤ n.body.length := by unfold Num.body; simp
  have hil2 : n.ip.length + n.fp.length ≤ n.head.length := by
    unfold Num.head Num.fp
    cases n.f <;> simp [foT] <;> omega
  have hsl : n.short.length ≤ n.all.length := by
    unfold Num.short trail
    rw [List.length_reverse]
    exact Nat.le_trans (List.dropWhile_suffix _).length_le (by simp)
  have hal : n.all.length ≤ n.head.length := by
    unfold Num.all lead
    exact Nat.le_trans (List.dropWhile_suffix _).length_le (by simp; omega)
  have hpw : -1099511627776 ≤ n.pw ∧ n.pw ≤ 1099511627776 := by
    unfold Num.pw
    cases n.e with
    | none => simp
    | some x =>
      obtain ⟨c, sg, ep⟩ := x
      have := cap40_le (dv 0 ep)
      simp only
      split <;> omega
  have w4 : ∀ x : Int, -10000000000000 ≤ x → x ≤ 10000000000000 → IntKind.i64.wrap x = x := fun x h1 h2 => wrap64_in (by omega) (by omega)
  obtain ⟨off, ho1, ho2, ho3⟩ : ∃ off, n.text.length = off + n.body.length ∧ n.text.drop off = n.body ∧ off = if n.neg = true then 1 else 0 := by
    cases hneg : n.neg with
    | true => exact ⟨1, by rw [text_true hneg]; simp; omega, by rw [text_true hneg]; rfl, rfl⟩
    | false => exact ⟨0, by rw [text_false hneg]; simp, by rw [text_false hneg]; rfl, rfl⟩
  have hob : off ≤ 1 := by rw [ho3]; split <;> omega
  have hget : ∀ k : Nat, n.text[off + k]? = n.body[k]? := fun k => by rw [← ho2, List.getElem?_drop]
  -- the end
  refine runs_cut 6 (fun fr' H' => ∃ x : Int, fr' 2 = ptr H.n 0 ∧ fr' 3 = ptr (H.n + 1) 0 ∧ H' = nH H n.neg n.short x ∧ x = n.pw - n.fp.length + (n.all.length - n.short.length)) ?_ (fun K6 hK6 => ?_) rfl
  · rintro fr' H' ⟨x, h2, h3, rfl, hx⟩
    have hexp : n.exp = if n.short = [] then 0 else clamp x (-9999) 9999 := by rw [hx]; rfl
    rw [hexp]
    by_cases hsh : n.short = []
    · rw [if_pos hsh]
      simp [h2, h3, hsh]
    · rw [if_neg hsh]
      have q := eq_false hsh
      unfold clamp
      by_cases hb : 9999 < x
      · have q1 := eq_true hb
        have q2 := eq_false (show ¬ x < -9999 by omega)
        simp [h2, h3, q, q1, q2]
      · have q1 := eq_false hb
        by_cases hc : x < -9999
        · have q2 := eq_true hc
          simp [h2, h3, q, q1, q2]
        · have q2 := eq_false hc
          simp [h2, h3, q, q1, q2]
  -- noughts at the end
  refine runs_cut 5 (fun fr' H' => ∃ x : Int, fr' 2 = ptr H.n 0 ∧ fr' 3 = ptr (H.n + 1) 0 ∧ H' = nH H n.neg n.all x ∧ x = n.pw - n.fp.length) ?_ (fun K5 hK5 => ?_) rfl
  · rintro fr' H' ⟨x, h2, h3, rfl, hx⟩
    simp
    refine loop_ind (fun (d : List UInt8) fr2 H2 => ∃ y : Int, fr2 2 = ptr H.n 0 ∧ fr2 3 = ptr (H.n + 1) 0 ∧ H2 = nH H n.neg d y ∧ trail d = n.short ∧ d.length ≤ n.all.length ∧ y = x + (n.all.length - d.length)) (fun d => d.length) n.all ⟨x, by simp [h2], by simp [h3], rfl, rfl, Nat.le_refl _, by omega⟩ ?_
    rintro d fr2 H2 ⟨y, f2, f3, rfl, ht, hle, hy⟩ ih
    rcases Nat.eq_zero_or_pos d.length with h0 | h0
    · have hd : d = [] := List.eq_nil_of_length_eq_zero h0
      subst hd
      have e : n.short = [] := ht.symm.trans rfl
      simp [f2, f3]
      exact hK6 _ _ ⟨y, by simp [f2], by simp [f3], by rw [e], by rw [e]; simpa [hx] using hy⟩
    · have hne : d ≠ [] := List.length_pos_iff.1 h0
      have q := eq_true h0
      have e1 : ((d.length : Int) - 1).toNat = d.length - 1 := by omega
      have hw := w4 ((d.length : Int) - 1) (by omega) (by omega)
      have q1 := eq_true (show (1 : Int) ≤ (d.length : Int) by omega)
      have q2 := eq_true (show (d.length : Int) - 1 < (d.length : Int) by omega)
      have q3 := eq_true (show (d.length : Int) - 1 ≤ (d.length : Int) by omega)
      have hat : at_ d ((d.length : Int) - 1) = d.getLast hne := by
        unfold at_
        rw [e1, List.getLast_eq_getElem, List.getD_eq_getElem?_getD, List.getElem?_eq_getElem (by omega)]; rfl
      by_cases hz : d.getLast hne = 48
      · have htr := trail_last d hne hz
        rw [ht, List.dropLast_eq_take] at htr
        have hw2 := w4 (y + 1) (by omega) (by omega)
        have hl2 : (d.take (d.length - 1)).length = d.length - 1 := by simp
        generalize hd2 : d.take (d.length - 1) = d2 at *
        simp [f2, f3, q, q1, q2, q3, hw, hat, hz, e1, hd2, hw2]
        exact ih d2 _ _ (by omega) ⟨y + 1, by simp [f2], by simp [f3], rfl, htr.symm, by omega, by omega⟩
      · have htr := trail_stay d (.inr ⟨hne, hz⟩)
        have e : n.short = d := ht.symm.trans htr
        have qz := eq_false hz
        simp [f2, f3, q, q1, q2, q3, hw, hat, qz]
        exact hK6 _ _ ⟨y, by simp [f2], by simp [f3], by rw [e], by rw [e]; omega⟩
  -- the power
  refine runs_cut 4 (fun fr' H' => fr' 0 = str n.text ∧ fr' 2 = ptr H.n 0 ∧ fr' 3 = ptr (H.n + 1) 0 ∧ fr' 5 = .int .i64 (off + n.head.length : Nat) ∧ H' = nH H n.neg n.all (-(n.fp.length : Int))) ?_ (fun K4 hK4 => ?_) rfl
  · rintro fr' H' ⟨h0, h2, h3, h5, rfl⟩
    cases he : n.e with
    | none =>
      have e1 : n.body = n.head := by unfold Num.body; rw [he]; simp [eoT]
      have e2 : n.pw = 0 := by unfold Num.pw; rw [he]
      have q := eq_false (show ¬ ((off + n.head.length : Nat) : Int) < (n.text.length : Int) by rw [ho1, e1]; omega)
      generalize off + n.head.length = i at *
      simp [h0, h2, h3, h5, q]
      exact hK5 _ _ ⟨_, by simp [h2], by simp [h3], rfl, by rw [e2]; omega⟩
    | some x =>
      obtain ⟨c, sg, ep⟩ := x
      have hok := hn.e
      rw [he] at hok
      have hbd := body_drop he
      have hlt2 : n.head.length + 1 ≤ n.body.length := by unfold Num.body; rw [he]; simp [eoT]
      have hdd : n.text.drop (off + n.head.length + 1) = sg ++ ep := by rw [← hbd, ← ho2, List.drop_drop]; congr 1
      have q := eq_true (show ((off + n.head.length : Nat) : Int) < (n.text.length : Int) by rw [ho1]; omega)
      have hw := w4 (((off + n.head.length : Nat) : Int) + 1) (by omega) (by omega)
      have q2 := eq_true (show (0 : Int) ≤ ((off + n.head.length : Nat) : Int) + 1 by omega)
      have q3 := eq_true (show ((off + n.head.length : Nat) : Int) + 1 ≤ (n.text.length : Int) by rw [ho1]; omega)
      have q4 : (((off + n.head.length : Nat) : Int) + 1).toNat = off + n.head.length + 1 := by omega
      have hepl : ep.length ≤ 1048576 := by
        have := congrArg List.length hbd
        simp at this; omega
      have hp := fun H : LH => power_l (H := H) hok.2.1 hok.2.2.1 hok.2.2.2 hepl
      have hpw2 : (if sg = [45] then -(cap40 (dv 0 ep) : Int) else (cap40 (dv 0 ep) : Int)) = n.pw := by unfold Num.pw; rw [he]
      simp only [hpw2] at hp
      have hw2 := w4 (-(n.fp.length : Int) + n.pw) (by omega) (by omega)
      generalize hhi : off + n.head.length = i at *
      generalize hpt : sg ++ ep = pt at *
      simp [h0, h2, h3, h5, q, hw, q2, q3, q4, hdd, hp, hw2]
      exact hK5 _ _ ⟨_, by simp [h2], by simp [h3], rfl, by omega⟩
  -- the digits
  refine runs_cut 3 (fun fr' H' => fr' 0 = str n.text ∧ fr' 2 = ptr H.n 0 ∧ fr' 3 = ptr (H.n + 1) 0 ∧ fr' 4 = .bool false ∧ fr' 5 = .int .i64 (off : Nat) ∧ H' = nH H n.neg [] 0) ?_ (fun K3 hK3 => ?_) rfl
  · rintro fr' H' ⟨h0, h2, h3, h4, h5, rfl⟩
    simp
    refine loop_ind (fun (k : Nat) fr2 H2 => fr2 0 = str n.text ∧ fr2 2 = ptr H.n 0 ∧ fr2 3 = ptr (H.n + 1) 0 ∧ fr2 4 = .bool (rfold (n.head.take k)).1 ∧ fr2 5 = .int .i64 (off + k : Nat) ∧ k ≤ n.head.length ∧ H2 = nH H n.neg (rfold (n.head.take k)).2.1 (rfold (n.head.take k)).2.2) (fun k => n.head.length - k) 0 ⟨by simp [h0], by simp [h2], by simp [h3], by simp [h4, rfold], by simp [h5], Nat.zero_le _, rfl⟩ ?_
    rintro k fr2 H2 ⟨f0, f2, f3, f4, f5, hk, rfl⟩ ih
    rcases Nat.eq_or_lt_of_le hk with z | z
    · have e1 : n.head.take k = n.head := List.take_of_length_le (by omega)
      rw [e1, rfold_head hn] at *
      have hgk := hget k
      rw [z] at f5 hgk
      have hfin : fr2 5 = .int .i64 (off + n.head.length : Nat) := f5
      cases he : n.e with
      | none =>
        have e1 : n.body = n.head := by unfold Num.body; rw [he]; simp [eoT]
        have q := eq_false (show ¬ ((off + n.head.length : Nat) : Int) < (n.text.length : Int) by rw [ho1, e1]; omega)
        generalize off + n.head.length = i at *
        simp [f0, f2, f3, f4, f5, q]
        exact hK4 _ _ ⟨by simp [f0], by simp [f2], by simp [f3], by simp [f5], rfl⟩
      | some x =>
        obtain ⟨c, sg, ep⟩ := x
        have hok := hn.e
        rw [he] at hok
        have hb : n.body[n.head.length]? = some c := by unfold Num.body; rw [he]; simp [eoT]
        rw [hb] at hgk
        have hat := at_of hgk
        have q := eq_true (show ((off + n.head.length : Nat) : Int) < (n.text.length : Int) by have := (List.getElem?_eq_some_iff.1 hgk).1; omega)
        have hcE := isE_iff.1 hok.1
        generalize off + n.head.length = i at *
        rcases hcE with e | e
        · have qe := eq_true e
          simp [f0, f2, f3, f4, f5, q, hat, qe]
          exact hK4 _ _ ⟨by simp [f0], by simp [f2], by simp [f3], by simp [f5], rfl⟩
        · have qe := eq_true e
          have qe2 := eq_false (show ¬ c = 101 by rw [e]; decide)
          simp [f0, f2, f3, f4, f5, q, hat, qe, qe2]
          exact hK4 _ _ ⟨by simp [f0], by simp [f2], by simp [f3], by simp [f5], rfl⟩
    · have hst := rfold_take n.head z
      have hbd := rfold_bound (n.head.take k)
      have hbl : (n.head.take k).length ≤ 1048576 := by simp; omega
      have hgk := hget k
      have hb : n.body[k]? = some n.head[k] := by unfold Num.body; rw [List.getElem?_append_left z, List.getElem?_eq_getElem z]
      rw [hb] at hgk
      have hlen := (List.getElem?_eq_some_iff.1 hgk).1
      have hat := at_of hgk
      have hne := head_ne hn n.head[k] (List.getElem_mem z)
      have q := eq_true (show ((off + k : Nat) : Int) < (n.text.length : Int) by omega)
      have qe := eq_false hne.1
      have qe2 := eq_false hne.2
      have hw := w4 (((off + k : Nat) : Int) + 1) (by omega) (by omega)
      have hsub : sub n.text ((off + k : Nat) : Int) (((off + k : Nat) : Int) + 1) = [n.head[k]] := by
        unfold sub
        rw [show (((off + k : Nat) : Int) + 1).toNat = off + k + 1 by omega, show (((off + k : Nat) : Int)).toNat = off + k by omega, List.drop_take, List.drop_eq_getElem_cons hlen]
        have e0 : n.text[off + k] = n.head[k] := by rw [List.getElem?_eq_getElem hlen] at hgk; exact Option.some.inj hgk
        rw [e0]; simp
      have q3 := eq_true (show ((off + k : Nat) : Int) ≤ ((off + k : Nat) : Int) + 1 by omega)
      have q4 := eq_true (show ((off + k : Nat) : Int) + 1 ≤ (n.text.length : Int) by omega)
      generalize rfold (n.head.take k) = x at *
      obtain ⟨pt, d, e⟩ := x
      dsimp only at *
      have hwe := w4 (e - 1) (by omega) (by omega)
      have hdl := eq_true (show d.length + 1 ≤ 9223372036854775807 by omega)
      have hnext : ∀ fr3, fr3 0 = str n.text → fr3 2 = ptr H.n 0 → fr3 3 = ptr (H.n + 1) 0 → fr3 4 = .bool (rstep (pt, d, e) n.head[k]).1 → fr3 5 = .int .i64 (((off + k : Nat) : Int) + 1) → ∀ H3, H3 = nH H n.neg (rstep (pt, d, e) n.head[k]).2.1 (rstep (pt, d, e) n.head[k]).2.2 → Runs Tryd.prog EJ Tryd.f22 _ fr3 H3 _ := fun fr3 g0 g2 g3 g4 g5 H3 g6 => ih (k + 1) fr3 H3 (by omega) ⟨g0, g2, g3, by rw [hst]; exact g4, by rw [g5]; congr 1, z, by rw [hst]; exact g6⟩
      clear hget hgk hb hst
      generalize n.head[k] = b at *
      generalize hi : off + k = i at *
      by_cases h46 : b = 46
      · subst h46
        simp [f0, f2, f3, f4, f5, q, hat, hw]
        exact hnext _ (by simp [f0]) (by simp [f2]) (by simp [f3]) (by simp [rstep]) (by simp) _ (by simp [rstep])
      · have q46 := eq_false h46
        cases pt with
        | true =>
          by_cases hd : d = []
          · have qd := eq_true hd
            by_cases h48 : b = 48
            · have q48 := eq_true h48
              simp [f0, f2, f3, f4, f5, q, hat, hw, qe, qe2, q46, hwe, qd, q48]
              exact hnext _ (by simp [f0]) (by simp [f2]) (by simp [f3]) (by simp [rstep, h46, f4]) (by simp) _ (by simp [rstep, h46, hd, h48])
            · have q48 := eq_false h48
              simp [f0, f2, f3, f4, f5, q, hat, hw, qe, qe2, q46, hwe, qd, q48, hsub, q3, q4, hdl]
              exact hnext _ (by simp [f0]) (by simp [f2]) (by simp [f3]) (by simp [rstep, h46, f4]) (by simp) _ (by simp [rstep, h46, hd, h48])
          · have qd := eq_false hd
            simp [f0, f2, f3, f4, f5, q, hat, hw, qe, qe2, q46, hwe, qd, hsub, q3, q4, hdl]
            exact hnext _ (by simp [f0]) (by simp [f2]) (by simp [f3]) (by simp [rstep, h46, f4]) (by simp) _ (by simp [rstep, h46, hd])
        | false =>
          by_cases hd : d = []
          · have qd := eq_true hd
            by_cases h48 : b = 48
            · have q48 := eq_true h48
              simp [f0, f2, f3, f4, f5, q, hat, hw, qe, qe2, q46, hwe, qd, q48]
              exact hnext _ (by simp [f0]) (by simp [f2]) (by simp [f3]) (by simp [rstep, h46, f4]) (by simp) _ (by simp [rstep, h46, hd, h48])
            · have q48 := eq_false h48
              simp [f0, f2, f3, f4, f5, q, hat, hw, qe, qe2, q46, hwe, qd, q48, hsub, q3, q4, hdl]
              exact hnext _ (by simp [f0]) (by simp [f2]) (by simp [f3]) (by simp [rstep, h46, f4]) (by simp) _ (by simp [rstep, h46, hd, h48])
          · have qd := eq_false hd
            simp [f0, f2, f3, f4, f5, q, hat, hw, qe, qe2, q46, hwe, qd, hsub, q3, q4, hdl]
            exact hnext _ (by simp [f0]) (by simp [f2]) (by simp [f3]) (by simp [rstep, h46, f4]) (by simp) _ (by simp [rstep, h46, hd])
  -- the sign
  obtain ⟨c, r, hbc, hc⟩ := body_cons hn
  have hc45 := (D_ne hc).1
  cases hneg : n.neg with
  | true =>
    rw [hneg, if_pos rfl] at ho3
    subst ho3
    have e := text_true hneg
    have q := eq_true (show 0 < n.text.length by omega)
    have hat : at_ n.text 0 = 45 := by rw [e]; rfl
    rw [hneg] at hK3
    simp [q, hat]
    exact hK3 _ _ ⟨by simp, by simp, by simp, by simp, by simp, rfl⟩
  | false =>
    rw [hneg, if_neg (by simp)] at ho3
    subst ho3
    have e := text_false hneg
    have q := eq_true (show 0 < n.text.length by rw [e, hbc]; simp)
    have hat : at_ n.text 0 = c := by rw [e, hbc]; rfl
    rw [hneg] at hK3
    simp [q, hat, hc45]
    exact hK3 _ _ ⟨by simp, by simp, by simp, by simp, by simp, rfl⟩
theorem parts_l {n : Num} (hn : n.Ok) (h : acc 0 n.text = true) (hs : n.text.length ≤ 1048576) : LC Tryd.prog EJ 19 [str n.text] H = some (.tuple #[.bool n.neg, str n.short, .int .i64 n.exp, .bool true], H) := by
  refine LC_pure rfl Tryd.func19 rfl (Nat.le_of_ble_eq_true rfl) (by decide) (by kernel_rfl) rfl ?_
  simp [parts_ok hn h hs]
theorem partsb_l (h : acc 0 s = false) (hs : s.length ≤ 1048576) : LC Tryd.prog EJ 19 [str s] H = some (.tuple #[.bool false, str [], .int .i64 0, .bool false], H) := by
  refine LC_pure rfl Tryd.func19 rfl (Nat.le_of_ble_eq_true rfl) (by decide) (by kernel_rfl) rfl ?_
  simp [parts_bad h hs]
theorem partsLaw_l : LC Tryd.prog EJ 5 [str s] H = some (.bool true, H) := by
  refine LC_pure rfl Tryd.func5 rfl (Nat.le_of_ble_eq_true rfl) (by decide) (by kernel_rfl) rfl ?_
  have hcut := cutN_l (H := H) (s := s) (k := 60) (by decide)
  rw [show (60 : Int).toNat = 60 from rfl] at hcut
  have hl : (s.take 60).length ≤ 60 := by simp; omega
  generalize s.take 60 = t at *
  have his := fun H : LH => is_l (H := H) (s := t) (by omega)
  simp only [is_eq] at his
  have hlv := fun H : LH => lives_l (H := H)
  cases ha : acc 0 t with
  | false =>
    rw [ha] at his
    simp [hcut, partsb_l ha (show t.length ≤ 1048576 by omega), his, hlv]
  | true =>
    rw [ha] at his
    obtain ⟨n, rfl, hn⟩ := text_of ha
    simp [hcut, parts_l hn ha (show n.text.length ≤ 1048576 by omega), his, partsR_l hn (show n.text.length ≤ 1048576 by omega), hlv]
end
end Go.Proofs.YteckofomnhminaaDoor
/-
  Floats over the rungs: sums' and quotients' ranges, and orders, as far as kinds need them.
-/
set_option linter.unusedSimpArgs false
set_option linter.unusedVariables false
namespace Tg.Nu
open Ieee
theorem sw : double.signWeight = 9223372036854775808 := by decide
theorem bd : double.binade = 4503599627370496 := by decide
theorem ir : double.infRung = 9218868437227405312 := by decide
theorem fb : double.fractionBits = 52 := rfl
theorem lp : double.leastPlace = -1074 := by decide
theorem nr_le (m : Nat) (p : Int) : double.nearest false m p ≤ 9218868437227405312 := by
  unfold Format.nearest Format.word
  simp only [ir]
  split
  · simp
  · simp; omega
theorem read_lo {r : Nat} (h : r < 4503599627370496) : double.read r = .number false r (-1074) := by
  unfold Format.read
  simp only [sw, bd, ir, lp]
  have e1 : r / 9223372036854775808 = 0 := by omega
  have e2 : r % 9223372036854775808 = r := by omega
  rw [e1, e2, if_pos h]; rfl
theorem read_hi {r : Nat} (h : ¬ r < 4503599627370496) (h2 : r < 9218868437227405312) : double.read r = .number false (4503599627370496 + r % 4503599627370496) (-1074 + (r / 4503599627370496 - 1 : Nat)) := by
  unfold Format.read
  simp only [sw, bd, ir, lp]
  have e1 : r / 9223372036854775808 = 0 := by omega
  have e2 : r % 9223372036854775808 = r := by omega
  rw [e1, e2, if_neg h, if_pos h2]; rfl
theorem read_inf : double.read 9218868437227405312 = .infinity false := by decide
theorem read_neg {r : Nat} (h : r < 9223372036854775808) : double.read (r + 9223372036854775808) = (double.read r).opposite := by
  unfold Format.read
  simp only [sw, bd, ir, lp]
  have e1 : r / 9223372036854775808 = 0 := by omega
  have e2 : r % 9223372036854775808 = r := by omega
  have e3 : (r + 9223372036854775808) / 9223372036854775808 = 1 := by omega
  have e4 : (r + 9223372036854775808) % 9223372036854775808 = r := by omega
  rw [e1, e2, e3, e4]
  split
  · rfl
  · split
    · rfl
    · split <;> rfl
/-- what is read of a rung that is no NaN -/
theorem read_of {r : Nat} (h : r ≤ 9218868437227405312) : (∃ m p, double.read r = .number false m p ∧ (m = 0 ↔ r = 0) ∧ -1074 ≤ p) ∨ (r = 9218868437227405312 ∧ double.read r = .infinity false) := by
  by_cases h1 : r < 4503599627370496
  · exact .inl ⟨_, _, read_lo h1, Iff.rfl, by omega⟩
  · by_cases h2 : r < 9218868437227405312
    · exact .inl ⟨_, _, read_hi h1 h2, by omega, by omega⟩
    · have : r = 9218868437227405312 := by omega
      subst this
      exact .inr ⟨rfl, read_inf⟩
theorem mul_ok {x y : Nat} (hx : x ≤ 9218868437227405312) (h0 : 0 < y) (hy : y < 9218868437227405312) : ∃ r, double.mul x y = some r ∧ r ≤ 9218868437227405312 := by
  unfold Format.mul
  rcases read_of (Nat.le_of_lt hy) with ⟨n, q, e2, hz, _⟩ | ⟨h, _⟩
  · rcases read_of hx with ⟨m, p, e1, _, _⟩ | ⟨_, e1⟩
    · rw [e1, e2]
      exact ⟨_, rfl, nr_le _ _⟩
    · rw [e1, e2]
      have hn : n ≠ 0 := by rw [Ne, hz]; omega
      simp only [Datum.product, if_neg hn]
      exact ⟨_, rfl, by show double.infRung ≤ _; rw [ir]; exact Nat.le_refl _⟩
  · omega
theorem div_ok {x y : Nat} (hx : x ≤ 9218868437227405312) (h0 : 0 < y) (hy : y < 9218868437227405312) : ∃ r, double.div x y = some r ∧ r ≤ 9218868437227405312 := by
  unfold Format.div
  rcases read_of (Nat.le_of_lt hy) with ⟨n, q, e2, hz, _⟩ | ⟨h, _⟩
  · rcases read_of hx with ⟨m, p, e1, _, _⟩ | ⟨_, e1⟩
    · rw [e1, e2]
      have hn : n ≠ 0 := by rw [Ne, hz]; omega
      simp only [Datum.quotient, if_neg hn]
      exact ⟨_, rfl, nr_le _ _⟩
    · rw [e1, e2]
      exact ⟨_, rfl, by show double.infRung ≤ _; rw [ir]; exact Nat.le_refl _⟩
  · omega
theorem cmp_nat (a b : Nat) : compare (a : Int) (b : Int) = compare a b := by
  simp only [compare, compareOfLessAndEq, Int.ofNat_lt, Int.ofNat_inj]
/-! ### the orders that kinds ask for -/
theorem cmp_self (a : Int) : compare a a = Ordering.eq := by simp [compare, compareOfLessAndEq]
theorem ord_self {d : Datum} (h : d.isNaN = false) : d.order d = some .eq := by
  cases d with
  | number s m p => simp only [Datum.order]; rw [cmp_self]
  | infinity s => simp only [Datum.order]; cases s <;> rfl
  | nan s f => simp [Datum.isNaN] at h
theorem nan_opp {d : Datum} (h : d.isNaN = false) : d.opposite.isNaN = false := by cases d <;> simp_all [Datum.isNaN, Datum.opposite]
theorem read_nan {r : Nat} (h : r ≤ 9218868437227405312) : (double.read r).isNaN = false := by
  rcases read_of h with ⟨m, p, e, _, _⟩ | ⟨_, e⟩ <;> rw [e] <;> rfl
theorem read_nan2 {r f : Nat} (h : r ≤ 9218868437227405312) (hf : f = r ∨ f = r + 9223372036854775808) : (double.read f).isNaN = false := by
  rcases hf with rfl | rfl
  · exact read_nan h
  · rw [read_neg (by omega)]; exact nan_opp (read_nan h)
theorem ordf_self {r f : Nat} (h : r ≤ 9218868437227405312) (hf : f = r ∨ f = r + 9223372036854775808) : double.order f f = some .eq := ord_self (read_nan2 h hf)
theorem cmp_eq0 (a : Int) : (compare a 0 == Ordering.eq) = decide (a = 0) := by
  by_cases h : a = 0
  · subst h; rfl
  · have : ¬ compare a 0 = Ordering.eq := by rw [Int.compare_eq_eq]; exact h
    simp [this, h]
theorem ordf_zero {r f : Nat} (h : r ≤ 9218868437227405312) (hf : f = r ∨ f = r + 9223372036854775808) : (double.order f 0 == some .eq) = decide (r = 0) := by
  have e0 : double.read 0 = .number false 0 (-1074) := read_lo (by decide)
  rcases read_of h with ⟨m, p, e, hz, _⟩ | ⟨hr, e⟩
  · have key : ∀ s : Bool, ((Datum.number s m p).order (.number false 0 (-1074)) == some .eq) = decide (r = 0) := by
      intro s
      simp only [Datum.order]
      have e1 : signed false 0 ((-1074 : Int) - min p (-1074)).toNat = 0 := by simp [signed]
      rw [e1]
      have : ∀ a : Int, (some (compare a 0) == some Ordering.eq) = (compare a 0 == Ordering.eq) := fun a => rfl
      rw [this, cmp_eq0]
      congr 1
      rw [eq_iff_iff, ← hz]
      have h2 : ∀ k : Nat, m <<< k = 0 ↔ m = 0 := by intro k; rw [Nat.shiftLeft_eq, Nat.mul_eq_zero]; simp
      cases s <;> simp only [signed, Bool.false_eq_true, if_false, if_true, Int.neg_eq_zero, Int.natCast_eq_zero, h2]
    unfold Format.order
    rcases hf with rfl | rfl
    · rw [e, e0]; exact key false
    · rw [read_neg (by omega), e, e0]; exact key true
  · unfold Format.order
    subst hr
    rcases hf with rfl | rfl
    · rw [e, e0]; rfl
    · rw [read_neg (by omega), e, e0]; rfl
theorem some_cmp (a b : Int) (o : Ordering) : (some (compare a b) == some o) = (compare a b == o) := rfl
theorem cmp_gt (a b : Int) : (compare a b == Ordering.gt) = decide (b < a) := by
  by_cases h : b < a
  · have := Int.compare_eq_gt.mpr h; simp [this, h]
  · have : ¬ compare a b = Ordering.gt := by rw [Int.compare_eq_gt]; exact h
    simp [this, h]
theorem cmp_lt (a b : Int) : (compare a b == Ordering.lt) = decide (a < b) := by
  by_cases h : a < b
  · have := Int.compare_eq_lt.mpr h; simp [this, h]
  · have : ¬ compare a b = Ordering.lt := by rw [Int.compare_eq_lt]; exact h
    simp [this, h]
theorem sg_nlt {a b k j : Nat} (h : b ≤ a) (hj : j = 0) : ¬ signed false a k < signed false b j := by
  subst hj
  simp only [signed, Bool.false_eq_true, if_false, Int.ofNat_lt, Nat.shiftLeft_eq, Nat.pow_zero, Nat.mul_one, Nat.not_lt]
  exact Nat.le_trans (by omega) (Nat.mul_le_mul_left a (Nat.one_le_two_pow (n := k)))
theorem sg_lt {a b : Nat} : (signed false a 0 < signed false b 0) ↔ (a < b) := by
  simp [signed]
theorem ord_a {r : Nat} (h1 : r < 4503599627370496) : Datum.order (.number false r (-1074)) (.number false 4503599627370496 (-1074)) = some .lt := by
  simp only [Datum.order]
  rw [show ((-1074 : Int) - min (-1074) (-1074)).toNat = 0 by decide]
  rw [Int.compare_eq_lt.mpr (sg_lt.mpr h1)]
theorem ord_b {m : Nat} {p : Int} (h1 : 4503599627370496 ≤ m) (h2 : -1074 ≤ p) : Datum.order (.number false m p) (.number false 4503599627370496 (-1074)) ≠ some .lt := by
  simp only [Datum.order, Ne, Option.some.injEq]
  rw [Int.compare_eq_lt]
  exact sg_nlt h1 (by omega)
theorem ord_c {m : Nat} {p : Int} (h1 : m ≤ 9007199254740991) (h2 : p ≤ 971) : Datum.order (.number false m p) (.number false 9007199254740991 971) ≠ some .gt := by
  simp only [Datum.order, Ne, Option.some.injEq]
  rw [Int.compare_eq_gt]
  exact sg_nlt h1 (by omega)
theorem beq_t {a b : Option Ordering} (h : a = b) : (a == b) = true := by subst h; cases a with | none => rfl | some o => cases o <;> rfl
theorem beq_f {a b : Option Ordering} (h : a ≠ b) : (a == b) = false := by
  rcases a with _ | a <;> rcases b with _ | b
  · exact absurd rfl h
  · rfl
  · rfl
  · cases a <;> cases b <;> first | rfl | exact absurd rfl h
theorem ordf_least {r : Nat} (h : r ≤ 9218868437227405312) : (double.order r 4503599627370496 == some .lt) = decide (r < 4503599627370496) := by
  have e0 : double.read 4503599627370496 = .number false 4503599627370496 (-1074) := by decide
  unfold Format.order
  rw [e0]
  by_cases h1 : r < 4503599627370496
  · rw [read_lo h1, decide_eq_true h1]
    exact beq_t (ord_a h1)
  · rw [decide_eq_false h1]
    by_cases h2 : r < 9218868437227405312
    · rw [read_hi h1 h2]
      exact beq_f (ord_b (by omega) (by omega))
    · have : r = 9218868437227405312 := by omega
      rw [this, read_inf]
      exact beq_f (by intro h; cases h)
theorem ordf_max {r : Nat} (h : r ≤ 9218868437227405312) : (double.order r 9218868437227405311 == some .gt) = decide (r = 9218868437227405312) := by
  have e0 : double.read 9218868437227405311 = .number false 9007199254740991 971 := by decide
  unfold Format.order
  rw [e0]
  by_cases h3 : r = 9218868437227405312
  · rw [h3, read_inf, decide_eq_true rfl]
    exact beq_t rfl
  · rw [decide_eq_false h3]
    by_cases h1 : r < 4503599627370496
    · rw [read_lo h1]
      exact beq_f (ord_c (by omega) (by decide))
    · rw [read_hi h1 (by omega)]
      exact beq_f (ord_c (by omega) (by omega))
/-! ### the tens -/
def tensN : Nat → Nat
  | 0 => 4607182418800017408
  | k + 1 => (double.mul (tensN k) 4621819117588971520).getD 0
theorem tens_ok : ∀ k : Fin 23, 0 < tensN k.1 ∧ tensN k.1 < 9218868437227405312 ∧ double.mul (tensN k.1) 4621819117588971520 = some (tensN (k.1 + 1)) := by decide +kernel
end Tg.Nu
/-
  Layer 9 (jnum): the numbers of texts; the law JnumValues.
-/
set_option linter.unusedSimpArgs false
set_option linter.unusedVariables false
set_option maxRecDepth 100000
namespace Tg.Nu
theorem dig_val {b : UInt8} (h : isD b = true) : 48 ≤ b.toNat ∧ b.toNat ≤ 57 := by
  simp only [isD, Bool.and_eq_true, decide_eq_true_eq] at h
  omega
theorem dv_lt (l : List UInt8) : ∀ n, digs l → dv n l < (n + 1) * 10 ^ l.length := by
  induction l with
  | nil => intro n _; unfold dv; simp
  | cons b r ih =>
    intro n h
    have hb := dig_val (h b (by simp))
    have := ih (10 * n + (b.toNat - 48)) (fun x hx => h x (by simp [hx]))
    refine Nat.lt_of_lt_of_le this ?_
    rw [List.length_cons, Nat.pow_succ, Nat.mul_comm (10 ^ r.length) 10, ← Nat.mul_assoc]
    exact Nat.mul_le_mul_right _ (by omega)
theorem dv15 {l : List UInt8} (h : digs l) (h2 : l.length ≤ 15) : dv 0 l < 1000000000000000 := by
  have := dv_lt l 0 h
  have h3 : 10 ^ l.length ≤ 10 ^ 15 := Nat.pow_le_pow_right (by decide) h2
  omega
theorem digs_short {n : Num} (hn : n.Ok) : digs n.short := by
  intro b hb
  have h1 : b ∈ n.all := by
    unfold Num.short trail at hb
    have := (List.dropWhile_suffix nz).subset (List.mem_reverse.mp hb)
    exact List.mem_reverse.mp this
  have h2 : b ∈ n.ip ++ n.fp := by
    unfold Num.all lead at h1
    exact (List.dropWhile_suffix nz).subset h1
  rcases List.mem_append.mp h2 with h | h
  · exact hn.ip b h
  · have hf := hn.f
    unfold Num.fp at h
    unfold OkF at hf
    split at h
    · simp at h
    · rename_i f hf2
      rw [hf2] at hf
      exact hf b h
theorem short_len {n : Num} : n.short.length ≤ n.text.length := by
  have hlt := len_text (n := n)
  have hhl : n.head.length ≤ n.body.length := by unfold Num.body; simp
  have hil2 : n.ip.length + n.fp.length ≤ n.head.length := by
    unfold Num.head Num.fp
    cases n.f <;> simp [foT] <;> omega
  have hsl : n.short.length ≤ n.all.length := by
    unfold Num.short trail
    rw [List.length_reverse]
    exact Nat.le_trans (List.dropWhile_suffix _).length_le (by simp)
  have hal : n.all.length ≤ n.head.length := by
    unfold Num.all lead
    exact Nat.le_trans (List.dropWhile_suffix _).length_le (by simp; omega)
  omega
/-- the number of a text's parts, and the code -/
def fmag (d : List UInt8) (e : Int) : Nat :=
  if d = [] ∨ (d.length : Int) + e < -330 then 0
  else if (d.length : Int) + e > 310 then 9218868437227405312
  else if e < 0 then (Ieee.double.div (Ieee.double.nearest false (dv 0 d) 0) (tensN e.natAbs)).getD 0
  else (Ieee.double.mul (Ieee.double.nearest false (dv 0 d) 0) (tensN e.natAbs)).getD 0
def fbad (d : List UInt8) (e : Int) : Prop := d ≠ [] ∧ -330 ≤ (d.length : Int) + e ∧ (d.length : Int) + e ≤ 310 ∧ (15 < d.length ∨ e < -22 ∨ 22 < e)
instance (d e) : Decidable (fbad d e) := by unfold fbad; infer_instance
theorem tens_at {k : Nat} (h : k ≤ 22) : 0 < tensN k ∧ tensN k < 9218868437227405312 ∧ Ieee.double.mul (tensN k) 4621819117588971520 = some (tensN (k + 1)) := tens_ok ⟨k, by omega⟩
theorem fm_ok {d : List UInt8} {k : Nat} (h : k ≤ 22) : ∃ r, Ieee.double.mul (Ieee.double.nearest false (dv 0 d) 0) (tensN k) = some r ∧ r ≤ 9218868437227405312 := mul_ok (nr_le _ _) (tens_at h).1 (tens_at h).2.1
theorem fd_ok {d : List UInt8} {k : Nat} (h : k ≤ 22) : ∃ r, Ieee.double.div (Ieee.double.nearest false (dv 0 d) 0) (tensN k) = some r ∧ r ≤ 9218868437227405312 := div_ok (nr_le _ _) (tens_at h).1 (tens_at h).2.1
theorem fmag_le {d : List UInt8} {e : Int} (h : ¬ fbad d e) : fmag d e ≤ 9218868437227405312 := by
  unfold fmag
  split
  · decide
  · rename_i h1
    split
    · decide
    · rename_i h2
      have h3 : ¬ (15 < d.length ∨ e < -22 ∨ 22 < e) := fun hh => h ⟨fun hd => h1 (.inl hd), by omega, by omega, hh⟩
      split
      · obtain ⟨r, hr, hl⟩ := fd_ok (d := d) (k := e.natAbs) (by omega)
        rw [hr]; exact hl
      · obtain ⟨r, hr, hl⟩ := fm_ok (d := d) (k := e.natAbs) (by omega)
        rw [hr]; exact hl
def fval (neg : Bool) (d : List UInt8) (e : Int) : Nat := if neg then fmag d e + 9223372036854775808 else fmag d e
end Tg.Nu
namespace Go.Proofs.YteckofomnhminaaDoor
open Go.Lg Tg.Nu
section
variable {H : LH} {b : UInt8} {s : List UInt8}
theorem fmul_l {P : Program} {t x y r} (h : Ieee.double.mul x y = some r) : lbin P .mul t (.float .f64 x) (.float .f64 y) = some (.float .f64 r) := lbin_fmul h
theorem fdiv_l {P : Program} {t x y r} (h : Ieee.double.div x y = some r) : lbin P .quo t (.float .f64 x) (.float .f64 y) = some (.float .f64 r) := lbin_fdiv h
theorem nearest_nat {n : Nat} : FloatKind.f64.nearest (n : Int) = Ieee.double.nearest false n 0 := by
  show Ieee.double.nearest (decide ((n : Int) < 0)) (n : Int).natAbs 0 = _
  rw [decide_eq_false (by omega)]; rfl
theorem signed_n {f : Nat} (h : f ≤ 9218868437227405312) : LC Tryd.prog EJ 85 [.float .f64 f, .bool true] H = some (.float .f64 (f + 9223372036854775808), H) := by
  refine LC_pure rfl Tryd.func85 rfl (Nat.le_of_ble_eq_true rfl) (by decide) (by kernel_rfl) rfl ?_
  have := copysign_l (H := H) (f := f) (by omega)
  rw [show neg8 f = f + 9223372036854775808 by unfold neg8; omega] at this
  simp [this]
theorem signed_b {f : Nat} {neg : Bool} (h : f ≤ 9218868437227405312) : LC Tryd.prog EJ 85 [.float .f64 f, .bool neg] H = some (.float .f64 (if neg then f + 9223372036854775808 else f), H) := by
  cases neg with
  | true => exact signed_n h
  | false => exact signed_pos
theorem tens_l {k : Nat} (h : k ≤ 22) : LC Tryd.prog EJ 87 [.int .i64 k] H = some (.float .f64 (tensN k), H) := by
  refine LC_pure rfl Tryd.func87 rfl (Nat.le_of_ble_eq_true rfl) (by decide) (by kernel_rfl) rfl ?_
  have q0 := eq_false (show ¬ (k : Int) < 0 by omega)
  have q1 := eq_false (show ¬ (22 : Int) < (k : Int) by omega)
  simp [q0, q1]
  refine loop_ind (fun (i : Nat) fr' H' => i ≤ k ∧ fr' 3 = .float .f64 (tensN (k - i)) ∧ fr' 6 = .int .i64 k ∧ fr' 7 = .int .i64 ((k - i : Nat) : Int) ∧ H' = H) (fun i => i) k ⟨Nat.le_refl _, by simp [tensN], by simp, by simp, rfl⟩ ?_
  rintro i fr' H' ⟨hi, h3, h6, h7, rfl⟩ ih
  cases i with
  | zero =>
    rw [Nat.sub_zero] at h3 h7
    simp [h3, h6, h7]
  | succ i =>
    have hm := fmul_l (P := Tryd.prog) (t := 46) (tens_at (k := k - (i + 1)) (by omega)).2.2
    rw [show k - (i + 1) + 1 = k - i by omega] at hm
    generalize hj : k - (i + 1) = j at *
    have q := eq_true (show (j : Int) < (k : Int) by omega)
    have hw : IntKind.i64.wrap ((j : Int) + 1) = ((k - i : Nat) : Int) := by rw [wrapS (by omega) (by omega)]; omega
    simp [h3, h6, h7, q, hm, hw]
    exact ih i _ _ (by omega) ⟨by omega, by simp, by simp [h6], by simp, rfl⟩
theorem fkind_l {r f : Nat} (h : r ≤ 9218868437227405312) (hf : f = r ∨ f = r + 9223372036854775808) : LC Tryd.prog EJ 57 [.float .f64 f] H = some (.int .i64 (kind8 f), H) := by
  refine LC_pure rfl Tryd.func57 rfl (Nat.le_of_ble_eq_true rfl) (by decide) (by kernel_rfl) rfl ?_
  have ha := fun H : LH => abs_l (H := H) (f := f) (by omega)
  have hr : f % 9223372036854775808 = r := by omega
  have hff : FloatKind.f64.format = Ieee.double := rfl
  unfold kind8
  rw [hr] at ha ⊢
  have o1 := ordf_self h hf
  have o2 := ordf_zero h hf
  have o3 := ordf_least h
  have o4 := ordf_max h
  have hinf : LC Tryd.prog EJ 123 [.float .f64 f, .int .i64 0] H = some (.bool (decide (r = 9218868437227405312)), H) := by
    refine LC_pure rfl Tryd.func123 rfl (Nat.le_of_ble_eq_true rfl) (by decide) (by kernel_rfl) rfl ?_
    simp [ha, hff, o4]
  have hk : LC Tryd.prog EJ 89 [.float .f64 f] H = some (.int .i64 (if 9218868437227405312 < r then 0 else if r = 9218868437227405312 then 1 else if r = 0 then 2 else if r < 4503599627370496 then 3 else 4), H) := by
    refine LC_pure rfl Tryd.func89 rfl (Nat.le_of_ble_eq_true rfl) (by decide) (by kernel_rfl) rfl ?_
    rw [if_neg (by omega)]
    by_cases h1 : r = 9218868437227405312
    · rw [decide_eq_true h1] at hinf
      rw [if_pos h1]
      simp [hff, o1, hinf]
    · rw [decide_eq_false h1] at hinf
      rw [if_neg h1]
      by_cases h2 : r = 0
      · rw [decide_eq_true h2] at o2
        rw [if_pos h2]
        simp [hff, o1, o2, hinf]
      · rw [decide_eq_false h2] at o2
        rw [if_neg h2]
        by_cases h3 : r < 4503599627370496
        · rw [decide_eq_true h3] at o3
          rw [if_pos h3]
          simp [hff, o1, o2, o3, hinf, ha]
        · rw [decide_eq_false h3] at o3
          rw [if_neg h3]
          simp [hff, o1, o2, o3, hinf, ha]
  simp [hk]
theorem value_bad (h : acc 0 s = false) (hs : s.length ≤ 1048576) : LC Tryd.prog EJ 54 [str s] H = some (.tuple #[.float .f64 0, .int .i64 2], H) := by
  refine LC_pure rfl Tryd.func54 rfl (Nat.le_of_ble_eq_true rfl) (by decide) (by kernel_rfl) rfl ?_
  simp [parts_bad h hs]
theorem value_ok {n : Num} (hn : n.Ok) (h : acc 0 n.text = true) (hs : n.text.length ≤ 1048576) : LC Tryd.prog EJ 54 [str n.text] H = some (.tuple #[.float .f64 (if fbad n.short n.exp then 0 else fval n.neg n.short n.exp), .int .i64 (if fbad n.short n.exp then 9 else 0)], H) := by
  refine LC_pure rfl Tryd.func54 rfl (Nat.le_of_ble_eq_true rfl) (by decide) (by kernel_rfl) rfl ?_
  have hp := fun H : LH => parts_ok (H := H) hn h hs
  have hd := digs_short hn
  have hl := short_len (n := n)
  have he : -9999 ≤ n.exp ∧ n.exp ≤ 9999 := by
    unfold Num.exp clamp
    split
    · decide
    · split
      · decide
      · split <;> omega
  have hv : fval n.neg n.short n.exp = if n.neg then fmag n.short n.exp + 9223372036854775808 else fmag n.short n.exp := rfl
  have hmag := fmag_le (d := n.short) (e := n.exp)
  have hsg := fun (H : LH) (f : Nat) hf => signed_b (H := H) (f := f) (neg := n.neg) hf
  generalize n.short = d at *
  generalize n.exp = e at *
  generalize n.neg = g at *
  have hsum : IntKind.i64.wrap ((d.length : Int) + e) = (d.length : Int) + e := wrapS (by omega) (by omega)
  by_cases hd0 : d = []
  · subst hd0
    have hm : fmag [] e = 0 := by simp [fmag]
    have hb : ¬ fbad [] e := by simp [fbad]
    rw [hm] at hv
    rw [if_neg hb, if_neg hb, hv]
    have := fun H => hsg H 0 (by decide)
    simp [hp, this]
  · have q0 := eq_false hd0
    by_cases h1 : (d.length : Int) + e < -330
    · have hm : fmag d e = 0 := by simp [fmag, h1]
      have hb : ¬ fbad d e := by unfold fbad; omega
      rw [hm] at hv
      rw [if_neg hb, if_neg hb, hv]
      have := fun H => hsg H 0 (by decide)
      have q1 := eq_true h1
      simp [hp, hsum, q0, q1, this]
    · have q1 := eq_false h1
      by_cases h2 : 310 < (d.length : Int) + e
      · have hm : fmag d e = 9218868437227405312 := by simp [fmag, h1, h2, hd0]
        have hb : ¬ fbad d e := by unfold fbad; omega
        rw [hm] at hv
        rw [if_neg hb, if_neg hb, hv]
        have := fun H => hsg H 9218868437227405312 (by decide)
        have q2 := eq_true h2
        simp [hp, hsum, q0, q1, q2, inf_l, this]
      · have q2 := eq_false h2
        by_cases h3 : 15 < d.length ∨ e < -22 ∨ 22 < e
        · have hb : fbad d e := ⟨hd0, by omega, by omega, h3⟩
          rw [if_pos hb, if_pos hb]
          rcases Classical.em (15 < d.length) with c1 | c1
          · have q3 := eq_true (show (15 : Int) < (d.length : Int) by omega)
            simp [hp, hsum, q0, q1, q2, q3]
          · have q3 := eq_false (show ¬ (15 : Int) < (d.length : Int) by omega)
            rcases Classical.em (e < -22) with c2 | c2
            · have q4 := eq_true c2
              simp [hp, hsum, q0, q1, q2, q3, q4]
            · have q4 := eq_false c2
              have q5 := eq_true (show 22 < e by omega)
              simp [hp, hsum, q0, q1, q2, q3, q4, q5]
        · have hb : ¬ fbad d e := fun hb => h3 hb.2.2.2
          have hmag := hmag hb
          rw [if_neg hb, if_neg hb, hv]
          have q3 := eq_false (show ¬ (15 : Int) < (d.length : Int) by omega)
          have q4 := eq_false (show ¬ e < -22 by omega)
          have q5 := eq_false (show ¬ 22 < e by omega)
          have hpre := fun H : LH => prefix_l (H := H) hd (by omega)
          have hdc : dC d = dv 0 d := by unfold dC; have := dv15 hd (by omega); rw [if_pos (by omega)]
          rw [hdc] at hpre
          have hsg := fun H => hsg H (fmag d e) hmag
          have hnn := nearest_nat (n := dv 0 d)
          by_cases h6 : e < 0
          · have q6 := eq_true h6
            have hneg : IntKind.i64.wrap (-e) = ((e.natAbs : Nat) : Int) := by rw [wrapS (by omega) (by omega)]; omega
            have ht := fun H : LH => tens_l (H := H) (k := e.natAbs) (by omega)
            obtain ⟨r, hr, hl⟩ := fd_ok (d := d) (k := e.natAbs) (by omega)
            have hm : fmag d e = r := by simp [fmag, h1, h2, hd0, h6, hr]
            rw [hm] at hsg ⊢
            have hq := fdiv_l (P := Tryd.prog) (t := 46) hr
            simp [hp, hsum, q0, q1, q2, q3, q4, q5, q6, hpre, hnn, hneg, ht, hq, hsg]
          · have q6 := eq_false h6
            have hneg : e = ((e.natAbs : Nat) : Int) := by omega
            have ht := fun H : LH => tens_l (H := H) (k := e.natAbs) (by omega)
            rw [← hneg] at ht
            obtain ⟨r, hr, hl⟩ := fm_ok (d := d) (k := e.natAbs) (by omega)
            have hm : fmag d e = r := by simp [fmag, h1, h2, hd0, h6, hr]
            rw [hm] at hsg ⊢
            have hq := fmul_l (P := Tryd.prog) (t := 46) hr
            simp [hp, hsum, q0, q1, q2, q3, q4, q5, q6, hpre, hnn, ht, hq, hsg]
end
end Go.Proofs.YteckofomnhminaaDoor
/-
  Layer 9 (jnum): the reference's number; the law JnumValues.
-/
set_option linter.unusedSimpArgs false
set_option linter.unusedVariables false
set_option maxRecDepth 100000
namespace Go.Proofs.YteckofomnhminaaDoor
open Go.Lg Tg.Nu
section
variable {H : LH} {b : UInt8} {s : List UInt8}
abbrev vH (H : LH) (neg : Bool) (d : List UInt8) (e : Int) : LH := H.new (nb neg d e)
theorem vH_le {neg : Bool} {d : List UInt8} {e : Int} : H.le (vH H neg d e) := le_refl.new
theorem valueR_bad (h : acc 0 s = false) (hs : s.length ≤ 1048576) : LC Tryd.prog EJ 28 [str s] H = some (.tuple #[.float .f64 0, .int .i64 2], H) := by
  refine LC_pure rfl Tryd.func28 rfl (Nat.le_of_ble_eq_true rfl) (by decide) (by kernel_rfl) rfl ?_
  have his := fun H : LH => is_l (H := H) (s := s) (by omega)
  simp only [is_eq, h] at his
  simp [his]
theorem valueR_ok {n : Num} (hn : n.Ok) (h : acc 0 n.text = true) (hs : n.text.length ≤ 1048576) : LC Tryd.prog EJ 28 [str n.text] H = some (.tuple #[.float .f64 (if fbad n.short n.exp then 0 else fval n.neg n.short n.exp), .int .i64 (if fbad n.short n.exp then 9 else 0)], H) := by
  refine LC_pure rfl Tryd.func28 rfl (Nat.le_of_ble_eq_true rfl) (by decide) (by kernel_rfl) rfl ?_
  have hp := fun H : LH => partsR_l (H := H) hn hs
  have his := fun H : LH => is_l (H := H) (s := n.text) (by omega)
  simp only [is_eq, h] at his
  have hd := digs_short hn
  have hl := short_len (n := n)
  have he : -9999 ≤ n.exp ∧ n.exp ≤ 9999 := by
    unfold Num.exp clamp
    split
    · decide
    · split
      · decide
      · split <;> omega
  have hv : fval n.neg n.short n.exp = if n.neg then fmag n.short n.exp + 9223372036854775808 else fmag n.short n.exp := rfl
  have hmag := fmag_le (d := n.short) (e := n.exp)
  generalize n.short = d at *
  generalize n.exp = e at *
  generalize n.neg = g at *
  generalize n.text = s at *
  have hsum : IntKind.i64.wrap ((d.length : Int) + e) = (d.length : Int) + e := wrapS (by omega) (by omega)
  refine runs_cut 6 (fun fr' H' => ¬ fbad d e ∧ fr' 4 = ptr H.n 0 ∧ fr' 6 = .float .f64 (fmag d e) ∧ fr' 7 = .int .i64 0 ∧ H' = vH H g d e) ?_ (fun K6 hK6 => ?_) rfl
  · rintro fr' H' ⟨hb, h4, h6, h7, rfl⟩
    have hmag := hmag hb
    rw [if_neg hb, if_neg hb, hv]
    generalize fmag d e = r at *
    have hb8 := fun H : LH => bits8_l (H := H) (f := r)
    rw [show bits8 r = r by unfold bits8; rw [if_neg (by omega)]] at hb8
    cases g with
    | false => simp [h4, h6, h7, vH_le]
    | true =>
      have hw : IntKind.u64.wrap ((r : Int) + 9223372036854775808) = ((r + 9223372036854775808 : Nat) : Int) := by
        rw [IntKind.wrap_u64]; omega
      have hof := fun H : LH => of8_l (H := H) (n := ((r + 9223372036854775808 : Nat) : Int))
      rw [Int.toNat_natCast] at hof
      generalize r + 9223372036854775808 = r2 at *
      simp [h4, h6, h7, hb8, hw, hof, vH_le]
  have hof := fun H : LH => of8_l (H := H) (n := 9218868437227405312)
  rw [show (9218868437227405312 : Int).toNat = 9218868437227405312 from rfl] at hof
  by_cases hd0 : d = []
  · subst hd0
    have hm : fmag [] e = 0 := by simp [fmag]
    have hb : ¬ fbad [] e := by simp [fbad]
    simp [his, hp]
    exact hK6 _ _ ⟨hb, by simp, by simp [hm], by simp, rfl⟩
  · have q0 := eq_true (List.length_pos_iff.mpr hd0)
    by_cases h2 : 310 < (d.length : Int) + e
    · have hm : fmag d e = 9218868437227405312 := by
        unfold fmag; rw [if_neg (by simp [hd0]; omega), if_pos h2]
      have hb : ¬ fbad d e := by unfold fbad; omega
      have q2 := eq_true h2
      simp [his, hp, hsum, q0, q2, hof]
      exact hK6 _ _ ⟨hb, by simp, by simp [hm], by simp, rfl⟩
    · have q2 := eq_false h2
      by_cases h1 : (d.length : Int) + e < -330
      · have hm : fmag d e = 0 := by simp [fmag, h1]
        have hb : ¬ fbad d e := by unfold fbad; omega
        have q1 := eq_false (show ¬ -330 ≤ (d.length : Int) + e by omega)
        simp [his, hp, hsum, q0, q1, q2]
        exact hK6 _ _ ⟨hb, by simp, by simp [hm], by simp, rfl⟩
      · have q1 := eq_true (show -330 ≤ (d.length : Int) + e by omega)
        by_cases h3 : 15 < d.length ∨ e < -22 ∨ 22 < e
        · have hb : fbad d e := ⟨hd0, by omega, by omega, h3⟩
          rw [if_pos hb, if_pos hb]
          rcases Classical.em (15 < d.length) with c1 | c1
          · have q3 := eq_true (show (15 : Int) < (d.length : Int) by omega)
            simp [his, hp, hsum, q0, q1, q2, q3, vH_le]
          · have q3 := eq_false (show ¬ (15 : Int) < (d.length : Int) by omega)
            rcases Classical.em (e < -22) with c2 | c2
            · have q4 := eq_true c2
              simp [his, hp, hsum, q0, q1, q2, q3, q4, vH_le]
            · have q4 := eq_false c2
              have q5 := eq_true (show 22 < e by omega)
              simp [his, hp, hsum, q0, q1, q2, q3, q4, q5, vH_le]
        · have hb : ¬ fbad d e := fun hb => h3 hb.2.2.2
          have q3 := eq_false (show ¬ (15 : Int) < (d.length : Int) by omega)
          have q4 := eq_false (show ¬ e < -22 by omega)
          have q5 := eq_false (show ¬ 22 < e by omega)
          have h15 := dv15 hd (by omega)
          have hnn := nearest_nat (n := dv 0 d)
          have hK6 := fun fr' H' h => hK6 fr' H' ⟨hb, h⟩
          simp [his, hp, hsum, q0, q1, q2, q3, q4, q5]
          refine loop_ind (fun (i : Nat) fr2 H2 => fr2 4 = ptr H.n 0 ∧ fr2 5 = .int .i64 d.length ∧ fr2 7 = .int .i64 0 ∧ fr2 8 = .int .i64 (dv 0 (d.take i) : Nat) ∧ fr2 9 = .float .f64 (tensN 0) ∧ fr2 10 = .int .i64 (i : Nat) ∧ i ≤ d.length ∧ H2 = vH H g d e) (fun i => d.length - i) 0 ⟨by simp, by simp, by simp, by simp [dv], by simp [tensN], by simp, Nat.zero_le _, rfl⟩ ?_
          rintro i fr2 H2 ⟨f4, f5, f7, f8, f9, f10, hi, rfl⟩ ih
          by_cases hlt : i < d.length
          · have q := eq_true (show (i : Int) < (d.length : Int) by omega)
            have hb := dig_val (hd d[i] (List.getElem_mem hlt))
            have hat : at_ d (i : Int) = d[i] := by
              unfold at_; rw [Int.toNat_natCast, List.getD_eq_getElem?_getD, List.getElem?_eq_getElem hlt]; rfl
            have hlow := dv_mono d i
            have hnew := dv_take d hlt
            have hlow2 := dv_mono d (i + 1)
            have hw1 : IntKind.i64.wrap (10 * (dv 0 (d.take i) : Int)) = 10 * (dv 0 (d.take i) : Int) := wrapS (by omega) (by omega)
            have hw2 : IntKind.u8.wrap ((d[i].toNat : Int) - 48) = ((d[i].toNat - 48 : Nat) : Int) := by rw [IntKind.wrap_u8]; omega
            have hw3 : IntKind.i64.wrap ((d[i].toNat - 48 : Nat) : Int) = ((d[i].toNat - 48 : Nat) : Int) := wrapS (by omega) (by omega)
            have hw4 : IntKind.i64.wrap (10 * (dv 0 (d.take i) : Int) + ((d[i].toNat - 48 : Nat) : Int)) = (dv 0 (d.take (i + 1)) : Nat) := by rw [hnew, wrapS (by omega) (by omega)]; omega
            have hw5 : IntKind.i64.wrap ((i : Int) + 1) = ((i + 1 : Nat) : Int) := by rw [wrapS (by omega) (by omega)]; omega
            generalize d[i].toNat - 48 = dg at *
            generalize hv2 : dv 0 (d.take (i + 1)) = v2 at *
            generalize hi1 : i + 1 = i1 at *
            simp [f4, f5, f7, f8, f9, f10, q, hat, hw1, hw2, hw3, hw4, hw5]
            exact ih i1 _ _ (by omega) ⟨by simp [f4], by simp [f5], by simp [f7], by simp [hv2], by simp [f9], by simp, by omega, rfl⟩
          · have q := eq_false (show ¬ (i : Int) < (d.length : Int) by omega)
            have e1 : d.take i = d := List.take_of_length_le (by omega)
            rw [e1] at f8
            clear ih
            simp [f4, f5, f7, f8, f9, f10, q]
            refine loop_ind (fun (i : Nat) fr3 H3 => fr3 4 = ptr H.n 0 ∧ fr3 7 = .int .i64 0 ∧ fr3 8 = .int .i64 (dv 0 d : Nat) ∧ fr3 9 = .float .f64 (tensN i) ∧ fr3 11 = .int .i64 (i : Nat) ∧ i ≤ e.natAbs ∧ H3 = vH H g d e) (fun i => e.natAbs - i) 0 ⟨by simp [f4], by simp [f7], by simp [f8], by simp [f9], by simp, Nat.zero_le _, rfl⟩ ?_
            rintro i fr3 H3 ⟨g4, g7, g8, g9, g11, hi, rfl⟩ ih
            have hneg : IntKind.i64.wrap (-e) = -e := wrapS (by omega) (by omega)
            by_cases hlt : i < e.natAbs
            · have hm := fmul_l (P := Tryd.prog) (t := 46) (tens_at (k := i) (by omega)).2.2
              have hw5 : IntKind.i64.wrap ((i : Int) + 1) = ((i + 1 : Nat) : Int) := by rw [wrapS (by omega) (by omega)]; omega
              generalize hi1 : i + 1 = i1 at *
              by_cases h6 : (i : Int) < e
              · have q6 := eq_true h6
                simp [g4, g7, g8, g9, g11, q6, hm, hw5]
                exact ih i1 _ _ (by omega) ⟨by simp [g4], by simp [g7], by simp [g8], by simp, by simp, by omega, rfl⟩
              · have q6 := eq_false h6
                have q7 := eq_true (show (i : Int) < -e by omega)
                simp [g4, g7, g8, g9, g11, q6, q7, hneg, hm, hw5]
                exact ih i1 _ _ (by omega) ⟨by simp [g4], by simp [g7], by simp [g8], by simp, by simp, by omega, rfl⟩
            · have hie : i = e.natAbs := by omega
              have q6 := eq_false (show ¬ (i : Int) < e by omega)
              have q7 := eq_false (show ¬ (i : Int) < -e by omega)
              obtain ⟨r, hr, hl⟩ := fm_ok (d := d) (k := i) (by omega)
              have hq := fmul_l (P := Tryd.prog) (t := 46) hr
              by_cases h6 : e < 0
              · have q8 := eq_true h6
                obtain ⟨r2, hr2, hl2⟩ := fd_ok (d := d) (k := i) (by omega)
                have hq2 := fdiv_l (P := Tryd.prog) (t := 46) hr2
                have hm : fmag d e = r2 := by rw [hie] at hr2; simp [fmag, h1, h2, hd0, h6, hr2]
                simp [g4, g7, g8, g9, g11, q6, q7, hneg, hnn, hq, hq2, q8]
                exact hK6 _ _ ⟨by simp [g4], by simp [hm], by simp [g7], rfl⟩
              · have q8 := eq_false h6
                have hm : fmag d e = r := by rw [hie] at hr; simp [fmag, h1, h2, hd0, h6, hr]
                simp [g4, g7, g8, g9, g11, q6, q7, hneg, hnn, hq, q8]
                exact hK6 _ _ ⟨by simp [g4], by simp [hm], by simp [g7], rfl⟩
theorem Value_ok {n : Num} (hn : n.Ok) (h : acc 0 n.text = true) (hs : n.text.length ≤ 1048576) : LC Tryd.prog EJ 27 [str n.text] H = some (.tuple #[.float .f64 (if fbad n.short n.exp then 0 else fval n.neg n.short n.exp), .int .i64 (if fbad n.short n.exp then 9 else 0)], H) := by
  refine LC_pure rfl Tryd.func27 rfl (Nat.le_of_ble_eq_true rfl) (by decide) (by kernel_rfl) rfl ?_
  simp [value_ok hn h hs]
theorem Value_bad (h : acc 0 s = false) (hs : s.length ≤ 1048576) : LC Tryd.prog EJ 27 [str s] H = some (.tuple #[.float .f64 0, .int .i64 2], H) := by
  refine LC_pure rfl Tryd.func27 rfl (Nat.le_of_ble_eq_true rfl) (by decide) (by kernel_rfl) rfl ?_
  simp [value_bad h hs]
theorem Edge_bad (h : acc 0 s = false) (hs : s.length ≤ 1048576) : LC Tryd.prog EJ 30 [str s] H = some (.int .i64 (-1), H) := by
  refine LC_pure rfl Tryd.func30 rfl (Nat.le_of_ble_eq_true rfl) (by decide) (by kernel_rfl) rfl ?_
  simp [value_bad h hs]
theorem Edge_ok {n : Num} (hn : n.Ok) (h : acc 0 n.text = true) (hs : n.text.length ≤ 1048576) : LC Tryd.prog EJ 30 [str n.text] H = some (.int .i64 (if fbad n.short n.exp then -1 else kind8 (fval n.neg n.short n.exp)), H) := by
  refine LC_pure rfl Tryd.func30 rfl (Nat.le_of_ble_eq_true rfl) (by decide) (by kernel_rfl) rfl ?_
  have hv := fun H : LH => value_ok (H := H) hn h hs
  by_cases hb : fbad n.short n.exp
  · rw [if_pos hb]
    simp only [if_pos hb] at hv
    simp [hv]
  · rw [if_neg hb]
    simp only [if_neg hb] at hv
    have hk := fun H : LH => fkind_l (H := H) (f := fval n.neg n.short n.exp) (fmag_le hb) (by unfold fval; split <;> omega)
    simp [hv, hk]
theorem valuesLaw_l : LC Tryd.prog EJ 7 [str s] H = some (.bool true, H) := by
  refine LC_pure rfl Tryd.func7 rfl (Nat.le_of_ble_eq_true rfl) (by decide) (by kernel_rfl) rfl ?_
  have hcut := cutN_l (H := H) (s := s) (k := 60) (by decide)
  rw [show (60 : Int).toNat = 60 from rfl] at hcut
  have hl : (s.take 60).length ≤ 60 := by simp; omega
  generalize s.take 60 = t at *
  have hlv := fun H : LH => lives_l (H := H)
  have hb8 := fun (H : LH) f => bits8_l (H := H) (f := f)
  have hk8 := fun (H : LH) f => kind8_l (H := H) (f := f)
  cases ha : acc 0 t with
  | false =>
    have h1 := fun H : LH => Value_bad (H := H) ha (by omega)
    have h2 := fun H : LH => valueR_bad (H := H) ha (by omega)
    have h3 := fun H : LH => Edge_bad (H := H) ha (by omega)
    simp [hcut, h1, h2, h3, hlv, hb8, hk8]
  | true =>
    obtain ⟨n, rfl, hn⟩ := text_of ha
    have h1 := fun H : LH => Value_ok (H := H) hn ha (by omega)
    have h2 := fun H : LH => valueR_ok (H := H) hn ha (by omega)
    have h3 := fun H : LH => Edge_ok (H := H) hn ha (by omega)
    by_cases hb : fbad n.short n.exp
    · simp only [if_pos hb] at h1 h2 h3
      simp [hcut, h1, h2, h3, hlv, hb8, hk8]
    · simp only [if_neg hb] at h1 h2 h3
      simp [hcut, h1, h2, h3, hlv, hb8, hk8]
end
end Go.Proofs.YteckofomnhminaaDoor
