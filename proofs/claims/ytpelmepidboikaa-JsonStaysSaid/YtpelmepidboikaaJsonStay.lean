/-
  The plain law of layer 27: what is bad, or too deep, stays so.
-/
import Derived.Test.YtpelmepidboikaaJsonPlain
set_option linter.unusedSimpArgs false
set_option linter.unusedVariables false
namespace Tg.Json

theorem whole_shape (l : List UInt8) (d : Nat) : (((whole l d).1 = 1 ∨ (whole l d).1 = 2) ∧ (whole l d).2 = -1) ∨
    (((whole l d).1 = 0 ∨ (whole l d).1 = 3) ∧ 0 ≤ (whole l d).2 ∧ (whole l d).2 < l.length) := by
  have h := value_goes d d [] (by simp) (M.start d) l rfl rfl rfl (.inl rfl)
  unfold whole
  rcases h with ⟨h4, hn, _⟩ | ⟨h1, _⟩ | ⟨h0, _, _, hl⟩
  · simp only [h4]
    rw [if_neg (by decide), if_neg (by decide)]
    split
    · exact .inr ⟨.inl rfl, by omega, by simp only; omega⟩
    · exact .inl ⟨.inr rfl, rfl⟩
  · simp only [h1]; exact .inl ⟨.inl rfl, rfl⟩
  · have h1 : ¬ (value d l).2 = 1 := by omega
    have h4 : (value d l).2 ≠ 4 := by omega
    simp only
    rw [if_neg h1, if_pos h4]
    exact .inr ⟨h0, by simp only; omega, by simp only; omega⟩

theorem stays (l k : List UInt8) (d : Nat) :
    ((whole l d).1 = 0 ∨ (whole l d).1 = 3 → (whole (l ++ k) d).1 = (whole l d).1 ∧ (whole (l ++ k) d).2 = (whole l d).2 ∧ 0 ≤ (whole l d).2 ∧ (whole l d).2 < l.length) ∧
    (¬ ((whole l d).1 = 0 ∨ (whole l d).1 = 3) → (whole l d).2 = -1 ∧ ((whole (l ++ k) d).2 = -1 ∨ (l.length : Int) ≤ (whole (l ++ k) d).2)) := by
  have hs := whole_shape l d
  have h1 : ((M.start d).feed l).tell = (whole l d).1 := congrArg Prod.fst (whole_eq l d)
  have h2 : ((M.start d).feed l).place = (whole l d).2 := congrArg Prod.snd (whole_eq l d)
  have h3 : ((M.start d).feed (l ++ k)).tell = (whole (l ++ k) d).1 := congrArg Prod.fst (whole_eq (l ++ k) d)
  have h4 : ((M.start d).feed (l ++ k)).place = (whole (l ++ k) d).2 := congrArg Prod.snd (whole_eq (l ++ k) d)
  have hp := place_feed l (M.start d) rfl
  have hn := seen_feed l (M.start d)
  rw [feed_append] at h3 h4
  have ht : ∀ m : M, (m.state = 1 ∧ (m.tell = 1 ∨ m.tell = 2)) ∨ (m.state ≠ 1 ∧ m.tell = m.state) := by
    intro m; unfold M.tell
    by_cases h : m.state = 1
    · left; refine ⟨h, ?_⟩; split
      · exact .inr rfl
      · exact .inl h
    · right; exact ⟨h, by rw [if_neg (fun x => h x.1)]⟩
  generalize (M.start d).feed l = m at *
  generalize whole l d = x at *
  generalize whole (l ++ k) d = y at *
  have hn' : m.seen = l.length := by rw [hn]; simp [M.start]
  refine ⟨fun h => ?_, fun h => ?_⟩
  · have hst : m.state ≠ 1 := by rcases ht m with ⟨_, h' | h'⟩ | ⟨h', _⟩ <;> omega
    obtain ⟨k1, k2⟩ := feed_stuck k m hst
    have ht2 := ht (m.feed k)
    have ht1 := ht m
    refine ⟨?_, ?_, ?_, ?_⟩
    · omega
    · rw [← h4, k2, h2]
    · omega
    · omega
  · have hx : x.2 = -1 := by rcases hs with h' | h'; exact h'.2; exact absurd h'.1 h
    refine ⟨hx, ?_⟩
    have hst : m.state = 1 := by
      rcases hp with ⟨h', _⟩ | ⟨_, h', _⟩
      · exact h'
      · simp [M.start] at h'; omega
    rcases place_feed k m hst with ⟨_, h'⟩ | ⟨_, h', _⟩
    · left; rw [← h4, h', h2, hx]
    · right; rw [← h4]; omega
end Tg.Json
