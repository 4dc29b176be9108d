/-
  The laws of layer 28 (jscript): what they come to.
-/
import Derived.Test.YtgnefbngkhjfcaaDoorJsFeed
set_option linter.unusedSimpArgs false
set_option linter.unusedVariables false
set_option maxRecDepth 100000
namespace Go.Proofs.YtgnefbngkhjfcaaDoor
open Go.Lg Tg.Js

section
variable {N p : Nat} {H H' H1 : LH} {m m' m1 : M} {v v' : Value} {b : UInt8} {s t : List UInt8}
theorem cut_l {k : Int} (h0 : 0 ≤ k) : LC Tryd.prog EJ 10 [str s, .int .i64 k] H = some (str (s.take k.toNat), H) := by
  refine LC_pure rfl Tryd.func10 rfl (Nat.le_of_ble_eq_true rfl) (by decide) (by kernel_rfl) (by simp) ?_
  by_cases hc : k < s.length
  · have f := eq_true hc
    have f2 := eq_true (show k ≤ s.length by omega)
    have f3 := eq_true h0
    simp [f, f2, f3]
  · have f := eq_false hc
    have e : s.take k.toNat = s := List.take_of_length_le (by omega)
    simp [f, e]
theorem New_l {d : Int} (h0 : 0 ≤ d) (h1 : d ≤ 200) : LC Tryd.prog EJ 36 [.int .i64 d] H = some (.tuple #[ptr H.n 0, .int .i64 0], H.new (mb (new d) (.slice none 0 0))) := by
  obtain ⟨r, h, e⟩ := new_l (H := H) h0 h1
  rw [h, e]
theorem whole_l {d : Int} (hd : ∀ l, H.n ≤ l → H.get l = none) (ht : Tab H) (hs : s.length ≤ 1048576) : LC Tryd.prog EJ 11 [str s, .int .i64 d] H = some (.tuple #[.int .i64 ((new (clamp d)).feed s).tell, .int .i64 ((new (clamp d)).feed s).place, .int .i64 ((new (clamp d)).feed s).ends], H) := by
  have hc : 0 ≤ clamp d ∧ clamp d ≤ 200 := by unfold clamp; repeat' split
                                              all_goals omega
  have ha := at_new (H := H) hc.1 hc.2 hd
  obtain ⟨H2, e2, p2⟩ := feed_ex ha (show Tab _ from ⟨ht.1, ht.2⟩) hs
  obtain ⟨⟨v2, a2⟩, hn2, ho2, _⟩ := id p2
  have hg := a2.get
  have hp := a2.lt
  have e3 := tell_ro a2
  refine LC_pure rfl Tryd.func11 rfl (Nat.le_of_ble_eq_true rfl) (by decide) (by kernel_rfl) (by simp [flatB, flat1B, atomB]) ?_
  have hcl : (if 200 < (if d < 0 then (0 : Int) else d) then (200 : Int) else if d < 0 then 0 else d) = clamp d := by unfold clamp; rfl
  simp (config := { maxSteps := 4000000 }) [hcl, New_l hc.1 hc.2, e2, hg, hp, e3]
  have hle : H.le H2 := ⟨by have : H.n + 1 ≤ H2.n := hn2; omega, fun l hl => by rw [ho2 l hl, get_new_ne (by omega)]⟩
  exact hle
theorem clamp_in {d : Int} (h0 : 0 ≤ d) (h1 : d ≤ 200) : clamp d = d := by
  unfold clamp
  rw [if_neg (show ¬ d < 0 by omega), if_neg (by omega)]
theorem lit1 : w "var x = 1;" = [118, 97, 114, 32, 120, 32, 61, 32, 49, 59] := by decide +kernel
theorem lit2 : w "Hello world" = [72, 101, 108, 108, 111, 32, 119, 111, 114, 108, 100] := by decide +kernel
theorem lives_l (hd : ∀ l, H.n ≤ l → H.get l = none) (ht : Tab H) : LC Tryd.prog EJ 12 [] H = some (.bool true, H) := by
  refine LC_pure rfl Tryd.func12 rfl (Nat.le_of_ble_eq_true rfl) (by decide) (by kernel_rfl) rfl ?_
  have h1 := whole_l (s := w "var x = 1;") (d := 5) hd ht (by rw [lit1]; decide)
  have h2 := whole_l (s := w "Hello world") (d := 5) hd ht (by rw [lit2]; decide)
  have hc : clamp 5 = 5 := by decide
  rw [hc, lives1.1, lives1.2, lit1] at h1
  rw [hc, lives2.1, lives2.2, lit2] at h2
  simp [h1, h2]
theorem none_l (hd : ∀ l, H.n ≤ l → H.get l = none) (ht : Tab H) : LC Tryd.prog EJ 5 [str s] H = some (.bool true, H) := by
  refine LC_pure rfl Tryd.func5 rfl (Nat.le_of_ble_eq_true rfl) (by decide) (by kernel_rfl) rfl ?_
  have h0 : LC Tryd.prog EJ 15 [.pointer none, str s] H = some (.int .i64 0, H) := by
    refine LC_pure rfl Tryd.func15 rfl (Nat.le_of_ble_eq_true rfl) (by decide) (by kernel_rfl) rfl ?_
    simp
  have h1 : LC Tryd.prog EJ 16 [.pointer none] H = some (.int .i64 0, H) := by
    refine LC_pure rfl Tryd.func16 rfl (Nat.le_of_ble_eq_true rfl) (by decide) (by kernel_rfl) rfl ?_
    simp
  have h2 : LC Tryd.prog EJ 17 [.pointer none] H = some (.int .i64 (-1), H) := by
    refine LC_pure rfl Tryd.func17 rfl (Nat.le_of_ble_eq_true rfl) (by decide) (by kernel_rfl) rfl ?_
    simp
  have h3 : LC Tryd.prog EJ 18 [.pointer none] H = some (.int .i64 0, H) := by
    refine LC_pure rfl Tryd.func18 rfl (Nat.le_of_ble_eq_true rfl) (by decide) (by kernel_rfl) rfl ?_
    simp
  have h4 : LC Tryd.prog EJ 19 [.pointer none] H = some (.int .i64 0, H) := by
    refine LC_pure rfl Tryd.func19 rfl (Nat.le_of_ble_eq_true rfl) (by decide) (by kernel_rfl) rfl ?_
    simp
  have h5 : LC Tryd.prog EJ 20 [.pointer none] H = some (.int .i64 0, H) := by
    refine LC_pure rfl Tryd.func20 rfl (Nat.le_of_ble_eq_true rfl) (by decide) (by kernel_rfl) rfl ?_
    simp
  have h6 : LC Tryd.prog EJ 21 [.pointer none] H = some (.int .i64 0, H) := by
    refine LC_pure rfl Tryd.func21 rfl (Nat.le_of_ble_eq_true rfl) (by decide) (by kernel_rfl) rfl ?_
    simp
  have h7 := lives_l hd ht
  simp [h0, h1, h2, h3, h4, h5, h6, h7]
theorem Keyword_l (ht : Tab H) : LC Tryd.prog EJ 13 [str s] H = some (.bool (isKeyword s), H) := by
  refine LC_pure rfl Tryd.func13 rfl (Nat.le_of_ble_eq_true rfl) (by decide) (by kernel_rfl) rfl ?_
  simp [isKeyword_l ht]
theorem stays_l {d : UInt8} (hd : ∀ l, H.n ≤ l → H.get l = none) (ht : Tab H) : LC Tryd.prog EJ 3 [str s, str t, .int .u8 d.toNat] H = some (.bool true, H) := by
  refine LC_pure rfl Tryd.func3 rfl (Nat.le_of_ble_eq_true rfl) (by decide) (by kernel_rfl) rfl ?_
  have hs := cut_l (H := H) (s := s) (k := 200) (by decide)
  have htt := cut_l (H := H) (s := t) (k := 100) (by decide)
  have l1 : (s.take (200 : Int).toNat).length ≤ 200 := by simp; omega
  have l2 : (t.take (100 : Int).toNat).length ≤ 100 := by simp; omega
  generalize s.take (200 : Int).toNat = s' at *
  generalize t.take (100 : Int).toNat = t' at *
  have hq : (d.toNat : Int).tmod 20 = ((d.toNat % 20 : Nat) : Int) := by rw [Int.tmod_eq_emod_of_nonneg (by omega)]; omega
  have hcl : clamp ((d.toNat % 20 : Nat) : Int) = ((d.toNat % 20 : Nat) : Int) := clamp_in (by omega) (by omega)
  have hw : IntKind.i64.wrap ((d.toNat % 20 : Nat) : Int) = ((d.toNat % 20 : Nat) : Int) := w64_in (by omega) (by omega)
  generalize ((d.toNat % 20 : Nat) : Int) = D at *
  have w1 := whole_l (s := s') (d := D) hd ht (by omega)
  have w2 := whole_l (s := s' ++ t') (d := D) hd ht (by simp; omega)
  rw [hcl] at w1 w2
  have h7 := lives_l hd ht
  have hcat : (s'.length + t'.length ≤ 9223372036854775807) = True := eq_true (by omega)
  obtain ⟨k1, k2⟩ := M.stays D s' t' (by omega) (by omega)
  by_cases hc : ((new D).feed s').tell = 0
  · obtain ⟨a1, a2, a3, a4, a5⟩ := k1 hc
    simp (config := { maxSteps := 4000000 }) [hs, htt, hq, hw, w1, w2, h7, hcat, hc, a1, a2, a3, a4, a5]
  · obtain ⟨a1, a2, a3⟩ := k2 hc
    have f := eq_false hc
    rcases a2 with a2 | a2
    · simp (config := { maxSteps := 4000000 }) [hs, htt, hq, hw, w1, w2, h7, hcat, f, a1, a2, a3]
    · by_cases a4 : ((new D).feed (s' ++ t')).place = -1
      · simp (config := { maxSteps := 4000000 }) [hs, htt, hq, hw, w1, w2, h7, hcat, f, a1, a4, a3]
      · have f4 := eq_false a4
        simp (config := { maxSteps := 4000000 }) [hs, htt, hq, hw, w1, w2, h7, hcat, f, a1, f4, a2, a3]
end
end Go.Proofs.YtgnefbngkhjfcaaDoor
