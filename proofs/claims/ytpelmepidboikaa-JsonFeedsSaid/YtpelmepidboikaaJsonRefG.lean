/-
  The reference for JSON: all of it.
-/
import Derived.Test.YtpelmepidboikaaJsonRefF
set_option linter.unusedSimpArgs false
set_option linter.unusedVariables false
namespace Go.Proofs.Ytpelmepidboikaa
open Go.RowKit Go.Tg Tg.Json

theorem listC_of (d : Nat) (hd : d ≤ 1000) (h : ValC d) : ListC d := by
  intro s a o w hs ha
  cases o
  · exact list_arr d hd h s a w hs ha
  · exact list_obj d hd h s a w hs ha
theorem valC_all (d : Nat) (hd : d ≤ 1000) : ValC d := by
  induction d with
  | zero => exact value_zero
  | succ d ih => exact value_succ d (by omega) (listC_of d (by omega) (ih (by omega)))

def wholeN (l : List UInt8) (d : Nat) : Int := (whole l d).1
def wholeP (l : List UInt8) (d : Nat) : Int := (whole l d).2
theorem ret_two {a b c d : Int} (h1 : a = c) (h2 : b = d) : Ending.returned (.tuple #[.int .i64 a, .int .i64 b]) = .returned (.tuple #[.int .i64 c, .int .i64 d]) := by rw [h1, h2]
set_option maxHeartbeats 2000000 in
theorem rwhole_any (s : ByteArray) (d : Nat) (w : World) (hs : s.size ≤ 1048576) (hd : d ≤ 200) :
    Calls Try.prog 9 #[.string s, .int .i64 d] w fun e w' => e = .returned (.tuple #[.int .i64 (wholeN s.data.toList d), .int .i64 (wholeP s.data.toList d)]) ∧ Change (fun _ => False) w w' := by
  have HV := Lib.hid (valC_all d (by omega))
  have hvl := value_le d s.data.toList
  have hsz : s.data.size = s.size := rfl
  simp only [Array.length_toList, hsz] at hvl
  obtain ⟨x, hx⟩ : ∃ x, x = value d s.data.toList := ⟨_, rfl⟩
  have hN : Hid (wholeN s.data.toList d = (if x.2 = 1 then (1, -1) else if x.2 ≠ 4 then (x.2, (x.1 : Int)) else if x.1 + skip (s.data.toList.drop x.1) < s.size then (0, ((x.1 + skip (s.data.toList.drop x.1) : Nat) : Int)) else (2, -1) : Nat × Int).1) := by
    show _ = _
    rw [hx]; unfold wholeN whole; simp only [Array.length_toList, hsz]
  have hP : Hid (wholeP s.data.toList d = (if x.2 = 1 then (1, -1) else if x.2 ≠ 4 then (x.2, (x.1 : Int)) else if x.1 + skip (s.data.toList.drop x.1) < s.size then (0, ((x.1 + skip (s.data.toList.drop x.1) : Nat) : Int)) else (2, -1) : Nat × Int).2) := by
    show _ = _
    rw [hx]; unfold wholeP whole; simp only [Array.length_toList, hsz]
  rw [← hx] at hvl
  have HX := Lib.hid hx
  clear hx hsz
  go_enter Try.func9, Try.ntmps9
  go_wp2_with fail
  refine (valI HV.out s 0 _ _ hs (by omega) rfl).mono ?_
  rintro e w1 ⟨rfl, hc⟩
  obtain ⟨rn, rs, hsd, hrn, hrs⟩ := said_open 0 (value d (s.data.toList.drop 0))
  rw [hsd]
  rw [List.drop_zero, ← HX.out] at hrn hrs
  have hrn' : rn = x.1 := by omega
  clear hsd hrn
  have HC := Lib.hid hc
  clear hc
  subst hrn'
  by_cases h1 : x.2 = 1
  · have e1 : rs = 1 := by rw [hrs, h1]; rfl
    subst e1
    have H1 := Lib.hid h1
    clear hrs h1 hvl
    go_wp2
    go_ret2
    refine ⟨ret_two ?_ ?_, ?_⟩
    · rw [hN.out, if_pos H1.out]; rfl
    · rw [hP.out, if_pos H1.out]
    · repeat (first | exact HC.out | refine Change.drewN ?_ _ | refine Change.alloc ?_ _ | refine Change.setCell ?_ (.inr (by first | (simp; done) | (simp; omega) | omega)) _)
  by_cases h4 : x.2 = 4
  · have e1 : rs = -1 := by rw [hrs, h4]; rfl
    subst e1
    have hle := hvl h4
    have H4 := Lib.hid h4
    clear hrs h1 h4 hvl
    go_wp2_with fail
    refine (skipI s x.1 _ _ hs hle rfl).mono ?_
    rintro e w3 ⟨⟨t, rfl, hts, hT⟩, rfl⟩
    by_cases hlt : t < s.size
    · go_wp2
      go_ret2
      refine ⟨ret_two ?_ ?_, ?_⟩
      · rw [hN.out, if_neg (by rw [H4.out]; decide), if_neg (by simp [H4.out]), if_pos (by rw [← hT.out]; exact hlt)]; rfl
      · rw [hP.out, if_neg (by rw [H4.out]; decide), if_neg (by simp [H4.out]), if_pos (by rw [← hT.out]; exact hlt), ← hT.out]
      · repeat (first | exact HC.out | refine Change.drewN ?_ _ | refine Change.alloc ?_ _ | refine Change.setCell ?_ (.inr (by first | (simp; done) | (simp; omega) | omega)) _)
    · go_wp2
      go_ret2
      refine ⟨ret_two ?_ ?_, ?_⟩
      · rw [hN.out, if_neg (by rw [H4.out]; decide), if_neg (by simp [H4.out]), if_neg (by rw [← hT.out]; exact hlt)]; rfl
      · rw [hP.out, if_neg (by rw [H4.out]; decide), if_neg (by simp [H4.out]), if_neg (by rw [← hT.out]; exact hlt)]
      · repeat (first | exact HC.out | refine Change.drewN ?_ _ | refine Change.alloc ?_ _ | refine Change.setCell ?_ (.inr (by first | (simp; done) | (simp; omega) | omega)) _)
  · have e1 : (rs == 1) = false := by rw [beq_eq_false_iff_ne, hrs]; unfold stv; split <;> omega
    have e2 : (rs != -1) = true := by rw [bne_iff_ne, hrs]; exact fun h => h4 ((stv_four _).1 h)
    have hrs' : rs = x.2 := by rw [hrs]; unfold stv; rw [if_neg h4]
    have H1 := Lib.hid h1
    have H4 := Lib.hid h4
    have HRS := Lib.hid hrs'
    clear hrs h1 h4 hvl hrs'
    go_wp2
    go_quiet (fail)
    go_wp2
    go_ret2
    refine ⟨ret_two ?_ ?_, ?_⟩
    · rw [hN.out, if_neg H1.out, if_pos H4.out, HRS.out]
    · rw [hP.out, if_neg H1.out, if_pos H4.out]
    · repeat (first | exact HC.out | refine Change.drewN ?_ _ | refine Change.alloc ?_ _ | refine Change.setCell ?_ (.inr (by first | (simp; done) | (simp; omega) | omega)) _)
theorem rwholeI (s : ByteArray) (x : Int) (d : Nat) (w : World) (hx : x = d) (hs : s.size ≤ 1048576) (hd : d ≤ 200) :
    Calls Try.prog 9 #[.string s, .int .i64 x] w fun e w' => e = .returned (.tuple #[.int .i64 (wholeN s.data.toList d), .int .i64 (wholeP s.data.toList d)]) ∧ Change (fun _ => False) w w' := by
  subst hx; exact rwhole_any s d w hs hd
theorem rbegun_any (s : ByteArray) (w : World) (hs : s.size ≤ 1048576) :
    Calls Try.prog 18 #[.string s] w fun e w' => e = .returned (.bool (decide (skip s.data.toList < s.size))) ∧ w = w' := by
  obtain ⟨R, hR⟩ : ∃ R, R = decide (skip s.data.toList < s.size) := ⟨_, rfl⟩
  rw [← hR]
  have HR := Lib.hid hR
  clear hR
  go_enter Try.func18, Try.ntmps18
  go_wp2_with fail
  refine (skipI s 0 _ _ hs (by omega) rfl).mono ?_
  rintro e w3 ⟨⟨t, rfl, hts, hT⟩, rfl⟩
  go_wp2
  go_ret
  refine ⟨ret_bool ?_, rfl⟩
  have h := hT.out
  rw [List.drop_zero, Nat.zero_add] at h
  rw [HR.out, ← h]
  first | done | (rw [Bool.eq_iff_iff]; simp)
end Go.Proofs.Ytpelmepidboikaa
