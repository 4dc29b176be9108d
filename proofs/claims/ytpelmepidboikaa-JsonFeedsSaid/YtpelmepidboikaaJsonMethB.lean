/-
  The walks of the JSON machine's methods, continued.
-/
import Derived.Test.YtpelmepidboikaaJsonMeth
set_option linter.unusedSimpArgs false
set_option linter.unusedVariables false
namespace Go.Proofs.Ytpelmepidboikaa
open Go.RowKit Go.Tg Tg.Json


theorem push_any (b : Nat) (m : M) (S : Nat → Prop) (w : World) (c : UInt8) (p : Nat) (h : JMach w b m S) (hwf : JWF m) :
    Calls Try.prog 45 #[.pointer (some ⟨b, 0, none⟩), .int .u8 c.toNat, .int .i64 p] w fun e w' => e = .returned (.tuple #[]) ∧ JTo w b S (m.push c p) w' := by
  by_cases hlen : m.stack.length = m.depth
  · exact push_full b m S w c p h hlen hwf.depth
  · exact push_room b m S w c p h (Nat.lt_of_le_of_ne hwf.len hlen) hwf.depth
theorem push_anyI (b : Nat) (m : M) (S : Nat → Prop) (w : World) (c : UInt8) (x p : Int) (h : JMach w b m S) (hwf : JWF m) (hx : x = c.toNat) (hp : 0 ≤ p) :
    Calls Try.prog 45 #[.pointer (some ⟨b, 0, none⟩), .int .u8 x, .int .i64 p] w fun e w' => e = .returned (.tuple #[]) ∧ JTo w b S (m.push c p.toNat) w' := by
  obtain ⟨q, rfl⟩ := Int.eq_ofNat_of_zero_le hp
  subst hx
  exact push_any b m S w c q h hwf
theorem first_nat (m : M) (b : UInt8) : m.first b = if b.toNat = 91 then m.push b 1
  else if b.toNat = 123 then m.push b 3
  else if b.toNat = 34 then { m with pos := 6, key := false }
  else if b.toNat = 45 then { m with pos := 10 }
  else if b.toNat = 48 then { m with pos := 11 }
  else if digit b = true then { m with pos := 12 }
  else if b.toNat = 116 then { m with pos := 9, rest := [114, 117, 101] }
  else if b.toNat = 102 then { m with pos := 9, rest := [97, 108, 115, 101] }
  else if b.toNat = 110 then { m with pos := 9, rest := [117, 108, 108] }
  else m.fail 0 := by
  simp only [M.first, u8_iff, UInt8.reduceToNat]


set_option maxHeartbeats 1000000 in
theorem begin_any (b : Nat) (m : M) (S : Nat → Prop) (w : World) (c : UInt8) (h : JMach w b m S) (hwf : JWF m) :
    Calls Try.prog 33 #[.pointer (some ⟨b, 0, none⟩), .int .u8 c.toNat] w fun e w' => e = .returned (.tuple #[]) ∧ JTo w b S (m.first c) w' := by
  have Hh := Lib.hid h
  have hpos := hwf.pos
  obtain ⟨sl, hb, hr, hne, hS⟩ := h
  have c3 : w.cell? ⟨b, 3, none⟩ = some (.bool m.key) := hb.cell 3
  have c4 : w.cell? ⟨b, 4, none⟩ = some (.string ⟨m.rest.toArray⟩) := hb.cell 4
  have hf := hb.free
  have c2 : w.cell? ⟨b, 2, none⟩ = some (.int .i64 m.pos) := hb.cell 2
  have Hb := Lib.hid hb
  have Hr := Lib.hid hr
  have Hn := Lib.hid hne
  have HS := Lib.hid hS
  have Hw := Lib.hid hwf
  clear hb hr hne hS hwf
  go_enter Try.func33, Try.ntmps33
  go_wp2_with (first | (go_at_call 45; refine (push_anyI b m S _ c _ _ Hh.out Hw.out (by first | rfl | omega | (simp only [beq_iff_eq] at *; omega)) (by decide)).mono ?_; rintro e w' ⟨rfl, hto⟩; simp only [Int.reduceToNat] at hto) | (go_at_call 46; refine (digit_any _ _).mono ?_; rintro e w' ⟨rfl, rfl⟩) | (go_at_call 35; refine (fail_any b m S _ 0 Hh.out).mono ?_; rintro e w' ⟨rfl, hto⟩))
  all_goals try go_end0
  all_goals try refine bodyPost_ret (results_none rfl _ _ _) rfl ?_
  all_goals refine ⟨rfl, ?_⟩
  all_goals clear c3 c4 c2 hf
  all_goals try simp only [beq_iff_eq, beq_eq_false_iff_ne, ne_eq, Bool.not_eq_true, Bool.not_eq_false, Bool.not_eq_eq_eq_not, Bool.not_true, Bool.not_false] at *
  all_goals first | (exfalso; omega) | skip
  all_goals rw [first_nat]
  all_goals (repeat (first | rw [if_pos (by omega)] | rw [if_neg (by omega)] | rw [if_pos (by assumption)] | rw [if_neg (by simp only [*]; decide)]))
  all_goals first
    | with_reducible assumption
    | (apply jto_upd Hr.out Hn.out HS.out; (repeat (first | apply Upd.set | apply Upd.drewN | apply Upd.drew)); exact Upd.base Hb.out; (first | rfl); rfl)


theorem after_anyI (b : Nat) (m : M) (S : Nat → Prop) (w : World) (c : UInt8) (x : Int) (h : JMach w b m S) (hwf : JWF m) (hx : x = c.toNat) :
    Calls Try.prog 36 #[.pointer (some ⟨b, 0, none⟩), .int .u8 x] w fun e w' => e = .returned (.tuple #[]) ∧ JTo w b S (m.after c) w' := by
  subst hx; exact after_any b m S w c h hwf
theorem ended_any (p : Nat) (w : World) (hp : p ≤ 17) :
    Calls Try.prog 42 #[.int .i64 p] w fun e w' => e = .returned (.bool (ended p)) ∧ w = w' := by
  have hh : ended p = decide (p = 11 ∨ p = 12 ∨ p = 14 ∨ p = 17) := by rw [Bool.eq_iff_iff]; simp [ended]; omega
  rw [hh]
  clear hh
  go_enter Try.func42, Try.ntmps42
  go_wp2
  all_goals go_ret
  all_goals (refine ⟨ret_bool ?_, rfl⟩; try simp only [beq_iff_eq, beq_eq_false_iff_ne, ne_eq] at *)
  all_goals (rw [Bool.eq_iff_iff]; simp; try omega)
theorem inNumber_nat (m : M) (b : UInt8) : m.inNumber b =
  if m.pos = 10 ∧ b.toNat = 48 then { m with pos := 11 }
  else if (m.pos = 10 ∨ m.pos = 12) ∧ (48 ≤ b.toNat ∧ b.toNat ≤ 57) then { m with pos := 12 }
  else if (m.pos = 13 ∨ m.pos = 14) ∧ (48 ≤ b.toNat ∧ b.toNat ≤ 57) then { m with pos := 14 }
  else if (m.pos = 15 ∨ m.pos = 16 ∨ m.pos = 17) ∧ (48 ≤ b.toNat ∧ b.toNat ≤ 57) then { m with pos := 17 }
  else if m.pos = 15 ∧ (b.toNat = 43 ∨ b.toNat = 45) then { m with pos := 16 }
  else if (m.pos = 11 ∨ m.pos = 12) ∧ b.toNat = 46 then { m with pos := 13 }
  else if (m.pos = 11 ∨ m.pos = 12 ∨ m.pos = 14) ∧ (b.toNat = 101 ∨ b.toNat = 69) then { m with pos := 15 }
  else if m.pos = 11 ∨ m.pos = 12 ∨ m.pos = 14 ∨ m.pos = 17 then m.after b
  else m.fail 0 := by
  have h1 : (isE b = true) = (b.toNat = 101 ∨ b.toNat = 69) := by simp [isE, u8_iff]
  have h2 : (ended m.pos = true) = (m.pos = 11 ∨ m.pos = 12 ∨ m.pos = 14 ∨ m.pos = 17) := by simp [ended, or_assoc]
  simp only [M.inNumber, h1, h2, u8_iff, UInt8.reduceToNat, digit_nat, decide_eq_true_eq]


set_option maxHeartbeats 1000000 in
theorem inNumber_10true (b : Nat) (m : M) (S : Nat → Prop) (w : World) (c : UInt8) (h : JMach w b m S) (hwf : JWF m) (hp : m.pos = 10) (hd : digit c = true) :
    Calls Try.prog 41 #[.pointer (some ⟨b, 0, none⟩), .int .u8 c.toNat] w fun e w' => e = .returned (.tuple #[]) ∧ JTo w b S (m.inNumber c) w' := by
  have Hh := Lib.hid h
  have hpos := hwf.pos
  obtain ⟨sl, hb, hr, hne, hS⟩ := h

  have hf := hb.free
  have c2 : w.cell? ⟨b, 2, none⟩ = some (.int .i64 10) := by have := hb.cell 2; rw [this]; simp [jcells, hp]
  have Hp := Lib.hid hp
  clear hp
  have hd2 := hd
  simp only [digit_nat, decide_eq_true_eq, decide_eq_false_iff_not] at hd2
  obtain ⟨hd3, hd4⟩ := hd2
  have Hb := Lib.hid hb
  have Hr := Lib.hid hr
  have Hn := Lib.hid hne
  have HS := Lib.hid hS
  have Hw := Lib.hid hwf
  clear hb hr hne hS hwf
  go_enter Try.func41, Try.ntmps41
  go_wp2_with (first | (go_at_call 46; refine (digit_any _ _).mono ?_; rintro e w' ⟨rfl, rfl⟩) | (go_at_call 42; refine (ended_any 10 _ (by decide)).mono ?_; rintro e w' ⟨rfl, rfl⟩; simp only [show ended 10 = false from rfl]) | (go_at_call 36; refine Calls.mono (after_anyI b m S _ c _ Hh.out Hw.out ?_) ?_; (first | rfl | omega | (simp only [beq_iff_eq] at *; omega)); rintro e w' ⟨rfl, hto⟩) | (go_at_call 35; refine (fail_any b m S _ 0 Hh.out).mono ?_; rintro e w' ⟨rfl, hto⟩))
  all_goals try go_end0
  all_goals try refine bodyPost_ret (results_none rfl _ _ _) rfl ?_
  all_goals refine ⟨rfl, ?_⟩
  all_goals clear  c2 hf
  all_goals try simp only [beq_iff_eq, beq_eq_false_iff_ne, ne_eq, Bool.not_eq_true, Bool.not_eq_false, Bool.not_eq_eq_eq_not, Bool.not_true, Bool.not_false, digit_nat, decide_eq_true_eq, decide_eq_false_iff_not] at *
  all_goals first | (exfalso; omega) | skip
  all_goals rw [inNumber_nat, Hp.out]
  all_goals (repeat (first | rw [if_pos (by omega)] | rw [if_neg (by omega)] | rw [if_pos (by assumption)] | rw [if_neg (by simp only [*]; decide)]))
  all_goals first
    | with_reducible assumption
    | (apply jto_upd Hr.out Hn.out HS.out; (repeat (first | apply Upd.set | apply Upd.drewN | apply Upd.drew)); exact Upd.base Hb.out; (first | rfl); rfl)


set_option maxHeartbeats 1000000 in
theorem inNumber_10false (b : Nat) (m : M) (S : Nat → Prop) (w : World) (c : UInt8) (h : JMach w b m S) (hwf : JWF m) (hp : m.pos = 10) (hd : digit c = false) :
    Calls Try.prog 41 #[.pointer (some ⟨b, 0, none⟩), .int .u8 c.toNat] w fun e w' => e = .returned (.tuple #[]) ∧ JTo w b S (m.inNumber c) w' := by
  have Hh := Lib.hid h
  have hpos := hwf.pos
  obtain ⟨sl, hb, hr, hne, hS⟩ := h

  have hf := hb.free
  have c2 : w.cell? ⟨b, 2, none⟩ = some (.int .i64 10) := by have := hb.cell 2; rw [this]; simp [jcells, hp]
  have Hp := Lib.hid hp
  clear hp
  have hd2 := hd
  simp only [digit_nat, decide_eq_true_eq, decide_eq_false_iff_not] at hd2
  have Hb := Lib.hid hb
  have Hr := Lib.hid hr
  have Hn := Lib.hid hne
  have HS := Lib.hid hS
  have Hw := Lib.hid hwf
  clear hb hr hne hS hwf
  go_enter Try.func41, Try.ntmps41
  go_wp2_with (first | (go_at_call 46; refine (digit_any _ _).mono ?_; rintro e w' ⟨rfl, rfl⟩) | (go_at_call 42; refine (ended_any 10 _ (by decide)).mono ?_; rintro e w' ⟨rfl, rfl⟩; simp only [show ended 10 = false from rfl]) | (go_at_call 36; refine Calls.mono (after_anyI b m S _ c _ Hh.out Hw.out ?_) ?_; (first | rfl | omega | (simp only [beq_iff_eq] at *; omega)); rintro e w' ⟨rfl, hto⟩) | (go_at_call 35; refine (fail_any b m S _ 0 Hh.out).mono ?_; rintro e w' ⟨rfl, hto⟩))
  all_goals try go_end0
  all_goals try refine bodyPost_ret (results_none rfl _ _ _) rfl ?_
  all_goals refine ⟨rfl, ?_⟩
  all_goals clear  c2 hf
  all_goals try simp only [beq_iff_eq, beq_eq_false_iff_ne, ne_eq, Bool.not_eq_true, Bool.not_eq_false, Bool.not_eq_eq_eq_not, Bool.not_true, Bool.not_false, digit_nat, decide_eq_true_eq, decide_eq_false_iff_not] at *
  all_goals first | (exfalso; omega) | skip
  all_goals rw [inNumber_nat, Hp.out]
  all_goals (repeat (first | rw [if_pos (by omega)] | rw [if_neg (by omega)] | rw [if_pos (by assumption)] | rw [if_neg (by simp only [*]; decide)]))
  all_goals first
    | with_reducible assumption
    | (apply jto_upd Hr.out Hn.out HS.out; (repeat (first | apply Upd.set | apply Upd.drewN | apply Upd.drew)); exact Upd.base Hb.out; (first | rfl); rfl)

theorem inNumber_10 (b : Nat) (m : M) (S : Nat → Prop) (w : World) (c : UInt8) (h : JMach w b m S) (hwf : JWF m) (hp : m.pos = 10) :
    Calls Try.prog 41 #[.pointer (some ⟨b, 0, none⟩), .int .u8 c.toNat] w fun e w' => e = .returned (.tuple #[]) ∧ JTo w b S (m.inNumber c) w' := by
  cases hd : digit c with
  | true => exact inNumber_10true b m S w c h hwf hp hd
  | false => exact inNumber_10false b m S w c h hwf hp hd

set_option maxHeartbeats 1000000 in
theorem inNumber_11true (b : Nat) (m : M) (S : Nat → Prop) (w : World) (c : UInt8) (h : JMach w b m S) (hwf : JWF m) (hp : m.pos = 11) (hd : digit c = true) :
    Calls Try.prog 41 #[.pointer (some ⟨b, 0, none⟩), .int .u8 c.toNat] w fun e w' => e = .returned (.tuple #[]) ∧ JTo w b S (m.inNumber c) w' := by
  have Hh := Lib.hid h
  have hpos := hwf.pos
  obtain ⟨sl, hb, hr, hne, hS⟩ := h

  have hf := hb.free
  have c2 : w.cell? ⟨b, 2, none⟩ = some (.int .i64 11) := by have := hb.cell 2; rw [this]; simp [jcells, hp]
  have Hp := Lib.hid hp
  clear hp
  have hd2 := hd
  simp only [digit_nat, decide_eq_true_eq, decide_eq_false_iff_not] at hd2
  obtain ⟨hd3, hd4⟩ := hd2
  have Hb := Lib.hid hb
  have Hr := Lib.hid hr
  have Hn := Lib.hid hne
  have HS := Lib.hid hS
  have Hw := Lib.hid hwf
  clear hb hr hne hS hwf
  go_enter Try.func41, Try.ntmps41
  go_wp2_with (first | (go_at_call 46; refine (digit_any _ _).mono ?_; rintro e w' ⟨rfl, rfl⟩) | (go_at_call 42; refine (ended_any 11 _ (by decide)).mono ?_; rintro e w' ⟨rfl, rfl⟩; simp only [show ended 11 = true from rfl]) | (go_at_call 36; refine Calls.mono (after_anyI b m S _ c _ Hh.out Hw.out ?_) ?_; (first | rfl | omega | (simp only [beq_iff_eq] at *; omega)); rintro e w' ⟨rfl, hto⟩) | (go_at_call 35; refine (fail_any b m S _ 0 Hh.out).mono ?_; rintro e w' ⟨rfl, hto⟩))
  all_goals try go_end0
  all_goals try refine bodyPost_ret (results_none rfl _ _ _) rfl ?_
  all_goals refine ⟨rfl, ?_⟩
  all_goals clear  c2 hf
  all_goals try simp only [beq_iff_eq, beq_eq_false_iff_ne, ne_eq, Bool.not_eq_true, Bool.not_eq_false, Bool.not_eq_eq_eq_not, Bool.not_true, Bool.not_false, digit_nat, decide_eq_true_eq, decide_eq_false_iff_not] at *
  all_goals first | (exfalso; omega) | skip
  all_goals rw [inNumber_nat, Hp.out]
  all_goals (repeat (first | rw [if_pos (by omega)] | rw [if_neg (by omega)] | rw [if_pos (by assumption)] | rw [if_neg (by simp only [*]; decide)]))
  all_goals first
    | with_reducible assumption
    | (apply jto_upd Hr.out Hn.out HS.out; (repeat (first | apply Upd.set | apply Upd.drewN | apply Upd.drew)); exact Upd.base Hb.out; (first | rfl); rfl)


set_option maxHeartbeats 1000000 in
theorem inNumber_11false (b : Nat) (m : M) (S : Nat → Prop) (w : World) (c : UInt8) (h : JMach w b m S) (hwf : JWF m) (hp : m.pos = 11) (hd : digit c = false) :
    Calls Try.prog 41 #[.pointer (some ⟨b, 0, none⟩), .int .u8 c.toNat] w fun e w' => e = .returned (.tuple #[]) ∧ JTo w b S (m.inNumber c) w' := by
  have Hh := Lib.hid h
  have hpos := hwf.pos
  obtain ⟨sl, hb, hr, hne, hS⟩ := h

  have hf := hb.free
  have c2 : w.cell? ⟨b, 2, none⟩ = some (.int .i64 11) := by have := hb.cell 2; rw [this]; simp [jcells, hp]
  have Hp := Lib.hid hp
  clear hp
  have hd2 := hd
  simp only [digit_nat, decide_eq_true_eq, decide_eq_false_iff_not] at hd2
  have Hb := Lib.hid hb
  have Hr := Lib.hid hr
  have Hn := Lib.hid hne
  have HS := Lib.hid hS
  have Hw := Lib.hid hwf
  clear hb hr hne hS hwf
  go_enter Try.func41, Try.ntmps41
  go_wp2_with (first | (go_at_call 46; refine (digit_any _ _).mono ?_; rintro e w' ⟨rfl, rfl⟩) | (go_at_call 42; refine (ended_any 11 _ (by decide)).mono ?_; rintro e w' ⟨rfl, rfl⟩; simp only [show ended 11 = true from rfl]) | (go_at_call 36; refine Calls.mono (after_anyI b m S _ c _ Hh.out Hw.out ?_) ?_; (first | rfl | omega | (simp only [beq_iff_eq] at *; omega)); rintro e w' ⟨rfl, hto⟩) | (go_at_call 35; refine (fail_any b m S _ 0 Hh.out).mono ?_; rintro e w' ⟨rfl, hto⟩))
  all_goals try go_end0
  all_goals try refine bodyPost_ret (results_none rfl _ _ _) rfl ?_
  all_goals refine ⟨rfl, ?_⟩
  all_goals clear  c2 hf
  all_goals try simp only [beq_iff_eq, beq_eq_false_iff_ne, ne_eq, Bool.not_eq_true, Bool.not_eq_false, Bool.not_eq_eq_eq_not, Bool.not_true, Bool.not_false, digit_nat, decide_eq_true_eq, decide_eq_false_iff_not] at *
  all_goals first | (exfalso; omega) | skip
  all_goals rw [inNumber_nat, Hp.out]
  all_goals (repeat (first | rw [if_pos (by omega)] | rw [if_neg (by omega)] | rw [if_pos (by assumption)] | rw [if_neg (by simp only [*]; decide)]))
  all_goals first
    | with_reducible assumption
    | (apply jto_upd Hr.out Hn.out HS.out; (repeat (first | apply Upd.set | apply Upd.drewN | apply Upd.drew)); exact Upd.base Hb.out; (first | rfl); rfl)

theorem inNumber_11 (b : Nat) (m : M) (S : Nat → Prop) (w : World) (c : UInt8) (h : JMach w b m S) (hwf : JWF m) (hp : m.pos = 11) :
    Calls Try.prog 41 #[.pointer (some ⟨b, 0, none⟩), .int .u8 c.toNat] w fun e w' => e = .returned (.tuple #[]) ∧ JTo w b S (m.inNumber c) w' := by
  cases hd : digit c with
  | true => exact inNumber_11true b m S w c h hwf hp hd
  | false => exact inNumber_11false b m S w c h hwf hp hd

set_option maxHeartbeats 1000000 in
theorem inNumber_12true (b : Nat) (m : M) (S : Nat → Prop) (w : World) (c : UInt8) (h : JMach w b m S) (hwf : JWF m) (hp : m.pos = 12) (hd : digit c = true) :
    Calls Try.prog 41 #[.pointer (some ⟨b, 0, none⟩), .int .u8 c.toNat] w fun e w' => e = .returned (.tuple #[]) ∧ JTo w b S (m.inNumber c) w' := by
  have Hh := Lib.hid h
  have hpos := hwf.pos
  obtain ⟨sl, hb, hr, hne, hS⟩ := h

  have hf := hb.free
  have c2 : w.cell? ⟨b, 2, none⟩ = some (.int .i64 12) := by have := hb.cell 2; rw [this]; simp [jcells, hp]
  have Hp := Lib.hid hp
  clear hp
  have hd2 := hd
  simp only [digit_nat, decide_eq_true_eq, decide_eq_false_iff_not] at hd2
  obtain ⟨hd3, hd4⟩ := hd2
  have Hb := Lib.hid hb
  have Hr := Lib.hid hr
  have Hn := Lib.hid hne
  have HS := Lib.hid hS
  have Hw := Lib.hid hwf
  clear hb hr hne hS hwf
  go_enter Try.func41, Try.ntmps41
  go_wp2_with (first | (go_at_call 46; refine (digit_any _ _).mono ?_; rintro e w' ⟨rfl, rfl⟩) | (go_at_call 42; refine (ended_any 12 _ (by decide)).mono ?_; rintro e w' ⟨rfl, rfl⟩; simp only [show ended 12 = true from rfl]) | (go_at_call 36; refine Calls.mono (after_anyI b m S _ c _ Hh.out Hw.out ?_) ?_; (first | rfl | omega | (simp only [beq_iff_eq] at *; omega)); rintro e w' ⟨rfl, hto⟩) | (go_at_call 35; refine (fail_any b m S _ 0 Hh.out).mono ?_; rintro e w' ⟨rfl, hto⟩))
  all_goals try go_end0
  all_goals try refine bodyPost_ret (results_none rfl _ _ _) rfl ?_
  all_goals refine ⟨rfl, ?_⟩
  all_goals clear  c2 hf
  all_goals try simp only [beq_iff_eq, beq_eq_false_iff_ne, ne_eq, Bool.not_eq_true, Bool.not_eq_false, Bool.not_eq_eq_eq_not, Bool.not_true, Bool.not_false, digit_nat, decide_eq_true_eq, decide_eq_false_iff_not] at *
  all_goals first | (exfalso; omega) | skip
  all_goals rw [inNumber_nat, Hp.out]
  all_goals (repeat (first | rw [if_pos (by omega)] | rw [if_neg (by omega)] | rw [if_pos (by assumption)] | rw [if_neg (by simp only [*]; decide)]))
  all_goals first
    | with_reducible assumption
    | (apply jto_upd Hr.out Hn.out HS.out; (repeat (first | apply Upd.set | apply Upd.drewN | apply Upd.drew)); exact Upd.base Hb.out; (first | rfl); rfl)


set_option maxHeartbeats 1000000 in
theorem inNumber_12false (b : Nat) (m : M) (S : Nat → Prop) (w : World) (c : UInt8) (h : JMach w b m S) (hwf : JWF m) (hp : m.pos = 12) (hd : digit c = false) :
    Calls Try.prog 41 #[.pointer (some ⟨b, 0, none⟩), .int .u8 c.toNat] w fun e w' => e = .returned (.tuple #[]) ∧ JTo w b S (m.inNumber c) w' := by
  have Hh := Lib.hid h
  have hpos := hwf.pos
  obtain ⟨sl, hb, hr, hne, hS⟩ := h

  have hf := hb.free
  have c2 : w.cell? ⟨b, 2, none⟩ = some (.int .i64 12) := by have := hb.cell 2; rw [this]; simp [jcells, hp]
  have Hp := Lib.hid hp
  clear hp
  have hd2 := hd
  simp only [digit_nat, decide_eq_true_eq, decide_eq_false_iff_not] at hd2
  have Hb := Lib.hid hb
  have Hr := Lib.hid hr
  have Hn := Lib.hid hne
  have HS := Lib.hid hS
  have Hw := Lib.hid hwf
  clear hb hr hne hS hwf
  go_enter Try.func41, Try.ntmps41
  go_wp2_with (first | (go_at_call 46; refine (digit_any _ _).mono ?_; rintro e w' ⟨rfl, rfl⟩) | (go_at_call 42; refine (ended_any 12 _ (by decide)).mono ?_; rintro e w' ⟨rfl, rfl⟩; simp only [show ended 12 = true from rfl]) | (go_at_call 36; refine Calls.mono (after_anyI b m S _ c _ Hh.out Hw.out ?_) ?_; (first | rfl | omega | (simp only [beq_iff_eq] at *; omega)); rintro e w' ⟨rfl, hto⟩) | (go_at_call 35; refine (fail_any b m S _ 0 Hh.out).mono ?_; rintro e w' ⟨rfl, hto⟩))
  all_goals try go_end0
  all_goals try refine bodyPost_ret (results_none rfl _ _ _) rfl ?_
  all_goals refine ⟨rfl, ?_⟩
  all_goals clear  c2 hf
  all_goals try simp only [beq_iff_eq, beq_eq_false_iff_ne, ne_eq, Bool.not_eq_true, Bool.not_eq_false, Bool.not_eq_eq_eq_not, Bool.not_true, Bool.not_false, digit_nat, decide_eq_true_eq, decide_eq_false_iff_not] at *
  all_goals first | (exfalso; omega) | skip
  all_goals rw [inNumber_nat, Hp.out]
  all_goals (repeat (first | rw [if_pos (by omega)] | rw [if_neg (by omega)] | rw [if_pos (by assumption)] | rw [if_neg (by simp only [*]; decide)]))
  all_goals first
    | with_reducible assumption
    | (apply jto_upd Hr.out Hn.out HS.out; (repeat (first | apply Upd.set | apply Upd.drewN | apply Upd.drew)); exact Upd.base Hb.out; (first | rfl); rfl)

theorem inNumber_12 (b : Nat) (m : M) (S : Nat → Prop) (w : World) (c : UInt8) (h : JMach w b m S) (hwf : JWF m) (hp : m.pos = 12) :
    Calls Try.prog 41 #[.pointer (some ⟨b, 0, none⟩), .int .u8 c.toNat] w fun e w' => e = .returned (.tuple #[]) ∧ JTo w b S (m.inNumber c) w' := by
  cases hd : digit c with
  | true => exact inNumber_12true b m S w c h hwf hp hd
  | false => exact inNumber_12false b m S w c h hwf hp hd

set_option maxHeartbeats 1000000 in
theorem inNumber_13true (b : Nat) (m : M) (S : Nat → Prop) (w : World) (c : UInt8) (h : JMach w b m S) (hwf : JWF m) (hp : m.pos = 13) (hd : digit c = true) :
    Calls Try.prog 41 #[.pointer (some ⟨b, 0, none⟩), .int .u8 c.toNat] w fun e w' => e = .returned (.tuple #[]) ∧ JTo w b S (m.inNumber c) w' := by
  have Hh := Lib.hid h
  have hpos := hwf.pos
  obtain ⟨sl, hb, hr, hne, hS⟩ := h

  have hf := hb.free
  have c2 : w.cell? ⟨b, 2, none⟩ = some (.int .i64 13) := by have := hb.cell 2; rw [this]; simp [jcells, hp]
  have Hp := Lib.hid hp
  clear hp
  have hd2 := hd
  simp only [digit_nat, decide_eq_true_eq, decide_eq_false_iff_not] at hd2
  obtain ⟨hd3, hd4⟩ := hd2
  have Hb := Lib.hid hb
  have Hr := Lib.hid hr
  have Hn := Lib.hid hne
  have HS := Lib.hid hS
  have Hw := Lib.hid hwf
  clear hb hr hne hS hwf
  go_enter Try.func41, Try.ntmps41
  go_wp2_with (first | (go_at_call 46; refine (digit_any _ _).mono ?_; rintro e w' ⟨rfl, rfl⟩) | (go_at_call 42; refine (ended_any 13 _ (by decide)).mono ?_; rintro e w' ⟨rfl, rfl⟩; simp only [show ended 13 = false from rfl]) | (go_at_call 36; refine Calls.mono (after_anyI b m S _ c _ Hh.out Hw.out ?_) ?_; (first | rfl | omega | (simp only [beq_iff_eq] at *; omega)); rintro e w' ⟨rfl, hto⟩) | (go_at_call 35; refine (fail_any b m S _ 0 Hh.out).mono ?_; rintro e w' ⟨rfl, hto⟩))
  all_goals try go_end0
  all_goals try refine bodyPost_ret (results_none rfl _ _ _) rfl ?_
  all_goals refine ⟨rfl, ?_⟩
  all_goals clear  c2 hf
  all_goals try simp only [beq_iff_eq, beq_eq_false_iff_ne, ne_eq, Bool.not_eq_true, Bool.not_eq_false, Bool.not_eq_eq_eq_not, Bool.not_true, Bool.not_false, digit_nat, decide_eq_true_eq, decide_eq_false_iff_not] at *
  all_goals first | (exfalso; omega) | skip
  all_goals rw [inNumber_nat, Hp.out]
  all_goals (repeat (first | rw [if_pos (by omega)] | rw [if_neg (by omega)] | rw [if_pos (by assumption)] | rw [if_neg (by simp only [*]; decide)]))
  all_goals first
    | with_reducible assumption
    | (apply jto_upd Hr.out Hn.out HS.out; (repeat (first | apply Upd.set | apply Upd.drewN | apply Upd.drew)); exact Upd.base Hb.out; (first | rfl); rfl)


set_option maxHeartbeats 1000000 in
theorem inNumber_13false (b : Nat) (m : M) (S : Nat → Prop) (w : World) (c : UInt8) (h : JMach w b m S) (hwf : JWF m) (hp : m.pos = 13) (hd : digit c = false) :
    Calls Try.prog 41 #[.pointer (some ⟨b, 0, none⟩), .int .u8 c.toNat] w fun e w' => e = .returned (.tuple #[]) ∧ JTo w b S (m.inNumber c) w' := by
  have Hh := Lib.hid h
  have hpos := hwf.pos
  obtain ⟨sl, hb, hr, hne, hS⟩ := h

  have hf := hb.free
  have c2 : w.cell? ⟨b, 2, none⟩ = some (.int .i64 13) := by have := hb.cell 2; rw [this]; simp [jcells, hp]
  have Hp := Lib.hid hp
  clear hp
  have hd2 := hd
  simp only [digit_nat, decide_eq_true_eq, decide_eq_false_iff_not] at hd2
  have Hb := Lib.hid hb
  have Hr := Lib.hid hr
  have Hn := Lib.hid hne
  have HS := Lib.hid hS
  have Hw := Lib.hid hwf
  clear hb hr hne hS hwf
  go_enter Try.func41, Try.ntmps41
  go_wp2_with (first | (go_at_call 46; refine (digit_any _ _).mono ?_; rintro e w' ⟨rfl, rfl⟩) | (go_at_call 42; refine (ended_any 13 _ (by decide)).mono ?_; rintro e w' ⟨rfl, rfl⟩; simp only [show ended 13 = false from rfl]) | (go_at_call 36; refine Calls.mono (after_anyI b m S _ c _ Hh.out Hw.out ?_) ?_; (first | rfl | omega | (simp only [beq_iff_eq] at *; omega)); rintro e w' ⟨rfl, hto⟩) | (go_at_call 35; refine (fail_any b m S _ 0 Hh.out).mono ?_; rintro e w' ⟨rfl, hto⟩))
  all_goals try go_end0
  all_goals try refine bodyPost_ret (results_none rfl _ _ _) rfl ?_
  all_goals refine ⟨rfl, ?_⟩
  all_goals clear  c2 hf
  all_goals try simp only [beq_iff_eq, beq_eq_false_iff_ne, ne_eq, Bool.not_eq_true, Bool.not_eq_false, Bool.not_eq_eq_eq_not, Bool.not_true, Bool.not_false, digit_nat, decide_eq_true_eq, decide_eq_false_iff_not] at *
  all_goals first | (exfalso; omega) | skip
  all_goals rw [inNumber_nat, Hp.out]
  all_goals (repeat (first | rw [if_pos (by omega)] | rw [if_neg (by omega)] | rw [if_pos (by assumption)] | rw [if_neg (by simp only [*]; decide)]))
  all_goals first
    | with_reducible assumption
    | (apply jto_upd Hr.out Hn.out HS.out; (repeat (first | apply Upd.set | apply Upd.drewN | apply Upd.drew)); exact Upd.base Hb.out; (first | rfl); rfl)

theorem inNumber_13 (b : Nat) (m : M) (S : Nat → Prop) (w : World) (c : UInt8) (h : JMach w b m S) (hwf : JWF m) (hp : m.pos = 13) :
    Calls Try.prog 41 #[.pointer (some ⟨b, 0, none⟩), .int .u8 c.toNat] w fun e w' => e = .returned (.tuple #[]) ∧ JTo w b S (m.inNumber c) w' := by
  cases hd : digit c with
  | true => exact inNumber_13true b m S w c h hwf hp hd
  | false => exact inNumber_13false b m S w c h hwf hp hd

set_option maxHeartbeats 1000000 in
theorem inNumber_14true (b : Nat) (m : M) (S : Nat → Prop) (w : World) (c : UInt8) (h : JMach w b m S) (hwf : JWF m) (hp : m.pos = 14) (hd : digit c = true) :
    Calls Try.prog 41 #[.pointer (some ⟨b, 0, none⟩), .int .u8 c.toNat] w fun e w' => e = .returned (.tuple #[]) ∧ JTo w b S (m.inNumber c) w' := by
  have Hh := Lib.hid h
  have hpos := hwf.pos
  obtain ⟨sl, hb, hr, hne, hS⟩ := h

  have hf := hb.free
  have c2 : w.cell? ⟨b, 2, none⟩ = some (.int .i64 14) := by have := hb.cell 2; rw [this]; simp [jcells, hp]
  have Hp := Lib.hid hp
  clear hp
  have hd2 := hd
  simp only [digit_nat, decide_eq_true_eq, decide_eq_false_iff_not] at hd2
  obtain ⟨hd3, hd4⟩ := hd2
  have Hb := Lib.hid hb
  have Hr := Lib.hid hr
  have Hn := Lib.hid hne
  have HS := Lib.hid hS
  have Hw := Lib.hid hwf
  clear hb hr hne hS hwf
  go_enter Try.func41, Try.ntmps41
  go_wp2_with (first | (go_at_call 46; refine (digit_any _ _).mono ?_; rintro e w' ⟨rfl, rfl⟩) | (go_at_call 42; refine (ended_any 14 _ (by decide)).mono ?_; rintro e w' ⟨rfl, rfl⟩; simp only [show ended 14 = true from rfl]) | (go_at_call 36; refine Calls.mono (after_anyI b m S _ c _ Hh.out Hw.out ?_) ?_; (first | rfl | omega | (simp only [beq_iff_eq] at *; omega)); rintro e w' ⟨rfl, hto⟩) | (go_at_call 35; refine (fail_any b m S _ 0 Hh.out).mono ?_; rintro e w' ⟨rfl, hto⟩))
  all_goals try go_end0
  all_goals try refine bodyPost_ret (results_none rfl _ _ _) rfl ?_
  all_goals refine ⟨rfl, ?_⟩
  all_goals clear  c2 hf
  all_goals try simp only [beq_iff_eq, beq_eq_false_iff_ne, ne_eq, Bool.not_eq_true, Bool.not_eq_false, Bool.not_eq_eq_eq_not, Bool.not_true, Bool.not_false, digit_nat, decide_eq_true_eq, decide_eq_false_iff_not] at *
  all_goals first | (exfalso; omega) | skip
  all_goals rw [inNumber_nat, Hp.out]
  all_goals (repeat (first | rw [if_pos (by omega)] | rw [if_neg (by omega)] | rw [if_pos (by assumption)] | rw [if_neg (by simp only [*]; decide)]))
  all_goals first
    | with_reducible assumption
    | (apply jto_upd Hr.out Hn.out HS.out; (repeat (first | apply Upd.set | apply Upd.drewN | apply Upd.drew)); exact Upd.base Hb.out; (first | rfl); rfl)


set_option maxHeartbeats 1000000 in
theorem inNumber_14false (b : Nat) (m : M) (S : Nat → Prop) (w : World) (c : UInt8) (h : JMach w b m S) (hwf : JWF m) (hp : m.pos = 14) (hd : digit c = false) :
    Calls Try.prog 41 #[.pointer (some ⟨b, 0, none⟩), .int .u8 c.toNat] w fun e w' => e = .returned (.tuple #[]) ∧ JTo w b S (m.inNumber c) w' := by
  have Hh := Lib.hid h
  have hpos := hwf.pos
  obtain ⟨sl, hb, hr, hne, hS⟩ := h

  have hf := hb.free
  have c2 : w.cell? ⟨b, 2, none⟩ = some (.int .i64 14) := by have := hb.cell 2; rw [this]; simp [jcells, hp]
  have Hp := Lib.hid hp
  clear hp
  have hd2 := hd
  simp only [digit_nat, decide_eq_true_eq, decide_eq_false_iff_not] at hd2
  have Hb := Lib.hid hb
  have Hr := Lib.hid hr
  have Hn := Lib.hid hne
  have HS := Lib.hid hS
  have Hw := Lib.hid hwf
  clear hb hr hne hS hwf
  go_enter Try.func41, Try.ntmps41
  go_wp2_with (first | (go_at_call 46; refine (digit_any _ _).mono ?_; rintro e w' ⟨rfl, rfl⟩) | (go_at_call 42; refine (ended_any 14 _ (by decide)).mono ?_; rintro e w' ⟨rfl, rfl⟩; simp only [show ended 14 = true from rfl]) | (go_at_call 36; refine Calls.mono (after_anyI b m S _ c _ Hh.out Hw.out ?_) ?_; (first | rfl | omega | (simp only [beq_iff_eq] at *; omega)); rintro e w' ⟨rfl, hto⟩) | (go_at_call 35; refine (fail_any b m S _ 0 Hh.out).mono ?_; rintro e w' ⟨rfl, hto⟩))
  all_goals try go_end0
  all_goals try refine bodyPost_ret (results_none rfl _ _ _) rfl ?_
  all_goals refine ⟨rfl, ?_⟩
  all_goals clear  c2 hf
  all_goals try simp only [beq_iff_eq, beq_eq_false_iff_ne, ne_eq, Bool.not_eq_true, Bool.not_eq_false, Bool.not_eq_eq_eq_not, Bool.not_true, Bool.not_false, digit_nat, decide_eq_true_eq, decide_eq_false_iff_not] at *
  all_goals first | (exfalso; omega) | skip
  all_goals rw [inNumber_nat, Hp.out]
  all_goals (repeat (first | rw [if_pos (by omega)] | rw [if_neg (by omega)] | rw [if_pos (by assumption)] | rw [if_neg (by simp only [*]; decide)]))
  all_goals first
    | with_reducible assumption
    | (apply jto_upd Hr.out Hn.out HS.out; (repeat (first | apply Upd.set | apply Upd.drewN | apply Upd.drew)); exact Upd.base Hb.out; (first | rfl); rfl)

theorem inNumber_14 (b : Nat) (m : M) (S : Nat → Prop) (w : World) (c : UInt8) (h : JMach w b m S) (hwf : JWF m) (hp : m.pos = 14) :
    Calls Try.prog 41 #[.pointer (some ⟨b, 0, none⟩), .int .u8 c.toNat] w fun e w' => e = .returned (.tuple #[]) ∧ JTo w b S (m.inNumber c) w' := by
  cases hd : digit c with
  | true => exact inNumber_14true b m S w c h hwf hp hd
  | false => exact inNumber_14false b m S w c h hwf hp hd

set_option maxHeartbeats 1000000 in
theorem inNumber_15true (b : Nat) (m : M) (S : Nat → Prop) (w : World) (c : UInt8) (h : JMach w b m S) (hwf : JWF m) (hp : m.pos = 15) (hd : digit c = true) :
    Calls Try.prog 41 #[.pointer (some ⟨b, 0, none⟩), .int .u8 c.toNat] w fun e w' => e = .returned (.tuple #[]) ∧ JTo w b S (m.inNumber c) w' := by
  have Hh := Lib.hid h
  have hpos := hwf.pos
  obtain ⟨sl, hb, hr, hne, hS⟩ := h

  have hf := hb.free
  have c2 : w.cell? ⟨b, 2, none⟩ = some (.int .i64 15) := by have := hb.cell 2; rw [this]; simp [jcells, hp]
  have Hp := Lib.hid hp
  clear hp
  have hd2 := hd
  simp only [digit_nat, decide_eq_true_eq, decide_eq_false_iff_not] at hd2
  obtain ⟨hd3, hd4⟩ := hd2
  have Hb := Lib.hid hb
  have Hr := Lib.hid hr
  have Hn := Lib.hid hne
  have HS := Lib.hid hS
  have Hw := Lib.hid hwf
  clear hb hr hne hS hwf
  go_enter Try.func41, Try.ntmps41
  go_wp2_with (first | (go_at_call 46; refine (digit_any _ _).mono ?_; rintro e w' ⟨rfl, rfl⟩) | (go_at_call 42; refine (ended_any 15 _ (by decide)).mono ?_; rintro e w' ⟨rfl, rfl⟩; simp only [show ended 15 = false from rfl]) | (go_at_call 36; refine Calls.mono (after_anyI b m S _ c _ Hh.out Hw.out ?_) ?_; (first | rfl | omega | (simp only [beq_iff_eq] at *; omega)); rintro e w' ⟨rfl, hto⟩) | (go_at_call 35; refine (fail_any b m S _ 0 Hh.out).mono ?_; rintro e w' ⟨rfl, hto⟩))
  all_goals try go_end0
  all_goals try refine bodyPost_ret (results_none rfl _ _ _) rfl ?_
  all_goals refine ⟨rfl, ?_⟩
  all_goals clear  c2 hf
  all_goals try simp only [beq_iff_eq, beq_eq_false_iff_ne, ne_eq, Bool.not_eq_true, Bool.not_eq_false, Bool.not_eq_eq_eq_not, Bool.not_true, Bool.not_false, digit_nat, decide_eq_true_eq, decide_eq_false_iff_not] at *
  all_goals first | (exfalso; omega) | skip
  all_goals rw [inNumber_nat, Hp.out]
  all_goals (repeat (first | rw [if_pos (by omega)] | rw [if_neg (by omega)] | rw [if_pos (by assumption)] | rw [if_neg (by simp only [*]; decide)]))
  all_goals first
    | with_reducible assumption
    | (apply jto_upd Hr.out Hn.out HS.out; (repeat (first | apply Upd.set | apply Upd.drewN | apply Upd.drew)); exact Upd.base Hb.out; (first | rfl); rfl)


set_option maxHeartbeats 1000000 in
theorem inNumber_15false (b : Nat) (m : M) (S : Nat → Prop) (w : World) (c : UInt8) (h : JMach w b m S) (hwf : JWF m) (hp : m.pos = 15) (hd : digit c = false) :
    Calls Try.prog 41 #[.pointer (some ⟨b, 0, none⟩), .int .u8 c.toNat] w fun e w' => e = .returned (.tuple #[]) ∧ JTo w b S (m.inNumber c) w' := by
  have Hh := Lib.hid h
  have hpos := hwf.pos
  obtain ⟨sl, hb, hr, hne, hS⟩ := h

  have hf := hb.free
  have c2 : w.cell? ⟨b, 2, none⟩ = some (.int .i64 15) := by have := hb.cell 2; rw [this]; simp [jcells, hp]
  have Hp := Lib.hid hp
  clear hp
  have hd2 := hd
  simp only [digit_nat, decide_eq_true_eq, decide_eq_false_iff_not] at hd2
  have Hb := Lib.hid hb
  have Hr := Lib.hid hr
  have Hn := Lib.hid hne
  have HS := Lib.hid hS
  have Hw := Lib.hid hwf
  clear hb hr hne hS hwf
  go_enter Try.func41, Try.ntmps41
  go_wp2_with (first | (go_at_call 46; refine (digit_any _ _).mono ?_; rintro e w' ⟨rfl, rfl⟩) | (go_at_call 42; refine (ended_any 15 _ (by decide)).mono ?_; rintro e w' ⟨rfl, rfl⟩; simp only [show ended 15 = false from rfl]) | (go_at_call 36; refine Calls.mono (after_anyI b m S _ c _ Hh.out Hw.out ?_) ?_; (first | rfl | omega | (simp only [beq_iff_eq] at *; omega)); rintro e w' ⟨rfl, hto⟩) | (go_at_call 35; refine (fail_any b m S _ 0 Hh.out).mono ?_; rintro e w' ⟨rfl, hto⟩))
  all_goals try go_end0
  all_goals try refine bodyPost_ret (results_none rfl _ _ _) rfl ?_
  all_goals refine ⟨rfl, ?_⟩
  all_goals clear  c2 hf
  all_goals try simp only [beq_iff_eq, beq_eq_false_iff_ne, ne_eq, Bool.not_eq_true, Bool.not_eq_false, Bool.not_eq_eq_eq_not, Bool.not_true, Bool.not_false, digit_nat, decide_eq_true_eq, decide_eq_false_iff_not] at *
  all_goals first | (exfalso; omega) | skip
  all_goals rw [inNumber_nat, Hp.out]
  all_goals (repeat (first | rw [if_pos (by omega)] | rw [if_neg (by omega)] | rw [if_pos (by assumption)] | rw [if_neg (by simp only [*]; decide)]))
  all_goals first
    | with_reducible assumption
    | (apply jto_upd Hr.out Hn.out HS.out; (repeat (first | apply Upd.set | apply Upd.drewN | apply Upd.drew)); exact Upd.base Hb.out; (first | rfl); rfl)

theorem inNumber_15 (b : Nat) (m : M) (S : Nat → Prop) (w : World) (c : UInt8) (h : JMach w b m S) (hwf : JWF m) (hp : m.pos = 15) :
    Calls Try.prog 41 #[.pointer (some ⟨b, 0, none⟩), .int .u8 c.toNat] w fun e w' => e = .returned (.tuple #[]) ∧ JTo w b S (m.inNumber c) w' := by
  cases hd : digit c with
  | true => exact inNumber_15true b m S w c h hwf hp hd
  | false => exact inNumber_15false b m S w c h hwf hp hd

set_option maxHeartbeats 1000000 in
theorem inNumber_16true (b : Nat) (m : M) (S : Nat → Prop) (w : World) (c : UInt8) (h : JMach w b m S) (hwf : JWF m) (hp : m.pos = 16) (hd : digit c = true) :
    Calls Try.prog 41 #[.pointer (some ⟨b, 0, none⟩), .int .u8 c.toNat] w fun e w' => e = .returned (.tuple #[]) ∧ JTo w b S (m.inNumber c) w' := by
  have Hh := Lib.hid h
  have hpos := hwf.pos
  obtain ⟨sl, hb, hr, hne, hS⟩ := h

  have hf := hb.free
  have c2 : w.cell? ⟨b, 2, none⟩ = some (.int .i64 16) := by have := hb.cell 2; rw [this]; simp [jcells, hp]
  have Hp := Lib.hid hp
  clear hp
  have hd2 := hd
  simp only [digit_nat, decide_eq_true_eq, decide_eq_false_iff_not] at hd2
  obtain ⟨hd3, hd4⟩ := hd2
  have Hb := Lib.hid hb
  have Hr := Lib.hid hr
  have Hn := Lib.hid hne
  have HS := Lib.hid hS
  have Hw := Lib.hid hwf
  clear hb hr hne hS hwf
  go_enter Try.func41, Try.ntmps41
  go_wp2_with (first | (go_at_call 46; refine (digit_any _ _).mono ?_; rintro e w' ⟨rfl, rfl⟩) | (go_at_call 42; refine (ended_any 16 _ (by decide)).mono ?_; rintro e w' ⟨rfl, rfl⟩; simp only [show ended 16 = false from rfl]) | (go_at_call 36; refine Calls.mono (after_anyI b m S _ c _ Hh.out Hw.out ?_) ?_; (first | rfl | omega | (simp only [beq_iff_eq] at *; omega)); rintro e w' ⟨rfl, hto⟩) | (go_at_call 35; refine (fail_any b m S _ 0 Hh.out).mono ?_; rintro e w' ⟨rfl, hto⟩))
  all_goals try go_end0
  all_goals try refine bodyPost_ret (results_none rfl _ _ _) rfl ?_
  all_goals refine ⟨rfl, ?_⟩
  all_goals clear  c2 hf
  all_goals try simp only [beq_iff_eq, beq_eq_false_iff_ne, ne_eq, Bool.not_eq_true, Bool.not_eq_false, Bool.not_eq_eq_eq_not, Bool.not_true, Bool.not_false, digit_nat, decide_eq_true_eq, decide_eq_false_iff_not] at *
  all_goals first | (exfalso; omega) | skip
  all_goals rw [inNumber_nat, Hp.out]
  all_goals (repeat (first | rw [if_pos (by omega)] | rw [if_neg (by omega)] | rw [if_pos (by assumption)] | rw [if_neg (by simp only [*]; decide)]))
  all_goals first
    | with_reducible assumption
    | (apply jto_upd Hr.out Hn.out HS.out; (repeat (first | apply Upd.set | apply Upd.drewN | apply Upd.drew)); exact Upd.base Hb.out; (first | rfl); rfl)


set_option maxHeartbeats 1000000 in
theorem inNumber_16false (b : Nat) (m : M) (S : Nat → Prop) (w : World) (c : UInt8) (h : JMach w b m S) (hwf : JWF m) (hp : m.pos = 16) (hd : digit c = false) :
    Calls Try.prog 41 #[.pointer (some ⟨b, 0, none⟩), .int .u8 c.toNat] w fun e w' => e = .returned (.tuple #[]) ∧ JTo w b S (m.inNumber c) w' := by
  have Hh := Lib.hid h
  have hpos := hwf.pos
  obtain ⟨sl, hb, hr, hne, hS⟩ := h

  have hf := hb.free
  have c2 : w.cell? ⟨b, 2, none⟩ = some (.int .i64 16) := by have := hb.cell 2; rw [this]; simp [jcells, hp]
  have Hp := Lib.hid hp
  clear hp
  have hd2 := hd
  simp only [digit_nat, decide_eq_true_eq, decide_eq_false_iff_not] at hd2
  have Hb := Lib.hid hb
  have Hr := Lib.hid hr
  have Hn := Lib.hid hne
  have HS := Lib.hid hS
  have Hw := Lib.hid hwf
  clear hb hr hne hS hwf
  go_enter Try.func41, Try.ntmps41
  go_wp2_with (first | (go_at_call 46; refine (digit_any _ _).mono ?_; rintro e w' ⟨rfl, rfl⟩) | (go_at_call 42; refine (ended_any 16 _ (by decide)).mono ?_; rintro e w' ⟨rfl, rfl⟩; simp only [show ended 16 = false from rfl]) | (go_at_call 36; refine Calls.mono (after_anyI b m S _ c _ Hh.out Hw.out ?_) ?_; (first | rfl | omega | (simp only [beq_iff_eq] at *; omega)); rintro e w' ⟨rfl, hto⟩) | (go_at_call 35; refine (fail_any b m S _ 0 Hh.out).mono ?_; rintro e w' ⟨rfl, hto⟩))
  all_goals try go_end0
  all_goals try refine bodyPost_ret (results_none rfl _ _ _) rfl ?_
  all_goals refine ⟨rfl, ?_⟩
  all_goals clear  c2 hf
  all_goals try simp only [beq_iff_eq, beq_eq_false_iff_ne, ne_eq, Bool.not_eq_true, Bool.not_eq_false, Bool.not_eq_eq_eq_not, Bool.not_true, Bool.not_false, digit_nat, decide_eq_true_eq, decide_eq_false_iff_not] at *
  all_goals first | (exfalso; omega) | skip
  all_goals rw [inNumber_nat, Hp.out]
  all_goals (repeat (first | rw [if_pos (by omega)] | rw [if_neg (by omega)] | rw [if_pos (by assumption)] | rw [if_neg (by simp only [*]; decide)]))
  all_goals first
    | with_reducible assumption
    | (apply jto_upd Hr.out Hn.out HS.out; (repeat (first | apply Upd.set | apply Upd.drewN | apply Upd.drew)); exact Upd.base Hb.out; (first | rfl); rfl)

theorem inNumber_16 (b : Nat) (m : M) (S : Nat → Prop) (w : World) (c : UInt8) (h : JMach w b m S) (hwf : JWF m) (hp : m.pos = 16) :
    Calls Try.prog 41 #[.pointer (some ⟨b, 0, none⟩), .int .u8 c.toNat] w fun e w' => e = .returned (.tuple #[]) ∧ JTo w b S (m.inNumber c) w' := by
  cases hd : digit c with
  | true => exact inNumber_16true b m S w c h hwf hp hd
  | false => exact inNumber_16false b m S w c h hwf hp hd

set_option maxHeartbeats 1000000 in
theorem inNumber_17true (b : Nat) (m : M) (S : Nat → Prop) (w : World) (c : UInt8) (h : JMach w b m S) (hwf : JWF m) (hp : m.pos = 17) (hd : digit c = true) :
    Calls Try.prog 41 #[.pointer (some ⟨b, 0, none⟩), .int .u8 c.toNat] w fun e w' => e = .returned (.tuple #[]) ∧ JTo w b S (m.inNumber c) w' := by
  have Hh := Lib.hid h
  have hpos := hwf.pos
  obtain ⟨sl, hb, hr, hne, hS⟩ := h

  have hf := hb.free
  have c2 : w.cell? ⟨b, 2, none⟩ = some (.int .i64 17) := by have := hb.cell 2; rw [this]; simp [jcells, hp]
  have Hp := Lib.hid hp
  clear hp
  have hd2 := hd
  simp only [digit_nat, decide_eq_true_eq, decide_eq_false_iff_not] at hd2
  obtain ⟨hd3, hd4⟩ := hd2
  have Hb := Lib.hid hb
  have Hr := Lib.hid hr
  have Hn := Lib.hid hne
  have HS := Lib.hid hS
  have Hw := Lib.hid hwf
  clear hb hr hne hS hwf
  go_enter Try.func41, Try.ntmps41
  go_wp2_with (first | (go_at_call 46; refine (digit_any _ _).mono ?_; rintro e w' ⟨rfl, rfl⟩) | (go_at_call 42; refine (ended_any 17 _ (by decide)).mono ?_; rintro e w' ⟨rfl, rfl⟩; simp only [show ended 17 = true from rfl]) | (go_at_call 36; refine Calls.mono (after_anyI b m S _ c _ Hh.out Hw.out ?_) ?_; (first | rfl | omega | (simp only [beq_iff_eq] at *; omega)); rintro e w' ⟨rfl, hto⟩) | (go_at_call 35; refine (fail_any b m S _ 0 Hh.out).mono ?_; rintro e w' ⟨rfl, hto⟩))
  all_goals try go_end0
  all_goals try refine bodyPost_ret (results_none rfl _ _ _) rfl ?_
  all_goals refine ⟨rfl, ?_⟩
  all_goals clear  c2 hf
  all_goals try simp only [beq_iff_eq, beq_eq_false_iff_ne, ne_eq, Bool.not_eq_true, Bool.not_eq_false, Bool.not_eq_eq_eq_not, Bool.not_true, Bool.not_false, digit_nat, decide_eq_true_eq, decide_eq_false_iff_not] at *
  all_goals first | (exfalso; omega) | skip
  all_goals rw [inNumber_nat, Hp.out]
  all_goals (repeat (first | rw [if_pos (by omega)] | rw [if_neg (by omega)] | rw [if_pos (by assumption)] | rw [if_neg (by simp only [*]; decide)]))
  all_goals first
    | with_reducible assumption
    | (apply jto_upd Hr.out Hn.out HS.out; (repeat (first | apply Upd.set | apply Upd.drewN | apply Upd.drew)); exact Upd.base Hb.out; (first | rfl); rfl)


set_option maxHeartbeats 1000000 in
theorem inNumber_17false (b : Nat) (m : M) (S : Nat → Prop) (w : World) (c : UInt8) (h : JMach w b m S) (hwf : JWF m) (hp : m.pos = 17) (hd : digit c = false) :
    Calls Try.prog 41 #[.pointer (some ⟨b, 0, none⟩), .int .u8 c.toNat] w fun e w' => e = .returned (.tuple #[]) ∧ JTo w b S (m.inNumber c) w' := by
  have Hh := Lib.hid h
  have hpos := hwf.pos
  obtain ⟨sl, hb, hr, hne, hS⟩ := h

  have hf := hb.free
  have c2 : w.cell? ⟨b, 2, none⟩ = some (.int .i64 17) := by have := hb.cell 2; rw [this]; simp [jcells, hp]
  have Hp := Lib.hid hp
  clear hp
  have hd2 := hd
  simp only [digit_nat, decide_eq_true_eq, decide_eq_false_iff_not] at hd2
  have Hb := Lib.hid hb
  have Hr := Lib.hid hr
  have Hn := Lib.hid hne
  have HS := Lib.hid hS
  have Hw := Lib.hid hwf
  clear hb hr hne hS hwf
  go_enter Try.func41, Try.ntmps41
  go_wp2_with (first | (go_at_call 46; refine (digit_any _ _).mono ?_; rintro e w' ⟨rfl, rfl⟩) | (go_at_call 42; refine (ended_any 17 _ (by decide)).mono ?_; rintro e w' ⟨rfl, rfl⟩; simp only [show ended 17 = true from rfl]) | (go_at_call 36; refine Calls.mono (after_anyI b m S _ c _ Hh.out Hw.out ?_) ?_; (first | rfl | omega | (simp only [beq_iff_eq] at *; omega)); rintro e w' ⟨rfl, hto⟩) | (go_at_call 35; refine (fail_any b m S _ 0 Hh.out).mono ?_; rintro e w' ⟨rfl, hto⟩))
  all_goals try go_end0
  all_goals try refine bodyPost_ret (results_none rfl _ _ _) rfl ?_
  all_goals refine ⟨rfl, ?_⟩
  all_goals clear  c2 hf
  all_goals try simp only [beq_iff_eq, beq_eq_false_iff_ne, ne_eq, Bool.not_eq_true, Bool.not_eq_false, Bool.not_eq_eq_eq_not, Bool.not_true, Bool.not_false, digit_nat, decide_eq_true_eq, decide_eq_false_iff_not] at *
  all_goals first | (exfalso; omega) | skip
  all_goals rw [inNumber_nat, Hp.out]
  all_goals (repeat (first | rw [if_pos (by omega)] | rw [if_neg (by omega)] | rw [if_pos (by assumption)] | rw [if_neg (by simp only [*]; decide)]))
  all_goals first
    | with_reducible assumption
    | (apply jto_upd Hr.out Hn.out HS.out; (repeat (first | apply Upd.set | apply Upd.drewN | apply Upd.drew)); exact Upd.base Hb.out; (first | rfl); rfl)

theorem inNumber_17 (b : Nat) (m : M) (S : Nat → Prop) (w : World) (c : UInt8) (h : JMach w b m S) (hwf : JWF m) (hp : m.pos = 17) :
    Calls Try.prog 41 #[.pointer (some ⟨b, 0, none⟩), .int .u8 c.toNat] w fun e w' => e = .returned (.tuple #[]) ∧ JTo w b S (m.inNumber c) w' := by
  cases hd : digit c with
  | true => exact inNumber_17true b m S w c h hwf hp hd
  | false => exact inNumber_17false b m S w c h hwf hp hd
theorem inNumber_any (b : Nat) (m : M) (S : Nat → Prop) (w : World) (c : UInt8) (h : JMach w b m S) (hwf : JWF m) (h10 : 10 ≤ m.pos) :
    Calls Try.prog 41 #[.pointer (some ⟨b, 0, none⟩), .int .u8 c.toNat] w fun e w' => e = .returned (.tuple #[]) ∧ JTo w b S (m.inNumber c) w' := by
  have h17 := hwf.pos
  have : m.pos = 10 ∨ m.pos = 11 ∨ m.pos = 12 ∨ m.pos = 13 ∨ m.pos = 14 ∨ m.pos = 15 ∨ m.pos = 16 ∨ m.pos = 17 := by omega
  rcases this with e | e | e | e | e | e | e | e
  · exact inNumber_10 b m S w c h hwf e
  · exact inNumber_11 b m S w c h hwf e
  · exact inNumber_12 b m S w c h hwf e
  · exact inNumber_13 b m S w c h hwf e
  · exact inNumber_14 b m S w c h hwf e
  · exact inNumber_15 b m S w c h hwf e
  · exact inNumber_16 b m S w c h hwf e
  · exact inNumber_17 b m S w c h hwf e
end Go.Proofs.Ytpelmepidboikaa
