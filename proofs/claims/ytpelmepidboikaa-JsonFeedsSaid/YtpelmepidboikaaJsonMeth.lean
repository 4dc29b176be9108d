/-
  The walks of the JSON machine's methods that call others.
-/
import Derived.Test.YtpelmepidboikaaJsonMach
import Derived.Test.YtpelmepidboikaaShelf
set_option linter.unusedSimpArgs false
set_option linter.unusedVariables false
namespace Go.Proofs.Ytpelmepidboikaa
open Go.RowKit Go.Tg Tg.Json

theorem u8_iff (c k : UInt8) : (c = k) ↔ c.toNat = k.toNat := UInt8.toNat_inj.symm

theorem white_nat (c : UInt8) : white c = decide (c.toNat = 32 ∨ c.toNat = 9 ∨ c.toNat = 10 ∨ c.toNat = 13) := by
  rw [Bool.eq_iff_iff]; simp [white, u8_iff]; omega
theorem digit_nat (c : UInt8) : digit c = decide (48 ≤ c.toNat ∧ c.toNat ≤ 57) := by
  rw [Bool.eq_iff_iff]; simp [digit, UInt8.le_iff_toNat_le]
theorem hex_nat (c : UInt8) : hex c = decide ((48 ≤ c.toNat ∧ c.toNat ≤ 57) ∨ (97 ≤ c.toNat ∧ c.toNat ≤ 102) ∨ (65 ≤ c.toNat ∧ c.toNat ≤ 70)) := by
  rw [Bool.eq_iff_iff]; simp [hex, digit, UInt8.le_iff_toNat_le]; omega


theorem white_any (c : UInt8) (w : World) :
    Calls Try.prog 23 #[.int .u8 c.toNat] w fun e w' => e = .returned (.bool (white c)) ∧ w = w' := by
  rw [white_nat]
  go_enter Try.func23, Try.ntmps23
  go_wp2
  all_goals go_ret
  all_goals (refine ⟨ret_bool ?_, rfl⟩; try simp only [beq_iff_eq, beq_eq_false_iff_ne, ne_eq] at *)
  all_goals (rw [Bool.eq_iff_iff]; simp; try omega)


theorem digit0_any (c : UInt8) (w : World) :
    Calls Try.prog 50 #[.int .u8 c.toNat] w fun e w' => e = .returned (.bool (digit c)) ∧ w = w' := by
  rw [digit_nat]
  go_enter Try.func50, Try.ntmps50
  go_wp2
  all_goals go_ret
  all_goals (refine ⟨ret_bool ?_, rfl⟩; try simp only [beq_iff_eq, beq_eq_false_iff_ne, ne_eq] at *)
  all_goals (rw [Bool.eq_iff_iff]; simp; try omega)


theorem digit_any (c : UInt8) (w : World) :
    Calls Try.prog 46 #[.int .u8 c.toNat] w fun e w' => e = .returned (.bool (digit c)) ∧ w = w' := by
  go_enter Try.func46, Try.ntmps46
  go_wp2_with (go_at_call 50; refine (digit0_any _ _).mono ?_; rintro e w' ⟨rfl, rfl⟩)
  go_ret
  exact ⟨rfl, rfl⟩
/-- is it a digit to the base 16 -/
theorem hex_any (c : UInt8) (w : World) :
    Calls Try.prog 49 #[.int .u8 c.toNat] w fun e w' => (∃ n : Int, e = .returned (.tuple #[.int .i64 n, .bool (hex c)])) ∧ w = w' := by
  have hh := hex_nat c
  have hd := digit_nat c
  go_enter Try.func49, Try.ntmps49
  go_wp2_with (go_at_call 50; refine (digit0_any _ _).mono ?_; rintro e w' ⟨rfl, rfl⟩)
  all_goals go_ret2
  all_goals (refine ⟨⟨_, congrArg (fun b => Ending.returned (.tuple #[.int .i64 _, .bool b])) ?_⟩, rfl⟩; try simp only [beq_iff_eq, beq_eq_false_iff_ne, ne_eq] at *)
  all_goals (try rw [hh]) 
  all_goals (rw [Bool.eq_iff_iff]; simp; try omega)

theorem inText_nat (m : M) (b : UInt8) : m.inText b =
  if b.toNat = 34 then (if m.key = true then { m with pos := 4 } else { m with pos := 5 })
  else if b.toNat = 92 then { m with pos := 7 }
  else if b.toNat < 32 then m.fail 0
  else m := by simp only [M.inText, u8_iff, UInt8.lt_iff_toNat_lt, UInt8.reduceToNat]


set_option maxHeartbeats 1000000 in
theorem inText_any (b : Nat) (m : M) (S : Nat → Prop) (w : World) (c : UInt8) (h : JMach w b m S) (hwf : JWF m) :
    Calls Try.prog 37 #[.pointer (some ⟨b, 0, none⟩), .int .u8 c.toNat] w fun e w' => e = .returned (.tuple #[]) ∧ JTo w b S (m.inText c) w' := by
  have Hh := Lib.hid h
  have hpos := hwf.pos
  obtain ⟨sl, hb, hr, hne, hS⟩ := h
  have c3 : w.cell? ⟨b, 3, none⟩ = some (.bool m.key) := hb.cell 3
  have hf := hb.free
  have c2 : w.cell? ⟨b, 2, none⟩ = some (.int .i64 m.pos) := hb.cell 2
  have Hb := Lib.hid hb
  have Hr := Lib.hid hr
  have Hn := Lib.hid hne
  have HS := Lib.hid hS
  have Hw := Lib.hid hwf
  clear hb hr hne hS hwf
  go_enter Try.func37, Try.ntmps37
  go_wp2_with (first | (go_at_call 35; refine (fail_any b m S _ 0 Hh.out).mono ?_; rintro e w' ⟨rfl, hto⟩))
  all_goals try go_end0
  all_goals try refine bodyPost_ret (results_none rfl _ _ _) rfl ?_
  all_goals refine ⟨rfl, ?_⟩
  all_goals clear c3 c2 hf
  all_goals try simp only [beq_iff_eq, beq_eq_false_iff_ne, ne_eq, Bool.not_eq_true, Bool.not_eq_false, Bool.not_eq_eq_eq_not, Bool.not_true, Bool.not_false] at *
  all_goals first | (exfalso; omega) | skip
  all_goals rw [inText_nat]
  all_goals (repeat (first | rw [if_pos (by omega)] | rw [if_neg (by omega)] | rw [if_pos (by assumption)] | rw [if_neg (by simp only [*]; decide)]))
  all_goals first
    | with_reducible assumption
    | (apply jto_upd Hr.out Hn.out HS.out; (repeat (first | apply Upd.set | apply Upd.drewN | apply Upd.drew)); exact Upd.base Hb.out; (first | rfl); rfl)


theorem inSlash_nat (m : M) (b : UInt8) : m.inSlash b = if b.toNat = 117 then { m with pos := 8, hex := 4 } else if esc b = true then { m with pos := 6 } else m.fail 0 := by
  simp only [M.inSlash, u8_iff, UInt8.reduceToNat]
theorem esc_index (c : UInt8) : (0 : Int) ≤ Lib.indexByte [34, 92, 47, 98, 102, 110, 114, 116] c ↔ esc c = true := by
  have h : ∀ n : Fin 256, (decide ((0 : Int) ≤ Lib.indexByte [34, 92, 47, 98, 102, 110, 114, 116] (UInt8.ofNat n.val)) = esc (UInt8.ofNat n.val)) := by decide +kernel
  have := h ⟨c.toNat, UInt8.toNat_lt c⟩
  simp only [UInt8.ofNat_toNat] at this
  rw [← this]; simp
theorem esc_any (c : UInt8) (w : World) :
    Calls Try.prog 48 #[.string ⟨#[34, 92, 47, 98, 102, 110, 114, 116]⟩, .int .u8 c.toNat] w fun e w' => (∃ n : Int, e = .returned (.int .i64 n) ∧ ((0 ≤ n ∧ esc c = true) ∨ (n < 0 ∧ esc c = false))) ∧ w = w' := by
  refine (Try.strings_IndexByte _ _ _).mono ?_
  rintro e w' ⟨rfl, rfl⟩
  refine ⟨⟨_, rfl, ?_⟩, rfl⟩
  have := esc_index c
  simp only [Int.toNat_natCast, UInt8.ofNat_toNat, Nat.toUInt8] at *
  by_cases h : esc c = true
  · exact .inl ⟨this.2 h, h⟩
  · exact .inr ⟨Int.not_le.1 (fun x => h (this.1 x)), by simpa using h⟩


set_option maxHeartbeats 1000000 in
theorem inSlash_any (b : Nat) (m : M) (S : Nat → Prop) (w : World) (c : UInt8) (h : JMach w b m S) (hwf : JWF m) :
    Calls Try.prog 38 #[.pointer (some ⟨b, 0, none⟩), .int .u8 c.toNat] w fun e w' => e = .returned (.tuple #[]) ∧ JTo w b S (m.inSlash c) w' := by
  have Hh := Lib.hid h
  have hpos := hwf.pos
  obtain ⟨sl, hb, hr, hne, hS⟩ := h
  have c5 : w.cell? ⟨b, 5, none⟩ = some (.int .i64 m.hex) := hb.cell 5
  have hf := hb.free
  have c2 : w.cell? ⟨b, 2, none⟩ = some (.int .i64 m.pos) := hb.cell 2
  have Hb := Lib.hid hb
  have Hr := Lib.hid hr
  have Hn := Lib.hid hne
  have HS := Lib.hid hS
  have Hw := Lib.hid hwf
  clear hb hr hne hS hwf
  go_enter Try.func38, Try.ntmps38
  go_wp2_with (first | (go_at_call 48; refine (esc_any _ _).mono ?_; rintro e w' ⟨⟨n, rfl, ⟨hn, he⟩ | ⟨hn, he⟩⟩, rfl⟩) | (go_at_call 35; refine (fail_any b m S _ 0 Hh.out).mono ?_; rintro e w' ⟨rfl, hto⟩))
  all_goals try go_end0
  all_goals try refine bodyPost_ret (results_none rfl _ _ _) rfl ?_
  all_goals refine ⟨rfl, ?_⟩
  all_goals clear c5 c2 hf
  all_goals try simp only [beq_iff_eq, beq_eq_false_iff_ne, ne_eq, Bool.not_eq_true, Bool.not_eq_false, Bool.not_eq_eq_eq_not, Bool.not_true, Bool.not_false] at *
  all_goals first | (exfalso; omega) | skip
  all_goals rw [inSlash_nat]
  all_goals (repeat (first | rw [if_pos (by omega)] | rw [if_neg (by omega)] | rw [if_pos (by assumption)] | rw [if_neg (by simp only [*]; decide)]))
  all_goals first
    | with_reducible assumption
    | (apply jto_upd Hr.out Hn.out HS.out; (repeat (first | apply Upd.set | apply Upd.drewN | apply Upd.drew)); exact Upd.base Hb.out; (first | rfl); rfl)


theorem inUnicode_nat (m : M) (b : UInt8) : m.inUnicode b = if hex b = true then (if m.hex - 1 = 0 then { m with pos := 6, hex := m.hex - 1 } else { m with hex := m.hex - 1 }) else m.fail 0 := by
  simp only [M.inUnicode]


set_option maxHeartbeats 1000000 in
theorem inUnicode_any (b : Nat) (m : M) (S : Nat → Prop) (w : World) (c : UInt8) (h : JMach w b m S) (hwf : JWF m) (hp : m.pos = 8) :
    Calls Try.prog 39 #[.pointer (some ⟨b, 0, none⟩), .int .u8 c.toNat] w fun e w' => e = .returned (.tuple #[]) ∧ JTo w b S (m.inUnicode c) w' := by
  have Hh := Lib.hid h
  have hpos := hwf.pos
  obtain ⟨sl, hb, hr, hne, hS⟩ := h

  have hf := hb.free
  have c2 : w.cell? ⟨b, 2, none⟩ = some (.int .i64 m.pos) := hb.cell 2
  obtain ⟨k, hk⟩ : ∃ k, m.hex = k + 1 := ⟨m.hex - 1, by have := hwf.hex1 hp; omega⟩
  have c5 : w.cell? ⟨b, 5, none⟩ = some (.int .i64 ((k : Int) + 1)) := by have := hb.cell 5; rw [this]; simp [jcells, hk]
  have hk1' : m.hex - 1 = k := by omega
  have Hk := Lib.hid hk1'
  have hk4 : k ≤ 3 := by have := hwf.hex; omega
  clear hk hk1' hp
  have Hb := Lib.hid hb
  have Hr := Lib.hid hr
  have Hn := Lib.hid hne
  have HS := Lib.hid hS
  have Hw := Lib.hid hwf
  clear hb hr hne hS hwf
  go_enter Try.func39, Try.ntmps39
  go_wp2_with (first | (go_at_call 49; refine (hex_any _ _).mono ?_; rintro e w' ⟨⟨n, rfl⟩, rfl⟩) | (go_at_call 35; refine (fail_any b m S _ 0 Hh.out).mono ?_; rintro e w' ⟨rfl, hto⟩))
  all_goals try go_end0
  all_goals try refine bodyPost_ret (results_none rfl _ _ _) rfl ?_
  all_goals refine ⟨rfl, ?_⟩
  all_goals clear c5 c2 hf
  all_goals try simp only [beq_iff_eq, beq_eq_false_iff_ne, ne_eq, Bool.not_eq_true, Bool.not_eq_false, Bool.not_eq_eq_eq_not, Bool.not_true, Bool.not_false] at *
  all_goals first | (exfalso; omega) | skip
  all_goals rw [inUnicode_nat]
  all_goals have hk1 := Hk.out
  all_goals (repeat (first | rw [if_pos (by omega)] | rw [if_neg (by omega)] | rw [if_pos (by assumption)] | rw [if_neg (by simp only [*]; decide)]))
  all_goals first
    | with_reducible assumption
    | (apply jto_upd Hr.out Hn.out HS.out; (repeat (first | apply Upd.set | apply Upd.drewN | apply Upd.drew)); exact Upd.base Hb.out; (first | rfl | (simp only [jcells, hk1]; rfl)); rfl)


theorem inWord_nat (m : M) (b d : UInt8) (r : List UInt8) (h : m.rest = d :: r) : m.inWord b = if d.toNat = b.toNat then (if r = [] then { m with rest := r, pos := 5 } else { m with rest := r }) else m.fail 0 := by
  simp only [M.inWord, h, List.head?_cons, List.tail_cons, Option.some.injEq, u8_iff]


set_option maxHeartbeats 1000000 in
theorem inWord_any (b : Nat) (m : M) (S : Nat → Prop) (w : World) (c : UInt8) (h : JMach w b m S) (hwf : JWF m) (d : UInt8) (r : List UInt8) (hd : m.rest = d :: r) (hl : r.length ≤ 4) :
    Calls Try.prog 40 #[.pointer (some ⟨b, 0, none⟩), .int .u8 c.toNat] w fun e w' => e = .returned (.tuple #[]) ∧ JTo w b S (m.inWord c) w' := by
  have Hh := Lib.hid h
  have hpos := hwf.pos
  obtain ⟨sl, hb, hr, hne, hS⟩ := h

  have hf := hb.free
  have c2 : w.cell? ⟨b, 2, none⟩ = some (.int .i64 m.pos) := hb.cell 2
  have c4 : w.cell? ⟨b, 4, none⟩ = some (.string ⟨(d :: r).toArray⟩) := by have := hb.cell 4; rw [this]; simp [jcells, hd]
  have Hd := Lib.hid hd
  clear hd
  have Hb := Lib.hid hb
  have Hr := Lib.hid hr
  have Hn := Lib.hid hne
  have HS := Lib.hid hS
  have Hw := Lib.hid hwf
  clear hb hr hne hS hwf
  go_enter Try.func40, Try.ntmps40
  go_wp2_with (first | (go_at_call 35; refine (fail_any b m S _ 0 Hh.out).mono ?_; rintro e w' ⟨rfl, hto⟩))
  all_goals try go_end0
  all_goals try refine bodyPost_ret (results_none rfl _ _ _) rfl ?_
  all_goals refine ⟨rfl, ?_⟩
  all_goals clear c4 c2 hf
  all_goals try simp only [beq_iff_eq, beq_eq_false_iff_ne, ne_eq, Bool.not_eq_true, Bool.not_eq_false, Bool.not_eq_eq_eq_not, Bool.not_true, Bool.not_false, bne_iff_ne, bne_eq_false_iff_eq, ba_get0, ba_tail, ba_isEmpty, List.isEmpty_iff, List.isEmpty_eq_false_iff] at *
  all_goals first | (exfalso; omega) | skip
  all_goals rw [inWord_nat m c d r (Hid.out Hd)]
  all_goals try rw [ba_tail]
  all_goals (repeat (first | rw [if_pos (by omega)] | rw [if_neg (by omega)] | rw [if_pos (by assumption)] | rw [if_neg (by simp only [*]; decide)]))
  all_goals first
    | with_reducible assumption
    | (apply jto_upd Hr.out Hn.out HS.out; (repeat (first | apply Upd.set | apply Upd.drewN | apply Upd.drew)); exact Upd.base Hb.out; (first | rfl); rfl)


theorem names_nat (m : M) (b : UInt8) : m.names b = if white b = true then m else if b.toNat = 34 then { m with pos := 6, key := true } else if b.toNat = 125 ∧ m.pos = 3 then m.pop else m.fail 0 := by
  simp only [M.names, u8_iff, UInt8.reduceToNat]
theorem jlen {m : M} (h : JWF m) : m.stack.length ≤ 200 := Nat.le_trans h.len h.depth
theorem top_ne {m : M} (h : 0 < m.top.toNat) : m.stack ≠ [] := by
  intro e; simp [M.top, e] at h


set_option maxHeartbeats 1000000 in
theorem names_any (b : Nat) (m : M) (S : Nat → Prop) (w : World) (c : UInt8) (h : JMach w b m S) (hwf : JWF m) :
    Calls Try.prog 34 #[.pointer (some ⟨b, 0, none⟩), .int .u8 c.toNat] w fun e w' => e = .returned (.tuple #[]) ∧ JTo w b S (m.names c) w' := by
  have Hh := Lib.hid h
  have hpos := hwf.pos
  obtain ⟨sl, hb, hr, hne, hS⟩ := h
  have c3 : w.cell? ⟨b, 3, none⟩ = some (.bool m.key) := hb.cell 3
  have hf := hb.free
  have c2 : w.cell? ⟨b, 2, none⟩ = some (.int .i64 m.pos) := hb.cell 2
  have Hb := Lib.hid hb
  have Hr := Lib.hid hr
  have Hn := Lib.hid hne
  have HS := Lib.hid hS
  have Hw := Lib.hid hwf
  clear hb hr hne hS hwf
  go_enter Try.func34, Try.ntmps34
  go_wp2_with (first | (go_at_call 23; refine (white_any _ _).mono ?_; rintro e w' ⟨rfl, rfl⟩) | (go_at_call 32; refine (pop_any b m S _ Hh.out (jlen Hw.out) (Hw.out.first (by simp only [beq_iff_eq] at *; omega))).mono ?_; rintro e w' ⟨rfl, hto⟩) | (go_at_call 35; refine (fail_any b m S _ 0 Hh.out).mono ?_; rintro e w' ⟨rfl, hto⟩))
  all_goals try go_end0
  all_goals try refine bodyPost_ret (results_none rfl _ _ _) rfl ?_
  all_goals refine ⟨rfl, ?_⟩
  all_goals clear c3 c2 hf
  all_goals try simp only [beq_iff_eq, beq_eq_false_iff_ne, ne_eq, Bool.not_eq_true, Bool.not_eq_false, Bool.not_eq_eq_eq_not, Bool.not_true, Bool.not_false] at *
  all_goals first | (exfalso; omega) | skip
  all_goals rw [names_nat]
  all_goals (repeat (first | rw [if_pos (by omega)] | rw [if_neg (by omega)] | rw [if_pos (by assumption)] | rw [if_neg (by simp only [*]; decide)]))
  all_goals first
    | with_reducible assumption
    | (apply jto_upd Hr.out Hn.out HS.out; (repeat (first | apply Upd.set | apply Upd.drewN | apply Upd.drew)); exact Upd.base Hb.out; (first | rfl); rfl)


theorem after_nat (m : M) (b : UInt8) : m.after b = if white b = true then { m with pos := 5 }
  else if b.toNat = 44 ∧ m.top.toNat = 91 then { m with pos := 0 }
  else if b.toNat = 44 ∧ m.top.toNat = 123 then { m with pos := 2 }
  else if (b.toNat = 93 ∧ m.top.toNat = 91) ∨ (b.toNat = 125 ∧ m.top.toNat = 123) then ({ m with pos := 5 } : M).pop
  else ({ m with pos := 5 } : M).fail 0 := by
  have ht : ({ m with pos := 5 } : M).top = m.top := rfl
  simp only [M.after, ht, u8_iff, UInt8.reduceToNat]


theorem after_nat5 (m : M) (b : UInt8) (h : m.pos = 5) : m.after b = if white b = true then m
  else if b.toNat = 44 ∧ m.top.toNat = 91 then { m with pos := 0 }
  else if b.toNat = 44 ∧ m.top.toNat = 123 then { m with pos := 2 }
  else if (b.toNat = 93 ∧ m.top.toNat = 91) ∨ (b.toNat = 125 ∧ m.top.toNat = 123) then m.pop
  else m.fail 0 := by
  have e : ({ m with pos := 5 } : M) = m := by cases m; simp at h; simp [h]
  rw [after_nat, e]
theorem after_five (m : M) (b : UInt8) : m.after b = ({ m with pos := 5 } : M).after b := rfl

set_option maxHeartbeats 1000000 in
theorem after_any (b : Nat) (m : M) (S : Nat → Prop) (w : World) (c : UInt8) (h : JMach w b m S) (hwf : JWF m) :
    Calls Try.prog 36 #[.pointer (some ⟨b, 0, none⟩), .int .u8 c.toNat] w fun e w' => e = .returned (.tuple #[]) ∧ JTo w b S (m.after c) w' := by
  rw [after_five]
  have h1 : JMach (w.setCell ⟨b, 2, none⟩ (.int .i64 5)) b { m with pos := 5 } S := by
    obtain ⟨sl, hb, hr, hne, hS⟩ := h
    exact ⟨sl, hb.set 2 _, row_of_change hr ((Change.one b w).set 2 _) (fun g hg e => hne (by rw [hg, e])), hne, hS⟩
  have hc1 : Change S w (w.setCell ⟨b, 2, none⟩ (.int .i64 5)) := by
    obtain ⟨sl, hb, hr, hne, hS⟩ := h
    exact (Change.refl S w).setCell (.inl ((hS b).2 (.inl rfl))) _
  have hl : m.stack.length ≤ 200 := jlen hwf
  obtain ⟨sl, hb, hr, hne, hS⟩ := h
  have hf := hb.free
  have c2 : w.cell? ⟨b, 2, none⟩ = some (.int .i64 m.pos) := hb.cell 2
  clear hb hr hne hS hwf
  have hp5 : ({ m with pos := 5 } : M).pos = 5 := rfl
  have hl5 : ({ m with pos := 5 } : M).stack.length ≤ 200 := hl
  have H1 := Lib.hid h1
  have Hp := Lib.hid hp5
  clear h1 hp5 hl
  generalize ({ m with pos := 5 } : M) = m1 at *
  go_enter Try.func36, Try.ntmps36
  go_wp2_with fail
  generalize w.setCell ⟨b, 2, none⟩ (.int .i64 5) = w1 at *
  have Hend : Hid (∀ w', JTo w1 b S (m1.after c) w' → JTo w b S (m1.after c) w') := fun w' k => JTo.trans hc1 (fun k hk => .inl hk) k
  clear hc1 c2 hf
  refine (top_any b m1 S w1 H1.out hl5).mono ?_
  rintro e w2 ⟨rfl, n, rfl⟩
  obtain ⟨sl, hb, hr, hne, hS⟩ := H1.out
  have hf := hb.free
  have c2 : w1.cell? ⟨b, 2, none⟩ = some (.int .i64 m1.pos) := hb.cell 2
  have Hb := Lib.hid hb
  have Hr := Lib.hid hr
  have Hn := Lib.hid hne
  have HS := Lib.hid hS
  clear hb hr hne hS
  go_wp2_with (first | (go_at_call 23; refine (white_any _ _).mono ?_; rintro e w' ⟨rfl, rfl⟩) | (go_at_call 32; refine (pop_any b m1 S _ (H1.out.drewN n) hl5 (top_ne (by simp only [beq_iff_eq] at *; omega))).mono ?_; rintro e w' ⟨rfl, hto⟩) | (go_at_call 35; refine (fail_any b m1 S _ 0 (H1.out.drewN n)).mono ?_; rintro e w' ⟨rfl, hto⟩))
  all_goals try go_end0
  all_goals try refine bodyPost_ret (results_none rfl _ _ _) rfl ?_
  all_goals refine ⟨rfl, Hend.out _ ?_⟩
  all_goals clear c2 hf
  all_goals try simp only [beq_iff_eq, beq_eq_false_iff_ne, ne_eq, Bool.not_eq_true, Bool.not_eq_false, Bool.not_eq_eq_eq_not, Bool.not_true, Bool.not_false] at *
  all_goals rw [after_nat5 _ _ Hp.out]
  all_goals (repeat (first | rw [if_pos (by omega)] | rw [if_neg (by omega)] | rw [if_pos (by assumption)] | rw [if_neg (by simp only [*]; decide)]))
  all_goals first
    | with_reducible exact hto.of_drewN
    | (apply jto_upd Hr.out Hn.out HS.out; (repeat (first | apply Upd.set | apply Upd.drewN | apply Upd.drew)); exact Upd.base Hb.out; rfl; rfl)

end Go.Proofs.Ytpelmepidboikaa
