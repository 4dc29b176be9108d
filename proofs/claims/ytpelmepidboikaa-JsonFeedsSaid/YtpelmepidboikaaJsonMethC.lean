/-
  The walks of the JSON machine's methods: one byte, and what is told.
-/
import Derived.Test.YtpelmepidboikaaJsonMethB
set_option linter.unusedSimpArgs false
set_option linter.unusedVariables false
namespace Go.Proofs.Ytpelmepidboikaa
open Go.RowKit Go.Tg Tg.Json

theorem byte0 {m : M} {c : UInt8} (h : m.pos = 0) : m.byte c = if white c = true then m else m.first c := by unfold M.byte; simp [h]
theorem byte1 {m : M} {c : UInt8} (h : m.pos = 1) : m.byte c = if white c = true then m else if c.toNat = 93 then m.pop else m.first c := by
  have e : (c = 93) = (c.toNat = 93) := by simp only [u8_iff, UInt8.reduceToNat]
  unfold M.byte; simp [h, e]
theorem byte2 {m : M} {c : UInt8} (h : m.pos = 2) : m.byte c = m.names c := by unfold M.byte; simp [h]
theorem byte3 {m : M} {c : UInt8} (h : m.pos = 3) : m.byte c = m.names c := by unfold M.byte; simp [h]
theorem byte4 {m : M} {c : UInt8} (h : m.pos = 4) : m.byte c = if white c = true then m else if c.toNat = 58 then { m with pos := 0 } else m.fail 0 := by
  have e : (c = 58) = (c.toNat = 58) := by simp only [u8_iff, UInt8.reduceToNat]
  unfold M.byte; simp [h, e]
theorem byte5 {m : M} {c : UInt8} (h : m.pos = 5) : m.byte c = m.after c := by unfold M.byte; simp [h]
theorem byte6 {m : M} {c : UInt8} (h : m.pos = 6) : m.byte c = m.inText c := by unfold M.byte; simp [h]
theorem byte7 {m : M} {c : UInt8} (h : m.pos = 7) : m.byte c = m.inSlash c := by unfold M.byte; simp [h]
theorem byte8 {m : M} {c : UInt8} (h : m.pos = 8) : m.byte c = m.inUnicode c := by unfold M.byte; simp [h]
theorem byte9 {m : M} {c : UInt8} (h : m.pos = 9) : m.byte c = m.inWord c := by unfold M.byte; simp [h]
theorem byte10 {m : M} {c : UInt8} (h : 10 ≤ m.pos) : m.byte c = m.inNumber c := by
  unfold M.byte
  rw [if_neg (by omega), if_neg (by omega), if_neg (by omega), if_neg (by omega), if_neg (by omega), if_neg (by omega), if_neg (by omega), if_neg (by omega)]


theorem begin_anyI (b : Nat) (m : M) (S : Nat → Prop) (w : World) (c : UInt8) (x : Int) (h : JMach w b m S) (hwf : JWF m) (hx : x = c.toNat) :
    Calls Try.prog 33 #[.pointer (some ⟨b, 0, none⟩), .int .u8 x] w fun e w' => e = .returned (.tuple #[]) ∧ JTo w b S (m.first c) w' := by
  subst hx; exact begin_any b m S w c h hwf


set_option maxHeartbeats 1000000 in
theorem byte_0 (b : Nat) (m : M) (S : Nat → Prop) (w : World) (c : UInt8) (h : JMach w b m S) (hwf : JWF m) (hp : m.pos = 0) :
    Calls Try.prog 24 #[.pointer (some ⟨b, 0, none⟩), .int .u8 c.toNat] w fun e w' => e = .returned (.tuple #[]) ∧ JTo w b S (m.byte c) w' := by
  have Hh := Lib.hid h
  have hpos := hwf.pos
  obtain ⟨sl, hb, hr, hne, hS⟩ := h

  have hf := hb.free
  have c2 : w.cell? ⟨b, 2, none⟩ = some (.int .i64 0) := by have := hb.cell 2; rw [this]; simp [jcells, hp]
  have Hp := Lib.hid hp
  clear hp
  have Hb := Lib.hid hb
  have Hr := Lib.hid hr
  have Hn := Lib.hid hne
  have HS := Lib.hid hS
  have Hw := Lib.hid hwf
  clear hb hr hne hS hwf
  go_enter Try.func24, Try.ntmps24
  go_wp2_with (first | (go_at_call 23; refine (white_any _ _).mono ?_; rintro e w' ⟨rfl, rfl⟩) | (go_at_call 33; refine Calls.mono (begin_anyI b m S _ c _ Hh.out Hw.out ?_) ?_; (first | rfl | omega | (simp only [beq_iff_eq] at *; omega)); rintro e w' ⟨rfl, hto⟩))
  all_goals try go_end0
  all_goals try refine bodyPost_ret (results_none rfl _ _ _) rfl ?_
  all_goals refine ⟨rfl, ?_⟩
  all_goals clear  c2 hf
  all_goals try simp only [beq_iff_eq, beq_eq_false_iff_ne, ne_eq, Bool.not_eq_true, Bool.not_eq_false, Bool.not_eq_eq_eq_not, Bool.not_true, Bool.not_false] at *
  all_goals first | (exfalso; omega) | skip
  all_goals rw [byte0 Hp.out]
  all_goals (repeat (first | rw [if_pos (by omega)] | rw [if_neg (by omega)] | rw [if_pos (by assumption)] | rw [if_neg (by simp only [*]; decide)]))
  all_goals first
    | with_reducible assumption
    | (apply jto_upd Hr.out Hn.out HS.out; (repeat (first | apply Upd.set | apply Upd.drewN | apply Upd.drew)); exact Upd.base Hb.out; (first | rfl); rfl)


set_option maxHeartbeats 1000000 in
theorem byte_1 (b : Nat) (m : M) (S : Nat → Prop) (w : World) (c : UInt8) (h : JMach w b m S) (hwf : JWF m) (hp : m.pos = 1) :
    Calls Try.prog 24 #[.pointer (some ⟨b, 0, none⟩), .int .u8 c.toNat] w fun e w' => e = .returned (.tuple #[]) ∧ JTo w b S (m.byte c) w' := by
  have Hh := Lib.hid h
  have hpos := hwf.pos
  obtain ⟨sl, hb, hr, hne, hS⟩ := h

  have hf := hb.free
  have c2 : w.cell? ⟨b, 2, none⟩ = some (.int .i64 1) := by have := hb.cell 2; rw [this]; simp [jcells, hp]
  have Hp := Lib.hid hp
  clear hp
  have Hb := Lib.hid hb
  have Hr := Lib.hid hr
  have Hn := Lib.hid hne
  have HS := Lib.hid hS
  have Hw := Lib.hid hwf
  clear hb hr hne hS hwf
  go_enter Try.func24, Try.ntmps24
  go_wp2_with (first | (go_at_call 23; refine (white_any _ _).mono ?_; rintro e w' ⟨rfl, rfl⟩) | (go_at_call 32; refine (pop_any b m S _ Hh.out (jlen Hw.out) (Hw.out.first (.inl Hp.out))).mono ?_; rintro e w' ⟨rfl, hto⟩) | (go_at_call 33; refine Calls.mono (begin_anyI b m S _ c _ Hh.out Hw.out ?_) ?_; (first | rfl | omega | (simp only [beq_iff_eq] at *; omega)); rintro e w' ⟨rfl, hto⟩))
  all_goals try go_end0
  all_goals try refine bodyPost_ret (results_none rfl _ _ _) rfl ?_
  all_goals refine ⟨rfl, ?_⟩
  all_goals clear  c2 hf
  all_goals try simp only [beq_iff_eq, beq_eq_false_iff_ne, ne_eq, Bool.not_eq_true, Bool.not_eq_false, Bool.not_eq_eq_eq_not, Bool.not_true, Bool.not_false] at *
  all_goals first | (exfalso; omega) | skip
  all_goals rw [byte1 Hp.out]
  all_goals (repeat (first | rw [if_pos (by omega)] | rw [if_neg (by omega)] | rw [if_pos (by assumption)] | rw [if_neg (by simp only [*]; decide)]))
  all_goals first
    | with_reducible assumption
    | (apply jto_upd Hr.out Hn.out HS.out; (repeat (first | apply Upd.set | apply Upd.drewN | apply Upd.drew)); exact Upd.base Hb.out; (first | rfl); rfl)


set_option maxHeartbeats 1000000 in
theorem byte_2 (b : Nat) (m : M) (S : Nat → Prop) (w : World) (c : UInt8) (h : JMach w b m S) (hwf : JWF m) (hp : m.pos = 2) :
    Calls Try.prog 24 #[.pointer (some ⟨b, 0, none⟩), .int .u8 c.toNat] w fun e w' => e = .returned (.tuple #[]) ∧ JTo w b S (m.byte c) w' := by
  have Hh := Lib.hid h
  have hpos := hwf.pos
  obtain ⟨sl, hb, hr, hne, hS⟩ := h

  have hf := hb.free
  have c2 : w.cell? ⟨b, 2, none⟩ = some (.int .i64 2) := by have := hb.cell 2; rw [this]; simp [jcells, hp]
  have Hp := Lib.hid hp
  clear hp
  have Hb := Lib.hid hb
  have Hr := Lib.hid hr
  have Hn := Lib.hid hne
  have HS := Lib.hid hS
  have Hw := Lib.hid hwf
  clear hb hr hne hS hwf
  go_enter Try.func24, Try.ntmps24
  go_wp2_with (first | (go_at_call 34; refine (names_any b m S _ c Hh.out Hw.out).mono ?_; rintro e w' ⟨rfl, hto⟩))
  all_goals try go_end0
  all_goals try refine bodyPost_ret (results_none rfl _ _ _) rfl ?_
  all_goals refine ⟨rfl, ?_⟩
  all_goals clear  c2 hf
  all_goals try simp only [beq_iff_eq, beq_eq_false_iff_ne, ne_eq, Bool.not_eq_true, Bool.not_eq_false, Bool.not_eq_eq_eq_not, Bool.not_true, Bool.not_false] at *
  all_goals first | (exfalso; omega) | skip
  all_goals rw [byte2 Hp.out]
  all_goals (repeat (first | rw [if_pos (by omega)] | rw [if_neg (by omega)] | rw [if_pos (by assumption)] | rw [if_neg (by simp only [*]; decide)]))
  all_goals first
    | with_reducible assumption
    | (apply jto_upd Hr.out Hn.out HS.out; (repeat (first | apply Upd.set | apply Upd.drewN | apply Upd.drew)); exact Upd.base Hb.out; (first | rfl); rfl)


set_option maxHeartbeats 1000000 in
theorem byte_3 (b : Nat) (m : M) (S : Nat → Prop) (w : World) (c : UInt8) (h : JMach w b m S) (hwf : JWF m) (hp : m.pos = 3) :
    Calls Try.prog 24 #[.pointer (some ⟨b, 0, none⟩), .int .u8 c.toNat] w fun e w' => e = .returned (.tuple #[]) ∧ JTo w b S (m.byte c) w' := by
  have Hh := Lib.hid h
  have hpos := hwf.pos
  obtain ⟨sl, hb, hr, hne, hS⟩ := h

  have hf := hb.free
  have c2 : w.cell? ⟨b, 2, none⟩ = some (.int .i64 3) := by have := hb.cell 2; rw [this]; simp [jcells, hp]
  have Hp := Lib.hid hp
  clear hp
  have Hb := Lib.hid hb
  have Hr := Lib.hid hr
  have Hn := Lib.hid hne
  have HS := Lib.hid hS
  have Hw := Lib.hid hwf
  clear hb hr hne hS hwf
  go_enter Try.func24, Try.ntmps24
  go_wp2_with (first | (go_at_call 34; refine (names_any b m S _ c Hh.out Hw.out).mono ?_; rintro e w' ⟨rfl, hto⟩))
  all_goals try go_end0
  all_goals try refine bodyPost_ret (results_none rfl _ _ _) rfl ?_
  all_goals refine ⟨rfl, ?_⟩
  all_goals clear  c2 hf
  all_goals try simp only [beq_iff_eq, beq_eq_false_iff_ne, ne_eq, Bool.not_eq_true, Bool.not_eq_false, Bool.not_eq_eq_eq_not, Bool.not_true, Bool.not_false] at *
  all_goals first | (exfalso; omega) | skip
  all_goals rw [byte3 Hp.out]
  all_goals (repeat (first | rw [if_pos (by omega)] | rw [if_neg (by omega)] | rw [if_pos (by assumption)] | rw [if_neg (by simp only [*]; decide)]))
  all_goals first
    | with_reducible assumption
    | (apply jto_upd Hr.out Hn.out HS.out; (repeat (first | apply Upd.set | apply Upd.drewN | apply Upd.drew)); exact Upd.base Hb.out; (first | rfl); rfl)


set_option maxHeartbeats 1000000 in
theorem byte_4 (b : Nat) (m : M) (S : Nat → Prop) (w : World) (c : UInt8) (h : JMach w b m S) (hwf : JWF m) (hp : m.pos = 4) :
    Calls Try.prog 24 #[.pointer (some ⟨b, 0, none⟩), .int .u8 c.toNat] w fun e w' => e = .returned (.tuple #[]) ∧ JTo w b S (m.byte c) w' := by
  have Hh := Lib.hid h
  have hpos := hwf.pos
  obtain ⟨sl, hb, hr, hne, hS⟩ := h

  have hf := hb.free
  have c2 : w.cell? ⟨b, 2, none⟩ = some (.int .i64 4) := by have := hb.cell 2; rw [this]; simp [jcells, hp]
  have Hp := Lib.hid hp
  clear hp
  have Hb := Lib.hid hb
  have Hr := Lib.hid hr
  have Hn := Lib.hid hne
  have HS := Lib.hid hS
  have Hw := Lib.hid hwf
  clear hb hr hne hS hwf
  go_enter Try.func24, Try.ntmps24
  go_wp2_with (first | (go_at_call 23; refine (white_any _ _).mono ?_; rintro e w' ⟨rfl, rfl⟩) | (go_at_call 35; refine (fail_any b m S _ 0 Hh.out).mono ?_; rintro e w' ⟨rfl, hto⟩))
  all_goals try go_end0
  all_goals try refine bodyPost_ret (results_none rfl _ _ _) rfl ?_
  all_goals refine ⟨rfl, ?_⟩
  all_goals clear  c2 hf
  all_goals try simp only [beq_iff_eq, beq_eq_false_iff_ne, ne_eq, Bool.not_eq_true, Bool.not_eq_false, Bool.not_eq_eq_eq_not, Bool.not_true, Bool.not_false] at *
  all_goals first | (exfalso; omega) | skip
  all_goals rw [byte4 Hp.out]
  all_goals (repeat (first | rw [if_pos (by omega)] | rw [if_neg (by omega)] | rw [if_pos (by assumption)] | rw [if_neg (by simp only [*]; decide)]))
  all_goals first
    | with_reducible assumption
    | (apply jto_upd Hr.out Hn.out HS.out; (repeat (first | apply Upd.set | apply Upd.drewN | apply Upd.drew)); exact Upd.base Hb.out; (first | rfl); rfl)


set_option maxHeartbeats 1000000 in
theorem byte_5 (b : Nat) (m : M) (S : Nat → Prop) (w : World) (c : UInt8) (h : JMach w b m S) (hwf : JWF m) (hp : m.pos = 5) :
    Calls Try.prog 24 #[.pointer (some ⟨b, 0, none⟩), .int .u8 c.toNat] w fun e w' => e = .returned (.tuple #[]) ∧ JTo w b S (m.byte c) w' := by
  have Hh := Lib.hid h
  have hpos := hwf.pos
  obtain ⟨sl, hb, hr, hne, hS⟩ := h

  have hf := hb.free
  have c2 : w.cell? ⟨b, 2, none⟩ = some (.int .i64 5) := by have := hb.cell 2; rw [this]; simp [jcells, hp]
  have Hp := Lib.hid hp
  clear hp
  have Hb := Lib.hid hb
  have Hr := Lib.hid hr
  have Hn := Lib.hid hne
  have HS := Lib.hid hS
  have Hw := Lib.hid hwf
  clear hb hr hne hS hwf
  go_enter Try.func24, Try.ntmps24
  go_wp2_with (first | (go_at_call 36; refine (after_any b m S _ c Hh.out Hw.out).mono ?_; rintro e w' ⟨rfl, hto⟩))
  all_goals try go_end0
  all_goals try refine bodyPost_ret (results_none rfl _ _ _) rfl ?_
  all_goals refine ⟨rfl, ?_⟩
  all_goals clear  c2 hf
  all_goals try simp only [beq_iff_eq, beq_eq_false_iff_ne, ne_eq, Bool.not_eq_true, Bool.not_eq_false, Bool.not_eq_eq_eq_not, Bool.not_true, Bool.not_false] at *
  all_goals first | (exfalso; omega) | skip
  all_goals rw [byte5 Hp.out]
  all_goals (repeat (first | rw [if_pos (by omega)] | rw [if_neg (by omega)] | rw [if_pos (by assumption)] | rw [if_neg (by simp only [*]; decide)]))
  all_goals first
    | with_reducible assumption
    | (apply jto_upd Hr.out Hn.out HS.out; (repeat (first | apply Upd.set | apply Upd.drewN | apply Upd.drew)); exact Upd.base Hb.out; (first | rfl); rfl)


set_option maxHeartbeats 1000000 in
theorem byte_6 (b : Nat) (m : M) (S : Nat → Prop) (w : World) (c : UInt8) (h : JMach w b m S) (hwf : JWF m) (hp : m.pos = 6) :
    Calls Try.prog 24 #[.pointer (some ⟨b, 0, none⟩), .int .u8 c.toNat] w fun e w' => e = .returned (.tuple #[]) ∧ JTo w b S (m.byte c) w' := by
  have Hh := Lib.hid h
  have hpos := hwf.pos
  obtain ⟨sl, hb, hr, hne, hS⟩ := h

  have hf := hb.free
  have c2 : w.cell? ⟨b, 2, none⟩ = some (.int .i64 6) := by have := hb.cell 2; rw [this]; simp [jcells, hp]
  have Hp := Lib.hid hp
  clear hp
  have Hb := Lib.hid hb
  have Hr := Lib.hid hr
  have Hn := Lib.hid hne
  have HS := Lib.hid hS
  have Hw := Lib.hid hwf
  clear hb hr hne hS hwf
  go_enter Try.func24, Try.ntmps24
  go_wp2_with (first | (go_at_call 37; refine (inText_any b m S _ c Hh.out Hw.out).mono ?_; rintro e w' ⟨rfl, hto⟩))
  all_goals try go_end0
  all_goals try refine bodyPost_ret (results_none rfl _ _ _) rfl ?_
  all_goals refine ⟨rfl, ?_⟩
  all_goals clear  c2 hf
  all_goals try simp only [beq_iff_eq, beq_eq_false_iff_ne, ne_eq, Bool.not_eq_true, Bool.not_eq_false, Bool.not_eq_eq_eq_not, Bool.not_true, Bool.not_false] at *
  all_goals first | (exfalso; omega) | skip
  all_goals rw [byte6 Hp.out]
  all_goals (repeat (first | rw [if_pos (by omega)] | rw [if_neg (by omega)] | rw [if_pos (by assumption)] | rw [if_neg (by simp only [*]; decide)]))
  all_goals first
    | with_reducible assumption
    | (apply jto_upd Hr.out Hn.out HS.out; (repeat (first | apply Upd.set | apply Upd.drewN | apply Upd.drew)); exact Upd.base Hb.out; (first | rfl); rfl)


set_option maxHeartbeats 1000000 in
theorem byte_7 (b : Nat) (m : M) (S : Nat → Prop) (w : World) (c : UInt8) (h : JMach w b m S) (hwf : JWF m) (hp : m.pos = 7) :
    Calls Try.prog 24 #[.pointer (some ⟨b, 0, none⟩), .int .u8 c.toNat] w fun e w' => e = .returned (.tuple #[]) ∧ JTo w b S (m.byte c) w' := by
  have Hh := Lib.hid h
  have hpos := hwf.pos
  obtain ⟨sl, hb, hr, hne, hS⟩ := h

  have hf := hb.free
  have c2 : w.cell? ⟨b, 2, none⟩ = some (.int .i64 7) := by have := hb.cell 2; rw [this]; simp [jcells, hp]
  have Hp := Lib.hid hp
  clear hp
  have Hb := Lib.hid hb
  have Hr := Lib.hid hr
  have Hn := Lib.hid hne
  have HS := Lib.hid hS
  have Hw := Lib.hid hwf
  clear hb hr hne hS hwf
  go_enter Try.func24, Try.ntmps24
  go_wp2_with (first | (go_at_call 38; refine (inSlash_any b m S _ c Hh.out Hw.out).mono ?_; rintro e w' ⟨rfl, hto⟩))
  all_goals try go_end0
  all_goals try refine bodyPost_ret (results_none rfl _ _ _) rfl ?_
  all_goals refine ⟨rfl, ?_⟩
  all_goals clear  c2 hf
  all_goals try simp only [beq_iff_eq, beq_eq_false_iff_ne, ne_eq, Bool.not_eq_true, Bool.not_eq_false, Bool.not_eq_eq_eq_not, Bool.not_true, Bool.not_false] at *
  all_goals first | (exfalso; omega) | skip
  all_goals rw [byte7 Hp.out]
  all_goals (repeat (first | rw [if_pos (by omega)] | rw [if_neg (by omega)] | rw [if_pos (by assumption)] | rw [if_neg (by simp only [*]; decide)]))
  all_goals first
    | with_reducible assumption
    | (apply jto_upd Hr.out Hn.out HS.out; (repeat (first | apply Upd.set | apply Upd.drewN | apply Upd.drew)); exact Upd.base Hb.out; (first | rfl); rfl)


set_option maxHeartbeats 1000000 in
theorem byte_8 (b : Nat) (m : M) (S : Nat → Prop) (w : World) (c : UInt8) (h : JMach w b m S) (hwf : JWF m) (hp : m.pos = 8) :
    Calls Try.prog 24 #[.pointer (some ⟨b, 0, none⟩), .int .u8 c.toNat] w fun e w' => e = .returned (.tuple #[]) ∧ JTo w b S (m.byte c) w' := by
  have Hh := Lib.hid h
  have hpos := hwf.pos
  obtain ⟨sl, hb, hr, hne, hS⟩ := h

  have hf := hb.free
  have c2 : w.cell? ⟨b, 2, none⟩ = some (.int .i64 8) := by have := hb.cell 2; rw [this]; simp [jcells, hp]
  have Hp := Lib.hid hp
  clear hp
  have Hb := Lib.hid hb
  have Hr := Lib.hid hr
  have Hn := Lib.hid hne
  have HS := Lib.hid hS
  have Hw := Lib.hid hwf
  clear hb hr hne hS hwf
  go_enter Try.func24, Try.ntmps24
  go_wp2_with (first | (go_at_call 39; refine (inUnicode_any b m S _ c Hh.out Hw.out Hp.out).mono ?_; rintro e w' ⟨rfl, hto⟩))
  all_goals try go_end0
  all_goals try refine bodyPost_ret (results_none rfl _ _ _) rfl ?_
  all_goals refine ⟨rfl, ?_⟩
  all_goals clear  c2 hf
  all_goals try simp only [beq_iff_eq, beq_eq_false_iff_ne, ne_eq, Bool.not_eq_true, Bool.not_eq_false, Bool.not_eq_eq_eq_not, Bool.not_true, Bool.not_false] at *
  all_goals first | (exfalso; omega) | skip
  all_goals rw [byte8 Hp.out]
  all_goals (repeat (first | rw [if_pos (by omega)] | rw [if_neg (by omega)] | rw [if_pos (by assumption)] | rw [if_neg (by simp only [*]; decide)]))
  all_goals first
    | with_reducible assumption
    | (apply jto_upd Hr.out Hn.out HS.out; (repeat (first | apply Upd.set | apply Upd.drewN | apply Upd.drew)); exact Upd.base Hb.out; (first | rfl); rfl)


set_option maxHeartbeats 1000000 in
theorem byte_9 (b : Nat) (m : M) (S : Nat → Prop) (w : World) (c : UInt8) (h : JMach w b m S) (hwf : JWF m) (hp : m.pos = 9) (d : UInt8) (r : List UInt8) (hd : m.rest = d :: r) (hl : r.length ≤ 4) :
    Calls Try.prog 24 #[.pointer (some ⟨b, 0, none⟩), .int .u8 c.toNat] w fun e w' => e = .returned (.tuple #[]) ∧ JTo w b S (m.byte c) w' := by
  have Hh := Lib.hid h
  have hpos := hwf.pos
  obtain ⟨sl, hb, hr, hne, hS⟩ := h

  have hf := hb.free
  have c2 : w.cell? ⟨b, 2, none⟩ = some (.int .i64 9) := by have := hb.cell 2; rw [this]; simp [jcells, hp]
  have Hp := Lib.hid hp
  clear hp
  have Hd := Lib.hid hd
  clear hd
  have Hb := Lib.hid hb
  have Hr := Lib.hid hr
  have Hn := Lib.hid hne
  have HS := Lib.hid hS
  have Hw := Lib.hid hwf
  clear hb hr hne hS hwf
  go_enter Try.func24, Try.ntmps24
  go_wp2_with (first | (go_at_call 40; refine (inWord_any b m S _ c Hh.out Hw.out d r Hd.out hl).mono ?_; rintro e w' ⟨rfl, hto⟩))
  all_goals try go_end0
  all_goals try refine bodyPost_ret (results_none rfl _ _ _) rfl ?_
  all_goals refine ⟨rfl, ?_⟩
  all_goals clear  c2 hf
  all_goals try simp only [beq_iff_eq, beq_eq_false_iff_ne, ne_eq, Bool.not_eq_true, Bool.not_eq_false, Bool.not_eq_eq_eq_not, Bool.not_true, Bool.not_false] at *
  all_goals first | (exfalso; omega) | skip
  all_goals rw [byte9 Hp.out]
  all_goals (repeat (first | rw [if_pos (by omega)] | rw [if_neg (by omega)] | rw [if_pos (by assumption)] | rw [if_neg (by simp only [*]; decide)]))
  all_goals first
    | with_reducible assumption
    | (apply jto_upd Hr.out Hn.out HS.out; (repeat (first | apply Upd.set | apply Upd.drewN | apply Upd.drew)); exact Upd.base Hb.out; (first | rfl); rfl)


set_option maxHeartbeats 1000000 in
theorem byte_10 (b : Nat) (m : M) (S : Nat → Prop) (w : World) (c : UInt8) (h : JMach w b m S) (hwf : JWF m) (hp : 10 ≤ m.pos) :
    Calls Try.prog 24 #[.pointer (some ⟨b, 0, none⟩), .int .u8 c.toNat] w fun e w' => e = .returned (.tuple #[]) ∧ JTo w b S (m.byte c) w' := by
  have Hh := Lib.hid h
  have hpos := hwf.pos
  obtain ⟨sl, hb, hr, hne, hS⟩ := h

  have hf := hb.free
  have c2 : w.cell? ⟨b, 2, none⟩ = some (.int .i64 m.pos) := hb.cell 2
  have Hb := Lib.hid hb
  have Hr := Lib.hid hr
  have Hn := Lib.hid hne
  have HS := Lib.hid hS
  have Hw := Lib.hid hwf
  clear hb hr hne hS hwf
  go_enter Try.func24, Try.ntmps24
  go_wp2_with (first | (go_at_call 41; refine (inNumber_any b m S _ c Hh.out Hw.out hp).mono ?_; rintro e w' ⟨rfl, hto⟩))
  all_goals try go_end0
  all_goals try refine bodyPost_ret (results_none rfl _ _ _) rfl ?_
  all_goals refine ⟨rfl, ?_⟩
  all_goals clear  c2 hf
  all_goals try simp only [beq_iff_eq, beq_eq_false_iff_ne, ne_eq, Bool.not_eq_true, Bool.not_eq_false, Bool.not_eq_eq_eq_not, Bool.not_true, Bool.not_false] at *
  all_goals first | (exfalso; omega) | skip
  all_goals rw [byte10 hp]
  all_goals (repeat (first | rw [if_pos (by omega)] | rw [if_neg (by omega)] | rw [if_pos (by assumption)] | rw [if_neg (by simp only [*]; decide)]))
  all_goals first
    | with_reducible assumption
    | (apply jto_upd Hr.out Hn.out HS.out; (repeat (first | apply Upd.set | apply Upd.drewN | apply Upd.drew)); exact Upd.base Hb.out; (first | rfl); rfl)

theorem byte_any (b : Nat) (m : M) (S : Nat → Prop) (w : World) (c : UInt8) (h : JMach w b m S) (hwf : JWF m) (hr4 : m.rest.length ≤ 5) :
    Calls Try.prog 24 #[.pointer (some ⟨b, 0, none⟩), .int .u8 c.toNat] w fun e w' => e = .returned (.tuple #[]) ∧ JTo w b S (m.byte c) w' := by
  by_cases h10 : 10 ≤ m.pos
  · exact byte_10 b m S w c h hwf h10
  have : m.pos = 0 ∨ m.pos = 1 ∨ m.pos = 2 ∨ m.pos = 3 ∨ m.pos = 4 ∨ m.pos = 5 ∨ m.pos = 6 ∨ m.pos = 7 ∨ m.pos = 8 ∨ m.pos = 9 := by omega
  rcases this with e | e | e | e | e | e | e | e | e | e
  · exact byte_0 b m S w c h hwf e
  · exact byte_1 b m S w c h hwf e
  · exact byte_2 b m S w c h hwf e
  · exact byte_3 b m S w c h hwf e
  · exact byte_4 b m S w c h hwf e
  · exact byte_5 b m S w c h hwf e
  · exact byte_6 b m S w c h hwf e
  · exact byte_7 b m S w c h hwf e
  · exact byte_8 b m S w c h hwf e
  · obtain ⟨d, r, hd⟩ := List.exists_cons_of_ne_nil (hwf.rest e)
    exact byte_9 b m S w c h hwf e d r hd (by rw [hd] at hr4; simp at hr4; omega)
theorem tell_any (b : Nat) (m : M) (S : Nat → Prop) (w : World) (h : JMach w b m S) (hwf : JWF m) (hs : m.state ≤ 3) :
    Calls Try.prog 25 #[.pointer (some ⟨b, 0, none⟩)] w fun e w' => e = .returned (.int .i64 m.tell) ∧ w = w' := by
  have hpos := hwf.pos
  have hlen := jlen hwf
  obtain ⟨sl, hb, hr, hne, hS⟩ := h
  have c1 : w.cell? ⟨b, 1, none⟩ = some sl := hb.cell 1
  have c2 : w.cell? ⟨b, 2, none⟩ = some (.int .i64 m.pos) := hb.cell 2
  have c7 : w.cell? ⟨b, 7, none⟩ = some (.int .i64 m.state) := hb.cell 7
  have hsl : ∃ a cap, sl = .slice a m.stack.length cap := by
    rcases hr.2 with ⟨h1, h2⟩ | ⟨g, cap, cur, h1, _⟩
    · exact ⟨_, 0, by rw [h1, h2]⟩
    · exact ⟨_, _, by rw [h1]⟩
  obtain ⟨a, cap, rfl⟩ := hsl
  clear hb hr hne hS hwf
  have ht : m.tell = if m.state = 1 ∧ m.stack.length = 0 ∧ (m.pos = 5 ∨ ended m.pos = true) then 2 else m.state := by simp [M.tell]
  generalize m.tell = t at *
  generalize m.stack.length = n at *
  have Ht := Lib.hid ht
  clear ht
  go_enter Try.func25, Try.ntmps25
  go_wp2_with (go_at_call 42; refine (ended_any _ _ hpos).mono ?_; rintro e w' ⟨rfl, rfl⟩)
  all_goals go_ret
  all_goals refine ⟨ret_int ?_, rfl⟩
  all_goals try simp only [beq_iff_eq, beq_eq_false_iff_ne, ne_eq, Bool.not_eq_true, Bool.not_eq_false, Bool.not_eq_eq_eq_not, Bool.not_true, Bool.not_false] at *
  all_goals rw [Ht.out]
  all_goals first
    | (rw [if_pos ⟨by omega, by omega, by first | (left; omega) | (right; assumption) | (rcases ‹_ ∨ _› with h | h; exact .inl (by omega); exact .inr h)⟩]; rfl)
    | (rw [if_neg (by rintro ⟨h1, h2, h3⟩; first | omega | (rcases h3 with h3 | h3; omega; simp_all))] <;> omega)
theorem jcell {w : World} {b : Nat} {m : M} {S : Nat → Prop} (h : JMach w b m S) : ∃ sl, w.ownsRow 0 5 1 sl m.stack.length (m.stack.map u8v) ∧ Blk w b 43 (jcells m sl) := by
  obtain ⟨sl, hb, hr, hne, hS⟩ := h
  exact ⟨sl, hr, hb⟩

end Go.Proofs.Ytpelmepidboikaa
