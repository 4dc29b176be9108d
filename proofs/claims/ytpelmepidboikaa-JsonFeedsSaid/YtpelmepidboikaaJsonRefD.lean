/-
  The reference for JSON: values.
-/
import Derived.Test.YtpelmepidboikaaJsonRefC
set_option linter.unusedSimpArgs false
set_option linter.unusedVariables false
namespace Go.Proofs.Ytpelmepidboikaa
open Go.RowKit Go.Tg Tg.Json

theorem said_open (a : Nat) (x : Nat × Nat) : ∃ n st : Int, said a x = .agg #[.int .i64 n, .int .i64 st] ∧ n = (a + x.1 : Nat) ∧ st = stv x.2 := ⟨_, _, rfl, rfl, rfl⟩
theorem value_eq (d : Nat) (l : List UInt8) : value d l = match l.drop (skip l) with
    | [] => (skip l, 1)
    | b :: r => if b = 91 ∨ b = 123 then (match d with | 0 => (skip l, 3) | d + 1 => add (skip l + 1) (list (value d) (b == 123) (r.length + 1) true r)) else add (skip l) (value.flat b r) := by
  cases d <;> rfl
/-- what value owes -/
def ValC (d : Nat) : Prop := ∀ (s : ByteArray) (a : Nat) (w : World), s.size ≤ 1048576 → a ≤ s.size →
  Calls Try.prog 21 #[.string s, .int .i64 a, .int .i64 d] w fun e w' => e = .returned (said a (value d (s.data.toList.drop a))) ∧ Change (fun _ => False) w w'
/-- what list owes -/
def ListC (d : Nat) : Prop := ∀ (s : ByteArray) (a : Nat) (o : Bool) (w : World), s.size ≤ 1048576 → a ≤ s.size →
  Calls Try.prog 26 #[.string s, .int .i64 a, .int .i64 d, .bool o] w fun e w' => e = .returned (said a (list (value d) o ((s.data.toList.drop a).length + 1) true (s.data.toList.drop a))) ∧ Change (fun _ => False) w w'
theorem listI {d : Nat} (h : ListC d) (s : ByteArray) (a : Nat) (o ob : Bool) (x y : Int) (w : World) (hs : s.size ≤ 1048576) (ha : a ≤ s.size) (hx : x = a) (hy : y = d) (ho : ob = o) :
  Calls Try.prog 26 #[.string s, .int .i64 x, .int .i64 y, .bool ob] w fun e w' => e = .returned (said a (list (value d) o ((s.data.toList.drop a).length + 1) true (s.data.toList.drop a))) ∧ Change (fun _ => False) w w' := by
  subst hx hy ho; exact h s a ob w hs ha
theorem quoteI (s : ByteArray) (a : Nat) (x : Int) (w : World) (hs : s.size ≤ 1048576) (ha : a ≤ s.size) (hx : x = a) :
    Calls Try.prog 27 #[.string s, .int .i64 x] w fun e w' => e = .returned (said a (quote 0 (s.data.toList.drop a))) ∧ Change (fun _ => False) w w' := by
  subst hx; exact quote_any s a w hs ha
theorem rdigitI (c : UInt8) (x : Int) (w : World) (hx : x = c.toNat) :
    Calls Try.prog 28 #[.int .u8 x] w fun e w' => e = .returned (.bool (digit c)) ∧ w = w' := by
  subst hx; exact rdigit_any c w
theorem number10_any (s : ByteArray) (a : Nat) (w : World) (hs : s.size ≤ 1048576) (ha : a < s.size) :
    Calls Try.prog 29 #[.string s, .int .i64 a] w fun e w' => e = .returned (said a (if s[a] = 45 then add 1 (number 10 (s.data.toList.drop (a + 1))) else number 10 (s[a] :: s.data.toList.drop (a + 1)))) ∧ Change (fun _ => False) w w' := by
  refine (number_any s a w hs ha).mono ?_
  rintro e w' ⟨rfl, hc⟩
  refine ⟨?_, hc⟩
  congr 1
  by_cases h45 : s[a] = 45
  · rw [if_pos (by rw [h45]; rfl), if_pos h45, said_add, num10]
  · rw [if_neg (fun h => h45 (by rw [u8n]; exact h)), if_neg h45, num10, ← drop_cons ha]


set_option maxHeartbeats 8000000 in
set_option maxRecDepth 100000 in
theorem value_zero : ValC 0 := by
  intro s a w hs ha
  have hsk := skip_le (s.data.toList.drop a)
  simp only [List.length_drop, Array.length_toList] at hsk
  have hsz : s.data.size = s.size := rfl
  rw [hsz] at hsk
  have hR := value_eq 0 (s.data.toList.drop a)
  rw [List.drop_drop] at hR
  obtain ⟨p, hp⟩ : ∃ p, p = a + skip (s.data.toList.drop a) := ⟨_, rfl⟩
  have hps : p ≤ s.size := by omega
  obtain ⟨R, hRR⟩ : ∃ R, R = said a (value 0 (s.data.toList.drop a)) := ⟨_, rfl⟩
  rw [← hRR]
  rw [hR, ← hp] at hRR
  obtain ⟨k, hk⟩ : ∃ k, k = skip (s.data.toList.drop a) := ⟨_, rfl⟩
  rw [← hk] at hRR hp
  have HRR := Lib.hid hRR
  have HP := Lib.hid hp
  have HK := Lib.hid hk
  clear hRR hp hk hR hsk
  go_enter Try.func21, Try.ntmps21
  go_wp2_with fail
  refine (skip_any s a _ (by unfold maxLen; omega) ha).mono ?_
  rintro e w1 ⟨rfl, rfl⟩
  rw [← HK.out, ← HP.out]
  have hb : Blk (w.alloc (.cells #[.int .i64 0, .int .i64 0] 38)) w.heap.size 38 #[.int .i64 0, .int .i64 0] := Blk.new w 38 #[.int .i64 0, .int .i64 0]
  have hc : Change (fun _ => False) w (w.alloc (.cells #[.int .i64 0, .int .i64 0] 38)) := (Change.refl _ w).alloc _
  generalize w.alloc (.cells #[.int .i64 0, .int .i64 0] 38) = w1 at *
  obtain ⟨c0, c1, hf⟩ := blk_agg hb
  have HB := Lib.hid hb
  have HC := Lib.hid hc
  clear hb hc
  by_cases hlt : p < s.size
  · have hd := drop_cons hlt
    have hu := u8_lt s[p]
    have e0 : ((p : Int) == s.size) = false := by rw [beq_eq_false_iff_ne]; omega
    rcases u8_is s[p] 91 91 rfl with ⟨b1, n1⟩ | ⟨b1, n1⟩
    · have HF : Hid (R = said p (0, 3)) := by
        show _ = _
        rw [HRR.out, hd]; simp only; rw [if_pos (.inl b1)]; simp only [said]; rw [HP.out]; rfl
      clear hd b1
      go_wp2
      refine post_said (b := w.heap.size) ((HB.out.set 0 _).set 1 _) rfl rfl rfl ⟨?_, ?_⟩
      · rw [HF.out]; rfl
      · (repeat (first | exact HC.out | refine Change.drewN ?_ _ | refine Change.drew ?_ | refine Change.alloc ?_ _ | refine Change.setCell ?_ (.inr (by first | (simp; done) | (simp; omega))) _))
    rcases u8_is s[p] 123 123 rfl with ⟨b2, n2⟩ | ⟨b2, n2⟩
    · have HF : Hid (R = said p (0, 3)) := by
        show _ = _
        rw [HRR.out, hd]; simp only; rw [if_pos (.inr b2)]; simp only [said]; rw [HP.out]; rfl
      clear hd b1 b2
      go_wp2
      refine post_said (b := w.heap.size) ((HB.out.set 0 _).set 1 _) rfl rfl rfl ⟨?_, ?_⟩
      · rw [HF.out]; rfl
      · (repeat (first | exact HC.out | refine Change.drewN ?_ _ | refine Change.drew ?_ | refine Change.alloc ?_ _ | refine Change.setCell ?_ (.inr (by first | (simp; done) | (simp; omega))) _))
    rcases u8_is s[p] 34 34 rfl with ⟨b3, n3⟩ | ⟨b3, n3⟩
    · have HF : Hid (R = said (p + 1) (quote 0 (s.data.toList.drop (p + 1)))) := by
        show _ = _
        rw [HRR.out, hd]; simp only; rw [if_neg (by intro h; rcases h with h | h; exact b1 h; exact b2 h), value.flat, if_pos b3, said_add, said_add, ← HP.out]
      clear hd b1 b2 b3
      go_wp2_with fail
      refine (quoteI s (p + 1) _ _ hs (by omega) (by omega)).mono ?_
      rintro e w2 ⟨rfl, hc2⟩
      have hc3 := HC.out.trans hc2 (fun i h => h.elim)
      have hb3 := HB.out.of_change hc2 (fun h => h)
      obtain ⟨g0, g1, hg⟩ := blk_agg hb3
      have HB3 := Lib.hid hb3
      have HC3 := Lib.hid hc3
      clear hb3 hc3 hc2 c0 c1 hf
      obtain ⟨rn, rs, hsd, -, -⟩ := said_open _ _
      rw [hsd]
      have HSD := Lib.hid hsd
      clear hsd
      go_wp2
      refine post_said (b := w.heap.size) ((HB3.out.set 0 _).set 1 _) rfl rfl rfl ⟨?_, ?_⟩
      · rw [HF.out, ← HSD.out]
      · (repeat (first | exact HC3.out | refine Change.drewN ?_ _ | refine Change.drew ?_ | refine Change.alloc ?_ _ | refine Change.setCell ?_ (.inr (by first | (simp; done) | (simp; omega))) _))
    rcases u8_is s[p] 45 45 rfl with ⟨b4, n4⟩ | ⟨b4, n4⟩
    · have HF : Hid (R = said p (if s[p] = 45 then add 1 (number 10 (s.data.toList.drop (p + 1))) else number 10 (s[p] :: s.data.toList.drop (p + 1)))) := by
        show _ = _
        rw [HRR.out, hd]; simp only; rw [if_neg (by intro h; rcases h with h | h; exact b1 h; exact b2 h), value.flat, if_neg b3, if_pos b4, if_pos b4, said_add, ← HP.out]
      have HN := Lib.hid (number10_any s p w1 hs hlt)
      clear hd b1 b2 b3 b4
      go_wp2_with fail
      refine (HN.out).mono ?_
      rintro e w2 ⟨rfl, hc2⟩
      have hc3 := HC.out.trans hc2 (fun i h => h.elim)
      have hb3 := HB.out.of_change hc2 (fun h => h)
      obtain ⟨g0, g1, hg⟩ := blk_agg hb3
      have HB3 := Lib.hid hb3
      have HC3 := Lib.hid hc3
      clear hb3 hc3 hc2 c0 c1 hf
      obtain ⟨rn, rs, hsd, -, -⟩ := said_open _ _
      rw [hsd]
      have HSD := Lib.hid hsd
      clear hsd
      go_wp2
      refine post_said (b := w.heap.size) ((HB3.out.set 0 _).set 1 _) rfl rfl rfl ⟨?_, ?_⟩
      · rw [HF.out, ← HSD.out]
      · (repeat (first | exact HC3.out | refine Change.drewN ?_ _ | refine Change.drew ?_ | refine Change.alloc ?_ _ | refine Change.setCell ?_ (.inr (by first | (simp; done) | (simp; omega))) _))
    cases hdg : digit s[p]
    rotate_left
    · have HF : Hid (R = said p (if s[p] = 45 then add 1 (number 10 (s.data.toList.drop (p + 1))) else number 10 (s[p] :: s.data.toList.drop (p + 1)))) := by
        show _ = _
        rw [HRR.out, hd]; simp only; rw [if_neg (by intro h; rcases h with h | h; exact b1 h; exact b2 h), value.flat, if_neg b3, if_neg b4, if_neg b4, if_pos hdg, said_add, ← HP.out]
      have HN := Lib.hid (number10_any s p w1 hs hlt)
      clear hd b1 b2 b3 b4
      go_wp2_with (go_at_call 28; refine Calls.mono (rdigitI s[p] _ _ ?_) ?_; (first | rfl | omega | (simp only [beq_iff_eq] at *; omega)); rintro e w' ⟨rfl, rfl⟩)
      refine (HN.out).mono ?_
      rintro e w2 ⟨rfl, hc2⟩
      have hc3 := HC.out.trans hc2 (fun i h => h.elim)
      have hb3 := HB.out.of_change hc2 (fun h => h)
      obtain ⟨g0, g1, hg⟩ := blk_agg hb3
      have HB3 := Lib.hid hb3
      have HC3 := Lib.hid hc3
      clear hb3 hc3 hc2 c0 c1 hf
      obtain ⟨rn, rs, hsd, -, -⟩ := said_open _ _
      rw [hsd]
      have HSD := Lib.hid hsd
      clear hsd
      go_wp2
      refine post_said (b := w.heap.size) ((HB3.out.set 0 _).set 1 _) rfl rfl rfl ⟨?_, ?_⟩
      · rw [HF.out, ← HSD.out]
      · (repeat (first | exact HC3.out | refine Change.drewN ?_ _ | refine Change.drew ?_ | refine Change.alloc ?_ _ | refine Change.setCell ?_ (.inr (by first | (simp; done) | (simp; omega))) _))
    rcases u8_is s[p] 116 116 rfl with ⟨b5, n5⟩ | ⟨b5, n5⟩
    · have HF : Hid (R = said p (word (s.data.toList.drop p) [116, 114, 117, 101])) := by
        show _ = _
        rw [HRR.out, hd]; simp only; rw [if_neg (by intro h; rcases h with h | h; exact b1 h; exact b2 h), value.flat, if_neg b3, if_neg b4, if_neg (by rw [hdg]; decide), if_pos b5, said_add, ← HP.out]
      clear hd b1 b2 b3 b4 b5
      go_wp2_with (go_at_call 28; refine Calls.mono (rdigitI s[p] _ _ ?_) ?_; (first | rfl | omega | (simp only [beq_iff_eq] at *; omega)); rintro e w' ⟨rfl, rfl⟩)
      refine (word_any s ⟨#[116, 114, 117, 101]⟩ p _ hs (by decide) (by omega)).mono ?_
      rintro e w2 ⟨rfl, hc2⟩
      have hc3 := HC.out.trans hc2 (fun i h => h.elim)
      have hb3 := HB.out.of_change hc2 (fun h => h)
      obtain ⟨g0, g1, hg⟩ := blk_agg hb3
      have HB3 := Lib.hid hb3
      have HC3 := Lib.hid hc3
      clear hb3 hc3 hc2 c0 c1 hf
      obtain ⟨rn, rs, hsd, -, -⟩ := said_open _ _
      rw [hsd]
      have HSD := Lib.hid hsd
      clear hsd
      go_wp2
      refine post_said (b := w.heap.size) ((HB3.out.set 0 _).set 1 _) rfl rfl rfl ⟨?_, ?_⟩
      · rw [HF.out, ← HSD.out]
      · (repeat (first | exact HC3.out | refine Change.drewN ?_ _ | refine Change.drew ?_ | refine Change.alloc ?_ _ | refine Change.setCell ?_ (.inr (by first | (simp; done) | (simp; omega))) _))
    rcases u8_is s[p] 102 102 rfl with ⟨b6, n6⟩ | ⟨b6, n6⟩
    · have HF : Hid (R = said p (word (s.data.toList.drop p) [102, 97, 108, 115, 101])) := by
        show _ = _
        rw [HRR.out, hd]; simp only; rw [if_neg (by intro h; rcases h with h | h; exact b1 h; exact b2 h), value.flat, if_neg b3, if_neg b4, if_neg (by rw [hdg]; decide), if_neg b5, if_pos b6, said_add, ← HP.out]
      clear hd b1 b2 b3 b4 b5 b6
      go_wp2_with (go_at_call 28; refine Calls.mono (rdigitI s[p] _ _ ?_) ?_; (first | rfl | omega | (simp only [beq_iff_eq] at *; omega)); rintro e w' ⟨rfl, rfl⟩)
      refine (word_any s ⟨#[102, 97, 108, 115, 101]⟩ p _ hs (by decide) (by omega)).mono ?_
      rintro e w2 ⟨rfl, hc2⟩
      have hc3 := HC.out.trans hc2 (fun i h => h.elim)
      have hb3 := HB.out.of_change hc2 (fun h => h)
      obtain ⟨g0, g1, hg⟩ := blk_agg hb3
      have HB3 := Lib.hid hb3
      have HC3 := Lib.hid hc3
      clear hb3 hc3 hc2 c0 c1 hf
      obtain ⟨rn, rs, hsd, -, -⟩ := said_open _ _
      rw [hsd]
      have HSD := Lib.hid hsd
      clear hsd
      go_wp2
      refine post_said (b := w.heap.size) ((HB3.out.set 0 _).set 1 _) rfl rfl rfl ⟨?_, ?_⟩
      · rw [HF.out, ← HSD.out]
      · (repeat (first | exact HC3.out | refine Change.drewN ?_ _ | refine Change.drew ?_ | refine Change.alloc ?_ _ | refine Change.setCell ?_ (.inr (by first | (simp; done) | (simp; omega))) _))
    rcases u8_is s[p] 110 110 rfl with ⟨b7, n7⟩ | ⟨b7, n7⟩
    · have HF : Hid (R = said p (word (s.data.toList.drop p) [110, 117, 108, 108])) := by
        show _ = _
        rw [HRR.out, hd]; simp only; rw [if_neg (by intro h; rcases h with h | h; exact b1 h; exact b2 h), value.flat, if_neg b3, if_neg b4, if_neg (by rw [hdg]; decide), if_neg b5, if_neg b6, if_pos b7, said_add, ← HP.out]
      clear hd b1 b2 b3 b4 b5 b6 b7
      go_wp2_with (go_at_call 28; refine Calls.mono (rdigitI s[p] _ _ ?_) ?_; (first | rfl | omega | (simp only [beq_iff_eq] at *; omega)); rintro e w' ⟨rfl, rfl⟩)
      refine (word_any s ⟨#[110, 117, 108, 108]⟩ p _ hs (by decide) (by omega)).mono ?_
      rintro e w2 ⟨rfl, hc2⟩
      have hc3 := HC.out.trans hc2 (fun i h => h.elim)
      have hb3 := HB.out.of_change hc2 (fun h => h)
      obtain ⟨g0, g1, hg⟩ := blk_agg hb3
      have HB3 := Lib.hid hb3
      have HC3 := Lib.hid hc3
      clear hb3 hc3 hc2 c0 c1 hf
      obtain ⟨rn, rs, hsd, -, -⟩ := said_open _ _
      rw [hsd]
      have HSD := Lib.hid hsd
      clear hsd
      go_wp2
      refine post_said (b := w.heap.size) ((HB3.out.set 0 _).set 1 _) rfl rfl rfl ⟨?_, ?_⟩
      · rw [HF.out, ← HSD.out]
      · (repeat (first | exact HC3.out | refine Change.drewN ?_ _ | refine Change.drew ?_ | refine Change.alloc ?_ _ | refine Change.setCell ?_ (.inr (by first | (simp; done) | (simp; omega))) _))
    have HF : Hid (R = said p (0, 0)) := by
      show _ = _
      rw [HRR.out, hd]; simp only; rw [if_neg (by intro h; rcases h with h | h; exact b1 h; exact b2 h), value.flat, if_neg b3, if_neg b4, if_neg (by rw [hdg]; decide), if_neg b5, if_neg b6, if_neg b7, said_add, ← HP.out]
    clear hd b1 b2 b3 b4 b5 b6 b7
    go_wp2_with (go_at_call 28; refine Calls.mono (rdigitI s[p] _ _ ?_) ?_; (first | rfl | omega | (simp only [beq_iff_eq] at *; omega)); rintro e w' ⟨rfl, rfl⟩)
    refine post_said (b := w.heap.size) ((HB.out.set 0 _).set 1 _) rfl rfl rfl ⟨?_, ?_⟩
    · rw [HF.out]; rfl
    · (repeat (first | exact HC.out | refine Change.drewN ?_ _ | refine Change.drew ?_ | refine Change.alloc ?_ _ | refine Change.setCell ?_ (.inr (by first | (simp; done) | (simp; omega))) _))
  · have hd := drop_end hlt
    have e0 : ((p : Int) == s.size) = true := by rw [beq_iff_eq]; omega
    have HF : Hid (R = said p (0, 1)) := by
      show _ = _
      rw [HRR.out, hd]; simp only [said]; rw [HP.out]; rfl
    have hpe : p = s.size := by omega
    have HPE := Lib.hid hpe
    clear hd hpe
    go_wp2
    refine post_said (b := w.heap.size) ((HB.out.set 0 _).set 1 _) rfl rfl rfl ⟨?_, ?_⟩
    · rw [HF.out]; rfl
    · (repeat (first | exact HC.out | refine Change.drewN ?_ _ | refine Change.drew ?_ | refine Change.alloc ?_ _ | refine Change.setCell ?_ (.inr (by first | (simp; done) | (simp; omega))) _))


set_option maxHeartbeats 16000000 in
set_option maxRecDepth 100000 in
theorem value_succ (d : Nat) (hd200 : d ≤ 1000) (hl : ListC d) : ValC (d + 1) := by
  intro s a w hs ha
  have HL := Lib.hid hl
  clear hl
  have z0 : (((d + 1 : Nat) : Int) == 0) = false := by rw [beq_eq_false_iff_ne]; omega
  have z1 : ((d : Int) + 1 == 0) = false := by rw [beq_eq_false_iff_ne]; omega
  have hsk := skip_le (s.data.toList.drop a)
  simp only [List.length_drop, Array.length_toList] at hsk
  have hsz : s.data.size = s.size := rfl
  rw [hsz] at hsk
  have hR := value_eq (d + 1) (s.data.toList.drop a)
  rw [List.drop_drop] at hR
  obtain ⟨p, hp⟩ : ∃ p, p = a + skip (s.data.toList.drop a) := ⟨_, rfl⟩
  have hps : p ≤ s.size := by omega
  obtain ⟨R, hRR⟩ : ∃ R, R = said a (value (d + 1) (s.data.toList.drop a)) := ⟨_, rfl⟩
  rw [← hRR]
  rw [hR, ← hp] at hRR
  obtain ⟨k, hk⟩ : ∃ k, k = skip (s.data.toList.drop a) := ⟨_, rfl⟩
  rw [← hk] at hRR hp
  have HRR := Lib.hid hRR
  have HP := Lib.hid hp
  have HK := Lib.hid hk
  clear hRR hp hk hR hsk
  go_enter Try.func21, Try.ntmps21
  go_wp2_with fail
  refine (skip_any s a _ (by unfold maxLen; omega) ha).mono ?_
  rintro e w1 ⟨rfl, rfl⟩
  rw [← HK.out, ← HP.out]
  have hb : Blk (w.alloc (.cells #[.int .i64 0, .int .i64 0] 38)) w.heap.size 38 #[.int .i64 0, .int .i64 0] := Blk.new w 38 #[.int .i64 0, .int .i64 0]
  have hc : Change (fun _ => False) w (w.alloc (.cells #[.int .i64 0, .int .i64 0] 38)) := (Change.refl _ w).alloc _
  generalize w.alloc (.cells #[.int .i64 0, .int .i64 0] 38) = w1 at *
  obtain ⟨c0, c1, hf⟩ := blk_agg hb
  have HB := Lib.hid hb
  have HC := Lib.hid hc
  clear hb hc
  by_cases hlt : p < s.size
  · have hd := drop_cons hlt
    have hu := u8_lt s[p]
    have e0 : ((p : Int) == s.size) = false := by rw [beq_eq_false_iff_ne]; omega
    rcases u8_is s[p] 91 91 rfl with ⟨b1, n1⟩ | ⟨b1, n1⟩
    · have HF : Hid (R = said (p + 1) (list (value d) false ((s.data.toList.drop (p + 1)).length + 1) true (s.data.toList.drop (p + 1)))) := by
        show _ = _
        rw [HRR.out, hd]; simp only; rw [if_pos (.inl b1), said_add, show (s[p] == 123) = false from by rw [b1]; rfl, ← Nat.add_assoc, ← HP.out]
      clear hd b1
      go_wp2_with fail
      refine (listI HL.out s (p + 1) false _ _ _ _ hs (by omega) (by omega) (by omega) (by first | assumption | rfl | (rw [beq_eq_false_iff_ne]; simp only [beq_iff_eq] at *; omega))).mono ?_
      rintro e w2 ⟨rfl, hc2⟩
      have hc3 := HC.out.trans hc2 (fun i h => h.elim)
      have hb3 := HB.out.of_change hc2 (fun h => h)
      obtain ⟨g0, g1, hg⟩ := blk_agg hb3
      have HB3 := Lib.hid hb3
      have HC3 := Lib.hid hc3
      clear hb3 hc3 hc2 c0 c1 hf
      obtain ⟨rn, rs, hsd, -, -⟩ := said_open _ _
      rw [hsd]
      have HSD := Lib.hid hsd
      clear hsd
      go_wp2
      refine post_said (b := w.heap.size) ((HB3.out.set 0 _).set 1 _) rfl rfl rfl ⟨?_, ?_⟩
      · rw [HF.out, ← HSD.out]
      · (repeat (first | exact HC3.out | refine Change.drewN ?_ _ | refine Change.drew ?_ | refine Change.alloc ?_ _ | refine Change.setCell ?_ (.inr (by first | (simp; done) | (simp; omega))) _))
    rcases u8_is s[p] 123 123 rfl with ⟨b2, n2⟩ | ⟨b2, n2⟩
    · have HF : Hid (R = said (p + 1) (list (value d) true ((s.data.toList.drop (p + 1)).length + 1) true (s.data.toList.drop (p + 1)))) := by
        show _ = _
        rw [HRR.out, hd]; simp only; rw [if_pos (.inr b2), said_add, show (s[p] == 123) = true from by rw [b2]; rfl, ← Nat.add_assoc, ← HP.out]
      clear hd b1 b2
      go_wp2_with fail
      refine (listI HL.out s (p + 1) true _ _ _ _ hs (by omega) (by omega) (by omega) (by first | assumption | rfl | (rw [beq_eq_false_iff_ne]; simp only [beq_iff_eq] at *; omega))).mono ?_
      rintro e w2 ⟨rfl, hc2⟩
      have hc3 := HC.out.trans hc2 (fun i h => h.elim)
      have hb3 := HB.out.of_change hc2 (fun h => h)
      obtain ⟨g0, g1, hg⟩ := blk_agg hb3
      have HB3 := Lib.hid hb3
      have HC3 := Lib.hid hc3
      clear hb3 hc3 hc2 c0 c1 hf
      obtain ⟨rn, rs, hsd, -, -⟩ := said_open _ _
      rw [hsd]
      have HSD := Lib.hid hsd
      clear hsd
      go_wp2
      refine post_said (b := w.heap.size) ((HB3.out.set 0 _).set 1 _) rfl rfl rfl ⟨?_, ?_⟩
      · rw [HF.out, ← HSD.out]
      · (repeat (first | exact HC3.out | refine Change.drewN ?_ _ | refine Change.drew ?_ | refine Change.alloc ?_ _ | refine Change.setCell ?_ (.inr (by first | (simp; done) | (simp; omega))) _))
    rcases u8_is s[p] 34 34 rfl with ⟨b3, n3⟩ | ⟨b3, n3⟩
    · have HF : Hid (R = said (p + 1) (quote 0 (s.data.toList.drop (p + 1)))) := by
        show _ = _
        rw [HRR.out, hd]; simp only; rw [if_neg (by intro h; rcases h with h | h; exact b1 h; exact b2 h), value.flat, if_pos b3, said_add, said_add, ← HP.out]
      clear hd b1 b2 b3
      go_wp2_with fail
      refine (quoteI s (p + 1) _ _ hs (by omega) (by omega)).mono ?_
      rintro e w2 ⟨rfl, hc2⟩
      have hc3 := HC.out.trans hc2 (fun i h => h.elim)
      have hb3 := HB.out.of_change hc2 (fun h => h)
      obtain ⟨g0, g1, hg⟩ := blk_agg hb3
      have HB3 := Lib.hid hb3
      have HC3 := Lib.hid hc3
      clear hb3 hc3 hc2 c0 c1 hf
      obtain ⟨rn, rs, hsd, -, -⟩ := said_open _ _
      rw [hsd]
      have HSD := Lib.hid hsd
      clear hsd
      go_wp2
      refine post_said (b := w.heap.size) ((HB3.out.set 0 _).set 1 _) rfl rfl rfl ⟨?_, ?_⟩
      · rw [HF.out, ← HSD.out]
      · (repeat (first | exact HC3.out | refine Change.drewN ?_ _ | refine Change.drew ?_ | refine Change.alloc ?_ _ | refine Change.setCell ?_ (.inr (by first | (simp; done) | (simp; omega))) _))
    rcases u8_is s[p] 45 45 rfl with ⟨b4, n4⟩ | ⟨b4, n4⟩
    · have HF : Hid (R = said p (if s[p] = 45 then add 1 (number 10 (s.data.toList.drop (p + 1))) else number 10 (s[p] :: s.data.toList.drop (p + 1)))) := by
        show _ = _
        rw [HRR.out, hd]; simp only; rw [if_neg (by intro h; rcases h with h | h; exact b1 h; exact b2 h), value.flat, if_neg b3, if_pos b4, if_pos b4, said_add, ← HP.out]
      have HN := Lib.hid (number10_any s p w1 hs hlt)
      clear hd b1 b2 b3 b4
      go_wp2_with fail
      refine (HN.out).mono ?_
      rintro e w2 ⟨rfl, hc2⟩
      have hc3 := HC.out.trans hc2 (fun i h => h.elim)
      have hb3 := HB.out.of_change hc2 (fun h => h)
      obtain ⟨g0, g1, hg⟩ := blk_agg hb3
      have HB3 := Lib.hid hb3
      have HC3 := Lib.hid hc3
      clear hb3 hc3 hc2 c0 c1 hf
      obtain ⟨rn, rs, hsd, -, -⟩ := said_open _ _
      rw [hsd]
      have HSD := Lib.hid hsd
      clear hsd
      go_wp2
      refine post_said (b := w.heap.size) ((HB3.out.set 0 _).set 1 _) rfl rfl rfl ⟨?_, ?_⟩
      · rw [HF.out, ← HSD.out]
      · (repeat (first | exact HC3.out | refine Change.drewN ?_ _ | refine Change.drew ?_ | refine Change.alloc ?_ _ | refine Change.setCell ?_ (.inr (by first | (simp; done) | (simp; omega))) _))
    cases hdg : digit s[p]
    rotate_left
    · have HF : Hid (R = said p (if s[p] = 45 then add 1 (number 10 (s.data.toList.drop (p + 1))) else number 10 (s[p] :: s.data.toList.drop (p + 1)))) := by
        show _ = _
        rw [HRR.out, hd]; simp only; rw [if_neg (by intro h; rcases h with h | h; exact b1 h; exact b2 h), value.flat, if_neg b3, if_neg b4, if_neg b4, if_pos hdg, said_add, ← HP.out]
      have HN := Lib.hid (number10_any s p w1 hs hlt)
      clear hd b1 b2 b3 b4
      go_wp2_with (go_at_call 28; refine Calls.mono (rdigitI s[p] _ _ ?_) ?_; (first | rfl | omega | (simp only [beq_iff_eq] at *; omega)); rintro e w' ⟨rfl, rfl⟩)
      refine (HN.out).mono ?_
      rintro e w2 ⟨rfl, hc2⟩
      have hc3 := HC.out.trans hc2 (fun i h => h.elim)
      have hb3 := HB.out.of_change hc2 (fun h => h)
      obtain ⟨g0, g1, hg⟩ := blk_agg hb3
      have HB3 := Lib.hid hb3
      have HC3 := Lib.hid hc3
      clear hb3 hc3 hc2 c0 c1 hf
      obtain ⟨rn, rs, hsd, -, -⟩ := said_open _ _
      rw [hsd]
      have HSD := Lib.hid hsd
      clear hsd
      go_wp2
      refine post_said (b := w.heap.size) ((HB3.out.set 0 _).set 1 _) rfl rfl rfl ⟨?_, ?_⟩
      · rw [HF.out, ← HSD.out]
      · (repeat (first | exact HC3.out | refine Change.drewN ?_ _ | refine Change.drew ?_ | refine Change.alloc ?_ _ | refine Change.setCell ?_ (.inr (by first | (simp; done) | (simp; omega))) _))
    rcases u8_is s[p] 116 116 rfl with ⟨b5, n5⟩ | ⟨b5, n5⟩
    · have HF : Hid (R = said p (word (s.data.toList.drop p) [116, 114, 117, 101])) := by
        show _ = _
        rw [HRR.out, hd]; simp only; rw [if_neg (by intro h; rcases h with h | h; exact b1 h; exact b2 h), value.flat, if_neg b3, if_neg b4, if_neg (by rw [hdg]; decide), if_pos b5, said_add, ← HP.out]
      clear hd b1 b2 b3 b4 b5
      go_wp2_with (go_at_call 28; refine Calls.mono (rdigitI s[p] _ _ ?_) ?_; (first | rfl | omega | (simp only [beq_iff_eq] at *; omega)); rintro e w' ⟨rfl, rfl⟩)
      refine (word_any s ⟨#[116, 114, 117, 101]⟩ p _ hs (by decide) (by omega)).mono ?_
      rintro e w2 ⟨rfl, hc2⟩
      have hc3 := HC.out.trans hc2 (fun i h => h.elim)
      have hb3 := HB.out.of_change hc2 (fun h => h)
      obtain ⟨g0, g1, hg⟩ := blk_agg hb3
      have HB3 := Lib.hid hb3
      have HC3 := Lib.hid hc3
      clear hb3 hc3 hc2 c0 c1 hf
      obtain ⟨rn, rs, hsd, -, -⟩ := said_open _ _
      rw [hsd]
      have HSD := Lib.hid hsd
      clear hsd
      go_wp2
      refine post_said (b := w.heap.size) ((HB3.out.set 0 _).set 1 _) rfl rfl rfl ⟨?_, ?_⟩
      · rw [HF.out, ← HSD.out]
      · (repeat (first | exact HC3.out | refine Change.drewN ?_ _ | refine Change.drew ?_ | refine Change.alloc ?_ _ | refine Change.setCell ?_ (.inr (by first | (simp; done) | (simp; omega))) _))
    rcases u8_is s[p] 102 102 rfl with ⟨b6, n6⟩ | ⟨b6, n6⟩
    · have HF : Hid (R = said p (word (s.data.toList.drop p) [102, 97, 108, 115, 101])) := by
        show _ = _
        rw [HRR.out, hd]; simp only; rw [if_neg (by intro h; rcases h with h | h; exact b1 h; exact b2 h), value.flat, if_neg b3, if_neg b4, if_neg (by rw [hdg]; decide), if_neg b5, if_pos b6, said_add, ← HP.out]
      clear hd b1 b2 b3 b4 b5 b6
      go_wp2_with (go_at_call 28; refine Calls.mono (rdigitI s[p] _ _ ?_) ?_; (first | rfl | omega | (simp only [beq_iff_eq] at *; omega)); rintro e w' ⟨rfl, rfl⟩)
      refine (word_any s ⟨#[102, 97, 108, 115, 101]⟩ p _ hs (by decide) (by omega)).mono ?_
      rintro e w2 ⟨rfl, hc2⟩
      have hc3 := HC.out.trans hc2 (fun i h => h.elim)
      have hb3 := HB.out.of_change hc2 (fun h => h)
      obtain ⟨g0, g1, hg⟩ := blk_agg hb3
      have HB3 := Lib.hid hb3
      have HC3 := Lib.hid hc3
      clear hb3 hc3 hc2 c0 c1 hf
      obtain ⟨rn, rs, hsd, -, -⟩ := said_open _ _
      rw [hsd]
      have HSD := Lib.hid hsd
      clear hsd
      go_wp2
      refine post_said (b := w.heap.size) ((HB3.out.set 0 _).set 1 _) rfl rfl rfl ⟨?_, ?_⟩
      · rw [HF.out, ← HSD.out]
      · (repeat (first | exact HC3.out | refine Change.drewN ?_ _ | refine Change.drew ?_ | refine Change.alloc ?_ _ | refine Change.setCell ?_ (.inr (by first | (simp; done) | (simp; omega))) _))
    rcases u8_is s[p] 110 110 rfl with ⟨b7, n7⟩ | ⟨b7, n7⟩
    · have HF : Hid (R = said p (word (s.data.toList.drop p) [110, 117, 108, 108])) := by
        show _ = _
        rw [HRR.out, hd]; simp only; rw [if_neg (by intro h; rcases h with h | h; exact b1 h; exact b2 h), value.flat, if_neg b3, if_neg b4, if_neg (by rw [hdg]; decide), if_neg b5, if_neg b6, if_pos b7, said_add, ← HP.out]
      clear hd b1 b2 b3 b4 b5 b6 b7
      go_wp2_with (go_at_call 28; refine Calls.mono (rdigitI s[p] _ _ ?_) ?_; (first | rfl | omega | (simp only [beq_iff_eq] at *; omega)); rintro e w' ⟨rfl, rfl⟩)
      refine (word_any s ⟨#[110, 117, 108, 108]⟩ p _ hs (by decide) (by omega)).mono ?_
      rintro e w2 ⟨rfl, hc2⟩
      have hc3 := HC.out.trans hc2 (fun i h => h.elim)
      have hb3 := HB.out.of_change hc2 (fun h => h)
      obtain ⟨g0, g1, hg⟩ := blk_agg hb3
      have HB3 := Lib.hid hb3
      have HC3 := Lib.hid hc3
      clear hb3 hc3 hc2 c0 c1 hf
      obtain ⟨rn, rs, hsd, -, -⟩ := said_open _ _
      rw [hsd]
      have HSD := Lib.hid hsd
      clear hsd
      go_wp2
      refine post_said (b := w.heap.size) ((HB3.out.set 0 _).set 1 _) rfl rfl rfl ⟨?_, ?_⟩
      · rw [HF.out, ← HSD.out]
      · (repeat (first | exact HC3.out | refine Change.drewN ?_ _ | refine Change.drew ?_ | refine Change.alloc ?_ _ | refine Change.setCell ?_ (.inr (by first | (simp; done) | (simp; omega))) _))
    have HF : Hid (R = said p (0, 0)) := by
      show _ = _
      rw [HRR.out, hd]; simp only; rw [if_neg (by intro h; rcases h with h | h; exact b1 h; exact b2 h), value.flat, if_neg b3, if_neg b4, if_neg (by rw [hdg]; decide), if_neg b5, if_neg b6, if_neg b7, said_add, ← HP.out]
    clear hd b1 b2 b3 b4 b5 b6 b7
    go_wp2_with (go_at_call 28; refine Calls.mono (rdigitI s[p] _ _ ?_) ?_; (first | rfl | omega | (simp only [beq_iff_eq] at *; omega)); rintro e w' ⟨rfl, rfl⟩)
    refine post_said (b := w.heap.size) ((HB.out.set 0 _).set 1 _) rfl rfl rfl ⟨?_, ?_⟩
    · rw [HF.out]; rfl
    · (repeat (first | exact HC.out | refine Change.drewN ?_ _ | refine Change.drew ?_ | refine Change.alloc ?_ _ | refine Change.setCell ?_ (.inr (by first | (simp; done) | (simp; omega))) _))
  · have hd := drop_end hlt
    have e0 : ((p : Int) == s.size) = true := by rw [beq_iff_eq]; omega
    have HF : Hid (R = said p (0, 1)) := by
      show _ = _
      rw [HRR.out, hd]; simp only [said]; rw [HP.out]; rfl
    have hpe : p = s.size := by omega
    have HPE := Lib.hid hpe
    clear hd hpe
    go_wp2
    refine post_said (b := w.heap.size) ((HB.out.set 0 _).set 1 _) rfl rfl rfl ⟨?_, ?_⟩
    · rw [HF.out]; rfl
    · (repeat (first | exact HC.out | refine Change.drewN ?_ _ | refine Change.drew ?_ | refine Change.alloc ?_ _ | refine Change.setCell ?_ (.inr (by first | (simp; done) | (simp; omega))) _))

end Go.Proofs.Ytpelmepidboikaa
