/-
  The JSON machine's exported functions: what each does.
-/
import Derived.Test.YtpelmepidboikaaJsonMethC
set_option linter.unusedSimpArgs false
set_option linter.unusedVariables false
namespace Go.Proofs.Ytpelmepidboikaa
open Go.RowKit Go.Tg Tg.Json

theorem JTo.refl {w : World} {b : Nat} {m : M} {S : Nat → Prop} (h : JMach w b m S) : JTo w b S m w := ⟨S, h, Change.refl S w, fun _ h => .inl h⟩
theorem JTo.seq {w w1 w2 : World} {b : Nat} {m1 m2 : M} {S : Nat → Prop} (h : JTo w b S m1 w1) (k : ∀ S1, JMach w1 b m1 S1 → JTo w1 b S1 m2 w2) : JTo w b S m2 w2 := by
  obtain ⟨S1, h1, c1, s1⟩ := h
  exact JTo.trans c1 s1 (k S1 h1)
/-- cells of the machine's block are set, its stack stays -/
theorem jmach_upd {w w' : World} {b : Nat} {m m' : M} {sl : Value} {S : Nat → Prop} {cs : Array Value}
    (hr : w.ownsRow 0 5 1 sl m.stack.length (m.stack.map u8v)) (hne : sl.ownBlock ≠ some b) (hS : ∀ k, S k ↔ k = b ∨ sl.ownBlock = some k)
    (hb : Upd w b 43 w' cs) (he : jcells m' sl = cs) (hst : m'.stack = m.stack) : JMach w' b m' S :=
  ⟨sl, he ▸ hb.blk, by rw [hst]; exact row_of_change hr hb.chg (fun g hg e => hne (by rw [hg, e])), hne, hS⟩

theorem jto_of_upd {w w' : World} {b : Nat} {m m' : M} {sl : Value} {S : Nat → Prop} {cs : Array Value}
    (hr : w.ownsRow 0 5 1 sl m.stack.length (m.stack.map u8v)) (hne : sl.ownBlock ≠ some b) (hS : ∀ k, S k ↔ k = b ∨ sl.ownBlock = some k)
    (hb : Upd w b 43 w' cs) (he : jcells m' sl = cs) (hst : m'.stack = m.stack) : JTo w b S m' w' := jto_upd hr hne hS hb he hst
set_option maxHeartbeats 1000000 in
/-- one round of Feed: the byte is taken in -/
theorem feed_nil_any (s : ByteArray) (w : World) :
    Calls Try.prog 13 #[.pointer none, .string s] w fun e w' => e = .returned (.int .i64 0) ∧ w = w' := by
  go_enter Try.func13, Try.ntmps13
  go_wp2
  go_ret
  exact ⟨rfl, rfl⟩

set_option maxHeartbeats 1000000 in
theorem feed_any (b : Nat) (m : M) (S : Nat → Prop) (w : World) (s : ByteArray) (h : JMach w b m S) (hwf : JWF m) (hs : s.size ≤ 1048576) (hseen : m.seen ≤ 1099511627776) :
    Calls Try.prog 13 #[.pointer (some ⟨b, 0, none⟩), .string s] w fun e w' => e = .returned (.int .i64 (m.feed s.data.toList).tell) ∧ JTo w b S (m.feed s.data.toList) w' := by
  have H := Lib.hid h
  have Hw := Lib.hid hwf
  clear h hwf
  go_enter Try.func13, Try.ntmps13
  go_wp2_with fail
  go_loopw [10] (fun i wr => ∃ k : Nat, k ≤ s.size ∧ i = .int .i64 k ∧ JTo w b S (m.feed (s.data.toList.take k)) wr) (fun i _ => s.size - (intOf i).toNat)
  case atStart => exact ⟨0, Nat.zero_le _, rfl, JTo.refl H.out⟩
  case round =>
    obtain ⟨k, hk, rfl, hto⟩ := hrel
    obtain ⟨S1, h1, hc1, hs1⟩ := hto
    have hwf1 : JWF (m.feed (s.data.toList.take k)) := Hw.out.feed
    have hseen1 : (m.feed (s.data.toList.take k)).seen = m.seen + k := by rw [seen_feed]; simp; omega
    have HT : Hid (∀ m' wx, JTo wr b S1 m' wx → JTo w b S m' wx) := fun m' wx hx => JTo.trans hc1 hs1 hx
    clear hc1 hs1
    by_cases hlt : k < s.size
    · have hnext : m.feed (s.data.toList.take (k + 1)) = (m.feed (s.data.toList.take k)).feed1 s[k] := by
        rw [List.take_succ_eq_append_getElem (by simpa using hlt), feed_append]; rfl
      have Hn := Lib.hid hnext
      clear hnext
      generalize m.feed (s.data.toList.take k) = m1 at *
      have hb1 : m1.seen ≤ 1099511627776 + 1048576 := by omega
      clear hseen1
      obtain ⟨sl, hb, hr, hne, hS⟩ := h1
      have hf := hb.free
      have c6 : wr.cell? ⟨b, 6, none⟩ = some (.bool m1.begun) := hb.cell 6
      have c7 : wr.cell? ⟨b, 7, none⟩ = some (.int .i64 m1.state) := hb.cell 7
      have c9 : wr.cell? ⟨b, 9, none⟩ = some (.int .i64 m1.seen) := hb.cell 9
      have Hb := Lib.hid hb
      have Hr := Lib.hid hr
      have Hne := Lib.hid hne
      have HS1 := Lib.hid hS
      have Hwf := Lib.hid hwf1
      clear hb hr hne hS hwf1
      have hst4 := Hwf.out.state
      by_cases hopen : m1.state = 1
      · have ho : ((m1.state : Int) == 1) = true := by simp [hopen]
        have HF : Hid (m1.feed1 s[k] = { (m1.beg s[k]).byte s[k] with seen := m1.seen + 1 }) := feed1_open hopen
        have HS : Hid (((m1.beg s[k]).byte s[k]).seen = m1.seen) := seen_byte _ _
        have hjm : ∀ v, Value.bool v = .bool (m1.begun || !white s[k]) → JMach (wr.setCell ⟨b, 6, none⟩ (.bool v)) b (m1.beg s[k]) S1 := fun v hv =>
          jmach_upd (m := m1) Hr.out Hne.out HS1.out ((Upd.base Hb.out).set) (by rw [hv]; rfl) rfl
        have HJ := Lib.hid hjm
        clear hjm hopen
        cases hbeg : m1.begun
        all_goals
          go_wp2_with (go_at_call 23; refine (white_any _ _).mono ?_; rintro e w' ⟨rfl, rfl⟩)
          refine (byte_any b (m1.beg s[k]) S1 _ s[k] (HJ.out _ (by simp [hbeg])) (Hwf.out.beg _) (Hwf.out.beg s[k]).rlen).mono ?_
          rintro e w2 ⟨rfl, hto⟩
          have hto1 := JTo.trans ((Change.refl S1 wr).setCell (p := ⟨b, 6, none⟩) (.inl ((HS1.out b).2 (.inl rfl))) _) (fun _ h => .inl h) hto
          obtain ⟨S2, ⟨sl2, hb2, hr2, hne2, hS2⟩, hc2, hs2⟩ := hto1
          clear hto c6 c7 c9 hf
          have d9 : w2.cell? ⟨b, 9, none⟩ = some (.int .i64 m1.seen) := by have := hb2.cell 9; rw [this]; simp [jcells, HS.out]
          have hf2 := hb2.free
          have Hb2 := Lib.hid hb2
          have Hr2 := Lib.hid hr2
          have Hne2 := Lib.hid hne2
          have HS2 := Lib.hid hS2
          have Hc2 := Lib.hid hc2
          have Hs2 := Lib.hid hs2
          clear hb2 hr2 hne2 hS2 hc2 hs2
          go_wp2
          refine ⟨⟨k + 1, by omega, by go_num, ?_⟩, by simp [intOf]; omega⟩
          rw [Hn.out, HF.out]
          refine HT.out _ _ (JTo.trans Hc2.out Hs2.out (jto_of_upd Hr2.out Hne2.out HS2.out ((Upd.base Hb2.out).set) rfl rfl))
      · have ho : ((m1.state : Int) == 1) = false := by rw [beq_eq_false_iff_ne]; omega
        have HF : Hid (m1.feed1 s[k] = { m1.beg s[k] with seen := m1.seen + 1 }) := by
          show m1.feed1 s[k] = _
          unfold M.feed1; simp only; rw [if_neg hopen]; rfl
        clear hopen
        cases hbeg : m1.begun
        all_goals
          have Hg := Lib.hid hbeg
          go_wp2_with (go_at_call 23; refine (white_any _ _).mono ?_; rintro e w' ⟨rfl, rfl⟩)
          refine ⟨⟨k + 1, by omega, by go_num, ?_⟩, by simp [intOf]; omega⟩
          rw [Hn.out, HF.out]
          refine HT.out _ _ (jto_of_upd (m := m1) Hr.out Hne.out HS1.out ((Upd.base Hb.out).set.set) ?_ rfl)
          simp [jcells, M.beg, Hg.out]
    · have hkk : k = s.size := by omega
      have htake : s.data.toList.take k = s.data.toList := List.take_of_length_le (by rw [hkk]; simp)
      rw [htake] at h1 hwf1 hseen1
      have HH := Lib.hid h1
      have hst3 := hwf1.state
      have HW := Lib.hid hwf1
      have Htk := Lib.hid htake
      clear h1 hwf1 hseen1 hkk htake
      go_wp2_with (go_at_call 25; refine (tell_any b _ S1 _ HH.out HW.out hst3).mono ?_; rintro e w' ⟨rfl, rfl⟩)
      go_ret
      exact ⟨rfl, HT.out _ _ (JTo.refl HH.out)⟩
end Go.Proofs.Ytpelmepidboikaa
