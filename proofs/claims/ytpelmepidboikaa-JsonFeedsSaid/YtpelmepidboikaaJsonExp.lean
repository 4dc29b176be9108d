/-
  The JSON package's exported functions.
-/
import Derived.Test.YtpelmepidboikaaJsonFeed
set_option linter.unusedSimpArgs false
set_option linter.unusedVariables false
namespace Go.Proofs.Ytpelmepidboikaa
open Go.RowKit Go.Tg Tg.Json

theorem cut_any (s : ByteArray) (n : Nat) (w : World) (hs : s.size ≤ maxLen) :
    Calls Try.prog 7 #[.string s, .int .i64 n] w fun e w' => e = .returned (.string (s.extract 0 n)) ∧ w = w' := by
  unfold maxLen at hs
  by_cases h : n < s.size
  · go_enter Try.func7, Try.ntmps7
    go_wp2
    go_ret
    exact ⟨rfl, rfl⟩
  · have e : s.extract 0 n = s := by apply ba_ext; rw [Lib.extract_data]; simp only [List.drop_zero, Nat.sub_zero]; exact List.take_of_length_le (by simp; omega)
    rw [e]
    clear e
    go_enter Try.func7, Try.ntmps7
    go_wp2
    go_ret
    exact ⟨rfl, rfl⟩

theorem new_bad (d : Int) (w : World) (h : d < 0 ∨ 200 < d) :
    Calls Try.prog 12 #[.int .i64 d] w fun e w' => e = .returned (.tuple #[.pointer none, .int .i64 1]) ∧ w = w' := by
  rcases h with h | h
  all_goals
    go_enter Try.func12, Try.ntmps12
    go_wp2
    go_ret2
    exact ⟨rfl, rfl⟩
theorem new_good (d : Nat) (w : World) (h : d ≤ 200) :
    Calls Try.prog 12 #[.int .i64 d] w fun e w' => ∃ b S, e = .returned (.tuple #[.pointer (some ⟨b, 0, none⟩), .int .i64 0]) ∧ JMach w' b (M.start d) S ∧ Change (fun _ => False) w w' ∧ ∀ k, S k → w.heap.size ≤ k := by
  go_enter Try.func12, Try.ntmps12
  go_wp2
  go_ret2
  exact ⟨w.heap.size, fun k => k = w.heap.size, rfl, ⟨.slice none 0 0, Blk.new _ _ _, World.ownsRow_nil _ _ _ _, by simp [Value.ownBlock], by simp [Value.ownBlock]⟩, (Change.refl _ w).alloc _, fun k hk => Nat.le_of_eq hk.symm⟩
theorem state_any (b : Nat) (m : M) (S : Nat → Prop) (w : World) (h : JMach w b m S) (hwf : JWF m) :
    Calls Try.prog 14 #[.pointer (some ⟨b, 0, none⟩)] w fun e w' => e = .returned (.int .i64 m.tell) ∧ w = w' := by
  have H := Lib.hid h
  have Hw := Lib.hid hwf
  clear h hwf
  go_enter Try.func14, Try.ntmps14
  go_wp2_with (go_at_call 25; refine (tell_any b m S _ H.out Hw.out Hw.out.state).mono ?_; rintro e w' ⟨rfl, rfl⟩)
  go_ret
  exact ⟨rfl, rfl⟩
theorem place_any (b : Nat) (m : M) (S : Nat → Prop) (w : World) (h : JMach w b m S) :
    Calls Try.prog 15 #[.pointer (some ⟨b, 0, none⟩)] w fun e w' => e = .returned (.int .i64 m.place) ∧ w = w' := by
  obtain ⟨sl, hb, hr, hne, hS⟩ := h
  have c8 : w.cell? ⟨b, 8, none⟩ = some (.int .i64 m.place) := hb.cell 8
  clear hb hr hne hS
  go_enter Try.func15, Try.ntmps15
  go_wp2
  go_ret
  exact ⟨rfl, rfl⟩
theorem seen_any (b : Nat) (m : M) (S : Nat → Prop) (w : World) (h : JMach w b m S) :
    Calls Try.prog 16 #[.pointer (some ⟨b, 0, none⟩)] w fun e w' => e = .returned (.int .i64 m.seen) ∧ w = w' := by
  obtain ⟨sl, hb, hr, hne, hS⟩ := h
  have c9 : w.cell? ⟨b, 9, none⟩ = some (.int .i64 m.seen) := hb.cell 9
  clear hb hr hne hS
  go_enter Try.func16, Try.ntmps16
  go_wp2
  go_ret
  exact ⟨rfl, rfl⟩
theorem begun_any (b : Nat) (m : M) (S : Nat → Prop) (w : World) (h : JMach w b m S) :
    Calls Try.prog 17 #[.pointer (some ⟨b, 0, none⟩)] w fun e w' => e = .returned (.bool m.begun) ∧ w = w' := by
  obtain ⟨sl, hb, hr, hne, hS⟩ := h
  have c6 : w.cell? ⟨b, 6, none⟩ = some (.bool m.begun) := hb.cell 6
  clear hb hr hne hS
  go_enter Try.func17, Try.ntmps17
  go_wp2
  go_ret
  exact ⟨rfl, rfl⟩
theorem depth_any (b : Nat) (m : M) (S : Nat → Prop) (w : World) (h : JMach w b m S) (hwf : JWF m) :
    Calls Try.prog 19 #[.pointer (some ⟨b, 0, none⟩)] w fun e w' => e = .returned (.int .i64 m.stack.length) ∧ w = w' := by
  obtain ⟨sl, hb, hr, hne, hS⟩ := h
  have c1 : w.cell? ⟨b, 1, none⟩ = some sl := hb.cell 1
  have hsl : ∃ a cap, sl = .slice a m.stack.length cap := by
    rcases hr.2 with ⟨h1, h2⟩ | ⟨g, cap, cur, h1, _⟩
    · exact ⟨_, 0, by rw [h1, h2]⟩
    · exact ⟨_, _, by rw [h1]⟩
  obtain ⟨a, cap, rfl⟩ := hsl
  have hlen := jlen hwf
  clear hb hr hne hS hwf
  go_enter Try.func19, Try.ntmps19
  go_wp2
  go_ret
  exact ⟨rfl, rfl⟩
theorem whole0_any (s : ByteArray) (d : Int) (D : Nat) (w : World) (hs : s.size ≤ 1048576) (hD : (D : Int) = min (max d 0) 200) (hd : -1000 ≤ d ∧ d ≤ 1000) :
    Calls Try.prog 20 #[.string s, .int .i64 d] w fun e w' =>
      e = .returned (.tuple #[.int .i64 ((M.start D).feed s.data.toList).tell, .int .i64 ((M.start D).feed s.data.toList).place]) ∧ Change (fun _ => False) w w' := by
  have hD2 : D ≤ 200 := by omega
  have HD := Lib.hid hD
  clear hD
  have Hfin : Hid (∀ b S w1 w2, (∀ k, S k → w.heap.size ≤ k) → Change (fun _ => False) w w1 → JTo w1 b S ((M.start D).feed s.data.toList) w2 → ∃ S2, JMach w2 b ((M.start D).feed s.data.toList) S2 ∧ Change (fun _ => False) w w2) := by
    rintro b S w1 w2 hS hc ⟨S2, h2, c2, s2⟩
    exact ⟨S2, h2, hc.trans c2 (fun i hi => .inr (hS i hi))⟩
  have Hw : Hid (JWF ((M.start D).feed s.data.toList)) := (JWF.start hD2).feed
  generalize hmm : (M.start D).feed s.data.toList = m at *
  have Hm := Lib.hid hmm
  clear hmm
  go_enter Try.func20, Try.ntmps20
  go_wp2_with fail
  rw [← HD.out]
  refine (new_good D w hD2).mono ?_
  rintro e w1 ⟨b, S, rfl, hm, hc, hS⟩
  have HM := Lib.hid hm
  have HC := Lib.hid hc
  have HS := Lib.hid hS
  clear hm hc hS
  go_wp2_with fail
  refine (feed_any b (M.start D) S _ s HM.out (JWF.start hD2) hs (by simp [M.start])).mono ?_
  rintro e w2 ⟨rfl, hto⟩
  rw [Hm.out] at hto
  obtain ⟨S2, hm2, hc2⟩ := Hfin.out b S w1 w2 HS.out HC.out hto
  clear hto
  obtain ⟨sl, hr, hb⟩ := jcell hm2
  have c8 : w2.cell? ⟨b, 8, none⟩ = some (.int .i64 m.place) := hb.cell 8
  have HM2 := Lib.hid hm2
  have HC2 := Lib.hid hc2
  clear hr hb hm2 hc2
  go_wp2_with fail
  go_quiet ((go_at_call 25; exact Calls.quiet_of_same ((tell_any b m S2 _ (HM2.out.drewN _) Hw.out Hw.out.state).mono (fun _ _ h => ⟨h.1, h.2.symm⟩))))
  go_wp2
  go_ret2
  exact ⟨rfl, HC2.out.drewN _⟩
theorem whole_any (s : ByteArray) (d : Int) (D : Nat) (w : World) (hs : s.size ≤ 1048576) (hD : (D : Int) = min (max d 0) 200) (hd : -1000 ≤ d ∧ d ≤ 1000) :
    Calls Try.prog 8 #[.string s, .int .i64 d] w fun e w' =>
      e = .returned (.tuple #[.int .i64 (whole s.data.toList D).1, .int .i64 (whole s.data.toList D).2]) ∧ Change (fun _ => False) w w' := by
  have h1 := congrArg Prod.fst (whole_eq s.data.toList D)
  have h2 := congrArg Prod.snd (whole_eq s.data.toList D)
  rw [← h1, ← h2]
  clear h1 h2
  have HD := Lib.hid hD
  clear hD
  go_enter Try.func8, Try.ntmps8
  go_wp2_with fail
  refine (whole0_any s d D _ hs HD.out hd).mono ?_
  rintro e w1 ⟨rfl, hc⟩
  have HC := Lib.hid hc
  clear hc
  go_wp2
  go_ret2
  exact ⟨rfl, HC.out⟩
theorem valid_any (s : ByteArray) (w : World) (hs : s.size ≤ 1048576) :
    Calls Try.prog 10 #[.string s] w fun e w' =>
      e = .returned (.bool ((whole s.data.toList 200).1 == 2)) ∧ Change (fun _ => False) w w' := by
  have h1 := congrArg Prod.fst (whole_eq s.data.toList 200)
  rw [← h1]
  clear h1
  go_enter Try.func10, Try.ntmps10
  go_wp2_with fail
  refine (whole0_any s 200 200 _ hs (by decide) (by decide)).mono ?_
  rintro e w1 ⟨rfl, hc⟩
  have HC := Lib.hid hc
  clear hc
  go_wp2
  go_ret
  refine ⟨ret_bool ?_, HC.out⟩
  rw [Bool.eq_iff_iff]; simp; omega
end Go.Proofs.Ytpelmepidboikaa
