/-
  The reference for JSON: numbers.
-/
import Derived.Test.YtpelmepidboikaaJsonRefB
import Derived.Deep.DeepCutAuto
set_option linter.unusedSimpArgs false
set_option linter.unusedVariables false
namespace Go.Proofs.Ytpelmepidboikaa
open Go.RowKit Go.Tg Tg.Json

theorem stv_four (n : Nat) : stv n = -1 ↔ n = 4 := by unfold stv; split <;> omega
theorem run_any2 (s : ByteArray) (x : Int) (k : Nat) (w : World) (hs : s.size ≤ 1048576) (hx : x = k) (hk : k ≤ s.size) :
    Calls Try.prog 44 #[.string s, .int .i64 x] w fun e w' => e = .returned (.agg #[.int .i64 (k + (run (s.data.toList.drop k)).1 : Nat), .int .i64 (stv (run (s.data.toList.drop k)).2)]) ∧ Change (fun _ => False) w w' := by
  subst hx; exact run_any s k w hs hk
theorem blk_agg {w : World} {b : Nat} {t : TypeId} {x y : Value} (h : Blk w b t #[x, y]) : w.cell? ⟨b, 0, none⟩ = some x ∧ w.cell? ⟨b, 1, none⟩ = some y ∧ ∀ i, w.frozen? ⟨b, i, none⟩ = false := ⟨h.cell 0, h.cell 1, h.free⟩
theorem post_said {fn : Func} {R : Ending → World → Prop} {a : Act} {W : World} {b : Nat} {x y : Value} {t : Tmp} (hb : Blk W b 38 #[x, y]) (hres : fn.results = #[ResultVar.cell t 38]) (hd : a.defers = []) (hp : a.tmps.getD t undef = .pointer (some ⟨b, 0, none⟩))
    (hR : R (.returned (.agg #[x, y])) W) : bodyPost Try.prog fn R .ret a W := by
  have c0 : W.cell? ⟨b, 0, none⟩ = some x := hb.cell 0
  have c1 : W.cell? ⟨b, 1, none⟩ = some y := hb.cell 1
  refine bodyPost_ret (v := .agg #[x, y]) ?_ hd hR
  have hp' : a.tmps[t]?.getD undef = .pointer (some ⟨b, 0, none⟩) := by rw [← hp]; simp [Array.getD_eq_getD_getElem?]
  simp [results, hres, go_sem, c0, c1, hp']
set_option maxHeartbeats 2000000 in
set_option maxRecDepth 100000 in
theorem number_any (s : ByteArray) (at_ : Nat) (w : World) (hs : s.size ≤ 1048576) (ha : at_ < s.size) :
    Calls Try.prog 29 #[.string s, .int .i64 at_] w fun e w' =>
      e = .returned (if s[at_].toNat = 45 then said (at_ + 1) (intPart (s.data.toList.drop (at_ + 1))) else said at_ (intPart (s.data.toList.drop at_))) ∧ Change (fun _ => False) w w' := by
  obtain ⟨R, hR⟩ : ∃ R, R = (if s[at_].toNat = 45 then said (at_ + 1) (intPart (s.data.toList.drop (at_ + 1))) else said at_ (intPart (s.data.toList.drop at_))) := ⟨_, rfl⟩
  rw [← hR]
  have HR := Lib.hid hR
  clear hR
  have hu := u8_lt s[at_]
  go_enter Try.func29, Try.ntmps29
  go_upto_if 9 with (fail)
  go_cut [1] (fun i wr => ∃ k : Nat, k ≤ s.size ∧ i = .int .i64 k ∧ Hid (said k (intPart (s.data.toList.drop k)) = R) ∧ Blk wr w.heap.size 38 #[.int .i64 0, .int .i64 0] ∧ Change (fun _ => False) w wr)
  case first =>
    go_wp2
    all_goals go_meet
    · refine ⟨at_ + 1, by omega, by go_num, ?_, Blk.new _ _ _, (Change.refl _ w).alloc _⟩
      show _ = _
      rw [HR.out, if_pos (by simp only [beq_iff_eq] at *; omega)]
    · refine ⟨at_, by omega, rfl, ?_, Blk.new _ _ _, (Change.refl _ w).alloc _⟩
      show _ = _
      rw [HR.out, if_neg (by simp only [beq_eq_false_iff_ne, ne_eq] at *; omega)]
  case rest =>
    obtain ⟨k, hk, rfl, hF, hb, hc⟩ := hcut
    have HB := Lib.hid hb
    have HC := Lib.hid hc
    clear hb hc hu
    go_wp2_with fail
    refine (run_any2 s k k _ hs rfl hk).mono ?_
    rintro e w1 ⟨rfl, hc1⟩
    have hc2 := HC.out.trans hc1 (fun i h => h.elim)
    have hb2 := HB.out.of_change hc1 (fun h => h)
    have HB2 := Lib.hid hb2
    have HC2 := Lib.hid hc2
    clear hc1 hb2 hc2
    have hlt := HB2.out.lt
    rcases run_cases (s.data.toList.drop k) with ⟨h4, hne⟩ | h4
    · have hk1 : k < s.size := by
        rcases Nat.lt_or_ge k s.size with h | h
        · exact h
        · exact absurd (drop_end (by omega)) hne
      have hdk := Lib.hid (drop_cons hk1)
      have e4 : (stv (run (s.data.toList.drop k)).2 != -1) = false := by rw [h4]; rfl
      have hle := run_le (s.data.toList.drop k)
      simp only [List.length_drop, Array.length_toList] at hle
      have hle2 : k + (run (s.data.toList.drop k)).1 ≤ s.size := by
        have : s.data.size = s.size := rfl
        omega
      have HX : Hid (s[k].toNat = 48 → said (k + 1) (pointPart (s.data.toList.drop (k + 1))) = R) := by
        intro h48
        rw [← hF.out, hdk.out]; unfold intPart; simp only
        rw [if_pos (by rw [← hdk.out]; exact h4), if_pos h48, said_add]
      have HY : Hid (s[k].toNat ≠ 48 → said (k + (run (s.data.toList.drop k)).1) (pointPart (s.data.toList.drop (k + (run (s.data.toList.drop k)).1))) = R) := by
        intro h48
        rw [← hF.out, hdk.out]; unfold intPart; simp only
        rw [if_pos (by rw [← hdk.out]; exact h4), if_neg h48, said_add, ← hdk.out, List.drop_drop]
      generalize run (s.data.toList.drop k) = x at *
      clear h4 hle hne
      have hs1 : (stv x.2) = -1 := by rw [bne_eq_false_iff_eq] at e4; exact e4
      have Hs1 := Lib.hid hs1
      clear hs1
      go_upto_if 22 with (fail)
      go_cut [] (fun wr => ∃ k1 : Nat, k1 ≤ s.size ∧ Hid (said k1 (pointPart (s.data.toList.drop k1)) = R) ∧ Blk wr w1.heap.size 38 #[.int .i64 k1, .int .i64 (-1)] ∧ Blk wr w.heap.size 38 #[.int .i64 0, .int .i64 0] ∧ Change (fun _ => False) w wr)
      case first =>
        go_wp2
        all_goals go_meet
        · refine ⟨k + 1, by omega, HX.out (by simp only [beq_iff_eq] at *; omega), ?_, HB2.out.alloc _, HC2.out.alloc _⟩
          rw [Hs1.out]; exact Blk.new _ _ _
        · refine ⟨k + x.1, by omega, HY.out (by simp only [beq_eq_false_iff_ne, ne_eq] at *; omega), ?_, HB2.out.alloc _, HC2.out.alloc _⟩
          rw [Hs1.out]; exact Blk.new _ _ _
      case rest =>
        obtain ⟨k1, hk1, hG, hbx, hb0, hc0⟩ := hcut
        have HBX := Lib.hid hbx
        have HB0 := Lib.hid hb0
        have HC0 := Lib.hid hc0
        have d0 := hbx.cell 0
        simp only [List.getElem?_toArray, List.getElem?_cons_zero] at d0
        clear hbx hb0 hc0 e4
        go_upto_region 9 with (fail)
        go_cut [37] (fun v wx => (Blk wx w1.heap.size 38 #[.int .i64 k1, .int .i64 (-1)] ∧ Blk wx w.heap.size 38 #[.int .i64 0, .int .i64 0] ∧ Change (fun _ => False) w wx) ∧ ∃ pt : Bool, v = .bool pt ∧ Hid (pt = true ↔ ∃ h : k1 < s.size, s[k1].toNat = 46))
        case first =>
          by_cases hl : k1 < s.size
          · rcases u8_is s[k1] 46 46 rfl with ⟨b1, n1⟩ | ⟨b1, n1⟩
            · have B1 := Lib.hid b1
              clear b1
              go_wp2
              go_meet
              exact ⟨⟨HBX.out, HB0.out, HC0.out⟩, true, rfl, ⟨fun _ => ⟨hl, by rw [B1.out]; rfl⟩, fun _ => rfl⟩⟩
            · have B1 := Lib.hid b1
              clear b1
              go_wp2
              go_meet
              exact ⟨⟨HBX.out, HB0.out, HC0.out⟩, false, rfl, ⟨fun h => by simp at h, fun ⟨_, h⟩ => absurd (by simp only [u8_iff, UInt8.reduceToNat]; exact h) B1.out⟩⟩
          · go_wp2
            go_meet
            exact ⟨⟨HBX.out, HB0.out, HC0.out⟩, false, rfl, ⟨fun h => by simp at h, fun ⟨h, _⟩ => absurd h hl⟩⟩
        case rest =>
        obtain ⟨⟨hbx, hb0, hc0⟩, pt, rfl, hpt⟩ := hcut
        obtain ⟨c0, c1, hf⟩ := blk_agg hbx
        have HBX := Lib.hid hbx
        have HB0 := Lib.hid hb0
        have HC0 := Lib.hid hc0
        clear hbx hb0 hc0
        go_upto_if 37 with (fail)
        go_cut [1] (fun i wr => ∃ k2 : Nat, k2 ≤ s.size ∧ i = .int .i64 k2 ∧ Hid (said k2 (expPart (s.data.toList.drop k2)) = R) ∧ Blk wr w.heap.size 38 #[.int .i64 0, .int .i64 0] ∧ Change (fun _ => False) w wr)
        case first =>
          cases pt
          · go_wp2
            go_meet
            refine ⟨k1, hk1, rfl, ?_, HB0.out, HC0.out⟩
            show _ = _
            rw [← hG.out]
            have hpt' : ¬ ∃ h : k1 < s.size, s[k1].toNat = 46 := fun h => by have := hpt.out.2 h; simp at this
            by_cases hl : k1 < s.size
            · rw [drop_cons hl]; unfold pointPart; simp only
              rw [if_neg (fun h => hpt' ⟨hl, h⟩)]
            · rw [drop_end hl]; rfl
          · obtain ⟨hl, h46⟩ := hpt.out.1 rfl
            have hd1 := Lib.hid (drop_cons hl)
            have H46 := Lib.hid h46
            clear h46
            go_wp2_with fail
            refine (run_any2 s _ (k1 + 1) _ hs (by omega) (by omega)).mono ?_
            rintro e w2 ⟨rfl, hc2⟩
            have hc3 := HC0.out.trans hc2 (fun i h => h.elim)
            have hb3 := HB0.out.of_change hc2 (fun h => h)
            have hbx3 := HBX.out.of_change hc2 (fun h => h)
            obtain ⟨d0, d1, hf3⟩ := blk_agg hbx3
            have HB3 := Lib.hid hb3
            have HC3 := Lib.hid hc3
            have HBX3 := Lib.hid hbx3
            clear hb3 hc3 hbx3 hc2 c0 c1 hf
            have hle := run_le (s.data.toList.drop (k1 + 1))
            simp only [List.length_drop, Array.length_toList] at hle
            have hle2 : k1 + 1 + (run (s.data.toList.drop (k1 + 1))).1 ≤ s.size := by
              have : s.data.size = s.size := rfl
              omega
            by_cases h4 : (run (s.data.toList.drop (k1 + 1))).2 = 4
            · have HZ : Hid (said (k1 + 1 + (run (s.data.toList.drop (k1 + 1))).1) (expPart (s.data.toList.drop (k1 + 1 + (run (s.data.toList.drop (k1 + 1))).1))) = R) := by
                show _ = _
                rw [← hG.out, hd1.out]; unfold pointPart; simp only
                rw [if_pos H46.out, if_pos h4, said_add, List.drop_drop, show k1 + (1 + (run (s.data.toList.drop (k1 + 1))).1) = k1 + 1 + (run (s.data.toList.drop (k1 + 1))).1 from by omega]
              have e5 : (stv (run (s.data.toList.drop (k1 + 1))).2 != -1) = false := by rw [h4]; rfl
              generalize run (s.data.toList.drop (k1 + 1)) = y at *
              clear h4 hle
              go_wp2
              go_meet
              refine ⟨_, hle2, by go_num, HZ, ?_, ?_⟩
              · repeat (first | exact HB3.out | refine Blk.setOther ?_ (by simp; omega) _)
              · repeat (first | exact HC3.out | refine Change.setCell ?_ (.inr (by simp; omega)) _)
            · have HZ : Hid (said (k1 + 1) (run (s.data.toList.drop (k1 + 1))) = R) := by
                show _ = _
                rw [← hG.out, hd1.out]; unfold pointPart; simp only
                rw [if_pos H46.out, if_neg h4, said_add]
              have e5 : (stv (run (s.data.toList.drop (k1 + 1))).2 != -1) = true := by rw [bne_iff_ne]; exact fun h => h4 ((stv_four _).1 h)
              generalize run (s.data.toList.drop (k1 + 1)) = y at *
              clear h4 hle
              obtain ⟨g0, g1, hg⟩ := blk_agg HB3.out
              have hnw : ¬ w.heap.size = w1.heap.size := by omega
              have hnw' : ¬ w1.heap.size = w.heap.size := by omega
              go_wp2
              refine post_said (b := w.heap.size) ((((HB3.out.setBlk hnw 0 _).setBlk hnw 1 _).set 0 _).set 1 _) rfl rfl rfl ⟨?_, ?_⟩
              · rw [← HZ.out]; rfl
              · repeat (first | exact HC3.out | refine Change.setCell ?_ (.inr (by first | (simp; done) | (simp; omega))) _)
        case rest =>
          obtain ⟨k2, hk2, rfl, hE, hb0, hc0⟩ := hcut
          clear c0 c1 hf d0
          obtain ⟨c0, c1, hf⟩ := blk_agg hb0
          have HB0 := Lib.hid hb0
          have HC0 := Lib.hid hc0
          clear hb0 hc0
          go_upto_region 14 with (fail)
          go_cut [63] (fun v wx => (Blk wx w.heap.size 38 #[.int .i64 0, .int .i64 0] ∧ Change (fun _ => False) w wx) ∧ ∃ pt : Bool, v = .bool pt ∧ Hid (pt = true ↔ ∃ h : k2 < s.size, (s[k2].toNat = 101 ∨ s[k2].toNat = 69)))
          case first =>
            by_cases hl : k2 < s.size
            · rcases u8_is s[k2] 101 101 rfl with ⟨b1, n1⟩ | ⟨b1, n1⟩
              · have B1 := Lib.hid b1
                clear b1
                go_wp2
                go_meet
                exact ⟨⟨HB0.out, HC0.out⟩, true, rfl, ⟨fun _ => ⟨hl, .inl (by rw [B1.out]; rfl)⟩, fun _ => rfl⟩⟩
              · rcases u8_is s[k2] 69 69 rfl with ⟨b2, n2⟩ | ⟨b2, n2⟩
                · have B2 := Lib.hid b2
                  clear b1 b2
                  go_wp2
                  go_meet
                  exact ⟨⟨HB0.out, HC0.out⟩, true, rfl, ⟨fun _ => ⟨hl, .inr (by rw [B2.out]; rfl)⟩, fun _ => rfl⟩⟩
                · have m1 : s[k2].toNat ≠ 101 := by rw [beq_eq_false_iff_ne] at n1; omega
                  have m2 : s[k2].toNat ≠ 69 := by rw [beq_eq_false_iff_ne] at n2; omega
                  have M := Lib.hid (And.intro m1 m2)
                  clear b1 b2 m1 m2
                  go_wp2
                  go_meet
                  exact ⟨⟨HB0.out, HC0.out⟩, false, rfl, ⟨fun h => by simp at h, fun ⟨_, h⟩ => by rcases h with h | h; exact absurd h M.out.1; exact absurd h M.out.2⟩⟩
            · go_wp2
              go_meet
              exact ⟨⟨HB0.out, HC0.out⟩, false, rfl, ⟨fun h => by simp at h, fun ⟨h, _⟩ => absurd h hl⟩⟩
          case rest =>
          obtain ⟨⟨hb0, hc0⟩, pt, rfl, hpt⟩ := hcut
          clear c0 c1 hf
          obtain ⟨c0, c1, hf⟩ := blk_agg hb0
          have HB0 := Lib.hid hb0
          have HC0 := Lib.hid hc0
          clear hb0 hc0
          cases pt
          · have hpt' : ¬ ∃ h : k2 < s.size, (s[k2].toNat = 101 ∨ s[k2].toNat = 69) := fun h => by have := hpt.out.2 h; simp at this
            have HE : Hid (said k2 (0, 4) = R) := by
              show _ = _
              rw [← hE.out]
              by_cases hl : k2 < s.size
              · rw [drop_cons hl]; unfold expPart; simp only
                rw [if_neg (fun h => hpt' ⟨hl, h⟩)]
              · rw [drop_end hl]; rfl
            clear hpt'
            go_wp2
            refine post_said (b := w.heap.size) ((HB0.out.set 0 _).set 1 _) rfl rfl rfl ⟨?_, ?_⟩
            · rw [← HE.out]; rfl
            · repeat (first | exact HC0.out | refine Change.setCell ?_ (.inr (by first | (simp; done) | (simp; omega))) _)
          · obtain ⟨hl, hee⟩ := hpt.out.1 rfl
            have hd2 := Lib.hid (drop_cons hl)
            have HEE := Lib.hid hee
            clear hee
            go_upto_region 16 with (fail)
            go_cut [81] (fun v wx => (Blk wx w.heap.size 38 #[.int .i64 0, .int .i64 0] ∧ Change (fun _ => False) w wx) ∧ ∃ pt : Bool, v = .bool pt ∧ Hid (pt = true ↔ ∃ h : k2 + 1 < s.size, (s[k2 + 1].toNat = 43 ∨ s[k2 + 1].toNat = 45)))
            case first =>
              by_cases hl : k2 + 1 < s.size
              · rcases u8_is s[k2 + 1] 43 43 rfl with ⟨b1, n1⟩ | ⟨b1, n1⟩
                · have B1 := Lib.hid b1
                  clear b1
                  go_wp2
                  go_meet
                  exact ⟨⟨HB0.out, HC0.out⟩, true, rfl, ⟨fun _ => ⟨hl, .inl (by rw [B1.out]; rfl)⟩, fun _ => rfl⟩⟩
                · rcases u8_is s[k2 + 1] 45 45 rfl with ⟨b2, n2⟩ | ⟨b2, n2⟩
                  · have B2 := Lib.hid b2
                    clear b1 b2
                    go_wp2
                    go_meet
                    exact ⟨⟨HB0.out, HC0.out⟩, true, rfl, ⟨fun _ => ⟨hl, .inr (by rw [B2.out]; rfl)⟩, fun _ => rfl⟩⟩
                  · have m1 : s[k2 + 1].toNat ≠ 43 := by rw [beq_eq_false_iff_ne] at n1; omega
                    have m2 : s[k2 + 1].toNat ≠ 45 := by rw [beq_eq_false_iff_ne] at n2; omega
                    have M := Lib.hid (And.intro m1 m2)
                    clear b1 b2 m1 m2
                    go_wp2
                    go_meet
                    exact ⟨⟨HB0.out, HC0.out⟩, false, rfl, ⟨fun h => by simp at h, fun ⟨_, h⟩ => by rcases h with h | h; exact absurd h M.out.1; exact absurd h M.out.2⟩⟩
              · go_wp2
                go_meet
                exact ⟨⟨HB0.out, HC0.out⟩, false, rfl, ⟨fun h => by simp at h, fun ⟨h, _⟩ => absurd h hl⟩⟩
            case rest =>
            obtain ⟨⟨hb0, hc0⟩, pt, rfl, hpt2⟩ := hcut
            clear c0 c1 hf
            have HB0 := Lib.hid hb0
            have HC0 := Lib.hid hc0
            clear hb0 hc0
            cases pt
            · have hpt' : ¬ ∃ h : k2 + 1 < s.size, (s[k2 + 1].toNat = 43 ∨ s[k2 + 1].toNat = 45) := fun h => by have := hpt2.out.2 h; simp at this
              have HE : Hid (said (k2 + 1) (run (s.data.toList.drop (k2 + 1))) = R) := by
                show _ = _
                rw [← hE.out, hd2.out]; unfold expPart; simp only
                rw [if_pos HEE.out]
                by_cases hl : k2 + 1 < s.size
                · rw [drop_cons hl]; simp only
                  rw [if_neg (fun h => hpt' ⟨hl, h⟩), said_add]
                · rw [drop_end hl]; simp only; rw [said_add]
              clear hpt'
              go_wp2_with fail
              refine (run_any2 s _ (k2 + 1) _ hs (by omega) (by omega)).mono ?_
              rintro e w2 ⟨rfl, hc2⟩
              have hc3 := HC0.out.trans hc2 (fun i h => h.elim)
              have hb3 := HB0.out.of_change hc2 (fun h => h)
              obtain ⟨d0, d1, hf3⟩ := blk_agg hb3
              have HB3 := Lib.hid hb3
              have HC3 := Lib.hid hc3
              clear hb3 hc3 hc2
              go_wp2
              refine post_said (b := w.heap.size) ((HB3.out.set 0 _).set 1 _) rfl rfl rfl ⟨?_, ?_⟩
              · rw [← HE.out]; rfl
              · repeat (first | exact HC3.out | refine Change.setCell ?_ (.inr (by first | (simp; done) | (simp; omega))) _)
            · obtain ⟨hl2, hss⟩ := hpt2.out.1 rfl
              have HE : Hid (said (k2 + 2) (run (s.data.toList.drop (k2 + 2))) = R) := by
                show _ = _
                rw [← hE.out, hd2.out]; unfold expPart; simp only
                rw [if_pos HEE.out, drop_cons hl2]; simp only
                rw [if_pos hss, said_add]
              clear hss
              go_wp2_with fail
              refine (run_any2 s _ (k2 + 2) _ hs (by omega) (by omega)).mono ?_
              rintro e w2 ⟨rfl, hc2⟩
              have hc3 := HC0.out.trans hc2 (fun i h => h.elim)
              have hb3 := HB0.out.of_change hc2 (fun h => h)
              obtain ⟨d0, d1, hf3⟩ := blk_agg hb3
              have HB3 := Lib.hid hb3
              have HC3 := Lib.hid hc3
              clear hb3 hc3 hc2
              go_wp2
              refine post_said (b := w.heap.size) ((HB3.out.set 0 _).set 1 _) rfl rfl rfl ⟨?_, ?_⟩
              · rw [← HE.out]; rfl
              · repeat (first | exact HC3.out | refine Change.setCell ?_ (.inr (by first | (simp; done) | (simp; omega))) _)
    · obtain ⟨c0, c1, hf⟩ := blk_agg HB2.out
      have e4 : (stv (run (s.data.toList.drop k)).2 != -1) = true := by rw [bne_iff_ne]; exact fun h => h4 ((stv_four _).1 h)
      have HX : Hid (intPart (s.data.toList.drop k) = run (s.data.toList.drop k)) := by
        show _ = _
        unfold intPart; split
        · next h => rw [h]
        · next h => rw [h] at h4 ⊢; rw [if_neg h4]
      generalize run (s.data.toList.drop k) = x at *
      clear h4
      go_wp2
      refine post_said (b := w.heap.size) (((HB2.out.set 0 _).set 1 _).alloc _) rfl rfl rfl ⟨?_, ?_⟩
      · rw [← hF.out, HX.out]; rfl
      · (repeat (first | exact HC2.out | refine Change.drewN ?_ _ | refine Change.drew ?_ | refine Change.alloc ?_ _ | refine Change.setCell ?_ (.inr (by simp)) _))
end Go.Proofs.Ytpelmepidboikaa
