/-
  The reference for JSON: objects.
-/
import Derived.Test.YtpelmepidboikaaJsonRefE
set_option linter.unusedSimpArgs false
set_option linter.unusedVariables false
namespace Go.Proofs.Ytpelmepidboikaa
open Go.RowKit Go.Tg Tg.Json


set_option maxHeartbeats 16000000 in
set_option maxRecDepth 100000 in
theorem list_obj (d : Nat) (hd1000 : d ≤ 1000) (hv : ValC d) (s : ByteArray) (a : Nat) (w : World) (hs : s.size ≤ 1048576) (ha : a ≤ s.size) :
  Calls Try.prog 26 #[.string s, .int .i64 a, .int .i64 d, .bool true] w fun e w' => e = .returned (said a (list (value d) true ((s.data.toList.drop a).length + 1) true (s.data.toList.drop a))) ∧ Change (fun _ => False) w w' := by
  obtain ⟨R, hR⟩ : ∃ R, R = said a (list (value d) true ((s.data.toList.drop a).length + 1) true (s.data.toList.drop a)) := ⟨_, rfl⟩
  rw [← hR]
  have HR := Lib.hid hR
  have HV := Lib.hid hv
  clear hR hv
  go_enter Try.func26, Try.ntmps26
  go_wp2
  go_loopw [1, 10] (fun i n wr => ∃ k nn f : Nat, k ≤ s.size ∧ nn ≤ k ∧ i = .int .i64 k ∧ n = .int .i64 nn ∧ s.size - k < f ∧ Hid (said k (list (value d) true f (nn == 0) (s.data.toList.drop k)) = R) ∧ Blk wr w.heap.size 38 #[.int .i64 0, .int .i64 0] ∧ Change (fun _ => False) w wr) (fun i _ _ => s.size - (intOf i).toNat)
  case atStart =>
    refine ⟨a, 0, _, ha, Nat.zero_le _, rfl, rfl, ?_, HR.out.symm, Blk.new _ _ _, (Change.refl _ w).alloc _⟩
    have hsz : s.data.size = s.size := rfl
    simp only [List.length_drop, Array.length_toList]; omega
  case round =>
    obtain ⟨k, nn, f, hk, hnk, rfl, rfl, hfl, hF, hb, hc⟩ := hrel
    obtain ⟨g, rfl⟩ : ∃ g, f = g + 1 := ⟨f - 1, by omega⟩
    obtain ⟨c0, c1, hf⟩ := blk_agg hb
    have HB := Lib.hid hb
    have HC := Lib.hid hc
    clear hb hc
    go_wp2_with fail
    refine (skipI s k _ _ hs hk rfl).mono ?_
    rintro e w1 ⟨⟨p, rfl, hps, hP⟩, rfl⟩
    have hkp : k ≤ p := by have := hP.out; omega
    by_cases hlt : p < s.size
    · have hd := Lib.hid (drop_cons hlt)
      have e0 : ((p : Int) == s.size) = false := by rw [beq_eq_false_iff_ne]; omega
      have HL : Hid (R = if (nn == 0) = true ∧ s[p] = close true then said (p + 1) (0, 4) else said p (if (named true (s[p] :: s.data.toList.drop (p + 1))).2 ≠ 4 then named true (s[p] :: s.data.toList.drop (p + 1)) else add (named true (s[p] :: s.data.toList.drop (p + 1))).1 (elem (value d) true (list (value d) true g false) ((s[p] :: s.data.toList.drop (p + 1)).drop (named true (s[p] :: s.data.toList.drop (p + 1))).1)))) := by
        show _ = _
        rw [← hF.out, list_eq, List.drop_drop, ← hP.out, hd.out]; simp only
        split
        · simp only [said]; rw [hP.out]; rfl
        · rw [said_add, ← hP.out]
      go_upto_region 9 with (fail)
      go_cut [33] from 14 to 103 (fun v wx => (Blk wx w.heap.size 38 #[.int .i64 0, .int .i64 0] ∧ Change (fun _ => False) w wx) ∧ ∃ pt : Bool, v = .bool pt ∧ Hid (pt = true ↔ ((nn == 0) = true ∧ s[p] = close true)))
      case first =>
        by_cases hn : nn = 0
        · subst hn
          rcases u8_is s[p] 125 125 rfl with ⟨b1, n1⟩ | ⟨b1, n1⟩
          · have B1 := Lib.hid b1
            clear b1
            go_wp2
            go_meet
            exact ⟨⟨HB.out, HC.out⟩, true, rfl, ⟨fun _ => ⟨rfl, B1.out⟩, fun _ => rfl⟩⟩
          · have B1 := Lib.hid b1
            clear b1
            go_wp2
            go_meet
            exact ⟨⟨HB.out, HC.out⟩, false, rfl, ⟨fun h => by simp at h, fun h => absurd h.2 B1.out⟩⟩
        · have n0 : ((nn : Int) == 0) = false := by rw [beq_eq_false_iff_ne]; omega
          have n0' : (nn == 0) = false := by rw [beq_eq_false_iff_ne]; exact hn
          have N0 := Lib.hid n0'
          clear n0'
          go_wp2
          go_meet
          exact ⟨⟨HB.out, HC.out⟩, false, rfl, ⟨fun h => by simp at h, fun h => by rw [N0.out] at h; simp at h⟩⟩
      case rest =>
      obtain ⟨⟨hb, hc⟩, pt, rfl, hpt⟩ := hcut
      clear c0 c1 hf
      obtain ⟨c0, c1, hf⟩ := blk_agg hb
      have HB := Lib.hid hb
      have HC := Lib.hid hc
      clear hb hc
      cases pt
      rotate_left
      · have HF : Hid (R = said (p + 1) (0, 4)) := by
          show _ = _
          rw [HL.out, if_pos (hpt.out.1 rfl)]
        go_wp2
        refine post_said (b := w.heap.size) (((HB.out.set 0 _).set 1 _)) rfl rfl rfl ⟨?_, ?_⟩
        · rw [HF.out]; rfl
        · (repeat (first | exact HC.out | refine Change.drewN ?_ _ | refine Change.drew ?_ | refine Change.alloc ?_ _ | refine Change.setCell ?_ (.inr (by first | (simp; done) | (simp; omega) | omega)) _))

      have HL2 : Hid (R = said p (if (named true (s[p] :: s.data.toList.drop (p + 1))).2 ≠ 4 then named true (s[p] :: s.data.toList.drop (p + 1)) else add (named true (s[p] :: s.data.toList.drop (p + 1))).1 (elem (value d) true (list (value d) true g false) ((s[p] :: s.data.toList.drop (p + 1)).drop (named true (s[p] :: s.data.toList.drop (p + 1))).1)))) := by
        show _ = _
        rw [HL.out, if_neg (fun h => by have := hpt.out.2 h; simp at this)]
      rcases u8_is s[p] 34 34 rfl with ⟨b3, n3⟩ | ⟨b3, n3⟩
      rotate_left
      · have n3' : ((s[p].toNat : Int) != 34) = true := by simp only [bne, n3]; rfl
        have HF : Hid (R = said p (0, 0)) := by
          show _ = _
          rw [HL2.out]; unfold named; simp only; rw [if_pos b3, if_pos (by decide)]
        clear b3 n3
        go_wp2
        refine post_said (b := w.heap.size) (((HB.out.set 0 _).set 1 _)) rfl rfl rfl ⟨?_, ?_⟩
        · rw [HF.out]; rfl
        · (repeat (first | exact HC.out | refine Change.drewN ?_ _ | refine Change.drew ?_ | refine Change.alloc ?_ _ | refine Change.setCell ?_ (.inr (by first | (simp; done) | (simp; omega) | omega)) _))

      have n3' : ((s[p].toNat : Int) != 34) = false := by simp only [bne, n3]; rfl
      have B3 := Lib.hid b3
      clear b3 n3
      go_wp2_with fail
      refine (quoteI s (p + 1) _ _ hs (by omega) (by omega)).mono ?_
      rintro e w2 ⟨rfl, hc2⟩
      have hc3 := HC.out.trans hc2 (fun i h => h.elim)
      have hb3 := HB.out.of_change hc2 (fun h => h)
      clear c0 c1 hf HB HC
      obtain ⟨c0, c1, hf⟩ := blk_agg hb3
      have HB := Lib.hid hb3
      have HC := Lib.hid hc3
      have hltq := hb3.lt
      clear hb3 hc3 hc2
      obtain ⟨rn0, rs0, hsd0, hrn0, hrs0⟩ := said_open (p + 1) (quote 0 (s.data.toList.drop (p + 1)))
      have hql := quote_le (s.data.toList.drop (p + 1))
      simp only [List.length_drop, Array.length_toList] at hql
      have hsz0 : s.data.size = s.size := rfl
      rw [hsz0] at hql
      rw [hsd0]
      by_cases h40 : (quote 0 (s.data.toList.drop (p + 1))).2 = 4
      rotate_left
      · have HF : Hid (R = .agg #[.int .i64 rn0, .int .i64 rs0]) := by
          show _ = _
          have hnm : named true (s[p] :: s.data.toList.drop (p + 1)) = add 1 (quote 0 (s.data.toList.drop (p + 1))) := by
            unfold named; simp only; rw [if_neg (by simp [B3.out]), if_pos h40]
          rw [HL2.out, hnm, if_pos (by simpa [add] using h40), said_add, hsd0]
        have e40 : (rs0 != -1) = true := by rw [bne_iff_ne, hrs0]; exact fun h => h40 ((stv_four _).1 h)
        clear hsd0 hrs0 hrn0 h40 hql hsz0
        go_wp2
        refine post_said (b := w.heap.size) (((HB.out.set 0 _).set 1 _).alloc _) rfl rfl rfl ⟨?_, ?_⟩
        · rw [HF.out]
        · (repeat (first | exact HC.out | refine Change.drewN ?_ _ | refine Change.drew ?_ | refine Change.alloc ?_ _ | refine Change.setCell ?_ (.inr (by first | (simp; done) | (simp; omega) | omega)) _))

      obtain ⟨q0, hq0⟩ : ∃ q0, q0 = p + 1 + (quote 0 (s.data.toList.drop (p + 1))).1 := ⟨_, rfl⟩
      have hq0s : q0 ≤ s.size := by have := hql h40; omega
      have hpq : p + 1 ≤ q0 := by omega
      have e40 : rs0 = -1 := by rw [hrs0, h40]; rfl
      have eq0 : rn0 = q0 := by rw [hrn0, hq0]
      have HNM : Hid (named true (s[p] :: s.data.toList.drop (p + 1)) = (match s.data.toList.drop (q0 + skip (s.data.toList.drop q0)) with
          | [] => (q0 + skip (s.data.toList.drop q0) - p, 1)
          | c :: _ => if c ≠ 58 then (q0 + skip (s.data.toList.drop q0) - p, 0) else (q0 + skip (s.data.toList.drop q0) + 1 - p, 4))) := by
        show _ = _
        unfold named; simp only; rw [if_neg (by simp [B3.out]), if_neg (by simp [h40])]
        have e1 : (s.data.toList.drop (p + 1)).drop (quote 0 (s.data.toList.drop (p + 1))).1 = s.data.toList.drop q0 := by rw [List.drop_drop, ← hq0]
        have e2 : ∀ n, 1 + (quote 0 (s.data.toList.drop (p + 1))).1 + n = q0 + n - p := by intro n; omega
        have e3 : ∀ n, q0 + n - p + 1 = q0 + n + 1 - p := by intro n; omega
        rw [e1, List.drop_drop, e2, e3]
        generalize s.data.toList.drop (q0 + skip (s.data.toList.drop q0)) = mm
        cases mm <;> rfl
      subst e40 eq0
      clear hsd0 hrs0 hrn0 hq0 h40 hql hsz0
      go_wp2_with fail
      refine (skipI s q0 _ _ hs hq0s (by first | rfl | omega)).mono ?_
      rintro e w3 ⟨⟨t0, rfl, ht0s, hT0⟩, rfl⟩
      have htq0 : q0 ≤ t0 := by have := hT0.out; omega
      by_cases hltt : t0 < s.size
      rotate_left
      · have hd3 := Lib.hid (drop_end hltt)
        have e5 : ((t0 : Int) == s.size) = true := by rw [beq_iff_eq]; omega
        have HF : Hid (R = said t0 (0, 1)) := by
          show _ = _
          have hnm : named true (s[p] :: s.data.toList.drop (p + 1)) = (t0 - p, 1) := by rw [HNM.out, ← hT0.out, hd3.out]
          rw [HL2.out, hnm, if_pos (by simp)]; simp only [said]; rw [show p + (t0 - p) = t0 + 0 from by omega]
        go_wp2
        refine post_said (b := w.heap.size) (((HB.out.set 0 _).set 1 _).alloc _) rfl rfl rfl ⟨?_, ?_⟩
        · rw [HF.out]; rfl
        · (repeat (first | exact HC.out | refine Change.drewN ?_ _ | refine Change.drew ?_ | refine Change.alloc ?_ _ | refine Change.setCell ?_ (.inr (by first | (simp; done) | (simp; omega) | omega)) _))

      have hd3 := Lib.hid (drop_cons hltt)
      have e5 : ((t0 : Int) == s.size) = false := by rw [beq_eq_false_iff_ne]; omega
      rcases u8_is s[t0] 58 58 rfl with ⟨b5, n5⟩ | ⟨b5, n5⟩
      rotate_left
      · have n5' : ((s[t0].toNat : Int) != 58) = true := by simp only [bne, n5]; rfl
        have HF : Hid (R = said t0 (0, 0)) := by
          show _ = _
          have hnm : named true (s[p] :: s.data.toList.drop (p + 1)) = (t0 - p, 0) := by rw [HNM.out, ← hT0.out, hd3.out]; simp only; rw [if_pos b5]
          rw [HL2.out, hnm, if_pos (by simp)]; simp only [said]; rw [show p + (t0 - p) = t0 + 0 from by omega]
        clear b5 n5
        go_wp2
        refine post_said (b := w.heap.size) (((HB.out.set 0 _).set 1 _).alloc _) rfl rfl rfl ⟨?_, ?_⟩
        · rw [HF.out]; rfl
        · (repeat (first | exact HC.out | refine Change.drewN ?_ _ | refine Change.drew ?_ | refine Change.alloc ?_ _ | refine Change.setCell ?_ (.inr (by first | (simp; done) | (simp; omega) | omega)) _))

      have n5' : ((s[t0].toNat : Int) != 58) = false := by simp only [bne, n5]; rfl
      have HE : Hid (R = said (t0 + 1) (elem (value d) true (list (value d) true g false) (s.data.toList.drop (t0 + 1)))) := by
        show _ = _
        have hnm : named true (s[p] :: s.data.toList.drop (p + 1)) = (t0 + 1 - p, 4) := by rw [HNM.out, ← hT0.out, hd3.out]; simp only; rw [if_neg (by simp [b5])]
        rw [HL2.out, hnm, if_neg (by simp), said_add, ← hd.out, List.drop_drop, show p + (t0 + 1 - p) = t0 + 1 from by omega]
      clear b5 n5
      go_wp2_with fail
      refine (valI HV.out s (t0 + 1) _ _ hs (by omega) (by omega)).mono ?_
      rintro e w2 ⟨rfl, hc2⟩
      have hc3 := (HC.out.alloc _).trans hc2 (fun i h => h.elim)
      have hb3 := (HB.out.alloc _).of_change hc2 (fun h => h)
      clear c0 c1 hf
      obtain ⟨c0, c1, hf⟩ := blk_agg hb3
      have HB3 := Lib.hid hb3
      have HC3 := Lib.hid hc3
      have hlt2 := hb3.lt
      clear hb3 hc3 hc2
      obtain ⟨rn, rs, hsd, hrn, hrs⟩ := said_open (t0 + 1) (value d (s.data.toList.drop (t0 + 1)))
      have hvl := value_le d (s.data.toList.drop (t0 + 1))
      simp only [List.length_drop, Array.length_toList] at hvl
      have hsz : s.data.size = s.size := rfl
      rw [hsz] at hvl
      have HE2 : Hid (R = said (t0 + 1) (elem (value d) true (list (value d) true g false) (s.data.toList.drop (t0 + 1)))) := HE
      rw [hsd]
      by_cases h4 : (value d (s.data.toList.drop (t0 + 1))).2 = 4
      · obtain ⟨q, hq⟩ : ∃ q, q = (t0 + 1) + (value d (s.data.toList.drop (t0 + 1))).1 := ⟨_, rfl⟩
        have hqs : q ≤ s.size := by have := hvl h4; omega
        have HQ : Hid (R = said q (behindElem true (list (value d) true g false) (s.data.toList.drop q))) := by
          show _ = _
          rw [HE2.out, elem, if_neg (by simp [h4]), said_add, List.drop_drop, ← hq]
        have e4 : rs = -1 := by rw [hrs, h4]; rfl
        have eq : rn = q := by rw [hrn, hq]
        have hqat : (t0 + 1) ≤ q := by omega
        subst e4 eq
        clear hsd hrs hrn hq h4 hvl hsz
        go_wp2_with fail
        refine (skipI s q _ _ hs hqs (by first | rfl | omega)).mono ?_
        rintro e w3 ⟨⟨t, rfl, hts, hT⟩, rfl⟩
        have htq : q ≤ t := by have := hT.out; omega
        have HBH := Lib.hid (behind_at true (list (value d) true g false) s q t hT.out)
        by_cases hlt3 : t < s.size
        · have hd3 := Lib.hid (drop_cons hlt3)
          have e5 : ((t : Int) == s.size) = false := by rw [beq_eq_false_iff_ne]; omega
          rcases u8_is s[t] 125 125 rfl with ⟨b1, n1⟩ | ⟨b1, n1⟩
          · have B1 := Lib.hid b1
            clear b1
            have HF : Hid (R = said (t + 1) (0, 4)) := by
              show _ = _
              rw [HQ.out, HBH.out, hd3.out]; simp only; rw [if_pos (by rw [B1.out]; rfl)]
            go_wp2
            refine post_said (b := w.heap.size) (((HB3.out.set 0 _).set 1 _).alloc _) rfl rfl rfl ⟨?_, ?_⟩
            · rw [HF.out]; rfl
            · (repeat (first | exact HC3.out | refine Change.drewN ?_ _ | refine Change.drew ?_ | refine Change.alloc ?_ _ | refine Change.setCell ?_ (.inr (by first | (simp; done) | (simp; omega) | omega)) _))

          · have B1 := Lib.hid b1
            clear b1
            rcases u8_is s[t] 44 44 rfl with ⟨b2, n2⟩ | ⟨b2, n2⟩
            · have n2' : ((s[t].toNat : Int) != 44) = false := by simp only [bne, n2]; rfl
              have B2 := Lib.hid b2
              clear b2 n2
              have HF : Hid (R = said (t + 1) (list (value d) true g false (s.data.toList.drop (t + 1)))) := by
                show _ = _
                rw [HQ.out, HBH.out, hd3.out]; simp only; rw [if_neg (show ¬ s[t] = close true from B1.out), if_neg (by simp [B2.out])]
              go_wp2
              refine ⟨⟨t + 1, nn + 1, g, by omega, by omega, by go_num, by go_num, by omega, ?_, ?_, ?_⟩, by simp [intOf]; omega⟩
              · show _ = _
                rw [HF.out]; rfl
              · repeat (first | exact HB3.out | refine Blk.alloc ?_ _)
              · (repeat (first | exact HC3.out | refine Change.drewN ?_ _ | refine Change.drew ?_ | refine Change.alloc ?_ _ | refine Change.setCell ?_ (.inr (by first | (simp; done) | (simp; omega) | omega)) _))
            · have n2' : ((s[t].toNat : Int) != 44) = true := by simp only [bne, n2]; rfl
              have B2 := Lib.hid b2
              clear b2 n2
              have HF : Hid (R = said t (0, 0)) := by
                show _ = _
                rw [HQ.out, HBH.out, hd3.out]; simp only; rw [if_neg (show ¬ s[t] = close true from B1.out), if_pos B2.out]
              go_wp2
              refine post_said (b := w.heap.size) (((HB3.out.set 0 _).set 1 _).alloc _) rfl rfl rfl ⟨?_, ?_⟩
              · rw [HF.out]; rfl
              · (repeat (first | exact HC3.out | refine Change.drewN ?_ _ | refine Change.drew ?_ | refine Change.alloc ?_ _ | refine Change.setCell ?_ (.inr (by first | (simp; done) | (simp; omega) | omega)) _))

        · have hd3 := Lib.hid (drop_end hlt3)
          have e5 : ((t : Int) == s.size) = true := by rw [beq_iff_eq]; omega
          have HF : Hid (R = said t (0, 1)) := by
            show _ = _
            rw [HQ.out, HBH.out, hd3.out]
          go_wp2
          refine post_said (b := w.heap.size) (((HB3.out.set 0 _).set 1 _).alloc _) rfl rfl rfl ⟨?_, ?_⟩
          · rw [HF.out]; rfl
          · (repeat (first | exact HC3.out | refine Change.drewN ?_ _ | refine Change.drew ?_ | refine Change.alloc ?_ _ | refine Change.setCell ?_ (.inr (by first | (simp; done) | (simp; omega) | omega)) _))

      · have HQ : Hid (R = .agg #[.int .i64 rn, .int .i64 rs]) := by
          show _ = _
          rw [HE2.out, elem, if_pos h4, hsd]
        have e4 : (rs != -1) = true := by rw [bne_iff_ne, hrs]; exact fun h => h4 ((stv_four _).1 h)
        clear hsd hrs hrn h4 hvl hsz
        go_wp2
        refine post_said (b := w.heap.size) (((HB3.out.set 0 _).set 1 _).alloc _) rfl rfl rfl ⟨?_, ?_⟩
        · rw [HQ.out]
        · (repeat (first | exact HC3.out | refine Change.drewN ?_ _ | refine Change.drew ?_ | refine Change.alloc ?_ _ | refine Change.setCell ?_ (.inr (by first | (simp; done) | (simp; omega) | omega)) _))

    · have hd := Lib.hid (drop_end hlt)
      have e0 : ((p : Int) == s.size) = true := by rw [beq_iff_eq]; omega
      have HF : Hid (R = said p (0, 1)) := by
        show _ = _
        rw [← hF.out, list_eq, List.drop_drop, ← hP.out, hd.out]; simp only [said]; rw [hP.out]; rfl
      go_wp2
      refine post_said (b := w.heap.size) (((HB.out.set 0 _).set 1 _)) rfl rfl rfl ⟨?_, ?_⟩
      · rw [HF.out]; rfl
      · (repeat (first | exact HC.out | refine Change.drewN ?_ _ | refine Change.drew ?_ | refine Change.alloc ?_ _ | refine Change.setCell ?_ (.inr (by first | (simp; done) | (simp; omega) | omega)) _))


end Go.Proofs.Ytpelmepidboikaa
