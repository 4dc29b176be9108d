/-
  Texts joined, part 4: JsonRefF, JsonRefG, JsLib, JsPure, JsMach, LgQui, LgMore, LgObj, JsObj, JsStack, JsWord, JsByte, JsByteB, JsInWord, JsTell, JsNew, JsFeed, JsLaws, JsWords, RdMach, RdRead, RdReadB, RdReadC, RdReadD, RdLaw.
-/
import Derived.Test.YtgnefbngkhjfcaaGreatDoorM3
import Derived.Test.YtgnefbngkhjfcaaGreatDoorM2
import Derived.Test.YtgnefbngkhjfcaaGreatDoorM1
/-
  The reference for JSON: objects.
-/
set_option linter.unusedSimpArgs false
set_option linter.unusedVariables false
namespace Go.Proofs.YtgnefbngkhjfcaaGreatDoor
open Go.RowKit Go.Tg Tg.Json


set_option maxHeartbeats 16000000 in
set_option maxRecDepth 100000 in
theorem list_obj (d : Nat) (hd1000 : d ≤ 1000) (hv : ValC d) (s : ByteArray) (a : Nat) (w : World) (hs : s.size ≤ 1048576) (ha : a ≤ s.size) :
  Calls Tryz.prog 62 #[.string s, .int .i64 a, .int .i64 d, .bool true] w fun e w' => e = .returned (said a (list (value d) true ((s.data.toList.drop a).length + 1) true (s.data.toList.drop a))) ∧ Change (fun _ => False) w w' := by
  obtain ⟨R, hR⟩ : ∃ R, R = said a (list (value d) true ((s.data.toList.drop a).length + 1) true (s.data.toList.drop a)) := ⟨_, rfl⟩
  rw [← hR]
  have HR := Lib.hid hR
  have HV := Lib.hid hv
  clear hR hv
  go_enter Tryz.func62, Tryz.ntmps62
  go_wp2
  go_loopw [1, 10] (fun i n wr => ∃ k nn f : Nat, k ≤ s.size ∧ nn ≤ k ∧ i = .int .i64 k ∧ n = .int .i64 nn ∧ s.size - k < f ∧ Hid (said k (list (value d) true f (nn == 0) (s.data.toList.drop k)) = R) ∧ Blk wr w.heap.size 61 #[.int .i64 0, .int .i64 0] ∧ Change (fun _ => False) w wr) (fun i _ _ => s.size - (intOf i).toNat)
  case atStart =>
    refine ⟨a, 0, _, ha, Nat.zero_le _, rfl, rfl, ?_, HR.out.symm, Blk.new _ _ _, (Change.refl _ w).alloc _⟩
    have hsz : s.data.size = s.size := rfl
    simp only [List.length_drop, Array.length_toList]; omega
  case round =>
    obtain ⟨k, nn, f, hk, hnk, rfl, rfl, hfl, hF, hb, hc⟩ := hrel
    obtain ⟨g, rfl⟩ : ∃ g, f = g + 1 := ⟨f - 1, by omega⟩
    obtain ⟨c0, c1, hf⟩ := blk_agg hb
    have HB := Lib.hid hb
    have HC := Lib.hid hc
    clear hb hc
    go_wp2_with fail
    refine (skipI s k _ _ hs hk rfl).mono ?_
    rintro e w1 ⟨⟨p, rfl, hps, hP⟩, rfl⟩
    have hkp : k ≤ p := by have := hP.out; omega
    by_cases hlt : p < s.size
    · have hd := Lib.hid (drop_cons hlt)
      have e0 : ((p : Int) == s.size) = false := by rw [beq_eq_false_iff_ne]; omega
      have HL : Hid (R = if (nn == 0) = true ∧ s[p] = close true then said (p + 1) (0, 4) else said p (if (named true (s[p] :: s.data.toList.drop (p + 1))).2 ≠ 4 then named true (s[p] :: s.data.toList.drop (p + 1)) else add (named true (s[p] :: s.data.toList.drop (p + 1))).1 (elem (value d) true (list (value d) true g false) ((s[p] :: s.data.toList.drop (p + 1)).drop (named true (s[p] :: s.data.toList.drop (p + 1))).1)))) := by
        show _ = _
        rw [← hF.out, list_eq, List.drop_drop, ← hP.out, hd.out]; simp only
        split
        · simp only [said]; rw [hP.out]; rfl
        · rw [said_add, ← hP.out]
      go_upto_region 9 with (fail)
      go_cut [33] from 14 to 103 (fun v wx => (Blk wx w.heap.size 61 #[.int .i64 0, .int .i64 0] ∧ Change (fun _ => False) w wx) ∧ ∃ pt : Bool, v = .bool pt ∧ Hid (pt = true ↔ ((nn == 0) = true ∧ s[p] = close true)))
      case first =>
        by_cases hn : nn = 0
        · subst hn
          rcases u8_is s[p] 125 125 rfl with ⟨b1, n1⟩ | ⟨b1, n1⟩
          · have B1 := Lib.hid b1
            clear b1
            go_wp2
            go_meet
            exact ⟨⟨HB.out, HC.out⟩, true, rfl, ⟨fun _ => ⟨rfl, B1.out⟩, fun _ => rfl⟩⟩
          · have B1 := Lib.hid b1
            clear b1
            go_wp2
            go_meet
            exact ⟨⟨HB.out, HC.out⟩, false, rfl, ⟨fun h => by simp at h, fun h => absurd h.2 B1.out⟩⟩
        · have n0 : ((nn : Int) == 0) = false := by rw [beq_eq_false_iff_ne]; omega
          have n0' : (nn == 0) = false := by rw [beq_eq_false_iff_ne]; exact hn
          have N0 := Lib.hid n0'
          clear n0'
          go_wp2
          go_meet
          exact ⟨⟨HB.out, HC.out⟩, false, rfl, ⟨fun h => by simp at h, fun h => by rw [N0.out] at h; simp at h⟩⟩
      case rest =>
      obtain ⟨⟨hb, hc⟩, pt, rfl, hpt⟩ := hcut
      clear c0 c1 hf
      obtain ⟨c0, c1, hf⟩ := blk_agg hb
      have HB := Lib.hid hb
      have HC := Lib.hid hc
      clear hb hc
      cases pt
      rotate_left
      · have HF : Hid (R = said (p + 1) (0, 4)) := by
          show _ = _
          rw [HL.out, if_pos (hpt.out.1 rfl)]
        go_wp2
        refine post_said (b := w.heap.size) (((HB.out.set 0 _).set 1 _)) rfl rfl rfl ⟨?_, ?_⟩
        · rw [HF.out]; rfl
        · (repeat (first | exact HC.out | refine Change.drewN ?_ _ | refine Change.drew ?_ | refine Change.alloc ?_ _ | refine Change.setCell ?_ (.inr (by first | (simp; done) | (simp; omega) | omega)) _))

      have HL2 : Hid (R = said p (if (named true (s[p] :: s.data.toList.drop (p + 1))).2 ≠ 4 then named true (s[p] :: s.data.toList.drop (p + 1)) else add (named true (s[p] :: s.data.toList.drop (p + 1))).1 (elem (value d) true (list (value d) true g false) ((s[p] :: s.data.toList.drop (p + 1)).drop (named true (s[p] :: s.data.toList.drop (p + 1))).1)))) := by
        show _ = _
        rw [HL.out, if_neg (fun h => by have := hpt.out.2 h; simp at this)]
      rcases u8_is s[p] 34 34 rfl with ⟨b3, n3⟩ | ⟨b3, n3⟩
      rotate_left
      · have n3' : ((s[p].toNat : Int) != 34) = true := by simp only [bne, n3]; rfl
        have HF : Hid (R = said p (0, 0)) := by
          show _ = _
          rw [HL2.out]; unfold named; simp only; rw [if_pos b3, if_pos (by decide)]
        clear b3 n3
        go_wp2
        refine post_said (b := w.heap.size) (((HB.out.set 0 _).set 1 _)) rfl rfl rfl ⟨?_, ?_⟩
        · rw [HF.out]; rfl
        · (repeat (first | exact HC.out | refine Change.drewN ?_ _ | refine Change.drew ?_ | refine Change.alloc ?_ _ | refine Change.setCell ?_ (.inr (by first | (simp; done) | (simp; omega) | omega)) _))

      have n3' : ((s[p].toNat : Int) != 34) = false := by simp only [bne, n3]; rfl
      have B3 := Lib.hid b3
      clear b3 n3
      go_wp2_with fail
      refine (quoteI s (p + 1) _ _ hs (by omega) (by omega)).mono ?_
      rintro e w2 ⟨rfl, hc2⟩
      have hc3 := HC.out.trans hc2 (fun i h => h.elim)
      have hb3 := HB.out.of_change hc2 (fun h => h)
      clear c0 c1 hf HB HC
      obtain ⟨c0, c1, hf⟩ := blk_agg hb3
      have HB := Lib.hid hb3
      have HC := Lib.hid hc3
      have hltq := hb3.lt
      clear hb3 hc3 hc2
      obtain ⟨rn0, rs0, hsd0, hrn0, hrs0⟩ := said_open (p + 1) (quote 0 (s.data.toList.drop (p + 1)))
      have hql := quote_le (s.data.toList.drop (p + 1))
      simp only [List.length_drop, Array.length_toList] at hql
      have hsz0 : s.data.size = s.size := rfl
      rw [hsz0] at hql
      rw [hsd0]
      by_cases h40 : (quote 0 (s.data.toList.drop (p + 1))).2 = 4
      rotate_left
      · have HF : Hid (R = .agg #[.int .i64 rn0, .int .i64 rs0]) := by
          show _ = _
          have hnm : named true (s[p] :: s.data.toList.drop (p + 1)) = add 1 (quote 0 (s.data.toList.drop (p + 1))) := by
            unfold named; simp only; rw [if_neg (by simp [B3.out]), if_pos h40]
          rw [HL2.out, hnm, if_pos (by simpa [add] using h40), said_add, hsd0]
        have e40 : (rs0 != -1) = true := by rw [bne_iff_ne, hrs0]; exact fun h => h40 ((stv_four _).1 h)
        clear hsd0 hrs0 hrn0 h40 hql hsz0
        go_wp2
        refine post_said (b := w.heap.size) (((HB.out.set 0 _).set 1 _).alloc _) rfl rfl rfl ⟨?_, ?_⟩
        · rw [HF.out]
        · (repeat (first | exact HC.out | refine Change.drewN ?_ _ | refine Change.drew ?_ | refine Change.alloc ?_ _ | refine Change.setCell ?_ (.inr (by first | (simp; done) | (simp; omega) | omega)) _))

      obtain ⟨q0, hq0⟩ : ∃ q0, q0 = p + 1 + (quote 0 (s.data.toList.drop (p + 1))).1 := ⟨_, rfl⟩
      have hq0s : q0 ≤ s.size := by have := hql h40; omega
      have hpq : p + 1 ≤ q0 := by omega
      have e40 : rs0 = -1 := by rw [hrs0, h40]; rfl
      have eq0 : rn0 = q0 := by rw [hrn0, hq0]
      have HNM : Hid (named true (s[p] :: s.data.toList.drop (p + 1)) = (match s.data.toList.drop (q0 + skip (s.data.toList.drop q0)) with
          | [] => (q0 + skip (s.data.toList.drop q0) - p, 1)
          | c :: _ => if c ≠ 58 then (q0 + skip (s.data.toList.drop q0) - p, 0) else (q0 + skip (s.data.toList.drop q0) + 1 - p, 4))) := by
        show _ = _
        unfold named; simp only; rw [if_neg (by simp [B3.out]), if_neg (by simp [h40])]
        have e1 : (s.data.toList.drop (p + 1)).drop (quote 0 (s.data.toList.drop (p + 1))).1 = s.data.toList.drop q0 := by rw [List.drop_drop, ← hq0]
        have e2 : ∀ n, 1 + (quote 0 (s.data.toList.drop (p + 1))).1 + n = q0 + n - p := by intro n; omega
        have e3 : ∀ n, q0 + n - p + 1 = q0 + n + 1 - p := by intro n; omega
        rw [e1, List.drop_drop, e2, e3]
        generalize s.data.toList.drop (q0 + skip (s.data.toList.drop q0)) = mm
        cases mm <;> rfl
      subst e40 eq0
      clear hsd0 hrs0 hrn0 hq0 h40 hql hsz0
      go_wp2_with fail
      refine (skipI s q0 _ _ hs hq0s (by first | rfl | omega)).mono ?_
      rintro e w3 ⟨⟨t0, rfl, ht0s, hT0⟩, rfl⟩
      have htq0 : q0 ≤ t0 := by have := hT0.out; omega
      by_cases hltt : t0 < s.size
      rotate_left
      · have hd3 := Lib.hid (drop_end hltt)
        have e5 : ((t0 : Int) == s.size) = true := by rw [beq_iff_eq]; omega
        have HF : Hid (R = said t0 (0, 1)) := by
          show _ = _
          have hnm : named true (s[p] :: s.data.toList.drop (p + 1)) = (t0 - p, 1) := by rw [HNM.out, ← hT0.out, hd3.out]
          rw [HL2.out, hnm, if_pos (by simp)]; simp only [said]; rw [show p + (t0 - p) = t0 + 0 from by omega]
        go_wp2
        refine post_said (b := w.heap.size) (((HB.out.set 0 _).set 1 _).alloc _) rfl rfl rfl ⟨?_, ?_⟩
        · rw [HF.out]; rfl
        · (repeat (first | exact HC.out | refine Change.drewN ?_ _ | refine Change.drew ?_ | refine Change.alloc ?_ _ | refine Change.setCell ?_ (.inr (by first | (simp; done) | (simp; omega) | omega)) _))

      have hd3 := Lib.hid (drop_cons hltt)
      have e5 : ((t0 : Int) == s.size) = false := by rw [beq_eq_false_iff_ne]; omega
      rcases u8_is s[t0] 58 58 rfl with ⟨b5, n5⟩ | ⟨b5, n5⟩
      rotate_left
      · have n5' : ((s[t0].toNat : Int) != 58) = true := by simp only [bne, n5]; rfl
        have HF : Hid (R = said t0 (0, 0)) := by
          show _ = _
          have hnm : named true (s[p] :: s.data.toList.drop (p + 1)) = (t0 - p, 0) := by rw [HNM.out, ← hT0.out, hd3.out]; simp only; rw [if_pos b5]
          rw [HL2.out, hnm, if_pos (by simp)]; simp only [said]; rw [show p + (t0 - p) = t0 + 0 from by omega]
        clear b5 n5
        go_wp2
        refine post_said (b := w.heap.size) (((HB.out.set 0 _).set 1 _).alloc _) rfl rfl rfl ⟨?_, ?_⟩
        · rw [HF.out]; rfl
        · (repeat (first | exact HC.out | refine Change.drewN ?_ _ | refine Change.drew ?_ | refine Change.alloc ?_ _ | refine Change.setCell ?_ (.inr (by first | (simp; done) | (simp; omega) | omega)) _))

      have n5' : ((s[t0].toNat : Int) != 58) = false := by simp only [bne, n5]; rfl
      have HE : Hid (R = said (t0 + 1) (elem (value d) true (list (value d) true g false) (s.data.toList.drop (t0 + 1)))) := by
        show _ = _
        have hnm : named true (s[p] :: s.data.toList.drop (p + 1)) = (t0 + 1 - p, 4) := by rw [HNM.out, ← hT0.out, hd3.out]; simp only; rw [if_neg (by simp [b5])]
        rw [HL2.out, hnm, if_neg (by simp), said_add, ← hd.out, List.drop_drop, show p + (t0 + 1 - p) = t0 + 1 from by omega]
      clear b5 n5
      go_wp2_with fail
      refine (valI HV.out s (t0 + 1) _ _ hs (by omega) (by omega)).mono ?_
      rintro e w2 ⟨rfl, hc2⟩
      have hc3 := (HC.out.alloc _).trans hc2 (fun i h => h.elim)
      have hb3 := (HB.out.alloc _).of_change hc2 (fun h => h)
      clear c0 c1 hf
      obtain ⟨c0, c1, hf⟩ := blk_agg hb3
      have HB3 := Lib.hid hb3
      have HC3 := Lib.hid hc3
      have hlt2 := hb3.lt
      clear hb3 hc3 hc2
      obtain ⟨rn, rs, hsd, hrn, hrs⟩ := said_open (t0 + 1) (value d (s.data.toList.drop (t0 + 1)))
      have hvl := value_le d (s.data.toList.drop (t0 + 1))
      simp only [List.length_drop, Array.length_toList] at hvl
      have hsz : s.data.size = s.size := rfl
      rw [hsz] at hvl
      have HE2 : Hid (R = said (t0 + 1) (elem (value d) true (list (value d) true g false) (s.data.toList.drop (t0 + 1)))) := HE
      rw [hsd]
      by_cases h4 : (value d (s.data.toList.drop (t0 + 1))).2 = 4
      · obtain ⟨q, hq⟩ : ∃ q, q = (t0 + 1) + (value d (s.data.toList.drop (t0 + 1))).1 := ⟨_, rfl⟩
        have hqs : q ≤ s.size := by have := hvl h4; omega
        have HQ : Hid (R = said q (behindElem true (list (value d) true g false) (s.data.toList.drop q))) := by
          show _ = _
          rw [HE2.out, elem, if_neg (by simp [h4]), said_add, List.drop_drop, ← hq]
        have e4 : rs = -1 := by rw [hrs, h4]; rfl
        have eq : rn = q := by rw [hrn, hq]
        have hqat : (t0 + 1) ≤ q := by omega
        subst e4 eq
        clear hsd hrs hrn hq h4 hvl hsz
        go_wp2_with fail
        refine (skipI s q _ _ hs hqs (by first | rfl | omega)).mono ?_
        rintro e w3 ⟨⟨t, rfl, hts, hT⟩, rfl⟩
        have htq : q ≤ t := by have := hT.out; omega
        have HBH := Lib.hid (behind_at true (list (value d) true g false) s q t hT.out)
        by_cases hlt3 : t < s.size
        · have hd3 := Lib.hid (drop_cons hlt3)
          have e5 : ((t : Int) == s.size) = false := by rw [beq_eq_false_iff_ne]; omega
          rcases u8_is s[t] 125 125 rfl with ⟨b1, n1⟩ | ⟨b1, n1⟩
          · have B1 := Lib.hid b1
            clear b1
            have HF : Hid (R = said (t + 1) (0, 4)) := by
              show _ = _
              rw [HQ.out, HBH.out, hd3.out]; simp only; rw [if_pos (by rw [B1.out]; rfl)]
            go_wp2
            refine post_said (b := w.heap.size) (((HB3.out.set 0 _).set 1 _).alloc _) rfl rfl rfl ⟨?_, ?_⟩
            · rw [HF.out]; rfl
            · (repeat (first | exact HC3.out | refine Change.drewN ?_ _ | refine Change.drew ?_ | refine Change.alloc ?_ _ | refine Change.setCell ?_ (.inr (by first | (simp; done) | (simp; omega) | omega)) _))

          · have B1 := Lib.hid b1
            clear b1
            rcases u8_is s[t] 44 44 rfl with ⟨b2, n2⟩ | ⟨b2, n2⟩
            · have n2' : ((s[t].toNat : Int) != 44) = false := by simp only [bne, n2]; rfl
              have B2 := Lib.hid b2
              clear b2 n2
              have HF : Hid (R = said (t + 1) (list (value d) true g false (s.data.toList.drop (t + 1)))) := by
                show _ = _
                rw [HQ.out, HBH.out, hd3.out]; simp only; rw [if_neg (show ¬ s[t] = close true from B1.out), if_neg (by simp [B2.out])]
              go_wp2
              refine ⟨⟨t + 1, nn + 1, g, by omega, by omega, by go_num, by go_num, by omega, ?_, ?_, ?_⟩, by simp [intOf]; omega⟩
              · show _ = _
                rw [HF.out]; rfl
              · repeat (first | exact HB3.out | refine Blk.alloc ?_ _)
              · (repeat (first | exact HC3.out | refine Change.drewN ?_ _ | refine Change.drew ?_ | refine Change.alloc ?_ _ | refine Change.setCell ?_ (.inr (by first | (simp; done) | (simp; omega) | omega)) _))
            · have n2' : ((s[t].toNat : Int) != 44) = true := by simp only [bne, n2]; rfl
              have B2 := Lib.hid b2
              clear b2 n2
              have HF : Hid (R = said t (0, 0)) := by
                show _ = _
                rw [HQ.out, HBH.out, hd3.out]; simp only; rw [if_neg (show ¬ s[t] = close true from B1.out), if_pos B2.out]
              go_wp2
              refine post_said (b := w.heap.size) (((HB3.out.set 0 _).set 1 _).alloc _) rfl rfl rfl ⟨?_, ?_⟩
              · rw [HF.out]; rfl
              · (repeat (first | exact HC3.out | refine Change.drewN ?_ _ | refine Change.drew ?_ | refine Change.alloc ?_ _ | refine Change.setCell ?_ (.inr (by first | (simp; done) | (simp; omega) | omega)) _))

        · have hd3 := Lib.hid (drop_end hlt3)
          have e5 : ((t : Int) == s.size) = true := by rw [beq_iff_eq]; omega
          have HF : Hid (R = said t (0, 1)) := by
            show _ = _
            rw [HQ.out, HBH.out, hd3.out]
          go_wp2
          refine post_said (b := w.heap.size) (((HB3.out.set 0 _).set 1 _).alloc _) rfl rfl rfl ⟨?_, ?_⟩
          · rw [HF.out]; rfl
          · (repeat (first | exact HC3.out | refine Change.drewN ?_ _ | refine Change.drew ?_ | refine Change.alloc ?_ _ | refine Change.setCell ?_ (.inr (by first | (simp; done) | (simp; omega) | omega)) _))

      · have HQ : Hid (R = .agg #[.int .i64 rn, .int .i64 rs]) := by
          show _ = _
          rw [HE2.out, elem, if_pos h4, hsd]
        have e4 : (rs != -1) = true := by rw [bne_iff_ne, hrs]; exact fun h => h4 ((stv_four _).1 h)
        clear hsd hrs hrn h4 hvl hsz
        go_wp2
        refine post_said (b := w.heap.size) (((HB3.out.set 0 _).set 1 _).alloc _) rfl rfl rfl ⟨?_, ?_⟩
        · rw [HQ.out]
        · (repeat (first | exact HC3.out | refine Change.drewN ?_ _ | refine Change.drew ?_ | refine Change.alloc ?_ _ | refine Change.setCell ?_ (.inr (by first | (simp; done) | (simp; omega) | omega)) _))

    · have hd := Lib.hid (drop_end hlt)
      have e0 : ((p : Int) == s.size) = true := by rw [beq_iff_eq]; omega
      have HF : Hid (R = said p (0, 1)) := by
        show _ = _
        rw [← hF.out, list_eq, List.drop_drop, ← hP.out, hd.out]; simp only [said]; rw [hP.out]; rfl
      go_wp2
      refine post_said (b := w.heap.size) (((HB.out.set 0 _).set 1 _)) rfl rfl rfl ⟨?_, ?_⟩
      · rw [HF.out]; rfl
      · (repeat (first | exact HC.out | refine Change.drewN ?_ _ | refine Change.drew ?_ | refine Change.alloc ?_ _ | refine Change.setCell ?_ (.inr (by first | (simp; done) | (simp; omega) | omega)) _))


end Go.Proofs.YtgnefbngkhjfcaaGreatDoor
/-
  The reference for JSON: all of it.
-/
set_option linter.unusedSimpArgs false
set_option linter.unusedVariables false
namespace Go.Proofs.YtgnefbngkhjfcaaGreatDoor
open Go.RowKit Go.Tg Tg.Json

theorem listC_of (d : Nat) (hd : d ≤ 1000) (h : ValC d) : ListC d := by
  intro s a o w hs ha
  cases o
  · exact list_arr d hd h s a w hs ha
  · exact list_obj d hd h s a w hs ha
theorem valC_all (d : Nat) (hd : d ≤ 1000) : ValC d := by
  induction d with
  | zero => exact value_zero
  | succ d ih => exact value_succ d (by omega) (listC_of d (by omega) (ih (by omega)))

def wholeN (l : List UInt8) (d : Nat) : Int := (whole l d).1
def wholeP (l : List UInt8) (d : Nat) : Int := (whole l d).2
theorem ret_two {a b c d : Int} (h1 : a = c) (h2 : b = d) : Ending.returned (.tuple #[.int .i64 a, .int .i64 b]) = .returned (.tuple #[.int .i64 c, .int .i64 d]) := by rw [h1, h2]
set_option maxHeartbeats 2000000 in
theorem rwhole_any (s : ByteArray) (d : Nat) (w : World) (hs : s.size ≤ 1048576) (hd : d ≤ 200) :
    Calls Tryz.prog 26 #[.string s, .int .i64 d] w fun e w' => e = .returned (.tuple #[.int .i64 (wholeN s.data.toList d), .int .i64 (wholeP s.data.toList d)]) ∧ Change (fun _ => False) w w' := by
  have HV := Lib.hid (valC_all d (by omega))
  have hvl := value_le d s.data.toList
  have hsz : s.data.size = s.size := rfl
  simp only [Array.length_toList, hsz] at hvl
  obtain ⟨x, hx⟩ : ∃ x, x = value d s.data.toList := ⟨_, rfl⟩
  have hN : Hid (wholeN s.data.toList d = (if x.2 = 1 then (1, -1) else if x.2 ≠ 4 then (x.2, (x.1 : Int)) else if x.1 + skip (s.data.toList.drop x.1) < s.size then (0, ((x.1 + skip (s.data.toList.drop x.1) : Nat) : Int)) else (2, -1) : Nat × Int).1) := by
    show _ = _
    rw [hx]; unfold wholeN whole; simp only [Array.length_toList, hsz]
  have hP : Hid (wholeP s.data.toList d = (if x.2 = 1 then (1, -1) else if x.2 ≠ 4 then (x.2, (x.1 : Int)) else if x.1 + skip (s.data.toList.drop x.1) < s.size then (0, ((x.1 + skip (s.data.toList.drop x.1) : Nat) : Int)) else (2, -1) : Nat × Int).2) := by
    show _ = _
    rw [hx]; unfold wholeP whole; simp only [Array.length_toList, hsz]
  rw [← hx] at hvl
  have HX := Lib.hid hx
  clear hx hsz
  go_enter Tryz.func26, Tryz.ntmps26
  go_wp2_with fail
  refine (valI HV.out s 0 _ _ hs (by omega) rfl).mono ?_
  rintro e w1 ⟨rfl, hc⟩
  obtain ⟨rn, rs, hsd, hrn, hrs⟩ := said_open 0 (value d (s.data.toList.drop 0))
  rw [hsd]
  rw [List.drop_zero, ← HX.out] at hrn hrs
  have hrn' : rn = x.1 := by omega
  clear hsd hrn
  have HC := Lib.hid hc
  clear hc
  subst hrn'
  by_cases h1 : x.2 = 1
  · have e1 : rs = 1 := by rw [hrs, h1]; rfl
    subst e1
    have H1 := Lib.hid h1
    clear hrs h1 hvl
    go_wp2
    go_ret2
    refine ⟨ret_two ?_ ?_, ?_⟩
    · rw [hN.out, if_pos H1.out]; rfl
    · rw [hP.out, if_pos H1.out]
    · repeat (first | exact HC.out | refine Change.drewN ?_ _ | refine Change.alloc ?_ _ | refine Change.setCell ?_ (.inr (by first | (simp; done) | (simp; omega) | omega)) _)
  by_cases h4 : x.2 = 4
  · have e1 : rs = -1 := by rw [hrs, h4]; rfl
    subst e1
    have hle := hvl h4
    have H4 := Lib.hid h4
    clear hrs h1 h4 hvl
    go_wp2_with fail
    refine (skipI s x.1 _ _ hs hle rfl).mono ?_
    rintro e w3 ⟨⟨t, rfl, hts, hT⟩, rfl⟩
    by_cases hlt : t < s.size
    · go_wp2
      go_ret2
      refine ⟨ret_two ?_ ?_, ?_⟩
      · rw [hN.out, if_neg (by rw [H4.out]; decide), if_neg (by simp [H4.out]), if_pos (by rw [← hT.out]; exact hlt)]; rfl
      · rw [hP.out, if_neg (by rw [H4.out]; decide), if_neg (by simp [H4.out]), if_pos (by rw [← hT.out]; exact hlt), ← hT.out]
      · repeat (first | exact HC.out | refine Change.drewN ?_ _ | refine Change.alloc ?_ _ | refine Change.setCell ?_ (.inr (by first | (simp; done) | (simp; omega) | omega)) _)
    · go_wp2
      go_ret2
      refine ⟨ret_two ?_ ?_, ?_⟩
      · rw [hN.out, if_neg (by rw [H4.out]; decide), if_neg (by simp [H4.out]), if_neg (by rw [← hT.out]; exact hlt)]; rfl
      · rw [hP.out, if_neg (by rw [H4.out]; decide), if_neg (by simp [H4.out]), if_neg (by rw [← hT.out]; exact hlt)]
      · repeat (first | exact HC.out | refine Change.drewN ?_ _ | refine Change.alloc ?_ _ | refine Change.setCell ?_ (.inr (by first | (simp; done) | (simp; omega) | omega)) _)
  · have e1 : (rs == 1) = false := by rw [beq_eq_false_iff_ne, hrs]; unfold stv; split <;> omega
    have e2 : (rs != -1) = true := by rw [bne_iff_ne, hrs]; exact fun h => h4 ((stv_four _).1 h)
    have hrs' : rs = x.2 := by rw [hrs]; unfold stv; rw [if_neg h4]
    have H1 := Lib.hid h1
    have H4 := Lib.hid h4
    have HRS := Lib.hid hrs'
    clear hrs h1 h4 hvl hrs'
    go_wp2
    go_quiet (fail)
    go_wp2
    go_ret2
    refine ⟨ret_two ?_ ?_, ?_⟩
    · rw [hN.out, if_neg H1.out, if_pos H4.out, HRS.out]
    · rw [hP.out, if_neg H1.out, if_pos H4.out]
    · repeat (first | exact HC.out | refine Change.drewN ?_ _ | refine Change.alloc ?_ _ | refine Change.setCell ?_ (.inr (by first | (simp; done) | (simp; omega) | omega)) _)
theorem rwholeI (s : ByteArray) (x : Int) (d : Nat) (w : World) (hx : x = d) (hs : s.size ≤ 1048576) (hd : d ≤ 200) :
    Calls Tryz.prog 26 #[.string s, .int .i64 x] w fun e w' => e = .returned (.tuple #[.int .i64 (wholeN s.data.toList d), .int .i64 (wholeP s.data.toList d)]) ∧ Change (fun _ => False) w w' := by
  subst hx; exact rwhole_any s d w hs hd
theorem rbegun_any (s : ByteArray) (w : World) (hs : s.size ≤ 1048576) :
    Calls Tryz.prog 27 #[.string s] w fun e w' => e = .returned (.bool (decide (skip s.data.toList < s.size))) ∧ w = w' := by
  obtain ⟨R, hR⟩ : ∃ R, R = decide (skip s.data.toList < s.size) := ⟨_, rfl⟩
  rw [← hR]
  have HR := Lib.hid hR
  clear hR
  go_enter Tryz.func27, Tryz.ntmps27
  go_wp2_with fail
  refine (skipI s 0 _ _ hs (by omega) rfl).mono ?_
  rintro e w3 ⟨⟨t, rfl, hts, hT⟩, rfl⟩
  go_wp2
  go_ret
  refine ⟨ret_bool ?_, rfl⟩
  have h := hT.out
  rw [List.drop_zero, Nat.zero_add] at h
  rw [HR.out, ← h]
  first | done | (rw [Bool.eq_iff_iff]; simp)
end Go.Proofs.YtgnefbngkhjfcaaGreatDoor
/-
  The library functions that layer 28 asks: strings.IndexByte, strings.Fields.
-/
set_option linter.unusedSimpArgs false
set_option linter.unusedVariables false
namespace Go.Proofs.YtgnefbngkhjfcaaGreatDoor
open Go.Lg Go.Tg Tg.Js

/-- the table of blanks lies in the package's variable -/
def Tab (H : LH) : Prop := 1 < H.ng ∧ Lib.TabIs Tryz.prog H.base "strings.asciiSpace" .u8 Lib.asciiSpaceTab
def specIndexByte : Lg.Spec := fun args H => match args with
  | [.string s, .int .u8 c] => some (.int .i64 (Lib.indexByte s.data.toList c.toNat.toUInt8), H)
  | _ => none
open Classical in
noncomputable def specFields : Lg.Spec := fun args H => match args with
  | [.string s] => if s.size < 4294967281 ∧ (∀ (j : Nat) b, s.data.toList[j]? = some b → b.toNat < 128) ∧ Tab H ∧ (Lib.fields s.data.toList).length ≤ maxLen then
      some (sl H.n (Lib.fields s.data.toList).length (Lib.fields s.data.toList).length, H.new ⟨(Lib.fields s.data.toList).map (fun l => .string ⟨l.toArray⟩), 9, true⟩)
    else none
  | _ => none
/-- the number of the machine's that the search in strings reads lies in its variable -/
def MaxL (H : LH) : Prop := 2 < H.ng ∧ ∃ m, H.base.cell? ⟨2, 0, none⟩ = some (.int .i64 m)
/-- the reference for JSON -/
def specWhole27 : Lg.Spec := fun args H => match args with
  | [.string s, .int .i64 d] => if s.size ≤ 1048576 ∧ 0 ≤ d ∧ d ≤ 200 then some (.tuple #[.int .i64 (Go.Proofs.YtgnefbngkhjfcaaGreatDoor.wholeN s.data.toList d.toNat), .int .i64 (Go.Proofs.YtgnefbngkhjfcaaGreatDoor.wholeP s.data.toList d.toNat)], H) else none
  | _ => none
def specBegun27 : Lg.Spec := fun args H => match args with
  | [.string s] => if s.size ≤ 1048576 then some (.bool (decide (Tg.Json.skip s.data.toList < s.size)), H) else none
  | _ => none
noncomputable def specsMore : List (FuncId × Lg.Spec) := [
  ] ++ [
  (26, specWhole27),
  (27, specBegun27)
  ]
noncomputable def EJ : Ext := extLL ([(98, specIndexByte), (121, specFields)] ++ specsMore) [35, 36]
@[simp] theorem EJ_loud {g : FuncId} : EJ.loud g = (decide (g = 35) || decide (g = 36)) := by
  unfold EJ extLL
  simp only [List.contains_cons, List.contains_nil, Bool.or_false]
  rw [Bool.eq_iff_iff]; simp
theorem tab_at {P : Program} {H : LH} {ι : Ren} {w : World} (hrel : Rel P H ι w) (h : Tab H) : Lib.TabIs Tryz.prog w "strings.asciiSpace" .u8 Lib.asciiSpaceTab := by
  have h2 := h.2
  unfold Lib.TabIs World.var? at h2 ⊢
  rw [show Tryz.prog.globalNamed "strings.asciiSpace" = some 1 by kernel_rfl] at h2 ⊢
  simp only [Option.bind_some] at h2 ⊢
  rw [pin_block hrel h.1]
  exact h2
theorem more_ok : ∀ p ∈ specsMore, SpecOk Tryz.prog p.1 p.2 := by
  intro p hp
  rcases List.mem_append.1 hp with hp | hp
  · skip
    cases hp
  · skip
    rcases List.mem_cons.1 hp with rfl | hp
    · intro args H v H' h
      refine ⟨⟨_, Tryz.func26, rfl, by decide⟩, ?_⟩
      unfold specWhole27 at h
      dsimp only at h
      split at h
      · rename_i s d
        split at h
        · rename_i hc
          obtain ⟨h1, h2, h3⟩ := hc
          simp only [Option.some.injEq, Prod.mk.injEq] at h
          obtain ⟨rfl, rfl⟩ := h
          exact callOk_flatC (fun x hx => by
            rcases List.mem_cons.1 hx with rfl | hx
            · rfl
            · rcases List.mem_cons.1 hx with rfl | hx
              · rfl
              · cases hx) rfl (fun w => rwholeI s d d.toNat w (by omega) h1 (by omega))
        · cases h
      · cases h
    rcases List.mem_cons.1 hp with rfl | hp
    · intro args H v H' h
      refine ⟨⟨_, Tryz.func27, rfl, by decide⟩, ?_⟩
      unfold specBegun27 at h
      dsimp only at h
      split at h
      · rename_i s
        split at h
        · rename_i hc
          simp only [Option.some.injEq, Prod.mk.injEq] at h
          obtain ⟨rfl, rfl⟩ := h
          exact callOk_flatC (fun x hx => by
            rcases List.mem_cons.1 hx with rfl | hx
            · rfl
            · cases hx) rfl (fun w => (rbegun_any s w hc).mono (by rintro e w' ⟨rfl, rfl⟩; exact ⟨rfl, Change.refl _ _⟩))
        · cases h
      · cases h
    cases hp
theorem extOk : ExtOk Tryz.prog EJ := by
  refine extL_ok (fun p hp => ?_)
  rcases List.mem_append.1 hp with hp | hp
  case inr => exact more_ok p hp
  rcases List.mem_cons.1 hp with rfl | hp
  · intro args H v H' h
    refine ⟨⟨_, Tryz.func98, rfl, by decide⟩, ?_⟩
    unfold specIndexByte at h
    dsimp only at h
    split at h
    · simp only [Option.some.injEq, Prod.mk.injEq] at h
      obtain ⟨rfl, rfl⟩ := h
      exact callOk_flat (fun x hx => by
        rcases List.mem_cons.1 hx with rfl | hx
        · rfl
        · rcases List.mem_cons.1 hx with rfl | hx
          · rfl
          · cases hx) rfl (fun w => Tryz.strings_IndexByte _ _ w)
    · cases h
  · rcases List.mem_cons.1 hp with rfl | hp
    · intro args H v H' h
      refine ⟨⟨_, Tryz.func121, rfl, by decide⟩, ?_⟩
      unfold specFields at h
      dsimp only at h
      split at h
      · rename_i s
        split at h
        · rename_i hc
          obtain ⟨h1, h2, h3, h4⟩ := hc
          simp only [Option.some.injEq, Prod.mk.injEq] at h
          obtain ⟨rfl, rfl⟩ := h
          exact callOk_row (fun x hx => by
            rcases List.mem_cons.1 hx with rfl | hx
            · rfl
            · cases hx) (fun x hx => by
              obtain ⟨l, _, rfl⟩ := List.mem_map.1 hx
              rfl) (by kernel_rfl) (by simp) h4 (fun ι w hrel => Tryz.strings_Fields s w h1 h2 (tab_at hrel h3))
        · cases h
      · cases h
    · cases hp
theorem tOk : TOk Tryz.prog (LC Tryz.prog EJ) := LC_ok extOk mixed
section
variable {H : LH}
@[simp] theorem indexByte_l {s : List UInt8} {c : UInt8} : LC Tryz.prog EJ 98 [str s, .int .u8 c.toNat] H = some (.int .i64 (Lib.indexByte s c), H) := by
  refine LC_ext (s := specIndexByte) rfl ?_
  simp [specIndexByte, str]
def kwText : List UInt8 := w "await break case catch class const continue default delete do else export extends finally for from function get if import in instanceof let new of return set static switch throw try typeof var void while with yield async as"
theorem fields_kw : Lib.fields kwText = keywords := by decide +kernel
theorem kw_ascii : (kwText.all fun b => decide (b.toNat < 128)) = true := by decide +kernel
theorem fields_l (ht : Tab H) : LC Tryz.prog EJ 121 [str kwText] H = some (sl H.n 39 39, H.new ⟨keywords.map str, 9, true⟩) := by
  refine LC_ext (s := specFields) rfl ?_
  have e : (⟨kwText.toArray⟩ : ByteArray).data.toList = kwText := by simp
  have hl : keywords.length = 39 := by decide +kernel
  simp only [specFields, str, e, fields_kw, hl]
  have ha : ∀ (j : Nat) b, kwText[j]? = some b → b.toNat < 128 := fun j b hb => by
    have := List.all_eq_true.1 kw_ascii b (List.mem_of_getElem? hb)
    simpa using this
  rw [if_pos ⟨by rw [ba_size]; decide +kernel, ha, ht, by simp [maxLen, fields_kw, hl]⟩]
  rfl
end
end Go.Proofs.YtgnefbngkhjfcaaGreatDoor
/-
  The machine of layer 28 (jscript): what its judges of bytes come to.
-/
set_option linter.unusedSimpArgs false
set_option linter.unusedVariables false
namespace Go.Proofs.YtgnefbngkhjfcaaGreatDoor
open Go.Lg Tg.Js

section
variable {H : LH} {b : UInt8}
theorem digit_in : LC Tryz.prog EJ 111 [.int .u8 b.toNat] H = some (.bool (digit b), H) := by
  refine LC_pure rfl Tryz.func111 rfl (Nat.le_of_ble_eq_true rfl) (by decide) (by kernel_rfl) rfl ?_
  simp +contextual [digit, -Int.not_le, -Int.not_lt]
theorem digit_l : LC Tryz.prog EJ 96 [.int .u8 b.toNat] H = some (.bool (digit b), H) := by
  refine LC_pure rfl Tryz.func96 rfl (Nat.le_of_ble_eq_true rfl) (by decide) (by kernel_rfl) rfl ?_
  simp +contextual [digit_in, -Int.not_le, -Int.not_lt]
theorem small_l : LC Tryz.prog EJ 122 [.int .u8 b.toNat] H = some (.bool (decide (97 ≤ (b.toNat : Int)) && decide ((b.toNat : Int) ≤ 122)), H) := by
  refine LC_pure rfl Tryz.func122 rfl (Nat.le_of_ble_eq_true rfl) (by decide) (by kernel_rfl) rfl ?_
  simp +contextual [-Int.not_le, -Int.not_lt]
theorem great_l : LC Tryz.prog EJ 123 [.int .u8 b.toNat] H = some (.bool (decide (65 ≤ (b.toNat : Int)) && decide ((b.toNat : Int) ≤ 90)), H) := by
  refine LC_pure rfl Tryz.func123 rfl (Nat.le_of_ble_eq_true rfl) (by decide) (by kernel_rfl) rfl ?_
  simp +contextual [-Int.not_le, -Int.not_lt]
theorem letter_in : LC Tryz.prog EJ 118 [.int .u8 b.toNat] H = some (.bool (letter b), H) := by
  refine LC_pure rfl Tryz.func118 rfl (Nat.le_of_ble_eq_true rfl) (by decide) (by kernel_rfl) rfl ?_
  simp +contextual [letter, small_l, great_l, -Int.not_le, -Int.not_lt]
theorem letter_l : LC Tryz.prog EJ 113 [.int .u8 b.toNat] H = some (.bool (letter b), H) := by
  refine LC_pure rfl Tryz.func113 rfl (Nat.le_of_ble_eq_true rfl) (by decide) (by kernel_rfl) rfl ?_
  simp +contextual [letter_in, -Int.not_le, -Int.not_lt]
theorem feed_l : LC Tryz.prog EJ 100 [.int .u8 b.toNat] H = some (.bool (feedB b), H) := by
  refine LC_pure rfl Tryz.func100 rfl (Nat.le_of_ble_eq_true rfl) (by decide) (by kernel_rfl) rfl ?_
  simp +contextual [feedB, -Int.not_le, -Int.not_lt]
theorem white_l : LC Tryz.prog EJ 101 [.int .u8 b.toNat] H = some (.bool (white b), H) := by
  refine LC_pure rfl Tryz.func101 rfl (Nat.le_of_ble_eq_true rfl) (by decide) (by kernel_rfl) rfl ?_
  simp +contextual [white, -Int.not_le, -Int.not_lt]
theorem inner_l : LC Tryz.prog EJ 102 [.int .u8 b.toNat] H = some (.bool (inner b), H) := by
  refine LC_pure rfl Tryz.func102 rfl (Nat.le_of_ble_eq_true rfl) (by decide) (by kernel_rfl) rfl ?_
  simp (config := { maxSteps := 2000000 }) +contextual [inner, letter_l, digit_l, -Int.not_le, -Int.not_lt]
theorem pair_l : LC Tryz.prog EJ 119 [.int .u8 b.toNat] H = some (.int .u8 (M.pair b).toNat, H) := by
  refine LC_pure rfl Tryz.func119 rfl (Nat.le_of_ble_eq_true rfl) (by decide) (by kernel_rfl) rfl ?_
  simp +contextual [M.pair, -Int.not_le, -Int.not_lt]
end
end Go.Proofs.YtgnefbngkhjfcaaGreatDoor
/-
  The machine of layer 28 (jscript): its fields, and its methods that leave its stack as it is.
-/
set_option linter.unusedSimpArgs false
set_option linter.unusedVariables false
namespace Go.Proofs.YtgnefbngkhjfcaaGreatDoor
open Go.Lg Tg.Js

/-- the machine's cells -/
def mc (m : M) (v : Value) : List Value := [.int .i64 m.depth, v, .int .i64 m.at_, .int .u8 m.by_.toNat, .bool m.taken, str m.said, .int .i64 m.last, .bool m.broken, .bool m.bad, .int .i64 m.place, .int .i64 m.pieces, .int .i64 m.ends, .int .i64 m.seen]
def mb (m : M) (v : Value) : LB := ⟨mc m v, 67, true⟩
theorem set_self {H : LH} {l : Nat} {b : LB} (h : H.get l = some b) : H.set l b = H := by
  cases H with
  | mk n g ho w0 ng =>
    simp only [LH.set, LH.mk.injEq, true_and, and_true]
    funext k
    split
    · rename_i e; subst e; exact h.symm
    · rfl
@[simp] theorem u8inj {a b : UInt8} : ((a.toNat : Int) = b.toNat) = (a = b) := by
  apply propext
  constructor
  · intro h; exact UInt8.toNat_inj.1 (by omega)
  · rintro rfl; rfl
set_option maxRecDepth 100000
section
variable {H : LH} {b : UInt8} {m : M} {v : Value} {p : Nat}
@[simp] theorem mb_len : (mb m v).cells.length = 13 := by simp only [mb, mc]; simp only [List.length_cons, List.length_nil]
@[simp] theorem mb_rw : (mb m v).rw = true := by simp only [mb]
theorem mb_elem : (mb m v).elem = 67 := rfl
@[simp] theorem ld_depth : (mb m v).cells[0]? = some (.int .i64 m.depth) := rfl
@[simp] theorem lg_depth {hl : 0 < (mb m v).cells.length} : (mb m v).cells[0]'hl = (.int .i64 m.depth) := rfl
@[simp] theorem st_depth {x : Int} : (⟨(mb m v).cells.set 0 (.int .i64 x), (mb m v).elem, true⟩ : LB) = mb { m with depth := x } v := rfl
@[simp] theorem ld_at_ : (mb m v).cells[2]? = some (.int .i64 m.at_) := rfl
@[simp] theorem lg_at_ {hl : 2 < (mb m v).cells.length} : (mb m v).cells[2]'hl = (.int .i64 m.at_) := rfl
@[simp] theorem st_at_ {x : Int} : (⟨(mb m v).cells.set 2 (.int .i64 x), (mb m v).elem, true⟩ : LB) = mb { m with at_ := x } v := rfl
@[simp] theorem ld_by_ : (mb m v).cells[3]? = some (.int .u8 m.by_.toNat) := rfl
@[simp] theorem lg_by_ {hl : 3 < (mb m v).cells.length} : (mb m v).cells[3]'hl = (.int .u8 m.by_.toNat) := rfl
@[simp] theorem st_by_ {x : UInt8} : (⟨(mb m v).cells.set 3 (.int .u8 x.toNat), (mb m v).elem, true⟩ : LB) = mb { m with by_ := x } v := rfl
@[simp] theorem ld_taken : (mb m v).cells[4]? = some (.bool m.taken) := rfl
@[simp] theorem lg_taken {hl : 4 < (mb m v).cells.length} : (mb m v).cells[4]'hl = (.bool m.taken) := rfl
@[simp] theorem st_taken {x : Bool} : (⟨(mb m v).cells.set 4 (.bool x), (mb m v).elem, true⟩ : LB) = mb { m with taken := x } v := rfl
@[simp] theorem ld_said : (mb m v).cells[5]? = some (str m.said) := rfl
@[simp] theorem lg_said {hl : 5 < (mb m v).cells.length} : (mb m v).cells[5]'hl = (str m.said) := rfl
@[simp] theorem st_said {x : List UInt8} : (⟨(mb m v).cells.set 5 (str x), (mb m v).elem, true⟩ : LB) = mb { m with said := x } v := rfl
@[simp] theorem ld_last : (mb m v).cells[6]? = some (.int .i64 m.last) := rfl
@[simp] theorem lg_last {hl : 6 < (mb m v).cells.length} : (mb m v).cells[6]'hl = (.int .i64 m.last) := rfl
@[simp] theorem st_last {x : Int} : (⟨(mb m v).cells.set 6 (.int .i64 x), (mb m v).elem, true⟩ : LB) = mb { m with last := x } v := rfl
@[simp] theorem ld_broken : (mb m v).cells[7]? = some (.bool m.broken) := rfl
@[simp] theorem lg_broken {hl : 7 < (mb m v).cells.length} : (mb m v).cells[7]'hl = (.bool m.broken) := rfl
@[simp] theorem st_broken {x : Bool} : (⟨(mb m v).cells.set 7 (.bool x), (mb m v).elem, true⟩ : LB) = mb { m with broken := x } v := rfl
@[simp] theorem ld_bad : (mb m v).cells[8]? = some (.bool m.bad) := rfl
@[simp] theorem lg_bad {hl : 8 < (mb m v).cells.length} : (mb m v).cells[8]'hl = (.bool m.bad) := rfl
@[simp] theorem st_bad {x : Bool} : (⟨(mb m v).cells.set 8 (.bool x), (mb m v).elem, true⟩ : LB) = mb { m with bad := x } v := rfl
@[simp] theorem ld_place : (mb m v).cells[9]? = some (.int .i64 m.place) := rfl
@[simp] theorem lg_place {hl : 9 < (mb m v).cells.length} : (mb m v).cells[9]'hl = (.int .i64 m.place) := rfl
@[simp] theorem st_place {x : Int} : (⟨(mb m v).cells.set 9 (.int .i64 x), (mb m v).elem, true⟩ : LB) = mb { m with place := x } v := rfl
@[simp] theorem ld_pieces : (mb m v).cells[10]? = some (.int .i64 m.pieces) := rfl
@[simp] theorem lg_pieces {hl : 10 < (mb m v).cells.length} : (mb m v).cells[10]'hl = (.int .i64 m.pieces) := rfl
@[simp] theorem st_pieces {x : Int} : (⟨(mb m v).cells.set 10 (.int .i64 x), (mb m v).elem, true⟩ : LB) = mb { m with pieces := x } v := rfl
@[simp] theorem ld_ends : (mb m v).cells[11]? = some (.int .i64 m.ends) := rfl
@[simp] theorem lg_ends {hl : 11 < (mb m v).cells.length} : (mb m v).cells[11]'hl = (.int .i64 m.ends) := rfl
@[simp] theorem st_ends {x : Int} : (⟨(mb m v).cells.set 11 (.int .i64 x), (mb m v).elem, true⟩ : LB) = mb { m with ends := x } v := rfl
@[simp] theorem ld_seen : (mb m v).cells[12]? = some (.int .i64 m.seen) := rfl
@[simp] theorem lg_seen {hl : 12 < (mb m v).cells.length} : (mb m v).cells[12]'hl = (.int .i64 m.seen) := rfl
@[simp] theorem st_seen {x : Int} : (⟨(mb m v).cells.set 12 (.int .i64 x), (mb m v).elem, true⟩ : LB) = mb { m with seen := x } v := rfl
@[simp] theorem st_by34 : (⟨(mb m v).cells.set 3 (.int .u8 34), (mb m v).elem, true⟩ : LB) = mb { m with by_ := 34 } v := rfl
@[simp] theorem st_by39 : (⟨(mb m v).cells.set 3 (.int .u8 39), (mb m v).elem, true⟩ : LB) = mb { m with by_ := 39 } v := rfl
@[simp] theorem st_by47 : (⟨(mb m v).cells.set 3 (.int .u8 47), (mb m v).elem, true⟩ : LB) = mb { m with by_ := 47 } v := rfl
@[simp] theorem st_by96 : (⟨(mb m v).cells.set 3 (.int .u8 96), (mb m v).elem, true⟩ : LB) = mb { m with by_ := 96 } v := rfl
@[simp] theorem ld_stack : (mb m v).cells[1]? = some v := rfl
@[simp] theorem lg_stack {hl : 1 < (mb m v).cells.length} : (mb m v).cells[1]'hl = v := rfl
@[simp] theorem st_stack {x : Value} : (⟨(mb m v).cells.set 1 x, (mb m v).elem, true⟩ : LB) = mb m x := rfl
/-- a method that writes the machine's own block alone -/
theorem own {f : FuncId} {fn : Func} {c : Code} {args : List Value} {u : Value} {B B' : LB} (he : EJ f = none) (hf : Tryz.prog.funcs[f]? = some fn) (hb : fn.body = some c) (hN : args.length ≤ fn.ntmps) (hname : fn.name ≠ "runtime.NumGoroutine") (hcd : codeOk EJ.loud c = true)
    (hB : H.get p = some B) (hp : p < H.n) (hr : Runs Tryz.prog EJ fn [.code c] (enter args) H (fun r => r = (u, H.set p B'))) : LC Tryz.prog EJ f args H = some (u, H.set p B') := by
  obtain ⟨r, h, rfl⟩ := LC_runs he hf hb hN hname hcd hr
  rw [h, trunc_set hB hp]
theorem joined_l (h : H.get p = some (mb m v)) : LC Tryz.prog EJ 103 [ptr p 0] H = some (.bool m.joined, H) := by
  refine LC_pure rfl Tryz.func103 rfl (Nat.le_of_ble_eq_true rfl) (by decide) (by kernel_rfl) rfl ?_
  simp +contextual [h, M.joined]
theorem fail_l (h : H.get p = some (mb m v)) (hp : p < H.n) : LC Tryz.prog EJ 104 [ptr p 0] H = some (.tuple #[], H.set p (mb (m.fail) v)) := by
  refine own rfl Tryz.func104 rfl (Nat.le_of_ble_eq_true rfl) (by decide) (by kernel_rfl) h hp ?_
  simp (config := { maxSteps := 2000000 }) +contextual [h, hp, set_self h, M.fail, -Int.not_le, -Int.not_lt]
theorem fail_s (hp : p < H.n) : LC Tryz.prog EJ 104 [ptr p 0] (H.set p (mb m v)) = some (.tuple #[], H.set p (mb (m.fail) v)) := by
  rw [fail_l get_set hp, set_set]
theorem piece_l (h : H.get p = some (mb m v)) (hp : p < H.n) : LC Tryz.prog EJ 105 [ptr p 0] H = some (.tuple #[], H.set p (mb (m.piece) v)) := by
  refine own rfl Tryz.func105 rfl (Nat.le_of_ble_eq_true rfl) (by decide) (by kernel_rfl) h hp ?_
  simp (config := { maxSteps := 2000000 }) +contextual [h, hp, set_self h, M.piece, -Int.not_le, -Int.not_lt]
theorem piece_s (hp : p < H.n) : LC Tryz.prog EJ 105 [ptr p 0] (H.set p (mb m v)) = some (.tuple #[], H.set p (mb (m.piece) v)) := by
  rw [piece_l get_set hp, set_set]
theorem ended_l {l : Int} (h : H.get p = some (mb m v)) (hp : p < H.n) : LC Tryz.prog EJ 108 [ptr p 0, .int .i64 l] H = some (.tuple #[], H.set p (mb (m.ended l) v)) := by
  refine own rfl Tryz.func108 rfl (Nat.le_of_ble_eq_true rfl) (by decide) (by kernel_rfl) h hp ?_
  simp (config := { maxSteps := 2000000 }) +contextual [h, hp, set_self h, M.ended, -Int.not_le, -Int.not_lt]
theorem ended_s {l : Int} (hp : p < H.n) : LC Tryz.prog EJ 108 [ptr p 0, .int .i64 l] (H.set p (mb m v)) = some (.tuple #[], H.set p (mb (m.ended l) v)) := by
  rw [ended_l get_set hp, set_set]
theorem inRemark_l (h : H.get p = some (mb m v)) (hp : p < H.n) : LC Tryz.prog EJ 82 [ptr p 0, .int .u8 b.toNat] H = some (.tuple #[], H.set p (mb (m.inRemark b) v)) := by
  refine own rfl Tryz.func82 rfl (Nat.le_of_ble_eq_true rfl) (by decide) (by kernel_rfl) h hp ?_
  simp (config := { maxSteps := 2000000 }) +contextual [h, hp, set_self h, M.inRemark, feed_l, -Int.not_le, -Int.not_lt]
theorem inRemark_s (hp : p < H.n) : LC Tryz.prog EJ 82 [ptr p 0, .int .u8 b.toNat] (H.set p (mb m v)) = some (.tuple #[], H.set p (mb (m.inRemark b) v)) := by
  rw [inRemark_l get_set hp, set_set]
theorem inLess_l (h : H.get p = some (mb m v)) (hp : p < H.n) : LC Tryz.prog EJ 83 [ptr p 0, .int .u8 b.toNat] H = some (.tuple #[], H.set p (mb (m.inLess b) v)) := by
  refine own rfl Tryz.func83 rfl (Nat.le_of_ble_eq_true rfl) (by decide) (by kernel_rfl) h hp ?_
  simp (config := { maxSteps := 2000000 }) +contextual [h, hp, set_self h, M.inLess, fail_l h hp, -Int.not_le, -Int.not_lt]
theorem inLess_s (hp : p < H.n) : LC Tryz.prog EJ 83 [ptr p 0, .int .u8 b.toNat] (H.set p (mb m v)) = some (.tuple #[], H.set p (mb (m.inLess b) v)) := by
  rw [inLess_l get_set hp, set_set]
theorem inText_l (h : H.get p = some (mb m v)) (hp : p < H.n) : LC Tryz.prog EJ 84 [ptr p 0, .int .u8 b.toNat] H = some (.tuple #[], H.set p (mb (m.inText b) v)) := by
  refine own rfl Tryz.func84 rfl (Nat.le_of_ble_eq_true rfl) (by decide) (by kernel_rfl) h hp ?_
  simp (config := { maxSteps := 2000000 }) +contextual [h, hp, set_self h, M.inText, feed_l, fail_l h hp, ended_l h hp, -Int.not_le, -Int.not_lt]
theorem inText_s (hp : p < H.n) : LC Tryz.prog EJ 84 [ptr p 0, .int .u8 b.toNat] (H.set p (mb m v)) = some (.tuple #[], H.set p (mb (m.inText b) v)) := by
  rw [inText_l get_set hp, set_set]
end
end Go.Proofs.YtgnefbngkhjfcaaGreatDoor
/-
  A logical run of Go code: rules for regions whose order is open.
-/
set_option linter.unusedSimpArgs false
set_option linter.unusedVariables false
namespace Go.Lg
open Go.Tg Go.RowKit
section
variable {P : Program} {fr : Fr} {H H0 : LH} {T : Callee} {L : Loud} {t s : TypeId} {x y i c : Operand}
@[simp ↓] theorem lmixx_move : lmixx P T (.move x) fr H0 H = lopx P T (.move x) fr H := rfl
@[simp ↓] theorem loud_move : loudOp L (.move x) = false := rfl
@[simp ↓] theorem lmixx_assign : lmixx P T (.assign x) fr H0 H = lopx P T (.assign x) fr H := rfl
@[simp ↓] theorem loud_assign : loudOp L (.assign x) = false := rfl
@[simp ↓] theorem lmixx_pick : lmixx P T (.pick c x y) fr H0 H = lopx P T (.pick c x y) fr H := rfl
@[simp ↓] theorem loud_pick : loudOp L (.pick c x y) = false := rfl
@[simp ↓] theorem lmixx_box : lmixx P T (.box t x) fr H0 H = lopx P T (.box t x) fr H := rfl
@[simp ↓] theorem loud_box : loudOp L (.box t x) = false := rfl
@[simp ↓] theorem lmixx_alloc : lmixx P T (.alloc t) fr H0 H = lopx P T (.alloc t) fr H := rfl
@[simp ↓] theorem loud_alloc : loudOp L (.alloc t) = false := rfl
@[simp ↓] theorem lmixx_load : lmixx P T (.load t x) fr H0 H = lopx P T (.load t x) fr H := rfl
@[simp ↓] theorem loud_load : loudOp L (.load t x) = false := rfl
@[simp ↓] theorem lmixx_nilCheck : lmixx P T (.nilCheck x) fr H0 H = lopx P T (.nilCheck x) fr H := rfl
@[simp ↓] theorem loud_nilCheck : loudOp L (.nilCheck x) = false := rfl
@[simp ↓] theorem lmixx_fieldAddr {f : Nat} : lmixx P T (.fieldAddr t x f) fr H0 H = lopx P T (.fieldAddr t x f) fr H := rfl
@[simp ↓] theorem loud_fieldAddr {f : Nat} : loudOp L (.fieldAddr t x f) = false := rfl
@[simp ↓] theorem lmixx_indexAddr : lmixx P T (.indexAddr t x i) fr H0 H = lopx P T (.indexAddr t x i) fr H := rfl
@[simp ↓] theorem loud_indexAddr : loudOp L (.indexAddr t x i) = false := rfl
@[simp ↓] theorem lmixx_slice {lo hi mx : Option Operand} : lmixx P T (.slice t x lo hi mx) fr H0 H = lopx P T (.slice t x lo hi mx) fr H := rfl
@[simp ↓] theorem loud_slice {lo hi mx : Option Operand} : loudOp L (.slice t x lo hi mx) = false := rfl
@[simp ↓] theorem lmixx_field {f : Nat} : lmixx P T (.field t x f) fr H0 H = lopx P T (.field t x f) fr H := rfl
@[simp ↓] theorem loud_field {f : Nat} : loudOp L (.field t x f) = false := rfl
@[simp ↓] theorem lmixx_extract {f : Nat} : lmixx P T (.extract x f) fr H0 H = lopx P T (.extract x f) fr H := rfl
@[simp ↓] theorem loud_extract {f : Nat} : loudOp L (.extract x f) = false := rfl
@[simp ↓] theorem lmixx_build {ps : Array (Nat × Operand)} : lmixx P T (.build t ps) fr H0 H = lopx P T (.build t ps) fr H := rfl
@[simp ↓] theorem loud_build {ps : Array (Nat × Operand)} : loudOp L (.build t ps) = false := rfl
@[simp ↓] theorem lmixx_buildSlice {f : Nat} {ps : Array (Nat × Operand)} : lmixx P T (.buildSlice t f ps) fr H0 H = lopx P T (.buildSlice t f ps) fr H := rfl
@[simp ↓] theorem loud_buildSlice {f : Nat} {ps : Array (Nat × Operand)} : loudOp L (.buildSlice t f ps) = false := rfl
@[simp ↓] theorem lmixx_binOp {op : BinOp} : lmixx P T (.binOp op t x y s) fr H0 H = lopx P T (.binOp op t x y s) fr H := rfl
@[simp ↓] theorem loud_binOp {op : BinOp} : loudOp L (.binOp op t x y s) = false := rfl
@[simp ↓] theorem lmixx_unOp {uop : UnOp} : lmixx P T (.unOp uop t x) fr H0 H = lopx P T (.unOp uop t x) fr H := rfl
@[simp ↓] theorem loud_unOp {uop : UnOp} : loudOp L (.unOp uop t x) = false := rfl
@[simp ↓] theorem lmixx_convert : lmixx P T (.convert s t x) fr H0 H = lopx P T (.convert s t x) fr H := rfl
@[simp ↓] theorem loud_convert : loudOp L (.convert s t x) = false := rfl
@[simp ↓] theorem lmixx_index : lmixx P T (.index t x i) fr H0 H = lopx P T (.index t x i) fr H := rfl
@[simp ↓] theorem loud_index : loudOp L (.index t x i) = false := rfl
@[simp ↓] theorem lmixx_makeFunc {g : Fn} {c1 c2 : Array Operand} : lmixx P T (.makeFunc g c1 c2) fr H0 H = lopx P T (.makeFunc g c1 c2) fr H := rfl
@[simp ↓] theorem loud_makeFunc {g : Fn} {c1 c2 : Array Operand} : loudOp L (.makeFunc g c1 c2) = false := rfl
@[simp ↓] theorem loud_store : loudOp L (.store t x y) = true := rfl
@[simp ↓] theorem loud_append {args : Array Operand} {ts : Array TypeId} : loudOp L (.call ⟨.builtin .append, args, ts⟩) = true := rfl
@[simp ↓] theorem loud_len {args : Array Operand} {ts : Array TypeId} : loudOp L (.call ⟨.builtin .len, args, ts⟩) = false := rfl
@[simp ↓] theorem loud_min {args : Array Operand} {ts : Array TypeId} : loudOp L (.call ⟨.builtin .min, args, ts⟩) = false := rfl
@[simp ↓] theorem loud_max {args : Array Operand} {ts : Array TypeId} : loudOp L (.call ⟨.builtin .max, args, ts⟩) = false := rfl
@[simp ↓] theorem loud_call {g : FuncId} {args : Array Operand} {ts : Array TypeId} : loudOp L (.call ⟨.value (.func g), args, ts⟩) = L g := rfl
@[simp ↓] theorem loud_callt {g : Tmp} {args : Array Operand} {ts : Array TypeId} : loudOp L (.call ⟨.value (.tmp g), args, ts⟩) = false := rfl
def sameH (x : Option (Value × LH)) (H : LH) : Option (Value × LH) := x.map fun r => (r.1, H)
@[simp] theorem sameH_some {v : Value} {H1 : LH} : sameH (some (v, H1)) H = some (v, H) := rfl
@[simp] theorem sameH_none : sameH none H = none := rfl
@[simp ↓] theorem lmixx_len {args : List Operand} {ts : List TypeId} : lmixx P T (.call ⟨.builtin .len, ⟨args⟩, ⟨ts⟩⟩) fr H0 H = sameH (lbuiltin P .len ts (args.map (ev fr)) H) H := rfl
@[simp ↓] theorem lmixx_min {args : List Operand} {ts : List TypeId} : lmixx P T (.call ⟨.builtin .min, ⟨args⟩, ⟨ts⟩⟩) fr H0 H = sameH (lbuiltin P .min ts (args.map (ev fr)) H) H := rfl
@[simp ↓] theorem lmixx_max {args : List Operand} {ts : List TypeId} : lmixx P T (.call ⟨.builtin .max, ⟨args⟩, ⟨ts⟩⟩) fr H0 H = sameH (lbuiltin P .max ts (args.map (ev fr)) H) H := rfl
/-- a call in an open order: of numbers and texts, or ahead of all new blocks -/
def mcall (b : Bool) (x : Option (Value × LH)) (H : LH) : Option (Value × LH) := match b, x with | true, some (v, _) => if flatB v then some (v, H) else none | _, _ => none
@[simp] theorem mcall_some {v : Value} {H1 : LH} (h : flatB v = true) : mcall true (some (v, H1)) H = some (v, H) := by simp [mcall, h]
@[simp] theorem mcall_none {b : Bool} : mcall b none H = none := by cases b <;> rfl
@[congr] theorem mcall_congr {b b' : Bool} {x x' : Option (Value × LH)} (h1 : b = b') (h2 : x = x') : mcall b x H = mcall b' x' H := by rw [h1, h2]
def flatL : List Value → Bool
  | [] => true
  | v :: l => flatB v && flatL l
@[simp] theorem flatL_nil : flatL [] = true := rfl
@[simp] theorem flatL_cons {v : Value} {l : List Value} : flatL (v :: l) = (flatB v && flatL l) := rfl
theorem flatL_eq : ∀ l : List Value, l.all flatB = flatL l
  | [] => rfl
  | v :: l => by simp only [List.all_cons, flatL, flatL_eq l]
def lowH (H0 H : LH) (f : Value) (args : List Value) : Bool := H.n == H0.n || (flatB f && flatL args)
@[simp] theorem lowH_same {f : Value} {args : List Value} : lowH H H f args = true := by simp [lowH]
@[simp] theorem lowH_flat {f : Value} {args : List Value} (h1 : flatB f = true) (h2 : flatL args = true) : lowH H0 H f args = true := by simp [lowH, h1, h2]
@[simp] theorem flat_fn {g : FuncId} : flatB (.func (.func g) #[] #[]) = true := rfl
@[simp ↓] theorem lmixx_call {f : Operand} {args : List Operand} {ts : Array TypeId} : lmixx P T (.call ⟨.value f, ⟨args⟩, ts⟩) fr H0 H = mcall (lowH H0 H (ev fr f) (args.map (ev fr))) (lcallee P T (ev fr f) (args.map (ev fr)) H0.ro) H := by
  show (if (H.n == H0.n || (flatB (ev fr f) && (args.map (ev fr)).all flatB)) = true then (match lcallee P T (ev fr f) (args.map (ev fr)) H0.ro with | some (v, _) => if flatB v then some v else none | none => none).map (fun v => (v, H)) else none) = _
  rw [flatL_eq]
  unfold lowH mcall
  cases (H.n == H0.n || (flatB (ev fr f) && flatL (args.map (ev fr)))) with
  | false => rfl
  | true =>
    rw [if_pos rfl]
    cases lcallee P T (ev fr f) (args.map (ev fr)) H0.ro with
    | none => rfl
    | some x =>
      obtain ⟨v, H1⟩ := x
      simp only
      split <;> rfl
end
end Go.Lg
/-
  A logical run of Go code: more rules.
-/
set_option linter.unusedSimpArgs false
set_option linter.unusedVariables false
namespace Go.Lg
open Go.Tg Go.RowKit
section
variable {P : Program} {H : LH} {t : TypeId} {a b : Bool}
theorem pureVal_equal_b (hu : P.underlying t = some .bool) : pureVal P (Op.equal t (.bool a) (.bool b)) = some (a == b) := by
  unfold Op.equal
  show pureVal P (Op.equalIn (9999 + 1) t (.bool a) (.bool b)) = _
  unfold Op.equalIn
  simp only [pureVal_bind, pureVal_und, hu, Option.bind_some, pureVal_pure]
@[simp] theorem lbin_beq (hu : P.underlying t = some .bool) : lbin P .eql t (.bool a) (.bool b) = some (.bool (a == b)) := lbin_bb (by simp only [binOp, pureVal_bind, pureVal_equal_b hu, Option.bind_some, pureVal_pure]) rfl
@[simp] theorem lbin_bne (hu : P.underlying t = some .bool) : lbin P .neq t (.bool a) (.bool b) = some (.bool (a != b)) := lbin_bb (by simp only [binOp, pureVal_bind, pureVal_equal_b hu, Option.bind_some, pureVal_pure]; rfl) rfl
@[simp ↓] theorem ev_str0 {fr : Fr} : ev fr (.const (.string ⟨#[]⟩)) = str [] := rfl
@[simp ↓] theorem ev_str1 {fr : Fr} : ev fr (.const (.string ByteArray.empty)) = str [] := rfl
@[simp] theorem ev_strc {fr : Fr} {l : List UInt8} : ev fr (.const (str l)) = str l := by
  show (if flatB (str l) then str l else unk) = _
  rw [if_pos flat_str]
@[simp] theorem get_new_eq {H : LH} {b : LB} {l : Nat} (h : l = H.n) : (H.new b).get l = some b := by subst h; exact get_new
@[simp] theorem new_set_eq {H : LH} {b c : LB} {l : Nat} (h : l = H.n) : (H.new b).set l c = H.new c := by subst h; exact new_set
@[simp ↓] theorem lopx_makeSlice {T : Callee} {fr : Fr} {x y : Operand} : lopx P T (.makeSlice t x y) fr H = lmake P t (ev fr x) (ev fr y) H := rfl
@[simp] theorem lmake_one {e : TypeId} {z : Value} {l c : Int} {k k' : IntKind} (hu : P.underlying t = some (.slice e)) (hs : lesz P e = some 1) (hz : zr P e = some z) (hf : flatB z = true) (hc : cellB z = true) (h0 : 0 ≤ l) (h1 : l ≤ c) (h2 : c ≤ 1048576) :
    lmake P t (.int k l) (.int k' c) H = some (.slice (some ⟨H.n, 0, none⟩) l.toNat c.toNat, H.new ⟨List.replicate c.toNat z, e, true⟩) := by
  unfold lesz at hs
  unfold zr at hz
  unfold lmake
  simp only [hu]
  cases hi : P.info? e with
  | none => simp [hi] at hs
  | some i =>
    simp only [hi, Option.bind_some] at hs hz
    rw [hz] at hs
    simp only at hs
    split at hs
    · rename_i hh
      simp only [Option.some.injEq] at hs
      simp only [hz]
      have hcs : z.cells = #[z] := cells_one hc
      rw [if_pos (by
        simp only [Bool.and_eq_true, decide_eq_true_eq, beq_iff_eq]
        refine ⟨⟨⟨⟨⟨⟨hf, by omega⟩, h0⟩, h1⟩, by rw [hs]; omega⟩, hh.2.2⟩, by rw [hcs, hs]; rfl⟩)]
      congr 3
      rw [hcs, hs, Nat.mul_one]
      congr 1
      apply List.ext_getElem
      · simp
      · intro i h1 h2
        simp [Nat.mod_one]
    · cases hs
end
end Go.Lg
/-
  A logical run of Go code: what an object's method may turn: the object's block, the block of its row, new blocks.
-/
set_option linter.unusedSimpArgs false
set_option linter.unusedVariables false
namespace Go.Lg
open Go.Tg Go.RowKit

/-- from the heap H, where the object p has the row v, to the heap H', where it has the row v' -/
structure Kp (p : Nat) (v : Value) (H : LH) (v' : Value) (H' : LH) : Prop where
  n : H.n ≤ H'.n
  keep : ∀ k, k < H.n → k ≠ p → offRow v k → H'.get k = H.get k
  off : ∀ k, k < H.n → k ≠ p → offRow v k → offRow v' k
  base : H'.base = H.base
  ng : H'.ng = H.ng
section
variable {p : Nat} {v v' v1 : Value} {H H' H1 : LH} {B : LB}
theorem Kp.refl : Kp p v H v H := ⟨Nat.le_refl _, fun _ _ _ _ => rfl, fun _ _ _ h => h, rfl, rfl⟩
theorem Kp.trans (h : Kp p v H v1 H1) (k : Kp p v1 H1 v' H') : Kp p v H v' H' :=
  ⟨Nat.le_trans h.n k.n, fun l hl hp ho => (k.keep l (Nat.lt_of_lt_of_le hl h.n) hp (h.off l hl hp ho)).trans (h.keep l hl hp ho),
    fun l hl hp ho => k.off l (Nat.lt_of_lt_of_le hl h.n) hp (h.off l hl hp ho), k.base.trans h.base, k.ng.trans h.ng⟩
theorem Kp.set (ho : ∀ k, offRow v k → offRow v' k) : Kp p v H v' (H.set p B) := ⟨Nat.le_refl _, fun _ _ hp _ => get_set_ne hp, fun k _ _ h => ho k h, rfl, rfl⟩
theorem Kp.new : Kp p v H v (H.new B) := ⟨Nat.le_succ _, fun _ hl _ _ => get_new_ne (by omega), fun _ _ _ h => h, rfl, rfl⟩
/-- what was there ahead of the object -/
theorem Kp.le (h : Kp p v H1 v' H') (hn : H.n ≤ H1.n) (hp : H.n ≤ p) (hv : ∀ k, k < H.n → offRow v k) (hg : ∀ k, k < H.n → H1.get k = H.get k) : H.le H' :=
  ⟨Nat.le_trans hn h.n, fun l hl => (h.keep l (by omega) (by omega) (hv l hl)).trans (hg l hl)⟩
end
end Go.Lg
/-
  The machine of layer 28 (jscript): where it lies.
-/
set_option linter.unusedSimpArgs false
set_option linter.unusedVariables false
namespace Go.Proofs.YtgnefbngkhjfcaaGreatDoor
open Go.Lg Tg.Js

/-- the machine m lies in the block p -/
structure At (p : Nat) (H : LH) (m : M) (v : Value) : Prop where
  get : H.get p = some (mb m v)
  lt : p < H.n
  row : Row 0 H 5 v (m.stack.map bv)
  dom : ∀ l, H.n ≤ l → H.get l = none
  len : (m.stack.length : Int) ≤ (m.depth : Int)
  depth : (m.depth : Int) ≤ 200
structure Post (p : Nat) (H : LH) (m : M) (H' : LH) : Prop where
  at_ : ∃ v, At p H' m v
  fr : ∀ m0 v0 v, At p H m0 v0 → At p H' m v → Kp p v0 H v H'
section
variable {p : Nat} {H H' H1 : LH} {m m' m1 : M} {v v' : Value} {b : UInt8}
theorem mb_inj (h : mb m v = mb m' v') : v = v' := by
  have := congrArg LB.cells h
  simp only [mb, mc, List.cons.injEq] at this
  exact this.2.1
theorem At.same (h : At p H m v) (k : At p H m' v') : v = v' := by
  have h1 := h.get
  rw [k.get] at h1
  injection h1 with h1
  exact (mb_inj h1).symm
theorem At.off (h : At p H m v) : offRow v p := h.row.off_of_elem h.get (by show (67 : Nat) ≠ 5; decide)
theorem Post.trans (h : Post p H m1 H1) (k : Post p H1 m' H') : Post p H m' H' := by
  obtain ⟨v1, a1⟩ := h.at_
  exact ⟨k.at_, fun m0 v0 v a0 a => (h.fr m0 v0 v1 a0 a1).trans (k.fr _ v1 v a1 a)⟩
theorem At.mk_post (h : At p H m v) (k : At p H' m' v') (hk : Kp p v H v' H') : Post p H m' H' :=
  ⟨⟨v', k⟩, fun m0 v0 v2 a0 a => by rw [a0.same h, a.same k]; exact hk⟩
theorem At.post (h : At p H m v) : Post p H m H := h.mk_post h Kp.refl
/-- fields are written, the stack stays -/
theorem At.set (h : At p H m v) (hs : m'.stack = m.stack) (hd : m'.depth = m.depth) : At p (H.set p (mb m' v)) m' v := by
  refine ⟨get_set, h.lt, ?_, fun l hl => ?_, by rw [hs, hd]; exact h.len, by rw [hd]; exact h.depth⟩
  · rw [hs]
    exact h.row.keep (fun k hk hn => get_set_ne (fun e => hn (e ▸ h.off)))
  · rw [get_set_ne (fun e => by have := h.lt; have : H.n ≤ l := hl; omega)]; exact h.dom l hl
theorem At.setPost (h : At p H m v) (hs : m'.stack = m.stack) (hd : m'.depth = m.depth) : Post p H m' (H.set p (mb m' v)) := h.mk_post (h.set hs hd) (Kp.set (fun _ h => h))
theorem At.row_lt (h : At p H m v) {k : Nat} (hn : ¬ offRow v k) : k < H.n := by
  rcases h.row with ⟨rfl, _⟩ | ⟨k', c, rest, rfl, g1, g2, g3⟩
  · exact absurd off_nil hn
  · have : k = k' := by
      refine Classical.byContradiction (fun hne => hn (fun n c' hx => ?_))
      injection hx with hx
      injection hx with hx
      injection hx with hx
      omega
    subst this
    rcases Nat.lt_or_ge k H.n with h1 | h'
    · exact h1
    · rw [h.dom k h'] at g2; cases g2
theorem At.row_off (h : At p H m v) {k : Nat} {B : LB} (hk : H.get k = some B) (hne : B.elem ≠ 5) : offRow v k := h.row.off_of_elem hk hne
/-- a method that hands something back -/
theorem meth_exv {u : Value} {f : FuncId} {fn : Func} {c : Code} {args : List Value} (he : EJ f = none) (hf : Tryz.prog.funcs[f]? = some fn) (hb : fn.body = some c) (hN : args.length ≤ fn.ntmps) (hname : fn.name ≠ "runtime.NumGoroutine") (hcd : codeOk EJ.loud c = true)
    (h : At p H m v) (hr : Runs Tryz.prog EJ fn [.code c] (enter args) H (fun r => r.1 = u ∧ Post p H m' r.2)) : ∃ H', LC Tryz.prog EJ f args H = some (u, H') ∧ Post p H m' H' := by
  obtain ⟨⟨u', H'⟩, hl, hu, hp⟩ := LC_runs he hf hb hN hname hcd hr
  simp only at hu
  subst hu
  rcases trunc_or u' H H' with e | ⟨e, _, hle⟩
  · exact ⟨H', by rw [hl, e], hp⟩
  · refine ⟨H, by rw [hl, e], ?_⟩
    obtain ⟨⟨v', ha⟩, _⟩ := hp
    have hg := ha.get
    rw [hle.2 p h.lt, h.get] at hg
    injection hg with hg
    have hv := mb_inj hg
    subst hv
    refine h.mk_post ⟨by rw [h.get, hg], h.lt, ?_, h.dom, ha.len, ha.depth⟩ Kp.refl
    exact ha.row.keep (fun k hk hn => (hle.2 k (h.row_lt hn)).symm)
theorem meth_ex {f : FuncId} {fn : Func} {c : Code} {args : List Value} (he : EJ f = none) (hf : Tryz.prog.funcs[f]? = some fn) (hb : fn.body = some c) (hN : args.length ≤ fn.ntmps) (hname : fn.name ≠ "runtime.NumGoroutine") (hcd : codeOk EJ.loud c = true)
    (h : At p H m v) (hr : Runs Tryz.prog EJ fn [.code c] (enter args) H (fun r => r.1 = .tuple #[] ∧ Post p H m' r.2)) : ∃ H', LC Tryz.prog EJ f args H = some (.tuple #[], H') ∧ Post p H m' H' := meth_exv he hf hb hN hname hcd h hr
theorem At.keep (h : At p H m v) (hn : H.n ≤ H'.n) (hk : ∀ k, k < H.n → (k = p ∨ ¬ offRow v k) → H'.get k = H.get k) (hd : ∀ l, H'.n ≤ l → H'.get l = none) : At p H' m v := by
  refine ⟨by rw [hk p h.lt (.inl rfl)]; exact h.get, Nat.lt_of_lt_of_le h.lt hn, ?_, hd, h.len, h.depth⟩
  exact h.row.keep (fun k hk1 hn1 => hk k (h.row_lt hn1) (.inr hn1))
theorem At.new (h : At p H m v) {B : LB} : At p (H.new B) m v :=
  h.keep (Nat.le_succ _) (fun k hk _ => get_new_ne (by omega)) (fun l hl => by have hl' : H.n + 1 ≤ l := hl; rw [get_new_ne (by omega)]; exact h.dom l (by omega))
theorem At.newPost {B : LB} (h : At p H m v) (s1 : m1.stack = m.stack) (d1 : m1.depth = m.depth) (g1 : m'.stack = m.stack) (g2 : m'.depth = m.depth) : Post p H m' (((H.set p (mb m1 v)).new B).set p (mb m' v)) :=
  h.mk_post (((h.set s1 d1).new (B := B)).set (m' := m') (g1.trans s1.symm) (g2.trans d1.symm)) (((Kp.set (fun _ h => h)).trans Kp.new).trans (Kp.set (fun _ h => h)))
theorem At.newPost' {B : LB} (h : At p H m v) (g1 : m'.stack = m.stack) (g2 : m'.depth = m.depth) : Post p H m' ((H.new B).set p (mb m' v)) :=
  h.mk_post ((h.new (B := B)).set (m' := m') g1 g2) (Kp.new.trans (Kp.set (fun _ h => h)))
/-- one byte more on the stack -/
theorem At.pushed (h : At p H m v) (hc : (m.stack.length : Int) < (m.depth : Int)) : ∃ v' H', lapp Tryz.prog 63 v (some (1, [.int .u8 b.toNat])) (H.new ⟨[.int .u8 b.toNat], 5, true⟩) = some (v', H') ∧ cellB v' = true ∧ H'.get p = some (mb m v) ∧ p < H'.n ∧
    ∀ m'' : M, m''.stack = m.stack ++ [b] → m''.depth = m.depth → Post p H m'' (H'.set p (mb m'' v')) := by
  have h1 := h.new (B := ⟨[.int .u8 b.toNat], 5, true⟩)
  have hdep := h.depth
  obtain ⟨v', H', e1, e2, e3, e4, e5, e6, e7, e8⟩ := Row.push (P := Tryz.prog) (x := .int .u8 b.toNat) h1.row Tryz.underlying63 lesz5 (by simp) (by simp [maxElems]; omega) (Nat.zero_le _) h1.dom
  have hg' : H'.get p = some (mb m v) := by rw [e4 p h1.lt h1.off]; exact h1.get
  have hp' : p < H'.n := Nat.lt_of_lt_of_le h1.lt e3
  refine ⟨v', H', e1, e2.cell, hg', hp', fun m'' g1 g2 => ?_⟩
  have hoff : ∀ k, k < H.n + 1 → offRow v k → offRow v' k := fun k hk ho => e5 k hk ho
  have ha : At p (H'.set p (mb m'' v')) m'' v' := by
    refine ⟨get_set, hp', ?_, fun l hl => ?_, by rw [g1, g2]; simp; omega, by rw [g2]; exact h.depth⟩
    · have := e2.keep (H' := H'.set p (mb m'' v')) (fun k hk hn => get_set_ne (fun e => hn (e ▸ e5 p h1.lt h1.off)))
      rw [g1]
      simpa [bv] using this
    · rw [get_set_ne (fun e => by have : H'.n ≤ l := hl; omega)]; exact e6 l hl
  refine h.mk_post ha ⟨by have : H.n + 1 ≤ H'.n := e3; show H.n ≤ H'.n; omega, fun k hk hkp ho => ?_, fun k hk _ ho => hoff k (by omega) ho, e7, e8⟩
  rw [get_set_ne hkp, e4 k (by show k < H.n + 1; omega) ho, get_new_ne (by omega)]
/-- the last byte of the stack -/
theorem At.last (h : At p H m v) {xs : List UInt8} {t : UInt8} (hs : m.stack = xs ++ [t]) : IntKind.i64.wrap ((m.stack.length : Int) - 1) = xs.length ∧
    (∀ H', ∃ q, lixa Tryz.prog 63 v (.int .i64 xs.length) H' = some (q, H') ∧ lld Tryz.prog 5 q H = some (.int .u8 t.toNat)) ∧
    ∃ v', lpart Tryz.prog 63 v none (some (.int .i64 xs.length)) = some v' ∧ cellB v' = true ∧ ∀ m'' : M, m''.stack = xs → m''.depth = m.depth → ∀ m2 : M, Post p H m'' (H.set p (mb m'' v')) := by
  have hlen := h.len
  have hdep := h.depth
  have hx : (m.stack.map bv).length = xs.length + 1 := by simp [hs]
  have hl2 : m.stack.length = xs.length + 1 := by simp [hs]
  obtain ⟨v', e1, e2, e3⟩ := Row.take (P := Tryz.prog) (kd := .i64) (j := xs.length) h.row Tryz.underlying63 sz5 (by omega) (by omega)
  have hgd : (m.stack.map bv).getD (xs.length : Int).toNat Value.nilFunc = .int .u8 t.toNat := by simp [hs, bv]
  refine ⟨by rw [wrap64_in (by omega) (by omega)]; omega, fun H' => ?_, v', e1, e2.cell, fun m'' g1 g2 _ => ?_⟩
  · obtain ⟨q, f1, f2⟩ := Row.at (P := Tryz.prog) (H' := H') (kd := .i64) (j := xs.length) (d := .nilFunc) h.row Tryz.underlying63 sz5 agg5 (by omega) (by omega)
    rw [hgd] at f2
    exact ⟨q, f1, f2⟩
  · have htk : (m.stack.map bv).take (xs.length : Int).toNat = xs.map bv := by simp [hs]
    rw [htk] at e2
    refine h.mk_post (v' := v') ⟨get_set, h.lt, ?_, fun l hl => ?_, by rw [g1, g2]; omega, by rw [g2]; exact hdep⟩ (Kp.set e3)
    · rw [g1]
      exact e2.keep (fun k hk hn => get_set_ne (fun e => hn (e ▸ e3 p h.off)))
    · rw [get_set_ne (fun e => by have hh : H.n ≤ l := hl; have := h.lt; omega)]; exact h.dom l hl
end
end Go.Proofs.YtgnefbngkhjfcaaGreatDoor
/-
  The machine of layer 28 (jscript): its stack.
-/
set_option linter.unusedSimpArgs false
set_option linter.unusedVariables false
namespace Go.Proofs.YtgnefbngkhjfcaaGreatDoor
open Go.Lg Tg.Js

section
variable {p : Nat} {H H' H1 : LH} {m m' m1 : M} {v v' : Value} {b : UInt8}
theorem fail_ex (h : At p H m v) : Post p H m.fail (H.set p (mb m.fail v)) := h.setPost rfl rfl
theorem push_ex (h : At p H m v) : ∃ H', LC Tryz.prog EJ 109 [ptr p 0, .int .u8 b.toNat] H = some (.tuple #[], H') ∧ Post p H (m.push b) H' := by
  refine meth_ex rfl Tryz.func109 rfl (Nat.le_of_ble_eq_true rfl) (by decide) (by kernel_rfl) h ?_
  have hl := fun H' => h.row.len (H' := H') Tryz.underlying63
  have hg := h.get
  have hp := h.lt
  have hlen := h.len
  by_cases hc : (m.stack.length : Int) = m.depth
  · simp +contextual [hg, hl, fail_l hg h.lt, hc]
    unfold M.push
    rw [if_pos hc]
    exact h.setPost rfl rfl
  · obtain ⟨v', H', e1, hc', hg', hp', key⟩ := h.pushed (b := b) (by omega)
    simp +contextual [hg, hl, hc, e1, hg', hc', hp', ended_s]
    unfold M.push
    rw [if_neg hc]
    exact key _ rfl rfl
set_option maxHeartbeats 4000000 in
theorem pop_ex (h : At p H m v) : ∃ H', LC Tryz.prog EJ 114 [ptr p 0, .int .u8 b.toNat] H = some (.tuple #[], H') ∧ Post p H (m.pop b) H' := by
  refine meth_ex rfl Tryz.func114 rfl (Nat.le_of_ble_eq_true rfl) (by decide) (by kernel_rfl) h ?_
  have hl := fun H' => h.row.len (H' := H') Tryz.underlying63
  have hg := h.get
  have hp := h.lt
  have hlen := h.len
  have hdep := h.depth
  rcases List.eq_nil_or_concat m.stack with hs | ⟨xs, t, hs⟩
  · simp (config := { maxSteps := 4000000 }) +contextual [hg, hl, hs, fail_l hg h.lt]
    simpa [M.pop, hs] using fail_ex h
  · rw [List.concat_eq_append] at hs
    obtain ⟨hw0, hat, v', e1, hcv, key0⟩ := h.last hs
    have key := fun m'' g1 g2 => key0 m'' g1 g2 m
    obtain ⟨q, f1, f2⟩ := hat H
    have hw : IntKind.i64.wrap (xs.length : Int) = xs.length := w64_in (by omega) (by rw [hs] at hlen; simp at hlen; omega)
    have hf := fail_l hg h.lt
    have hpa := fun H => pair_l (H := H) (b := b)
    have hneg : ((xs.length : Int) < 0) = False := eq_false (by omega)
    have hen := fun m l => ended_s (H := H) (m := m) (v := v') (l := l) hp
    have hlast : m.stack.getLast? = some t := by simp [hs]
    have hdrop : m.stack.dropLast = xs := by simp [hs]
    by_cases hb : b = 125
    · have hb' : (b = 125) = True := eq_true hb
      by_cases ht : t = 96
      · have ht' : (t = 96) = True := eq_true ht
        simp (config := { maxSteps := 4000000 }) [hg, hl, hs, hw, e1, f1, f2, hf, hpa, hcv, hen, hp, hneg, hb', ht']
        have hpop : m.pop b = { m with stack := xs, at_ := 4, by_ := 96 } := by simp [M.pop, hlast, hdrop, hb, ht]
        rw [hpop]
        have hk := key ({ m with stack := xs, at_ := 4, by_ := 96 }) rfl rfl
        exact hk
      · have ht' : (t = 96) = False := eq_false ht
        by_cases hq : t = M.pair b
        · have hq' : (t = M.pair b) = True := eq_true hq
          by_cases hx0 : xs = []
          · have hx0' : (xs = []) = True := eq_true hx0
            simp (config := { maxSteps := 4000000 }) [hg, hl, hs, hw, e1, f1, f2, hf, hpa, hcv, hen, hp, hneg, hb', ht', hq', hx0']
            have hq2 : t = M.pair 125 := hb ▸ hq
            have hpop : m.pop b = { ({ m with stack := xs } : M).ended 2 with ends := w64 (m.ends + 1) } := by simp [M.pop, hlast, hdrop, hb, ht', hq2, hs, hx0, M.ended, M.pair]
            rw [hpop]
            have hk := key ({ ({ m with stack := xs } : M).ended 2 with ends := w64 (m.ends + 1) }) rfl rfl
            exact hk
          · simp (config := { maxSteps := 4000000 }) [hg, hl, hs, hw, e1, f1, f2, hf, hpa, hcv, hen, hp, hneg, hb', ht', hq', hx0]
            have hq2 : t = M.pair 125 := hb ▸ hq
            have hpop : m.pop b = ({ m with stack := xs } : M).ended 2 := by simp [M.pop, hlast, hdrop, hb, ht', hq2, hs, hx0, M.ended, M.pair]
            rw [hpop]
            have hk := key (({ m with stack := xs } : M).ended 2) rfl rfl
            exact hk
        · have hq' : (t = M.pair b) = False := eq_false hq
          simp (config := { maxSteps := 4000000 }) [hg, hl, hs, hw, e1, f1, f2, hf, hpa, hcv, hen, hp, hneg, hb', ht', hq']
          have hpop : m.pop b = m.fail := by
            unfold M.pop; rw [hlast]
            simp [ht', hq']
          rw [hpop]
          exact fail_ex h
    · have hb' : (b = 125) = False := eq_false hb
      by_cases hq : t = M.pair b
      · have hq' : (t = M.pair b) = True := eq_true hq
        simp (config := { maxSteps := 4000000 }) [hg, hl, hs, hw, e1, f1, f2, hf, hpa, hcv, hen, hp, hneg, hb', hq']
        have hpop : m.pop b = ({ m with stack := xs } : M).ended 1 := by
          unfold M.pop; rw [hlast]
          simp [hb', hq', hdrop]
        rw [hpop]
        have hk := key (({ m with stack := xs } : M).ended 1) rfl rfl
        exact hk
      · have hq' : (t = M.pair b) = False := eq_false hq
        simp (config := { maxSteps := 4000000 }) [hg, hl, hs, hw, e1, f1, f2, hf, hpa, hcv, hen, hp, hneg, hb', hq']
        have hpop : m.pop b = m.fail := by
          unfold M.pop; rw [hlast]
          simp [hb', hq']
        rw [hpop]
        exact fail_ex h
end
end Go.Proofs.YtgnefbngkhjfcaaGreatDoor
/-
  The machine of layer 28 (jscript): its words.
-/
set_option linter.unusedSimpArgs false
set_option linter.unusedVariables false
set_option maxRecDepth 100000
namespace Go.Proofs.YtgnefbngkhjfcaaGreatDoor
open Go.Lg Tg.Js

section
variable {H : LH} {b : UInt8} {l n : Nat} {B : LB} {xs : List (List UInt8)} {s : List UInt8}
theorem trunc_not {v : Value} {H' : LH} (h : flatB v = false) : trunc H (v, H') = (v, H') := by
  unfold trunc; rw [if_neg (by simp [h])]
theorem kw_lit : kwText = [97, 119, 97, 105, 116, 32, 98, 114, 101, 97, 107, 32, 99, 97, 115, 101, 32, 99, 97, 116, 99, 104, 32, 99, 108, 97, 115, 115, 32, 99, 111, 110, 115, 116, 32, 99, 111, 110, 116, 105, 110, 117, 101, 32, 100, 101, 102, 97, 117, 108, 116, 32, 100, 101, 108, 101, 116, 101, 32, 100, 111, 32, 101, 108, 115, 101, 32, 101, 120, 112, 111, 114, 116, 32, 101, 120, 116, 101, 110, 100, 115, 32, 102, 105, 110, 97, 108, 108, 121, 32, 102, 111, 114, 32, 102, 114, 111, 109, 32, 102, 117, 110, 99, 116, 105, 111, 110, 32, 103, 101, 116, 32, 105, 102, 32, 105, 109, 112, 111, 114, 116, 32, 105, 110, 32, 105, 110, 115, 116, 97, 110, 99, 101, 111, 102, 32, 108, 101, 116, 32, 110, 101, 119, 32, 111, 102, 32, 114, 101, 116, 117, 114, 110, 32, 115, 101, 116, 32, 115, 116, 97, 116, 105, 99, 32, 115, 119, 105, 116, 99, 104, 32, 116, 104, 114, 111, 119, 32, 116, 114, 121, 32, 116, 121, 112, 101, 111, 102, 32, 118, 97, 114, 32, 118, 111, 105, 100, 32, 119, 104, 105, 108, 101, 32, 119, 105, 116, 104, 32, 121, 105, 101, 108, 100, 32, 97, 115, 121, 110, 99, 32, 97, 115] := by decide +kernel
theorem fields_k (ht : Tab H) : LC Tryz.prog EJ 121 [str [97, 119, 97, 105, 116, 32, 98, 114, 101, 97, 107, 32, 99, 97, 115, 101, 32, 99, 97, 116, 99, 104, 32, 99, 108, 97, 115, 115, 32, 99, 111, 110, 115, 116, 32, 99, 111, 110, 116, 105, 110, 117, 101, 32, 100, 101, 102, 97, 117, 108, 116, 32, 100, 101, 108, 101, 116, 101, 32, 100, 111, 32, 101, 108, 115, 101, 32, 101, 120, 112, 111, 114, 116, 32, 101, 120, 116, 101, 110, 100, 115, 32, 102, 105, 110, 97, 108, 108, 121, 32, 102, 111, 114, 32, 102, 114, 111, 109, 32, 102, 117, 110, 99, 116, 105, 111, 110, 32, 103, 101, 116, 32, 105, 102, 32, 105, 109, 112, 111, 114, 116, 32, 105, 110, 32, 105, 110, 115, 116, 97, 110, 99, 101, 111, 102, 32, 108, 101, 116, 32, 110, 101, 119, 32, 111, 102, 32, 114, 101, 116, 117, 114, 110, 32, 115, 101, 116, 32, 115, 116, 97, 116, 105, 99, 32, 115, 119, 105, 116, 99, 104, 32, 116, 104, 114, 111, 119, 32, 116, 114, 121, 32, 116, 121, 112, 101, 111, 102, 32, 118, 97, 114, 32, 118, 111, 105, 100, 32, 119, 104, 105, 108, 101, 32, 119, 105, 116, 104, 32, 121, 105, 101, 108, 100, 32, 97, 115, 121, 110, 99, 32, 97, 115]] H = some (sl H.n 39 39, H.new ⟨keywords.map str, 9, true⟩) := by
  rw [← kw_lit]; exact fields_l ht
theorem keywords_l (ht : Tab H) : LC Tryz.prog EJ 116 [] H = some (sl H.n 39 39, H.new ⟨keywords.map str, 9, true⟩) := by
  obtain ⟨r, h, e⟩ := LC_runs (Q := fun r => r = (sl H.n 39 39, H.new ⟨keywords.map str, 9, true⟩)) (P := Tryz.prog) (E := EJ) (H := H) (args := []) rfl Tryz.func116 rfl (Nat.le_of_ble_eq_true rfl) (by decide) (by kernel_rfl) (by simp [fields_k ht])
  rw [h, e, trunc_not (by simp [flatB, flat1B, atomB])]
/-- where a text stands first among others, from a place on -/
def find (s : List UInt8) : List (List UInt8) → Int → Int
  | [], _ => -1
  | x :: xs, k => if s = x then k else find s xs (k + 1)
theorem index_l (h : H.get l = some B) (hb : B.cells = xs.map str) (hn : xs.length ≤ 1048576) : LC Tryz.prog EJ 120 [sl l xs.length n, str s] H = some (.int .i64 (find s xs 0), H) := by
  refine LC_pure rfl Tryz.func120 rfl (Nat.le_of_ble_eq_true rfl) (by decide) (by kernel_rfl) rfl ?_
  simp +contextual
  refine loop_ind (fun (i : Nat) fr' H' => fr' 0 = sl l xs.length n ∧ fr' 1 = str s ∧ fr' 7 = .int .i64 xs.length ∧ fr' 8 = .int .i64 i ∧ i ≤ xs.length ∧ find s (xs.drop i) i = find s xs 0 ∧ H' = H) (fun i => xs.length - i) 0 (by simp) ?_
  rintro i fr' H' ⟨h0, h1, h7, h8, hi, hh, rfl⟩ ih
  by_cases hlt : i < xs.length
  · obtain ⟨x, hx⟩ : ∃ x, xs[i]? = some x := ⟨_, List.getElem?_eq_getElem hlt⟩
    have hd : xs.drop i = x :: xs.drop (i + 1) := by
      rw [List.drop_eq_getElem_cons hlt]
      rw [List.getElem?_eq_getElem hlt] at hx
      injection hx with hx
      rw [hx]
    have hc : B.cells[i]? = some (str x) := by rw [hb]; simp [hx]
    have hw : IntKind.i64.wrap ((i : Int) + 1) = ((i + 1 : Nat) : Int) := by rw [wrap64_in (by omega) (by omega)]; omega
    rw [hd, find] at hh
    by_cases hs : s = x
    · have hs' : (s = x) = True := eq_true hs
      rw [if_pos hs] at hh
      simp [h0, h1, h7, h8, hlt, h, hc, hs', ← hh]
    · have hs' : (s = x) = False := eq_false hs
      rw [if_neg hs] at hh
      simp [h0, h1, h7, h8, hlt, h, hc, hs', hw]
      exact ih (i + 1) _ _ (by omega) ⟨by simp [h0], by simp [h1], by simp [h7], by simp, hlt, by simpa using hh, rfl⟩
  · have hd : xs.drop i = [] := List.drop_eq_nil_of_le (by omega)
    rw [hd, find] at hh
    simp [h0, h1, h7, h8, hlt, ← hh]
theorem find_mem : ∀ (xs : List (List UInt8)) (k : Int), 0 ≤ k → (0 ≤ find s xs k ↔ s ∈ xs)
  | [], k, h => by simp [find]
  | x :: xs, k, h => by
    unfold find
    by_cases hs : s = x
    · simp [hs, h]
    · rw [if_neg hs, find_mem xs (k + 1) (by omega)]; simp [hs]
theorem contains_l (h : H.get l = some B) (hb : B.cells = xs.map str) (hn : xs.length ≤ 1048576) : LC Tryz.prog EJ 115 [sl l xs.length n, str s] H = some (.bool (xs.contains s), H) := by
  refine LC_pure rfl Tryz.func115 rfl (Nat.le_of_ble_eq_true rfl) (by decide) (by kernel_rfl) rfl ?_
  have hi := index_l (s := s) (n := n) h hb hn
  have := find_mem (s := s) xs 0 (by decide)
  simp [hi, this]
theorem kw_len : keywords.length = 39 := by decide +kernel
theorem isKeyword_l (ht : Tab H) : LC Tryz.prog EJ 107 [str s] H = some (.bool (isKeyword s), H) := by
  refine LC_pure rfl Tryz.func107 rfl (Nat.le_of_ble_eq_true rfl) (by decide) (by kernel_rfl) rfl ?_
  have hk := keywords_l ht
  have hc := contains_l (H := H.new ⟨keywords.map str, 9, true⟩) (l := H.n) (n := 39) (s := s) (xs := keywords) get_new rfl (by rw [kw_len]; decide)
  rw [kw_len] at hc
  simp [hk, hc, isKeyword, le_refl.new]
end
end Go.Proofs.YtgnefbngkhjfcaaGreatDoor
/-
  The machine of layer 28 (jscript): a byte.
-/
set_option linter.unusedSimpArgs false
set_option linter.unusedVariables false
set_option maxRecDepth 100000
namespace Go.Proofs.YtgnefbngkhjfcaaGreatDoor
open Go.Lg Tg.Js

section
variable {p : Nat} {H H' H1 : LH} {m m' m1 : M} {v v' : Value} {b : UInt8}
theorem signs_lit : signs = [123, 125, 40, 41, 91, 93, 59, 44, 60, 62, 61, 33, 43, 45, 42, 47, 37, 38, 124, 94, 126, 63, 58, 46] := by decide +kernel
theorem signs_l : LC Tryz.prog EJ 98 [str [123, 125, 40, 41, 91, 93, 59, 44, 60, 62, 61, 33, 43, 45, 42, 47, 37, 38, 124, 94, 126, 63, 58, 46], .int .u8 b.toNat] H = some (.int .i64 (Lib.indexByte signs b), H) := by
  rw [← signs_lit]; exact indexByte_l
set_option maxHeartbeats 4000000 in
theorem sign_ex (h : At p H m v) : ∃ H', LC Tryz.prog EJ 106 [ptr p 0, .int .u8 b.toNat] H = some (.tuple #[], H') ∧ Post p H (m.sign b) H' := by
  refine meth_ex rfl Tryz.func106 rfl (Nat.le_of_ble_eq_true rfl) (by decide) (by kernel_rfl) h ?_
  have hg := h.get
  have hp := h.lt
  have h1 := h.set (m' := m.piece) rfl rfl
  have hq := h.setPost (m' := m.piece) rfl rfl
  obtain ⟨Hu, eu, pu⟩ := push_ex (b := b) h1
  obtain ⟨Ho, eo, po⟩ := pop_ex (b := b) h1
  have pu' := hq.trans pu
  have po' := hq.trans po
  have hpc := piece_l hg hp
  have hl := fun H' => h.row.len (H' := H') Tryz.underlying63
  have hen := fun m l => ended_s (H := H) (m := m) (v := v) (l := l) hp
  by_cases c1 : b = 40 ∨ b = 91 ∨ b = 123
  · have e : m.sign b = m.piece.push b := by unfold M.sign; rw [if_pos c1]
    rw [e]
    rcases c1 with c | c | c
    · have f40 : (b = 40) = True := eq_true c
      have f91 : (b = 91) = False := eq_false (by rw [c]; decide)
      have f123 : (b = 123) = False := eq_false (by rw [c]; decide)
      have f41 : (b = 41) = False := eq_false (by rw [c]; decide)
      have f93 : (b = 93) = False := eq_false (by rw [c]; decide)
      have f125 : (b = 125) = False := eq_false (by rw [c]; decide)
      have f59 : (b = 59) = False := eq_false (by rw [c]; decide)
      simp (config := { maxSteps := 4000000 }) [hpc, eu, f40, f91, f123, f41, f93, f125, f59, pu']
    · have f40 : (b = 40) = False := eq_false (by rw [c]; decide)
      have f91 : (b = 91) = True := eq_true c
      have f123 : (b = 123) = False := eq_false (by rw [c]; decide)
      have f41 : (b = 41) = False := eq_false (by rw [c]; decide)
      have f93 : (b = 93) = False := eq_false (by rw [c]; decide)
      have f125 : (b = 125) = False := eq_false (by rw [c]; decide)
      have f59 : (b = 59) = False := eq_false (by rw [c]; decide)
      simp (config := { maxSteps := 4000000 }) [hpc, eu, f40, f91, f123, f41, f93, f125, f59, pu']
    · have f40 : (b = 40) = False := eq_false (by rw [c]; decide)
      have f91 : (b = 91) = False := eq_false (by rw [c]; decide)
      have f123 : (b = 123) = True := eq_true c
      have f41 : (b = 41) = False := eq_false (by rw [c]; decide)
      have f93 : (b = 93) = False := eq_false (by rw [c]; decide)
      have f125 : (b = 125) = False := eq_false (by rw [c]; decide)
      have f59 : (b = 59) = False := eq_false (by rw [c]; decide)
      simp (config := { maxSteps := 4000000 }) [hpc, eu, f40, f91, f123, f41, f93, f125, f59, pu']
  · have f40 : (b = 40) = False := eq_false (fun c => c1 (.inl c))
    have f91 : (b = 91) = False := eq_false (fun c => c1 (.inr (.inl c)))
    have f123 : (b = 123) = False := eq_false (fun c => c1 (.inr (.inr c)))
    by_cases c2 : b = 41 ∨ b = 93 ∨ b = 125
    · have e : m.sign b = m.piece.pop b := by unfold M.sign; rw [if_neg c1, if_pos c2]
      rw [e]
      rcases c2 with c | c | c
      · have f40 : (b = 40) = False := eq_false (by rw [c]; decide)
        have f91 : (b = 91) = False := eq_false (by rw [c]; decide)
        have f123 : (b = 123) = False := eq_false (by rw [c]; decide)
        have f41 : (b = 41) = True := eq_true c
        have f93 : (b = 93) = False := eq_false (by rw [c]; decide)
        have f125 : (b = 125) = False := eq_false (by rw [c]; decide)
        have f59 : (b = 59) = False := eq_false (by rw [c]; decide)
        simp (config := { maxSteps := 4000000 }) [hpc, eo, f40, f91, f123, f41, f93, f125, f59, po']
      · have f40 : (b = 40) = False := eq_false (by rw [c]; decide)
        have f91 : (b = 91) = False := eq_false (by rw [c]; decide)
        have f123 : (b = 123) = False := eq_false (by rw [c]; decide)
        have f41 : (b = 41) = False := eq_false (by rw [c]; decide)
        have f93 : (b = 93) = True := eq_true c
        have f125 : (b = 125) = False := eq_false (by rw [c]; decide)
        have f59 : (b = 59) = False := eq_false (by rw [c]; decide)
        simp (config := { maxSteps := 4000000 }) [hpc, eo, f40, f91, f123, f41, f93, f125, f59, po']
      · have f40 : (b = 40) = False := eq_false (by rw [c]; decide)
        have f91 : (b = 91) = False := eq_false (by rw [c]; decide)
        have f123 : (b = 123) = False := eq_false (by rw [c]; decide)
        have f41 : (b = 41) = False := eq_false (by rw [c]; decide)
        have f93 : (b = 93) = False := eq_false (by rw [c]; decide)
        have f125 : (b = 125) = True := eq_true c
        have f59 : (b = 59) = False := eq_false (by rw [c]; decide)
        simp (config := { maxSteps := 4000000 }) [hpc, eo, f40, f91, f123, f41, f93, f125, f59, po']
    · have f41 : (b = 41) = False := eq_false (fun c => c2 (.inl c))
      have f93 : (b = 93) = False := eq_false (fun c => c2 (.inr (.inl c)))
      have f125 : (b = 125) = False := eq_false (fun c => c2 (.inr (.inr c)))
      have en := fun m'' g1 g2 => h.setPost (m' := m'') g1 g2
      by_cases c3 : b = 59
      · have f59 := eq_true c3
        by_cases c4 : m.stack = []
        · have e8 : (m.stack = []) = True := eq_true c4
          simp (config := { maxSteps := 4000000 }) [hpc, hl, hen, hp, f40, f91, f123, f41, f93, f125, f59, e8]
          have e : m.sign b = { m.piece.ended 0 with ends := w64 (m.ends + 1) } := by
            unfold M.sign; rw [if_neg c1, if_neg c2, if_pos c3]
            simp [M.ended, M.piece, c4]
          rw [e]
          have hk := en { m.piece.ended 0 with ends := w64 (m.ends + 1) } rfl rfl
          exact hk
        · have e8 : (m.stack = []) = False := eq_false c4
          simp (config := { maxSteps := 4000000 }) [hpc, hl, hen, hp, f40, f91, f123, f41, f93, f125, f59, e8]
          have e : m.sign b = m.piece.ended 0 := by
            unfold M.sign; rw [if_neg c1, if_neg c2, if_pos c3]
            simp [M.ended, M.piece, c4]
          rw [e]
          exact en (m.piece.ended 0) rfl rfl
      · have f59 := eq_false c3
        simp (config := { maxSteps := 4000000 }) [hpc, hl, hen, hp, f40, f91, f123, f41, f93, f125, f59]
        have e : m.sign b = m.piece.ended 0 := by
          unfold M.sign; rw [if_neg c1, if_neg c2, if_neg c3]
        rw [e]
        exact en (m.piece.ended 0) rfl rfl
theorem conv_b {H0 : LH} : lconv Tryz.prog 63 9 (sl H0.n 1 1) (H0.new ⟨[.int .u8 b.toNat], 5, true⟩) = some (str [b]) :=
  lconv_bs (e := 5) Tryz.underlying63 Tryz.underlying9 Tryz.underlying5 get_new (by simp) (by simp)
theorem idx_mem : ∀ (l : List UInt8) (c : UInt8), 0 ≤ Lib.indexByte l c ↔ c ∈ l
  | [], c => by simp [Lib.indexByte]
  | x :: l, c => by
    have ih := idx_mem l c
    have hge := Lib.indexByte_ge l c
    unfold Lib.indexByte
    by_cases hx : x = c
    · simp [hx]
    · have hx1 : (x == c) = false := by simp [hx]
      have hx2 : ¬ c = x := fun e => hx e.symm
      rw [hx1]
      simp only [Bool.false_eq_true, if_false, List.mem_cons, hx2, false_or]
      by_cases h1 : Lib.indexByte l c = -1
      · simp [h1] at ih ⊢; exact ih
      · have : (Lib.indexByte l c == -1) = false := by simp [h1]
        rw [this]
        simp only [Bool.false_eq_true, if_false]
        rw [← ih]; omega
set_option maxHeartbeats 4000000 in
theorem begin_ex (h : At p H m v) : ∃ H', LC Tryz.prog EJ 78 [ptr p 0, .int .u8 b.toNat] H = some (.tuple #[], H') ∧ Post p H (m.begin b) H' := by
  refine meth_ex rfl Tryz.func78 rfl (Nat.le_of_ble_eq_true rfl) (by decide) (by kernel_rfl) h ?_
  have hg := h.get
  have hp := h.lt
  have hne : (p = H.n) = False := eq_false (by omega)
  have hpc := piece_l hg hp
  have hfl := fail_l hg hp
  have hjo := joined_l hg
  have en := fun m'' g1 g2 => h.setPost (m' := m'') g1 g2
  obtain ⟨Hs, es, ps⟩ := sign_ex (b := b) h
  have hf := fun H => feed_l (H := H) (b := b)
  have hw := fun H => white_l (H := H) (b := b)
  have hi := fun H => inner_l (H := H) (b := b)
  have hd := fun H => digit_l (H := H) (b := b)
  have hcb : ∀ B, lconv Tryz.prog 63 9 (sl H.n 1 1) ((H.set p B).new ⟨[.int .u8 b.toNat], 5, true⟩) = some (str [b]) := fun B => conv_b (H0 := H.set p B)
  have hgn : ∀ A B, ((H.set p A).new B).get p = some A := fun A B => by rw [get_new_ne (by show p ≠ H.n; omega), get_set]
  by_cases c1 : feedB b = true
  · simp (config := { maxSteps := 4000000 }) [hf, c1, hg, hp]
    have e : m.begin b = { m with broken := true } := by unfold M.begin; rw [if_pos c1]
    rw [e]; exact en { m with broken := true } rfl rfl
  rw [Bool.not_eq_true] at c1
  by_cases c2 : white b = true
  · simp (config := { maxSteps := 4000000 }) [hf, hw, c1, c2, hg, hp]
    have e : m.begin b = m := by unfold M.begin; simp [c1, c2]
    rw [e]; exact h.post
  rw [Bool.not_eq_true] at c2
  by_cases c3 : inner b = true
  · by_cases c4 : m.joined = true
    · simp (config := { maxSteps := 4000000 }) [hf, hw, hi, hjo, hfl, c1, c2, c3, c4, hg, hp]
      have e : m.begin b = m.fail := by unfold M.begin; simp [c1, c2, c3, c4]
      rw [e]; exact en m.fail rfl rfl
    · rw [Bool.not_eq_true] at c4
      by_cases c5 : digit b = true
      · simp (config := { maxSteps := 4000000 }) [hf, hw, hi, hd, hjo, hpc, hcb, c1, c2, c3, c4, c5, hg, hp, hgn]
        have e : m.begin b = { m.piece with at_ := 2, said := [b] } := by unfold M.begin; simp [c1, c2, c3, c4, c5]
        rw [e]; exact h.newPost (m1 := m.piece) (m' := { m.piece with at_ := 2, said := [b] }) rfl rfl rfl rfl
      · rw [Bool.not_eq_true] at c5
        simp (config := { maxSteps := 4000000 }) [hf, hw, hi, hd, hjo, hpc, hcb, c1, c2, c3, c4, c5, hg, hp, hgn]
        have e : m.begin b = { m.piece with at_ := 1, said := [b] } := by unfold M.begin; simp [c1, c2, c3, c4, c5]
        rw [e]; exact h.newPost (m1 := m.piece) (m' := { m.piece with at_ := 1, said := [b] }) rfl rfl rfl rfl
  rw [Bool.not_eq_true] at c3
  by_cases c34 : b = 34 ∨ b = 39
  · have e : m.begin b = if m.joined then m.fail else { m.piece with at_ := 3, by_ := b } := by unfold M.begin; simp [c1, c2, c3, c34]
    rw [e]
    by_cases c4 : m.joined = true
    · rw [if_pos c4]
      rcases c34 with c | c
      · have f34 : (b = 34) = True := eq_true c
        simp (config := { maxSteps := 4000000 }) [hf, hw, hi, hjo, hfl, hpc, c1, c2, c3, hg, hp, c4, f34]
        exact en m.fail rfl rfl
      · have f34 : (b = 34) = False := eq_false (by rw [c]; decide)
        have f39 : (b = 39) = True := eq_true c
        simp (config := { maxSteps := 4000000 }) [hf, hw, hi, hjo, hfl, hpc, c1, c2, c3, hg, hp, c4, f34, f39]
        exact en m.fail rfl rfl
    · rw [if_neg c4]
      rw [Bool.not_eq_true] at c4
      rcases c34 with c | c
      · have f34 : (b = 34) = True := eq_true c
        simp (config := { maxSteps := 4000000 }) [hf, hw, hi, hjo, hfl, hpc, c1, c2, c3, hg, hp, c4, f34]
        exact en { m.piece with at_ := 3, by_ := b } rfl rfl
      · have f34 : (b = 34) = False := eq_false (by rw [c]; decide)
        have f39 : (b = 39) = True := eq_true c
        simp (config := { maxSteps := 4000000 }) [hf, hw, hi, hjo, hfl, hpc, c1, c2, c3, hg, hp, c4, f34, f39]
        exact en { m.piece with at_ := 3, by_ := b } rfl rfl
  have f34 : (b = 34) = False := eq_false (fun c => c34 (.inl c))
  have f39 : (b = 39) = False := eq_false (fun c => c34 (.inr c))
  by_cases c96 : b = 96
  · have f96 := eq_true c96
    simp (config := { maxSteps := 4000000 }) [hf, hw, hi, hjo, hfl, hpc, c1, c2, c3, hg, hp, f34, f39, f96]
    have e : m.begin b = { m.piece with at_ := 4, by_ := b } := by unfold M.begin; simp [c1, c2, c3, f34, f39, f96]
    rw [e]
    exact en { m.piece with at_ := 4, by_ := b } rfl rfl
  have f96 := eq_false c96
  by_cases c47 : b = 47
  · have f47 := eq_true c47
    simp (config := { maxSteps := 4000000 }) [hf, hw, hi, hjo, hfl, hpc, c1, c2, c3, hg, hp, f34, f39, f96, f47]
    have e : m.begin b = { m with at_ := 9 } := by unfold M.begin; simp [c1, c2, c3, f34, f39, f96, f47]
    rw [e]
    exact en { m with at_ := 9 } rfl rfl
  have f47 := eq_false c47
  have hss := fun H => signs_l (H := H) (b := b)
  have hbody : m.begin b = if b = 60 ∧ m.pieces = 0 then { m with at_ := 13 } else if signs.contains b then m.sign b else m.fail := by
    unfold M.begin; simp [c1, c2, c3, f34, f39, f96, f47]
  rw [hbody]
  have hmem := idx_mem signs b
  by_cases c60 : b = 60
  · have f60 := eq_true c60
    by_cases c0 : m.pieces = 0
    · simp (config := { maxSteps := 4000000 }) [hf, hw, hi, hfl, c1, c2, c3, hg, hp, f34, f39, f96, f47, f60, c0]
      have hk := en { m with at_ := 13 } rfl rfl
      simpa [c0] using hk
    · by_cases cs : 0 ≤ Lib.indexByte signs b
      · have cs' := eq_true cs
        simp (config := { maxSteps := 4000000 }) [hf, hw, hi, hfl, c1, c2, c3, hg, hp, f34, f39, f96, f47, f60, c0, hss, cs', es]
        exact (by rw [if_pos (hmem.1 cs)]; exact ps)
      · have cs' := eq_false cs
        simp (config := { maxSteps := 4000000 }) [hf, hw, hi, hfl, c1, c2, c3, hg, hp, f34, f39, f96, f47, f60, c0, hss, cs']
        exact (by rw [if_neg (fun hh => cs (hmem.2 hh))]; exact en m.fail rfl rfl)
  · have f60 := eq_false c60
    by_cases cs : 0 ≤ Lib.indexByte signs b
    · have cs' := eq_true cs
      simp (config := { maxSteps := 4000000 }) [hf, hw, hi, hfl, c1, c2, c3, hg, hp, f34, f39, f96, f47, f60, hss, cs', es]
      exact (by rw [if_pos (hmem.1 cs)]; exact ps)
    · have cs' := eq_false cs
      simp (config := { maxSteps := 4000000 }) [hf, hw, hi, hfl, c1, c2, c3, hg, hp, f34, f39, f96, f47, f60, hss, cs']
      exact (by rw [if_neg (fun hh => cs (hmem.2 hh))]; exact en m.fail rfl rfl)
end
end Go.Proofs.YtgnefbngkhjfcaaGreatDoor
/-
  The machine of layer 28 (jscript): a byte, second part.
-/
set_option linter.unusedSimpArgs false
set_option linter.unusedVariables false
set_option maxRecDepth 100000
namespace Go.Proofs.YtgnefbngkhjfcaaGreatDoor
open Go.Lg Tg.Js

section
variable {p : Nat} {H H' H1 : LH} {m m' m1 : M} {v v' : Value} {b : UInt8}
theorem inDollar_ex (h : At p H m v) : ∃ H', LC Tryz.prog EJ 80 [ptr p 0, .int .u8 b.toNat] H = some (.tuple #[], H') ∧ Post p H (m.inDollar b) H' := by
  refine meth_ex rfl Tryz.func80 rfl (Nat.le_of_ble_eq_true rfl) (by decide) (by kernel_rfl) h ?_
  have hg := h.get
  have hp := h.lt
  have h1 := h.set (m' := { m with at_ := 4 }) rfl rfl
  have hq := h.setPost (m' := { m with at_ := 4 }) rfl rfl
  obtain ⟨Hu, eu, pu⟩ := push_ex (b := 96) h1
  have pu' := hq.trans pu
  have eu' : LC Tryz.prog EJ 109 [ptr p 0, .int .u8 96] (H.set p (mb { m with at_ := 4 } v)) = some (.tuple #[], Hu) := eu
  have hit := inText_s (H := H) (m := { m with at_ := 4 }) (v := v) (b := b) hp
  have en := fun m'' g1 g2 => h.setPost (m' := m'') g1 g2
  by_cases c : b = 123
  · have c' := eq_true c
    simp (config := { maxSteps := 4000000 }) [hg, hp, c', eu']
    have e : m.inDollar b = ({ m with at_ := 4 } : M).push 96 := by unfold M.inDollar; simp [c]
    rw [e]; exact pu'
  · have c' := eq_false c
    simp (config := { maxSteps := 4000000 }) [hg, hp, c', hit]
    have e : m.inDollar b = ({ m with at_ := 4 } : M).inText b := by unfold M.inDollar; simp [c]
    rw [e]
    refine en _ ?_ ?_
    · unfold M.inText; repeat' split
      all_goals rfl
    · unfold M.inText; repeat' split
      all_goals rfl
theorem inText_stack (m : M) (b : UInt8) : (m.inText b).stack = m.stack ∧ (m.inText b).depth = m.depth := by
  unfold M.inText; repeat' split
  all_goals exact ⟨rfl, rfl⟩
theorem inSlash_ex (h : At p H m v) : ∃ H', LC Tryz.prog EJ 81 [ptr p 0, .int .u8 b.toNat] H = some (.tuple #[], H') ∧ Post p H (m.inSlash b) H' := by
  refine meth_ex rfl Tryz.func81 rfl (Nat.le_of_ble_eq_true rfl) (by decide) (by kernel_rfl) h ?_
  have hg := h.get
  have hp := h.lt
  have en := fun m'' g1 g2 => h.setPost (m' := m'') g1 g2
  by_cases c1 : b = 47
  · have f1 := eq_true c1
    simp (config := { maxSteps := 4000000 }) [hg, hp, f1]
    have e : m.inSlash b = { m with at_ := 10 } := by unfold M.inSlash; simp [c1]
    rw [e]; exact en { m with at_ := 10 } rfl rfl
  have f1 := eq_false c1
  by_cases c2 : b = 42
  · have f2 := eq_true c2
    simp (config := { maxSteps := 4000000 }) [hg, hp, f1, f2]
    have e : m.inSlash b = { m with at_ := 11 } := by unfold M.inSlash; simp [c2]
    rw [e]; exact en { m with at_ := 11 } rfl rfl
  have f2 := eq_false c2
  by_cases c3 : m.last = 1 ∨ m.last = 2
  · obtain ⟨Hs, es, ps⟩ := sign_ex (b := 47) h
    have es' : LC Tryz.prog EJ 106 [ptr p 0, .int .u8 47] H = some (.tuple #[], Hs) := es
    obtain ⟨v2, h2⟩ := ps.at_
    obtain ⟨Hb, eb, pb⟩ := begin_ex (b := b) h2
    have e : m.inSlash b = (m.sign 47).begin b := by unfold M.inSlash; rw [if_neg c1, if_neg c2, if_pos c3]
    rw [e]
    have pp := ps.trans pb
    by_cases c4 : m.last = 1
    · have f4 := eq_true c4
      simp (config := { maxSteps := 4000000 }) [hg, hp, f1, f2, f4, es', eb]
      exact pp
    · have f4 := eq_false c4
      have f5 : (m.last = 2) = True := eq_true (c3.resolve_left c4)
      simp (config := { maxSteps := 4000000 }) [hg, hp, f1, f2, f4, f5, es', eb]
      exact pp
  · have f4 : (m.last = 1) = False := eq_false (fun c => c3 (.inl c))
    have f5 : (m.last = 2) = False := eq_false (fun c => c3 (.inr c))
    have hpc := piece_l hg hp
    have hit := inText_s (H := H) (m := { m.piece with at_ := 6, by_ := 47 }) (v := v) (b := b) hp
    simp (config := { maxSteps := 4000000 }) [hg, hp, f1, f2, f4, f5, hpc, hit]
    have e : m.inSlash b = ({ m.piece with at_ := 6, by_ := 47 } : M).inText b := by unfold M.inSlash; rw [if_neg c1, if_neg c2, if_neg c3]
    rw [e]
    exact en _ (inText_stack _ _).1 (inText_stack _ _).2
end
end Go.Proofs.YtgnefbngkhjfcaaGreatDoor
/-
  The machine of layer 28 (jscript): a byte within a word.
-/
set_option linter.unusedSimpArgs false
set_option linter.unusedVariables false
set_option maxRecDepth 100000
namespace Go.Proofs.YtgnefbngkhjfcaaGreatDoor
open Go.Lg Tg.Js

section
variable {p : Nat} {H H' H1 : LH} {m m' m1 : M} {v v' : Value} {b : UInt8}
theorem inWord_ex (h : At p H m v) (ht : Tab H) : ∃ H', LC Tryz.prog EJ 79 [ptr p 0, .int .u8 b.toNat] H = some (.tuple #[], H') ∧ Post p H (m.inWord b) H' := by
  refine meth_ex rfl Tryz.func79 rfl (Nat.le_of_ble_eq_true rfl) (by decide) (by kernel_rfl) h ?_
  have hg := h.get
  have hp := h.lt
  have hi := fun H => inner_l (H := H) (b := b)
  have hkw := fun s => isKeyword_l (s := s) ht
  have hcb : lconv Tryz.prog 63 9 (sl H.n 1 1) (H.new ⟨[.int .u8 b.toNat], 5, true⟩) = some (str [b]) := conv_b (H0 := H)
  have hgn : ∀ B, (H.new B).get p = some (mb m v) := fun B => by rw [get_new_ne (by omega)]; exact hg
  have grow : ∀ (hc : inner b = true ∨ m.at_ = 2 ∧ b = 46), m.inWord b = if (m.said.length : Int) ≤ 10 then { m with said := m.said ++ [b] } else m := fun hc => by
    unfold M.inWord; rw [if_pos hc]
  have hkr := fun s => isKeyword_l (H := H.ro) (s := s) ht
  have en := fun m'' g1 g2 => h.setPost (m' := m'') g1 g2
  have hla : ∀ (hc : (m.said.length : Int) ≤ 10), (m.said.length + 1 ≤ 9223372036854775807) = True := fun hc => eq_true (by omega)
  have bad : ∀ (c1 : inner b = false) (c2 : ¬ (m.at_ = 2 ∧ b = 46)), m.inWord b = if m.at_ = 1 ∧ isKeyword m.said then (m.ended 3).begin b else (m.ended 1).begin b := fun c1 c2 => by
    unfold M.inWord; rw [if_neg (fun hc => by rcases hc with hc | hc; (rw [c1] at hc; cases hc); exact c2 hc)]
  by_cases c1 : inner b = true
  · rw [grow (.inl c1)]
    by_cases c2 : (m.said.length : Int) ≤ 10
    · have f2 := eq_true c2
      rw [if_pos c2]
      simp (config := { maxSteps := 4000000 }) [hg, hp, hi, c1, f2, hcb, hgn, hla c2]
      exact h.newPost' rfl rfl
    · have f2 := eq_false c2
      rw [if_neg c2]
      simp (config := { maxSteps := 4000000 }) [hg, hp, hi, c1, f2]
      exact h.post
  rw [Bool.not_eq_true] at c1
  by_cases c3 : m.at_ = 2
  · by_cases c4 : b = 46
    · have f4 := eq_true c4
      rw [grow (.inr ⟨c3, c4⟩)]
      by_cases c2 : (m.said.length : Int) ≤ 10
      · have f2 := eq_true c2
        rw [if_pos c2]
        simp (config := { maxSteps := 4000000 }) [hg, hp, hi, c1, c3, f4, f2, hcb, hgn, hla c2]
        exact h.newPost' rfl rfl
      · have f2 := eq_false c2
        rw [if_neg c2]
        simp (config := { maxSteps := 4000000 }) [hg, hp, hi, c1, c3, f4, f2]
        exact h.post
    · have f4 := eq_false c4
      have h1 := en (m.ended 1) rfl rfl
      obtain ⟨v1, a1⟩ := h1.at_
      obtain ⟨H2, e2, p2⟩ := begin_ex (b := b) a1
      rw [bad c1 (fun hc => c4 hc.2), if_neg (fun hc => by have := hc.1; omega)]
      have hl := ended_l (l := 1) hg hp
      simp (config := { maxSteps := 4000000 }) [hg, hp, hi, c1, c3, f4, hl, e2]
      exact h1.trans p2
  · have f3 := eq_false c3
    by_cases c5 : m.at_ = 1 ∧ isKeyword m.said = true
    · have h1 := en (m.ended 3) rfl rfl
      obtain ⟨v1, a1⟩ := h1.at_
      obtain ⟨H2, e2, p2⟩ := begin_ex (b := b) a1
      rw [bad c1 (fun hc => c3 hc.1), if_pos c5]
      have hl := ended_l (l := 3) hg hp
      simp (config := { maxSteps := 4000000 }) [hg, hp, hi, c1, c5.1, hkw, hkr, c5.2, hl, e2]
      exact h1.trans p2
    · have h1 := en (m.ended 1) rfl rfl
      obtain ⟨v1, a1⟩ := h1.at_
      obtain ⟨H2, e2, p2⟩ := begin_ex (b := b) a1
      rw [bad c1 (fun hc => c3 hc.1), if_neg c5]
      have hl := ended_l (l := 1) hg hp
      by_cases c6 : m.at_ = 1
      · have c7 : isKeyword m.said = false := by
          cases hk : isKeyword m.said with
          | true => exact absurd ⟨c6, hk⟩ c5
          | false => rfl
        simp (config := { maxSteps := 4000000 }) [hg, hp, hi, c1, c6, hkw, hkr, c7, hl, e2]
        exact h1.trans p2
      · have f6 := eq_false c6
        simp (config := { maxSteps := 4000000 }) [hg, hp, hi, c1, f3, f6, hkw, hkr, hl, e2]
        exact h1.trans p2
end
end Go.Proofs.YtgnefbngkhjfcaaGreatDoor
/-
  The machine of layer 28 (jscript): what it tells.
-/
set_option linter.unusedSimpArgs false
set_option linter.unusedVariables false
set_option maxRecDepth 100000
namespace Go.Proofs.YtgnefbngkhjfcaaGreatDoor
open Go.Lg Tg.Js

section
variable {H : LH} {b : UInt8} {l n : Nat} {B : LB} {xs : List Int} {s : Int}
/-- where a number stands first among others, from a place on -/
def findI (s : Int) : List Int → Int → Int
  | [], _ => -1
  | x :: xs, k => if s = x then k else findI s xs (k + 1)
theorem indexI_l (h : H.get l = some B) (hb : B.cells = xs.map (Value.int .i64)) (hn : xs.length ≤ 1048576) : LC Tryz.prog EJ 110 [sl l xs.length n, Value.int .i64 s] H = some (.int .i64 (findI s xs 0), H) := by
  refine LC_pure rfl Tryz.func110 rfl (Nat.le_of_ble_eq_true rfl) (by decide) (by kernel_rfl) rfl ?_
  simp +contextual
  refine loop_ind (fun (i : Nat) fr' H' => fr' 0 = sl l xs.length n ∧ fr' 1 = Value.int .i64 s ∧ fr' 7 = .int .i64 xs.length ∧ fr' 8 = .int .i64 i ∧ i ≤ xs.length ∧ findI s (xs.drop i) i = findI s xs 0 ∧ H' = H) (fun i => xs.length - i) 0 (by simp) ?_
  rintro i fr' H' ⟨h0, h1, h7, h8, hi, hh, rfl⟩ ih
  by_cases hlt : i < xs.length
  · obtain ⟨x, hx⟩ : ∃ x, xs[i]? = some x := ⟨_, List.getElem?_eq_getElem hlt⟩
    have hd : xs.drop i = x :: xs.drop (i + 1) := by
      rw [List.drop_eq_getElem_cons hlt]
      rw [List.getElem?_eq_getElem hlt] at hx
      injection hx with hx
      rw [hx]
    have hc : B.cells[i]? = some (Value.int .i64 x) := by rw [hb]; simp [hx]
    have hw : IntKind.i64.wrap ((i : Int) + 1) = ((i + 1 : Nat) : Int) := by rw [wrap64_in (by omega) (by omega)]; omega
    rw [hd, findI] at hh
    by_cases hs : s = x
    · have hs' : (s = x) = True := eq_true hs
      rw [if_pos hs] at hh
      simp [h0, h1, h7, h8, hlt, h, hc, hs', ← hh]
    · have hs' : (s = x) = False := eq_false hs
      rw [if_neg hs] at hh
      simp [h0, h1, h7, h8, hlt, h, hc, hs', hw]
      exact ih (i + 1) _ _ (by omega) ⟨by simp [h0], by simp [h1], by simp [h7], by simp, hlt, by simpa using hh, rfl⟩
  · have hd : xs.drop i = [] := List.drop_eq_nil_of_le (by omega)
    rw [hd, findI] at hh
    simp [h0, h1, h7, h8, hlt, ← hh]
theorem findI_mem : ∀ (xs : List Int) (k : Int), 0 ≤ k → (0 ≤ findI s xs k ↔ s ∈ xs)
  | [], k, h => by simp [findI]
  | x :: xs, k, h => by
    unfold findI
    by_cases hs : s = x
    · simp [hs, h]
    · rw [if_neg hs, findI_mem xs (k + 1) (by omega)]; simp [hs]
theorem containsI_l (h : H.get l = some B) (hb : B.cells = xs.map (Value.int .i64)) (hn : xs.length ≤ 1048576) : LC Tryz.prog EJ 85 [sl l xs.length n, Value.int .i64 s] H = some (.bool (xs.contains s), H) := by
  refine LC_pure rfl Tryz.func85 rfl (Nat.le_of_ble_eq_true rfl) (by decide) (by kernel_rfl) rfl ?_
  have hi := indexI_l (s := s) (n := n) h hb hn
  have := findI_mem (s := s) xs 0 (by decide)
  simp [hi, this]
theorem tell_g {p : Nat} {m : M} {v : Value} {B0 : LB} (hg : H.get p = some B0) (hc0 : B0.cells = (mb m v).cells) (hp : p < H.n) (hl : ∀ H', lbuiltin Tryz.prog .len [63] [v] H' = some (.int .i64 (m.stack.map bv).length, H')) : LC Tryz.prog EJ 49 [ptr p 0] H = some (.int .i64 m.tell, H) := by
  refine LC_pure rfl Tryz.func49 rfl (Nat.le_of_ble_eq_true rfl) (by decide) (by kernel_rfl) rfl ?_
  have hgn : ∀ B, (H.new B).get p = some B0 := fun B => by rw [get_new_ne (by omega)]; exact hg
  by_cases c1 : m.bad = true
  · simp (config := { maxSteps := 4000000 }) [hg, hc0, hp, c1, M.tell]
  · rw [Bool.not_eq_true] at c1
    by_cases c2 : m.stack = []
    · have f2 := eq_true c2
      have hc : LC Tryz.prog EJ 85 [sl H.n 5 5, .int .i64 m.at_] (H.new ⟨[.int .i64 0, .int .i64 1, .int .i64 2, .int .i64 8, .int .i64 10], 3, true⟩) = some (.bool (([0, 1, 2, 8, 10] : List Int).contains m.at_), H.new ⟨[.int .i64 0, .int .i64 1, .int .i64 2, .int .i64 8, .int .i64 10], 3, true⟩) :=
        containsI_l (l := H.n) (n := 5) (s := m.at_) (xs := [0, 1, 2, 8, 10]) get_new rfl (by decide)
      by_cases c3 : (([0, 1, 2, 8, 10] : List Int).contains m.at_) = true
      · have e : m.tell = 2 := by
          unfold M.tell; rw [c1, if_neg (by simp), if_pos ⟨c2, by simpa using c3⟩]
        rw [c3] at hc
        simp (config := { maxSteps := 4000000 }) [hg, hc0, hp, c1, hl, f2, hgn, hc, e, le_refl.new]
      · rw [Bool.not_eq_true] at c3
        have e : m.tell = 1 := by
          unfold M.tell; rw [c1, if_neg (by simp), if_neg (fun hh => by
            have h2 := hh.2
            have : (([0, 1, 2, 8, 10] : List Int).contains m.at_) = true := by simpa using h2
            rw [this] at c3; cases c3)]
        rw [c3] at hc
        simp (config := { maxSteps := 4000000 }) [hg, hc0, hp, c1, hl, f2, hgn, hc, e, le_refl.new]
    · have f2 := eq_false c2
      simp (config := { maxSteps := 4000000 }) [hg, hc0, hp, c1, hl, f2, hgn, M.tell]
theorem tell_l {p : Nat} {m : M} {v : Value} (h : At p H m v) : LC Tryz.prog EJ 49 [ptr p 0] H = some (.int .i64 m.tell, H) :=
  tell_g h.get rfl h.lt (fun H' => h.row.len (H' := H') Tryz.underlying63)
theorem tell_ro {p : Nat} {m : M} {v : Value} (h : At p H m v) : LC Tryz.prog EJ 49 [ptr p 0] H.ro = some (.int .i64 m.tell, H.ro) :=
  tell_g (B0 := { mb m v with rw := false }) (by rw [get_ro, h.get]; rfl) rfl h.lt (fun H' => h.row.len (H' := H') Tryz.underlying63)
end
end Go.Proofs.YtgnefbngkhjfcaaGreatDoor
/-
  The machine of layer 28 (jscript): a new one.
-/
set_option linter.unusedSimpArgs false
set_option linter.unusedVariables false
set_option maxRecDepth 100000
namespace Go.Proofs.YtgnefbngkhjfcaaGreatDoor
open Go.Lg Tg.Js

section
variable {H : LH}
@[simp] theorem atom_int {k : IntKind} {n : Int} : atomB (.int k n) = true := by simp only [atomB]
@[simp] theorem atom_bool {x : Bool} : atomB (.bool x) = true := by simp only [atomB]
@[simp] theorem atom_str {l : List UInt8} : atomB (str l) = true := by simp only [atomB, str]
@[simp] theorem atom_slice0 : atomB (.slice none 0 0) = true := by simp [atomB]
@[simp] theorem atom_ptr0 : atomB (.pointer none) = true := by simp only [atomB]
@[simp] theorem lfill_cell' {P : Program} {t : TypeId} {cs : List Value} {i : Nat} {q : Nat × Nat × Bool} {v : Value} {ps : List (Nat × Value)} (hf : fldi P t i = some q) (hn : q.2.1 = 1) (hv : cellB v = true) (ho : q.1 < cs.length) : lfill P t cs ((i, v) :: ps) = lfill P t (cs.set q.1 v) ps := by
  obtain ⟨o, n, g⟩ := q
  exact lfill_cell hf hn hv ho
theorem mb_new (d : Int) : (⟨[.int .i64 d, .slice none 0 0, .int .i64 0, .int .u8 0, .bool false, str [], .int .i64 0, .bool false, .bool false, .int .i64 (-1), .int .i64 0, .int .i64 0, .int .i64 0], 67, true⟩ : LB) = mb (new d) (.slice none 0 0) := rfl
theorem new_l {d : Int} (h0 : 0 ≤ d) (h1 : d ≤ 200) : ∃ r, LC Tryz.prog EJ 34 [.int .i64 d] H = some r ∧ r = (.tuple #[ptr H.n 0, .int .i64 0], H.new (mb (new d) (.slice none 0 0))) := by
  obtain ⟨r, h, e⟩ := LC_runs (Q := fun r => r = (.tuple #[ptr H.n 0, .int .i64 0], H.new (mb (new d) (.slice none 0 0)))) (P := Tryz.prog) (E := EJ) (H := H) (args := [.int .i64 d]) rfl Tryz.func34 rfl (Nat.le_of_ble_eq_true rfl) (by decide) (by kernel_rfl) (by
    have f1 : (d < 0) = False := eq_false (by omega)
    have f2 : (200 < d) = False := eq_false (by omega)
    simp (config := { maxSteps := 4000000 }) [f1, f2, mb_new])
  refine ⟨r, ?_, e⟩
  rw [h, e, trunc_not (by simp [flatB, flat1B, atomB])]
end
end Go.Proofs.YtgnefbngkhjfcaaGreatDoor
/-
  The machine of layer 28 (jscript): bytes, pieces, all at once.
-/
set_option linter.unusedSimpArgs false
set_option linter.unusedVariables false
set_option maxRecDepth 100000
namespace Go.Proofs.YtgnefbngkhjfcaaGreatDoor
open Go.Lg Tg.Js

section
variable {p : Nat} {H H' H1 : LH} {m m' m1 : M} {v v' : Value} {b : UInt8} {s : List UInt8}
theorem inRemark_stack (m : M) (b : UInt8) : (m.inRemark b).stack = m.stack ∧ (m.inRemark b).depth = m.depth := by
  unfold M.inRemark; dsimp only; repeat' split
  all_goals exact ⟨rfl, rfl⟩
theorem inLess_stack (m : M) (b : UInt8) : (m.inLess b).stack = m.stack ∧ (m.inLess b).depth = m.depth := by
  unfold M.inLess; repeat' split
  all_goals exact ⟨rfl, rfl⟩
theorem byte_ex (h : At p H m v) (ht : Tab H) : ∃ H', LC Tryz.prog EJ 48 [ptr p 0, .int .u8 b.toNat] H = some (.tuple #[], H') ∧ Post p H (m.byte b) H' := by
  refine meth_ex rfl Tryz.func48 rfl (Nat.le_of_ble_eq_true rfl) (by decide) (by kernel_rfl) h ?_
  have hg := h.get
  have hp := h.lt
  have en := fun m'' (g : m''.stack = m.stack ∧ m''.depth = m.depth) => h.setPost (m' := m'') g.1 g.2
  obtain ⟨H0, e0, p0⟩ := begin_ex (b := b) h
  obtain ⟨H1, e1, p1⟩ := inWord_ex (b := b) h ht
  obtain ⟨H2, e2, p2⟩ := inDollar_ex (b := b) h
  obtain ⟨H3, e3, p3⟩ := inSlash_ex (b := b) h
  have e4 := inRemark_l (b := b) hg hp
  have p4 := en _ (inRemark_stack m b)
  have e5 := inLess_l (b := b) hg hp
  have p5 := en _ (inLess_stack m b)
  have e6 := inText_l (b := b) hg hp
  have p6 := en _ (inText_stack m b)
  unfold M.byte
  by_cases c : m.at_ = 0
  · simp (config := { maxSteps := 4000000 }) [hg, hp, c, e0]; exact p0
  have f0 := eq_false c
  by_cases c : m.at_ = 1
  · simp (config := { maxSteps := 4000000 }) [hg, hp, c, e1]; exact p1
  have f1 := eq_false c
  by_cases c : m.at_ = 2
  · simp (config := { maxSteps := 4000000 }) [hg, hp, c, e1]; exact p1
  have f2 := eq_false c
  by_cases c : m.at_ = 8
  · simp (config := { maxSteps := 4000000 }) [hg, hp, c, e1]; exact p1
  have f8 := eq_false c
  by_cases c : m.at_ = 5
  · simp (config := { maxSteps := 4000000 }) [hg, hp, c, e2]; exact p2
  have f5 := eq_false c
  by_cases c : m.at_ = 9
  · simp (config := { maxSteps := 4000000 }) [hg, hp, c, e3]; exact p3
  have f9 := eq_false c
  by_cases c : m.at_ = 10
  · simp (config := { maxSteps := 4000000 }) [hg, hp, c, e4]; exact p4
  have f10 := eq_false c
  by_cases c : m.at_ = 11
  · simp (config := { maxSteps := 4000000 }) [hg, hp, c, e4]; exact p4
  have f11 := eq_false c
  by_cases c : m.at_ = 12
  · simp (config := { maxSteps := 4000000 }) [hg, hp, c, e4]; exact p4
  have f12 := eq_false c
  by_cases c : m.at_ = 13
  · simp (config := { maxSteps := 4000000 }) [hg, hp, c, e5]; exact p5
  have f13 := eq_false c
  by_cases c : m.at_ = 14
  · simp (config := { maxSteps := 4000000 }) [hg, hp, c, e5]; exact p5
  have f14 := eq_false c
  by_cases c : m.at_ = 15
  · simp (config := { maxSteps := 4000000 }) [hg, hp, c, e5]; exact p5
  have f15 := eq_false c
  simp (config := { maxSteps := 4000000 }) [hg, hp, f0, f1, f2, f8, f5, f9, f10, f11, f12, f13, f14, f15, e6]
  exact p6
theorem Tab.post {m0 : M} (ht : Tab H) (h0 : At p H m0 v) (hp : Post p H m H') : Tab H' := by
  obtain ⟨v', a⟩ := hp.at_
  have k := hp.fr _ _ _ h0 a
  exact ⟨by rw [k.ng]; exact ht.1, by rw [k.base]; exact ht.2⟩
theorem feed_take (m : M) (s : List UInt8) {i : Nat} (h : i < s.length) : m.feed (s.take (i + 1)) = (m.feed (s.take i)).step s[i] := by
  rw [List.take_succ_eq_append_getElem h, M.feed_append]; rfl
theorem feed_ex (h : At p H m v) (ht : Tab H) (hs : s.length ≤ 1048576) : ∃ H', LC Tryz.prog EJ 36 [ptr p 0, str s] H = some (.int .i64 (m.feed s).tell, H') ∧ Post p H (m.feed s) H' := by
  refine meth_exv rfl Tryz.func36 rfl (Nat.le_of_ble_eq_true rfl) (by decide) (by kernel_rfl) h ?_
  simp
  refine loop_ind (fun (i : Nat) fr' H' => fr' 0 = ptr p 0 ∧ fr' 1 = str s ∧ fr' 9 = .int .i64 s.length ∧ fr' 10 = .int .i64 i ∧ i ≤ s.length ∧ Post p H (m.feed (s.take i)) H') (fun i => s.length - i) 0 ?_ ?_
  · exact ⟨by simp, by simp, by simp, by simp, Nat.zero_le _, h.post⟩
  rintro i fr' H' ⟨h0, h1, h9, h10, hi, hpo⟩ ih
  obtain ⟨v1, a1⟩ := hpo.at_
  have hg := a1.get
  have hp := a1.lt
  by_cases hlt : i < s.length
  · have hw : IntKind.i64.wrap ((i : Int) + 1) = ((i + 1 : Nat) : Int) := by rw [wrap64_in (by omega) (by omega)]; omega
    have hat : at_ s i = s[i] := by simp [at_, hlt]
    have hst := feed_take m s hlt
    cases hb : (m.feed (s.take i)).bad with
    | true =>
      rw [M.step_bad _ _ hb] at hst
      have hb' : (!(m.feed (s.take i)).bad) = false := by rw [hb]; rfl
      simp (config := { maxSteps := 4000000 }) [-Bool.not_eq_eq_eq_not, h0, h1, h9, h10, hlt, hg, hp, hb', hw]
      refine ih (i + 1) _ _ (by omega) ⟨by simp [h0], by simp [h1], by simp [h9], by simp, hlt, ?_⟩
      rw [hst]
      exact hpo.trans (a1.setPost rfl rfl)
    | false =>
      rw [M.step_good _ _ hb] at hst
      obtain ⟨H2, e2, p2⟩ := byte_ex (b := s[i]) a1 (ht.post h hpo)
      obtain ⟨v2, a2⟩ := p2.at_
      have hg2 := a2.get
      have hp2 := a2.lt
      simp (config := { maxSteps := 4000000 }) [h0, h1, h9, h10, hlt, hg, hp, hb, hw, hat, e2, hg2, hp2]
      refine ih (i + 1) _ _ (by omega) ⟨by simp [h0], by simp [h1], by simp [h9], by simp, hlt, ?_⟩
      rw [hst]
      exact (hpo.trans p2).trans (a2.setPost rfl rfl)
  · have hi2 : s.take i = s := List.take_of_length_le (by omega)
    rw [hi2] at hpo a1
    have e := tell_l a1
    simp [h0, h1, h9, h10, hlt, e]
    exact hpo
theorem at_new {d : Int} (h0 : 0 ≤ d) (h1 : d ≤ 200) (hd : ∀ l, H.n ≤ l → H.get l = none) : At H.n (H.new (mb (new d) (.slice none 0 0))) (new d) (.slice none 0 0) :=
  ⟨get_new, Nat.lt_succ_self _, .inl ⟨rfl, rfl⟩, fun l hl => by
    have : H.n + 1 ≤ l := hl
    rw [get_new_ne (by omega)]; exact hd l (by omega), h0, h1⟩
def clamp (d : Int) : Int := if (if d < 0 then 0 else d) > 200 then 200 else (if d < 0 then 0 else d)
end
end Go.Proofs.YtgnefbngkhjfcaaGreatDoor
/-
  The laws of layer 28 (jscript): what they come to.
-/
set_option linter.unusedSimpArgs false
set_option linter.unusedVariables false
set_option maxRecDepth 100000
namespace Go.Proofs.YtgnefbngkhjfcaaGreatDoor
open Go.Lg Tg.Js

section
variable {p : Nat} {H H' H1 : LH} {m m' m1 : M} {v v' : Value} {b : UInt8} {s t : List UInt8}
theorem cut_l {k : Int} (h0 : 0 ≤ k) : LC Tryz.prog EJ 6 [str s, .int .i64 k] H = some (str (s.take k.toNat), H) := by
  refine LC_pure rfl Tryz.func6 rfl (Nat.le_of_ble_eq_true rfl) (by decide) (by kernel_rfl) (by simp) ?_
  by_cases hc : k < s.length
  · have f := eq_true hc
    have f2 := eq_true (show k ≤ s.length by omega)
    have f3 := eq_true h0
    simp [f, f2, f3]
  · have f := eq_false hc
    have e : s.take k.toNat = s := List.take_of_length_le (by omega)
    simp [f, e]
theorem New_l {d : Int} (h0 : 0 ≤ d) (h1 : d ≤ 200) : LC Tryz.prog EJ 34 [.int .i64 d] H = some (.tuple #[ptr H.n 0, .int .i64 0], H.new (mb (new d) (.slice none 0 0))) := by
  obtain ⟨r, h, e⟩ := new_l (H := H) h0 h1
  rw [h, e]
theorem clamp_in {d : Int} (h0 : 0 ≤ d) (h1 : d ≤ 200) : clamp d = d := by
  unfold clamp
  rw [if_neg (show ¬ d < 0 by omega), if_neg (by omega)]
end
end Go.Proofs.YtgnefbngkhjfcaaGreatDoor
/-
  The laws of layer 28 (jscript): words.
-/
set_option linter.unusedSimpArgs false
set_option linter.unusedVariables false
set_option maxRecDepth 100000
namespace Go.Proofs.YtgnefbngkhjfcaaGreatDoor
open Go.Lg Tg.Js

section
variable {H : LH} {s : List UInt8}
theorem kws_lit : keywords = [[97, 119, 97, 105, 116], [98, 114, 101, 97, 107], [99, 97, 115, 101], [99, 97, 116, 99, 104], [99, 108, 97, 115, 115], [99, 111, 110, 115, 116], [99, 111, 110, 116, 105, 110, 117, 101], [100, 101, 102, 97, 117, 108, 116], [100, 101, 108, 101, 116, 101], [100, 111], [101, 108, 115, 101], [101, 120, 112, 111, 114, 116], [101, 120, 116, 101, 110, 100, 115], [102, 105, 110, 97, 108, 108, 121], [102, 111, 114], [102, 114, 111, 109], [102, 117, 110, 99, 116, 105, 111, 110], [103, 101, 116], [105, 102], [105, 109, 112, 111, 114, 116], [105, 110], [105, 110, 115, 116, 97, 110, 99, 101, 111, 102], [108, 101, 116], [110, 101, 119], [111, 102], [114, 101, 116, 117, 114, 110], [115, 101, 116], [115, 116, 97, 116, 105, 99], [115, 119, 105, 116, 99, 104], [116, 104, 114, 111, 119], [116, 114, 121], [116, 121, 112, 101, 111, 102], [118, 97, 114], [118, 111, 105, 100], [119, 104, 105, 108, 101], [119, 105, 116, 104], [121, 105, 101, 108, 100], [97, 115, 121, 110, 99], [97, 115]] := by decide +kernel
theorem kws_cells : [str [97, 119, 97, 105, 116], str [98, 114, 101, 97, 107], str [99, 97, 115, 101], str [99, 97, 116, 99, 104], str [99, 108, 97, 115, 115], str [99, 111, 110, 115, 116], str [99, 111, 110, 116, 105, 110, 117, 101], str [100, 101, 102, 97, 117, 108, 116], str [100, 101, 108, 101, 116, 101], str [100, 111], str [101, 108, 115, 101], str [101, 120, 112, 111, 114, 116], str [101, 120, 116, 101, 110, 100, 115], str [102, 105, 110, 97, 108, 108, 121], str [102, 111, 114], str [102, 114, 111, 109], str [102, 117, 110, 99, 116, 105, 111, 110], str [103, 101, 116], str [105, 102], str [105, 109, 112, 111, 114, 116], str [105, 110], str [105, 110, 115, 116, 97, 110, 99, 101, 111, 102], str [108, 101, 116], str [110, 101, 119], str [111, 102], str [114, 101, 116, 117, 114, 110], str [115, 101, 116], str [115, 116, 97, 116, 105, 99], str [115, 119, 105, 116, 99, 104], str [116, 104, 114, 111, 119], str [116, 114, 121], str [116, 121, 112, 101, 111, 102], str [118, 97, 114], str [118, 111, 105, 100], str [119, 104, 105, 108, 101], str [119, 105, 116, 104], str [121, 105, 101, 108, 100], str [97, 115, 121, 110, 99], str [97, 115]] = keywords.map str := by rw [kws_lit]; rfl
set_option maxHeartbeats 2000000 in
theorem refKeyword_l (hd : ∀ l, H.n ≤ l → H.get l = none) : LC Tryz.prog EJ 87 [str s] H = some (.bool (isKeyword s), H) := by
  refine LC_pure rfl Tryz.func87 rfl (Nat.le_of_ble_eq_true rfl) (by decide) (by kernel_rfl) rfl ?_
  simp (config := { maxSteps := 4000000 }) [kws_cells]
  refine loop_ind (fun (i : Nat) fr' H' => fr' 0 = str s ∧ fr' 3 = sl H.n 39 39 ∧ fr' 4 = .int .i64 i ∧ i ≤ 39 ∧ (keywords.take i).contains s = false ∧ H' = H.new ⟨keywords.map str, 9, true⟩) (fun i => 39 - i) 0 ?_ ?_
  · exact ⟨by simp, by simp, by simp, by omega, by simp, rfl⟩
  rintro i fr' H' ⟨h0, h3, h4, hi, hc, rfl⟩ ih
  have hle : H.le (H.new ⟨keywords.map str, 9, true⟩) := le_refl.new
  by_cases hlt : (i : Int) < 39
  · have f := eq_true hlt
    have hlen : i < keywords.length := by rw [kw_len]; omega
    have hx : (keywords.map str)[i]? = some (str keywords[i]) := by simp [hlen]
    have hw : IntKind.i64.wrap ((i : Int) + 1) = ((i + 1 : Nat) : Int) := by rw [wrap64_in (by omega) (by omega)]; omega
    have ht : (keywords.take (i + 1)).contains s = (decide (keywords[i] = s)) := by
      rw [List.take_succ_eq_append_getElem hlen]
      simp only [List.contains_eq_mem, List.mem_append, List.mem_singleton] at hc ⊢
      simp at hc
      simp [hc, eq_comm]
    by_cases hs : keywords[i] = s
    · have hk : isKeyword s = true := by
        unfold isKeyword
        rw [List.contains_iff_mem]
        rw [← hs]; exact List.getElem_mem hlen
      have fs := eq_true hs
      simp (config := { maxSteps := 4000000 }) [h0, h3, h4, f, hx, fs, hk, hle]
    · have fs := eq_false hs
      simp (config := { maxSteps := 4000000 }) [h0, h3, h4, f, hx, fs, hw]
      refine ih (i + 1) _ _ (by omega) ⟨by simp [h0], by simp [h3], by simp, by omega, ?_, rfl⟩
      rw [ht]; simp [hs]
  · have f := eq_false hlt
    have hk : isKeyword s = false := by
      unfold isKeyword
      rw [List.take_of_length_le (by rw [kw_len]; omega)] at hc
      exact hc
    simp (config := { maxSteps := 4000000 }) [h0, h3, h4, f, hk, hle]
end
end Go.Proofs.YtgnefbngkhjfcaaGreatDoor
/-
  The reference of layer 28: what reading comes to, as it lies in memory; its small methods.
-/
set_option linter.unusedSimpArgs false
set_option linter.unusedVariables false
set_option maxRecDepth 100000
namespace Go.Proofs.YtgnefbngkhjfcaaGreatDoor.Rd
open Go.Lg Tg.Rd
open Tg.Js (w64 letter digit feedB white inner isKeyword signs)

def rcs (x : R) : List Value := [.int .i64 x.bad, .bool x.within, str x.opn, .int .i64 x.pieces, .int .i64 x.ends, .int .i64 x.last, .bool x.broken, .int .i64 x.depth]
def rb (x : R) : LB := ⟨rcs x, 47, true⟩
section
variable {H : LH} {b : UInt8} {x y : R} {p : Nat}
@[simp] theorem rb_len : (rb x).cells.length = 8 := by simp only [rb, rcs]; simp only [List.length_cons, List.length_nil]
@[simp] theorem rb_rw : (rb x).rw = true := by simp only [rb]
theorem rb_elem : (rb x).elem = 47 := rfl
@[simp] theorem ld_bad : (rb x).cells[0]? = some (.int .i64 x.bad) := rfl
@[simp] theorem lg_bad {hl : 0 < (rb x).cells.length} : (rb x).cells[0]'hl = (.int .i64 x.bad) := rfl
@[simp] theorem st_bad {y : Int} : (⟨(rb x).cells.set 0 (.int .i64 y), (rb x).elem, true⟩ : LB) = rb { x with bad := y } := rfl
@[simp] theorem ld_within : (rb x).cells[1]? = some (.bool x.within) := rfl
@[simp] theorem lg_within {hl : 1 < (rb x).cells.length} : (rb x).cells[1]'hl = (.bool x.within) := rfl
@[simp] theorem st_within {y : Bool} : (⟨(rb x).cells.set 1 (.bool y), (rb x).elem, true⟩ : LB) = rb { x with within := y } := rfl
@[simp] theorem ld_opn : (rb x).cells[2]? = some (str x.opn) := rfl
@[simp] theorem lg_opn {hl : 2 < (rb x).cells.length} : (rb x).cells[2]'hl = (str x.opn) := rfl
@[simp] theorem st_opn {y : List UInt8} : (⟨(rb x).cells.set 2 (str y), (rb x).elem, true⟩ : LB) = rb { x with opn := y } := rfl
@[simp] theorem ld_pieces : (rb x).cells[3]? = some (.int .i64 x.pieces) := rfl
@[simp] theorem lg_pieces {hl : 3 < (rb x).cells.length} : (rb x).cells[3]'hl = (.int .i64 x.pieces) := rfl
@[simp] theorem st_pieces {y : Int} : (⟨(rb x).cells.set 3 (.int .i64 y), (rb x).elem, true⟩ : LB) = rb { x with pieces := y } := rfl
@[simp] theorem ld_ends : (rb x).cells[4]? = some (.int .i64 x.ends) := rfl
@[simp] theorem lg_ends {hl : 4 < (rb x).cells.length} : (rb x).cells[4]'hl = (.int .i64 x.ends) := rfl
@[simp] theorem st_ends {y : Int} : (⟨(rb x).cells.set 4 (.int .i64 y), (rb x).elem, true⟩ : LB) = rb { x with ends := y } := rfl
@[simp] theorem ld_last : (rb x).cells[5]? = some (.int .i64 x.last) := rfl
@[simp] theorem lg_last {hl : 5 < (rb x).cells.length} : (rb x).cells[5]'hl = (.int .i64 x.last) := rfl
@[simp] theorem st_last {y : Int} : (⟨(rb x).cells.set 5 (.int .i64 y), (rb x).elem, true⟩ : LB) = rb { x with last := y } := rfl
@[simp] theorem ld_broken : (rb x).cells[6]? = some (.bool x.broken) := rfl
@[simp] theorem lg_broken {hl : 6 < (rb x).cells.length} : (rb x).cells[6]'hl = (.bool x.broken) := rfl
@[simp] theorem st_broken {y : Bool} : (⟨(rb x).cells.set 6 (.bool y), (rb x).elem, true⟩ : LB) = rb { x with broken := y } := rfl
@[simp] theorem ld_depth : (rb x).cells[7]? = some (.int .i64 x.depth) := rfl
@[simp] theorem lg_depth {hl : 7 < (rb x).cells.length} : (rb x).cells[7]'hl = (.int .i64 x.depth) := rfl
@[simp] theorem st_depth {y : Int} : (⟨(rb x).cells.set 7 (.int .i64 y), (rb x).elem, true⟩ : LB) = rb { x with depth := y } := rfl
/-- a method that writes its own block alone -/
theorem own {f : FuncId} {fn : Func} {c : Code} {args : List Value} {u : Value} {B B' : LB} (he : EJ f = none) (hf : Tryz.prog.funcs[f]? = some fn) (hb : fn.body = some c) (hN : args.length ≤ fn.ntmps) (hname : fn.name ≠ "runtime.NumGoroutine") (hcd : codeOk EJ.loud c = true)
    (hp : p < H.n) (hr : Runs Tryz.prog EJ fn [.code c] (enter args) (H.set p B) (fun r => r = (u, H.set p B'))) : LC Tryz.prog EJ f args (H.set p B) = some (u, H.set p B') := by
  have h0 : (H.set p B).get p = some B := get_set
  have h1 : p < (H.set p B).n := hp
  obtain ⟨r, h, rfl⟩ := LC_runs he hf hb hN hname hcd hr
  have e := trunc_set (v := u) (c := B') h0 h1
  rw [set_set] at e
  rw [h, e]

theorem feed_l : LC Tryz.prog EJ 51 [.int .u8 b.toNat] H = some (.bool (feedB b), H) := by
  refine LC_pure rfl Tryz.func51 rfl (Nat.le_of_ble_eq_true rfl) (by decide) (by kernel_rfl) rfl ?_
  simp (config := { maxSteps := 2000000 }) +contextual [feedB, -Int.not_le, -Int.not_lt]
theorem Letter_l : LC Tryz.prog EJ 86 [.int .u8 b.toNat] H = some (.bool (letter b), H) := by
  refine LC_pure rfl Tryz.func86 rfl (Nat.le_of_ble_eq_true rfl) (by decide) (by kernel_rfl) rfl ?_
  simp (config := { maxSteps := 2000000 }) +contextual [letter, -Int.not_le, -Int.not_lt]
theorem Digit_l : LC Tryz.prog EJ 64 [.int .u8 b.toNat] H = some (.bool (digit b), H) := by
  refine LC_pure rfl Tryz.func64 rfl (Nat.le_of_ble_eq_true rfl) (by decide) (by kernel_rfl) rfl ?_
  simp (config := { maxSteps := 2000000 }) +contextual [digit, -Int.not_le, -Int.not_lt]
theorem inner_l : LC Tryz.prog EJ 52 [.int .u8 b.toNat] H = some (.bool (inner b), H) := by
  refine LC_pure rfl Tryz.func52 rfl (Nat.le_of_ble_eq_true rfl) (by decide) (by kernel_rfl) rfl ?_
  simp (config := { maxSteps := 2000000 }) +contextual [inner, Letter_l, Digit_l, -Int.not_le, -Int.not_lt]
  intros; omega
theorem joined_l (hp : p < H.n) : LC Tryz.prog EJ 54 [ptr p 0] (H.set p (rb x)) = some (.bool x.joined, H.set p (rb x)) := by
  refine LC_pure rfl Tryz.func54 rfl (Nat.le_of_ble_eq_true rfl) (by decide) (by kernel_rfl) rfl ?_
  simp +contextual [hp, R.joined]
theorem fail_l {a : Int} (hp : p < H.n) : LC Tryz.prog EJ 55 [ptr p 0, .int .i64 a] (H.set p (rb x)) = some (.int .i64 (-1), H.set p (rb (x.fail a))) := by
  refine own rfl Tryz.func55 rfl (Nat.le_of_ble_eq_true rfl) (by decide) (by kernel_rfl) hp ?_
  simp (config := { maxSteps := 2000000 }) +contextual [hp, R.fail, -Int.not_le, -Int.not_lt]
theorem stop_l (hp : p < H.n) : LC Tryz.prog EJ 89 [ptr p 0] (H.set p (rb x)) = some (.int .i64 (-1), H.set p (rb (x.stop))) := by
  refine own rfl Tryz.func89 rfl (Nat.le_of_ble_eq_true rfl) (by decide) (by kernel_rfl) hp ?_
  simp (config := { maxSteps := 2000000 }) +contextual [hp, R.stop, -Int.not_le, -Int.not_lt]
theorem ended_l {l : Int} (hp : p < H.n) : LC Tryz.prog EJ 88 [ptr p 0, .int .i64 l] (H.set p (rb x)) = some (.tuple #[], H.set p (rb (x.ended l))) := by
  refine own rfl Tryz.func88 rfl (Nat.le_of_ble_eq_true rfl) (by decide) (by kernel_rfl) hp ?_
  simp (config := { maxSteps := 2000000 }) +contextual [hp, R.ended, -Int.not_le, -Int.not_lt]
/-- is a byte one of some? -/
theorem has_l {s : List UInt8} (hs : s.length ≤ 1048576) : LC Tryz.prog EJ 60 [str s, .int .u8 b.toNat] H = some (.bool (s.contains b), H) := by
  obtain ⟨c, hc⟩ : ∃ c, c = s.contains b := ⟨_, rfl⟩
  rw [← hc]
  refine LC_pure rfl Tryz.func60 rfl (Nat.le_of_ble_eq_true rfl) (by decide) (by kernel_rfl) rfl ?_
  simp
  refine loop_ind (fun (i : Nat) fr' H' => fr' 0 = str s ∧ fr' 1 = .int .u8 b.toNat ∧ fr' 5 = .int .i64 i ∧ i ≤ s.length ∧ (s.drop i).contains b = c ∧ H' = H) (fun i => s.length - i) 0 ⟨by simp, by simp, by simp, by omega, by rw [hc]; rfl, rfl⟩ ?_
  rintro i fr' H' ⟨h0, h1, h2, hi, hh, rfl⟩ ih
  by_cases hlt : i < s.length
  · have hw : IntKind.i64.wrap ((i : Int) + 1) = ((i + 1 : Nat) : Int) := by rw [wrap64_in (by omega) (by omega)]; omega
    have hd : s.drop i = at_ s i :: s.drop (i + 1) := by
      rw [List.drop_eq_getElem_cons hlt]; simp [at_, hlt]
    rw [hd, List.contains_cons] at hh
    by_cases hb : at_ s i = b
    · have f := eq_true hb
      rw [hb] at hh
      simp [h0, h1, h2, hlt, f, ← hh]
    · have f := eq_false hb
      have hb2 : (b == at_ s i) = false := by rw [beq_eq_false_iff_ne]; exact fun e => hb e.symm
      rw [hb2, Bool.false_or] at hh
      simp [h0, h1, h2, hlt, f, hw]
      exact ih (i + 1) _ _ (by omega) ⟨by simp [h0], by simp [h1], by simp, hlt, hh, rfl⟩
  · have hd : s.drop i = [] := List.drop_eq_nil_of_le (by omega)
    rw [hd] at hh
    simp [h0, h1, h2, hlt, ← hh]
end
end Go.Proofs.YtgnefbngkhjfcaaGreatDoor.Rd
/-
  The reference of layer 28: lines, remarks, words, texts, patterns.
-/
set_option linter.unusedSimpArgs false
set_option linter.unusedVariables false
set_option maxRecDepth 100000
namespace Tg.Rd
open Tg.Js
section
variable {x : R} {c d by_ : UInt8} {r : List UInt8} {k dg : Bool}
theorem line_nil : line x [] = (x, 0) := rfl
theorem line_stop (h : feedB c = true) : line x (c :: r) = ({ x with broken := true }, 1) := by
  have : lineN (c :: r) = 0 := by simp [lineN, h]
  unfold line; rw [this]; simp
theorem line_go (h : feedB c = false) : line x (c :: r) = ((line x r).1, (line x r).2 + 1) := by
  have : lineN (c :: r) = lineN r + 1 := by simp [lineN, h]
  unfold line; rw [this]
  simp only [List.length_cons, Nat.add_lt_add_iff_right]
  split <;> rfl
theorem wordN_stop (h : inner c = false) (h2 : dg = false ∨ c ≠ 46) : wordN dg (c :: r) = 0 := by
  unfold wordN
  rw [List.takeWhile_cons, h]
  rcases h2 with rfl | h2
  · simp
  · simp [h2]
theorem wordN_go1 (h : inner c = true) : wordN dg (c :: r) = wordN dg r + 1 := by
  unfold wordN; rw [List.takeWhile_cons, h]; simp
theorem wordN_go2 : wordN true (46 :: r) = wordN true r + 1 := by
  unfold wordN; rw [List.takeWhile_cons]; simp
theorem innerN_stop (h : inner c = false) : innerN (c :: r) = 0 := by simp [innerN, h]
theorem innerN_go (h : inner c = true) : innerN (c :: r) = innerN r + 1 := by simp [innerN, h]
theorem wordN_le (dg : Bool) (r : List UInt8) : wordN dg r ≤ r.length := by
  unfold wordN; exact (List.takeWhile_sublist _).length_le
theorem quoteR_slash : quoteR by_ (92 :: d :: r) = add 2 (quoteR by_ r) := by rw [quoteR, if_pos rfl]
theorem quoteR_feed (h : c ≠ 92) (h2 : feedB c = true) : quoteR by_ (c :: r) = (0, 1) := by
  cases r <;> (unfold quoteR; rw [if_neg h, h2, if_pos rfl])
theorem quoteR_end (h : c ≠ 92) (h2 : feedB c = false) (h3 : c = by_) : quoteR by_ (c :: r) = (1, 2) := by
  cases r <;> (unfold quoteR; rw [if_neg h, h2, if_neg (by simp), if_pos h3])
theorem quoteR_go (h : c ≠ 92) (h2 : feedB c = false) (h3 : c ≠ by_) : (quoteR by_ (c :: r)).2 = (quoteR by_ r).2 ∧ ((quoteR by_ r).2 ≠ 0 → (quoteR by_ (c :: r)).1 = (quoteR by_ r).1 + 1) := by
  cases r with
  | nil => unfold quoteR; rw [if_neg h, h2, if_neg (by simp), if_neg h3]; exact ⟨rfl, fun h => absurd rfl h⟩
  | cons d r => rw [quoteR, if_neg h, h2, if_neg (by simp), if_neg h3]; exact ⟨rfl, fun _ => rfl⟩
theorem graveR_slash : graveR (92 :: d :: r) = add 2 (graveR r) := by rw [graveR, if_pos rfl]
theorem graveR_end (h : c ≠ 92) (h3 : c = 96) : graveR (c :: r) = (1, 2) := by
  cases r <;> (unfold graveR; rw [if_neg h, if_pos h3])
theorem graveR_open : graveR (36 :: 123 :: r) = (2, 3) := by rw [graveR, if_neg (by decide), if_neg (by decide), if_pos ⟨rfl, rfl⟩]
theorem graveR_go (h : c ≠ 92) (h3 : c ≠ 96) (h4 : ¬ (c = 36 ∧ r.head? = some 123)) : (graveR (c :: r)).2 = (graveR r).2 ∧ ((graveR r).2 ≠ 0 → (graveR (c :: r)).1 = (graveR r).1 + 1) := by
  cases r with
  | nil => unfold graveR; rw [if_neg h, if_neg h3]; exact ⟨rfl, fun h => absurd rfl h⟩
  | cons d r => rw [graveR, if_neg h, if_neg h3, if_neg (fun hx => h4 ⟨hx.1, by rw [hx.2]; rfl⟩)]; exact ⟨rfl, fun _ => rfl⟩
theorem patR_slash : patternR k (92 :: d :: r) = add 2 (patternR k r) := by rw [patternR, if_pos rfl]
theorem patR_feed (h : c ≠ 92) (h2 : feedB c = true) : patternR k (c :: r) = (0, 1) := by
  cases r <;> (unfold patternR; rw [if_neg h, h2, if_pos rfl])
theorem patR_end (h2 : feedB 47 = false) : patternR false (47 :: r) = (innerN r + 1, 2) := by
  cases r with
  | nil => unfold patternR; rw [if_neg (by decide), h2, if_neg (by simp), if_pos ⟨rfl, rfl⟩]; rfl
  | cons d r => rw [patternR, if_neg (by decide), h2, if_neg (by simp), if_pos ⟨rfl, rfl⟩]
def patK (k : Bool) (c : UInt8) : Bool := if c = 91 then true else if c = 93 then false else k
theorem patR_go (h : c ≠ 92) (h2 : feedB c = false) (h3 : ¬ (c = 47 ∧ k = false)) : (patternR k (c :: r)).2 = (patternR (patK k c) r).2 ∧ ((patternR (patK k c) r).2 ≠ 0 → (patternR k (c :: r)).1 = (patternR (patK k c) r).1 + 1) := by
  cases r with
  | nil => unfold patternR; rw [if_neg h, h2, if_neg (by simp), if_neg h3]; exact ⟨rfl, fun h => absurd rfl h⟩
  | cons d r =>
    rw [patternR, if_neg h, h2, if_neg (by simp), if_neg h3]
    unfold patK
    split
    · exact ⟨rfl, fun _ => rfl⟩
    split
    · exact ⟨rfl, fun _ => rfl⟩
    · exact ⟨rfl, fun _ => rfl⟩
end
end Tg.Rd
namespace Go.Proofs.YtgnefbngkhjfcaaGreatDoor.Rd
open Go.Lg Tg.Rd
open Tg.Js (w64 letter digit feedB white inner isKeyword signs)
section
variable {H : LH} {b : UInt8} {x y : R} {p a : Nat} {s : List UInt8}
theorem drop_at {i : Nat} (h : i < s.length) : s.drop i = at_ s i :: s.drop (i + 1) := by
  rw [List.drop_eq_getElem_cons h]; simp [at_, h]
theorem wr1 {i : Nat} (h : i ≤ 1048576) : IntKind.i64.wrap ((i : Int) + 1) = ((i + 1 : Nat) : Int) := by rw [wrap64_in (by omega) (by omega)]; omega
theorem wr2 {i : Nat} (h : i ≤ 1048576) : IntKind.i64.wrap ((i : Int) + 2) = ((i + 2 : Nat) : Int) := by rw [wrap64_in (by omega) (by omega)]; omega
/-- a pattern from within -/
def patX (k : Bool) (x : R) (a : Int) (r : List UInt8) : R × Option Nat :=
  if (patternR k r).2 = 2 then (x.ended 1, some (patternR k r).1) else if (patternR k r).2 = 1 then (x.fail (a + (patternR k r).1), none) else (x.stop, none)
/-- a place further on, or that it is over -/
def kv (a : Nat) (o : Option Nat) : Int := match o with | some k => ((a + k : Nat) : Int) | none => -1
theorem qx_shift {r r' : List UInt8} {n : Nat} (h1 : (quoteR b r').2 = (quoteR b r).2) (h2 : (quoteR b r).2 ≠ 0 → (quoteR b r').1 = (quoteR b r).1 + n) : kv a (quoteX x a r' b).2 = kv (a + n) (quoteX x ((a + n : Nat) : Int) r b).2 ∧ (quoteX x a r' b).1 = (quoteX x ((a + n : Nat) : Int) r b).1 := by
  unfold quoteX
  rw [h1]
  split
  · rename_i hx
    rw [h2 (by rw [hx]; simp)]
    exact ⟨by simp [kv]; omega, rfl⟩
  split
  · rename_i hx
    rw [h2 (by rw [hx]; simp)]
    exact ⟨rfl, congrArg x.fail (by omega)⟩
  · exact ⟨rfl, rfl⟩
theorem gx_shift {r r' : List UInt8} {n : Nat} (h1 : (graveR r').2 = (graveR r).2) (h2 : (graveR r).2 ≠ 0 → (graveR r').1 = (graveR r).1 + n) : kv a (graveX x a r').2 = kv (a + n) (graveX x ((a + n : Nat) : Int) r).2 ∧ (graveX x a r').1 = (graveX x ((a + n : Nat) : Int) r).1 := by
  unfold graveX
  rw [h1]
  split
  · rename_i hx
    rw [h2 (by rw [hx]; simp)]
    exact ⟨by simp [kv]; omega, rfl⟩
  split
  · rename_i hx
    rw [h2 (by rw [hx]; simp)]
    split
    · exact ⟨rfl, congrArg x.fail (by omega)⟩
    · exact ⟨by simp [kv]; omega, rfl⟩
  · exact ⟨rfl, rfl⟩
theorem px_shift {k k' : Bool} {r r' : List UInt8} {n : Nat} (h1 : (patternR k' r').2 = (patternR k r).2) (h2 : (patternR k r).2 ≠ 0 → (patternR k' r').1 = (patternR k r).1 + n) : kv a (patX k' x a r').2 = kv (a + n) (patX k x ((a + n : Nat) : Int) r).2 ∧ (patX k' x a r').1 = (patX k x ((a + n : Nat) : Int) r).1 := by
  unfold patX
  rw [h1]
  split
  · rename_i hx
    rw [h2 (by rw [hx]; simp)]
    exact ⟨by simp [kv]; omega, rfl⟩
  split
  · rename_i hx
    rw [h2 (by rw [hx]; simp)]
    exact ⟨rfl, congrArg x.fail (by omega)⟩
  · exact ⟨rfl, rfl⟩
theorem line_l (hp : p < H.n) (hs : s.length ≤ 1000000) (ha : a ≤ s.length) : LC Tryz.prog EJ 90 [ptr p 0, str s, .int .i64 a] (H.set p (rb x)) = some (.int .i64 ((a + (line x (s.drop a)).2 : Nat) : Int), H.set p (rb (line x (s.drop a)).1)) := by
  refine own rfl Tryz.func90 rfl (Nat.le_of_ble_eq_true rfl) (by decide) (by kernel_rfl) hp ?_
  obtain ⟨V, hV⟩ : ∃ V, a + (line x (s.drop a)).2 = V := ⟨_, rfl⟩
  obtain ⟨Y, hY⟩ : ∃ Y, (line x (s.drop a)).1 = Y := ⟨_, rfl⟩
  rw [hV, hY]
  simp
  refine loop_ind (fun (i : Nat) fr' H' => fr' 0 = ptr p 0 ∧ fr' 1 = str s ∧ fr' 2 = .int .i64 i ∧ i ≤ s.length ∧ i + (line x (s.drop i)).2 = V ∧ (line x (s.drop i)).1 = Y ∧ H' = H.set p (rb x)) (fun i => s.length - i) a ⟨by simp, by simp, by simp, ha, hV, hY, rfl⟩ ?_
  rintro i fr' H' ⟨h0, h1, h2, hi, hv, hy, rfl⟩ ih
  have w1 := wr1 (i := i) (by omega)
  by_cases hlt : i < s.length
  · rw [drop_at hlt] at hv hy
    cases hf : feedB (at_ s i) with
    | true =>
      rw [line_stop hf] at hv hy
      simp [h0, h1, h2, hlt, feed_l, hf, hp, w1, ← hv, ← hy]
    | false =>
      rw [line_go hf] at hv hy
      simp [h0, h1, h2, hlt, feed_l, hf, hp, w1]
      exact ih (i + 1) _ _ (by omega) ⟨by simp [h0], by simp [h1], by simp, hlt, by dsimp only at hv; omega, hy, rfl⟩
  · rw [List.drop_eq_nil_of_le (by omega), line_nil] at hv hy
    simp [h0, h1, h2, hlt, hp, ← hv, ← hy]
theorem block_l (hp : p < H.n) (hs : s.length ≤ 1000000) (ha : a ≤ s.length) : LC Tryz.prog EJ 91 [ptr p 0, str s, .int .i64 a] (H.set p (rb x)) = some (.int .i64 (kv a (blockR (s.drop a) x.broken).2), H.set p (rb (if (blockR (s.drop a) x.broken).2 = none then ({ x with broken := (blockR (s.drop a) x.broken).1 } : R).stop else { x with broken := (blockR (s.drop a) x.broken).1 }))) := by
  refine own rfl Tryz.func91 rfl (Nat.le_of_ble_eq_true rfl) (by decide) (by kernel_rfl) hp ?_
  obtain ⟨V, hV⟩ : ∃ V, kv a (blockR (s.drop a) x.broken).2 = V := ⟨_, rfl⟩
  obtain ⟨Y, hY⟩ : ∃ Y, (if (blockR (s.drop a) x.broken).2 = none then ({ x with broken := (blockR (s.drop a) x.broken).1 } : R).stop else { x with broken := (blockR (s.drop a) x.broken).1 }) = Y := ⟨_, rfl⟩
  rw [hV, hY]
  simp
  refine loop_ind (fun (ik : Nat × Bool) fr' H' => fr' 0 = ptr p 0 ∧ fr' 1 = str s ∧ fr' 2 = .int .i64 ik.1 ∧ ik.1 ≤ s.length ∧ kv ik.1 (blockR (s.drop ik.1) ik.2).2 = V ∧ (if (blockR (s.drop ik.1) ik.2).2 = none then ({ x with broken := (blockR (s.drop ik.1) ik.2).1 } : R).stop else { x with broken := (blockR (s.drop ik.1) ik.2).1 }) = Y ∧ H' = H.set p (rb { x with broken := ik.2 })) (fun ik => s.length - ik.1) (a, x.broken) ⟨by simp, by simp, by simp, ha, hV, hY, rfl⟩ ?_
  rintro ⟨i, k⟩ fr' H' ⟨h0, h1, h2, hi, hv, hy, rfl⟩ ih
  dsimp only at h0 h1 h2 hi hv hy ih ⊢
  have w1 := wr1 (i := i) (by omega)
  have w2 := wr2 (i := i) (by omega)
  by_cases hlt : i < s.length
  · rw [drop_at hlt] at hv hy
    by_cases h42 : at_ s i = 42 ∧ (s.drop (i + 1)).head? = some 47
    · rw [blockR, if_pos h42] at hv hy
      have h1lt : i + 1 < s.length := by
        refine Classical.byContradiction (fun hn => ?_)
        rw [List.drop_eq_nil_of_le (by omega)] at h42
        cases h42.2
      rw [drop_at h1lt] at h42
      have f1 := eq_true h42.1
      have f2 : (at_ s ((i : Int) + 1) = 47) = True := eq_true (by have := h42.2; simpa using this)
      have hl1 : ((i : Int) + 1 < (s.length : Int)) = True := eq_true (by omega)
      have hn1 : (0 ≤ (i : Int) + 1) = True := eq_true (by omega)
      simp [h0, h1, h2, hlt, hp, w1, w2, f1, f2, hl1, hn1, ← hv, ← hy, kv]
    · rw [blockR, if_neg h42] at hv hy
      have hv' : kv (i + 1) (blockR (s.drop (i + 1)) (k || feedB (at_ s i))).2 = V := by
        rw [← hv]
        cases (blockR (s.drop (i + 1)) (k || feedB (at_ s i))).2 <;> simp [kv]; omega
      have hy' : (if (blockR (s.drop (i + 1)) (k || feedB (at_ s i))).2 = none then ({ x with broken := (blockR (s.drop (i + 1)) (k || feedB (at_ s i))).1 } : R).stop else { x with broken := (blockR (s.drop (i + 1)) (k || feedB (at_ s i))).1 }) = Y := by
        rw [← hy]
        cases (blockR (s.drop (i + 1)) (k || feedB (at_ s i))).2 <;> simp
      have en : ∀ fr'' : Fr, fr'' 0 = ptr p 0 → fr'' 1 = str s → fr'' 2 = .int .i64 ((i : Int) + 1) → fr'' 0 = ptr p 0 ∧ fr'' 1 = str s ∧ fr'' 2 = .int .i64 ((i + 1 : Nat) : Int) ∧ i + 1 ≤ s.length ∧ kv (i + 1) (blockR (s.drop (i + 1)) (k || feedB (at_ s i))).2 = V ∧ (if (blockR (s.drop (i + 1)) (k || feedB (at_ s i))).2 = none then ({ x with broken := (blockR (s.drop (i + 1)) (k || feedB (at_ s i))).1 } : R).stop else { x with broken := (blockR (s.drop (i + 1)) (k || feedB (at_ s i))).1 }) = Y ∧ H.set p (rb { x with broken := k || feedB (at_ s i) }) = H.set p (rb { x with broken := k || feedB (at_ s i) }) :=
        fun fr'' q0 q1 q2 => ⟨q0, q1, by rw [q2]; rfl, hlt, hv', hy', rfl⟩
      have ms : s.length - (i + 1) < s.length - i := by omega
      by_cases h1lt : i + 1 < s.length
      · have hl1 : ((i : Int) + 1 < (s.length : Int)) = True := eq_true (by omega)
        have hn1 : (0 ≤ (i : Int) + 1) = True := eq_true (by omega)
        by_cases c42 : at_ s i = 42
        · have f1 := eq_true c42
          have f2 : (at_ s ((i : Int) + 1) = 47) = False := eq_false (fun e => h42 ⟨c42, by rw [drop_at h1lt]; simpa using e⟩)
          cases k <;> simp [h0, h1, h2, hlt, hp, w1, w2, f1, f2, hl1, hn1, feed_l] <;> exact ih (i + 1, _) _ _ ms (en _ (by simp [h0]) (by simp [h1]) (by simp))
        · have f1 := eq_false c42
          cases k <;> simp [h0, h1, h2, hlt, hp, w1, w2, f1, hl1, hn1, feed_l] <;> exact ih (i + 1, _) _ _ ms (en _ (by simp [h0]) (by simp [h1]) (by simp))
      · have hl1 : ((i : Int) + 1 < (s.length : Int)) = False := eq_false (by omega)
        cases k <;> simp [h0, h1, h2, hlt, hp, w1, w2, hl1, feed_l] <;> exact ih (i + 1, _) _ _ ms (en _ (by simp [h0]) (by simp [h1]) (by simp))
  · rw [List.drop_eq_nil_of_le (by omega), blockR] at hv hy
    simp [h0, h1, h2, hlt, hp, stop_l, ← hv, ← hy, kv]
theorem quoteP (hp : p < H.n) (hs : s.length ≤ 1000000) (ha : a ≤ s.length) : LC Tryz.prog EJ 56 [ptr p 0, str s, .int .i64 a, .int .u8 b.toNat] (H.set p (rb x)) = some (.int .i64 (kv a (quoteX x a (s.drop a) b).2), H.set p (rb (quoteX x a (s.drop a) b).1)) := by
  refine own rfl Tryz.func56 rfl (Nat.le_of_ble_eq_true rfl) (by decide) (by kernel_rfl) hp ?_
  obtain ⟨V, hV⟩ : ∃ V, kv a (quoteX x a (s.drop a) b).2 = V := ⟨_, rfl⟩
  obtain ⟨Y, hY⟩ : ∃ Y, (quoteX x a (s.drop a) b).1 = Y := ⟨_, rfl⟩
  rw [hV, hY]
  simp
  refine loop_ind (fun (i : Nat) fr' H' => fr' 0 = ptr p 0 ∧ fr' 1 = str s ∧ fr' 2 = .int .i64 i ∧ fr' 3 = .int .u8 b.toNat ∧ i ≤ s.length + 1 ∧ kv i (quoteX x i (s.drop i) b).2 = V ∧ (quoteX x i (s.drop i) b).1 = Y ∧ H' = H.set p (rb x)) (fun i => s.length + 1 - i) a ⟨by simp, by simp, by simp, by simp, by omega, hV, hY, rfl⟩ ?_
  rintro i fr' H' ⟨h0, h1, h2, h3, hi, hv, hy, rfl⟩ ih
  have w1 := wr1 (i := i) (by omega)
  have w11 : IntKind.i64.wrap ((i : Int) + 1 + 1) = ((i + 2 : Nat) : Int) := by rw [wrap64_in (by omega) (by omega)]; omega
  by_cases hlt : i < s.length
  · rw [drop_at hlt] at hv hy
    by_cases c1 : at_ s i = 92
    · have f1 := eq_true c1
      simp [h0, h1, h2, h3, hlt, hp, w1, w11, f1]
      have hsh : kv i (quoteX x i (at_ s i :: s.drop (i + 1)) b).2 = kv (i + 2) (quoteX x ((i + 2 : Nat) : Int) (s.drop (i + 2)) b).2 ∧ (quoteX x i (at_ s i :: s.drop (i + 1)) b).1 = (quoteX x ((i + 2 : Nat) : Int) (s.drop (i + 2)) b).1 := by
        rw [c1]
        by_cases h1lt : i + 1 < s.length
        · rw [drop_at h1lt]
          exact qx_shift (by rw [quoteR_slash]; rfl) (fun _ => by rw [quoteR_slash]; rfl)
        · rw [List.drop_eq_nil_of_le (show s.length ≤ i + 1 by omega), List.drop_eq_nil_of_le (show s.length ≤ i + 2 by omega)]
          exact qx_shift rfl (fun h => absurd rfl h)
      exact ih (i + 2) _ _ (by omega) ⟨by simp [h0], by simp [h1], by simp, by simp [h3], by omega, hsh.1 ▸ hv, hsh.2 ▸ hy, rfl⟩
    · have f1 := eq_false c1
      cases hf : feedB (at_ s i) with
      | true =>
        unfold quoteX at hv hy
        rw [quoteR_feed c1 hf] at hv hy
        simp [h0, h1, h2, h3, hlt, hp, w1, f1, feed_l, hf, fail_l, ← hv, ← hy, kv]
      | false =>
        by_cases c2 : at_ s i = b
        · have f2 := eq_true c2
          unfold quoteX at hv hy
          rw [quoteR_end c1 hf c2] at hv hy
          simp [h0, h1, h2, h3, hlt, hp, w1, f1, feed_l, hf, f2, ended_l, ← hv, ← hy, kv]
        · have f2 := eq_false c2
          simp [h0, h1, h2, h3, hlt, hp, w1, f1, feed_l, hf, f2]
          obtain ⟨g1, g2⟩ := quoteR_go (r := s.drop (i + 1)) c1 hf c2
          have hsh := qx_shift (a := i) (x := x) g1 g2
          exact ih (i + 1) _ _ (by omega) ⟨by simp [h0], by simp [h1], by simp, by simp [h3], by omega, hsh.1 ▸ hv, hsh.2 ▸ hy, rfl⟩
  · rw [List.drop_eq_nil_of_le (by omega)] at hv hy
    simp [h0, h1, h2, hlt, hp, stop_l, ← hv, ← hy, kv, quoteX, quoteR]
set_option maxHeartbeats 1000000 in
theorem graveP (ho : x.opn.length ≤ 1000) (hp : p < H.n) (hs : s.length ≤ 1000000) (ha : a ≤ s.length) : LC Tryz.prog EJ 57 [ptr p 0, str s, .int .i64 a] (H.set p (rb x)) = some (.int .i64 (kv a (graveX x a (s.drop a)).2), H.set p (rb (graveX x a (s.drop a)).1)) := by
  refine own rfl Tryz.func57 rfl (Nat.le_of_ble_eq_true rfl) (by decide) (by kernel_rfl) hp ?_
  obtain ⟨V, hV⟩ : ∃ V, kv a (graveX x a (s.drop a)).2 = V := ⟨_, rfl⟩
  obtain ⟨Y, hY⟩ : ∃ Y, (graveX x a (s.drop a)).1 = Y := ⟨_, rfl⟩
  rw [hV, hY]
  simp
  refine loop_ind (fun (i : Nat) fr' H' => fr' 0 = ptr p 0 ∧ fr' 1 = str s ∧ fr' 2 = .int .i64 i ∧ i ≤ s.length + 1 ∧ kv i (graveX x i (s.drop i)).2 = V ∧ (graveX x i (s.drop i)).1 = Y ∧ H' = H.set p (rb x)) (fun i => s.length + 1 - i) a ⟨by simp, by simp, by simp, by omega, hV, hY, rfl⟩ ?_
  rintro i fr' H' ⟨h0, h1, h2, hi, hv, hy, rfl⟩ ih
  have w1 := wr1 (i := i) (by omega)
  have w2 := wr2 (i := i) (by omega)
  have w11 : IntKind.i64.wrap ((i : Int) + 1 + 1) = ((i + 2 : Nat) : Int) := by rw [wrap64_in (by omega) (by omega)]; omega
  by_cases hlt : i < s.length
  · rw [drop_at hlt] at hv hy
    by_cases c1 : at_ s i = 92
    · have f1 := eq_true c1
      simp [h0, h1, h2, hlt, hp, w1, w11, f1]
      have hsh : kv i (graveX x i (at_ s i :: s.drop (i + 1))).2 = kv (i + 2) (graveX x ((i + 2 : Nat) : Int) (s.drop (i + 2))).2 ∧ (graveX x i (at_ s i :: s.drop (i + 1))).1 = (graveX x ((i + 2 : Nat) : Int) (s.drop (i + 2))).1 := by
        rw [c1]
        by_cases h1lt : i + 1 < s.length
        · rw [drop_at h1lt]
          exact gx_shift (by rw [graveR_slash]; rfl) (fun _ => by rw [graveR_slash]; rfl)
        · rw [List.drop_eq_nil_of_le (show s.length ≤ i + 1 by omega), List.drop_eq_nil_of_le (show s.length ≤ i + 2 by omega)]
          exact gx_shift rfl (fun h => absurd rfl h)
      exact ih (i + 2) _ _ (by omega) ⟨by simp [h0], by simp [h1], by simp, by omega, hsh.1 ▸ hv, hsh.2 ▸ hy, rfl⟩
    · have f1 := eq_false c1
      by_cases c2 : at_ s i = 96
      · have f2 := eq_true c2
        unfold graveX at hv hy
        rw [graveR_end c1 c2] at hv hy
        simp [h0, h1, h2, hlt, hp, w1, f1, f2, ended_l, ← hv, ← hy, kv]
      · have f2 := eq_false c2
        have go : ¬ (at_ s i = 36 ∧ (s.drop (i + 1)).head? = some 123) → kv (i + 1) (graveX x ((i + 1 : Nat) : Int) (s.drop (i + 1))).2 = V ∧ (graveX x ((i + 1 : Nat) : Int) (s.drop (i + 1))).1 = Y := fun hx => by
          obtain ⟨g1, g2⟩ := graveR_go (r := s.drop (i + 1)) c1 c2 hx
          have hsh := gx_shift (a := i) (x := x) g1 g2
          exact ⟨hsh.1 ▸ hv, hsh.2 ▸ hy⟩
        by_cases h1lt : i + 1 < s.length
        · have hl1 : ((i : Int) + 1 < (s.length : Int)) = True := eq_true (by omega)
          have hn1 : (0 ≤ (i : Int) + 1) = True := eq_true (by omega)
          by_cases c3 : at_ s i = 36
          · have f3 := eq_true c3
            by_cases c4 : at_ s ((i : Int) + 1) = 123
            · have f4 := eq_true c4
              have c4' : at_ s ((i + 1 : Nat) : Int) = 123 := c4
              rw [c3, drop_at h1lt, c4'] at hv hy
              unfold graveX at hv hy
              rw [graveR_open] at hv hy
              by_cases c5 : (x.opn.length : Int) = x.depth
              · have f5 := eq_true c5
                rw [if_neg (by decide), if_pos rfl, if_pos c5] at hv hy
                have e : (i : Int) + ((2 : Nat) : Int) - 1 = (i : Int) + 1 := by omega
                simp [h0, h1, h2, hlt, hp, w1, w2, f1, f2, f3, f4, f5, hl1, hn1, fail_l, ← hv, ← hy, kv]
                try exact congrArg (fun z => H.set p (rb (x.fail z))) (by omega)
              · have f5 := eq_false c5
                rw [if_neg (by decide), if_pos rfl, if_neg c5] at hv hy
                simp [h0, h1, h2, hlt, hp, w1, w2, f1, f2, f3, f4, f5, hl1, hn1, ended_l, (show x.opn.length ≤ 9223372036854775806 by omega), ← hv, ← hy, kv]
            · have f4 := eq_false c4
              obtain ⟨g1, g2⟩ := go (fun hx => by have := hx.2; rw [drop_at h1lt] at this; exact c4 (by simpa using this))
              simp [h0, h1, h2, hlt, hp, w1, w2, f1, f2, f3, f4, hl1, hn1]
              exact ih (i + 1) _ _ (by omega) ⟨by simp [h0], by simp [h1], by simp, by omega, g1, g2, rfl⟩
          · have f3 := eq_false c3
            obtain ⟨g1, g2⟩ := go (fun hx => c3 hx.1)
            simp [h0, h1, h2, hlt, hp, w1, w2, f1, f2, f3, hl1, hn1]
            exact ih (i + 1) _ _ (by omega) ⟨by simp [h0], by simp [h1], by simp, by omega, g1, g2, rfl⟩
        · have hl1 : ((i : Int) + 1 < (s.length : Int)) = False := eq_false (by omega)
          obtain ⟨g1, g2⟩ := go (fun hx => by have := hx.2; rw [List.drop_eq_nil_of_le (by omega)] at this; cases this)
          by_cases c3 : at_ s i = 36
          · have f3 := eq_true c3
            simp [h0, h1, h2, hlt, hp, w1, w2, f1, f2, f3, hl1]
            exact ih (i + 1) _ _ (by omega) ⟨by simp [h0], by simp [h1], by simp, by omega, g1, g2, rfl⟩
          · have f3 := eq_false c3
            simp [h0, h1, h2, hlt, hp, w1, w2, f1, f2, f3, hl1]
            exact ih (i + 1) _ _ (by omega) ⟨by simp [h0], by simp [h1], by simp, by omega, g1, g2, rfl⟩
  · rw [List.drop_eq_nil_of_le (by omega)] at hv hy
    simp [h0, h1, h2, hlt, hp, stop_l, ← hv, ← hy, kv, graveX, graveR]
end
end Go.Proofs.YtgnefbngkhjfcaaGreatDoor.Rd
/-
  The reference of layer 28: words, patterns, what begins with a slash, a less sign.
-/
set_option linter.unusedSimpArgs false
set_option linter.unusedVariables false
set_option maxRecDepth 100000
namespace Go.Proofs.YtgnefbngkhjfcaaGreatDoor.Rd
open Go.Lg Tg.Rd
open Tg.Js (w64 letter digit feedB white inner isKeyword signs)
section
variable {H : LH} {b : UInt8} {x y : R} {p a : Nat} {s : List UInt8}
theorem sub_take {i j : Nat} (h : i ≤ j) : sub s (i : Int) (j : Int) = (s.drop i).take (j - i) := by
  unfold sub
  rw [show ((i : Int)).toNat = i by omega, show ((j : Int)).toNat = j by omega, List.drop_take]
set_option maxHeartbeats 1000000 in
theorem wordP (hd : ∀ l, H.n ≤ l → H.get l = none) (hp : p < H.n) (hs : s.length ≤ 1000000) (ha : a < s.length) : LC Tryz.prog EJ 53 [ptr p 0, str s, .int .i64 a] (H.set p (rb x)) = some (.int .i64 (kv a (wordX x a (s.drop a)).2), H.set p (rb (wordX x a (s.drop a)).1)) := by
  refine own rfl Tryz.func53 rfl (Nat.le_of_ble_eq_true rfl) (by decide) (by kernel_rfl) hp ?_
  unfold wordX
  cases hj : x.joined with
  | true =>
    simp [hp, joined_l, hj, fail_l, kv]
  | false =>
    have hh : (s.drop a).headD 0 = at_ s a := by rw [drop_at ha]; rfl
    rw [hh]
    obtain ⟨N, hN⟩ : ∃ N, wordN (digit (at_ s a)) (s.drop a) = N := ⟨_, rfl⟩
    rw [hN]
    have hNl : a + N ≤ s.length := by
      have := wordN_le (digit (at_ s a)) (s.drop a)
      rw [hN] at this; simp at this; omega
    have hpc : rb { x with pieces := IntKind.i64.wrap (x.pieces + 1) } = rb x.piece := rfl
    simp [hp, joined_l, hj, hpc]
    refine loop_ind (fun (i : Nat) fr' H' => fr' 0 = ptr p 0 ∧ fr' 1 = str s ∧ fr' 2 = .int .i64 a ∧ fr' 7 = .int .i64 i ∧ i ≤ s.length ∧ a ≤ i ∧ i + wordN (digit (at_ s a)) (s.drop i) = a + N ∧ H' = H.set p (rb x.piece)) (fun i => s.length - i) a ⟨by simp, by simp, by simp, by simp, by omega, by omega, by omega, rfl⟩ ?_
    rintro i fr' H' ⟨h0, h1, h2, h7, hi, hai, hn, rfl⟩ ih
    have w1 := wr1 (i := i) (by omega)
    have fin : wordN (digit (at_ s a)) (s.drop i) = 0 → i = a + N := fun h => by omega
    have hkw := fun (u : List UInt8) => Go.Proofs.YtgnefbngkhjfcaaGreatDoor.refKeyword_l (H := H.set p (rb x.piece)) (s := u) (fun l hl => by
      have hl' : H.n ≤ l := hl
      rw [get_set_ne (by omega)]; exact hd l hl')
    have fn : i = a + N → ∀ {P' : Prop}, (∀ u, u = (s.drop a).take N → sub s (a : Int) (i : Int) = u → P') → P' := fun e P' h => h _ rfl (by rw [sub_take hai, e]; congr 1; omega)
    have hai' : ((a : Int) ≤ (i : Int)) = True := eq_true (by omega)
    have hi' : ((i : Int) ≤ (s.length : Int)) = True := eq_true (by omega)
    have ha' : ((a : Int) < (s.length : Int)) = True := eq_true (by omega)
    by_cases hlt : i < s.length
    · rw [drop_at hlt] at hn fin
      cases hin : inner (at_ s i) with
      | true =>
        rw [wordN_go1 hin] at hn
        simp [h0, h1, h2, h7, hlt, inner_l, hin, w1]
        exact ih (i + 1) _ _ (by omega) ⟨by simp [h0], by simp [h1], by simp [h2], by simp, by omega, by omega, by omega, rfl⟩
      | false =>
        by_cases hc : digit (at_ s a) = true ∧ at_ s i = 46
        · obtain ⟨c1, c2⟩ := hc
          have f2 := eq_true c2
          rw [c1, c2, wordN_go2, ← c1] at hn
          simp [h0, h1, h2, h7, hlt, inner_l, hin, w1, Digit_l, c1, f2, ha']
          exact ih (i + 1) _ _ (by omega) ⟨by simp [h0], by simp [h1], by simp [h2], by simp, by omega, by omega, by omega, rfl⟩
        · have hz : wordN (digit (at_ s a)) (at_ s i :: s.drop (i + 1)) = 0 := wordN_stop hin (by
            cases hdg : digit (at_ s a) with
            | false => exact .inl rfl
            | true => exact .inr (fun e => hc ⟨hdg, e⟩))
          have he := fin hz
          refine fn he (fun u hu hsu => ?_)
          rw [← hu]
          have hk := hkw u
          cases hdg : digit (at_ s a) with
          | false =>
            cases hq : isKeyword u <;> simp [h0, h1, h2, h7, hlt, inner_l, hin, w1, Digit_l, hdg, ha', hsu, hai', hi', hk, hq, hp, ended_l, kv]
            all_goals omega
          | true =>
            have f2 := eq_false (fun e => hc ⟨hdg, e⟩)
            cases hq : isKeyword u <;> simp [h0, h1, h2, h7, hlt, inner_l, hin, w1, Digit_l, hdg, f2, ha', hsu, hai', hi', hk, hq, hp, ended_l, kv]
            all_goals omega
    · have hz : wordN (digit (at_ s a)) (s.drop i) = 0 := by rw [List.drop_eq_nil_of_le (by omega)]; rfl
      have he := fin hz
      refine fn he (fun u hu hsu => ?_)
      rw [← hu]
      have hk := hkw u
      cases hq : isKeyword u <;> simp [h0, h1, h2, h7, hlt, hsu, hai', hi', hk, hq, hp, ended_l, kv]
      all_goals omega
end
end Go.Proofs.YtgnefbngkhjfcaaGreatDoor.Rd
/-
  The reference of layer 28: patterns, what begins with a slash, a less sign.
-/
set_option linter.unusedSimpArgs false
set_option linter.unusedVariables false
set_option maxRecDepth 100000
namespace Go.Proofs.YtgnefbngkhjfcaaGreatDoor.Rd
open Go.Lg Tg.Rd
open Tg.Js (w64 letter digit feedB white inner isKeyword signs)
section
variable {H : LH} {b : UInt8} {x y : R} {p a : Nat} {s : List UInt8}
theorem innerN_le (r : List UInt8) : innerN r ≤ r.length := by
  unfold innerN; exact (List.takeWhile_sublist _).length_le
set_option maxHeartbeats 1000000 in
theorem patternP (hp : p < H.n) (hs : s.length ≤ 1000000) (ha : a ≤ s.length) : LC Tryz.prog EJ 92 [ptr p 0, str s, .int .i64 a] (H.set p (rb x)) = some (.int .i64 (kv a (patternX x a (s.drop a)).2), H.set p (rb (patternX x a (s.drop a)).1)) := by
  refine own rfl Tryz.func92 rfl (Nat.le_of_ble_eq_true rfl) (by decide) (by kernel_rfl) hp ?_
  rw [show patternX x a (s.drop a) = patX false x a (s.drop a) from rfl]
  obtain ⟨V, hV⟩ : ∃ V, kv a (patX false x a (s.drop a)).2 = V := ⟨_, rfl⟩
  obtain ⟨Y, hY⟩ : ∃ Y, (patX false x a (s.drop a)).1 = Y := ⟨_, rfl⟩
  rw [hV, hY]
  simp
  refine loop_ind (fun (ik : Nat × Bool) fr' H' => fr' 0 = ptr p 0 ∧ fr' 1 = str s ∧ fr' 2 = .int .i64 ik.1 ∧ fr' 7 = .bool ik.2 ∧ ik.1 ≤ s.length + 1 ∧ kv ik.1 (patX ik.2 x ik.1 (s.drop ik.1)).2 = V ∧ (patX ik.2 x ik.1 (s.drop ik.1)).1 = Y ∧ H' = H.set p (rb x)) (fun ik => s.length + 1 - ik.1) (a, false) ⟨by simp, by simp, by simp, by simp, by omega, hV, hY, rfl⟩ ?_
  rintro ⟨i, k⟩ fr' H' ⟨h0, h1, h2, h7, hi, hv, hy, rfl⟩ ih
  dsimp only at h0 h1 h2 h7 hi hv hy ih ⊢
  have w1 := wr1 (i := i) (by omega)
  have w11 : IntKind.i64.wrap ((i : Int) + 1 + 1) = ((i + 2 : Nat) : Int) := by rw [wrap64_in (by omega) (by omega)]; omega
  have en : ∀ (n : Nat) (k' : Bool) (fr'' : Fr), fr'' 0 = ptr p 0 → fr'' 1 = str s → fr'' 2 = .int .i64 ((i + n : Nat) : Int) → fr'' 7 = .bool k' → i + n ≤ s.length + 1 → (patternR k (s.drop i)).2 = (patternR k' (s.drop (i + n))).2 → ((patternR k' (s.drop (i + n))).2 ≠ 0 → (patternR k (s.drop i)).1 = (patternR k' (s.drop (i + n))).1 + n) →
      fr'' 0 = ptr p 0 ∧ fr'' 1 = str s ∧ fr'' 2 = .int .i64 ((i + n : Nat) : Int) ∧ fr'' 7 = .bool k' ∧ i + n ≤ s.length + 1 ∧ kv (i + n) (patX k' x ((i + n : Nat) : Int) (s.drop (i + n))).2 = V ∧ (patX k' x ((i + n : Nat) : Int) (s.drop (i + n))).1 = Y ∧ H.set p (rb x) = H.set p (rb x) :=
    fun n k' fr'' q0 q1 q2 q7 q8 g1 g2 => by
      have hsh := px_shift (a := i) (x := x) g1 g2
      exact ⟨q0, q1, q2, q7, q8, hsh.1 ▸ hv, hsh.2 ▸ hy, rfl⟩
  by_cases hlt : i < s.length
  · have hda := drop_at hlt
    by_cases c1 : at_ s i = 92
    · have f1 := eq_true c1
      simp [h0, h1, h2, hlt, hp, w1, w11, f1]
      refine ih (i + 2, k) _ _ (by show s.length + 1 - (i + 2) < s.length + 1 - i; omega) (en 2 k _ (by simp [h0]) (by simp [h1]) (by simp) (by simp [h7]) (by omega) ?_ ?_)
      · rw [hda, c1]
        by_cases h1lt : i + 1 < s.length
        · rw [drop_at h1lt, patR_slash]; rfl
        · rw [List.drop_eq_nil_of_le (show s.length ≤ i + 1 by omega), List.drop_eq_nil_of_le (show s.length ≤ i + 2 by omega)]; rfl
      · rw [hda, c1]
        by_cases h1lt : i + 1 < s.length
        · rw [drop_at h1lt, patR_slash]; exact fun _ => rfl
        · rw [List.drop_eq_nil_of_le (show s.length ≤ i + 1 by omega), List.drop_eq_nil_of_le (show s.length ≤ i + 2 by omega)]; exact fun h => absurd rfl h
    · have f1 := eq_false c1
      cases hf : feedB (at_ s i) with
      | true =>
        rw [hda] at hv hy
        unfold patX at hv hy
        rw [patR_feed c1 hf] at hv hy
        simp [h0, h1, h2, hlt, hp, w1, f1, feed_l, hf, fail_l, ← hv, ← hy, kv]
      | false =>
        by_cases c2 : at_ s i = 47 ∧ k = false
        · obtain ⟨c2, rfl⟩ := c2
          have f2 := eq_true c2
          rw [hda, c2] at hv hy
          unfold patX at hv hy
          rw [patR_end (by decide)] at hv hy
          rw [if_pos rfl] at hv hy
          simp [h0, h1, h2, h7, hlt, hp, w1, f1, feed_l, hf, f2]
          have hle := innerN_le (s.drop (i + 1))
          simp only [List.length_drop] at hle
          refine loop_ind (fun (j : Nat) fr' H' => fr' 0 = ptr p 0 ∧ fr' 1 = str s ∧ fr' 2 = .int .i64 j ∧ j ≤ s.length ∧ j + innerN (s.drop j) = i + 1 + innerN (s.drop (i + 1)) ∧ H' = H.set p (rb x)) (fun j => s.length - j) (i + 1) ⟨by simp [h0], by simp [h1], by simp, by omega, by omega, rfl⟩ ?_
          rintro j fr2 H' ⟨g0, g1, g2, hj, hjn, rfl⟩ ih2
          have w1' := wr1 (i := j) (by omega)
          have done : innerN (s.drop j) = 0 → V = ((j : Nat) : Int) := fun h => by rw [← hv]; simp [kv]; omega
          by_cases hjl : j < s.length
          · rw [drop_at hjl] at hjn done
            cases hin : inner (at_ s j) with
            | true =>
              rw [innerN_go hin] at hjn
              simp [g0, g1, g2, hjl, inner_l, hin, w1']
              exact ih2 (j + 1) _ _ (by omega) ⟨by simp [g0], by simp [g1], by simp, by omega, by omega, rfl⟩
            | false =>
              have hd := done (innerN_stop hin)
              simp [g0, g1, g2, hjl, inner_l, hin, hp, ended_l, hd, ← hy]
          · have hd := done (by rw [List.drop_eq_nil_of_le (by omega)]; rfl)
            simp [g0, g1, g2, hjl, hp, ended_l, hd, ← hy]
        · obtain ⟨g1, g2⟩ := patR_go (r := s.drop (i + 1)) c1 hf c2
          rw [← hda] at g1 g2
          by_cases c4 : at_ s i = 47
          · have hk : k = true := by cases k; exact absurd ⟨c4, rfl⟩ c2; rfl
            subst hk
            have f2 := eq_true c4
            have f3 : (at_ s i = 91) = False := eq_false (by rw [c4]; decide)
            have f4 : (at_ s i = 93) = False := eq_false (by rw [c4]; decide)
            have hk2 : patK true (at_ s i) = true := by rw [c4]; rfl
            rw [hk2] at g1 g2
            simp [h0, h1, h2, h7, hlt, hp, w1, f1, feed_l, hf, f2, f3, f4]
            exact ih (i + 1, true) _ _ (by show s.length + 1 - (i + 1) < s.length + 1 - i; omega) (en 1 true _ (by simp [h0]) (by simp [h1]) (by simp) (by simp [h7]) (by omega) g1 g2)
          · have f2 := eq_false c4
            by_cases c5 : at_ s i = 91
            · have f3 := eq_true c5
              have hk2 : patK k (at_ s i) = true := by rw [c5]; rfl
              rw [hk2] at g1 g2
              simp [h0, h1, h2, h7, hlt, hp, w1, f1, feed_l, hf, f2, f3]
              exact ih (i + 1, true) _ _ (by show s.length + 1 - (i + 1) < s.length + 1 - i; omega) (en 1 true _ (by simp [h0]) (by simp [h1]) (by simp) (by simp) (by omega) g1 g2)
            · have f3 := eq_false c5
              by_cases c6 : at_ s i = 93
              · have f4 := eq_true c6
                have hk2 : patK k (at_ s i) = false := by rw [c6]; rfl
                rw [hk2] at g1 g2
                simp [h0, h1, h2, h7, hlt, hp, w1, f1, feed_l, hf, f2, f3, f4]
                exact ih (i + 1, false) _ _ (by show s.length + 1 - (i + 1) < s.length + 1 - i; omega) (en 1 false _ (by simp [h0]) (by simp [h1]) (by simp) (by simp) (by omega) g1 g2)
              · have f4 := eq_false c6
                have hk2 : patK k (at_ s i) = k := by unfold patK; rw [if_neg c5, if_neg c6]
                rw [hk2] at g1 g2
                simp [h0, h1, h2, h7, hlt, hp, w1, f1, feed_l, hf, f2, f3, f4]
                exact ih (i + 1, k) _ _ (by show s.length + 1 - (i + 1) < s.length + 1 - i; omega) (en 1 k _ (by simp [h0]) (by simp [h1]) (by simp) (by simp [h7]) (by omega) g1 g2)
  · rw [List.drop_eq_nil_of_le (by omega)] at hv hy
    simp [h0, h1, h2, hlt, hp, stop_l, ← hv, ← hy, kv, patX, patternR]
end
end Go.Proofs.YtgnefbngkhjfcaaGreatDoor.Rd
/-
  The reference of layer 28: what begins with a slash, a less sign; signs.
-/
set_option linter.unusedSimpArgs false
set_option linter.unusedVariables false
set_option maxRecDepth 100000
namespace Go.Proofs.YtgnefbngkhjfcaaGreatDoor.Rd
open Go.Lg Tg.Rd
open Tg.Js (w64 letter digit feedB white inner isKeyword signs)
section
variable {H : LH} {b : UInt8} {x y : R} {p a : Nat} {s : List UInt8}
theorem wr3 {i : Nat} (h : i ≤ 1048576) : IntKind.i64.wrap ((i : Int) + 3) = ((i + 3 : Nat) : Int) := by rw [wrap64_in (by omega) (by omega)]; omega
theorem wr4 {i : Nat} (h : i ≤ 1048576) : IntKind.i64.wrap ((i : Int) + 4) = ((i + 4 : Nat) : Int) := by rw [wrap64_in (by omega) (by omega)]; omega
theorem kv_map {o : Option Nat} {n : Nat} : kv a (o.map (· + n)) = kv (a + n) o := by
  cases o <;> simp [kv]; omega
theorem piece_eq : rb { x with pieces := IntKind.i64.wrap (x.pieces + 1) } = rb x.piece := rfl
theorem slashP (hp : p < H.n) (hs : s.length ≤ 1000000) (ha : a < s.length) (h47 : at_ s a = 47) : LC Tryz.prog EJ 58 [ptr p 0, str s, .int .i64 a] (H.set p (rb x)) = some (.int .i64 (kv a (slashX x a (s.drop a)).2), H.set p (rb (slashX x a (s.drop a)).1)) := by
  refine own rfl Tryz.func58 rfl (Nat.le_of_ble_eq_true rfl) (by decide) (by kernel_rfl) hp ?_
  have w1 := wr1 (i := a) (by omega)
  have w2 := wr2 (i := a) (by omega)
  rw [drop_at ha]
  by_cases h1lt : a + 1 < s.length
  · have hne : ((a : Int) + 1 = (s.length : Int)) = False := eq_false (by omega)
    have hl1 : ((a : Int) + 1 < (s.length : Int)) = True := eq_true (by omega)
    have hn1 : (0 ≤ (a : Int) + 1) = True := eq_true (by omega)
    rw [drop_at h1lt]
    have hc : at_ s ((a + 1 : Nat) : Int) = at_ s ((a : Int) + 1) := rfl
    rw [hc]
    unfold slashX
    dsimp only
    by_cases c1 : at_ s ((a : Int) + 1) = 47
    · have f1 := eq_true c1
      rw [if_pos c1]
      have hl := line_l (x := x) (s := s) (a := a + 2) hp hs (by omega)
      rw [show a + 1 + 1 = a + 2 by omega]
      simp [hp, w1, w2, hne, hl1, hn1, f1] at hl ⊢
      simp [hl, kv]; omega
    rw [if_neg c1]
    have f1 := eq_false c1
    by_cases c2 : at_ s ((a : Int) + 1) = 42
    · have f2 := eq_true c2
      rw [if_pos c2]
      have hl := block_l (x := x) (s := s) (a := a + 2) hp hs (by omega)
      have ka : ∀ o, kv a (o.map (· + 2)) = kv (a + 2) o := fun o => kv_map
      rw [show a + 1 + 1 = a + 2 by omega]
      cases hb : blockR (s.drop (a + 2)) x.broken with
      | mk k o =>
        rw [hb] at hl
        cases o with
        | none => simp [hp, w1, w2, hne, hl1, hn1, f1, f2] at hl ⊢; simp [hl, kv]
        | some n => simp [hp, w1, w2, hne, hl1, hn1, f1, f2] at hl ⊢; simp [hl, kv]; omega
    rw [if_neg c2]
    have f2 := eq_false c2
    by_cases c3 : x.last = 0
    · have f3 : (x.piece.last = 0) = True := eq_true c3
      rw [if_neg (by simp [c3])]
      have hl := patternP (x := x.piece) (s := s) (a := a + 1) hp hs (by omega)
      rw [drop_at h1lt, hc] at hl
      have e1 : ((a + 1 : Nat) : Int) = (a : Int) + 1 := rfl
      simp [hp, w1, w2, hne, hl1, hn1, f1, f2, f3, piece_eq, kv_map, e1] at hl ⊢
      simp [hl]
    · have f3 : (x.piece.last = 0) = False := eq_false c3
      rw [if_pos c3]
      simp [hp, w1, w2, hne, hl1, hn1, f1, f2, f3, piece_eq, ended_l, kv]
  · have hne : ((a : Int) + 1 = (s.length : Int)) = True := eq_true (by omega)
    rw [List.drop_eq_nil_of_le (show s.length ≤ a + 1 by omega)]
    simp [hp, w1, hne, stop_l, slashX, kv]
theorem lessP (hp : p < H.n) (hs : s.length ≤ 1000000) (ha : a < s.length) : LC Tryz.prog EJ 59 [ptr p 0, str s, .int .i64 a] (H.set p (rb x)) = some (.int .i64 (kv a (lessX x a (s.drop a)).2), H.set p (rb (lessX x a (s.drop a)).1)) := by
  refine own rfl Tryz.func59 rfl (Nat.le_of_ble_eq_true rfl) (by decide) (by kernel_rfl) hp ?_
  have w1 := wr1 (i := a) (by omega)
  have w2 := wr2 (i := a) (by omega)
  have w3 := wr3 (i := a) (by omega)
  have w4 := wr4 (i := a) (by omega)
  have k1 : at_ [60, 33, 45, 45] 1 = 33 := rfl
  have k2 : at_ [60, 33, 45, 45] 2 = 45 := rfl
  have k3 : at_ [60, 33, 45, 45] 3 = 45 := rfl
  have n1 : (0 ≤ (a : Int) + 1) = True := eq_true (by omega)
  have n2 : (0 ≤ (a : Int) + 2) = True := eq_true (by omega)
  have n3 : (0 ≤ (a : Int) + 3) = True := eq_true (by omega)
  have v1 : IntKind.i64.wrap (1 + 1) = 2 := by decide
  have v2 : IntKind.i64.wrap (2 + 1) = 3 := by decide
  have v3 : IntKind.i64.wrap (3 + 1) = 4 := by decide
  rw [drop_at ha]
  by_cases h1 : a + 1 < s.length
  · have e1 : ((a : Int) + 1 = (s.length : Int)) = False := eq_false (by omega)
    have l1 : ((a : Int) + 1 < (s.length : Int)) = True := eq_true (by omega)
    rw [drop_at h1, show at_ s ((a + 1 : Nat) : Int) = at_ s ((a : Int) + 1) from rfl]
    by_cases c1 : at_ s ((a : Int) + 1) = 33
    · have f1 := eq_true c1
      by_cases h2 : a + 1 + 1 < s.length
      · have e2 : ((a : Int) + 2 = (s.length : Int)) = False := eq_false (by omega)
        have l2 : ((a : Int) + 2 < (s.length : Int)) = True := eq_true (by omega)
        rw [drop_at h2, show at_ s ((a + 1 + 1 : Nat) : Int) = at_ s ((a : Int) + 2) by congr 1]
        by_cases c2 : at_ s ((a : Int) + 2) = 45
        · have f2 := eq_true c2
          by_cases h3 : a + 1 + 1 + 1 < s.length
          · have e3 : ((a : Int) + 3 = (s.length : Int)) = False := eq_false (by omega)
            have l3 : ((a : Int) + 3 < (s.length : Int)) = True := eq_true (by omega)
            rw [drop_at h3, show at_ s ((a + 1 + 1 + 1 : Nat) : Int) = at_ s ((a : Int) + 3) by congr 1]
            unfold lessX
            dsimp only
            rw [if_neg (by simp [c1]), if_neg (by simp [c2])]
            by_cases c3 : at_ s ((a : Int) + 3) = 45
            · have f3 := eq_true c3
              rw [if_neg (by simp [c3])]
              have hl := line_l (x := x) (s := s) (a := a + 4) hp hs (by omega)
              rw [show a + 1 + 1 + 1 + 1 = a + 4 by omega]
              simp at hl
              simp
              rw [runs_loop, runs_inLoop]
              simp [hp, w1, e1, l1, n1, k1, f1, v1]
              rw [runs_inLoop]
              simp [hp, w2, e2, l2, n2, k2, f2, v2]
              rw [runs_inLoop]
              simp [hp, w3, e3, l3, n3, k3, f3, v3]
              rw [runs_inLoop]
              simp [hp, w4, hl, kv]; omega
            · have f3 := eq_false c3
              rw [if_pos c3]
              simp
              rw [runs_loop, runs_inLoop]
              simp [hp, w1, e1, l1, n1, k1, f1, v1]
              rw [runs_inLoop]
              simp [hp, w2, e2, l2, n2, k2, f2, v2]
              rw [runs_inLoop]
              simp [hp, w3, e3, l3, n3, k3, f3, v3, fail_l, kv]
          · have e3 : ((a : Int) + 3 = (s.length : Int)) = True := eq_true (by omega)
            rw [List.drop_eq_nil_of_le (show s.length ≤ a + 1 + 1 + 1 by omega)]
            unfold lessX
            dsimp only
            rw [if_neg (by simp [c1]), if_neg (by simp [c2])]
            simp
            rw [runs_loop, runs_inLoop]
            simp [hp, w1, e1, l1, n1, k1, f1, v1]
            rw [runs_inLoop]
            simp [hp, w2, e2, l2, n2, k2, f2, v2]
            rw [runs_inLoop]
            simp [hp, w3, e3, stop_l, kv]
        · have f2 := eq_false c2
          have e : lessX x a (at_ s a :: at_ s ((a : Int) + 1) :: at_ s ((a : Int) + 2) :: s.drop (a + 1 + 1 + 1)) = (x.fail (a + 2), none) := by
            cases s.drop (a + 1 + 1 + 1) <;> (unfold lessX; dsimp only; rw [if_neg (by simp [c1]), if_pos c2])
          rw [e]
          simp
          rw [runs_loop, runs_inLoop]
          simp [hp, w1, e1, l1, n1, k1, f1, v1]
          rw [runs_inLoop]
          simp [hp, w2, e2, l2, n2, k2, f2, v2, fail_l, kv]
      · have e2 : ((a : Int) + 2 = (s.length : Int)) = True := eq_true (by omega)
        rw [List.drop_eq_nil_of_le (show s.length ≤ a + 1 + 1 by omega)]
        unfold lessX
        dsimp only
        rw [if_neg (by simp [c1])]
        simp
        rw [runs_loop, runs_inLoop]
        simp [hp, w1, e1, l1, n1, k1, f1, v1]
        rw [runs_inLoop]
        simp [hp, w2, e2, stop_l, kv]
    · have f1 := eq_false c1
      have e : lessX x a (at_ s a :: at_ s ((a : Int) + 1) :: s.drop (a + 1 + 1)) = (x.fail (a + 1), none) := by
        match s.drop (a + 1 + 1) with
        | [] => unfold lessX; dsimp only; rw [if_pos c1]
        | [_] => unfold lessX; dsimp only; rw [if_pos c1]
        | _ :: _ :: _ => unfold lessX; dsimp only; rw [if_pos c1]
      rw [e]
      simp
      rw [runs_loop, runs_inLoop]
      simp [hp, w1, e1, l1, n1, k1, f1, fail_l, kv]
  · have e1 : ((a : Int) + 1 = (s.length : Int)) = True := eq_true (by omega)
    rw [List.drop_eq_nil_of_le (show s.length ≤ a + 1 by omega)]
    simp
    rw [runs_loop, runs_inLoop]
    simp [hp, w1, e1, stop_l, kv, lessX]
theorem opn_last {xs : List UInt8} {t : UInt8} (h : x.opn = xs ++ [t]) : x.opn.getLast? = some t ∧ x.opn.dropLast = xs ∧ x.opn.length = xs.length + 1 ∧ at_ x.opn (xs.length : Int) = t ∧ sub x.opn 0 (xs.length : Int) = xs := by
  rw [h]
  refine ⟨by simp, by simp, by simp, ?_, ?_⟩
  · simp [at_]
  · simp [sub]
theorem sub1 {a : Nat} (h : a < s.length) : sub s (a : Int) ((a : Int) + 1) = [at_ s a] := by
  have := sub_take (s := s) (i := a) (j := a + 1) (by omega)
  rw [show ((a + 1 : Nat) : Int) = (a : Int) + 1 from rfl] at this
  rw [this, drop_at h]; simp
def Depth (x : R) : Prop := (x.opn.length : Int) ≤ x.depth ∧ x.depth ≤ 200
set_option maxHeartbeats 2000000 in
theorem signP (ho : x.opn.length ≤ 1000) (hp : p < H.n) (hs : s.length ≤ 1000000) (ha : a < s.length) : LC Tryz.prog EJ 61 [ptr p 0, str s, .int .i64 a] (H.set p (rb x)) = some (.int .i64 (kv a (signX x a (at_ s a) (s.drop (a + 1))).2), H.set p (rb (signX x a (at_ s a) (s.drop (a + 1))).1)) := by
  refine own rfl Tryz.func61 rfl (Nat.le_of_ble_eq_true rfl) (by decide) (by kernel_rfl) hp ?_
  have w1 := wr1 (i := a) (by omega)
  have l0 : ((a : Int) < (s.length : Int)) = True := eq_true (by omega)
  have l1 : ((a : Int) + 1 ≤ (s.length : Int)) = True := eq_true (by omega)
  have l2 : ((a : Int) ≤ (a : Int) + 1) = True := eq_true (by omega)
  have hsub := sub1 ha
  have hgr := graveP (x := ({ x.piece with opn := x.opn.dropLast } : R)) (s := s) (a := a + 1) (by simp [R.piece]; omega) hp hs (by omega)
  obtain ⟨b, hb⟩ : ∃ b, at_ s a = b := ⟨_, rfl⟩
  rw [hb] at hsub ⊢
  have hO : ∀ K, LC Tryz.prog EJ 60 [str [40, 91, 123], .int .u8 b.toNat] K = some (.bool (([40, 91, 123] : List UInt8).contains b), K) := fun K => has_l (by simp)
  have hC : ∀ K, LC Tryz.prog EJ 60 [str [41, 93, 125], .int .u8 b.toNat] K = some (.bool (([41, 93, 125] : List UInt8).contains b), K) := fun K => has_l (by simp)
  have eo : ([40, 91, 123] : List UInt8).contains b = decide (b = 40 ∨ b = 91 ∨ b = 123) := by simp [Bool.decide_or]
  have ec : ([41, 93, 125] : List UInt8).contains b = decide (b = 41 ∨ b = 93 ∨ b = 125) := by simp [Bool.decide_or]
  rw [eo] at hO
  rw [ec] at hC
  have hop : x.piece.opn = x.opn := rfl
  have hde : x.piece.depth = x.depth := rfl
  by_cases c1 : b = 40 ∨ b = 91 ∨ b = 123
  · have f1 := decide_eq_true c1
    rw [f1] at hO
    by_cases c2 : (x.opn.length : Int) = x.depth
    · have f2 := eq_true c2
      have e : signX x a b (s.drop (a + 1)) = (x.piece.fail a, none) := by unfold signX; dsimp only; rw [if_pos c1, hop, hde, if_pos c2]
      rw [e]
      simp (config := { maxSteps := 4000000 }) [hp, hb, l0, piece_eq, hO, hop, hde, f2, fail_l, kv]
    · have f2 := eq_false c2
      have e : signX x a b (s.drop (a + 1)) = (({ x.piece with opn := x.opn ++ [b] } : R).ended 0, some 1) := by unfold signX; dsimp only; rw [if_pos c1, hop, hde, if_neg c2]
      rw [e]
      simp (config := { maxSteps := 4000000 }) [hp, hb, l0, l1, l2, w1, piece_eq, hO, hop, hde, f2, ended_l, hsub, (show x.opn.length ≤ 9223372036854775806 by omega), kv]
  have f1 := decide_eq_false c1
  rw [f1] at hO
  by_cases c2 : b = 41 ∨ b = 93 ∨ b = 125
  case neg =>
    have f2 := decide_eq_false c2
    rw [f2] at hC
    by_cases c3 : b = 59
    · have f3 := eq_true c3
      by_cases c4 : x.opn = []
      · have f4 := eq_true c4
        have e : signX x a b (s.drop (a + 1)) = (({ x.piece with ends := w64 (x.piece.ends + 1) } : R).ended 0, some 1) := by unfold signX; dsimp only; rw [if_neg c1, if_pos c2, if_pos ⟨c3, c4⟩]
        rw [e]
        simp (config := { maxSteps := 4000000 }) [hp, hb, l0, w1, piece_eq, hO, hC, hop, f3, f4, ended_l, kv]
      · have f4 := eq_false c4
        have e : signX x a b (s.drop (a + 1)) = (x.piece.ended 0, some 1) := by unfold signX; dsimp only; rw [if_neg c1, if_pos c2, if_neg (fun h => c4 h.2)]
        rw [e]
        simp (config := { maxSteps := 4000000 }) [hp, hb, l0, w1, piece_eq, hO, hC, hop, f3, f4, ended_l, kv]
    · have f3 := eq_false c3
      have e : signX x a b (s.drop (a + 1)) = (x.piece.ended 0, some 1) := by unfold signX; dsimp only; rw [if_neg c1, if_pos c2, if_neg (fun h => c3 h.1)]
      rw [e]
      simp (config := { maxSteps := 4000000 }) [hp, hb, l0, w1, piece_eq, hO, hC, hop, f3, ended_l, kv]
  case pos =>
    have f2 := decide_eq_true c2
    rw [f2] at hC
    rcases List.eq_nil_or_concat x.opn with h0 | ⟨xs, t, hx⟩
    · have e : signX x a b (s.drop (a + 1)) = (x.piece.fail a, none) := by
        unfold signX; dsimp only; rw [if_neg c1, if_neg (Decidable.not_not.2 c2)]
        rw [show x.piece.opn = [] from h0]; rfl
      rw [e]
      simp (config := { maxSteps := 4000000 }) [hp, hb, l0, w1, piece_eq, hO, hC, hop, (show x.opn.length = 0 by rw [h0]; rfl), fail_l, kv]
    · rw [List.concat_eq_append] at hx
      obtain ⟨g1, g2, g3, g4, g5⟩ := opn_last hx
      have g6 : ((x.opn.length : Int)) = (xs.length : Int) + 1 := by omega
      have g7 : IntKind.i64.wrap (xs.length : Int) = (xs.length : Int) := by rw [wrap64_in (by omega) (by omega)]
      have g12 : x.opn.take xs.length = xs := by rw [hx]; simp
      have g8 : (0 < (xs.length : Int) + 1) = True := eq_true (by omega)
      have g9 : ((xs.length : Int) + 1 = 0) = False := eq_false (by omega)
      have g10 : ((xs.length : Int) < (xs.length : Int) + 1) = True := eq_true (by omega)
      have g11 : ((xs.length : Int) ≤ (xs.length : Int) + 1) = True := eq_true (by omega)
      have hsg : signX x a b (s.drop (a + 1)) = (if b = 125 ∧ t = 36 then ((graveX { x.piece with opn := xs } (a + 1) (s.drop (a + 1))).1, (graveX { x.piece with opn := xs } (a + 1) (s.drop (a + 1))).2.map (· + 1))
          else if ¬ (b = 41 ∧ t = 40 ∨ b = 93 ∧ t = 91 ∨ b = 125 ∧ t = 123) then (x.piece.fail a, none)
          else if b ≠ 125 then (({ x.piece with opn := xs } : R).ended 1, some 1)
          else ((if x.opn.length = 1 then ({ x.piece with opn := xs, ends := w64 (x.piece.ends + 1) } : R) else { x.piece with opn := xs }).ended 2, some 1)) := by
        unfold signX; dsimp only; rw [if_neg c1, if_neg (Decidable.not_not.2 c2)]
        rw [show x.piece.opn = x.opn from rfl, g1, g2]
      rw [hsg]
      rw [g2] at hgr
      rw [show ((a + 1 : Nat) : Int) = (a : Int) + 1 from rfl] at hgr
      have hst : ∀ (r : R), r.opn = xs → r.opn.length ≤ 1000 := fun r h => by rw [h]; omega
      rcases c2 with c | c | c
      · have q1 := eq_true c
        have q2 : (b = 93) = False := eq_false (by rw [c]; decide)
        have q3 : (b = 125) = False := eq_false (by rw [c]; decide)
        by_cases ct : t = 40
        · have qt := eq_true ct
          simp (config := { maxSteps := 4000000 }) [hp, hb, l0, w1, piece_eq, hO, hC, hop, g4, g5, g6, g7, g8, g9, g10, g11, g12, q1, q2, q3, qt, ended_l, kv]
        · have qt := eq_false ct
          simp (config := { maxSteps := 4000000 }) [hp, hb, l0, w1, piece_eq, hO, hC, hop, g4, g5, g6, g7, g8, g9, g10, g11, g12, q1, q2, q3, qt, fail_l, kv]
      · have q1 : (b = 41) = False := eq_false (by rw [c]; decide)
        have q2 := eq_true c
        have q3 : (b = 125) = False := eq_false (by rw [c]; decide)
        by_cases ct : t = 91
        · have qt := eq_true ct
          simp (config := { maxSteps := 4000000 }) [hp, hb, l0, w1, piece_eq, hO, hC, hop, g4, g5, g6, g7, g8, g9, g10, g11, g12, q1, q2, q3, qt, ended_l, kv]
        · have qt := eq_false ct
          simp (config := { maxSteps := 4000000 }) [hp, hb, l0, w1, piece_eq, hO, hC, hop, g4, g5, g6, g7, g8, g9, g10, g11, g12, q1, q2, q3, qt, fail_l, kv]
      · have q1 : (b = 41) = False := eq_false (by rw [c]; decide)
        have q2 : (b = 93) = False := eq_false (by rw [c]; decide)
        have q3 := eq_true c
        by_cases ct : t = 36
        · have qt := eq_true ct
          simp (config := { maxSteps := 4000000 }) [hp, hb, l0, w1, piece_eq, hO, hC, hop, g4, g5, g6, g7, g8, g9, g10, g11, g12, q1, q2, q3, qt, kv_map, hgr]
        · have qt := eq_false ct
          by_cases cu : t = 123
          · have qu := eq_true cu
            by_cases cl : xs.length = 0
            · have e1 : ((xs.length : Int) + 1 = 1) = True := eq_true (by omega)
              have e2 : (x.opn.length = 1) = True := eq_true (by omega)
              simp (config := { maxSteps := 4000000 }) [hp, hb, l0, w1, piece_eq, hO, hC, hop, g4, g5, g6, g7, g8, g9, g10, g11, g12, q1, q2, q3, qt, qu, ended_l, kv, e1, e2, w64]
            · have e1 : ((xs.length : Int) + 1 = 1) = False := eq_false (by omega)
              have e2 : (x.opn.length = 1) = False := eq_false (by omega)
              simp (config := { maxSteps := 4000000 }) [hp, hb, l0, w1, piece_eq, hO, hC, hop, g4, g5, g6, g7, g8, g9, g10, g11, g12, q1, q2, q3, qt, qu, ended_l, kv, e1, e2, w64]
          · have qu := eq_false cu
            simp (config := { maxSteps := 4000000 }) [hp, hb, l0, w1, piece_eq, hO, hC, hop, g4, g5, g6, g7, g8, g9, g10, g11, g12, q1, q2, q3, qt, qu, fail_l, kv]
end
end Go.Proofs.YtgnefbngkhjfcaaGreatDoor.Rd
/-
  The law of layer 28 in plain Lean: the machine that reads a script byte by byte comes to what the reference, piece by piece, comes to. No program in sight.
-/
set_option linter.unusedSimpArgs false
set_option linter.unusedVariables false
namespace Tg.Rd
open Tg.Js Tg.Js.M

/-- one byte further -/
def go (m : M) (b : UInt8) : M := { m.byte b with seen := m.seen + 1 }
def W (m : M) (r : List UInt8) : Prop := 0 ≤ m.seen ∧ m.seen + r.length ≤ 1152921504606846976
theorem feed_cons (m : M) (b : UInt8) (r : List UInt8) : m.feed (b :: r) = (m.step b).feed r := rfl
theorem feed_go {m : M} {b : UInt8} {r : List UInt8} (h : m.bad = false) (w : W m (b :: r)) : m.feed (b :: r) = (go m b).feed r := by
  have hs := (byte_nx m b).seen
  have h2 := w.2
  have h1 := w.1
  simp only [List.length_cons] at h2
  rw [feed_cons, step_good m b h, hs, w64_in (by omega) (by omega)]; rfl
theorem feed_bad (r : List UInt8) : ∀ m : M, m.bad = true → (m.feed r).bad = true ∧ (m.feed r).place = m.place ∧ (m.feed r).ends = m.ends := by
  induction r with
  | nil => intro m h; exact ⟨h, rfl, rfl⟩
  | cons b r ih =>
    intro m h
    have := ih (m.step b) (by rw [step_bad m b h]; exact h)
    rw [step_bad m b h] at this
    rw [feed_cons, step_bad m b h]; exact this
theorem W.next {m m' : M} {b : UInt8} {r : List UInt8} (w : W m (b :: r)) (h : m'.seen = m.seen + 1) : W m' r := by
  have h1 := w.1
  have h2 := w.2
  simp only [List.length_cons] at h2
  exact ⟨by omega, by omega⟩
/-- what reading a piece comes to -/
def Goes (m : M) (r : List UInt8) (a : Nat) (y : R × Option Nat) : Prop :=
  match y with
  | (x, none) => End (m.feed r) x
  | (x, some k) => 1 ≤ k ∧ k ≤ r.length ∧ ((r.drop k = [] ∧ End (m.feed r) x) ∨ ∃ m', m.feed r = m'.feed (r.drop k) ∧ Rel m' x (a + k))
/-- as Goes, but nothing need be read -/
def Goes0 (m : M) (r : List UInt8) (a : Nat) (y : R × Option Nat) : Prop :=
  match y with
  | (x, none) => End (m.feed r) x
  | (x, some k) => k ≤ r.length ∧ ((r.drop k = [] ∧ End (m.feed r) x) ∨ ∃ m', m.feed r = m'.feed (r.drop k) ∧ Rel m' x (a + k))
theorem Goes0.cons {m m1 : M} {b : UInt8} {r : List UInt8} {a n : Nat} {x : R} {o : Option Nat} (hf : m.feed (b :: r) = m1.feed r) (h : Goes0 m1 r (a + 1) (x, o)) : Goes m (b :: r) a (x, o.map (· + 1)) := by
  cases o with
  | none => show End _ _; rw [hf]; exact h
  | some k =>
    obtain ⟨h1, h2⟩ := h
    have h1' : k ≤ r.length := h1
    refine ⟨Nat.le_add_left _ _, by simp only [List.length_cons]; omega, ?_⟩
    rw [List.drop_succ_cons, hf, show a + (k + 1) = a + 1 + k by omega]; exact h2
theorem Goes0.cons0 {m m1 : M} {b : UInt8} {r : List UInt8} {a : Nat} {x : R} {o : Option Nat} (hf : m.feed (b :: r) = m1.feed r) (h : Goes0 m1 r (a + 1) (x, o)) : Goes0 m (b :: r) a (x, o.map (· + 1)) := by
  cases o with
  | none => show End _ _; rw [hf]; exact h
  | some k =>
    obtain ⟨h1, h2⟩ := h
    have h1' : k ≤ r.length := h1
    refine ⟨by simp only [List.length_cons]; omega, ?_⟩
    rw [List.drop_succ_cons, hf, show a + (k + 1) = a + 1 + k by omega]; exact h2
/-- the machine stands where the reference does, in the state s, within a piece -/
structure Rin (s : Int) (m : M) (x : R) (a : Nat) : Prop where
  at0 : m.at_ = s
  bad : m.bad = false
  taken : m.taken = false
  seen : m.seen = a
  stack : m.stack.map tr = x.opn
  ok : ∀ t ∈ m.stack, t = 40 ∨ t = 91 ∨ t = 123 ∨ t = 96
  last : lastX m.last = x.last
  lok : m.last = 0 ∨ m.last = 1 ∨ m.last = 2 ∨ m.last = 3
  broken : m.broken = x.broken
  pieces : m.pieces = x.pieces
  ends : m.ends = x.ends
  depth : m.depth = x.depth
  xbad : x.bad = -1
  xin : x.within = false
theorem Rin.rel {m : M} {x : R} {a : Nat} (h : Rin 0 m x a) : Rel m x a := ⟨h.at0, h.bad, h.taken, h.seen, h.stack, h.ok, h.last, h.lok, h.broken, h.pieces, h.ends, h.depth, h.xbad, h.xin⟩
theorem Rel.rin {m : M} {x : R} {a : Nat} (h : Rel m x a) : Rin 0 m x a := ⟨h.at0, h.bad, h.taken, h.seen, h.stack, h.ok, h.last, h.lok, h.broken, h.pieces, h.ends, h.depth, h.xbad, h.xin⟩
theorem Rin.opn {s : Int} {m : M} {x : R} {a : Nat} (h : Rin s m x a) : m.stack = [] ↔ x.opn = [] := by rw [← h.stack]; simp
/-- at the end of all -/
theorem Rin.fin {s : Int} {m : M} {x : R} {a : Nat} (h : Rin s m x a) (hs : s = 0 ∨ s = 1 ∨ s = 2 ∨ s = 8 ∨ s = 10) : End m x := by
  refine ⟨h.ends, .inr ⟨h.bad, h.xbad, ?_⟩⟩
  have t1 : m.tell = if m.stack = [] ∧ (m.at_ = 0 ∨ m.at_ = 1 ∨ m.at_ = 2 ∨ m.at_ = 8 ∨ m.at_ = 10) then 2 else 1 := by unfold tell; rw [h.bad]; rfl
  have t2 : x.state = if x.within = true ∨ x.opn ≠ [] then 1 else 2 := by unfold R.state; rw [h.xbad]; rfl
  rw [t1, t2, h.at0, h.xin]
  by_cases hst : m.stack = []
  · rw [if_pos ⟨hst, hs⟩, if_neg (by simp [h.opn.1 hst])]
  · rw [if_neg (fun hx => hst hx.1), if_pos (.inr (fun hx => hst (h.opn.2 hx)))]
/-- within something at the end of all -/
theorem end_stop {m : M} {x : R} (hb : m.bad = false) (he : m.ends = x.ends) (hx : x.bad = -1) (ha : ¬ (m.at_ = 0 ∨ m.at_ = 1 ∨ m.at_ = 2 ∨ m.at_ = 8 ∨ m.at_ = 10)) : End m x.stop := by
  refine ⟨he, .inr ⟨hb, hx, ?_⟩⟩
  have t1 : m.tell = if m.stack = [] ∧ (m.at_ = 0 ∨ m.at_ = 1 ∨ m.at_ = 2 ∨ m.at_ = 8 ∨ m.at_ = 10) then 2 else 1 := by unfold tell; rw [hb]; rfl
  have t2 : x.stop.state = if x.stop.within = true ∨ x.stop.opn ≠ [] then 1 else 2 := by
    have : x.stop.bad = -1 := hx
    unfold R.state; rw [this]; rfl
  rw [t1, t2, if_neg (fun h => ha h.2), if_pos (.inl rfl)]
theorem end_fail {m : M} {x : R} {r : List UInt8} (hb : m.bad = true) (he : m.ends = x.ends) {p : Int} (hp : m.place = p) (h0 : 0 ≤ p) : End (m.feed r) (x.fail p) := by
  obtain ⟨h1, h2, h3⟩ := feed_bad r m hb
  exact ⟨h3.trans he, .inl ⟨h1, h2.trans hp, h0⟩⟩

/-! ### remarks -/
theorem byte_remark {m : M} {b : UInt8} (h : m.at_ = 10 ∨ m.at_ = 11 ∨ m.at_ = 12) : m.byte b = m.inRemark b := by
  unfold M.byte
  rw [if_neg (by omega), if_neg (by omega), if_neg (by omega), if_neg (by omega), if_pos h]
theorem rem10 (m : M) (b : UInt8) (e : m.at_ = 10) : m.byte b = if feedB b then { m with broken := true, at_ := 0 } else m := by
  rw [byte_remark (.inl e)]
  cases m; simp only at e; subst e
  unfold M.inRemark
  cases hf : feedB b <;> simp
theorem rem11 (m : M) (b : UInt8) (e : m.at_ = 11) : m.byte b = if b = 42 then { m with broken := m.broken || feedB b, at_ := 12 } else { m with broken := m.broken || feedB b } := by
  rw [byte_remark (.inr (.inl e))]
  cases m; simp only at e; subst e
  unfold M.inRemark
  by_cases h42 : b = 42 <;> simp [h42]
theorem rem12 (m : M) (e : m.at_ = 12) : m.byte 47 = { m with at_ := 0 } := by
  rw [byte_remark (.inr (.inr e))]
  cases m; simp only at e; subst e
  unfold M.inRemark
  have : feedB 47 = false := by decide
  simp [this]
theorem block_star (m : M) (b : UInt8) (e : m.at_ = 12) (hb : b ≠ 47) : m.byte b = ({ m with at_ := 11 } : M).byte b := by
  rw [byte_remark (.inr (.inr e)), byte_remark (m := { m with at_ := 11 }) (.inr (.inl rfl))]
  cases m; simp only at e; subst e
  unfold M.inRemark
  by_cases h42 : b = 42 <;> simp [hb, h42]
theorem lineN_cons (b : UInt8) (r : List UInt8) : lineN (b :: r) = if feedB b then 0 else lineN r + 1 := by
  unfold lineN
  rw [List.takeWhile_cons]
  cases feedB b <;> simp
theorem line_goes (r : List UInt8) : ∀ (m : M) (x : R) (a : Nat), Rin 10 m x a → W m r → Goes0 m r a ((line x r).1, some (line x r).2) := by
  induction r with
  | nil =>
    intro m x a h w
    unfold line
    rw [if_neg (by simp [lineN])]
    exact ⟨Nat.le_refl _, .inl ⟨rfl, h.fin (by simp)⟩⟩
  | cons b r ih =>
    intro m x a h w
    have hb := rem10 m b h.at0
    have hg := feed_go h.bad w
    cases hf : feedB b with
    | true =>
      rw [hf, if_pos rfl] at hb
      have hl : line x (b :: r) = ({ x with broken := true }, 1) := by
        have hn : lineN (b :: r) = 0 := by rw [lineN_cons, hf]; rfl
        unfold line; rw [hn, if_pos (by simp)]
      rw [hl]
      refine ⟨by simp, .inr ⟨go m b, hg, ?_⟩⟩
      unfold go; rw [hb]
      have hs := h.seen
      exact ⟨rfl, h.bad, h.taken, by show m.seen + 1 = _; omega, h.stack, h.ok, h.last, h.lok, rfl, h.pieces, h.ends, h.depth, h.xbad, h.xin⟩
    | false =>
      rw [hf, if_neg (by decide)] at hb
      have hl : line x (b :: r) = ((line x r).1, (line x r).2 + 1) := by
        have hn : lineN (b :: r) = lineN r + 1 := by rw [lineN_cons, hf]; rfl
        unfold line; rw [hn]
        by_cases hlt : lineN r < r.length
        · rw [if_pos hlt, if_pos (by simp only [List.length_cons]; omega)]
        · rw [if_neg hlt, if_neg (by simp only [List.length_cons]; omega)]
      rw [hl]
      have hs := h.seen
      have hr : Rin 10 (go m b) x (a + 1) := by
        unfold go; rw [hb]
        exact ⟨h.at0, h.bad, h.taken, by show m.seen + 1 = _; omega, h.stack, h.ok, h.last, h.lok, h.broken, h.pieces, h.ends, h.depth, h.xbad, h.xin⟩
      exact Goes0.cons0 hg (ih (go m b) x (a + 1) hr (w.next rfl))
def blockX (x : R) (y : Bool × Option Nat) : R × Option Nat := match y with
  | (k, some n) => ({ x with broken := k }, some n)
  | (k, none) => (({ x with broken := k } : R).stop, none)
theorem block_goes (r : List UInt8) : ∀ (m : M) (x : R) (a : Nat), Rin 11 m x a → W m r → Goes0 m r a (blockX x (blockR r x.broken)) := by
  induction r with
  | nil =>
    intro m x a h w
    have e := h.at0
    exact end_stop (x := { x with broken := x.broken }) h.bad h.ends h.xbad (by show ¬ (m.at_ = 0 ∨ m.at_ = 1 ∨ m.at_ = 2 ∨ m.at_ = 8 ∨ m.at_ = 10); omega)
  | cons b r ih =>
    intro m x a h w
    have e := h.at0
    have hs := h.seen
    have hg := feed_go h.bad w
    have hb := rem11 m b e
    unfold blockR
    by_cases h42 : b = 42
    · rw [if_pos h42] at hb
      have hfb : feedB b = false := by rw [h42]; decide
      rw [hfb, Bool.or_false] at hb
      cases r with
      | nil =>
        rw [if_neg (fun hx => by cases hx.2)]
        show End _ _
        rw [hg]
        refine end_stop (x := { x with broken := (blockR [] (x.broken || feedB b)).1 }) ?_ ?_ h.xbad ?_
        · show (go m b).bad = false; unfold go; rw [hb]; exact h.bad
        · show (go m b).ends = _; unfold go; rw [hb]; exact h.ends
        · show ¬ ((go m b).at_ = 0 ∨ (go m b).at_ = 1 ∨ (go m b).at_ = 2 ∨ (go m b).at_ = 8 ∨ (go m b).at_ = 10); unfold go; rw [hb]; simp
      | cons d q =>
        have w1 : W (go m b) (d :: q) := w.next rfl
        have gb : (go m b).bad = false := by unfold go; rw [hb]; exact h.bad
        by_cases h47 : d = 47
        · rw [if_pos ⟨h42, by rw [h47]; rfl⟩]
          show 2 ≤ _ ∧ _
          refine ⟨by simp, .inr ⟨go (go m b) d, by rw [hg, feed_go gb w1]; rfl, ?_⟩⟩
          have e2 : (go m b).byte d = { go m b with at_ := 0 } := by
            rw [h47]; exact rem12 _ (by unfold go; rw [hb])
          have e3 : go (go m b) d = { m with at_ := 0, seen := m.seen + 1 + 1 } := by
            unfold go at e2 ⊢
            rw [e2, hb]
          rw [e3]
          exact ⟨rfl, h.bad, h.taken, by show m.seen + 1 + 1 = _; omega, h.stack, h.ok, h.last, h.lok, h.broken, h.pieces, h.ends, h.depth, h.xbad, h.xin⟩
        · rw [if_neg (fun hx => h47 (by simpa using hx.2))]
          have hr : Rin 11 ({ go m b with at_ := 11 } : M) x (a + 1) := by
            unfold go; rw [hb]
            exact ⟨rfl, h.bad, h.taken, by show m.seen + 1 = _; omega, h.stack, h.ok, h.last, h.lok, h.broken, h.pieces, h.ends, h.depth, h.xbad, h.xin⟩
          have hf : (go m b).feed (d :: q) = ({ go m b with at_ := 11 } : M).feed (d :: q) := by
            rw [feed_go gb w1, feed_go (m := { go m b with at_ := 11 }) gb w1]
            unfold go
            rw [show ({ m.byte b with seen := m.seen + 1 } : M).byte d = ({ ({ m.byte b with seen := m.seen + 1 } : M) with at_ := 11 } : M).byte d from block_star _ d (by rw [hb]) h47]
          have := ih _ x (a + 1) hr w1
          rw [hfb, Bool.or_false]
          cases hB : blockR (d :: q) x.broken with
          | mk k o =>
            rw [hB] at this
            cases o with
            | none => exact Goes0.cons0 (o := none) (hg.trans hf) this
            | some n => exact Goes0.cons0 (o := some n) (hg.trans hf) this
    · rw [if_neg h42] at hb
      rw [if_neg (fun hx => h42 hx.1)]
      have hr : Rin 11 (go m b) { x with broken := x.broken || feedB b } (a + 1) := by
        unfold go; rw [hb]
        exact ⟨e, h.bad, h.taken, by show m.seen + 1 = _; omega, h.stack, h.ok, h.last, h.lok, by show (m.broken || feedB b) = _; rw [h.broken], h.pieces, h.ends, h.depth, h.xbad, h.xin⟩
      have := ih _ _ (a + 1) hr (w.next rfl)
      simp only at this
      cases hB : blockR r (x.broken || feedB b) with
      | mk k o =>
        rw [hB] at this
        cases o with
        | none => exact Goes0.cons0 (o := none) hg this
        | some n => exact Goes0.cons0 (o := some n) hg this

/-! ### texts -/
theorem byte_text {m : M} {b : UInt8} (h : m.at_ = 3 ∨ m.at_ = 4 ∨ m.at_ = 6 ∨ m.at_ = 7) : m.byte b = m.inText b := by
  unfold M.byte
  rw [if_neg (by omega), if_neg (by omega), if_neg (by omega), if_neg (by omega), if_neg (by omega), if_neg (by omega)]
/-- a byte that a backslash takes along -/
theorem text_taken (m : M) (b : UInt8) (h : m.at_ = 3 ∨ m.at_ = 4 ∨ m.at_ = 6 ∨ m.at_ = 7) (ht : m.taken = true) : m.byte b = { m with taken := false } := by
  rw [byte_text h]; unfold M.inText; rw [if_pos ht]
theorem text3 (m : M) (b : UInt8) (e : m.at_ = 3) (ht : m.taken = false) : m.byte b = if feedB b then m.fail else if b = 92 then { m with taken := true } else if b = m.by_ then m.ended 1 else m := by
  rw [byte_text (.inl e)]
  unfold M.inText
  rw [ht, if_neg (by decide)]
  cases hf : feedB b with
  | true => rw [if_pos ⟨by omega, rfl⟩, if_pos rfl]
  | false =>
    rw [if_neg (fun hx => by cases hx.2), if_neg Bool.false_ne_true]
    by_cases h92 : b = 92
    · rw [if_pos h92, if_pos h92]
    · rw [if_neg h92, if_neg h92, if_neg (by omega), if_neg (fun hx => by omega), if_neg (fun hx => by omega), if_neg (fun hx => by omega)]
theorem text4 (m : M) (b : UInt8) (e : m.at_ = 4) (ht : m.taken = false) : m.byte b = if b = 92 then { m with taken := true } else if b = 36 then { m with at_ := 5 } else if b = m.by_ then m.ended 1 else m := by
  rw [byte_text (.inr (.inl e))]
  unfold M.inText
  rw [ht, if_neg (by decide), if_neg (fun hx => hx.1 e)]
  by_cases h92 : b = 92
  · rw [if_pos h92, if_pos h92]
  · rw [if_neg h92, if_neg h92, if_neg (by omega), if_neg (fun hx => by omega)]
    by_cases h36 : b = 36
    · rw [if_pos ⟨e, h36⟩, if_pos h36]
    · rw [if_neg (fun hx => h36 hx.2), if_neg h36, if_neg (fun hx => by omega)]
theorem text6 (m : M) (b : UInt8) (e : m.at_ = 6) (ht : m.taken = false) (hby : m.by_ = 47) : m.byte b = if feedB b then m.fail else if b = 92 then { m with taken := true } else if b = 91 then { m with at_ := 7 } else if b = 47 then { m with at_ := 8 } else m := by
  rw [byte_text (.inr (.inr (.inl e)))]
  unfold M.inText
  rw [ht, if_neg (by decide), hby]
  cases hf : feedB b with
  | true => rw [if_pos ⟨by omega, rfl⟩, if_pos rfl]
  | false =>
    rw [if_neg (fun hx => by cases hx.2), if_neg Bool.false_ne_true]
    by_cases h92 : b = 92
    · rw [if_pos h92, if_pos h92]
    · rw [if_neg h92, if_neg h92, if_neg (by omega)]
      by_cases h91 : b = 91
      · rw [if_pos ⟨e, h91⟩, if_pos h91]
      · rw [if_neg (fun hx => h91 hx.2), if_neg h91, if_neg (fun hx => by omega)]
        by_cases h47 : b = 47
        · rw [if_pos ⟨h47, e⟩, if_pos h47]
        · rw [if_neg (fun hx => h47 hx.1), if_neg h47, if_neg h47]
theorem text7 (m : M) (b : UInt8) (e : m.at_ = 7) (ht : m.taken = false) : m.byte b = if feedB b then m.fail else if b = 92 then { m with taken := true } else if b = 93 then { m with at_ := 6 } else m := by
  rw [byte_text (.inr (.inr (.inr e)))]
  unfold M.inText
  rw [ht, if_neg (by decide)]
  cases hf : feedB b with
  | true => rw [if_pos ⟨by omega, rfl⟩, if_pos rfl]
  | false =>
    rw [if_neg (fun hx => by cases hx.2), if_neg Bool.false_ne_true]
    by_cases h92 : b = 92
    · rw [if_pos h92, if_pos h92]
    · rw [if_neg h92, if_neg h92, if_pos e]
/-- within a text, behind one more byte, or two -/
theorem Rin.on {s : Int} {m m' : M} {x : R} {a n : Nat} (h : Rin s m x a) (he : m' = { m with seen := m.seen + n }) : Rin s m' x (a + n) := by
  subst he
  have hs := h.seen
  exact ⟨h.at0, h.bad, h.taken, by show m.seen + (n : Int) = _; omega, h.stack, h.ok, h.last, h.lok, h.broken, h.pieces, h.ends, h.depth, h.xbad, h.xin⟩
/-- a backslash, and what it takes along -/
theorem two {m : M} {d : UInt8} {q : List UInt8} (hat : m.at_ = 3 ∨ m.at_ = 4 ∨ m.at_ = 6 ∨ m.at_ = 7) (hb : m.bad = false) (ht : m.taken = false) (h92 : m.byte 92 = { m with taken := true }) (w : W m (92 :: d :: q)) :
    m.feed (92 :: d :: q) = ({ m with seen := m.seen + 2 } : M).feed q ∧ W ({ m with seen := m.seen + 2 } : M) q := by
  have g1 : (go m 92).bad = false := by unfold go; rw [h92]; exact hb
  have w1 : W (go m 92) (d :: q) := w.next rfl
  have e1 : go (go m 92) d = { m with seen := m.seen + 2 } := by
    have e2 : (go m 92).byte d = { go m 92 with taken := false } := text_taken _ d (by unfold go; rw [h92]; exact hat) (by unfold go; rw [h92])
    unfold go at e2 ⊢
    rw [e2, h92]
    cases m
    simp only at ht ⊢
    subst ht
    simp only [M.mk.injEq, true_and]
    omega
  refine ⟨?_, ?_⟩
  · rw [feed_go hb w, feed_go g1 w1, e1]
  · have := w1.next (m' := { m with seen := m.seen + 2 }) (by unfold go; show m.seen + 2 = m.seen + 1 + 1; omega)
    exact this
/-- a backslash at the end of all -/
theorem one {m : M} (hat : m.at_ = 3 ∨ m.at_ = 4 ∨ m.at_ = 6 ∨ m.at_ = 7) (hb : m.bad = false) (h92 : m.byte 92 = { m with taken := true }) (w : W m [92]) : (m.feed [92]).bad = false ∧ (m.feed [92]).at_ = m.at_ ∧ (m.feed [92]).ends = m.ends := by
  rw [feed_go hb w]
  show (go m 92).bad = _ ∧ (go m 92).at_ = _ ∧ (go m 92).ends = _
  unfold go; rw [h92]
  exact ⟨hb, rfl, rfl⟩
theorem Goes0.add {m m1 : M} {c : UInt8} {r q : List UInt8} {a n : Nat} {x : R} {o : Option Nat} (hq : q = r.drop n) (hn : n ≤ r.length) (hf : m.feed r = m1.feed q) (h : Goes0 m1 q (a + n) (x, o)) : Goes0 m r a (x, o.map (· + n)) := by
  cases o with
  | none => show End _ _; rw [hf]; exact h
  | some k =>
    obtain ⟨h1, h2⟩ := h
    have h1' : k ≤ q.length := h1
    subst hq
    simp only [List.length_drop] at h1'
    refine ⟨show k + n ≤ r.length by omega, ?_⟩
    show (r.drop (k + n) = [] ∧ End (m.feed r) x) ∨ ∃ m', m.feed r = m'.feed (r.drop (k + n)) ∧ Rel m' x (a + (k + n))
    rw [hf, show k + n = n + k by omega, ← List.drop_drop, ← Nat.add_assoc]; exact h2
def codeX (x y : R) (a : Int) (c : Nat × Nat) : R × Option Nat := if c.2 = 2 then (y, some c.1) else if c.2 = 1 then (x.fail (a + c.1), none) else (x.stop, none)
theorem codeX_add {x y : R} {a : Int} {c : Nat × Nat} {n : Nat} : codeX x y a (add n c) = ((codeX x y (a + n) c).1, (codeX x y (a + n) c).2.map (· + n)) := by
  unfold codeX add
  simp only
  split
  · rfl
  · split
    · have : a + ((c.1 + n : Nat) : Int) = a + (n : Int) + (c.1 : Int) := by omega
      rw [this]; rfl
    · rfl
theorem Rin.ended1 {s : Int} {m : M} {x : R} {a : Nat} (h : Rin s m x a) (l : Int) (hl : l = 0 ∨ l = 1 ∨ l = 2 ∨ l = 3) : Rel ({ m.ended l with seen := m.seen + 1 } : M) (x.ended (lastX l)) (a + 1) := by
  have hs := h.seen
  exact ⟨rfl, h.bad, h.taken, by show m.seen + 1 = _; omega, h.stack, h.ok, rfl, hl, rfl, h.pieces, h.ends, h.depth, h.xbad, h.xin⟩
theorem quote_goes (q : UInt8) (hq : q = 34 ∨ q = 39) : ∀ (n : Nat) (r : List UInt8), r.length ≤ n → ∀ (m : M) (x : R) (a : Nat), Rin 3 m x a → m.by_ = q → W m r → Goes0 m r a (codeX x (x.ended 1) a (quoteR q r)) := by
  have hq92 : q ≠ 92 := by rcases hq with rfl | rfl <;> decide
  intro n
  induction n with
  | zero =>
    intro r hr m x a h hby w
    obtain rfl : r = [] := List.length_eq_zero_iff.1 (by omega)
    have e := h.at0
    exact end_stop h.bad h.ends h.xbad (by show ¬ (m.at_ = 0 ∨ m.at_ = 1 ∨ m.at_ = 2 ∨ m.at_ = 8 ∨ m.at_ = 10); omega)
  | succ n ih =>
    intro r hr m x a h hby w
    have e := h.at0
    have hs := h.seen
    match r, hr, w with
    | [], _, _ => exact end_stop h.bad h.ends h.xbad (by show ¬ (m.at_ = 0 ∨ m.at_ = 1 ∨ m.at_ = 2 ∨ m.at_ = 8 ∨ m.at_ = 10); omega)
    | c :: r, hr, w =>
      have hb := text3 m c e h.taken
      have hg := feed_go h.bad w
      by_cases h92 : c = 92
      · subst h92
        have hb92 : m.byte 92 = { m with taken := true } := by rw [hb, if_neg (by decide), if_pos rfl]
        match r, hr, w with
        | [], _, w =>
          obtain ⟨o1, o2, o3⟩ := one (.inl e) h.bad hb92 w
          exact end_stop o1 (o3.trans h.ends) h.xbad (by rw [o2]; omega)
        | d :: r, hr, w =>
          obtain ⟨t1, t2⟩ := two (.inl e) h.bad h.taken hb92 w
          have := ih r (by simp only [List.length_cons] at hr; omega) _ x (a + 2) (h.on (n := 2) rfl) hby t2
          have e1 : quoteR q (92 :: d :: r) = add 2 (quoteR q r) := by
            conv => lhs; unfold quoteR
            rw [if_pos rfl]
          rw [e1, codeX_add]
          exact Goes0.add (c := 0) (q := r) (n := 2) rfl (by simp) t1 this
      · have e1 : quoteR q (c :: r) = if feedB c then (0, 1) else if c = q then (1, 2) else add 1 (quoteR q r) := by
          cases r with
          | nil => unfold quoteR; rw [if_neg h92]; rfl
          | cons d r => conv => lhs; unfold quoteR
                        rw [if_neg h92]
        rw [e1]
        cases hf : feedB c with
        | true =>
          rw [hf, if_pos rfl] at hb
          rw [if_pos rfl]
          show End _ _
          rw [hg]
          refine end_fail ?_ ?_ ?_ ?_
          · unfold go; rw [hb]; rfl
          · unfold go; rw [hb]; exact h.ends
          · unfold go; rw [hb]; show m.seen = _; simp [hs]
          · simp
        | false =>
          rw [hf, if_neg (by decide), if_neg h92, hby] at hb
          rw [if_neg (by decide)]
          by_cases hcq : c = q
          · rw [if_pos hcq] at hb
            rw [if_pos hcq]
            refine ⟨by simp, .inr ⟨go m c, hg, ?_⟩⟩
            have : go m c = ({ m.ended 1 with seen := m.seen + 1 } : M) := by unfold go; rw [hb]
            rw [this]
            exact h.ended1 1 (by simp)
          · rw [if_neg hcq] at hb
            rw [if_neg hcq, codeX_add]
            have hgo : go m c = { m with seen := m.seen + 1 } := by unfold go; rw [hb]
            have := ih r (by simp only [List.length_cons] at hr; omega) (go m c) x (a + 1) (h.on (n := 1) hgo) (by rw [hgo]; exact hby) (w.next rfl)
            exact Goes0.add (c := 0) (q := r) (n := 1) rfl (by simp) hg this
theorem byte_dollar {m : M} {b : UInt8} (h : m.at_ = 5) : m.byte b = m.inDollar b := by
  unfold M.byte
  rw [if_neg (by omega), if_neg (by omega), if_pos h]
/-- a dollar behind which nothing opens is as any byte -/
theorem dollar (m : M) (d : UInt8) (h : m.at_ = 5) (hd : d ≠ 123) : m.byte d = ({ m with at_ := 4 } : M).byte d := by
  rw [byte_dollar h, byte_text (m := { m with at_ := 4 }) (.inr (.inl rfl))]
  unfold M.inDollar
  rw [if_neg hd]
def graveX' (x : R) (a : Int) (c : Nat × Nat) : R × Option Nat :=
  if c.2 = 2 then (x.ended 1, some c.1)
  else if c.2 = 3 then (if (x.opn.length : Int) = x.depth then (x.fail (a + c.1 - 1), none) else (({ x with opn := x.opn ++ [36] } : R).ended 0, some c.1))
  else (x.stop, none)
theorem graveX'_add {x : R} {a : Int} {c : Nat × Nat} {n : Nat} : graveX' x a (add n c) = ((graveX' x (a + n) c).1, (graveX' x (a + n) c).2.map (· + n)) := by
  unfold graveX' add
  simp only
  split
  · rfl
  · split
    · have : a + ((c.1 + n : Nat) : Int) - 1 = a + (n : Int) + (c.1 : Int) - 1 := by omega
      rw [this]; split <;> rfl
    · rfl
theorem graveX_eq (x : R) (a : Int) (r : List UInt8) : graveX x a r = graveX' x a (graveR r) := rfl
theorem push_to {s : Int} {m : M} {x : R} {a : Nat} {b : UInt8} (h : Rin s m x a) (hb : b = 40 ∨ b = 91 ∨ b = 123 ∨ b = 96) (hl : ¬ (x.opn.length : Int) = x.depth) : Rel ({ m.push b with seen := m.seen + 1 } : M) (({ x with opn := x.opn ++ [tr b] } : R).ended 0) (a + 1) := by
  have hs := h.seen
  have hlen : m.stack.length = x.opn.length := by rw [← h.stack]; simp
  have e : m.push b = { m with stack := m.stack ++ [b] }.ended 0 := by unfold M.push; rw [if_neg (by rw [hlen, h.depth]; exact hl)]
  rw [e]
  refine ⟨rfl, h.bad, h.taken, by show m.seen + 1 = _; omega, ?_, ?_, rfl, .inl rfl, rfl, h.pieces, h.ends, h.depth, h.xbad, h.xin⟩
  · show (m.stack ++ [b]).map tr = x.opn ++ [tr b]; rw [List.map_append, h.stack]; rfl
  · intro t ht
    rcases List.mem_append.1 (show t ∈ m.stack ++ [b] from ht) with ht | ht
    · exact h.ok t ht
    · simp at ht; subst ht; exact hb
theorem push_full {s : Int} {m : M} {x : R} {a : Nat} {b : UInt8} (h : Rin s m x a) (hl : (x.opn.length : Int) = x.depth) : m.push b = m.fail := by
  have hlen : m.stack.length = x.opn.length := by rw [← h.stack]; simp
  unfold M.push; rw [if_pos (by rw [hlen, h.depth]; exact hl)]
theorem Rin.at {s s' : Int} {m : M} {x : R} {a : Nat} (h : Rin s m x a) : Rin s' ({ m with at_ := s' } : M) x a := ⟨rfl, h.bad, h.taken, h.seen, h.stack, h.ok, h.last, h.lok, h.broken, h.pieces, h.ends, h.depth, h.xbad, h.xin⟩
theorem grave_goes : ∀ (n : Nat) (r : List UInt8), r.length ≤ n → ∀ (m : M) (x : R) (a : Nat), Rin 4 m x a → m.by_ = 96 → W m r → Goes0 m r a (graveX x a r) := by
  intro n
  induction n with
  | zero =>
    intro r hr m x a h hby w
    obtain rfl : r = [] := List.length_eq_zero_iff.1 (by omega)
    have e := h.at0
    exact end_stop h.bad h.ends h.xbad (by show ¬ (m.at_ = 0 ∨ m.at_ = 1 ∨ m.at_ = 2 ∨ m.at_ = 8 ∨ m.at_ = 10); omega)
  | succ n ih =>
    intro r hr m x a h hby w
    have e := h.at0
    have hs := h.seen
    match r, hr, w with
    | [], _, _ => exact end_stop h.bad h.ends h.xbad (by show ¬ (m.at_ = 0 ∨ m.at_ = 1 ∨ m.at_ = 2 ∨ m.at_ = 8 ∨ m.at_ = 10); omega)
    | c :: r, hr, w =>
      have hb := text4 m c e h.taken
      have hg := feed_go h.bad w
      rw [graveX_eq]
      by_cases h92 : c = 92
      · subst h92
        have hb92 : m.byte 92 = { m with taken := true } := by rw [hb, if_pos rfl]
        match r, hr, w with
        | [], _, w =>
          obtain ⟨o1, o2, o3⟩ := one (.inr (.inl e)) h.bad hb92 w
          exact end_stop o1 (o3.trans h.ends) h.xbad (by rw [o2]; omega)
        | d :: r, hr, w =>
          obtain ⟨t1, t2⟩ := two (.inr (.inl e)) h.bad h.taken hb92 w
          have := ih r (by simp only [List.length_cons] at hr; omega) _ x (a + 2) (h.on (n := 2) rfl) hby t2
          have e1 : graveR (92 :: d :: r) = add 2 (graveR r) := by
            conv => lhs; unfold graveR
            rw [if_pos rfl]
          rw [e1, graveX'_add]
          exact Goes0.add (c := 0) (q := r) (n := 2) rfl (by simp) t1 this
      · rw [if_neg h92] at hb
        by_cases h96 : c = 96
        · subst h96
          rw [if_neg (by decide), if_pos hby.symm] at hb
          have e1 : graveR (96 :: r) = (1, 2) := by
            cases r with
            | nil => rfl
            | cons d r => conv => lhs; unfold graveR
                          rw [if_neg (by decide), if_pos rfl]
          rw [e1]
          refine ⟨by simp, .inr ⟨go m 96, hg, ?_⟩⟩
          have : go m 96 = ({ m.ended 1 with seen := m.seen + 1 } : M) := by unfold go; rw [hb]
          rw [this]
          exact h.ended1 1 (by simp)
        · by_cases h36 : c = 36
          · subst h36
            rw [if_pos rfl] at hb
            have hgo : go m 36 = { m with at_ := 5, seen := m.seen + 1 } := by unfold go; rw [hb]
            have w1 : W (go m 36) r := w.next rfl
            have gb : (go m 36).bad = false := by rw [hgo]; exact h.bad
            match r, hr, w, w1, hg with
            | [], _, _, _, hg =>
              show End _ _
              rw [hg]
              exact end_stop gb (by rw [hgo]; exact h.ends) h.xbad (by show ¬ ((go m 36).at_ = 0 ∨ (go m 36).at_ = 1 ∨ (go m 36).at_ = 2 ∨ (go m 36).at_ = 8 ∨ (go m 36).at_ = 10); rw [hgo]; simp)
            | d :: r, hr, w, w1, hg =>
              have r4 : Rin 4 ({ go m 36 with at_ := 4 } : M) x (a + 1) := by
                have : Rin 5 (go m 36) x (a + 1) := by
                  have := (h.at (s' := 5)).on (n := 1) (m' := go m 36) hgo
                  exact this
                exact this.at
              by_cases hd : d = 123
              · subst hd
                have e1 : graveR (36 :: 123 :: r) = (2, 3) := by
                  conv => lhs; unfold graveR
                  rw [if_neg (by decide), if_neg (by decide), if_pos ⟨rfl, rfl⟩]
                rw [e1]
                have hp : (go m 36).byte 123 = ({ go m 36 with at_ := 4 } : M).push 96 := by
                  rw [byte_dollar (by rw [hgo])]; unfold M.inDollar; rw [if_pos rfl]
                have hf : m.feed (36 :: 123 :: r) = (go (go m 36) 123).feed r := by rw [hg, feed_go gb w1]
                unfold graveX'
                rw [if_neg (by decide), if_pos rfl]
                by_cases hl : (x.opn.length : Int) = x.depth
                · rw [if_pos hl]
                  show End _ _
                  rw [hf]
                  have hpf := push_full (b := 96) r4 hl
                  refine end_fail ?_ ?_ ?_ ?_
                  · unfold go at hp hpf ⊢; rw [hp, hpf]; rfl
                  · unfold go at hp hpf ⊢; rw [hp, hpf]; exact r4.ends
                  · unfold go at hp hpf ⊢; rw [hp, hpf]; show m.seen + 1 = _; omega
                  · omega
                · rw [if_neg hl]
                  refine ⟨by simp, .inr ⟨_, hf, ?_⟩⟩
                  have hpt := push_to (b := 96) r4 (by simp) hl
                  have e2 : go (go m 36) 123 = ({ ({ go m 36 with at_ := 4 } : M).push 96 with seen := (go m 36).seen + 1 } : M) := by
                    conv => lhs; unfold go
                    unfold go at hp
                    rw [hp]; rfl
                  rw [e2]
                  exact hpt
              · have e1 : graveR (36 :: d :: r) = add 1 (graveR (d :: r)) := by
                  conv => lhs; unfold graveR
                  rw [if_neg (by decide), if_neg (by decide), if_neg (fun hx => hd hx.2)]
                rw [e1, graveX'_add]
                have hf : (go m 36).feed (d :: r) = ({ go m 36 with at_ := 4 } : M).feed (d :: r) := by
                  rw [feed_go gb w1, feed_go (m := { go m 36 with at_ := 4 }) gb w1]
                  unfold go
                  rw [show ({ m.byte 36 with seen := m.seen + 1 } : M).byte d = ({ ({ m.byte 36 with seen := m.seen + 1 } : M) with at_ := 4 } : M).byte d from dollar _ d (by rw [hb]) hd]
                have := ih (d :: r) (by simp only [List.length_cons] at hr ⊢; omega) _ x (a + 1) r4 (by show (go m 36).by_ = 96; rw [hgo]; exact hby) w1
                exact Goes0.add (c := 0) (q := d :: r) (n := 1) rfl (by simp) (hg.trans hf) this
          · rw [if_neg h36, if_neg (by rw [hby]; exact h96)] at hb
            have e1 : graveR (c :: r) = add 1 (graveR r) := by
              cases r with
              | nil => conv => lhs; unfold graveR
                       rw [if_neg h92, if_neg h96]; rfl
              | cons d r => conv => lhs; unfold graveR
                            rw [if_neg h92, if_neg h96, if_neg (fun hx => h36 hx.1)]
            rw [e1, graveX'_add]
            have hgo : go m c = { m with seen := m.seen + 1 } := by unfold go; rw [hb]
            have := ih r (by simp only [List.length_cons] at hr; omega) (go m c) x (a + 1) (h.on (n := 1) hgo) (by rw [hgo]; exact hby) (w.next rfl)
            exact Goes0.add (c := 0) (q := r) (n := 1) rfl (by simp) hg this

/-! ### words -/
def settle (m : M) : M := if m.at_ = 1 ∧ isKeyword m.said then m.ended 3 else m.ended 1
def sayF (s : List UInt8) (b : UInt8) : List UInt8 := if (s.length : Int) ≤ 10 then s ++ [b] else s
theorem settle_seen (m : M) : (settle m).seen = m.seen := by unfold settle; split <;> rfl
theorem settle_bad (m : M) : (settle m).bad = m.bad := by unfold settle; split <;> rfl
theorem settle_at (m : M) : (settle m).at_ = 0 := by unfold settle; split <;> rfl
theorem byte_word {m : M} {b : UInt8} (h : m.at_ = 1 ∨ m.at_ = 2 ∨ m.at_ = 8) : m.byte b = m.inWord b := by
  unfold M.byte
  rw [if_neg (by omega), if_pos h]
theorem word_in (m : M) (b : UInt8) (h : m.at_ = 1 ∨ m.at_ = 2 ∨ m.at_ = 8) (hb : inner b = true ∨ m.at_ = 2 ∧ b = 46) : m.byte b = { m with said := sayF m.said b } := by
  rw [byte_word h]
  unfold M.inWord sayF
  rw [if_pos hb]
  split <;> rfl
theorem word_out (m : M) (b : UInt8) (h : m.at_ = 1 ∨ m.at_ = 2 ∨ m.at_ = 8) (hb : ¬ (inner b = true ∨ m.at_ = 2 ∧ b = 46)) : m.byte b = (settle m).byte b := by
  have e : (settle m).byte b = (settle m).begin b := by unfold M.byte; rw [if_pos (settle_at m)]
  rw [byte_word h, e]
  unfold M.inWord settle
  rw [if_neg hb]
  split <;> rfl
theorem wordN_cons (dg : Bool) (b : UInt8) (r : List UInt8) : wordN dg (b :: r) = if inner b || (dg && b == 46) then wordN dg r + 1 else 0 := by
  unfold wordN
  rw [List.takeWhile_cons]
  cases inner b || (dg && b == 46) <;> simp
theorem wordRun (r : List UInt8) : ∀ (m : M), (m.at_ = 1 ∨ m.at_ = 2 ∨ m.at_ = 8) → m.bad = false → W m r →
    (r.drop (wordN (decide (m.at_ = 2)) r) = [] ∧ m.feed r = { m with said := (r.take (wordN (decide (m.at_ = 2)) r)).foldl sayF m.said, seen := m.seen + (wordN (decide (m.at_ = 2)) r : Nat) }) ∨
    m.feed r = (settle { m with said := (r.take (wordN (decide (m.at_ = 2)) r)).foldl sayF m.said, seen := m.seen + (wordN (decide (m.at_ = 2)) r : Nat) }).feed (r.drop (wordN (decide (m.at_ = 2)) r)) := by
  induction r with
  | nil =>
    intro m h hb w
    refine .inl ⟨rfl, ?_⟩
    show m = _
    have : wordN (decide (m.at_ = 2)) [] = 0 := rfl
    rw [this]
    cases m
    simp
  | cons b r ih =>
    intro m h hb w
    have hg := feed_go hb w
    by_cases hin : inner b = true ∨ m.at_ = 2 ∧ b = 46
    · have hn : wordN (decide (m.at_ = 2)) (b :: r) = wordN (decide (m.at_ = 2)) r + 1 := by
        rw [wordN_cons, if_pos]
        rcases hin with hin | ⟨h1, h2⟩
        · rw [hin]; rfl
        · rw [h1, h2]; simp
      have e := word_in m b h hin
      have hgo : go m b = { m with said := sayF m.said b, seen := m.seen + 1 } := by unfold go; rw [e]
      have := ih (go m b) (by rw [hgo]; exact h) (by rw [hgo]; exact hb) (w.next rfl)
      rw [hgo] at this
      simp only at this
      rw [hn, hg, hgo]
      simp only [List.take_succ_cons, List.drop_succ_cons, List.foldl_cons]
      have hc : m.seen + ((wordN (decide (m.at_ = 2)) r + 1 : Nat) : Int) = m.seen + 1 + (wordN (decide (m.at_ = 2)) r : Nat) := by omega
      rw [hc]
      exact this
    · have hn : wordN (decide (m.at_ = 2)) (b :: r) = 0 := by
        rw [wordN_cons, if_neg]
        intro hx
        apply hin
        simp only [Bool.or_eq_true, Bool.and_eq_true, decide_eq_true_eq, beq_iff_eq] at hx
        exact hx
      have e := word_out m b h hin
      refine .inr ?_
      rw [hn]
      simp only [List.take_zero, List.drop_zero, List.foldl_nil]
      have e0 : ({ m with said := m.said, seen := m.seen + ((0 : Nat) : Int) } : M) = m := by cases m; simp
      rw [e0, hg]
      have w2 : W (settle m) (b :: r) := ⟨by rw [settle_seen]; exact w.1, by rw [settle_seen]; exact w.2⟩
      rw [feed_go (by rw [settle_bad]; exact hb) w2]
      unfold go
      rw [e, settle_seen]
theorem say_take (l : List UInt8) : ∀ s : List UInt8, s.length ≤ 11 → l.foldl sayF s = (s ++ l).take 11 := by
  induction l with
  | nil => intro s h; simp; rw [List.take_of_length_le h]
  | cons b l ih =>
    intro s h
    rw [List.foldl_cons]
    unfold sayF
    by_cases hs : (s.length : Int) ≤ 10
    · rw [if_pos hs]
      have := ih (s ++ [b]) (by simp; omega)
      unfold sayF at this
      rw [this]; simp
    · rw [if_neg hs]
      have h11 : s.length = 11 := by omega
      have := ih s h
      unfold sayF at this
      rw [this, List.take_append_of_le_length (by omega), List.take_append_of_le_length (by omega)]
theorem kw_short : (keywords.all fun k => decide (k.length ≤ 10) && !digit (k.headD 0)) = true := by decide +kernel
theorem kw_take (l : List UInt8) : isKeyword (l.take 11) = isKeyword l := by
  by_cases h : l.length ≤ 11
  · rw [List.take_of_length_le h]
  · have key : ∀ k : List UInt8, 11 ≤ k.length → isKeyword k = false := by
      intro k hk
      unfold isKeyword
      rw [Bool.eq_false_iff]
      intro hc
      rw [List.contains_iff_mem] at hc
      have := List.all_eq_true.1 kw_short k hc
      simp only [Bool.and_eq_true, decide_eq_true_eq] at this
      omega
    rw [key _ (by simp; omega), key _ (by omega)]
theorem kw_digit (b : UInt8) (l : List UInt8) (h : digit b = true) : isKeyword (b :: l) = false := by
  unfold isKeyword
  rw [Bool.eq_false_iff]
  intro hc
  rw [List.contains_iff_mem] at hc
  have := List.all_eq_true.1 kw_short _ hc
  simp [h] at this
theorem End.ended {m : M} {x : R} {l : Int} (h : End m x) : End m (x.ended l) := h
/-- a word, or a pattern's flags, gone by -/
theorem word_goes {s : Int} {m : M} {x : R} {a : Nat} {r : List UInt8} (h : Rin s m x a) (hs : s = 1 ∨ s = 2 ∨ s = 8) (w : W m r) (l : Int) (hl : l = if m.at_ = 1 ∧ isKeyword ((r.take (wordN (decide (m.at_ = 2)) r)).foldl sayF m.said) then 0 else 1) :
    Goes0 m r a (x.ended l, some (wordN (decide (m.at_ = 2)) r)) := by
  have e := h.at0
  have hn : wordN (decide (m.at_ = 2)) r ≤ r.length := by unfold wordN; exact (List.takeWhile_prefix _).length_le
  have hr := wordRun r m (by omega) h.bad w
  generalize wordN (decide (m.at_ = 2)) r = n at *
  generalize (r.take n).foldl sayF m.said = sd at *
  have h1 : Rin s ({ m with said := sd, seen := m.seen + (n : Nat) } : M) x (a + n) := by
    have hse := h.seen
    exact ⟨h.at0, h.bad, h.taken, by show m.seen + (n : Int) = _; omega, h.stack, h.ok, h.last, h.lok, h.broken, h.pieces, h.ends, h.depth, h.xbad, h.xin⟩
  refine ⟨hn, ?_⟩
  rcases hr with ⟨hd, hf⟩ | hf
  · refine .inl ⟨hd, ?_⟩
    rw [hf]
    exact (h1.fin (by omega)).ended
  · refine .inr ⟨_, hf, ?_⟩
    unfold settle
    show Rel (if m.at_ = 1 ∧ isKeyword sd = true then _ else _) _ _
    subst hl
    by_cases hk : m.at_ = 1 ∧ isKeyword sd = true
    · rw [if_pos hk, if_pos hk]
      exact ⟨rfl, h1.bad, h1.taken, h1.seen, h1.stack, h1.ok, rfl, .inr (.inr (.inr rfl)), rfl, h1.pieces, h1.ends, h1.depth, h1.xbad, h1.xin⟩
    · rw [if_neg hk, if_neg hk]
      exact ⟨rfl, h1.bad, h1.taken, h1.seen, h1.stack, h1.ok, rfl, .inr (.inl rfl), rfl, h1.pieces, h1.ends, h1.depth, h1.xbad, h1.xin⟩

/-! ### patterns -/
theorem innerN_word (r : List UInt8) : wordN false r = innerN r := by
  unfold wordN innerN
  congr 2
  funext b
  simp
theorem pattern_goes : ∀ (n : Nat) (r : List UInt8), r.length ≤ n → ∀ (k : Bool) (m : M) (x : R) (a : Nat), Rin (if k then 7 else 6) m x a → m.by_ = 47 → W m r → Goes0 m r a (codeX x (x.ended 1) a (patternR k r)) := by
  intro n
  induction n with
  | zero =>
    intro r hr k m x a h hby w
    obtain rfl : r = [] := List.length_eq_zero_iff.1 (by omega)
    have e := h.at0
    refine end_stop h.bad h.ends h.xbad ?_
    show ¬ (m.at_ = 0 ∨ m.at_ = 1 ∨ m.at_ = 2 ∨ m.at_ = 8 ∨ m.at_ = 10)
    rw [e]; cases k <;> simp
  | succ n ih =>
    intro r hr k m x a h hby w
    have e := h.at0
    have hs := h.seen
    have hat : m.at_ = 3 ∨ m.at_ = 4 ∨ m.at_ = 6 ∨ m.at_ = 7 := by rw [e]; cases k <;> simp
    have hno : ¬ (m.at_ = 0 ∨ m.at_ = 1 ∨ m.at_ = 2 ∨ m.at_ = 8 ∨ m.at_ = 10) := by rw [e]; cases k <;> simp
    match r, hr, w with
    | [], _, _ => exact end_stop h.bad h.ends h.xbad hno
    | c :: r, hr, w =>
      have hg := feed_go h.bad w
      have hb : m.byte c = if feedB c then m.fail else if c = 92 then { m with taken := true } else if k then (if c = 93 then { m with at_ := 6 } else m) else (if c = 91 then { m with at_ := 7 } else if c = 47 then { m with at_ := 8 } else m) := by
        cases k with
        | true => rw [text7 m c e h.taken, if_pos rfl]
        | false => rw [text6 m c e h.taken hby, if_neg Bool.false_ne_true]
      by_cases h92 : c = 92
      · subst h92
        have hb92 : m.byte 92 = { m with taken := true } := by rw [hb, if_neg (by decide), if_pos rfl]
        match r, hr, w with
        | [], _, w =>
          obtain ⟨o1, o2, o3⟩ := one hat h.bad hb92 w
          exact end_stop o1 (o3.trans h.ends) h.xbad (by rw [o2]; exact hno)
        | d :: r, hr, w =>
          obtain ⟨t1, t2⟩ := two hat h.bad h.taken hb92 w
          have := ih r (by simp only [List.length_cons] at hr; omega) k _ x (a + 2) (h.on (n := 2) rfl) hby t2
          have e1 : patternR k (92 :: d :: r) = add 2 (patternR k r) := by
            conv => lhs; unfold patternR
            rw [if_pos rfl]
          rw [e1, codeX_add]
          exact Goes0.add (c := 0) (q := r) (n := 2) rfl (by simp) t1 this
      · have e1 : patternR k (c :: r) = if feedB c then (0, 1) else if c = 47 ∧ k = false then (innerN r + 1, 2) else if c = 91 then add 1 (patternR true r) else if c = 93 then add 1 (patternR false r) else add 1 (patternR k r) := by
          cases r with
          | nil =>
            conv => lhs; unfold patternR
            rw [if_neg h92]
            cases feedB c
            · rw [if_neg Bool.false_ne_true, if_neg Bool.false_ne_true]
              by_cases h47 : c = 47 ∧ k = false
              · rw [if_pos h47, if_pos h47]; rfl
              · rw [if_neg h47, if_neg h47]; simp [patternR, add]
            · rfl
          | cons d r =>
            conv => lhs; unfold patternR
            rw [if_neg h92]
        rw [e1]
        cases hf : feedB c with
        | true =>
          rw [hf, if_pos rfl] at hb
          rw [if_pos rfl]
          show End _ _
          rw [hg]
          refine end_fail ?_ ?_ ?_ ?_
          · unfold go; rw [hb]; rfl
          · unfold go; rw [hb]; exact h.ends
          · unfold go; rw [hb]; show m.seen = _; simp [hs]
          · simp
        | false =>
          rw [hf, if_neg Bool.false_ne_true, if_neg h92] at hb
          rw [if_neg Bool.false_ne_true]
          have w1 : W (go m c) r := w.next rfl
          have hln : r.length ≤ n := by simp only [List.length_cons] at hr; omega
          have stay : ∀ k', Rin (if k' then 7 else 6) (go m c) x (a + 1) → (go m c).by_ = 47 → Goes0 m (c :: r) a (codeX x (x.ended 1) a (add 1 (patternR k' r))) := fun k' hr' hb' => by
            rw [codeX_add]
            exact Goes0.add (c := 0) (q := r) (n := 1) rfl (by simp) hg (ih r hln k' (go m c) x (a + 1) hr' hb' w1)
          cases k with
          | true =>
            rw [if_pos rfl] at hb
            rw [if_neg (fun hx => by cases hx.2)]
            by_cases h93 : c = 93
            · rw [if_pos h93] at hb
              rw [if_neg (by rw [h93]; decide), if_pos h93]
              have hgo : go m c = { m with at_ := 6, seen := m.seen + 1 } := by unfold go; rw [hb]
              exact stay false ((h.at (s' := 6)).on (n := 1) hgo) (by rw [hgo]; exact hby)
            · rw [if_neg h93] at hb
              have hgo : go m c = { m with seen := m.seen + 1 } := by unfold go; rw [hb]
              have := stay true (h.on (n := 1) hgo) (by rw [hgo]; exact hby)
              by_cases h91 : c = 91
              · rw [if_pos h91]; exact this
              · rw [if_neg h91, if_neg h93]; exact this
          | false =>
            rw [if_neg Bool.false_ne_true] at hb
            by_cases h47 : c = 47
            · rw [if_neg (by rw [h47]; decide), if_pos h47] at hb
              rw [if_pos ⟨h47, rfl⟩]
              have hgo : go m c = { m with at_ := 8, seen := m.seen + 1 } := by unfold go; rw [hb]
              have h8 : Rin 8 (go m c) x (a + 1) := (h.at (s' := 8)).on (n := 1) hgo
              have hw := word_goes h8 (by simp) w1 1 (by rw [if_neg (fun hx => by have := h8.at0; omega)])
              have hd : decide ((go m c).at_ = 2) = false := by have := h8.at0; simp; omega
              rw [hd, innerN_word] at hw
              exact Goes0.cons0 (o := some (innerN r)) hg hw
            · rw [if_neg (fun hx => h47 hx.1)]
              by_cases h91 : c = 91
              · rw [if_pos h91] at hb
                rw [if_pos h91]
                have hgo : go m c = { m with at_ := 7, seen := m.seen + 1 } := by unfold go; rw [hb]
                exact stay true ((h.at (s' := 7)).on (n := 1) hgo) (by rw [hgo]; exact hby)
              · rw [if_neg h91, if_neg h47] at hb
                rw [if_neg h91]
                have hgo : go m c = { m with seen := m.seen + 1 } := by unfold go; rw [hb]
                have := stay false (h.on (n := 1) hgo) (by rw [hgo]; exact hby)
                by_cases h93 : c = 93
                · rw [if_pos h93]; exact this
                · rw [if_neg h93]; exact this
end Tg.Rd
