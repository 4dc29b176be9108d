/-
  The reference for JSON: arrays and objects.
-/
import Derived.Test.YtpelmepidboikaaJsonRefD
set_option linter.unusedSimpArgs false
set_option linter.unusedVariables false
namespace Go.Proofs.Ytpelmepidboikaa
open Go.RowKit Go.Tg Tg.Json

/-- an element, and what comes behind it -/
def elem (val : List UInt8 → Nat × Nat) (o : Bool) (next : List UInt8 → Nat × Nat) (l : List UInt8) : Nat × Nat :=
  if (val l).2 ≠ 4 then val l else add (val l).1 (behindElem o next (l.drop (val l).1))
theorem list_eq (val : List UInt8 → Nat × Nat) (o one : Bool) (g : Nat) (l : List UInt8) : list val o (g + 1) one l =
    match l.drop (skip l) with
    | [] => (skip l, 1)
    | b :: r =>
      if one ∧ b = close o then (skip l + 1, 4)
      else add (skip l)
        (if (named o (b :: r)).2 ≠ 4 then named o (b :: r)
         else add (named o (b :: r)).1 (elem val o (list val o g false) ((b :: r).drop (named o (b :: r)).1))) := rfl
theorem valI {d : Nat} (h : ValC d) (s : ByteArray) (a : Nat) (x : Int) (w : World) (hs : s.size ≤ 1048576) (ha : a ≤ s.size) (hx : x = a) :
  Calls Try.prog 21 #[.string s, .int .i64 x, .int .i64 d] w fun e w' => e = .returned (said a (value d (s.data.toList.drop a))) ∧ Change (fun _ => False) w w' := by
  subst hx; exact h s a w hs ha
theorem skipI (s : ByteArray) (a : Nat) (x : Int) (w : World) (hs : s.size ≤ 1048576) (ha : a ≤ s.size) (hx : x = a) :
    Calls Try.prog 22 #[.string s, .int .i64 x] w fun e w' => (∃ p : Nat, e = .returned (.int .i64 p) ∧ p ≤ s.size ∧ Hid (p = a + skip (s.data.toList.drop a))) ∧ w = w' := by
  subst hx
  have hsk := skip_le (s.data.toList.drop a)
  simp only [List.length_drop, Array.length_toList] at hsk
  have hsz : s.data.size = s.size := rfl
  refine (skip_any s a w (by unfold maxLen; omega) ha).mono ?_
  rintro e w' ⟨rfl, rfl⟩
  exact ⟨⟨_, rfl, by omega, rfl⟩, rfl⟩
theorem value_le (d : Nat) (l : List UInt8) (h : (value d l).2 = 4) : (value d l).1 ≤ l.length := by
  rcases value_goes d d [] (by simp) (M.start d) l rfl rfl rfl (.inl rfl) with ⟨_, h, _⟩ | ⟨h1, _⟩ | ⟨h1, _⟩
  · exact h
  · omega
  · omega
theorem quote_le (l : List UInt8) (h : (quote 0 l).2 = 4) : (quote 0 l).1 ≤ l.length := by
  rcases quote_goes l 0 { M.start 0 with pos := 6 } rfl rfl (by intro h; omega) (by omega) with ⟨_, h, _⟩ | ⟨h1, _⟩ | ⟨h1, _⟩
  · exact h
  · omega
  · omega
theorem behind_at (o : Bool) (next : List UInt8 → Nat × Nat) (s : ByteArray) (q t : Nat) (ht : t = q + skip (s.data.toList.drop q)) :
    said q (behindElem o next (s.data.toList.drop q)) = (match s.data.toList.drop t with
      | [] => said t (0, 1)
      | c :: r => if c = close o then said (t + 1) (0, 4) else if c ≠ 44 then said t (0, 0) else said (t + 1) (next r)) := by
  subst ht
  unfold behindElem
  rw [List.drop_drop]
  generalize s.data.toList.drop (q + skip (s.data.toList.drop q)) = m
  cases m with
  | nil => rfl
  | cons c r =>
    simp only
    by_cases h1 : c = close o
    · rw [if_pos h1, if_pos h1]; simp only [said]; rfl
    · rw [if_neg h1, if_neg h1]
      by_cases h2 : c ≠ 44
      · rw [if_pos h2, if_pos h2]; rfl
      · rw [if_neg h2, if_neg h2, said_add]; rfl


set_option maxHeartbeats 16000000 in
set_option maxRecDepth 100000 in
theorem list_arr (d : Nat) (hd1000 : d ≤ 1000) (hv : ValC d) (s : ByteArray) (a : Nat) (w : World) (hs : s.size ≤ 1048576) (ha : a ≤ s.size) :
  Calls Try.prog 26 #[.string s, .int .i64 a, .int .i64 d, .bool false] w fun e w' => e = .returned (said a (list (value d) false ((s.data.toList.drop a).length + 1) true (s.data.toList.drop a))) ∧ Change (fun _ => False) w w' := by
  obtain ⟨R, hR⟩ : ∃ R, R = said a (list (value d) false ((s.data.toList.drop a).length + 1) true (s.data.toList.drop a)) := ⟨_, rfl⟩
  rw [← hR]
  have HR := Lib.hid hR
  have HV := Lib.hid hv
  clear hR hv
  go_enter Try.func26, Try.ntmps26
  go_wp2
  go_loopw [1, 10] (fun i n wr => ∃ k nn f : Nat, k ≤ s.size ∧ nn ≤ k ∧ i = .int .i64 k ∧ n = .int .i64 nn ∧ s.size - k < f ∧ Hid (said k (list (value d) false f (nn == 0) (s.data.toList.drop k)) = R) ∧ Blk wr w.heap.size 38 #[.int .i64 0, .int .i64 0] ∧ Change (fun _ => False) w wr) (fun i _ _ => s.size - (intOf i).toNat)
  case atStart =>
    refine ⟨a, 0, _, ha, Nat.zero_le _, rfl, rfl, ?_, HR.out.symm, Blk.new _ _ _, (Change.refl _ w).alloc _⟩
    have hsz : s.data.size = s.size := rfl
    simp only [List.length_drop, Array.length_toList]; omega
  case round =>
    obtain ⟨k, nn, f, hk, hnk, rfl, rfl, hfl, hF, hb, hc⟩ := hrel
    obtain ⟨g, rfl⟩ : ∃ g, f = g + 1 := ⟨f - 1, by omega⟩
    obtain ⟨c0, c1, hf⟩ := blk_agg hb
    have HB := Lib.hid hb
    have HC := Lib.hid hc
    clear hb hc
    go_wp2_with fail
    refine (skipI s k _ _ hs hk rfl).mono ?_
    rintro e w1 ⟨⟨p, rfl, hps, hP⟩, rfl⟩
    have hkp : k ≤ p := by have := hP.out; omega
    by_cases hlt : p < s.size
    · have hd := Lib.hid (drop_cons hlt)
      have e0 : ((p : Int) == s.size) = false := by rw [beq_eq_false_iff_ne]; omega
      have HL : Hid (R = if (nn == 0) = true ∧ s[p] = close false then said (p + 1) (0, 4) else said p (if (named false (s[p] :: s.data.toList.drop (p + 1))).2 ≠ 4 then named false (s[p] :: s.data.toList.drop (p + 1)) else add (named false (s[p] :: s.data.toList.drop (p + 1))).1 (elem (value d) false (list (value d) false g false) ((s[p] :: s.data.toList.drop (p + 1)).drop (named false (s[p] :: s.data.toList.drop (p + 1))).1)))) := by
        show _ = _
        rw [← hF.out, list_eq, List.drop_drop, ← hP.out, hd.out]; simp only
        split
        · simp only [said]; rw [hP.out]; rfl
        · rw [said_add, ← hP.out]
      go_upto_region 9 with (fail)
      go_cut [33] from 14 to 103 (fun v wx => (Blk wx w.heap.size 38 #[.int .i64 0, .int .i64 0] ∧ Change (fun _ => False) w wx) ∧ ∃ pt : Bool, v = .bool pt ∧ Hid (pt = true ↔ ((nn == 0) = true ∧ s[p] = close false)))
      case first =>
        by_cases hn : nn = 0
        · subst hn
          rcases u8_is s[p] 93 93 rfl with ⟨b1, n1⟩ | ⟨b1, n1⟩
          · have B1 := Lib.hid b1
            clear b1
            go_wp2
            go_meet
            exact ⟨⟨HB.out, HC.out⟩, true, rfl, ⟨fun _ => ⟨rfl, B1.out⟩, fun _ => rfl⟩⟩
          · have B1 := Lib.hid b1
            clear b1
            go_wp2
            go_meet
            exact ⟨⟨HB.out, HC.out⟩, false, rfl, ⟨fun h => by simp at h, fun h => absurd h.2 B1.out⟩⟩
        · have n0 : ((nn : Int) == 0) = false := by rw [beq_eq_false_iff_ne]; omega
          have n0' : (nn == 0) = false := by rw [beq_eq_false_iff_ne]; exact hn
          have N0 := Lib.hid n0'
          clear n0'
          go_wp2
          go_meet
          exact ⟨⟨HB.out, HC.out⟩, false, rfl, ⟨fun h => by simp at h, fun h => by rw [N0.out] at h; simp at h⟩⟩
      case rest =>
      obtain ⟨⟨hb, hc⟩, pt, rfl, hpt⟩ := hcut
      clear c0 c1 hf
      obtain ⟨c0, c1, hf⟩ := blk_agg hb
      have HB := Lib.hid hb
      have HC := Lib.hid hc
      clear hb hc
      cases pt
      rotate_left
      · have HF : Hid (R = said (p + 1) (0, 4)) := by
          show _ = _
          rw [HL.out, if_pos (hpt.out.1 rfl)]
        go_wp2
        refine post_said (b := w.heap.size) (((HB.out.set 0 _).set 1 _)) rfl rfl rfl ⟨?_, ?_⟩
        · rw [HF.out]; rfl
        · (repeat (first | exact HC.out | refine Change.drewN ?_ _ | refine Change.drew ?_ | refine Change.alloc ?_ _ | refine Change.setCell ?_ (.inr (by first | (simp; done) | (simp; omega) | omega)) _))

      have HL2 : Hid (R = said p (if (named false (s[p] :: s.data.toList.drop (p + 1))).2 ≠ 4 then named false (s[p] :: s.data.toList.drop (p + 1)) else add (named false (s[p] :: s.data.toList.drop (p + 1))).1 (elem (value d) false (list (value d) false g false) ((s[p] :: s.data.toList.drop (p + 1)).drop (named false (s[p] :: s.data.toList.drop (p + 1))).1)))) := by
        show _ = _
        rw [HL.out, if_neg (fun h => by have := hpt.out.2 h; simp at this)]
      have HE : Hid (R = said p (elem (value d) false (list (value d) false g false) (s.data.toList.drop p))) := by
        show _ = _
        rw [HL2.out, hd.out]; rfl
      go_wp2_with fail
      refine (valI HV.out s (p) _ _ hs (by omega) (by omega)).mono ?_
      rintro e w2 ⟨rfl, hc2⟩
      have hc3 := (HC.out).trans hc2 (fun i h => h.elim)
      have hb3 := (HB.out).of_change hc2 (fun h => h)
      clear c0 c1 hf
      obtain ⟨c0, c1, hf⟩ := blk_agg hb3
      have HB3 := Lib.hid hb3
      have HC3 := Lib.hid hc3
      have hlt2 := hb3.lt
      clear hb3 hc3 hc2
      obtain ⟨rn, rs, hsd, hrn, hrs⟩ := said_open (p) (value d (s.data.toList.drop (p)))
      have hvl := value_le d (s.data.toList.drop (p))
      simp only [List.length_drop, Array.length_toList] at hvl
      have hsz : s.data.size = s.size := rfl
      rw [hsz] at hvl
      have HE2 : Hid (R = said (p) (elem (value d) false (list (value d) false g false) (s.data.toList.drop (p)))) := HE
      rw [hsd]
      by_cases h4 : (value d (s.data.toList.drop (p))).2 = 4
      · obtain ⟨q, hq⟩ : ∃ q, q = (p) + (value d (s.data.toList.drop (p))).1 := ⟨_, rfl⟩
        have hqs : q ≤ s.size := by have := hvl h4; omega
        have HQ : Hid (R = said q (behindElem false (list (value d) false g false) (s.data.toList.drop q))) := by
          show _ = _
          rw [HE2.out, elem, if_neg (by simp [h4]), said_add, List.drop_drop, ← hq]
        have e4 : rs = -1 := by rw [hrs, h4]; rfl
        have eq : rn = q := by rw [hrn, hq]
        have hqat : (p) ≤ q := by omega
        subst e4 eq
        clear hsd hrs hrn hq h4 hvl hsz
        go_wp2_with fail
        refine (skipI s q _ _ hs hqs (by first | rfl | omega)).mono ?_
        rintro e w3 ⟨⟨t, rfl, hts, hT⟩, rfl⟩
        have htq : q ≤ t := by have := hT.out; omega
        have HBH := Lib.hid (behind_at false (list (value d) false g false) s q t hT.out)
        by_cases hlt3 : t < s.size
        · have hd3 := Lib.hid (drop_cons hlt3)
          have e5 : ((t : Int) == s.size) = false := by rw [beq_eq_false_iff_ne]; omega
          rcases u8_is s[t] 93 93 rfl with ⟨b1, n1⟩ | ⟨b1, n1⟩
          · have B1 := Lib.hid b1
            clear b1
            have HF : Hid (R = said (t + 1) (0, 4)) := by
              show _ = _
              rw [HQ.out, HBH.out, hd3.out]; simp only; rw [if_pos (by rw [B1.out]; rfl)]
            go_wp2
            refine post_said (b := w.heap.size) (((HB3.out.set 0 _).set 1 _).alloc _) rfl rfl rfl ⟨?_, ?_⟩
            · rw [HF.out]; rfl
            · (repeat (first | exact HC3.out | refine Change.drewN ?_ _ | refine Change.drew ?_ | refine Change.alloc ?_ _ | refine Change.setCell ?_ (.inr (by first | (simp; done) | (simp; omega) | omega)) _))

          · have B1 := Lib.hid b1
            clear b1
            rcases u8_is s[t] 44 44 rfl with ⟨b2, n2⟩ | ⟨b2, n2⟩
            · have n2' : ((s[t].toNat : Int) != 44) = false := by simp only [bne, n2]; rfl
              have B2 := Lib.hid b2
              clear b2 n2
              have HF : Hid (R = said (t + 1) (list (value d) false g false (s.data.toList.drop (t + 1)))) := by
                show _ = _
                rw [HQ.out, HBH.out, hd3.out]; simp only; rw [if_neg (show ¬ s[t] = close false from B1.out), if_neg (by simp [B2.out])]
              go_wp2
              refine ⟨⟨t + 1, nn + 1, g, by omega, by omega, by go_num, by go_num, by omega, ?_, ?_, ?_⟩, by simp [intOf]; omega⟩
              · show _ = _
                rw [HF.out]; rfl
              · repeat (first | exact HB3.out | refine Blk.alloc ?_ _)
              · (repeat (first | exact HC3.out | refine Change.drewN ?_ _ | refine Change.drew ?_ | refine Change.alloc ?_ _ | refine Change.setCell ?_ (.inr (by first | (simp; done) | (simp; omega) | omega)) _))
            · have n2' : ((s[t].toNat : Int) != 44) = true := by simp only [bne, n2]; rfl
              have B2 := Lib.hid b2
              clear b2 n2
              have HF : Hid (R = said t (0, 0)) := by
                show _ = _
                rw [HQ.out, HBH.out, hd3.out]; simp only; rw [if_neg (show ¬ s[t] = close false from B1.out), if_pos B2.out]
              go_wp2
              refine post_said (b := w.heap.size) (((HB3.out.set 0 _).set 1 _).alloc _) rfl rfl rfl ⟨?_, ?_⟩
              · rw [HF.out]; rfl
              · (repeat (first | exact HC3.out | refine Change.drewN ?_ _ | refine Change.drew ?_ | refine Change.alloc ?_ _ | refine Change.setCell ?_ (.inr (by first | (simp; done) | (simp; omega) | omega)) _))

        · have hd3 := Lib.hid (drop_end hlt3)
          have e5 : ((t : Int) == s.size) = true := by rw [beq_iff_eq]; omega
          have HF : Hid (R = said t (0, 1)) := by
            show _ = _
            rw [HQ.out, HBH.out, hd3.out]
          go_wp2
          refine post_said (b := w.heap.size) (((HB3.out.set 0 _).set 1 _).alloc _) rfl rfl rfl ⟨?_, ?_⟩
          · rw [HF.out]; rfl
          · (repeat (first | exact HC3.out | refine Change.drewN ?_ _ | refine Change.drew ?_ | refine Change.alloc ?_ _ | refine Change.setCell ?_ (.inr (by first | (simp; done) | (simp; omega) | omega)) _))

      · have HQ : Hid (R = .agg #[.int .i64 rn, .int .i64 rs]) := by
          show _ = _
          rw [HE2.out, elem, if_pos h4, hsd]
        have e4 : (rs != -1) = true := by rw [bne_iff_ne, hrs]; exact fun h => h4 ((stv_four _).1 h)
        clear hsd hrs hrn h4 hvl hsz
        go_wp2
        refine post_said (b := w.heap.size) (((HB3.out.set 0 _).set 1 _).alloc _) rfl rfl rfl ⟨?_, ?_⟩
        · rw [HQ.out]
        · (repeat (first | exact HC3.out | refine Change.drewN ?_ _ | refine Change.drew ?_ | refine Change.alloc ?_ _ | refine Change.setCell ?_ (.inr (by first | (simp; done) | (simp; omega) | omega)) _))

    · have hd := Lib.hid (drop_end hlt)
      have e0 : ((p : Int) == s.size) = true := by rw [beq_iff_eq]; omega
      have HF : Hid (R = said p (0, 1)) := by
        show _ = _
        rw [← hF.out, list_eq, List.drop_drop, ← hP.out, hd.out]; simp only [said]; rw [hP.out]; rfl
      go_wp2
      refine post_said (b := w.heap.size) (((HB.out.set 0 _).set 1 _)) rfl rfl rfl ⟨?_, ?_⟩
      · rw [HF.out]; rfl
      · (repeat (first | exact HC.out | refine Change.drewN ?_ _ | refine Change.drew ?_ | refine Change.alloc ?_ _ | refine Change.setCell ?_ (.inr (by first | (simp; done) | (simp; omega) | omega)) _))


end Go.Proofs.Ytpelmepidboikaa
