/-
  The reference for JSON: texts and numbers.
-/
import Derived.Test.YtpelmepidboikaaJsonRef
set_option linter.unusedSimpArgs false
set_option linter.unusedVariables false
namespace Go.Proofs.Ytpelmepidboikaa
open Go.RowKit Go.Tg Tg.Json

def hexLow : ByteArray := ⟨#[48, 49, 50, 51, 52, 53, 54, 55, 56, 57, 97, 98, 99, 100, 101, 102]⟩
def hexGo (c : UInt8) : Nat → Nat → Int
  | 0, _ => -1
  | f + 1, k => if ((#[48, 49, 50, 51, 52, 53, 54, 55, 56, 57, 97, 98, 99, 100, 101, 102] : Array UInt8).getD k 0).toNat = c.toNat ∨ ((#[48, 49, 50, 51, 52, 53, 54, 55, 56, 57, 65, 66, 67, 68, 69, 70] : Array UInt8).getD k 0).toNat = c.toNat then k else hexGo c f (k + 1)
theorem hexGo_hex (c : UInt8) : (0 ≤ hexGo c 16 0 ∧ hex c = true) ∨ (hexGo c 16 0 < 0 ∧ hex c = false) := by
  have h : ∀ n : Fin 256, (0 ≤ hexGo (UInt8.ofNat n.val) 16 0 ∧ hex (UInt8.ofNat n.val) = true) ∨ (hexGo (UInt8.ofNat n.val) 16 0 < 0 ∧ hex (UInt8.ofNat n.val) = false) := by decide +kernel
  have := h ⟨c.toNat, UInt8.toNat_lt c⟩
  simpa only [UInt8.ofNat_toNat] using this
theorem ba_getD (a : Array UInt8) (k : Nat) (h : k < (⟨a⟩ : ByteArray).size) : (⟨a⟩ : ByteArray)[k]'h = a.getD k 0 := by
  have h' : k < a.size := h
  show a[k] = _
  simp [Array.getD, h']
theorem hexv_any (c : UInt8) (w : World) :
    Calls Try.prog 43 #[.int .u8 c.toNat] w fun e w' => e = .returned (.int .i64 (hexGo c 16 0)) ∧ w = w' := by
  go_enter Try.func43, Try.ntmps43
  go_wp2
  go_loop [5] (fun i => ∃ k : Nat, k ≤ 16 ∧ i = .int .i64 k ∧ Hid (hexGo c (16 - k) k = hexGo c 16 0)) (fun i => 16 - (intOf i).toNat)
  case atStart => exact ⟨0, by omega, rfl, rfl⟩
  case round =>
    obtain ⟨k, hk, rfl, hF⟩ := hrel
    by_cases hlt : k < 16
    · have hs : Hid (hexGo c (16 - k) k = if ((#[48, 49, 50, 51, 52, 53, 54, 55, 56, 57, 97, 98, 99, 100, 101, 102] : Array UInt8).getD k 0).toNat = c.toNat ∨ ((#[48, 49, 50, 51, 52, 53, 54, 55, 56, 57, 65, 66, 67, 68, 69, 70] : Array UInt8).getD k 0).toNat = c.toNat then (k : Int) else hexGo c (16 - (k + 1)) (k + 1)) := by
        obtain ⟨f, hf⟩ : ∃ f, 16 - k = f + 1 := ⟨15 - k, by omega⟩
        have hf' : 16 - (k + 1) = f := by omega
        show hexGo c (16 - k) k = _
        rw [hf, hf']; rfl
      go_wp2
      · go_ret
        refine ⟨ret_int ?_, rfl⟩
        rw [← hF.out, hs.out, if_pos]
        simp only [ba_getD] at *
        exact .inl (by omega)
      · go_ret
        refine ⟨ret_int ?_, rfl⟩
        rw [← hF.out, hs.out, if_pos]
        simp only [ba_getD, beq_iff_eq] at *
        omega
      · refine ⟨⟨k + 1, by omega, by go_num, ?_⟩, by simp [intOf]; omega⟩
        show _ = _
        rw [← hF.out, hs.out, if_neg]
        simp only [ba_getD, beq_iff_eq, beq_eq_false_iff_ne, ne_eq] at *
        omega
    · go_wp2
      go_ret
      refine ⟨ret_int ?_, rfl⟩
      have h := hF.out
      obtain rfl : k = 16 := by omega
      rw [← h]; rfl

theorem said_add (a n : Nat) (x : Nat × Nat) : said a (add n x) = said (a + n) x := by
  simp only [said, add]; rw [show a + (x.1 + n) = a + n + x.1 from by omega]
theorem said_fin {a : Nat} {x : Nat × Nat} {n st : Int} (h1 : n = (a + x.1 : Nat)) (h2 : st = stv x.2) : Ending.returned (.agg #[.int .i64 n, .int .i64 st]) = .returned (said a x) := said_eq h1 h2
set_option maxHeartbeats 1000000 in
theorem quote_any (s : ByteArray) (at_ : Nat) (w : World) (hs : s.size ≤ 1048576) (ha : at_ ≤ s.size) :
    Calls Try.prog 27 #[.string s, .int .i64 at_] w fun e w' => e = .returned (said at_ (quote 0 (s.data.toList.drop at_))) ∧ Change (fun _ => False) w w' := by
  go_enter Try.func27, Try.ntmps27
  go_wp2
  go_loopw [1] (fun i wr => ∃ k : Nat, k ≤ s.size ∧ i = .int .i64 k ∧ Hid (said k (quote 0 (s.data.toList.drop k)) = said at_ (quote 0 (s.data.toList.drop at_))) ∧ Blk wr w.heap.size 38 #[.int .i64 0, .int .i64 0] ∧ Change (fun _ => False) w wr) (fun i _ => s.size - (intOf i).toNat)
  case atStart => exact ⟨at_, ha, rfl, rfl, Blk.new _ _ _, (Change.refl _ w).alloc _⟩
  case round =>
    obtain ⟨k, hk, rfl, hF, hb, hc⟩ := hrel
    have hf := hb.free
    have c0 : wr.cell? ⟨w.heap.size, 0, none⟩ = some (.int .i64 0) := hb.cell 0
    have c1 : wr.cell? ⟨w.heap.size, 1, none⟩ = some (.int .i64 0) := hb.cell 1
    have HC := Lib.hid hc
    have HB := Lib.hid hb
    clear hc hb
    by_cases hlt : k < s.size
    · have hdk := Lib.hid (drop_cons hlt)
      have hu := u8_lt s[k]
      by_cases b1 : s[k] < 32
      · have n1 : (s[k].toNat : Int) < 32 := by simp only [UInt8.lt_iff_toNat_lt, UInt8.reduceToNat] at b1; omega
        have B1 := Lib.hid b1
        clear b1
        go_wp2
        refine bodyPost_ret (v := .agg #[.int .i64 (k), .int .i64 (0)]) (by simp [results, Try.results27, go_sem, c0, c1]) rfl ⟨?_, ?_⟩
        · rw [← hF.out]; rw [hdk.out, quote, if_pos rfl, if_pos B1.out]; exact said_fin (by simp) rfl
        · (repeat (first | exact HC.out | refine Change.drewN ?_ _ | refine Change.drew ?_ | refine Change.setCell ?_ (.inr (by simp)) _))

      · have n1 : ¬ (s[k].toNat : Int) < 32 := by simp only [UInt8.lt_iff_toNat_lt, UInt8.reduceToNat] at b1; omega
        have B1 := Lib.hid b1
        clear b1
        rcases u8_is s[k] 34 34 rfl with ⟨b2, n2⟩ | ⟨b2, n2⟩
        · have B2 := Lib.hid b2
          clear b2
          go_wp2
          refine bodyPost_ret (v := .agg #[.int .i64 (k + 1), .int .i64 (-1)]) (by simp [results, Try.results27, go_sem, c0, c1]) rfl ⟨?_, ?_⟩
          · rw [← hF.out]; rw [hdk.out, quote, if_pos rfl, if_neg B1.out, if_pos B2.out]; exact said_fin (by simp) rfl
          · (repeat (first | exact HC.out | refine Change.drewN ?_ _ | refine Change.drew ?_ | refine Change.setCell ?_ (.inr (by simp)) _))

        · have B2 := Lib.hid b2
          clear b2
          rcases u8_is s[k] 92 92 rfl with ⟨b3, n3⟩ | ⟨b3, n3⟩
          · have n3' : ((s[k].toNat : Int) != 92) = false := by simp only [bne, n3]; rfl
            have B3 := Lib.hid b3
            clear b3 n3
            have HQ : Hid (said (k + 1) (quote 1 (s.data.toList.drop (k + 1))) = said at_ (quote 0 (s.data.toList.drop at_))) := by
              show _ = _
              rw [← hF.out, hdk.out, quote, if_pos rfl, if_neg B1.out, if_neg B2.out, if_pos B3.out, said_add]
            by_cases hl2 : k + 1 < s.size
            · have hd2 := Lib.hid (drop_cons hl2)
              have e0 : ((k : Int) + 1 == s.size) = false := by rw [beq_eq_false_iff_ne]; omega
              rcases u8_is s[k + 1] 117 117 rfl with ⟨b4, n4⟩ | ⟨b4, n4⟩
              · have B4 := Lib.hid b4
                clear b4
                have HV : Hid (said (k + 1 + 1) (quote 5 (s.data.toList.drop (k + 1 + 1))) = said at_ (quote 0 (s.data.toList.drop at_))) := by
                  show _ = _
                  rw [← HQ.out, hd2.out, quote, if_neg (by decide), if_pos rfl, if_pos B4.out, said_add]
                go_wp2
                obtain ⟨wo, rfl⟩ : ∃ wo : World, wo = wr := ⟨_, rfl⟩
                go_loop [6] (fun i => ∃ j : Nat, 1 ≤ j ∧ j ≤ 5 ∧ i = .int .i64 j ∧ k + 1 + j ≤ s.size ∧ Hid (said (k + 1 + j) (quote (if j = 5 then 0 else 6 - j) (s.data.toList.drop (k + 1 + j))) = said at_ (quote 0 (s.data.toList.drop at_)))) (fun i => 5 - (intOf i).toNat)
                case atStart => exact ⟨1, by omega, by omega, rfl, by omega, HV⟩
                case round =>
                  obtain ⟨j, hj1, hj5, rfl, hjs, hG⟩ := hrel
                  by_cases hj : j < 5
                  · by_cases hl3 : k + 1 + j < s.size
                    · have hd3 := Lib.hid (drop_cons hl3)
                      have hx := hexGo_hex s[k + 1 + j]
                      have b0 : (0 : Int) ≤ (k : Int) + 1 + j := by omega
                      have b5 : ((k : Int) + 1 + j) < s.size := by omega
                      have e1 : ((k : Int) + 1 + j).toNat = k + 1 + j := by omega
                      rcases hx with ⟨x1, x2⟩ | ⟨x1, x2⟩
                      · have X2 := Lib.hid x2
                        clear x2
                        go_wp2_with (go_at_call 43; refine (hexv_any _ _).mono ?_; rintro e w' ⟨rfl, rfl⟩)
                        refine ⟨⟨j + 1, by omega, by omega, by go_num, by omega, ?_⟩, by simp [intOf]; omega⟩
                        show _ = _
                        rw [← hG.out, hd3.out, if_neg (show ¬ j = 5 by omega), quote, if_neg (show ¬ 6 - j = 0 by omega), if_neg (show ¬ 6 - j = 1 by omega), if_pos X2.out, said_add]
                        have : (if 6 - j = 2 then 0 else 6 - j - 1) = (if j + 1 = 5 then 0 else 6 - (j + 1)) := by split <;> split <;> omega
                        rw [this]; rfl
                      · have X2 := Lib.hid x2
                        clear x2
                        go_wp2_with (go_at_call 43; refine (hexv_any _ _).mono ?_; rintro e w' ⟨rfl, rfl⟩)
                        refine bodyPost_ret (v := .agg #[.int .i64 (k + 1 + j), .int .i64 0]) (by simp [results, Try.results27, go_sem, c0, c1]) rfl ⟨?_, ?_⟩
                        · rw [← hG.out, hd3.out, if_neg (show ¬ j = 5 by omega), quote, if_neg (show ¬ 6 - j = 0 by omega), if_neg (show ¬ 6 - j = 1 by omega), if_neg (by rw [X2.out]; decide)]; exact said_fin (by simp) rfl
                        · (repeat (first | exact HC.out | refine Change.drewN ?_ _ | refine Change.drew ?_ | refine Change.setCell ?_ (.inr (by simp)) _))
                    · have hd3 := Lib.hid (drop_end hl3)
                      have hle : k + 1 + j = s.size := by omega
                      have HL := Lib.hid hle
                      clear hle
                      go_wp2
                      refine bodyPost_ret (v := .agg #[.int .i64 s.size, .int .i64 1]) (by simp [results, Try.results27, go_sem, c0, c1]) rfl ⟨?_, ?_⟩
                      · rw [← hG.out, hd3.out, if_neg (show ¬ j = 5 by omega)]
                        have : ∀ q, quote q [] = (0, 1) := fun _ => rfl
                        rw [this, HL.out]; exact said_fin (by simp) rfl
                      · (repeat (first | exact HC.out | refine Change.drewN ?_ _ | refine Change.drew ?_ | refine Change.setCell ?_ (.inr (by simp)) _))
                  · go_wp2
                    refine ⟨⟨k + 6, by omega, by go_num, ?_, HB.out, HC.out⟩, by simp [intOf]; omega⟩
                    obtain rfl : j = 5 := by omega
                    exact hG
              · have B4 := Lib.hid b4
                clear b4
                cases hes : esc s[k + 1]
                · have HE := Lib.hid hes
                  go_wp2_with (first | (go_at_call 31; refine (hasEsc_any _ _).mono ?_; rintro e w' ⟨rfl, rfl⟩))
                  refine bodyPost_ret (v := .agg #[.int .i64 (k + 1), .int .i64 0]) (by simp [results, Try.results27, go_sem, c0, c1]) rfl ⟨?_, ?_⟩
                  · rw [← HQ.out, hd2.out, quote, if_neg (by decide), if_pos rfl, if_neg B4.out, if_neg (by rw [HE.out]; decide)]; exact said_fin (by simp) rfl
                  · (repeat (first | exact HC.out | refine Change.drewN ?_ _ | refine Change.drew ?_ | refine Change.setCell ?_ (.inr (by simp)) _))
                · have HE := Lib.hid hes
                  go_wp2_with (first | (go_at_call 31; refine (hasEsc_any _ _).mono ?_; rintro e w' ⟨rfl, rfl⟩))
                  refine ⟨⟨k + 2, by omega, by go_num, ?_, HB.out, HC.out⟩, by simp [intOf]; omega⟩
                  show _ = _
                  rw [← HQ.out, hd2.out, quote, if_neg (by decide), if_pos rfl, if_neg B4.out, if_pos HE.out, said_add]
            · have hd2 := Lib.hid (drop_end hl2)
              have e0 : ((k : Int) + 1 == s.size) = true := by rw [beq_iff_eq]; omega
              go_wp2
              refine bodyPost_ret (v := .agg #[.int .i64 (k + 1), .int .i64 1]) (by simp [results, Try.results27, go_sem, c0, c1]) rfl ⟨?_, ?_⟩
              · rw [← HQ.out, hd2.out]; exact said_fin (by simp [quote]) rfl
              · (repeat (first | exact HC.out | refine Change.drewN ?_ _ | refine Change.drew ?_ | refine Change.setCell ?_ (.inr (by simp)) _))
          · have n3' : ((s[k].toNat : Int) != 92) = true := by simp only [bne, n3]; rfl
            have B3 := Lib.hid b3
            clear b3 n3
            go_wp2
            refine ⟨⟨k + 1, by omega, by go_num, ?_, HB.out, HC.out⟩, by simp [intOf]; omega⟩
            show _ = _
            rw [← hF.out, hdk.out, quote, if_pos rfl, if_neg B1.out, if_neg B2.out, if_neg B3.out, said_add]
    · have hdk := Lib.hid (drop_end hlt)
      go_wp2
      refine bodyPost_ret (v := .agg #[.int .i64 (k), .int .i64 (1)]) (by simp [results, Try.results27, go_sem, c0, c1]) rfl ⟨?_, ?_⟩
      · rw [← hF.out]; rw [hdk.out]; exact said_fin (by simp [quote]) rfl
      · (repeat (first | exact HC.out | refine Change.drewN ?_ _ | refine Change.drew ?_ | refine Change.setCell ?_ (.inr (by simp)) _))

end Go.Proofs.Ytpelmepidboikaa
