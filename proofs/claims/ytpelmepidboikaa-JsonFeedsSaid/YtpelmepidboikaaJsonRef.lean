/-
  The reference for JSON: what its functions compute.
-/
import Derived.Test.YtpelmepidboikaaJsonExp
import Derived.Test.YtpelmepidboikaaJsonNum
set_option linter.unusedSimpArgs false
set_option linter.unusedVariables false
namespace Go.Proofs.Ytpelmepidboikaa
open Go.RowKit Go.Tg Tg.Json

def has (l : List UInt8) (b : UInt8) : Bool := l.contains b
theorem has_cons (c : UInt8) (l : List UInt8) (b : UInt8) : has (c :: l) b = (c == b || has l b) := by
  unfold has; rw [List.contains_cons]; congr 1; rw [Bool.eq_iff_iff]; simp; exact eq_comm
def stv (n : Nat) : Int := if n = 4 then -1 else n
def said (at_ : Nat) (x : Nat × Nat) : Value := .agg #[.int .i64 (at_ + x.1 : Nat), .int .i64 (stv x.2)]
theorem drop_cons {s : ByteArray} {k : Nat} (h : k < s.size) : s.data.toList.drop k = s[k] :: s.data.toList.drop (k + 1) := by
  rw [List.drop_eq_getElem_cons (by simpa using h)]; rfl
theorem u8_beq (a b : UInt8) : ((a.toNat : Int) == b.toNat) = (a == b) := by
  rw [Bool.eq_iff_iff]; simp [← UInt8.toNat_inj]; omega
theorem drop_end {s : ByteArray} {k : Nat} (h : ¬ k < s.size) : s.data.toList.drop k = [] := by
  apply List.drop_eq_nil_of_le; simp; omega

theorem has_any (s : ByteArray) (b : UInt8) (w : World) (hs : s.size ≤ maxLen) :
    Calls Try.prog 31 #[.string s, .int .u8 b.toNat] w fun e w' => e = .returned (.bool (has s.data.toList b)) ∧ w = w' := by
  unfold maxLen at hs
  go_enter Try.func31, Try.ntmps31
  go_wp2
  go_loop [5] (fun i => ∃ k : Nat, k ≤ s.size ∧ i = .int .i64 k ∧ Hid (has (s.data.toList.drop k) b = has s.data.toList b)) (fun i => s.size - (intOf i).toNat)
  case atStart => exact ⟨0, Nat.zero_le _, rfl, rfl⟩
  case round =>
    obtain ⟨k, hk, rfl, hF⟩ := hrel
    by_cases hlt : k < s.size
    · have hd := drop_cons hlt
      have hb := u8_beq s[k] b
      have HD := Lib.hid hd
      have HB := Lib.hid hb
      clear hd hb
      go_wp2
      · go_ret
        refine ⟨ret_bool ?_, rfl⟩
        rw [← hF.out, HD.out, has_cons, ← HB.out, ‹((s[k].toNat : Int) == b.toNat) = true›]; rfl
      · go_round
        case rel =>
          refine ⟨k + 1, by omega, by go_num, ?_⟩
          show _ = _
          rw [← hF.out, HD.out, has_cons, ← HB.out, ‹((s[k].toNat : Int) == b.toNat) = false›]; rfl
        case measure => simp [intOf]; omega
    · have hd := drop_end hlt
      have HD := Lib.hid hd
      clear hd
      go_wp2
      go_ret
      refine ⟨ret_bool ?_, rfl⟩
      rw [← hF.out, HD.out]; rfl

theorem white_has (c : UInt8) : has [9, 10, 13, 32] c = white c := by
  have h : ∀ n : Fin 256, has [9, 10, 13, 32] (UInt8.ofNat n.val) = white (UInt8.ofNat n.val) := by decide +kernel
  have := h ⟨c.toNat, UInt8.toNat_lt c⟩
  simpa only [UInt8.ofNat_toNat] using this
theorem esc_has (c : UInt8) : has [34, 92, 47, 98, 102, 110, 114, 116] c = esc c := by
  have h : ∀ n : Fin 256, has [34, 92, 47, 98, 102, 110, 114, 116] (UInt8.ofNat n.val) = esc (UInt8.ofNat n.val) := by decide +kernel
  have := h ⟨c.toNat, UInt8.toNat_lt c⟩
  simpa only [UInt8.ofNat_toNat] using this
theorem hasWhite_any (c : UInt8) (w : World) :
    Calls Try.prog 31 #[.string ⟨#[9, 10, 13, 32]⟩, .int .u8 c.toNat] w fun e w' => e = .returned (.bool (white c)) ∧ w = w' := by
  rw [← white_has]; exact has_any ⟨#[9, 10, 13, 32]⟩ c w (by decide)
theorem hasEsc_any (c : UInt8) (w : World) :
    Calls Try.prog 31 #[.string ⟨#[34, 92, 47, 98, 102, 110, 114, 116]⟩, .int .u8 c.toNat] w fun e w' => e = .returned (.bool (esc c)) ∧ w = w' := by
  rw [← esc_has]; exact has_any ⟨#[34, 92, 47, 98, 102, 110, 114, 116]⟩ c w (by decide)
theorem skip_any (s : ByteArray) (at_ : Nat) (w : World) (hs : s.size ≤ maxLen) (ha : at_ ≤ s.size) :
    Calls Try.prog 22 #[.string s, .int .i64 at_] w fun e w' => e = .returned (.int .i64 (at_ + skip (s.data.toList.drop at_) : Nat)) ∧ w = w' := by
  unfold maxLen at hs
  go_enter Try.func22, Try.ntmps22
  go_wp2
  go_loop [1] (fun i => ∃ k : Nat, k ≤ s.size ∧ i = .int .i64 k ∧ Hid (k + skip (s.data.toList.drop k) = at_ + skip (s.data.toList.drop at_))) (fun i => s.size - (intOf i).toNat)
  case atStart => exact ⟨at_, ha, rfl, rfl⟩
  case round =>
    obtain ⟨k, hk, rfl, hF⟩ := hrel
    by_cases hlt : k < s.size
    · have hd := drop_cons hlt
      have HD := Lib.hid hd
      clear hd
      go_wp2_with (go_at_call 31; refine (hasWhite_any _ _).mono ?_; rintro e w' ⟨rfl, rfl⟩)
      · go_round
        case rel =>
          refine ⟨k + 1, by omega, by go_num, ?_⟩
          show _ = _
          rw [← hF.out, HD.out, skip, if_pos (by assumption)]; omega
        case measure => simp [intOf]; omega
      · go_ret
        refine ⟨ret_int ?_, rfl⟩
        rw [← hF.out, HD.out, skip, if_neg (by simp only [*]; decide)]; rfl
    · have hd := drop_end hlt
      have HD := Lib.hid hd
      clear hd
      go_wp2
      go_ret
      refine ⟨ret_int ?_, rfl⟩
      have h := hF.out
      rw [HD.out] at h
      have e : skip [] = 0 := rfl
      omega

theorem said_eq {a : Nat} {x : Nat × Nat} {n st : Int} (h1 : n = (a + x.1 : Nat)) (h2 : st = stv x.2) : Ending.returned (.agg #[.int .i64 n, .int .i64 st]) = .returned (said a x) := by
  rw [h1, h2]; rfl
set_option maxHeartbeats 1000000 in
theorem word_any (s v : ByteArray) (at_ : Nat) (w : World) (hs : s.size ≤ 1048576) (hv : v.size ≤ 8) (ha : at_ ≤ s.size) :
    Calls Try.prog 30 #[.string s, .int .i64 at_, .string v] w fun e w' => e = .returned (said at_ (word (s.data.toList.drop at_) v.data.toList)) ∧ Change (fun _ => False) w w' := by
  go_enter Try.func30, Try.ntmps30
  go_wp2
  go_loopw [7] (fun i wr => ∃ k : Nat, k ≤ v.size ∧ at_ + k ≤ s.size ∧ i = .int .i64 k ∧ Hid (add k (word (s.data.toList.drop (at_ + k)) (v.data.toList.drop k)) = word (s.data.toList.drop at_) v.data.toList) ∧ Blk wr w.heap.size 38 #[.int .i64 0, .int .i64 0] ∧ Change (fun _ => False) w wr) (fun i _ => v.size - (intOf i).toNat)
  case atStart => exact ⟨0, Nat.zero_le _, ha, rfl, by show add 0 _ = _; simp [add], Blk.new _ _ _, (Change.refl _ w).alloc _⟩
  case round =>
    obtain ⟨k, hk, hks, rfl, hF, hb, hc⟩ := hrel
    have hf := hb.free
    have c0 : wr.cell? ⟨w.heap.size, 0, none⟩ = some (.int .i64 0) := hb.cell 0
    have c1 : wr.cell? ⟨w.heap.size, 1, none⟩ = some (.int .i64 0) := hb.cell 1
    have HC := Lib.hid hc
    have HB := Lib.hid hb
    clear hc hb
    by_cases hlt : k < v.size
    · have hdv := Lib.hid (drop_cons hlt)
      by_cases hss : at_ + k < s.size
      · have hds := Lib.hid (drop_cons hss)
        have hcmp := Lib.hid (u8_beq s[at_ + k] v[k])
        have e0 : ((at_ : Int) + k == s.size) = false := by rw [beq_eq_false_iff_ne]; omega
        have b0 : (0 : Int) ≤ (at_ : Int) + k := by omega
        have b1 : ((at_ : Int) + k) < s.size := by omega
        have b2 : (k : Int) < v.size := by omega
        have e1 : ((at_ : Int) + k).toNat = at_ + k := by omega
        have e2 : IntKind.i64.wrap ((at_ : Int) + k) = (at_ : Int) + k := IntWalk.i64_in _ (by omega)
        by_cases hx : ((s[at_ + k].toNat : Int) == v[k].toNat) = true
        · have hx' : ((s[at_ + k].toNat : Int) != v[k].toNat) = false := by simp only [bne, hx]; rfl
          go_wp2_with fail
          go_quiet (fail)
          go_wp2
          refine ⟨⟨k + 1, by omega, by omega, by go_num, ?_, HB.out.drewN _, HC.out.drewN _⟩, by simp [intOf]; omega⟩
          show _ = _
          have ex : s[at_ + k] = v[k] := by rw [hcmp.out] at hx; simpa using hx
          rw [← hF.out, hds.out, hdv.out, word, if_pos ex]
          show add (k + 1) (word (List.drop (at_ + k + 1) _) _) = _
          generalize word (List.drop (at_ + k + 1) s.data.toList) (List.drop (k + 1) v.data.toList) = y
          simp only [add, Prod.mk.injEq]; exact ⟨by omega, trivial⟩
        · have hx' : ((s[at_ + k].toNat : Int) != v[k].toNat) = true := by simp only [bne, hx]; rfl
          have ex : ¬ s[at_ + k] = v[k] := by rw [hcmp.out] at hx; simpa using hx
          have HX := Lib.hid ex
          clear ex
          go_wp2_with fail
          go_quiet (fail)
          go_wp2
          refine bodyPost_ret (v := .agg #[.int .i64 (at_ + k), .int .i64 0]) (by simp [results, Try.results30, go_sem, c0, c1]) rfl ⟨?_, ?_⟩
          · rw [← hF.out, hds.out, hdv.out, word, if_neg HX.out]; exact said_eq (by simp [add]) rfl
          · (repeat (first | exact HC.out | refine Change.drewN ?_ _ | refine Change.drew ?_ | refine Change.setCell ?_ (.inr (by simp)) _))
      · have hds := Lib.hid (drop_end hss)
        have e0 : ((at_ : Int) + k == s.size) = true := by rw [beq_iff_eq]; omega
        have hk1 : at_ + k = s.size := by omega
        have HK := Lib.hid hk1
        clear hk1
        go_wp2
        refine bodyPost_ret (v := .agg #[.int .i64 (at_ + k), .int .i64 1]) (by simp [results, Try.results30, go_sem, c0, c1]) rfl ⟨?_, ?_⟩
        · rw [← hF.out, hds.out, hdv.out, word]; exact said_eq (by simp [add]) rfl
        · (repeat (first | exact HC.out | refine Change.drewN ?_ _ | refine Change.drew ?_ | refine Change.setCell ?_ (.inr (by simp)) _))
    · have hdv := Lib.hid (drop_end hlt)
      have hkv : k = v.size := by omega
      have HK := Lib.hid hkv
      clear hkv
      go_wp2
      refine bodyPost_ret (v := .agg #[.int .i64 (at_ + v.size), .int .i64 (-1)]) (by simp [results, Try.results30, go_sem, c0, c1]) rfl ⟨?_, ?_⟩
      · rw [← hF.out, hdv.out]
        have : ∀ l : List UInt8, word l [] = (0, 4) := by intro l; cases l <;> rfl
        rw [this, ← HK.out]; exact said_eq (by simp [add]) rfl
      · (repeat (first | exact HC.out | refine Change.drewN ?_ _ | refine Change.drew ?_ | refine Change.setCell ?_ (.inr (by simp)) _))

theorem rdigit_any (c : UInt8) (w : World) :
    Calls Try.prog 28 #[.int .u8 c.toNat] w fun e w' => e = .returned (.bool (digit c)) ∧ w = w' := by
  rw [digit_nat]
  go_enter Try.func28, Try.ntmps28
  go_wp2
  all_goals go_ret
  all_goals (refine ⟨ret_bool ?_, rfl⟩; try simp only [beq_iff_eq, beq_eq_false_iff_ne, ne_eq] at *)
  all_goals (rw [Bool.eq_iff_iff]; simp; try omega)
set_option maxHeartbeats 1000000 in
theorem run_any (s : ByteArray) (at_ : Nat) (w : World) (hs : s.size ≤ 1048576) (ha : at_ ≤ s.size) :
    Calls Try.prog 44 #[.string s, .int .i64 at_] w fun e w' => e = .returned (said at_ (run (s.data.toList.drop at_))) ∧ Change (fun _ => False) w w' := by
  by_cases hss : at_ < s.size
  · have hds := Lib.hid (drop_cons hss)
    have e0 : ((at_ : Int) == s.size) = false := by rw [beq_eq_false_iff_ne]; omega
    cases hdg : digit s[at_]
    · have Hdg := Lib.hid hdg
      have hb : Blk (w.alloc (.cells #[.int .i64 0, .int .i64 0] 38)) w.heap.size _ _ := Blk.new w 38 #[.int .i64 0, .int .i64 0]
      go_enter Try.func44, Try.ntmps44
      go_wp2_with (go_at_call 28; refine (rdigit_any _ _).mono ?_; rintro e w' ⟨rfl, rfl⟩)
      refine bodyPost_ret (v := .agg #[.int .i64 at_, .int .i64 0]) (by simp [results, Try.results44, go_sem]) rfl ⟨?_, ?_⟩
      · rw [hds.out, run, if_neg (by rw [Hdg.out]; decide)]; exact said_eq (by simp) rfl
      · exact (Change.refl _ w).alloc _
    · have Hdg := Lib.hid hdg
      go_enter Try.func44, Try.ntmps44
      go_wp2_with (go_at_call 28; refine (rdigit_any _ _).mono ?_; rintro e w' ⟨rfl, rfl⟩)
      go_loopw [1] (fun i wr => ∃ k : Nat, k ≤ s.size ∧ at_ ≤ k ∧ i = .int .i64 k ∧ Hid (k + digits (s.data.toList.drop k) = at_ + digits (s.data.toList.drop at_)) ∧ Blk wr w.heap.size 38 #[.int .i64 0, .int .i64 0] ∧ Change (fun _ => False) w wr) (fun i _ => s.size - (intOf i).toNat)
      case atStart => exact ⟨at_, ha, Nat.le_refl _, rfl, rfl, Blk.new _ _ _, (Change.refl _ w).alloc _⟩
      case round =>
        obtain ⟨k, hk, hak, rfl, hF, hb, hc⟩ := hrel
        have hf := hb.free
        have c0 : wr.cell? ⟨w.heap.size, 0, none⟩ = some (.int .i64 0) := hb.cell 0
        have c1 : wr.cell? ⟨w.heap.size, 1, none⟩ = some (.int .i64 0) := hb.cell 1
        have HC := Lib.hid hc
        have HB := Lib.hid hb
        clear hc hb
        have Hend : Hid (digits (s.data.toList.drop k) = 0 → Ending.returned (.agg #[.int .i64 k, .int .i64 (-1)]) = Ending.returned (said at_ (run (s.data.toList.drop at_)))) := by
          intro h0
          have h := hF.out
          rw [h0] at h
          have hr : run (s.data.toList.drop at_) = (digits (s.data.toList.drop at_), 4) := by
            rw [hds.out, run, if_pos Hdg.out]
          rw [hr]; exact said_eq (by simp; omega) rfl
        by_cases hlt : k < s.size
        · have hdk := Lib.hid (drop_cons hlt)
          cases hdgk : digit s[k]
          · have Hk := Lib.hid hdgk
            go_wp2_with (go_at_call 28; refine (rdigit_any _ _).mono ?_; rintro e w' ⟨rfl, rfl⟩)
            refine bodyPost_ret (v := .agg #[.int .i64 k, .int .i64 (-1)]) (by simp [results, Try.results44, go_sem, c0, c1]) rfl ⟨?_, ?_⟩
            · exact Hend.out (by rw [hdk.out, digits, if_neg (by rw [Hk.out]; decide)])
            · (repeat (first | exact HC.out | refine Change.drewN ?_ _ | refine Change.drew ?_ | refine Change.setCell ?_ (.inr (by simp)) _))
          · have Hk := Lib.hid hdgk
            go_wp2_with (go_at_call 28; refine (rdigit_any _ _).mono ?_; rintro e w' ⟨rfl, rfl⟩)
            refine ⟨⟨k + 1, by omega, by omega, by go_num, ?_, HB.out, HC.out⟩, by simp [intOf]; omega⟩
            show _ = _
            rw [← hF.out, hdk.out, digits, if_pos Hk.out]; omega
        · have hdk := Lib.hid (drop_end hlt)
          go_wp2_with (go_at_call 28; refine (rdigit_any _ _).mono ?_; rintro e w' ⟨rfl, rfl⟩)
          refine bodyPost_ret (v := .agg #[.int .i64 k, .int .i64 (-1)]) (by simp [results, Try.results44, go_sem, c0, c1]) rfl ⟨?_, ?_⟩
          · exact Hend.out (by rw [hdk.out]; rfl)
          · (repeat (first | exact HC.out | refine Change.drewN ?_ _ | refine Change.drew ?_ | refine Change.setCell ?_ (.inr (by simp)) _))
  · have hds := Lib.hid (drop_end hss)
    have e0 : ((at_ : Int) == s.size) = true := by rw [beq_iff_eq]; omega
    have hk1 : at_ = s.size := by omega
    have HK := Lib.hid hk1
    clear hk1
    go_enter Try.func44, Try.ntmps44
    go_wp2
    refine bodyPost_ret (v := .agg #[.int .i64 at_, .int .i64 1]) (by simp [results, Try.results44, go_sem]) rfl ⟨?_, ?_⟩
    · rw [hds.out, run]; exact said_eq (by simp) rfl
    · exact (Change.refl _ w).alloc _
end Go.Proofs.Ytpelmepidboikaa
