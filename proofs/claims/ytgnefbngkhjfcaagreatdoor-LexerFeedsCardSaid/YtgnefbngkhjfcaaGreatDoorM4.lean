/-
  Texts joined, part 4: JsonRef, JsonRefB, JsonRefC, JsonRefD, JsonRefE, JsonRefF, JsonRefG, JsLib, Door, LxPlain, JsPure, JsMach, LgQui, LgMore, LgObj, JsObj, JsStack, JsWord, JsByte, JsByteB, JsInWord, JsTell, JsNew, JsFeed.
-/
import Derived.Test.YtgnefbngkhjfcaaGreatDoorM1
import Derived.Test.YtgnefbngkhjfcaaGreatDoorM3
import Derived.Deep.DeepCutAuto
import Derived.Test.YtgnefbngkhjfcaaGreatDoorRows
import Derived.ProofKit
import Derived.LaidMore
import Derived.LaidSub
import Derived.Lib.LaidTab
import Derived.Stop.Joined
/-
  The reference for JSON: what its functions compute.
-/
set_option linter.unusedSimpArgs false
set_option linter.unusedVariables false
namespace Go.Proofs.YtgnefbngkhjfcaaGreatDoor
open Go.RowKit Go.Tg Tg.Json

theorem u8_iff (c k : UInt8) : (c = k) ↔ c.toNat = k.toNat := UInt8.toNat_inj.symm

theorem white_nat (c : UInt8) : white c = decide (c.toNat = 32 ∨ c.toNat = 9 ∨ c.toNat = 10 ∨ c.toNat = 13) := by
  rw [Bool.eq_iff_iff]; simp [white, u8_iff]; omega
theorem digit_nat (c : UInt8) : digit c = decide (48 ≤ c.toNat ∧ c.toNat ≤ 57) := by
  rw [Bool.eq_iff_iff]; simp [digit, UInt8.le_iff_toNat_le]
theorem hex_nat (c : UInt8) : hex c = decide ((48 ≤ c.toNat ∧ c.toNat ≤ 57) ∨ (97 ≤ c.toNat ∧ c.toNat ≤ 102) ∨ (65 ≤ c.toNat ∧ c.toNat ≤ 70)) := by
  rw [Bool.eq_iff_iff]; simp [hex, digit, UInt8.le_iff_toNat_le]; omega


def has (l : List UInt8) (b : UInt8) : Bool := l.contains b
theorem has_cons (c : UInt8) (l : List UInt8) (b : UInt8) : has (c :: l) b = (c == b || has l b) := by
  unfold has; rw [List.contains_cons]; congr 1; rw [Bool.eq_iff_iff]; simp; exact eq_comm
def stv (n : Nat) : Int := if n = 4 then -1 else n
def said (at_ : Nat) (x : Nat × Nat) : Value := .agg #[.int .i64 (at_ + x.1 : Nat), .int .i64 (stv x.2)]
theorem drop_cons {s : ByteArray} {k : Nat} (h : k < s.size) : s.data.toList.drop k = s[k] :: s.data.toList.drop (k + 1) := by
  rw [List.drop_eq_getElem_cons (by simpa using h)]; rfl
theorem u8_beq (a b : UInt8) : ((a.toNat : Int) == b.toNat) = (a == b) := by
  rw [Bool.eq_iff_iff]; simp [← UInt8.toNat_inj]; omega
theorem drop_end {s : ByteArray} {k : Nat} (h : ¬ k < s.size) : s.data.toList.drop k = [] := by
  apply List.drop_eq_nil_of_le; simp; omega

theorem has_any (s : ByteArray) (b : UInt8) (w : World) (hs : s.size ≤ maxLen) :
    Calls Tryz.prog 60 #[.string s, .int .u8 b.toNat] w fun e w' => e = .returned (.bool (has s.data.toList b)) ∧ w = w' := by
  unfold maxLen at hs
  go_enter Tryz.func60, Tryz.ntmps60
  go_wp2
  go_loop [5] (fun i => ∃ k : Nat, k ≤ s.size ∧ i = .int .i64 k ∧ Hid (has (s.data.toList.drop k) b = has s.data.toList b)) (fun i => s.size - (intOf i).toNat)
  case atStart => exact ⟨0, Nat.zero_le _, rfl, rfl⟩
  case round =>
    obtain ⟨k, hk, rfl, hF⟩ := hrel
    by_cases hlt : k < s.size
    · have hd := drop_cons hlt
      have hb := u8_beq s[k] b
      have HD := Lib.hid hd
      have HB := Lib.hid hb
      clear hd hb
      go_wp2
      · go_ret
        refine ⟨ret_bool ?_, rfl⟩
        rw [← hF.out, HD.out, has_cons, ← HB.out, ‹((s[k].toNat : Int) == b.toNat) = true›]; rfl
      · go_round
        case rel =>
          refine ⟨k + 1, by omega, by go_num, ?_⟩
          show _ = _
          rw [← hF.out, HD.out, has_cons, ← HB.out, ‹((s[k].toNat : Int) == b.toNat) = false›]; rfl
        case measure => simp [intOf]; omega
    · have hd := drop_end hlt
      have HD := Lib.hid hd
      clear hd
      go_wp2
      go_ret
      refine ⟨ret_bool ?_, rfl⟩
      rw [← hF.out, HD.out]; rfl

theorem white_has (c : UInt8) : has [9, 10, 13, 32] c = white c := by
  have h : ∀ n : Fin 256, has [9, 10, 13, 32] (UInt8.ofNat n.val) = white (UInt8.ofNat n.val) := by decide +kernel
  have := h ⟨c.toNat, UInt8.toNat_lt c⟩
  simpa only [UInt8.ofNat_toNat] using this
theorem esc_has (c : UInt8) : has [34, 92, 47, 98, 102, 110, 114, 116] c = esc c := by
  have h : ∀ n : Fin 256, has [34, 92, 47, 98, 102, 110, 114, 116] (UInt8.ofNat n.val) = esc (UInt8.ofNat n.val) := by decide +kernel
  have := h ⟨c.toNat, UInt8.toNat_lt c⟩
  simpa only [UInt8.ofNat_toNat] using this
theorem hasWhite_any (c : UInt8) (w : World) :
    Calls Tryz.prog 60 #[.string ⟨#[9, 10, 13, 32]⟩, .int .u8 c.toNat] w fun e w' => e = .returned (.bool (white c)) ∧ w = w' := by
  rw [← white_has]; exact has_any ⟨#[9, 10, 13, 32]⟩ c w (by decide)
theorem hasEsc_any (c : UInt8) (w : World) :
    Calls Tryz.prog 60 #[.string ⟨#[34, 92, 47, 98, 102, 110, 114, 116]⟩, .int .u8 c.toNat] w fun e w' => e = .returned (.bool (esc c)) ∧ w = w' := by
  rw [← esc_has]; exact has_any ⟨#[34, 92, 47, 98, 102, 110, 114, 116]⟩ c w (by decide)
theorem skip_any (s : ByteArray) (at_ : Nat) (w : World) (hs : s.size ≤ maxLen) (ha : at_ ≤ s.size) :
    Calls Tryz.prog 44 #[.string s, .int .i64 at_] w fun e w' => e = .returned (.int .i64 (at_ + skip (s.data.toList.drop at_) : Nat)) ∧ w = w' := by
  unfold maxLen at hs
  go_enter Tryz.func44, Tryz.ntmps44
  go_wp2
  go_loop [1] (fun i => ∃ k : Nat, k ≤ s.size ∧ i = .int .i64 k ∧ Hid (k + skip (s.data.toList.drop k) = at_ + skip (s.data.toList.drop at_))) (fun i => s.size - (intOf i).toNat)
  case atStart => exact ⟨at_, ha, rfl, rfl⟩
  case round =>
    obtain ⟨k, hk, rfl, hF⟩ := hrel
    by_cases hlt : k < s.size
    · have hd := drop_cons hlt
      have HD := Lib.hid hd
      clear hd
      go_wp2_with (go_at_call 60; refine (hasWhite_any _ _).mono ?_; rintro e w' ⟨rfl, rfl⟩)
      · go_round
        case rel =>
          refine ⟨k + 1, by omega, by go_num, ?_⟩
          show _ = _
          rw [← hF.out, HD.out, skip, if_pos (by assumption)]; omega
        case measure => simp [intOf]; omega
      · go_ret
        refine ⟨ret_int ?_, rfl⟩
        rw [← hF.out, HD.out, skip, if_neg (by simp only [*]; decide)]; rfl
    · have hd := drop_end hlt
      have HD := Lib.hid hd
      clear hd
      go_wp2
      go_ret
      refine ⟨ret_int ?_, rfl⟩
      have h := hF.out
      rw [HD.out] at h
      have e : skip [] = 0 := rfl
      omega

theorem said_eq {a : Nat} {x : Nat × Nat} {n st : Int} (h1 : n = (a + x.1 : Nat)) (h2 : st = stv x.2) : Ending.returned (.agg #[.int .i64 n, .int .i64 st]) = .returned (said a x) := by
  rw [h1, h2]; rfl
set_option maxHeartbeats 1000000 in
theorem word_any (s v : ByteArray) (at_ : Nat) (w : World) (hs : s.size ≤ 1048576) (hv : v.size ≤ 8) (ha : at_ ≤ s.size) :
    Calls Tryz.prog 66 #[.string s, .int .i64 at_, .string v] w fun e w' => e = .returned (said at_ (word (s.data.toList.drop at_) v.data.toList)) ∧ Change (fun _ => False) w w' := by
  go_enter Tryz.func66, Tryz.ntmps66
  go_wp2
  go_loopw [7] (fun i wr => ∃ k : Nat, k ≤ v.size ∧ at_ + k ≤ s.size ∧ i = .int .i64 k ∧ Hid (add k (word (s.data.toList.drop (at_ + k)) (v.data.toList.drop k)) = word (s.data.toList.drop at_) v.data.toList) ∧ Blk wr w.heap.size 61 #[.int .i64 0, .int .i64 0] ∧ Change (fun _ => False) w wr) (fun i _ => v.size - (intOf i).toNat)
  case atStart => exact ⟨0, Nat.zero_le _, ha, rfl, by show add 0 _ = _; simp [add], Blk.new _ _ _, (Change.refl _ w).alloc _⟩
  case round =>
    obtain ⟨k, hk, hks, rfl, hF, hb, hc⟩ := hrel
    have hf := hb.free
    have c0 : wr.cell? ⟨w.heap.size, 0, none⟩ = some (.int .i64 0) := hb.cell 0
    have c1 : wr.cell? ⟨w.heap.size, 1, none⟩ = some (.int .i64 0) := hb.cell 1
    have HC := Lib.hid hc
    have HB := Lib.hid hb
    clear hc hb
    by_cases hlt : k < v.size
    · have hdv := Lib.hid (drop_cons hlt)
      by_cases hss : at_ + k < s.size
      · have hds := Lib.hid (drop_cons hss)
        have hcmp := Lib.hid (u8_beq s[at_ + k] v[k])
        have e0 : ((at_ : Int) + k == s.size) = false := by rw [beq_eq_false_iff_ne]; omega
        have b0 : (0 : Int) ≤ (at_ : Int) + k := by omega
        have b1 : ((at_ : Int) + k) < s.size := by omega
        have b2 : (k : Int) < v.size := by omega
        have e1 : ((at_ : Int) + k).toNat = at_ + k := by omega
        have e2 : IntKind.i64.wrap ((at_ : Int) + k) = (at_ : Int) + k := IntWalk.i64_in _ (by omega)
        by_cases hx : ((s[at_ + k].toNat : Int) == v[k].toNat) = true
        · have hx' : ((s[at_ + k].toNat : Int) != v[k].toNat) = false := by simp only [bne, hx]; rfl
          go_wp2_with fail
          go_quiet (fail)
          go_wp2
          refine ⟨⟨k + 1, by omega, by omega, by go_num, ?_, HB.out.drewN _, HC.out.drewN _⟩, by simp [intOf]; omega⟩
          show _ = _
          have ex : s[at_ + k] = v[k] := by rw [hcmp.out] at hx; simpa using hx
          rw [← hF.out, hds.out, hdv.out, word, if_pos ex]
          show add (k + 1) (word (List.drop (at_ + k + 1) _) _) = _
          generalize word (List.drop (at_ + k + 1) s.data.toList) (List.drop (k + 1) v.data.toList) = y
          simp only [add, Prod.mk.injEq]; exact ⟨by omega, trivial⟩
        · have hx' : ((s[at_ + k].toNat : Int) != v[k].toNat) = true := by simp only [bne, hx]; rfl
          have ex : ¬ s[at_ + k] = v[k] := by rw [hcmp.out] at hx; simpa using hx
          have HX := Lib.hid ex
          clear ex
          go_wp2_with fail
          go_quiet (fail)
          go_wp2
          refine bodyPost_ret (v := .agg #[.int .i64 (at_ + k), .int .i64 0]) (by simp [results, Tryz.results66, go_sem, c0, c1]) rfl ⟨?_, ?_⟩
          · rw [← hF.out, hds.out, hdv.out, word, if_neg HX.out]; exact said_eq (by simp [add]) rfl
          · (repeat (first | exact HC.out | refine Change.drewN ?_ _ | refine Change.drew ?_ | refine Change.setCell ?_ (.inr (by simp)) _))
      · have hds := Lib.hid (drop_end hss)
        have e0 : ((at_ : Int) + k == s.size) = true := by rw [beq_iff_eq]; omega
        have hk1 : at_ + k = s.size := by omega
        have HK := Lib.hid hk1
        clear hk1
        go_wp2
        refine bodyPost_ret (v := .agg #[.int .i64 (at_ + k), .int .i64 1]) (by simp [results, Tryz.results66, go_sem, c0, c1]) rfl ⟨?_, ?_⟩
        · rw [← hF.out, hds.out, hdv.out, word]; exact said_eq (by simp [add]) rfl
        · (repeat (first | exact HC.out | refine Change.drewN ?_ _ | refine Change.drew ?_ | refine Change.setCell ?_ (.inr (by simp)) _))
    · have hdv := Lib.hid (drop_end hlt)
      have hkv : k = v.size := by omega
      have HK := Lib.hid hkv
      clear hkv
      go_wp2
      refine bodyPost_ret (v := .agg #[.int .i64 (at_ + v.size), .int .i64 (-1)]) (by simp [results, Tryz.results66, go_sem, c0, c1]) rfl ⟨?_, ?_⟩
      · rw [← hF.out, hdv.out]
        have : ∀ l : List UInt8, word l [] = (0, 4) := by intro l; cases l <;> rfl
        rw [this, ← HK.out]; exact said_eq (by simp [add]) rfl
      · (repeat (first | exact HC.out | refine Change.drewN ?_ _ | refine Change.drew ?_ | refine Change.setCell ?_ (.inr (by simp)) _))

theorem rdigit_any (c : UInt8) (w : World) :
    Calls Tryz.prog 64 #[.int .u8 c.toNat] w fun e w' => e = .returned (.bool (digit c)) ∧ w = w' := by
  rw [digit_nat]
  go_enter Tryz.func64, Tryz.ntmps64
  go_wp2
  all_goals go_ret
  all_goals (refine ⟨ret_bool ?_, rfl⟩; try simp only [beq_iff_eq, beq_eq_false_iff_ne, ne_eq] at *)
  all_goals (rw [Bool.eq_iff_iff]; simp; try omega)
set_option maxHeartbeats 1000000 in
theorem run_any (s : ByteArray) (at_ : Nat) (w : World) (hs : s.size ≤ 1048576) (ha : at_ ≤ s.size) :
    Calls Tryz.prog 94 #[.string s, .int .i64 at_] w fun e w' => e = .returned (said at_ (run (s.data.toList.drop at_))) ∧ Change (fun _ => False) w w' := by
  by_cases hss : at_ < s.size
  · have hds := Lib.hid (drop_cons hss)
    have e0 : ((at_ : Int) == s.size) = false := by rw [beq_eq_false_iff_ne]; omega
    cases hdg : digit s[at_]
    · have Hdg := Lib.hid hdg
      have hb : Blk (w.alloc (.cells #[.int .i64 0, .int .i64 0] 61)) w.heap.size _ _ := Blk.new w 61 #[.int .i64 0, .int .i64 0]
      go_enter Tryz.func94, Tryz.ntmps94
      go_wp2_with (go_at_call 64; refine (rdigit_any _ _).mono ?_; rintro e w' ⟨rfl, rfl⟩)
      refine bodyPost_ret (v := .agg #[.int .i64 at_, .int .i64 0]) (by simp [results, Tryz.results94, go_sem]) rfl ⟨?_, ?_⟩
      · rw [hds.out, run, if_neg (by rw [Hdg.out]; decide)]; exact said_eq (by simp) rfl
      · exact (Change.refl _ w).alloc _
    · have Hdg := Lib.hid hdg
      go_enter Tryz.func94, Tryz.ntmps94
      go_wp2_with (go_at_call 64; refine (rdigit_any _ _).mono ?_; rintro e w' ⟨rfl, rfl⟩)
      go_loopw [1] (fun i wr => ∃ k : Nat, k ≤ s.size ∧ at_ ≤ k ∧ i = .int .i64 k ∧ Hid (k + digits (s.data.toList.drop k) = at_ + digits (s.data.toList.drop at_)) ∧ Blk wr w.heap.size 61 #[.int .i64 0, .int .i64 0] ∧ Change (fun _ => False) w wr) (fun i _ => s.size - (intOf i).toNat)
      case atStart => exact ⟨at_, ha, Nat.le_refl _, rfl, rfl, Blk.new _ _ _, (Change.refl _ w).alloc _⟩
      case round =>
        obtain ⟨k, hk, hak, rfl, hF, hb, hc⟩ := hrel
        have hf := hb.free
        have c0 : wr.cell? ⟨w.heap.size, 0, none⟩ = some (.int .i64 0) := hb.cell 0
        have c1 : wr.cell? ⟨w.heap.size, 1, none⟩ = some (.int .i64 0) := hb.cell 1
        have HC := Lib.hid hc
        have HB := Lib.hid hb
        clear hc hb
        have Hend : Hid (digits (s.data.toList.drop k) = 0 → Ending.returned (.agg #[.int .i64 k, .int .i64 (-1)]) = Ending.returned (said at_ (run (s.data.toList.drop at_)))) := by
          intro h0
          have h := hF.out
          rw [h0] at h
          have hr : run (s.data.toList.drop at_) = (digits (s.data.toList.drop at_), 4) := by
            rw [hds.out, run, if_pos Hdg.out]
          rw [hr]; exact said_eq (by simp; omega) rfl
        by_cases hlt : k < s.size
        · have hdk := Lib.hid (drop_cons hlt)
          cases hdgk : digit s[k]
          · have Hk := Lib.hid hdgk
            go_wp2_with (go_at_call 64; refine (rdigit_any _ _).mono ?_; rintro e w' ⟨rfl, rfl⟩)
            refine bodyPost_ret (v := .agg #[.int .i64 k, .int .i64 (-1)]) (by simp [results, Tryz.results94, go_sem, c0, c1]) rfl ⟨?_, ?_⟩
            · exact Hend.out (by rw [hdk.out, digits, if_neg (by rw [Hk.out]; decide)])
            · (repeat (first | exact HC.out | refine Change.drewN ?_ _ | refine Change.drew ?_ | refine Change.setCell ?_ (.inr (by simp)) _))
          · have Hk := Lib.hid hdgk
            go_wp2_with (go_at_call 64; refine (rdigit_any _ _).mono ?_; rintro e w' ⟨rfl, rfl⟩)
            refine ⟨⟨k + 1, by omega, by omega, by go_num, ?_, HB.out, HC.out⟩, by simp [intOf]; omega⟩
            show _ = _
            rw [← hF.out, hdk.out, digits, if_pos Hk.out]; omega
        · have hdk := Lib.hid (drop_end hlt)
          go_wp2_with (go_at_call 64; refine (rdigit_any _ _).mono ?_; rintro e w' ⟨rfl, rfl⟩)
          refine bodyPost_ret (v := .agg #[.int .i64 k, .int .i64 (-1)]) (by simp [results, Tryz.results94, go_sem, c0, c1]) rfl ⟨?_, ?_⟩
          · exact Hend.out (by rw [hdk.out]; rfl)
          · (repeat (first | exact HC.out | refine Change.drewN ?_ _ | refine Change.drew ?_ | refine Change.setCell ?_ (.inr (by simp)) _))
  · have hds := Lib.hid (drop_end hss)
    have e0 : ((at_ : Int) == s.size) = true := by rw [beq_iff_eq]; omega
    have hk1 : at_ = s.size := by omega
    have HK := Lib.hid hk1
    clear hk1
    go_enter Tryz.func94, Tryz.ntmps94
    go_wp2
    refine bodyPost_ret (v := .agg #[.int .i64 at_, .int .i64 1]) (by simp [results, Tryz.results94, go_sem]) rfl ⟨?_, ?_⟩
    · rw [hds.out, run]; exact said_eq (by simp) rfl
    · exact (Change.refl _ w).alloc _
end Go.Proofs.YtgnefbngkhjfcaaGreatDoor
/-
  The reference for JSON: texts and numbers.
-/
set_option linter.unusedSimpArgs false
set_option linter.unusedVariables false
namespace Go.Proofs.YtgnefbngkhjfcaaGreatDoor
open Go.RowKit Go.Tg Tg.Json

def hexLow : ByteArray := ⟨#[48, 49, 50, 51, 52, 53, 54, 55, 56, 57, 97, 98, 99, 100, 101, 102]⟩
def hexGo (c : UInt8) : Nat → Nat → Int
  | 0, _ => -1
  | f + 1, k => if ((#[48, 49, 50, 51, 52, 53, 54, 55, 56, 57, 97, 98, 99, 100, 101, 102] : Array UInt8).getD k 0).toNat = c.toNat ∨ ((#[48, 49, 50, 51, 52, 53, 54, 55, 56, 57, 65, 66, 67, 68, 69, 70] : Array UInt8).getD k 0).toNat = c.toNat then k else hexGo c f (k + 1)
theorem hexGo_hex (c : UInt8) : (0 ≤ hexGo c 16 0 ∧ hex c = true) ∨ (hexGo c 16 0 < 0 ∧ hex c = false) := by
  have h : ∀ n : Fin 256, (0 ≤ hexGo (UInt8.ofNat n.val) 16 0 ∧ hex (UInt8.ofNat n.val) = true) ∨ (hexGo (UInt8.ofNat n.val) 16 0 < 0 ∧ hex (UInt8.ofNat n.val) = false) := by decide +kernel
  have := h ⟨c.toNat, UInt8.toNat_lt c⟩
  simpa only [UInt8.ofNat_toNat] using this
theorem ba_getD (a : Array UInt8) (k : Nat) (h : k < (⟨a⟩ : ByteArray).size) : (⟨a⟩ : ByteArray)[k]'h = a.getD k 0 := by
  have h' : k < a.size := h
  show a[k] = _
  simp [Array.getD, h']
theorem hexv_any (c : UInt8) (w : World) :
    Calls Tryz.prog 93 #[.int .u8 c.toNat] w fun e w' => e = .returned (.int .i64 (hexGo c 16 0)) ∧ w = w' := by
  go_enter Tryz.func93, Tryz.ntmps93
  go_wp2
  go_loop [5] (fun i => ∃ k : Nat, k ≤ 16 ∧ i = .int .i64 k ∧ Hid (hexGo c (16 - k) k = hexGo c 16 0)) (fun i => 16 - (intOf i).toNat)
  case atStart => exact ⟨0, by omega, rfl, rfl⟩
  case round =>
    obtain ⟨k, hk, rfl, hF⟩ := hrel
    by_cases hlt : k < 16
    · have hs : Hid (hexGo c (16 - k) k = if ((#[48, 49, 50, 51, 52, 53, 54, 55, 56, 57, 97, 98, 99, 100, 101, 102] : Array UInt8).getD k 0).toNat = c.toNat ∨ ((#[48, 49, 50, 51, 52, 53, 54, 55, 56, 57, 65, 66, 67, 68, 69, 70] : Array UInt8).getD k 0).toNat = c.toNat then (k : Int) else hexGo c (16 - (k + 1)) (k + 1)) := by
        obtain ⟨f, hf⟩ : ∃ f, 16 - k = f + 1 := ⟨15 - k, by omega⟩
        have hf' : 16 - (k + 1) = f := by omega
        show hexGo c (16 - k) k = _
        rw [hf, hf']; rfl
      go_wp2
      · go_ret
        refine ⟨ret_int ?_, rfl⟩
        rw [← hF.out, hs.out, if_pos]
        simp only [ba_getD] at *
        exact .inl (by omega)
      · go_ret
        refine ⟨ret_int ?_, rfl⟩
        rw [← hF.out, hs.out, if_pos]
        simp only [ba_getD, beq_iff_eq] at *
        omega
      · refine ⟨⟨k + 1, by omega, by go_num, ?_⟩, by simp [intOf]; omega⟩
        show _ = _
        rw [← hF.out, hs.out, if_neg]
        simp only [ba_getD, beq_iff_eq, beq_eq_false_iff_ne, ne_eq] at *
        omega
    · go_wp2
      go_ret
      refine ⟨ret_int ?_, rfl⟩
      have h := hF.out
      obtain rfl : k = 16 := by omega
      rw [← h]; rfl

theorem said_add (a n : Nat) (x : Nat × Nat) : said a (add n x) = said (a + n) x := by
  simp only [said, add]; rw [show a + (x.1 + n) = a + n + x.1 from by omega]
theorem said_fin {a : Nat} {x : Nat × Nat} {n st : Int} (h1 : n = (a + x.1 : Nat)) (h2 : st = stv x.2) : Ending.returned (.agg #[.int .i64 n, .int .i64 st]) = .returned (said a x) := said_eq h1 h2
set_option maxHeartbeats 1000000 in
theorem quote_any (s : ByteArray) (at_ : Nat) (w : World) (hs : s.size ≤ 1048576) (ha : at_ ≤ s.size) :
    Calls Tryz.prog 63 #[.string s, .int .i64 at_] w fun e w' => e = .returned (said at_ (quote 0 (s.data.toList.drop at_))) ∧ Change (fun _ => False) w w' := by
  go_enter Tryz.func63, Tryz.ntmps63
  go_wp2
  go_loopw [1] (fun i wr => ∃ k : Nat, k ≤ s.size ∧ i = .int .i64 k ∧ Hid (said k (quote 0 (s.data.toList.drop k)) = said at_ (quote 0 (s.data.toList.drop at_))) ∧ Blk wr w.heap.size 61 #[.int .i64 0, .int .i64 0] ∧ Change (fun _ => False) w wr) (fun i _ => s.size - (intOf i).toNat)
  case atStart => exact ⟨at_, ha, rfl, rfl, Blk.new _ _ _, (Change.refl _ w).alloc _⟩
  case round =>
    obtain ⟨k, hk, rfl, hF, hb, hc⟩ := hrel
    have hf := hb.free
    have c0 : wr.cell? ⟨w.heap.size, 0, none⟩ = some (.int .i64 0) := hb.cell 0
    have c1 : wr.cell? ⟨w.heap.size, 1, none⟩ = some (.int .i64 0) := hb.cell 1
    have HC := Lib.hid hc
    have HB := Lib.hid hb
    clear hc hb
    by_cases hlt : k < s.size
    · have hdk := Lib.hid (drop_cons hlt)
      have hu := u8_lt s[k]
      by_cases b1 : s[k] < 32
      · have n1 : (s[k].toNat : Int) < 32 := by simp only [UInt8.lt_iff_toNat_lt, UInt8.reduceToNat] at b1; omega
        have B1 := Lib.hid b1
        clear b1
        go_wp2
        refine bodyPost_ret (v := .agg #[.int .i64 (k), .int .i64 (0)]) (by simp [results, Tryz.results63, go_sem, c0, c1]) rfl ⟨?_, ?_⟩
        · rw [← hF.out]; rw [hdk.out, quote, if_pos rfl, if_pos B1.out]; exact said_fin (by simp) rfl
        · (repeat (first | exact HC.out | refine Change.drewN ?_ _ | refine Change.drew ?_ | refine Change.setCell ?_ (.inr (by simp)) _))

      · have n1 : ¬ (s[k].toNat : Int) < 32 := by simp only [UInt8.lt_iff_toNat_lt, UInt8.reduceToNat] at b1; omega
        have B1 := Lib.hid b1
        clear b1
        rcases u8_is s[k] 34 34 rfl with ⟨b2, n2⟩ | ⟨b2, n2⟩
        · have B2 := Lib.hid b2
          clear b2
          go_wp2
          refine bodyPost_ret (v := .agg #[.int .i64 (k + 1), .int .i64 (-1)]) (by simp [results, Tryz.results63, go_sem, c0, c1]) rfl ⟨?_, ?_⟩
          · rw [← hF.out]; rw [hdk.out, quote, if_pos rfl, if_neg B1.out, if_pos B2.out]; exact said_fin (by simp) rfl
          · (repeat (first | exact HC.out | refine Change.drewN ?_ _ | refine Change.drew ?_ | refine Change.setCell ?_ (.inr (by simp)) _))

        · have B2 := Lib.hid b2
          clear b2
          rcases u8_is s[k] 92 92 rfl with ⟨b3, n3⟩ | ⟨b3, n3⟩
          · have n3' : ((s[k].toNat : Int) != 92) = false := by simp only [bne, n3]; rfl
            have B3 := Lib.hid b3
            clear b3 n3
            have HQ : Hid (said (k + 1) (quote 1 (s.data.toList.drop (k + 1))) = said at_ (quote 0 (s.data.toList.drop at_))) := by
              show _ = _
              rw [← hF.out, hdk.out, quote, if_pos rfl, if_neg B1.out, if_neg B2.out, if_pos B3.out, said_add]
            by_cases hl2 : k + 1 < s.size
            · have hd2 := Lib.hid (drop_cons hl2)
              have e0 : ((k : Int) + 1 == s.size) = false := by rw [beq_eq_false_iff_ne]; omega
              rcases u8_is s[k + 1] 117 117 rfl with ⟨b4, n4⟩ | ⟨b4, n4⟩
              · have B4 := Lib.hid b4
                clear b4
                have HV : Hid (said (k + 1 + 1) (quote 5 (s.data.toList.drop (k + 1 + 1))) = said at_ (quote 0 (s.data.toList.drop at_))) := by
                  show _ = _
                  rw [← HQ.out, hd2.out, quote, if_neg (by decide), if_pos rfl, if_pos B4.out, said_add]
                go_wp2
                obtain ⟨wo, rfl⟩ : ∃ wo : World, wo = wr := ⟨_, rfl⟩
                go_loop [6] (fun i => ∃ j : Nat, 1 ≤ j ∧ j ≤ 5 ∧ i = .int .i64 j ∧ k + 1 + j ≤ s.size ∧ Hid (said (k + 1 + j) (quote (if j = 5 then 0 else 6 - j) (s.data.toList.drop (k + 1 + j))) = said at_ (quote 0 (s.data.toList.drop at_)))) (fun i => 5 - (intOf i).toNat)
                case atStart => exact ⟨1, by omega, by omega, rfl, by omega, HV⟩
                case round =>
                  obtain ⟨j, hj1, hj5, rfl, hjs, hG⟩ := hrel
                  by_cases hj : j < 5
                  · by_cases hl3 : k + 1 + j < s.size
                    · have hd3 := Lib.hid (drop_cons hl3)
                      have hx := hexGo_hex s[k + 1 + j]
                      have b0 : (0 : Int) ≤ (k : Int) + 1 + j := by omega
                      have b5 : ((k : Int) + 1 + j) < s.size := by omega
                      have e1 : ((k : Int) + 1 + j).toNat = k + 1 + j := by omega
                      rcases hx with ⟨x1, x2⟩ | ⟨x1, x2⟩
                      · have X2 := Lib.hid x2
                        clear x2
                        go_wp2_with (go_at_call 93; refine (hexv_any _ _).mono ?_; rintro e w' ⟨rfl, rfl⟩)
                        refine ⟨⟨j + 1, by omega, by omega, by go_num, by omega, ?_⟩, by simp [intOf]; omega⟩
                        show _ = _
                        rw [← hG.out, hd3.out, if_neg (show ¬ j = 5 by omega), quote, if_neg (show ¬ 6 - j = 0 by omega), if_neg (show ¬ 6 - j = 1 by omega), if_pos X2.out, said_add]
                        have : (if 6 - j = 2 then 0 else 6 - j - 1) = (if j + 1 = 5 then 0 else 6 - (j + 1)) := by split <;> split <;> omega
                        rw [this]; rfl
                      · have X2 := Lib.hid x2
                        clear x2
                        go_wp2_with (go_at_call 93; refine (hexv_any _ _).mono ?_; rintro e w' ⟨rfl, rfl⟩)
                        refine bodyPost_ret (v := .agg #[.int .i64 (k + 1 + j), .int .i64 0]) (by simp [results, Tryz.results63, go_sem, c0, c1]) rfl ⟨?_, ?_⟩
                        · rw [← hG.out, hd3.out, if_neg (show ¬ j = 5 by omega), quote, if_neg (show ¬ 6 - j = 0 by omega), if_neg (show ¬ 6 - j = 1 by omega), if_neg (by rw [X2.out]; decide)]; exact said_fin (by simp) rfl
                        · (repeat (first | exact HC.out | refine Change.drewN ?_ _ | refine Change.drew ?_ | refine Change.setCell ?_ (.inr (by simp)) _))
                    · have hd3 := Lib.hid (drop_end hl3)
                      have hle : k + 1 + j = s.size := by omega
                      have HL := Lib.hid hle
                      clear hle
                      go_wp2
                      refine bodyPost_ret (v := .agg #[.int .i64 s.size, .int .i64 1]) (by simp [results, Tryz.results63, go_sem, c0, c1]) rfl ⟨?_, ?_⟩
                      · rw [← hG.out, hd3.out, if_neg (show ¬ j = 5 by omega)]
                        have : ∀ q, quote q [] = (0, 1) := fun _ => rfl
                        rw [this, HL.out]; exact said_fin (by simp) rfl
                      · (repeat (first | exact HC.out | refine Change.drewN ?_ _ | refine Change.drew ?_ | refine Change.setCell ?_ (.inr (by simp)) _))
                  · go_wp2
                    refine ⟨⟨k + 6, by omega, by go_num, ?_, HB.out, HC.out⟩, by simp [intOf]; omega⟩
                    obtain rfl : j = 5 := by omega
                    exact hG
              · have B4 := Lib.hid b4
                clear b4
                cases hes : esc s[k + 1]
                · have HE := Lib.hid hes
                  go_wp2_with (first | (go_at_call 60; refine (hasEsc_any _ _).mono ?_; rintro e w' ⟨rfl, rfl⟩))
                  refine bodyPost_ret (v := .agg #[.int .i64 (k + 1), .int .i64 0]) (by simp [results, Tryz.results63, go_sem, c0, c1]) rfl ⟨?_, ?_⟩
                  · rw [← HQ.out, hd2.out, quote, if_neg (by decide), if_pos rfl, if_neg B4.out, if_neg (by rw [HE.out]; decide)]; exact said_fin (by simp) rfl
                  · (repeat (first | exact HC.out | refine Change.drewN ?_ _ | refine Change.drew ?_ | refine Change.setCell ?_ (.inr (by simp)) _))
                · have HE := Lib.hid hes
                  go_wp2_with (first | (go_at_call 60; refine (hasEsc_any _ _).mono ?_; rintro e w' ⟨rfl, rfl⟩))
                  refine ⟨⟨k + 2, by omega, by go_num, ?_, HB.out, HC.out⟩, by simp [intOf]; omega⟩
                  show _ = _
                  rw [← HQ.out, hd2.out, quote, if_neg (by decide), if_pos rfl, if_neg B4.out, if_pos HE.out, said_add]
            · have hd2 := Lib.hid (drop_end hl2)
              have e0 : ((k : Int) + 1 == s.size) = true := by rw [beq_iff_eq]; omega
              go_wp2
              refine bodyPost_ret (v := .agg #[.int .i64 (k + 1), .int .i64 1]) (by simp [results, Tryz.results63, go_sem, c0, c1]) rfl ⟨?_, ?_⟩
              · rw [← HQ.out, hd2.out]; exact said_fin (by simp [quote]) rfl
              · (repeat (first | exact HC.out | refine Change.drewN ?_ _ | refine Change.drew ?_ | refine Change.setCell ?_ (.inr (by simp)) _))
          · have n3' : ((s[k].toNat : Int) != 92) = true := by simp only [bne, n3]; rfl
            have B3 := Lib.hid b3
            clear b3 n3
            go_wp2
            refine ⟨⟨k + 1, by omega, by go_num, ?_, HB.out, HC.out⟩, by simp [intOf]; omega⟩
            show _ = _
            rw [← hF.out, hdk.out, quote, if_pos rfl, if_neg B1.out, if_neg B2.out, if_neg B3.out, said_add]
    · have hdk := Lib.hid (drop_end hlt)
      go_wp2
      refine bodyPost_ret (v := .agg #[.int .i64 (k), .int .i64 (1)]) (by simp [results, Tryz.results63, go_sem, c0, c1]) rfl ⟨?_, ?_⟩
      · rw [← hF.out]; rw [hdk.out]; exact said_fin (by simp [quote]) rfl
      · (repeat (first | exact HC.out | refine Change.drewN ?_ _ | refine Change.drew ?_ | refine Change.setCell ?_ (.inr (by simp)) _))

end Go.Proofs.YtgnefbngkhjfcaaGreatDoor
/-
  The reference for JSON: numbers.
-/
set_option linter.unusedSimpArgs false
set_option linter.unusedVariables false
namespace Go.Proofs.YtgnefbngkhjfcaaGreatDoor
open Go.RowKit Go.Tg Tg.Json

theorem stv_four (n : Nat) : stv n = -1 ↔ n = 4 := by unfold stv; split <;> omega
theorem run_any2 (s : ByteArray) (x : Int) (k : Nat) (w : World) (hs : s.size ≤ 1048576) (hx : x = k) (hk : k ≤ s.size) :
    Calls Tryz.prog 94 #[.string s, .int .i64 x] w fun e w' => e = .returned (.agg #[.int .i64 (k + (run (s.data.toList.drop k)).1 : Nat), .int .i64 (stv (run (s.data.toList.drop k)).2)]) ∧ Change (fun _ => False) w w' := by
  subst hx; exact run_any s k w hs hk
theorem blk_agg {w : World} {b : Nat} {t : TypeId} {x y : Value} (h : Blk w b t #[x, y]) : w.cell? ⟨b, 0, none⟩ = some x ∧ w.cell? ⟨b, 1, none⟩ = some y ∧ ∀ i, w.frozen? ⟨b, i, none⟩ = false := ⟨h.cell 0, h.cell 1, h.free⟩
theorem post_said {fn : Func} {R : Ending → World → Prop} {a : Act} {W : World} {b : Nat} {x y : Value} {t : Tmp} (hb : Blk W b 61 #[x, y]) (hres : fn.results = #[ResultVar.cell t 61]) (hd : a.defers = []) (hp : a.tmps.getD t undef = .pointer (some ⟨b, 0, none⟩))
    (hR : R (.returned (.agg #[x, y])) W) : bodyPost Tryz.prog fn R .ret a W := by
  have c0 : W.cell? ⟨b, 0, none⟩ = some x := hb.cell 0
  have c1 : W.cell? ⟨b, 1, none⟩ = some y := hb.cell 1
  refine bodyPost_ret (v := .agg #[x, y]) ?_ hd hR
  have hp' : a.tmps[t]?.getD undef = .pointer (some ⟨b, 0, none⟩) := by rw [← hp]; simp [Array.getD_eq_getD_getElem?]
  simp [results, hres, go_sem, c0, c1, hp']
set_option maxHeartbeats 2000000 in
set_option maxRecDepth 100000 in
theorem number_any (s : ByteArray) (at_ : Nat) (w : World) (hs : s.size ≤ 1048576) (ha : at_ < s.size) :
    Calls Tryz.prog 65 #[.string s, .int .i64 at_] w fun e w' =>
      e = .returned (if s[at_].toNat = 45 then said (at_ + 1) (intPart (s.data.toList.drop (at_ + 1))) else said at_ (intPart (s.data.toList.drop at_))) ∧ Change (fun _ => False) w w' := by
  obtain ⟨R, hR⟩ : ∃ R, R = (if s[at_].toNat = 45 then said (at_ + 1) (intPart (s.data.toList.drop (at_ + 1))) else said at_ (intPart (s.data.toList.drop at_))) := ⟨_, rfl⟩
  rw [← hR]
  have HR := Lib.hid hR
  clear hR
  have hu := u8_lt s[at_]
  go_enter Tryz.func65, Tryz.ntmps65
  go_upto_if 9 with (fail)
  go_cut [1] (fun i wr => ∃ k : Nat, k ≤ s.size ∧ i = .int .i64 k ∧ Hid (said k (intPart (s.data.toList.drop k)) = R) ∧ Blk wr w.heap.size 61 #[.int .i64 0, .int .i64 0] ∧ Change (fun _ => False) w wr)
  case first =>
    go_wp2
    all_goals go_meet
    · refine ⟨at_ + 1, by omega, by go_num, ?_, Blk.new _ _ _, (Change.refl _ w).alloc _⟩
      show _ = _
      rw [HR.out, if_pos (by simp only [beq_iff_eq] at *; omega)]
    · refine ⟨at_, by omega, rfl, ?_, Blk.new _ _ _, (Change.refl _ w).alloc _⟩
      show _ = _
      rw [HR.out, if_neg (by simp only [beq_eq_false_iff_ne, ne_eq] at *; omega)]
  case rest =>
    obtain ⟨k, hk, rfl, hF, hb, hc⟩ := hcut
    have HB := Lib.hid hb
    have HC := Lib.hid hc
    clear hb hc hu
    go_wp2_with fail
    refine (run_any2 s k k _ hs rfl hk).mono ?_
    rintro e w1 ⟨rfl, hc1⟩
    have hc2 := HC.out.trans hc1 (fun i h => h.elim)
    have hb2 := HB.out.of_change hc1 (fun h => h)
    have HB2 := Lib.hid hb2
    have HC2 := Lib.hid hc2
    clear hc1 hb2 hc2
    have hlt := HB2.out.lt
    rcases run_cases (s.data.toList.drop k) with ⟨h4, hne⟩ | h4
    · have hk1 : k < s.size := by
        rcases Nat.lt_or_ge k s.size with h | h
        · exact h
        · exact absurd (drop_end (by omega)) hne
      have hdk := Lib.hid (drop_cons hk1)
      have e4 : (stv (run (s.data.toList.drop k)).2 != -1) = false := by rw [h4]; rfl
      have hle := run_le (s.data.toList.drop k)
      simp only [List.length_drop, Array.length_toList] at hle
      have hle2 : k + (run (s.data.toList.drop k)).1 ≤ s.size := by
        have : s.data.size = s.size := rfl
        omega
      have HX : Hid (s[k].toNat = 48 → said (k + 1) (pointPart (s.data.toList.drop (k + 1))) = R) := by
        intro h48
        rw [← hF.out, hdk.out]; unfold intPart; simp only
        rw [if_pos (by rw [← hdk.out]; exact h4), if_pos h48, said_add]
      have HY : Hid (s[k].toNat ≠ 48 → said (k + (run (s.data.toList.drop k)).1) (pointPart (s.data.toList.drop (k + (run (s.data.toList.drop k)).1))) = R) := by
        intro h48
        rw [← hF.out, hdk.out]; unfold intPart; simp only
        rw [if_pos (by rw [← hdk.out]; exact h4), if_neg h48, said_add, ← hdk.out, List.drop_drop]
      generalize run (s.data.toList.drop k) = x at *
      clear h4 hle hne
      have hs1 : (stv x.2) = -1 := by rw [bne_eq_false_iff_eq] at e4; exact e4
      have Hs1 := Lib.hid hs1
      clear hs1
      go_upto_if 22 with (fail)
      go_cut [] (fun wr => ∃ k1 : Nat, k1 ≤ s.size ∧ Hid (said k1 (pointPart (s.data.toList.drop k1)) = R) ∧ Blk wr w1.heap.size 61 #[.int .i64 k1, .int .i64 (-1)] ∧ Blk wr w.heap.size 61 #[.int .i64 0, .int .i64 0] ∧ Change (fun _ => False) w wr)
      case first =>
        go_wp2
        all_goals go_meet
        · refine ⟨k + 1, by omega, HX.out (by simp only [beq_iff_eq] at *; omega), ?_, HB2.out.alloc _, HC2.out.alloc _⟩
          rw [Hs1.out]; exact Blk.new _ _ _
        · refine ⟨k + x.1, by omega, HY.out (by simp only [beq_eq_false_iff_ne, ne_eq] at *; omega), ?_, HB2.out.alloc _, HC2.out.alloc _⟩
          rw [Hs1.out]; exact Blk.new _ _ _
      case rest =>
        obtain ⟨k1, hk1, hG, hbx, hb0, hc0⟩ := hcut
        have HBX := Lib.hid hbx
        have HB0 := Lib.hid hb0
        have HC0 := Lib.hid hc0
        have d0 := hbx.cell 0
        simp only [List.getElem?_toArray, List.getElem?_cons_zero] at d0
        clear hbx hb0 hc0 e4
        go_upto_region 9 with (fail)
        go_cut [37] (fun v wx => (Blk wx w1.heap.size 61 #[.int .i64 k1, .int .i64 (-1)] ∧ Blk wx w.heap.size 61 #[.int .i64 0, .int .i64 0] ∧ Change (fun _ => False) w wx) ∧ ∃ pt : Bool, v = .bool pt ∧ Hid (pt = true ↔ ∃ h : k1 < s.size, s[k1].toNat = 46))
        case first =>
          by_cases hl : k1 < s.size
          · rcases u8_is s[k1] 46 46 rfl with ⟨b1, n1⟩ | ⟨b1, n1⟩
            · have B1 := Lib.hid b1
              clear b1
              go_wp2
              go_meet
              exact ⟨⟨HBX.out, HB0.out, HC0.out⟩, true, rfl, ⟨fun _ => ⟨hl, by rw [B1.out]; rfl⟩, fun _ => rfl⟩⟩
            · have B1 := Lib.hid b1
              clear b1
              go_wp2
              go_meet
              exact ⟨⟨HBX.out, HB0.out, HC0.out⟩, false, rfl, ⟨fun h => by simp at h, fun ⟨_, h⟩ => absurd (by simp only [u8_iff, UInt8.reduceToNat]; exact h) B1.out⟩⟩
          · go_wp2
            go_meet
            exact ⟨⟨HBX.out, HB0.out, HC0.out⟩, false, rfl, ⟨fun h => by simp at h, fun ⟨h, _⟩ => absurd h hl⟩⟩
        case rest =>
        obtain ⟨⟨hbx, hb0, hc0⟩, pt, rfl, hpt⟩ := hcut
        obtain ⟨c0, c1, hf⟩ := blk_agg hbx
        have HBX := Lib.hid hbx
        have HB0 := Lib.hid hb0
        have HC0 := Lib.hid hc0
        clear hbx hb0 hc0
        go_upto_if 37 with (fail)
        go_cut [1] (fun i wr => ∃ k2 : Nat, k2 ≤ s.size ∧ i = .int .i64 k2 ∧ Hid (said k2 (expPart (s.data.toList.drop k2)) = R) ∧ Blk wr w.heap.size 61 #[.int .i64 0, .int .i64 0] ∧ Change (fun _ => False) w wr)
        case first =>
          cases pt
          · go_wp2
            go_meet
            refine ⟨k1, hk1, rfl, ?_, HB0.out, HC0.out⟩
            show _ = _
            rw [← hG.out]
            have hpt' : ¬ ∃ h : k1 < s.size, s[k1].toNat = 46 := fun h => by have := hpt.out.2 h; simp at this
            by_cases hl : k1 < s.size
            · rw [drop_cons hl]; unfold pointPart; simp only
              rw [if_neg (fun h => hpt' ⟨hl, h⟩)]
            · rw [drop_end hl]; rfl
          · obtain ⟨hl, h46⟩ := hpt.out.1 rfl
            have hd1 := Lib.hid (drop_cons hl)
            have H46 := Lib.hid h46
            clear h46
            go_wp2_with fail
            refine (run_any2 s _ (k1 + 1) _ hs (by omega) (by omega)).mono ?_
            rintro e w2 ⟨rfl, hc2⟩
            have hc3 := HC0.out.trans hc2 (fun i h => h.elim)
            have hb3 := HB0.out.of_change hc2 (fun h => h)
            have hbx3 := HBX.out.of_change hc2 (fun h => h)
            obtain ⟨d0, d1, hf3⟩ := blk_agg hbx3
            have HB3 := Lib.hid hb3
            have HC3 := Lib.hid hc3
            have HBX3 := Lib.hid hbx3
            clear hb3 hc3 hbx3 hc2 c0 c1 hf
            have hle := run_le (s.data.toList.drop (k1 + 1))
            simp only [List.length_drop, Array.length_toList] at hle
            have hle2 : k1 + 1 + (run (s.data.toList.drop (k1 + 1))).1 ≤ s.size := by
              have : s.data.size = s.size := rfl
              omega
            by_cases h4 : (run (s.data.toList.drop (k1 + 1))).2 = 4
            · have HZ : Hid (said (k1 + 1 + (run (s.data.toList.drop (k1 + 1))).1) (expPart (s.data.toList.drop (k1 + 1 + (run (s.data.toList.drop (k1 + 1))).1))) = R) := by
                show _ = _
                rw [← hG.out, hd1.out]; unfold pointPart; simp only
                rw [if_pos H46.out, if_pos h4, said_add, List.drop_drop, show k1 + (1 + (run (s.data.toList.drop (k1 + 1))).1) = k1 + 1 + (run (s.data.toList.drop (k1 + 1))).1 from by omega]
              have e5 : (stv (run (s.data.toList.drop (k1 + 1))).2 != -1) = false := by rw [h4]; rfl
              generalize run (s.data.toList.drop (k1 + 1)) = y at *
              clear h4 hle
              go_wp2
              go_meet
              refine ⟨_, hle2, by go_num, HZ, ?_, ?_⟩
              · repeat (first | exact HB3.out | refine Blk.setOther ?_ (by simp; omega) _)
              · repeat (first | exact HC3.out | refine Change.setCell ?_ (.inr (by simp; omega)) _)
            · have HZ : Hid (said (k1 + 1) (run (s.data.toList.drop (k1 + 1))) = R) := by
                show _ = _
                rw [← hG.out, hd1.out]; unfold pointPart; simp only
                rw [if_pos H46.out, if_neg h4, said_add]
              have e5 : (stv (run (s.data.toList.drop (k1 + 1))).2 != -1) = true := by rw [bne_iff_ne]; exact fun h => h4 ((stv_four _).1 h)
              generalize run (s.data.toList.drop (k1 + 1)) = y at *
              clear h4 hle
              obtain ⟨g0, g1, hg⟩ := blk_agg HB3.out
              have hnw : ¬ w.heap.size = w1.heap.size := by omega
              have hnw' : ¬ w1.heap.size = w.heap.size := by omega
              go_wp2
              refine post_said (b := w.heap.size) ((((HB3.out.setBlk hnw 0 _).setBlk hnw 1 _).set 0 _).set 1 _) rfl rfl rfl ⟨?_, ?_⟩
              · rw [← HZ.out]; rfl
              · repeat (first | exact HC3.out | refine Change.setCell ?_ (.inr (by first | (simp; done) | (simp; omega))) _)
        case rest =>
          obtain ⟨k2, hk2, rfl, hE, hb0, hc0⟩ := hcut
          clear c0 c1 hf d0
          obtain ⟨c0, c1, hf⟩ := blk_agg hb0
          have HB0 := Lib.hid hb0
          have HC0 := Lib.hid hc0
          clear hb0 hc0
          go_upto_region 14 with (fail)
          go_cut [63] (fun v wx => (Blk wx w.heap.size 61 #[.int .i64 0, .int .i64 0] ∧ Change (fun _ => False) w wx) ∧ ∃ pt : Bool, v = .bool pt ∧ Hid (pt = true ↔ ∃ h : k2 < s.size, (s[k2].toNat = 101 ∨ s[k2].toNat = 69)))
          case first =>
            by_cases hl : k2 < s.size
            · rcases u8_is s[k2] 101 101 rfl with ⟨b1, n1⟩ | ⟨b1, n1⟩
              · have B1 := Lib.hid b1
                clear b1
                go_wp2
                go_meet
                exact ⟨⟨HB0.out, HC0.out⟩, true, rfl, ⟨fun _ => ⟨hl, .inl (by rw [B1.out]; rfl)⟩, fun _ => rfl⟩⟩
              · rcases u8_is s[k2] 69 69 rfl with ⟨b2, n2⟩ | ⟨b2, n2⟩
                · have B2 := Lib.hid b2
                  clear b1 b2
                  go_wp2
                  go_meet
                  exact ⟨⟨HB0.out, HC0.out⟩, true, rfl, ⟨fun _ => ⟨hl, .inr (by rw [B2.out]; rfl)⟩, fun _ => rfl⟩⟩
                · have m1 : s[k2].toNat ≠ 101 := by rw [beq_eq_false_iff_ne] at n1; omega
                  have m2 : s[k2].toNat ≠ 69 := by rw [beq_eq_false_iff_ne] at n2; omega
                  have M := Lib.hid (And.intro m1 m2)
                  clear b1 b2 m1 m2
                  go_wp2
                  go_meet
                  exact ⟨⟨HB0.out, HC0.out⟩, false, rfl, ⟨fun h => by simp at h, fun ⟨_, h⟩ => by rcases h with h | h; exact absurd h M.out.1; exact absurd h M.out.2⟩⟩
            · go_wp2
              go_meet
              exact ⟨⟨HB0.out, HC0.out⟩, false, rfl, ⟨fun h => by simp at h, fun ⟨h, _⟩ => absurd h hl⟩⟩
          case rest =>
          obtain ⟨⟨hb0, hc0⟩, pt, rfl, hpt⟩ := hcut
          clear c0 c1 hf
          obtain ⟨c0, c1, hf⟩ := blk_agg hb0
          have HB0 := Lib.hid hb0
          have HC0 := Lib.hid hc0
          clear hb0 hc0
          cases pt
          · have hpt' : ¬ ∃ h : k2 < s.size, (s[k2].toNat = 101 ∨ s[k2].toNat = 69) := fun h => by have := hpt.out.2 h; simp at this
            have HE : Hid (said k2 (0, 4) = R) := by
              show _ = _
              rw [← hE.out]
              by_cases hl : k2 < s.size
              · rw [drop_cons hl]; unfold expPart; simp only
                rw [if_neg (fun h => hpt' ⟨hl, h⟩)]
              · rw [drop_end hl]; rfl
            clear hpt'
            go_wp2
            refine post_said (b := w.heap.size) ((HB0.out.set 0 _).set 1 _) rfl rfl rfl ⟨?_, ?_⟩
            · rw [← HE.out]; rfl
            · repeat (first | exact HC0.out | refine Change.setCell ?_ (.inr (by first | (simp; done) | (simp; omega))) _)
          · obtain ⟨hl, hee⟩ := hpt.out.1 rfl
            have hd2 := Lib.hid (drop_cons hl)
            have HEE := Lib.hid hee
            clear hee
            go_upto_region 16 with (fail)
            go_cut [81] (fun v wx => (Blk wx w.heap.size 61 #[.int .i64 0, .int .i64 0] ∧ Change (fun _ => False) w wx) ∧ ∃ pt : Bool, v = .bool pt ∧ Hid (pt = true ↔ ∃ h : k2 + 1 < s.size, (s[k2 + 1].toNat = 43 ∨ s[k2 + 1].toNat = 45)))
            case first =>
              by_cases hl : k2 + 1 < s.size
              · rcases u8_is s[k2 + 1] 43 43 rfl with ⟨b1, n1⟩ | ⟨b1, n1⟩
                · have B1 := Lib.hid b1
                  clear b1
                  go_wp2
                  go_meet
                  exact ⟨⟨HB0.out, HC0.out⟩, true, rfl, ⟨fun _ => ⟨hl, .inl (by rw [B1.out]; rfl)⟩, fun _ => rfl⟩⟩
                · rcases u8_is s[k2 + 1] 45 45 rfl with ⟨b2, n2⟩ | ⟨b2, n2⟩
                  · have B2 := Lib.hid b2
                    clear b1 b2
                    go_wp2
                    go_meet
                    exact ⟨⟨HB0.out, HC0.out⟩, true, rfl, ⟨fun _ => ⟨hl, .inr (by rw [B2.out]; rfl)⟩, fun _ => rfl⟩⟩
                  · have m1 : s[k2 + 1].toNat ≠ 43 := by rw [beq_eq_false_iff_ne] at n1; omega
                    have m2 : s[k2 + 1].toNat ≠ 45 := by rw [beq_eq_false_iff_ne] at n2; omega
                    have M := Lib.hid (And.intro m1 m2)
                    clear b1 b2 m1 m2
                    go_wp2
                    go_meet
                    exact ⟨⟨HB0.out, HC0.out⟩, false, rfl, ⟨fun h => by simp at h, fun ⟨_, h⟩ => by rcases h with h | h; exact absurd h M.out.1; exact absurd h M.out.2⟩⟩
              · go_wp2
                go_meet
                exact ⟨⟨HB0.out, HC0.out⟩, false, rfl, ⟨fun h => by simp at h, fun ⟨h, _⟩ => absurd h hl⟩⟩
            case rest =>
            obtain ⟨⟨hb0, hc0⟩, pt, rfl, hpt2⟩ := hcut
            clear c0 c1 hf
            have HB0 := Lib.hid hb0
            have HC0 := Lib.hid hc0
            clear hb0 hc0
            cases pt
            · have hpt' : ¬ ∃ h : k2 + 1 < s.size, (s[k2 + 1].toNat = 43 ∨ s[k2 + 1].toNat = 45) := fun h => by have := hpt2.out.2 h; simp at this
              have HE : Hid (said (k2 + 1) (run (s.data.toList.drop (k2 + 1))) = R) := by
                show _ = _
                rw [← hE.out, hd2.out]; unfold expPart; simp only
                rw [if_pos HEE.out]
                by_cases hl : k2 + 1 < s.size
                · rw [drop_cons hl]; simp only
                  rw [if_neg (fun h => hpt' ⟨hl, h⟩), said_add]
                · rw [drop_end hl]; simp only; rw [said_add]
              clear hpt'
              go_wp2_with fail
              refine (run_any2 s _ (k2 + 1) _ hs (by omega) (by omega)).mono ?_
              rintro e w2 ⟨rfl, hc2⟩
              have hc3 := HC0.out.trans hc2 (fun i h => h.elim)
              have hb3 := HB0.out.of_change hc2 (fun h => h)
              obtain ⟨d0, d1, hf3⟩ := blk_agg hb3
              have HB3 := Lib.hid hb3
              have HC3 := Lib.hid hc3
              clear hb3 hc3 hc2
              go_wp2
              refine post_said (b := w.heap.size) ((HB3.out.set 0 _).set 1 _) rfl rfl rfl ⟨?_, ?_⟩
              · rw [← HE.out]; rfl
              · repeat (first | exact HC3.out | refine Change.setCell ?_ (.inr (by first | (simp; done) | (simp; omega))) _)
            · obtain ⟨hl2, hss⟩ := hpt2.out.1 rfl
              have HE : Hid (said (k2 + 2) (run (s.data.toList.drop (k2 + 2))) = R) := by
                show _ = _
                rw [← hE.out, hd2.out]; unfold expPart; simp only
                rw [if_pos HEE.out, drop_cons hl2]; simp only
                rw [if_pos hss, said_add]
              clear hss
              go_wp2_with fail
              refine (run_any2 s _ (k2 + 2) _ hs (by omega) (by omega)).mono ?_
              rintro e w2 ⟨rfl, hc2⟩
              have hc3 := HC0.out.trans hc2 (fun i h => h.elim)
              have hb3 := HB0.out.of_change hc2 (fun h => h)
              obtain ⟨d0, d1, hf3⟩ := blk_agg hb3
              have HB3 := Lib.hid hb3
              have HC3 := Lib.hid hc3
              clear hb3 hc3 hc2
              go_wp2
              refine post_said (b := w.heap.size) ((HB3.out.set 0 _).set 1 _) rfl rfl rfl ⟨?_, ?_⟩
              · rw [← HE.out]; rfl
              · repeat (first | exact HC3.out | refine Change.setCell ?_ (.inr (by first | (simp; done) | (simp; omega))) _)
    · obtain ⟨c0, c1, hf⟩ := blk_agg HB2.out
      have e4 : (stv (run (s.data.toList.drop k)).2 != -1) = true := by rw [bne_iff_ne]; exact fun h => h4 ((stv_four _).1 h)
      have HX : Hid (intPart (s.data.toList.drop k) = run (s.data.toList.drop k)) := by
        show _ = _
        unfold intPart; split
        · next h => rw [h]
        · next h => rw [h] at h4 ⊢; rw [if_neg h4]
      generalize run (s.data.toList.drop k) = x at *
      clear h4
      go_wp2
      refine post_said (b := w.heap.size) (((HB2.out.set 0 _).set 1 _).alloc _) rfl rfl rfl ⟨?_, ?_⟩
      · rw [← hF.out, HX.out]; rfl
      · (repeat (first | exact HC2.out | refine Change.drewN ?_ _ | refine Change.drew ?_ | refine Change.alloc ?_ _ | refine Change.setCell ?_ (.inr (by simp)) _))
end Go.Proofs.YtgnefbngkhjfcaaGreatDoor
/-
  The reference for JSON: values.
-/
set_option linter.unusedSimpArgs false
set_option linter.unusedVariables false
namespace Go.Proofs.YtgnefbngkhjfcaaGreatDoor
open Go.RowKit Go.Tg Tg.Json

theorem said_open (a : Nat) (x : Nat × Nat) : ∃ n st : Int, said a x = .agg #[.int .i64 n, .int .i64 st] ∧ n = (a + x.1 : Nat) ∧ st = stv x.2 := ⟨_, _, rfl, rfl, rfl⟩
theorem value_eq (d : Nat) (l : List UInt8) : value d l = match l.drop (skip l) with
    | [] => (skip l, 1)
    | b :: r => if b = 91 ∨ b = 123 then (match d with | 0 => (skip l, 3) | d + 1 => add (skip l + 1) (list (value d) (b == 123) (r.length + 1) true r)) else add (skip l) (value.flat b r) := by
  cases d <;> rfl
/-- what value owes -/
def ValC (d : Nat) : Prop := ∀ (s : ByteArray) (a : Nat) (w : World), s.size ≤ 1048576 → a ≤ s.size →
  Calls Tryz.prog 43 #[.string s, .int .i64 a, .int .i64 d] w fun e w' => e = .returned (said a (value d (s.data.toList.drop a))) ∧ Change (fun _ => False) w w'
/-- what list owes -/
def ListC (d : Nat) : Prop := ∀ (s : ByteArray) (a : Nat) (o : Bool) (w : World), s.size ≤ 1048576 → a ≤ s.size →
  Calls Tryz.prog 62 #[.string s, .int .i64 a, .int .i64 d, .bool o] w fun e w' => e = .returned (said a (list (value d) o ((s.data.toList.drop a).length + 1) true (s.data.toList.drop a))) ∧ Change (fun _ => False) w w'
theorem listI {d : Nat} (h : ListC d) (s : ByteArray) (a : Nat) (o ob : Bool) (x y : Int) (w : World) (hs : s.size ≤ 1048576) (ha : a ≤ s.size) (hx : x = a) (hy : y = d) (ho : ob = o) :
  Calls Tryz.prog 62 #[.string s, .int .i64 x, .int .i64 y, .bool ob] w fun e w' => e = .returned (said a (list (value d) o ((s.data.toList.drop a).length + 1) true (s.data.toList.drop a))) ∧ Change (fun _ => False) w w' := by
  subst hx hy ho; exact h s a ob w hs ha
theorem quoteI (s : ByteArray) (a : Nat) (x : Int) (w : World) (hs : s.size ≤ 1048576) (ha : a ≤ s.size) (hx : x = a) :
    Calls Tryz.prog 63 #[.string s, .int .i64 x] w fun e w' => e = .returned (said a (quote 0 (s.data.toList.drop a))) ∧ Change (fun _ => False) w w' := by
  subst hx; exact quote_any s a w hs ha
theorem rdigitI (c : UInt8) (x : Int) (w : World) (hx : x = c.toNat) :
    Calls Tryz.prog 64 #[.int .u8 x] w fun e w' => e = .returned (.bool (digit c)) ∧ w = w' := by
  subst hx; exact rdigit_any c w
theorem number10_any (s : ByteArray) (a : Nat) (w : World) (hs : s.size ≤ 1048576) (ha : a < s.size) :
    Calls Tryz.prog 65 #[.string s, .int .i64 a] w fun e w' => e = .returned (said a (if s[a] = 45 then add 1 (number 10 (s.data.toList.drop (a + 1))) else number 10 (s[a] :: s.data.toList.drop (a + 1)))) ∧ Change (fun _ => False) w w' := by
  refine (number_any s a w hs ha).mono ?_
  rintro e w' ⟨rfl, hc⟩
  refine ⟨?_, hc⟩
  congr 1
  by_cases h45 : s[a] = 45
  · rw [if_pos (by rw [h45]; rfl), if_pos h45, said_add, num10]
  · rw [if_neg (fun h => h45 (by rw [u8n]; exact h)), if_neg h45, num10, ← drop_cons ha]


set_option maxHeartbeats 8000000 in
set_option maxRecDepth 100000 in
theorem value_zero : ValC 0 := by
  intro s a w hs ha
  have hsk := skip_le (s.data.toList.drop a)
  simp only [List.length_drop, Array.length_toList] at hsk
  have hsz : s.data.size = s.size := rfl
  rw [hsz] at hsk
  have hR := value_eq 0 (s.data.toList.drop a)
  rw [List.drop_drop] at hR
  obtain ⟨p, hp⟩ : ∃ p, p = a + skip (s.data.toList.drop a) := ⟨_, rfl⟩
  have hps : p ≤ s.size := by omega
  obtain ⟨R, hRR⟩ : ∃ R, R = said a (value 0 (s.data.toList.drop a)) := ⟨_, rfl⟩
  rw [← hRR]
  rw [hR, ← hp] at hRR
  obtain ⟨k, hk⟩ : ∃ k, k = skip (s.data.toList.drop a) := ⟨_, rfl⟩
  rw [← hk] at hRR hp
  have HRR := Lib.hid hRR
  have HP := Lib.hid hp
  have HK := Lib.hid hk
  clear hRR hp hk hR hsk
  go_enter Tryz.func43, Tryz.ntmps43
  go_wp2_with fail
  refine (skip_any s a _ (by unfold maxLen; omega) ha).mono ?_
  rintro e w1 ⟨rfl, rfl⟩
  rw [← HK.out, ← HP.out]
  have hb : Blk (w.alloc (.cells #[.int .i64 0, .int .i64 0] 61)) w.heap.size 61 #[.int .i64 0, .int .i64 0] := Blk.new w 61 #[.int .i64 0, .int .i64 0]
  have hc : Change (fun _ => False) w (w.alloc (.cells #[.int .i64 0, .int .i64 0] 61)) := (Change.refl _ w).alloc _
  generalize w.alloc (.cells #[.int .i64 0, .int .i64 0] 61) = w1 at *
  obtain ⟨c0, c1, hf⟩ := blk_agg hb
  have HB := Lib.hid hb
  have HC := Lib.hid hc
  clear hb hc
  by_cases hlt : p < s.size
  · have hd := drop_cons hlt
    have hu := u8_lt s[p]
    have e0 : ((p : Int) == s.size) = false := by rw [beq_eq_false_iff_ne]; omega
    rcases u8_is s[p] 91 91 rfl with ⟨b1, n1⟩ | ⟨b1, n1⟩
    · have HF : Hid (R = said p (0, 3)) := by
        show _ = _
        rw [HRR.out, hd]; simp only; rw [if_pos (.inl b1)]; simp only [said]; rw [HP.out]; rfl
      clear hd b1
      go_wp2
      refine post_said (b := w.heap.size) ((HB.out.set 0 _).set 1 _) rfl rfl rfl ⟨?_, ?_⟩
      · rw [HF.out]; rfl
      · (repeat (first | exact HC.out | refine Change.drewN ?_ _ | refine Change.drew ?_ | refine Change.alloc ?_ _ | refine Change.setCell ?_ (.inr (by first | (simp; done) | (simp; omega))) _))
    rcases u8_is s[p] 123 123 rfl with ⟨b2, n2⟩ | ⟨b2, n2⟩
    · have HF : Hid (R = said p (0, 3)) := by
        show _ = _
        rw [HRR.out, hd]; simp only; rw [if_pos (.inr b2)]; simp only [said]; rw [HP.out]; rfl
      clear hd b1 b2
      go_wp2
      refine post_said (b := w.heap.size) ((HB.out.set 0 _).set 1 _) rfl rfl rfl ⟨?_, ?_⟩
      · rw [HF.out]; rfl
      · (repeat (first | exact HC.out | refine Change.drewN ?_ _ | refine Change.drew ?_ | refine Change.alloc ?_ _ | refine Change.setCell ?_ (.inr (by first | (simp; done) | (simp; omega))) _))
    rcases u8_is s[p] 34 34 rfl with ⟨b3, n3⟩ | ⟨b3, n3⟩
    · have HF : Hid (R = said (p + 1) (quote 0 (s.data.toList.drop (p + 1)))) := by
        show _ = _
        rw [HRR.out, hd]; simp only; rw [if_neg (by intro h; rcases h with h | h; exact b1 h; exact b2 h), value.flat, if_pos b3, said_add, said_add, ← HP.out]
      clear hd b1 b2 b3
      go_wp2_with fail
      refine (quoteI s (p + 1) _ _ hs (by omega) (by omega)).mono ?_
      rintro e w2 ⟨rfl, hc2⟩
      have hc3 := HC.out.trans hc2 (fun i h => h.elim)
      have hb3 := HB.out.of_change hc2 (fun h => h)
      obtain ⟨g0, g1, hg⟩ := blk_agg hb3
      have HB3 := Lib.hid hb3
      have HC3 := Lib.hid hc3
      clear hb3 hc3 hc2 c0 c1 hf
      obtain ⟨rn, rs, hsd, -, -⟩ := said_open _ _
      rw [hsd]
      have HSD := Lib.hid hsd
      clear hsd
      go_wp2
      refine post_said (b := w.heap.size) ((HB3.out.set 0 _).set 1 _) rfl rfl rfl ⟨?_, ?_⟩
      · rw [HF.out, ← HSD.out]
      · (repeat (first | exact HC3.out | refine Change.drewN ?_ _ | refine Change.drew ?_ | refine Change.alloc ?_ _ | refine Change.setCell ?_ (.inr (by first | (simp; done) | (simp; omega))) _))
    rcases u8_is s[p] 45 45 rfl with ⟨b4, n4⟩ | ⟨b4, n4⟩
    · have HF : Hid (R = said p (if s[p] = 45 then add 1 (number 10 (s.data.toList.drop (p + 1))) else number 10 (s[p] :: s.data.toList.drop (p + 1)))) := by
        show _ = _
        rw [HRR.out, hd]; simp only; rw [if_neg (by intro h; rcases h with h | h; exact b1 h; exact b2 h), value.flat, if_neg b3, if_pos b4, if_pos b4, said_add, ← HP.out]
      have HN := Lib.hid (number10_any s p w1 hs hlt)
      clear hd b1 b2 b3 b4
      go_wp2_with fail
      refine (HN.out).mono ?_
      rintro e w2 ⟨rfl, hc2⟩
      have hc3 := HC.out.trans hc2 (fun i h => h.elim)
      have hb3 := HB.out.of_change hc2 (fun h => h)
      obtain ⟨g0, g1, hg⟩ := blk_agg hb3
      have HB3 := Lib.hid hb3
      have HC3 := Lib.hid hc3
      clear hb3 hc3 hc2 c0 c1 hf
      obtain ⟨rn, rs, hsd, -, -⟩ := said_open _ _
      rw [hsd]
      have HSD := Lib.hid hsd
      clear hsd
      go_wp2
      refine post_said (b := w.heap.size) ((HB3.out.set 0 _).set 1 _) rfl rfl rfl ⟨?_, ?_⟩
      · rw [HF.out, ← HSD.out]
      · (repeat (first | exact HC3.out | refine Change.drewN ?_ _ | refine Change.drew ?_ | refine Change.alloc ?_ _ | refine Change.setCell ?_ (.inr (by first | (simp; done) | (simp; omega))) _))
    cases hdg : digit s[p]
    rotate_left
    · have HF : Hid (R = said p (if s[p] = 45 then add 1 (number 10 (s.data.toList.drop (p + 1))) else number 10 (s[p] :: s.data.toList.drop (p + 1)))) := by
        show _ = _
        rw [HRR.out, hd]; simp only; rw [if_neg (by intro h; rcases h with h | h; exact b1 h; exact b2 h), value.flat, if_neg b3, if_neg b4, if_neg b4, if_pos hdg, said_add, ← HP.out]
      have HN := Lib.hid (number10_any s p w1 hs hlt)
      clear hd b1 b2 b3 b4
      go_wp2_with (go_at_call 64; refine Calls.mono (rdigitI s[p] _ _ ?_) ?_; (first | rfl | omega | (simp only [beq_iff_eq] at *; omega)); rintro e w' ⟨rfl, rfl⟩)
      refine (HN.out).mono ?_
      rintro e w2 ⟨rfl, hc2⟩
      have hc3 := HC.out.trans hc2 (fun i h => h.elim)
      have hb3 := HB.out.of_change hc2 (fun h => h)
      obtain ⟨g0, g1, hg⟩ := blk_agg hb3
      have HB3 := Lib.hid hb3
      have HC3 := Lib.hid hc3
      clear hb3 hc3 hc2 c0 c1 hf
      obtain ⟨rn, rs, hsd, -, -⟩ := said_open _ _
      rw [hsd]
      have HSD := Lib.hid hsd
      clear hsd
      go_wp2
      refine post_said (b := w.heap.size) ((HB3.out.set 0 _).set 1 _) rfl rfl rfl ⟨?_, ?_⟩
      · rw [HF.out, ← HSD.out]
      · (repeat (first | exact HC3.out | refine Change.drewN ?_ _ | refine Change.drew ?_ | refine Change.alloc ?_ _ | refine Change.setCell ?_ (.inr (by first | (simp; done) | (simp; omega))) _))
    rcases u8_is s[p] 116 116 rfl with ⟨b5, n5⟩ | ⟨b5, n5⟩
    · have HF : Hid (R = said p (word (s.data.toList.drop p) [116, 114, 117, 101])) := by
        show _ = _
        rw [HRR.out, hd]; simp only; rw [if_neg (by intro h; rcases h with h | h; exact b1 h; exact b2 h), value.flat, if_neg b3, if_neg b4, if_neg (by rw [hdg]; decide), if_pos b5, said_add, ← HP.out]
      clear hd b1 b2 b3 b4 b5
      go_wp2_with (go_at_call 64; refine Calls.mono (rdigitI s[p] _ _ ?_) ?_; (first | rfl | omega | (simp only [beq_iff_eq] at *; omega)); rintro e w' ⟨rfl, rfl⟩)
      refine (word_any s ⟨#[116, 114, 117, 101]⟩ p _ hs (by decide) (by omega)).mono ?_
      rintro e w2 ⟨rfl, hc2⟩
      have hc3 := HC.out.trans hc2 (fun i h => h.elim)
      have hb3 := HB.out.of_change hc2 (fun h => h)
      obtain ⟨g0, g1, hg⟩ := blk_agg hb3
      have HB3 := Lib.hid hb3
      have HC3 := Lib.hid hc3
      clear hb3 hc3 hc2 c0 c1 hf
      obtain ⟨rn, rs, hsd, -, -⟩ := said_open _ _
      rw [hsd]
      have HSD := Lib.hid hsd
      clear hsd
      go_wp2
      refine post_said (b := w.heap.size) ((HB3.out.set 0 _).set 1 _) rfl rfl rfl ⟨?_, ?_⟩
      · rw [HF.out, ← HSD.out]
      · (repeat (first | exact HC3.out | refine Change.drewN ?_ _ | refine Change.drew ?_ | refine Change.alloc ?_ _ | refine Change.setCell ?_ (.inr (by first | (simp; done) | (simp; omega))) _))
    rcases u8_is s[p] 102 102 rfl with ⟨b6, n6⟩ | ⟨b6, n6⟩
    · have HF : Hid (R = said p (word (s.data.toList.drop p) [102, 97, 108, 115, 101])) := by
        show _ = _
        rw [HRR.out, hd]; simp only; rw [if_neg (by intro h; rcases h with h | h; exact b1 h; exact b2 h), value.flat, if_neg b3, if_neg b4, if_neg (by rw [hdg]; decide), if_neg b5, if_pos b6, said_add, ← HP.out]
      clear hd b1 b2 b3 b4 b5 b6
      go_wp2_with (go_at_call 64; refine Calls.mono (rdigitI s[p] _ _ ?_) ?_; (first | rfl | omega | (simp only [beq_iff_eq] at *; omega)); rintro e w' ⟨rfl, rfl⟩)
      refine (word_any s ⟨#[102, 97, 108, 115, 101]⟩ p _ hs (by decide) (by omega)).mono ?_
      rintro e w2 ⟨rfl, hc2⟩
      have hc3 := HC.out.trans hc2 (fun i h => h.elim)
      have hb3 := HB.out.of_change hc2 (fun h => h)
      obtain ⟨g0, g1, hg⟩ := blk_agg hb3
      have HB3 := Lib.hid hb3
      have HC3 := Lib.hid hc3
      clear hb3 hc3 hc2 c0 c1 hf
      obtain ⟨rn, rs, hsd, -, -⟩ := said_open _ _
      rw [hsd]
      have HSD := Lib.hid hsd
      clear hsd
      go_wp2
      refine post_said (b := w.heap.size) ((HB3.out.set 0 _).set 1 _) rfl rfl rfl ⟨?_, ?_⟩
      · rw [HF.out, ← HSD.out]
      · (repeat (first | exact HC3.out | refine Change.drewN ?_ _ | refine Change.drew ?_ | refine Change.alloc ?_ _ | refine Change.setCell ?_ (.inr (by first | (simp; done) | (simp; omega))) _))
    rcases u8_is s[p] 110 110 rfl with ⟨b7, n7⟩ | ⟨b7, n7⟩
    · have HF : Hid (R = said p (word (s.data.toList.drop p) [110, 117, 108, 108])) := by
        show _ = _
        rw [HRR.out, hd]; simp only; rw [if_neg (by intro h; rcases h with h | h; exact b1 h; exact b2 h), value.flat, if_neg b3, if_neg b4, if_neg (by rw [hdg]; decide), if_neg b5, if_neg b6, if_pos b7, said_add, ← HP.out]
      clear hd b1 b2 b3 b4 b5 b6 b7
      go_wp2_with (go_at_call 64; refine Calls.mono (rdigitI s[p] _ _ ?_) ?_; (first | rfl | omega | (simp only [beq_iff_eq] at *; omega)); rintro e w' ⟨rfl, rfl⟩)
      refine (word_any s ⟨#[110, 117, 108, 108]⟩ p _ hs (by decide) (by omega)).mono ?_
      rintro e w2 ⟨rfl, hc2⟩
      have hc3 := HC.out.trans hc2 (fun i h => h.elim)
      have hb3 := HB.out.of_change hc2 (fun h => h)
      obtain ⟨g0, g1, hg⟩ := blk_agg hb3
      have HB3 := Lib.hid hb3
      have HC3 := Lib.hid hc3
      clear hb3 hc3 hc2 c0 c1 hf
      obtain ⟨rn, rs, hsd, -, -⟩ := said_open _ _
      rw [hsd]
      have HSD := Lib.hid hsd
      clear hsd
      go_wp2
      refine post_said (b := w.heap.size) ((HB3.out.set 0 _).set 1 _) rfl rfl rfl ⟨?_, ?_⟩
      · rw [HF.out, ← HSD.out]
      · (repeat (first | exact HC3.out | refine Change.drewN ?_ _ | refine Change.drew ?_ | refine Change.alloc ?_ _ | refine Change.setCell ?_ (.inr (by first | (simp; done) | (simp; omega))) _))
    have HF : Hid (R = said p (0, 0)) := by
      show _ = _
      rw [HRR.out, hd]; simp only; rw [if_neg (by intro h; rcases h with h | h; exact b1 h; exact b2 h), value.flat, if_neg b3, if_neg b4, if_neg (by rw [hdg]; decide), if_neg b5, if_neg b6, if_neg b7, said_add, ← HP.out]
    clear hd b1 b2 b3 b4 b5 b6 b7
    go_wp2_with (go_at_call 64; refine Calls.mono (rdigitI s[p] _ _ ?_) ?_; (first | rfl | omega | (simp only [beq_iff_eq] at *; omega)); rintro e w' ⟨rfl, rfl⟩)
    refine post_said (b := w.heap.size) ((HB.out.set 0 _).set 1 _) rfl rfl rfl ⟨?_, ?_⟩
    · rw [HF.out]; rfl
    · (repeat (first | exact HC.out | refine Change.drewN ?_ _ | refine Change.drew ?_ | refine Change.alloc ?_ _ | refine Change.setCell ?_ (.inr (by first | (simp; done) | (simp; omega))) _))
  · have hd := drop_end hlt
    have e0 : ((p : Int) == s.size) = true := by rw [beq_iff_eq]; omega
    have HF : Hid (R = said p (0, 1)) := by
      show _ = _
      rw [HRR.out, hd]; simp only [said]; rw [HP.out]; rfl
    have hpe : p = s.size := by omega
    have HPE := Lib.hid hpe
    clear hd hpe
    go_wp2
    refine post_said (b := w.heap.size) ((HB.out.set 0 _).set 1 _) rfl rfl rfl ⟨?_, ?_⟩
    · rw [HF.out]; rfl
    · (repeat (first | exact HC.out | refine Change.drewN ?_ _ | refine Change.drew ?_ | refine Change.alloc ?_ _ | refine Change.setCell ?_ (.inr (by first | (simp; done) | (simp; omega))) _))


set_option maxHeartbeats 16000000 in
set_option maxRecDepth 100000 in
theorem value_succ (d : Nat) (hd200 : d ≤ 1000) (hl : ListC d) : ValC (d + 1) := by
  intro s a w hs ha
  have HL := Lib.hid hl
  clear hl
  have z0 : (((d + 1 : Nat) : Int) == 0) = false := by rw [beq_eq_false_iff_ne]; omega
  have z1 : ((d : Int) + 1 == 0) = false := by rw [beq_eq_false_iff_ne]; omega
  have hsk := skip_le (s.data.toList.drop a)
  simp only [List.length_drop, Array.length_toList] at hsk
  have hsz : s.data.size = s.size := rfl
  rw [hsz] at hsk
  have hR := value_eq (d + 1) (s.data.toList.drop a)
  rw [List.drop_drop] at hR
  obtain ⟨p, hp⟩ : ∃ p, p = a + skip (s.data.toList.drop a) := ⟨_, rfl⟩
  have hps : p ≤ s.size := by omega
  obtain ⟨R, hRR⟩ : ∃ R, R = said a (value (d + 1) (s.data.toList.drop a)) := ⟨_, rfl⟩
  rw [← hRR]
  rw [hR, ← hp] at hRR
  obtain ⟨k, hk⟩ : ∃ k, k = skip (s.data.toList.drop a) := ⟨_, rfl⟩
  rw [← hk] at hRR hp
  have HRR := Lib.hid hRR
  have HP := Lib.hid hp
  have HK := Lib.hid hk
  clear hRR hp hk hR hsk
  go_enter Tryz.func43, Tryz.ntmps43
  go_wp2_with fail
  refine (skip_any s a _ (by unfold maxLen; omega) ha).mono ?_
  rintro e w1 ⟨rfl, rfl⟩
  rw [← HK.out, ← HP.out]
  have hb : Blk (w.alloc (.cells #[.int .i64 0, .int .i64 0] 61)) w.heap.size 61 #[.int .i64 0, .int .i64 0] := Blk.new w 61 #[.int .i64 0, .int .i64 0]
  have hc : Change (fun _ => False) w (w.alloc (.cells #[.int .i64 0, .int .i64 0] 61)) := (Change.refl _ w).alloc _
  generalize w.alloc (.cells #[.int .i64 0, .int .i64 0] 61) = w1 at *
  obtain ⟨c0, c1, hf⟩ := blk_agg hb
  have HB := Lib.hid hb
  have HC := Lib.hid hc
  clear hb hc
  by_cases hlt : p < s.size
  · have hd := drop_cons hlt
    have hu := u8_lt s[p]
    have e0 : ((p : Int) == s.size) = false := by rw [beq_eq_false_iff_ne]; omega
    rcases u8_is s[p] 91 91 rfl with ⟨b1, n1⟩ | ⟨b1, n1⟩
    · have HF : Hid (R = said (p + 1) (list (value d) false ((s.data.toList.drop (p + 1)).length + 1) true (s.data.toList.drop (p + 1)))) := by
        show _ = _
        rw [HRR.out, hd]; simp only; rw [if_pos (.inl b1), said_add, show (s[p] == 123) = false from by rw [b1]; rfl, ← Nat.add_assoc, ← HP.out]
      clear hd b1
      go_wp2_with fail
      refine (listI HL.out s (p + 1) false _ _ _ _ hs (by omega) (by omega) (by omega) (by first | assumption | rfl | (rw [beq_eq_false_iff_ne]; simp only [beq_iff_eq] at *; omega))).mono ?_
      rintro e w2 ⟨rfl, hc2⟩
      have hc3 := HC.out.trans hc2 (fun i h => h.elim)
      have hb3 := HB.out.of_change hc2 (fun h => h)
      obtain ⟨g0, g1, hg⟩ := blk_agg hb3
      have HB3 := Lib.hid hb3
      have HC3 := Lib.hid hc3
      clear hb3 hc3 hc2 c0 c1 hf
      obtain ⟨rn, rs, hsd, -, -⟩ := said_open _ _
      rw [hsd]
      have HSD := Lib.hid hsd
      clear hsd
      go_wp2
      refine post_said (b := w.heap.size) ((HB3.out.set 0 _).set 1 _) rfl rfl rfl ⟨?_, ?_⟩
      · rw [HF.out, ← HSD.out]
      · (repeat (first | exact HC3.out | refine Change.drewN ?_ _ | refine Change.drew ?_ | refine Change.alloc ?_ _ | refine Change.setCell ?_ (.inr (by first | (simp; done) | (simp; omega))) _))
    rcases u8_is s[p] 123 123 rfl with ⟨b2, n2⟩ | ⟨b2, n2⟩
    · have HF : Hid (R = said (p + 1) (list (value d) true ((s.data.toList.drop (p + 1)).length + 1) true (s.data.toList.drop (p + 1)))) := by
        show _ = _
        rw [HRR.out, hd]; simp only; rw [if_pos (.inr b2), said_add, show (s[p] == 123) = true from by rw [b2]; rfl, ← Nat.add_assoc, ← HP.out]
      clear hd b1 b2
      go_wp2_with fail
      refine (listI HL.out s (p + 1) true _ _ _ _ hs (by omega) (by omega) (by omega) (by first | assumption | rfl | (rw [beq_eq_false_iff_ne]; simp only [beq_iff_eq] at *; omega))).mono ?_
      rintro e w2 ⟨rfl, hc2⟩
      have hc3 := HC.out.trans hc2 (fun i h => h.elim)
      have hb3 := HB.out.of_change hc2 (fun h => h)
      obtain ⟨g0, g1, hg⟩ := blk_agg hb3
      have HB3 := Lib.hid hb3
      have HC3 := Lib.hid hc3
      clear hb3 hc3 hc2 c0 c1 hf
      obtain ⟨rn, rs, hsd, -, -⟩ := said_open _ _
      rw [hsd]
      have HSD := Lib.hid hsd
      clear hsd
      go_wp2
      refine post_said (b := w.heap.size) ((HB3.out.set 0 _).set 1 _) rfl rfl rfl ⟨?_, ?_⟩
      · rw [HF.out, ← HSD.out]
      · (repeat (first | exact HC3.out | refine Change.drewN ?_ _ | refine Change.drew ?_ | refine Change.alloc ?_ _ | refine Change.setCell ?_ (.inr (by first | (simp; done) | (simp; omega))) _))
    rcases u8_is s[p] 34 34 rfl with ⟨b3, n3⟩ | ⟨b3, n3⟩
    · have HF : Hid (R = said (p + 1) (quote 0 (s.data.toList.drop (p + 1)))) := by
        show _ = _
        rw [HRR.out, hd]; simp only; rw [if_neg (by intro h; rcases h with h | h; exact b1 h; exact b2 h), value.flat, if_pos b3, said_add, said_add, ← HP.out]
      clear hd b1 b2 b3
      go_wp2_with fail
      refine (quoteI s (p + 1) _ _ hs (by omega) (by omega)).mono ?_
      rintro e w2 ⟨rfl, hc2⟩
      have hc3 := HC.out.trans hc2 (fun i h => h.elim)
      have hb3 := HB.out.of_change hc2 (fun h => h)
      obtain ⟨g0, g1, hg⟩ := blk_agg hb3
      have HB3 := Lib.hid hb3
      have HC3 := Lib.hid hc3
      clear hb3 hc3 hc2 c0 c1 hf
      obtain ⟨rn, rs, hsd, -, -⟩ := said_open _ _
      rw [hsd]
      have HSD := Lib.hid hsd
      clear hsd
      go_wp2
      refine post_said (b := w.heap.size) ((HB3.out.set 0 _).set 1 _) rfl rfl rfl ⟨?_, ?_⟩
      · rw [HF.out, ← HSD.out]
      · (repeat (first | exact HC3.out | refine Change.drewN ?_ _ | refine Change.drew ?_ | refine Change.alloc ?_ _ | refine Change.setCell ?_ (.inr (by first | (simp; done) | (simp; omega))) _))
    rcases u8_is s[p] 45 45 rfl with ⟨b4, n4⟩ | ⟨b4, n4⟩
    · have HF : Hid (R = said p (if s[p] = 45 then add 1 (number 10 (s.data.toList.drop (p + 1))) else number 10 (s[p] :: s.data.toList.drop (p + 1)))) := by
        show _ = _
        rw [HRR.out, hd]; simp only; rw [if_neg (by intro h; rcases h with h | h; exact b1 h; exact b2 h), value.flat, if_neg b3, if_pos b4, if_pos b4, said_add, ← HP.out]
      have HN := Lib.hid (number10_any s p w1 hs hlt)
      clear hd b1 b2 b3 b4
      go_wp2_with fail
      refine (HN.out).mono ?_
      rintro e w2 ⟨rfl, hc2⟩
      have hc3 := HC.out.trans hc2 (fun i h => h.elim)
      have hb3 := HB.out.of_change hc2 (fun h => h)
      obtain ⟨g0, g1, hg⟩ := blk_agg hb3
      have HB3 := Lib.hid hb3
      have HC3 := Lib.hid hc3
      clear hb3 hc3 hc2 c0 c1 hf
      obtain ⟨rn, rs, hsd, -, -⟩ := said_open _ _
      rw [hsd]
      have HSD := Lib.hid hsd
      clear hsd
      go_wp2
      refine post_said (b := w.heap.size) ((HB3.out.set 0 _).set 1 _) rfl rfl rfl ⟨?_, ?_⟩
      · rw [HF.out, ← HSD.out]
      · (repeat (first | exact HC3.out | refine Change.drewN ?_ _ | refine Change.drew ?_ | refine Change.alloc ?_ _ | refine Change.setCell ?_ (.inr (by first | (simp; done) | (simp; omega))) _))
    cases hdg : digit s[p]
    rotate_left
    · have HF : Hid (R = said p (if s[p] = 45 then add 1 (number 10 (s.data.toList.drop (p + 1))) else number 10 (s[p] :: s.data.toList.drop (p + 1)))) := by
        show _ = _
        rw [HRR.out, hd]; simp only; rw [if_neg (by intro h; rcases h with h | h; exact b1 h; exact b2 h), value.flat, if_neg b3, if_neg b4, if_neg b4, if_pos hdg, said_add, ← HP.out]
      have HN := Lib.hid (number10_any s p w1 hs hlt)
      clear hd b1 b2 b3 b4
      go_wp2_with (go_at_call 64; refine Calls.mono (rdigitI s[p] _ _ ?_) ?_; (first | rfl | omega | (simp only [beq_iff_eq] at *; omega)); rintro e w' ⟨rfl, rfl⟩)
      refine (HN.out).mono ?_
      rintro e w2 ⟨rfl, hc2⟩
      have hc3 := HC.out.trans hc2 (fun i h => h.elim)
      have hb3 := HB.out.of_change hc2 (fun h => h)
      obtain ⟨g0, g1, hg⟩ := blk_agg hb3
      have HB3 := Lib.hid hb3
      have HC3 := Lib.hid hc3
      clear hb3 hc3 hc2 c0 c1 hf
      obtain ⟨rn, rs, hsd, -, -⟩ := said_open _ _
      rw [hsd]
      have HSD := Lib.hid hsd
      clear hsd
      go_wp2
      refine post_said (b := w.heap.size) ((HB3.out.set 0 _).set 1 _) rfl rfl rfl ⟨?_, ?_⟩
      · rw [HF.out, ← HSD.out]
      · (repeat (first | exact HC3.out | refine Change.drewN ?_ _ | refine Change.drew ?_ | refine Change.alloc ?_ _ | refine Change.setCell ?_ (.inr (by first | (simp; done) | (simp; omega))) _))
    rcases u8_is s[p] 116 116 rfl with ⟨b5, n5⟩ | ⟨b5, n5⟩
    · have HF : Hid (R = said p (word (s.data.toList.drop p) [116, 114, 117, 101])) := by
        show _ = _
        rw [HRR.out, hd]; simp only; rw [if_neg (by intro h; rcases h with h | h; exact b1 h; exact b2 h), value.flat, if_neg b3, if_neg b4, if_neg (by rw [hdg]; decide), if_pos b5, said_add, ← HP.out]
      clear hd b1 b2 b3 b4 b5
      go_wp2_with (go_at_call 64; refine Calls.mono (rdigitI s[p] _ _ ?_) ?_; (first | rfl | omega | (simp only [beq_iff_eq] at *; omega)); rintro e w' ⟨rfl, rfl⟩)
      refine (word_any s ⟨#[116, 114, 117, 101]⟩ p _ hs (by decide) (by omega)).mono ?_
      rintro e w2 ⟨rfl, hc2⟩
      have hc3 := HC.out.trans hc2 (fun i h => h.elim)
      have hb3 := HB.out.of_change hc2 (fun h => h)
      obtain ⟨g0, g1, hg⟩ := blk_agg hb3
      have HB3 := Lib.hid hb3
      have HC3 := Lib.hid hc3
      clear hb3 hc3 hc2 c0 c1 hf
      obtain ⟨rn, rs, hsd, -, -⟩ := said_open _ _
      rw [hsd]
      have HSD := Lib.hid hsd
      clear hsd
      go_wp2
      refine post_said (b := w.heap.size) ((HB3.out.set 0 _).set 1 _) rfl rfl rfl ⟨?_, ?_⟩
      · rw [HF.out, ← HSD.out]
      · (repeat (first | exact HC3.out | refine Change.drewN ?_ _ | refine Change.drew ?_ | refine Change.alloc ?_ _ | refine Change.setCell ?_ (.inr (by first | (simp; done) | (simp; omega))) _))
    rcases u8_is s[p] 102 102 rfl with ⟨b6, n6⟩ | ⟨b6, n6⟩
    · have HF : Hid (R = said p (word (s.data.toList.drop p) [102, 97, 108, 115, 101])) := by
        show _ = _
        rw [HRR.out, hd]; simp only; rw [if_neg (by intro h; rcases h with h | h; exact b1 h; exact b2 h), value.flat, if_neg b3, if_neg b4, if_neg (by rw [hdg]; decide), if_neg b5, if_pos b6, said_add, ← HP.out]
      clear hd b1 b2 b3 b4 b5 b6
      go_wp2_with (go_at_call 64; refine Calls.mono (rdigitI s[p] _ _ ?_) ?_; (first | rfl | omega | (simp only [beq_iff_eq] at *; omega)); rintro e w' ⟨rfl, rfl⟩)
      refine (word_any s ⟨#[102, 97, 108, 115, 101]⟩ p _ hs (by decide) (by omega)).mono ?_
      rintro e w2 ⟨rfl, hc2⟩
      have hc3 := HC.out.trans hc2 (fun i h => h.elim)
      have hb3 := HB.out.of_change hc2 (fun h => h)
      obtain ⟨g0, g1, hg⟩ := blk_agg hb3
      have HB3 := Lib.hid hb3
      have HC3 := Lib.hid hc3
      clear hb3 hc3 hc2 c0 c1 hf
      obtain ⟨rn, rs, hsd, -, -⟩ := said_open _ _
      rw [hsd]
      have HSD := Lib.hid hsd
      clear hsd
      go_wp2
      refine post_said (b := w.heap.size) ((HB3.out.set 0 _).set 1 _) rfl rfl rfl ⟨?_, ?_⟩
      · rw [HF.out, ← HSD.out]
      · (repeat (first | exact HC3.out | refine Change.drewN ?_ _ | refine Change.drew ?_ | refine Change.alloc ?_ _ | refine Change.setCell ?_ (.inr (by first | (simp; done) | (simp; omega))) _))
    rcases u8_is s[p] 110 110 rfl with ⟨b7, n7⟩ | ⟨b7, n7⟩
    · have HF : Hid (R = said p (word (s.data.toList.drop p) [110, 117, 108, 108])) := by
        show _ = _
        rw [HRR.out, hd]; simp only; rw [if_neg (by intro h; rcases h with h | h; exact b1 h; exact b2 h), value.flat, if_neg b3, if_neg b4, if_neg (by rw [hdg]; decide), if_neg b5, if_neg b6, if_pos b7, said_add, ← HP.out]
      clear hd b1 b2 b3 b4 b5 b6 b7
      go_wp2_with (go_at_call 64; refine Calls.mono (rdigitI s[p] _ _ ?_) ?_; (first | rfl | omega | (simp only [beq_iff_eq] at *; omega)); rintro e w' ⟨rfl, rfl⟩)
      refine (word_any s ⟨#[110, 117, 108, 108]⟩ p _ hs (by decide) (by omega)).mono ?_
      rintro e w2 ⟨rfl, hc2⟩
      have hc3 := HC.out.trans hc2 (fun i h => h.elim)
      have hb3 := HB.out.of_change hc2 (fun h => h)
      obtain ⟨g0, g1, hg⟩ := blk_agg hb3
      have HB3 := Lib.hid hb3
      have HC3 := Lib.hid hc3
      clear hb3 hc3 hc2 c0 c1 hf
      obtain ⟨rn, rs, hsd, -, -⟩ := said_open _ _
      rw [hsd]
      have HSD := Lib.hid hsd
      clear hsd
      go_wp2
      refine post_said (b := w.heap.size) ((HB3.out.set 0 _).set 1 _) rfl rfl rfl ⟨?_, ?_⟩
      · rw [HF.out, ← HSD.out]
      · (repeat (first | exact HC3.out | refine Change.drewN ?_ _ | refine Change.drew ?_ | refine Change.alloc ?_ _ | refine Change.setCell ?_ (.inr (by first | (simp; done) | (simp; omega))) _))
    have HF : Hid (R = said p (0, 0)) := by
      show _ = _
      rw [HRR.out, hd]; simp only; rw [if_neg (by intro h; rcases h with h | h; exact b1 h; exact b2 h), value.flat, if_neg b3, if_neg b4, if_neg (by rw [hdg]; decide), if_neg b5, if_neg b6, if_neg b7, said_add, ← HP.out]
    clear hd b1 b2 b3 b4 b5 b6 b7
    go_wp2_with (go_at_call 64; refine Calls.mono (rdigitI s[p] _ _ ?_) ?_; (first | rfl | omega | (simp only [beq_iff_eq] at *; omega)); rintro e w' ⟨rfl, rfl⟩)
    refine post_said (b := w.heap.size) ((HB.out.set 0 _).set 1 _) rfl rfl rfl ⟨?_, ?_⟩
    · rw [HF.out]; rfl
    · (repeat (first | exact HC.out | refine Change.drewN ?_ _ | refine Change.drew ?_ | refine Change.alloc ?_ _ | refine Change.setCell ?_ (.inr (by first | (simp; done) | (simp; omega))) _))
  · have hd := drop_end hlt
    have e0 : ((p : Int) == s.size) = true := by rw [beq_iff_eq]; omega
    have HF : Hid (R = said p (0, 1)) := by
      show _ = _
      rw [HRR.out, hd]; simp only [said]; rw [HP.out]; rfl
    have hpe : p = s.size := by omega
    have HPE := Lib.hid hpe
    clear hd hpe
    go_wp2
    refine post_said (b := w.heap.size) ((HB.out.set 0 _).set 1 _) rfl rfl rfl ⟨?_, ?_⟩
    · rw [HF.out]; rfl
    · (repeat (first | exact HC.out | refine Change.drewN ?_ _ | refine Change.drew ?_ | refine Change.alloc ?_ _ | refine Change.setCell ?_ (.inr (by first | (simp; done) | (simp; omega))) _))

end Go.Proofs.YtgnefbngkhjfcaaGreatDoor
/-
  The reference for JSON: arrays and objects.
-/
set_option linter.unusedSimpArgs false
set_option linter.unusedVariables false
namespace Go.Proofs.YtgnefbngkhjfcaaGreatDoor
open Go.RowKit Go.Tg Tg.Json

/-- an element, and what comes behind it -/
def elem (val : List UInt8 → Nat × Nat) (o : Bool) (next : List UInt8 → Nat × Nat) (l : List UInt8) : Nat × Nat :=
  if (val l).2 ≠ 4 then val l else add (val l).1 (behindElem o next (l.drop (val l).1))
theorem list_eq (val : List UInt8 → Nat × Nat) (o one : Bool) (g : Nat) (l : List UInt8) : list val o (g + 1) one l =
    match l.drop (skip l) with
    | [] => (skip l, 1)
    | b :: r =>
      if one ∧ b = close o then (skip l + 1, 4)
      else add (skip l)
        (if (named o (b :: r)).2 ≠ 4 then named o (b :: r)
         else add (named o (b :: r)).1 (elem val o (list val o g false) ((b :: r).drop (named o (b :: r)).1))) := rfl
theorem valI {d : Nat} (h : ValC d) (s : ByteArray) (a : Nat) (x : Int) (w : World) (hs : s.size ≤ 1048576) (ha : a ≤ s.size) (hx : x = a) :
  Calls Tryz.prog 43 #[.string s, .int .i64 x, .int .i64 d] w fun e w' => e = .returned (said a (value d (s.data.toList.drop a))) ∧ Change (fun _ => False) w w' := by
  subst hx; exact h s a w hs ha
theorem skipI (s : ByteArray) (a : Nat) (x : Int) (w : World) (hs : s.size ≤ 1048576) (ha : a ≤ s.size) (hx : x = a) :
    Calls Tryz.prog 44 #[.string s, .int .i64 x] w fun e w' => (∃ p : Nat, e = .returned (.int .i64 p) ∧ p ≤ s.size ∧ Hid (p = a + skip (s.data.toList.drop a))) ∧ w = w' := by
  subst hx
  have hsk := skip_le (s.data.toList.drop a)
  simp only [List.length_drop, Array.length_toList] at hsk
  have hsz : s.data.size = s.size := rfl
  refine (skip_any s a w (by unfold maxLen; omega) ha).mono ?_
  rintro e w' ⟨rfl, rfl⟩
  exact ⟨⟨_, rfl, by omega, rfl⟩, rfl⟩
theorem value_le (d : Nat) (l : List UInt8) (h : (value d l).2 = 4) : (value d l).1 ≤ l.length := by
  rcases value_goes d d [] (by simp) (M.start d) l rfl rfl rfl (.inl rfl) with ⟨_, h, _⟩ | ⟨h1, _⟩ | ⟨h1, _⟩
  · exact h
  · omega
  · omega
theorem quote_le (l : List UInt8) (h : (quote 0 l).2 = 4) : (quote 0 l).1 ≤ l.length := by
  rcases quote_goes l 0 { M.start 0 with pos := 6 } rfl rfl (by intro h; omega) (by omega) with ⟨_, h, _⟩ | ⟨h1, _⟩ | ⟨h1, _⟩
  · exact h
  · omega
  · omega
theorem behind_at (o : Bool) (next : List UInt8 → Nat × Nat) (s : ByteArray) (q t : Nat) (ht : t = q + skip (s.data.toList.drop q)) :
    said q (behindElem o next (s.data.toList.drop q)) = (match s.data.toList.drop t with
      | [] => said t (0, 1)
      | c :: r => if c = close o then said (t + 1) (0, 4) else if c ≠ 44 then said t (0, 0) else said (t + 1) (next r)) := by
  subst ht
  unfold behindElem
  rw [List.drop_drop]
  generalize s.data.toList.drop (q + skip (s.data.toList.drop q)) = m
  cases m with
  | nil => rfl
  | cons c r =>
    simp only
    by_cases h1 : c = close o
    · rw [if_pos h1, if_pos h1]; simp only [said]; rfl
    · rw [if_neg h1, if_neg h1]
      by_cases h2 : c ≠ 44
      · rw [if_pos h2, if_pos h2]; rfl
      · rw [if_neg h2, if_neg h2, said_add]; rfl


set_option maxHeartbeats 16000000 in
set_option maxRecDepth 100000 in
theorem list_arr (d : Nat) (hd1000 : d ≤ 1000) (hv : ValC d) (s : ByteArray) (a : Nat) (w : World) (hs : s.size ≤ 1048576) (ha : a ≤ s.size) :
  Calls Tryz.prog 62 #[.string s, .int .i64 a, .int .i64 d, .bool false] w fun e w' => e = .returned (said a (list (value d) false ((s.data.toList.drop a).length + 1) true (s.data.toList.drop a))) ∧ Change (fun _ => False) w w' := by
  obtain ⟨R, hR⟩ : ∃ R, R = said a (list (value d) false ((s.data.toList.drop a).length + 1) true (s.data.toList.drop a)) := ⟨_, rfl⟩
  rw [← hR]
  have HR := Lib.hid hR
  have HV := Lib.hid hv
  clear hR hv
  go_enter Tryz.func62, Tryz.ntmps62
  go_wp2
  go_loopw [1, 10] (fun i n wr => ∃ k nn f : Nat, k ≤ s.size ∧ nn ≤ k ∧ i = .int .i64 k ∧ n = .int .i64 nn ∧ s.size - k < f ∧ Hid (said k (list (value d) false f (nn == 0) (s.data.toList.drop k)) = R) ∧ Blk wr w.heap.size 61 #[.int .i64 0, .int .i64 0] ∧ Change (fun _ => False) w wr) (fun i _ _ => s.size - (intOf i).toNat)
  case atStart =>
    refine ⟨a, 0, _, ha, Nat.zero_le _, rfl, rfl, ?_, HR.out.symm, Blk.new _ _ _, (Change.refl _ w).alloc _⟩
    have hsz : s.data.size = s.size := rfl
    simp only [List.length_drop, Array.length_toList]; omega
  case round =>
    obtain ⟨k, nn, f, hk, hnk, rfl, rfl, hfl, hF, hb, hc⟩ := hrel
    obtain ⟨g, rfl⟩ : ∃ g, f = g + 1 := ⟨f - 1, by omega⟩
    obtain ⟨c0, c1, hf⟩ := blk_agg hb
    have HB := Lib.hid hb
    have HC := Lib.hid hc
    clear hb hc
    go_wp2_with fail
    refine (skipI s k _ _ hs hk rfl).mono ?_
    rintro e w1 ⟨⟨p, rfl, hps, hP⟩, rfl⟩
    have hkp : k ≤ p := by have := hP.out; omega
    by_cases hlt : p < s.size
    · have hd := Lib.hid (drop_cons hlt)
      have e0 : ((p : Int) == s.size) = false := by rw [beq_eq_false_iff_ne]; omega
      have HL : Hid (R = if (nn == 0) = true ∧ s[p] = close false then said (p + 1) (0, 4) else said p (if (named false (s[p] :: s.data.toList.drop (p + 1))).2 ≠ 4 then named false (s[p] :: s.data.toList.drop (p + 1)) else add (named false (s[p] :: s.data.toList.drop (p + 1))).1 (elem (value d) false (list (value d) false g false) ((s[p] :: s.data.toList.drop (p + 1)).drop (named false (s[p] :: s.data.toList.drop (p + 1))).1)))) := by
        show _ = _
        rw [← hF.out, list_eq, List.drop_drop, ← hP.out, hd.out]; simp only
        split
        · simp only [said]; rw [hP.out]; rfl
        · rw [said_add, ← hP.out]
      go_upto_region 9 with (fail)
      go_cut [33] from 14 to 103 (fun v wx => (Blk wx w.heap.size 61 #[.int .i64 0, .int .i64 0] ∧ Change (fun _ => False) w wx) ∧ ∃ pt : Bool, v = .bool pt ∧ Hid (pt = true ↔ ((nn == 0) = true ∧ s[p] = close false)))
      case first =>
        by_cases hn : nn = 0
        · subst hn
          rcases u8_is s[p] 93 93 rfl with ⟨b1, n1⟩ | ⟨b1, n1⟩
          · have B1 := Lib.hid b1
            clear b1
            go_wp2
            go_meet
            exact ⟨⟨HB.out, HC.out⟩, true, rfl, ⟨fun _ => ⟨rfl, B1.out⟩, fun _ => rfl⟩⟩
          · have B1 := Lib.hid b1
            clear b1
            go_wp2
            go_meet
            exact ⟨⟨HB.out, HC.out⟩, false, rfl, ⟨fun h => by simp at h, fun h => absurd h.2 B1.out⟩⟩
        · have n0 : ((nn : Int) == 0) = false := by rw [beq_eq_false_iff_ne]; omega
          have n0' : (nn == 0) = false := by rw [beq_eq_false_iff_ne]; exact hn
          have N0 := Lib.hid n0'
          clear n0'
          go_wp2
          go_meet
          exact ⟨⟨HB.out, HC.out⟩, false, rfl, ⟨fun h => by simp at h, fun h => by rw [N0.out] at h; simp at h⟩⟩
      case rest =>
      obtain ⟨⟨hb, hc⟩, pt, rfl, hpt⟩ := hcut
      clear c0 c1 hf
      obtain ⟨c0, c1, hf⟩ := blk_agg hb
      have HB := Lib.hid hb
      have HC := Lib.hid hc
      clear hb hc
      cases pt
      rotate_left
      · have HF : Hid (R = said (p + 1) (0, 4)) := by
          show _ = _
          rw [HL.out, if_pos (hpt.out.1 rfl)]
        go_wp2
        refine post_said (b := w.heap.size) (((HB.out.set 0 _).set 1 _)) rfl rfl rfl ⟨?_, ?_⟩
        · rw [HF.out]; rfl
        · (repeat (first | exact HC.out | refine Change.drewN ?_ _ | refine Change.drew ?_ | refine Change.alloc ?_ _ | refine Change.setCell ?_ (.inr (by first | (simp; done) | (simp; omega) | omega)) _))

      have HL2 : Hid (R = said p (if (named false (s[p] :: s.data.toList.drop (p + 1))).2 ≠ 4 then named false (s[p] :: s.data.toList.drop (p + 1)) else add (named false (s[p] :: s.data.toList.drop (p + 1))).1 (elem (value d) false (list (value d) false g false) ((s[p] :: s.data.toList.drop (p + 1)).drop (named false (s[p] :: s.data.toList.drop (p + 1))).1)))) := by
        show _ = _
        rw [HL.out, if_neg (fun h => by have := hpt.out.2 h; simp at this)]
      have HE : Hid (R = said p (elem (value d) false (list (value d) false g false) (s.data.toList.drop p))) := by
        show _ = _
        rw [HL2.out, hd.out]; rfl
      go_wp2_with fail
      refine (valI HV.out s (p) _ _ hs (by omega) (by omega)).mono ?_
      rintro e w2 ⟨rfl, hc2⟩
      have hc3 := (HC.out).trans hc2 (fun i h => h.elim)
      have hb3 := (HB.out).of_change hc2 (fun h => h)
      clear c0 c1 hf
      obtain ⟨c0, c1, hf⟩ := blk_agg hb3
      have HB3 := Lib.hid hb3
      have HC3 := Lib.hid hc3
      have hlt2 := hb3.lt
      clear hb3 hc3 hc2
      obtain ⟨rn, rs, hsd, hrn, hrs⟩ := said_open (p) (value d (s.data.toList.drop (p)))
      have hvl := value_le d (s.data.toList.drop (p))
      simp only [List.length_drop, Array.length_toList] at hvl
      have hsz : s.data.size = s.size := rfl
      rw [hsz] at hvl
      have HE2 : Hid (R = said (p) (elem (value d) false (list (value d) false g false) (s.data.toList.drop (p)))) := HE
      rw [hsd]
      by_cases h4 : (value d (s.data.toList.drop (p))).2 = 4
      · obtain ⟨q, hq⟩ : ∃ q, q = (p) + (value d (s.data.toList.drop (p))).1 := ⟨_, rfl⟩
        have hqs : q ≤ s.size := by have := hvl h4; omega
        have HQ : Hid (R = said q (behindElem false (list (value d) false g false) (s.data.toList.drop q))) := by
          show _ = _
          rw [HE2.out, elem, if_neg (by simp [h4]), said_add, List.drop_drop, ← hq]
        have e4 : rs = -1 := by rw [hrs, h4]; rfl
        have eq : rn = q := by rw [hrn, hq]
        have hqat : (p) ≤ q := by omega
        subst e4 eq
        clear hsd hrs hrn hq h4 hvl hsz
        go_wp2_with fail
        refine (skipI s q _ _ hs hqs (by first | rfl | omega)).mono ?_
        rintro e w3 ⟨⟨t, rfl, hts, hT⟩, rfl⟩
        have htq : q ≤ t := by have := hT.out; omega
        have HBH := Lib.hid (behind_at false (list (value d) false g false) s q t hT.out)
        by_cases hlt3 : t < s.size
        · have hd3 := Lib.hid (drop_cons hlt3)
          have e5 : ((t : Int) == s.size) = false := by rw [beq_eq_false_iff_ne]; omega
          rcases u8_is s[t] 93 93 rfl with ⟨b1, n1⟩ | ⟨b1, n1⟩
          · have B1 := Lib.hid b1
            clear b1
            have HF : Hid (R = said (t + 1) (0, 4)) := by
              show _ = _
              rw [HQ.out, HBH.out, hd3.out]; simp only; rw [if_pos (by rw [B1.out]; rfl)]
            go_wp2
            refine post_said (b := w.heap.size) (((HB3.out.set 0 _).set 1 _).alloc _) rfl rfl rfl ⟨?_, ?_⟩
            · rw [HF.out]; rfl
            · (repeat (first | exact HC3.out | refine Change.drewN ?_ _ | refine Change.drew ?_ | refine Change.alloc ?_ _ | refine Change.setCell ?_ (.inr (by first | (simp; done) | (simp; omega) | omega)) _))

          · have B1 := Lib.hid b1
            clear b1
            rcases u8_is s[t] 44 44 rfl with ⟨b2, n2⟩ | ⟨b2, n2⟩
            · have n2' : ((s[t].toNat : Int) != 44) = false := by simp only [bne, n2]; rfl
              have B2 := Lib.hid b2
              clear b2 n2
              have HF : Hid (R = said (t + 1) (list (value d) false g false (s.data.toList.drop (t + 1)))) := by
                show _ = _
                rw [HQ.out, HBH.out, hd3.out]; simp only; rw [if_neg (show ¬ s[t] = close false from B1.out), if_neg (by simp [B2.out])]
              go_wp2
              refine ⟨⟨t + 1, nn + 1, g, by omega, by omega, by go_num, by go_num, by omega, ?_, ?_, ?_⟩, by simp [intOf]; omega⟩
              · show _ = _
                rw [HF.out]; rfl
              · repeat (first | exact HB3.out | refine Blk.alloc ?_ _)
              · (repeat (first | exact HC3.out | refine Change.drewN ?_ _ | refine Change.drew ?_ | refine Change.alloc ?_ _ | refine Change.setCell ?_ (.inr (by first | (simp; done) | (simp; omega) | omega)) _))
            · have n2' : ((s[t].toNat : Int) != 44) = true := by simp only [bne, n2]; rfl
              have B2 := Lib.hid b2
              clear b2 n2
              have HF : Hid (R = said t (0, 0)) := by
                show _ = _
                rw [HQ.out, HBH.out, hd3.out]; simp only; rw [if_neg (show ¬ s[t] = close false from B1.out), if_pos B2.out]
              go_wp2
              refine post_said (b := w.heap.size) (((HB3.out.set 0 _).set 1 _).alloc _) rfl rfl rfl ⟨?_, ?_⟩
              · rw [HF.out]; rfl
              · (repeat (first | exact HC3.out | refine Change.drewN ?_ _ | refine Change.drew ?_ | refine Change.alloc ?_ _ | refine Change.setCell ?_ (.inr (by first | (simp; done) | (simp; omega) | omega)) _))

        · have hd3 := Lib.hid (drop_end hlt3)
          have e5 : ((t : Int) == s.size) = true := by rw [beq_iff_eq]; omega
          have HF : Hid (R = said t (0, 1)) := by
            show _ = _
            rw [HQ.out, HBH.out, hd3.out]
          go_wp2
          refine post_said (b := w.heap.size) (((HB3.out.set 0 _).set 1 _).alloc _) rfl rfl rfl ⟨?_, ?_⟩
          · rw [HF.out]; rfl
          · (repeat (first | exact HC3.out | refine Change.drewN ?_ _ | refine Change.drew ?_ | refine Change.alloc ?_ _ | refine Change.setCell ?_ (.inr (by first | (simp; done) | (simp; omega) | omega)) _))

      · have HQ : Hid (R = .agg #[.int .i64 rn, .int .i64 rs]) := by
          show _ = _
          rw [HE2.out, elem, if_pos h4, hsd]
        have e4 : (rs != -1) = true := by rw [bne_iff_ne, hrs]; exact fun h => h4 ((stv_four _).1 h)
        clear hsd hrs hrn h4 hvl hsz
        go_wp2
        refine post_said (b := w.heap.size) (((HB3.out.set 0 _).set 1 _).alloc _) rfl rfl rfl ⟨?_, ?_⟩
        · rw [HQ.out]
        · (repeat (first | exact HC3.out | refine Change.drewN ?_ _ | refine Change.drew ?_ | refine Change.alloc ?_ _ | refine Change.setCell ?_ (.inr (by first | (simp; done) | (simp; omega) | omega)) _))

    · have hd := Lib.hid (drop_end hlt)
      have e0 : ((p : Int) == s.size) = true := by rw [beq_iff_eq]; omega
      have HF : Hid (R = said p (0, 1)) := by
        show _ = _
        rw [← hF.out, list_eq, List.drop_drop, ← hP.out, hd.out]; simp only [said]; rw [hP.out]; rfl
      go_wp2
      refine post_said (b := w.heap.size) (((HB.out.set 0 _).set 1 _)) rfl rfl rfl ⟨?_, ?_⟩
      · rw [HF.out]; rfl
      · (repeat (first | exact HC.out | refine Change.drewN ?_ _ | refine Change.drew ?_ | refine Change.alloc ?_ _ | refine Change.setCell ?_ (.inr (by first | (simp; done) | (simp; omega) | omega)) _))


end Go.Proofs.YtgnefbngkhjfcaaGreatDoor
/-
  The reference for JSON: objects.
-/
set_option linter.unusedSimpArgs false
set_option linter.unusedVariables false
namespace Go.Proofs.YtgnefbngkhjfcaaGreatDoor
open Go.RowKit Go.Tg Tg.Json


set_option maxHeartbeats 16000000 in
set_option maxRecDepth 100000 in
theorem list_obj (d : Nat) (hd1000 : d ≤ 1000) (hv : ValC d) (s : ByteArray) (a : Nat) (w : World) (hs : s.size ≤ 1048576) (ha : a ≤ s.size) :
  Calls Tryz.prog 62 #[.string s, .int .i64 a, .int .i64 d, .bool true] w fun e w' => e = .returned (said a (list (value d) true ((s.data.toList.drop a).length + 1) true (s.data.toList.drop a))) ∧ Change (fun _ => False) w w' := by
  obtain ⟨R, hR⟩ : ∃ R, R = said a (list (value d) true ((s.data.toList.drop a).length + 1) true (s.data.toList.drop a)) := ⟨_, rfl⟩
  rw [← hR]
  have HR := Lib.hid hR
  have HV := Lib.hid hv
  clear hR hv
  go_enter Tryz.func62, Tryz.ntmps62
  go_wp2
  go_loopw [1, 10] (fun i n wr => ∃ k nn f : Nat, k ≤ s.size ∧ nn ≤ k ∧ i = .int .i64 k ∧ n = .int .i64 nn ∧ s.size - k < f ∧ Hid (said k (list (value d) true f (nn == 0) (s.data.toList.drop k)) = R) ∧ Blk wr w.heap.size 61 #[.int .i64 0, .int .i64 0] ∧ Change (fun _ => False) w wr) (fun i _ _ => s.size - (intOf i).toNat)
  case atStart =>
    refine ⟨a, 0, _, ha, Nat.zero_le _, rfl, rfl, ?_, HR.out.symm, Blk.new _ _ _, (Change.refl _ w).alloc _⟩
    have hsz : s.data.size = s.size := rfl
    simp only [List.length_drop, Array.length_toList]; omega
  case round =>
    obtain ⟨k, nn, f, hk, hnk, rfl, rfl, hfl, hF, hb, hc⟩ := hrel
    obtain ⟨g, rfl⟩ : ∃ g, f = g + 1 := ⟨f - 1, by omega⟩
    obtain ⟨c0, c1, hf⟩ := blk_agg hb
    have HB := Lib.hid hb
    have HC := Lib.hid hc
    clear hb hc
    go_wp2_with fail
    refine (skipI s k _ _ hs hk rfl).mono ?_
    rintro e w1 ⟨⟨p, rfl, hps, hP⟩, rfl⟩
    have hkp : k ≤ p := by have := hP.out; omega
    by_cases hlt : p < s.size
    · have hd := Lib.hid (drop_cons hlt)
      have e0 : ((p : Int) == s.size) = false := by rw [beq_eq_false_iff_ne]; omega
      have HL : Hid (R = if (nn == 0) = true ∧ s[p] = close true then said (p + 1) (0, 4) else said p (if (named true (s[p] :: s.data.toList.drop (p + 1))).2 ≠ 4 then named true (s[p] :: s.data.toList.drop (p + 1)) else add (named true (s[p] :: s.data.toList.drop (p + 1))).1 (elem (value d) true (list (value d) true g false) ((s[p] :: s.data.toList.drop (p + 1)).drop (named true (s[p] :: s.data.toList.drop (p + 1))).1)))) := by
        show _ = _
        rw [← hF.out, list_eq, List.drop_drop, ← hP.out, hd.out]; simp only
        split
        · simp only [said]; rw [hP.out]; rfl
        · rw [said_add, ← hP.out]
      go_upto_region 9 with (fail)
      go_cut [33] from 14 to 103 (fun v wx => (Blk wx w.heap.size 61 #[.int .i64 0, .int .i64 0] ∧ Change (fun _ => False) w wx) ∧ ∃ pt : Bool, v = .bool pt ∧ Hid (pt = true ↔ ((nn == 0) = true ∧ s[p] = close true)))
      case first =>
        by_cases hn : nn = 0
        · subst hn
          rcases u8_is s[p] 125 125 rfl with ⟨b1, n1⟩ | ⟨b1, n1⟩
          · have B1 := Lib.hid b1
            clear b1
            go_wp2
            go_meet
            exact ⟨⟨HB.out, HC.out⟩, true, rfl, ⟨fun _ => ⟨rfl, B1.out⟩, fun _ => rfl⟩⟩
          · have B1 := Lib.hid b1
            clear b1
            go_wp2
            go_meet
            exact ⟨⟨HB.out, HC.out⟩, false, rfl, ⟨fun h => by simp at h, fun h => absurd h.2 B1.out⟩⟩
        · have n0 : ((nn : Int) == 0) = false := by rw [beq_eq_false_iff_ne]; omega
          have n0' : (nn == 0) = false := by rw [beq_eq_false_iff_ne]; exact hn
          have N0 := Lib.hid n0'
          clear n0'
          go_wp2
          go_meet
          exact ⟨⟨HB.out, HC.out⟩, false, rfl, ⟨fun h => by simp at h, fun h => by rw [N0.out] at h; simp at h⟩⟩
      case rest =>
      obtain ⟨⟨hb, hc⟩, pt, rfl, hpt⟩ := hcut
      clear c0 c1 hf
      obtain ⟨c0, c1, hf⟩ := blk_agg hb
      have HB := Lib.hid hb
      have HC := Lib.hid hc
      clear hb hc
      cases pt
      rotate_left
      · have HF : Hid (R = said (p + 1) (0, 4)) := by
          show _ = _
          rw [HL.out, if_pos (hpt.out.1 rfl)]
        go_wp2
        refine post_said (b := w.heap.size) (((HB.out.set 0 _).set 1 _)) rfl rfl rfl ⟨?_, ?_⟩
        · rw [HF.out]; rfl
        · (repeat (first | exact HC.out | refine Change.drewN ?_ _ | refine Change.drew ?_ | refine Change.alloc ?_ _ | refine Change.setCell ?_ (.inr (by first | (simp; done) | (simp; omega) | omega)) _))

      have HL2 : Hid (R = said p (if (named true (s[p] :: s.data.toList.drop (p + 1))).2 ≠ 4 then named true (s[p] :: s.data.toList.drop (p + 1)) else add (named true (s[p] :: s.data.toList.drop (p + 1))).1 (elem (value d) true (list (value d) true g false) ((s[p] :: s.data.toList.drop (p + 1)).drop (named true (s[p] :: s.data.toList.drop (p + 1))).1)))) := by
        show _ = _
        rw [HL.out, if_neg (fun h => by have := hpt.out.2 h; simp at this)]
      rcases u8_is s[p] 34 34 rfl with ⟨b3, n3⟩ | ⟨b3, n3⟩
      rotate_left
      · have n3' : ((s[p].toNat : Int) != 34) = true := by simp only [bne, n3]; rfl
        have HF : Hid (R = said p (0, 0)) := by
          show _ = _
          rw [HL2.out]; unfold named; simp only; rw [if_pos b3, if_pos (by decide)]
        clear b3 n3
        go_wp2
        refine post_said (b := w.heap.size) (((HB.out.set 0 _).set 1 _)) rfl rfl rfl ⟨?_, ?_⟩
        · rw [HF.out]; rfl
        · (repeat (first | exact HC.out | refine Change.drewN ?_ _ | refine Change.drew ?_ | refine Change.alloc ?_ _ | refine Change.setCell ?_ (.inr (by first | (simp; done) | (simp; omega) | omega)) _))

      have n3' : ((s[p].toNat : Int) != 34) = false := by simp only [bne, n3]; rfl
      have B3 := Lib.hid b3
      clear b3 n3
      go_wp2_with fail
      refine (quoteI s (p + 1) _ _ hs (by omega) (by omega)).mono ?_
      rintro e w2 ⟨rfl, hc2⟩
      have hc3 := HC.out.trans hc2 (fun i h => h.elim)
      have hb3 := HB.out.of_change hc2 (fun h => h)
      clear c0 c1 hf HB HC
      obtain ⟨c0, c1, hf⟩ := blk_agg hb3
      have HB := Lib.hid hb3
      have HC := Lib.hid hc3
      have hltq := hb3.lt
      clear hb3 hc3 hc2
      obtain ⟨rn0, rs0, hsd0, hrn0, hrs0⟩ := said_open (p + 1) (quote 0 (s.data.toList.drop (p + 1)))
      have hql := quote_le (s.data.toList.drop (p + 1))
      simp only [List.length_drop, Array.length_toList] at hql
      have hsz0 : s.data.size = s.size := rfl
      rw [hsz0] at hql
      rw [hsd0]
      by_cases h40 : (quote 0 (s.data.toList.drop (p + 1))).2 = 4
      rotate_left
      · have HF : Hid (R = .agg #[.int .i64 rn0, .int .i64 rs0]) := by
          show _ = _
          have hnm : named true (s[p] :: s.data.toList.drop (p + 1)) = add 1 (quote 0 (s.data.toList.drop (p + 1))) := by
            unfold named; simp only; rw [if_neg (by simp [B3.out]), if_pos h40]
          rw [HL2.out, hnm, if_pos (by simpa [add] using h40), said_add, hsd0]
        have e40 : (rs0 != -1) = true := by rw [bne_iff_ne, hrs0]; exact fun h => h40 ((stv_four _).1 h)
        clear hsd0 hrs0 hrn0 h40 hql hsz0
        go_wp2
        refine post_said (b := w.heap.size) (((HB.out.set 0 _).set 1 _).alloc _) rfl rfl rfl ⟨?_, ?_⟩
        · rw [HF.out]
        · (repeat (first | exact HC.out | refine Change.drewN ?_ _ | refine Change.drew ?_ | refine Change.alloc ?_ _ | refine Change.setCell ?_ (.inr (by first | (simp; done) | (simp; omega) | omega)) _))

      obtain ⟨q0, hq0⟩ : ∃ q0, q0 = p + 1 + (quote 0 (s.data.toList.drop (p + 1))).1 := ⟨_, rfl⟩
      have hq0s : q0 ≤ s.size := by have := hql h40; omega
      have hpq : p + 1 ≤ q0 := by omega
      have e40 : rs0 = -1 := by rw [hrs0, h40]; rfl
      have eq0 : rn0 = q0 := by rw [hrn0, hq0]
      have HNM : Hid (named true (s[p] :: s.data.toList.drop (p + 1)) = (match s.data.toList.drop (q0 + skip (s.data.toList.drop q0)) with
          | [] => (q0 + skip (s.data.toList.drop q0) - p, 1)
          | c :: _ => if c ≠ 58 then (q0 + skip (s.data.toList.drop q0) - p, 0) else (q0 + skip (s.data.toList.drop q0) + 1 - p, 4))) := by
        show _ = _
        unfold named; simp only; rw [if_neg (by simp [B3.out]), if_neg (by simp [h40])]
        have e1 : (s.data.toList.drop (p + 1)).drop (quote 0 (s.data.toList.drop (p + 1))).1 = s.data.toList.drop q0 := by rw [List.drop_drop, ← hq0]
        have e2 : ∀ n, 1 + (quote 0 (s.data.toList.drop (p + 1))).1 + n = q0 + n - p := by intro n; omega
        have e3 : ∀ n, q0 + n - p + 1 = q0 + n + 1 - p := by intro n; omega
        rw [e1, List.drop_drop, e2, e3]
        all_goals (generalize s.data.toList.drop (q0 + skip (s.data.toList.drop q0)) = mm; cases mm <;> rfl)
      subst e40 eq0
      clear hsd0 hrs0 hrn0 hq0 h40 hql hsz0
      go_wp2_with fail
      refine (skipI s q0 _ _ hs hq0s (by first | rfl | omega)).mono ?_
      rintro e w3 ⟨⟨t0, rfl, ht0s, hT0⟩, rfl⟩
      have htq0 : q0 ≤ t0 := by have := hT0.out; omega
      by_cases hltt : t0 < s.size
      rotate_left
      · have hd3 := Lib.hid (drop_end hltt)
        have e5 : ((t0 : Int) == s.size) = true := by rw [beq_iff_eq]; omega
        have HF : Hid (R = said t0 (0, 1)) := by
          show _ = _
          have hnm : named true (s[p] :: s.data.toList.drop (p + 1)) = (t0 - p, 1) := by rw [HNM.out, ← hT0.out, hd3.out]
          rw [HL2.out, hnm, if_pos (by simp)]; simp only [said]; rw [show p + (t0 - p) = t0 + 0 from by omega]
        go_wp2
        refine post_said (b := w.heap.size) (((HB.out.set 0 _).set 1 _).alloc _) rfl rfl rfl ⟨?_, ?_⟩
        · rw [HF.out]; rfl
        · (repeat (first | exact HC.out | refine Change.drewN ?_ _ | refine Change.drew ?_ | refine Change.alloc ?_ _ | refine Change.setCell ?_ (.inr (by first | (simp; done) | (simp; omega) | omega)) _))

      have hd3 := Lib.hid (drop_cons hltt)
      have e5 : ((t0 : Int) == s.size) = false := by rw [beq_eq_false_iff_ne]; omega
      rcases u8_is s[t0] 58 58 rfl with ⟨b5, n5⟩ | ⟨b5, n5⟩
      rotate_left
      · have n5' : ((s[t0].toNat : Int) != 58) = true := by simp only [bne, n5]; rfl
        have HF : Hid (R = said t0 (0, 0)) := by
          show _ = _
          have hnm : named true (s[p] :: s.data.toList.drop (p + 1)) = (t0 - p, 0) := by rw [HNM.out, ← hT0.out, hd3.out]; simp only; rw [if_pos b5]
          rw [HL2.out, hnm, if_pos (by simp)]; simp only [said]; rw [show p + (t0 - p) = t0 + 0 from by omega]
        clear b5 n5
        go_wp2
        refine post_said (b := w.heap.size) (((HB.out.set 0 _).set 1 _).alloc _) rfl rfl rfl ⟨?_, ?_⟩
        · rw [HF.out]; rfl
        · (repeat (first | exact HC.out | refine Change.drewN ?_ _ | refine Change.drew ?_ | refine Change.alloc ?_ _ | refine Change.setCell ?_ (.inr (by first | (simp; done) | (simp; omega) | omega)) _))

      have n5' : ((s[t0].toNat : Int) != 58) = false := by simp only [bne, n5]; rfl
      have HE : Hid (R = said (t0 + 1) (elem (value d) true (list (value d) true g false) (s.data.toList.drop (t0 + 1)))) := by
        show _ = _
        have hnm : named true (s[p] :: s.data.toList.drop (p + 1)) = (t0 + 1 - p, 4) := by rw [HNM.out, ← hT0.out, hd3.out]; simp only; rw [if_neg (by simp [b5])]
        rw [HL2.out, hnm, if_neg (by simp), said_add, ← hd.out, List.drop_drop, show p + (t0 + 1 - p) = t0 + 1 from by omega]
      clear b5 n5
      go_wp2_with fail
      refine (valI HV.out s (t0 + 1) _ _ hs (by omega) (by omega)).mono ?_
      rintro e w2 ⟨rfl, hc2⟩
      have hc3 := (HC.out.alloc _).trans hc2 (fun i h => h.elim)
      have hb3 := (HB.out.alloc _).of_change hc2 (fun h => h)
      clear c0 c1 hf
      obtain ⟨c0, c1, hf⟩ := blk_agg hb3
      have HB3 := Lib.hid hb3
      have HC3 := Lib.hid hc3
      have hlt2 := hb3.lt
      clear hb3 hc3 hc2
      obtain ⟨rn, rs, hsd, hrn, hrs⟩ := said_open (t0 + 1) (value d (s.data.toList.drop (t0 + 1)))
      have hvl := value_le d (s.data.toList.drop (t0 + 1))
      simp only [List.length_drop, Array.length_toList] at hvl
      have hsz : s.data.size = s.size := rfl
      rw [hsz] at hvl
      have HE2 : Hid (R = said (t0 + 1) (elem (value d) true (list (value d) true g false) (s.data.toList.drop (t0 + 1)))) := HE
      rw [hsd]
      by_cases h4 : (value d (s.data.toList.drop (t0 + 1))).2 = 4
      · obtain ⟨q, hq⟩ : ∃ q, q = (t0 + 1) + (value d (s.data.toList.drop (t0 + 1))).1 := ⟨_, rfl⟩
        have hqs : q ≤ s.size := by have := hvl h4; omega
        have HQ : Hid (R = said q (behindElem true (list (value d) true g false) (s.data.toList.drop q))) := by
          show _ = _
          rw [HE2.out, elem, if_neg (by simp [h4]), said_add, List.drop_drop, ← hq]
        have e4 : rs = -1 := by rw [hrs, h4]; rfl
        have eq : rn = q := by rw [hrn, hq]
        have hqat : (t0 + 1) ≤ q := by omega
        subst e4 eq
        clear hsd hrs hrn hq h4 hvl hsz
        go_wp2_with fail
        refine (skipI s q _ _ hs hqs (by first | rfl | omega)).mono ?_
        rintro e w3 ⟨⟨t, rfl, hts, hT⟩, rfl⟩
        have htq : q ≤ t := by have := hT.out; omega
        have HBH := Lib.hid (behind_at true (list (value d) true g false) s q t hT.out)
        by_cases hlt3 : t < s.size
        · have hd3 := Lib.hid (drop_cons hlt3)
          have e5 : ((t : Int) == s.size) = false := by rw [beq_eq_false_iff_ne]; omega
          rcases u8_is s[t] 125 125 rfl with ⟨b1, n1⟩ | ⟨b1, n1⟩
          · have B1 := Lib.hid b1
            clear b1
            have HF : Hid (R = said (t + 1) (0, 4)) := by
              show _ = _
              rw [HQ.out, HBH.out, hd3.out]; simp only; rw [if_pos (by rw [B1.out]; rfl)]
            go_wp2
            refine post_said (b := w.heap.size) (((HB3.out.set 0 _).set 1 _).alloc _) rfl rfl rfl ⟨?_, ?_⟩
            · rw [HF.out]; rfl
            · (repeat (first | exact HC3.out | refine Change.drewN ?_ _ | refine Change.drew ?_ | refine Change.alloc ?_ _ | refine Change.setCell ?_ (.inr (by first | (simp; done) | (simp; omega) | omega)) _))

          · have B1 := Lib.hid b1
            clear b1
            rcases u8_is s[t] 44 44 rfl with ⟨b2, n2⟩ | ⟨b2, n2⟩
            · have n2' : ((s[t].toNat : Int) != 44) = false := by simp only [bne, n2]; rfl
              have B2 := Lib.hid b2
              clear b2 n2
              have HF : Hid (R = said (t + 1) (list (value d) true g false (s.data.toList.drop (t + 1)))) := by
                show _ = _
                rw [HQ.out, HBH.out, hd3.out]; simp only; rw [if_neg (show ¬ s[t] = close true from B1.out), if_neg (by simp [B2.out])]
              go_wp2
              refine ⟨⟨t + 1, nn + 1, g, by omega, by omega, by go_num, by go_num, by omega, ?_, ?_, ?_⟩, by simp [intOf]; omega⟩
              · show _ = _
                rw [HF.out]; rfl
              · repeat (first | exact HB3.out | refine Blk.alloc ?_ _)
              · (repeat (first | exact HC3.out | refine Change.drewN ?_ _ | refine Change.drew ?_ | refine Change.alloc ?_ _ | refine Change.setCell ?_ (.inr (by first | (simp; done) | (simp; omega) | omega)) _))
            · have n2' : ((s[t].toNat : Int) != 44) = true := by simp only [bne, n2]; rfl
              have B2 := Lib.hid b2
              clear b2 n2
              have HF : Hid (R = said t (0, 0)) := by
                show _ = _
                rw [HQ.out, HBH.out, hd3.out]; simp only; rw [if_neg (show ¬ s[t] = close true from B1.out), if_pos B2.out]
              go_wp2
              refine post_said (b := w.heap.size) (((HB3.out.set 0 _).set 1 _).alloc _) rfl rfl rfl ⟨?_, ?_⟩
              · rw [HF.out]; rfl
              · (repeat (first | exact HC3.out | refine Change.drewN ?_ _ | refine Change.drew ?_ | refine Change.alloc ?_ _ | refine Change.setCell ?_ (.inr (by first | (simp; done) | (simp; omega) | omega)) _))

        · have hd3 := Lib.hid (drop_end hlt3)
          have e5 : ((t : Int) == s.size) = true := by rw [beq_iff_eq]; omega
          have HF : Hid (R = said t (0, 1)) := by
            show _ = _
            rw [HQ.out, HBH.out, hd3.out]
          go_wp2
          refine post_said (b := w.heap.size) (((HB3.out.set 0 _).set 1 _).alloc _) rfl rfl rfl ⟨?_, ?_⟩
          · rw [HF.out]; rfl
          · (repeat (first | exact HC3.out | refine Change.drewN ?_ _ | refine Change.drew ?_ | refine Change.alloc ?_ _ | refine Change.setCell ?_ (.inr (by first | (simp; done) | (simp; omega) | omega)) _))

      · have HQ : Hid (R = .agg #[.int .i64 rn, .int .i64 rs]) := by
          show _ = _
          rw [HE2.out, elem, if_pos h4, hsd]
        have e4 : (rs != -1) = true := by rw [bne_iff_ne, hrs]; exact fun h => h4 ((stv_four _).1 h)
        clear hsd hrs hrn h4 hvl hsz
        go_wp2
        refine post_said (b := w.heap.size) (((HB3.out.set 0 _).set 1 _).alloc _) rfl rfl rfl ⟨?_, ?_⟩
        · rw [HQ.out]
        · (repeat (first | exact HC3.out | refine Change.drewN ?_ _ | refine Change.drew ?_ | refine Change.alloc ?_ _ | refine Change.setCell ?_ (.inr (by first | (simp; done) | (simp; omega) | omega)) _))

    · have hd := Lib.hid (drop_end hlt)
      have e0 : ((p : Int) == s.size) = true := by rw [beq_iff_eq]; omega
      have HF : Hid (R = said p (0, 1)) := by
        show _ = _
        rw [← hF.out, list_eq, List.drop_drop, ← hP.out, hd.out]; simp only [said]; rw [hP.out]; rfl
      go_wp2
      refine post_said (b := w.heap.size) (((HB.out.set 0 _).set 1 _)) rfl rfl rfl ⟨?_, ?_⟩
      · rw [HF.out]; rfl
      · (repeat (first | exact HC.out | refine Change.drewN ?_ _ | refine Change.drew ?_ | refine Change.alloc ?_ _ | refine Change.setCell ?_ (.inr (by first | (simp; done) | (simp; omega) | omega)) _))


end Go.Proofs.YtgnefbngkhjfcaaGreatDoor
/-
  The reference for JSON: all of it.
-/
set_option linter.unusedSimpArgs false
set_option linter.unusedVariables false
namespace Go.Proofs.YtgnefbngkhjfcaaGreatDoor
open Go.RowKit Go.Tg Tg.Json

theorem listC_of (d : Nat) (hd : d ≤ 1000) (h : ValC d) : ListC d := by
  intro s a o w hs ha
  cases o
  · exact list_arr d hd h s a w hs ha
  · exact list_obj d hd h s a w hs ha
theorem valC_all (d : Nat) (hd : d ≤ 1000) : ValC d := by
  induction d with
  | zero => exact value_zero
  | succ d ih => exact value_succ d (by omega) (listC_of d (by omega) (ih (by omega)))

def wholeN (l : List UInt8) (d : Nat) : Int := (whole l d).1
def wholeP (l : List UInt8) (d : Nat) : Int := (whole l d).2
theorem ret_two {a b c d : Int} (h1 : a = c) (h2 : b = d) : Ending.returned (.tuple #[.int .i64 a, .int .i64 b]) = .returned (.tuple #[.int .i64 c, .int .i64 d]) := by rw [h1, h2]
set_option maxHeartbeats 2000000 in
theorem rwhole_any (s : ByteArray) (d : Nat) (w : World) (hs : s.size ≤ 1048576) (hd : d ≤ 200) :
    Calls Tryz.prog 26 #[.string s, .int .i64 d] w fun e w' => e = .returned (.tuple #[.int .i64 (wholeN s.data.toList d), .int .i64 (wholeP s.data.toList d)]) ∧ Change (fun _ => False) w w' := by
  have HV := Lib.hid (valC_all d (by omega))
  have hvl := value_le d s.data.toList
  have hsz : s.data.size = s.size := rfl
  simp only [Array.length_toList, hsz] at hvl
  obtain ⟨x, hx⟩ : ∃ x, x = value d s.data.toList := ⟨_, rfl⟩
  have hN : Hid (wholeN s.data.toList d = (if x.2 = 1 then (1, -1) else if x.2 ≠ 4 then (x.2, (x.1 : Int)) else if x.1 + skip (s.data.toList.drop x.1) < s.size then (0, ((x.1 + skip (s.data.toList.drop x.1) : Nat) : Int)) else (2, -1) : Nat × Int).1) := by
    show _ = _
    rw [hx]; unfold wholeN whole; simp only [Array.length_toList, hsz]
  have hP : Hid (wholeP s.data.toList d = (if x.2 = 1 then (1, -1) else if x.2 ≠ 4 then (x.2, (x.1 : Int)) else if x.1 + skip (s.data.toList.drop x.1) < s.size then (0, ((x.1 + skip (s.data.toList.drop x.1) : Nat) : Int)) else (2, -1) : Nat × Int).2) := by
    show _ = _
    rw [hx]; unfold wholeP whole; simp only [Array.length_toList, hsz]
  rw [← hx] at hvl
  have HX := Lib.hid hx
  clear hx hsz
  go_enter Tryz.func26, Tryz.ntmps26
  go_wp2_with fail
  refine (valI HV.out s 0 _ _ hs (by omega) rfl).mono ?_
  rintro e w1 ⟨rfl, hc⟩
  obtain ⟨rn, rs, hsd, hrn, hrs⟩ := said_open 0 (value d (s.data.toList.drop 0))
  rw [hsd]
  rw [List.drop_zero, ← HX.out] at hrn hrs
  have hrn' : rn = x.1 := by omega
  clear hsd hrn
  have HC := Lib.hid hc
  clear hc
  subst hrn'
  by_cases h1 : x.2 = 1
  · have e1 : rs = 1 := by rw [hrs, h1]; rfl
    subst e1
    have H1 := Lib.hid h1
    clear hrs h1 hvl
    go_wp2
    go_ret2
    refine ⟨ret_two ?_ ?_, ?_⟩
    · rw [hN.out, if_pos H1.out]; rfl
    · rw [hP.out, if_pos H1.out]
    · repeat (first | exact HC.out | refine Change.drewN ?_ _ | refine Change.alloc ?_ _ | refine Change.setCell ?_ (.inr (by first | (simp; done) | (simp; omega) | omega)) _)
  by_cases h4 : x.2 = 4
  · have e1 : rs = -1 := by rw [hrs, h4]; rfl
    subst e1
    have hle := hvl h4
    have H4 := Lib.hid h4
    clear hrs h1 h4 hvl
    go_wp2_with fail
    refine (skipI s x.1 _ _ hs hle rfl).mono ?_
    rintro e w3 ⟨⟨t, rfl, hts, hT⟩, rfl⟩
    by_cases hlt : t < s.size
    · go_wp2
      go_ret2
      refine ⟨ret_two ?_ ?_, ?_⟩
      · rw [hN.out, if_neg (by rw [H4.out]; decide), if_neg (by simp [H4.out]), if_pos (by rw [← hT.out]; exact hlt)]; rfl
      · rw [hP.out, if_neg (by rw [H4.out]; decide), if_neg (by simp [H4.out]), if_pos (by rw [← hT.out]; exact hlt), ← hT.out]
      · repeat (first | exact HC.out | refine Change.drewN ?_ _ | refine Change.alloc ?_ _ | refine Change.setCell ?_ (.inr (by first | (simp; done) | (simp; omega) | omega)) _)
    · go_wp2
      go_ret2
      refine ⟨ret_two ?_ ?_, ?_⟩
      · rw [hN.out, if_neg (by rw [H4.out]; decide), if_neg (by simp [H4.out]), if_neg (by rw [← hT.out]; exact hlt)]; rfl
      · rw [hP.out, if_neg (by rw [H4.out]; decide), if_neg (by simp [H4.out]), if_neg (by rw [← hT.out]; exact hlt)]
      · repeat (first | exact HC.out | refine Change.drewN ?_ _ | refine Change.alloc ?_ _ | refine Change.setCell ?_ (.inr (by first | (simp; done) | (simp; omega) | omega)) _)
  · have e1 : (rs == 1) = false := by rw [beq_eq_false_iff_ne, hrs]; unfold stv; split <;> omega
    have e2 : (rs != -1) = true := by rw [bne_iff_ne, hrs]; exact fun h => h4 ((stv_four _).1 h)
    have hrs' : rs = x.2 := by rw [hrs]; unfold stv; rw [if_neg h4]
    have H1 := Lib.hid h1
    have H4 := Lib.hid h4
    have HRS := Lib.hid hrs'
    clear hrs h1 h4 hvl hrs'
    go_wp2
    go_quiet (fail)
    go_wp2
    go_ret2
    refine ⟨ret_two ?_ ?_, ?_⟩
    · rw [hN.out, if_neg H1.out, if_pos H4.out, HRS.out]
    · rw [hP.out, if_neg H1.out, if_pos H4.out]
    · repeat (first | exact HC.out | refine Change.drewN ?_ _ | refine Change.alloc ?_ _ | refine Change.setCell ?_ (.inr (by first | (simp; done) | (simp; omega) | omega)) _)
theorem rwholeI (s : ByteArray) (x : Int) (d : Nat) (w : World) (hx : x = d) (hs : s.size ≤ 1048576) (hd : d ≤ 200) :
    Calls Tryz.prog 26 #[.string s, .int .i64 x] w fun e w' => e = .returned (.tuple #[.int .i64 (wholeN s.data.toList d), .int .i64 (wholeP s.data.toList d)]) ∧ Change (fun _ => False) w w' := by
  subst hx; exact rwhole_any s d w hs hd
theorem rbegun_any (s : ByteArray) (w : World) (hs : s.size ≤ 1048576) :
    Calls Tryz.prog 27 #[.string s] w fun e w' => e = .returned (.bool (decide (skip s.data.toList < s.size))) ∧ w = w' := by
  obtain ⟨R, hR⟩ : ∃ R, R = decide (skip s.data.toList < s.size) := ⟨_, rfl⟩
  rw [← hR]
  have HR := Lib.hid hR
  clear hR
  go_enter Tryz.func27, Tryz.ntmps27
  go_wp2_with fail
  refine (skipI s 0 _ _ hs (by omega) rfl).mono ?_
  rintro e w3 ⟨⟨t, rfl, hts, hT⟩, rfl⟩
  go_wp2
  go_ret
  refine ⟨ret_bool ?_, rfl⟩
  have h := hT.out
  rw [List.drop_zero, Nat.zero_add] at h
  rw [HR.out, ← h]
  first | done | (rw [Bool.eq_iff_iff]; simp)
end Go.Proofs.YtgnefbngkhjfcaaGreatDoor
/-
  The library functions that layer 28 asks: strings.IndexByte, strings.Fields.
-/
set_option linter.unusedSimpArgs false
set_option linter.unusedVariables false
namespace Go.Proofs.YtgnefbngkhjfcaaGreatDoor
open Go.Lg Go.Tg Tg.Js

/-- the table of blanks lies in the package's variable -/
def Tab (H : LH) : Prop := 1 < H.ng ∧ Lib.TabIs Tryz.prog H.base "strings.asciiSpace" .u8 Lib.asciiSpaceTab
def specIndexByte : Lg.Spec := fun args H => match args with
  | [.string s, .int .u8 c] => some (.int .i64 (Lib.indexByte s.data.toList c.toNat.toUInt8), H)
  | _ => none
open Classical in
noncomputable def specFields : Lg.Spec := fun args H => match args with
  | [.string s] => if s.size < 4294967281 ∧ (∀ (j : Nat) b, s.data.toList[j]? = some b → b.toNat < 128) ∧ Tab H ∧ (Lib.fields s.data.toList).length ≤ maxLen then
      some (sl H.n (Lib.fields s.data.toList).length (Lib.fields s.data.toList).length, H.new ⟨(Lib.fields s.data.toList).map (fun l => .string ⟨l.toArray⟩), 9, true⟩)
    else none
  | _ => none
/-- the number of the machine's that the search in strings reads lies in its variable -/
def MaxL (H : LH) : Prop := 2 < H.ng ∧ ∃ m, H.base.cell? ⟨2, 0, none⟩ = some (.int .i64 m)
/-- the reference for JSON -/
def specWhole27 : Lg.Spec := fun args H => match args with
  | [.string s, .int .i64 d] => if s.size ≤ 1048576 ∧ 0 ≤ d ∧ d ≤ 200 then some (.tuple #[.int .i64 (Go.Proofs.YtgnefbngkhjfcaaGreatDoor.wholeN s.data.toList d.toNat), .int .i64 (Go.Proofs.YtgnefbngkhjfcaaGreatDoor.wholeP s.data.toList d.toNat)], H) else none
  | _ => none
def specBegun27 : Lg.Spec := fun args H => match args with
  | [.string s] => if s.size ≤ 1048576 then some (.bool (decide (Tg.Json.skip s.data.toList < s.size)), H) else none
  | _ => none
noncomputable def specsMore : List (FuncId × Lg.Spec) := [
  ] ++ [
  (26, specWhole27)
  ] ++ [
  (27, specBegun27)
  ]
noncomputable def EJ : Ext := extLL ([(98, specIndexByte), (121, specFields)] ++ specsMore) [35, 36]
@[simp] theorem EJ_ch {n id k : Nat} : EJ.loud.ch n id k = chT n id k := rfl
@[simp] theorem EJ_loud {g : FuncId} : EJ.loud g = (decide (g = 35) || decide (g = 36)) := by
  unfold EJ extLL
  simp only [List.contains_cons, List.contains_nil, Bool.or_false]
  rw [Bool.eq_iff_iff]; simp
theorem tab_at {P : Program} {H : LH} {ι : Ren} {w : World} (hrel : Rel P H ι w) (h : Tab H) : Lib.TabIs Tryz.prog w "strings.asciiSpace" .u8 Lib.asciiSpaceTab := by
  have h2 := h.2
  unfold Lib.TabIs World.var? at h2 ⊢
  rw [show Tryz.prog.globalNamed "strings.asciiSpace" = some 1 by kernel_rfl] at h2 ⊢
  simp only [Option.bind_some] at h2 ⊢
  rw [pin_block hrel h.1]
  exact h2
theorem more_ok : ∀ p ∈ specsMore, SpecOk Tryz.prog p.1 p.2 := by
  intro p hp
  rcases List.mem_append.1 hp with hp | hp
  rcases List.mem_append.1 hp with hp | hp
  · skip
    cases hp
  · skip
    rcases List.mem_cons.1 hp with rfl | hp
    · intro args H v H' h
      refine ⟨⟨_, Tryz.func26, rfl, by decide⟩, ?_⟩
      unfold specWhole27 at h
      dsimp only at h
      split at h
      · rename_i s d
        split at h
        · rename_i hc
          obtain ⟨h1, h2, h3⟩ := hc
          simp only [Option.some.injEq, Prod.mk.injEq] at h
          obtain ⟨rfl, rfl⟩ := h
          exact callOk_flatC (fun x hx => by
            rcases List.mem_cons.1 hx with rfl | hx
            · rfl
            · rcases List.mem_cons.1 hx with rfl | hx
              · rfl
              · cases hx) rfl (fun w => rwholeI s d d.toNat w (by omega) h1 (by omega))
        · cases h
      · cases h
    cases hp
  · skip
    rcases List.mem_cons.1 hp with rfl | hp
    · intro args H v H' h
      refine ⟨⟨_, Tryz.func27, rfl, by decide⟩, ?_⟩
      unfold specBegun27 at h
      dsimp only at h
      split at h
      · rename_i s
        split at h
        · rename_i hc
          simp only [Option.some.injEq, Prod.mk.injEq] at h
          obtain ⟨rfl, rfl⟩ := h
          exact callOk_flatC (fun x hx => by
            rcases List.mem_cons.1 hx with rfl | hx
            · rfl
            · cases hx) rfl (fun w => (rbegun_any s w hc).mono (by rintro e w' ⟨rfl, rfl⟩; exact ⟨rfl, Change.refl _ _⟩))
        · cases h
      · cases h
    cases hp
theorem extOk : ExtOk Tryz.prog EJ := by
  refine extL_ok (fun p hp => ?_)
  rcases List.mem_append.1 hp with hp | hp
  case inr => exact more_ok p hp
  rcases List.mem_cons.1 hp with rfl | hp
  · intro args H v H' h
    refine ⟨⟨_, Tryz.func98, rfl, by decide⟩, ?_⟩
    unfold specIndexByte at h
    dsimp only at h
    split at h
    · simp only [Option.some.injEq, Prod.mk.injEq] at h
      obtain ⟨rfl, rfl⟩ := h
      exact callOk_flat (fun x hx => by
        rcases List.mem_cons.1 hx with rfl | hx
        · rfl
        · rcases List.mem_cons.1 hx with rfl | hx
          · rfl
          · cases hx) rfl (fun w => Tryz.strings_IndexByte _ _ w)
    · cases h
  · rcases List.mem_cons.1 hp with rfl | hp
    · intro args H v H' h
      refine ⟨⟨_, Tryz.func121, rfl, by decide⟩, ?_⟩
      unfold specFields at h
      dsimp only at h
      split at h
      · rename_i s
        split at h
        · rename_i hc
          obtain ⟨h1, h2, h3, h4⟩ := hc
          simp only [Option.some.injEq, Prod.mk.injEq] at h
          obtain ⟨rfl, rfl⟩ := h
          exact callOk_row (fun x hx => by
            rcases List.mem_cons.1 hx with rfl | hx
            · rfl
            · cases hx) (fun x hx => by
              obtain ⟨l, _, rfl⟩ := List.mem_map.1 hx
              rfl) (by kernel_rfl) (by simp) h4 (fun ι w hrel => Tryz.strings_Fields s w h1 h2 (tab_at hrel h3))
        · cases h
      · cases h
    · cases hp
theorem tOk : TOk Tryz.prog (LC Tryz.prog EJ) := LC_ok extOk mixed
section
variable {H : LH}
@[simp] theorem indexByte_l {s : List UInt8} {c : UInt8} : LC Tryz.prog EJ 98 [str s, .int .u8 c.toNat] H = some (.int .i64 (Lib.indexByte s c), H) := by
  refine LC_ext (s := specIndexByte) rfl ?_
  simp [specIndexByte, str]
def kwText : List UInt8 := w "await break case catch class const continue default delete do else export extends finally for from function get if import in instanceof let new of return set static switch throw try typeof var void while with yield async as"
theorem fields_kw : Lib.fields kwText = keywords := by decide +kernel
theorem kw_ascii : (kwText.all fun b => decide (b.toNat < 128)) = true := by decide +kernel
theorem fields_l (ht : Tab H) : LC Tryz.prog EJ 121 [str kwText] H = some (sl H.n 39 39, H.new ⟨keywords.map str, 9, true⟩) := by
  refine LC_ext (s := specFields) rfl ?_
  have e : (⟨kwText.toArray⟩ : ByteArray).data.toList = kwText := by simp
  have hl : keywords.length = 39 := by decide +kernel
  simp only [specFields, str, e, fields_kw, hl]
  have ha : ∀ (j : Nat) b, kwText[j]? = some b → b.toNat < 128 := fun j b hb => by
    have := List.all_eq_true.1 kw_ascii b (List.mem_of_getElem? hb)
    simpa using this
  rw [if_pos ⟨by rw [ba_size]; decide +kernel, ha, ht, by simp [maxLen, fields_kw, hl]⟩]
  rfl
end
end Go.Proofs.YtgnefbngkhjfcaaGreatDoor
/-
  What the listed package variables give: the table of blanks lies in its variable.
-/
set_option linter.unusedSimpArgs false
set_option linter.unusedVariables false
set_option maxRecDepth 100000
namespace Go.Proofs.YtgnefbngkhjfcaaGreatDoor
open Go.ChangeShapes Go.WideShapes Go.ChangeAt Go.RowKit Go.Tg Go.Lg

noncomputable def laid2 : List (String × DataW Unit) := [("unicode.White_Space", Rows.laid_unicode_White_Space), ("strings.asciiSpace", Rows.laid_strings_asciiSpace)]
theorem ownKnob0 : ownKnob Tryz.prog.godebug = none := by kernel_rfl
theorem gTab : Tryz.prog.globalNamed "strings.asciiSpace" = some 1 := by kernel_rfl
theorem tab_of_laid {W : World} (h : laidMetH Tryz.prog laid2 W) : Lib.TabIs Tryz.prog W "strings.asciiSpace" .u8 Lib.asciiSpaceTab := by
  have h1 : laidMet Tryz.prog laid2 W := by rwa [MakeChecks.laidMetH_plain _ _ _ (by kernel_rfl)] at h
  have h2 := h1.filter (fun x => x.1 == "strings.asciiSpace")
  have e : laid2.filter (fun x => x.1 == "strings.asciiSpace") = [("strings.asciiSpace", Lib.tabData .u8 Lib.asciiSpaceTab)] := by kernel_rfl
  rw [e] at h2
  exact Lib.tabIs_of_head (g := 1) (t := 91) (e := 5) (n := 256) gTab (by kernel_rfl) (by kernel_rfl) (by kernel_rfl) (by kernel_rfl) (by kernel_rfl) h2
abbrev ngT : Nat := 1 + 1
theorem size_of_laid {W : World} (h : laidMetH Tryz.prog laid2 W) : ngT ≤ W.heap.size := by
  have h1 := tab_of_laid h
  have := h1.cell gTab 0 (by decide)
  rcases Nat.lt_or_ge 1 W.heap.size with h2 | h2
  · exact h2
  · simp [World.cell?, Array.getElem?_eq_none h2] at this
theorem tab_empty {W : World} (h : laidMetH Tryz.prog laid2 W) : Tab (LH.empty W ngT) := ⟨Nat.lt_succ_self _, tab_of_laid h⟩
theorem door_met (os : Os) (args : Array Value) : laidMetH Tryz.prog laid2 ((World.doorLaid Tryz.prog 4000 os).forCall (fun _ _ => 0) ⟨#[], args, []⟩).memory :=
  laidMetH_of_parts3 (fuel := 12) (laidMet_of_run' 12 (by kernel_rfl) (by kernel_rfl)) (by kernel_rfl) (by kernel_rfl)
theorem door_shaped (os : Os) (args : Array Value) : True := trivial
end Go.Proofs.YtgnefbngkhjfcaaGreatDoor
/-
  The machine of layer 29 (lexer) in plain Lean, and plain laws on it. No program in sight.
-/
set_option linter.unusedSimpArgs false
set_option linter.unusedVariables false
namespace Tg.Lx

structure L where
  j : Tg.Json.M
  s : Tg.Js.M
  verdict : Int
  reason : List UInt8
  at_ : Int
  seen : Int
  ended : Bool

namespace L
def settle (m : L) (v : Int) (r : List UInt8) : L := { m with verdict := v, reason := r, at_ := m.seen }
def rDeep : List UInt8 := [100, 101, 101, 112]
def rNo : List UInt8 := [110, 111, 32, 115, 99, 114, 105, 112, 116]
def rScript : List UInt8 := [115, 99, 114, 105, 112, 116]
def rBlank : List UInt8 := [98, 108, 97, 110, 107]
def rJson : List UInt8 := [106, 115, 111, 110]
def rCut : List UInt8 := [99, 117, 116, 32, 111, 102, 102]
def rLimit : List UInt8 := [108, 105, 109, 105, 116]
def look (m : L) : L :=
  if m.j.tell = 3 then m.settle 2 rDeep
  else if m.s.tell = 0 then m.settle 2 rNo
  else if m.j.tell = 0 ∧ 0 < m.s.ends then m.settle 1 rScript
  else m
def see (m : L) : L := { m with seen := Tg.Js.w64 (m.seen + 1) }
def take1 (m : L) (b : UInt8) : L := { m with j := m.j.feed [b], s := m.s.feed [b] }
def step (m : L) (b : UInt8) : L := if m.verdict ≠ 0 ∨ m.ended = true then m.see else (m.see.take1 b).look
def feed (m : L) (s : List UInt8) : L := s.foldl step m
def fin (m : L) : L :=
  if m.verdict ≠ 0 then { m with ended := true }
  else if m.j.begun = false then ({ m with ended := true } : L).settle 1 rBlank
  else if m.j.tell ≠ 0 then ({ m with ended := true } : L).settle 2 rJson
  else if m.s.tell = 2 then ({ m with ended := true } : L).settle 1 rScript
  else ({ m with ended := true } : L).settle 2 rCut
def new (d : Nat) : L := ⟨Tg.Json.M.start d, Tg.Js.new d, 0, [], -1, 0, false⟩

theorem feed_append (m : L) (s t : List UInt8) : m.feed (s ++ t) = (m.feed s).feed t := by simp [feed]
theorem feed_take (m : L) (s : List UInt8) {i : Nat} (h : i < s.length) : m.feed (s.take (i + 1)) = (m.feed (s.take i)).step s[i] := by
  rw [List.take_succ_eq_append_getElem h, feed_append]; rfl
/-- a verdict stays -/
theorem stuck (t : List UInt8) : ∀ m : L, m.verdict ≠ 0 → (m.feed t).verdict = m.verdict ∧ (m.feed t).reason = m.reason ∧ (m.feed t).at_ = m.at_ := by
  induction t with
  | nil => intro m _; exact ⟨rfl, rfl, rfl⟩
  | cons b r ih =>
    intro m h
    have e : m.step b = m.see := by unfold step; rw [if_pos (.inl h)]
    have := ih m.see h
    have e2 : m.feed (b :: r) = (m.step b).feed r := rfl
    rw [e2, e]; exact this
theorem fin_verdict (m : L) : m.fin.verdict ≠ 0 := by
  unfold fin settle
  by_cases h : m.verdict ≠ 0
  · rw [if_pos h]; exact h
  · rw [if_neg h]
    repeat' split
    all_goals simp
theorem fin_stuck (m : L) (h : m.verdict ≠ 0) : m.fin.verdict = m.verdict ∧ m.fin.reason = m.reason ∧ m.fin.at_ = m.at_ := by
  unfold fin; rw [if_pos h]; exact ⟨rfl, rfl, rfl⟩
/-- what holds behind n bytes -/
structure Inv (n : Nat) (m : L) : Prop where
  seen : m.seen = n
  at1 : m.at_ ≤ n
  at0 : -1 ≤ m.at_
  at2 : m.verdict ≠ 0 → 0 ≤ m.at_
  v : m.verdict = 0 ∨ m.verdict = 1 ∨ m.verdict = 2
theorem look_cases (m : L) : m.look = m ∨ ∃ v r, (v = 1 ∨ v = 2) ∧ m.look = m.settle v r := by
  unfold look
  repeat' split
  · exact .inr ⟨2, rDeep, .inr rfl, rfl⟩
  · exact .inr ⟨2, rNo, .inr rfl, rfl⟩
  · exact .inr ⟨1, rScript, .inl rfl, rfl⟩
  · exact .inl rfl
theorem fin_cases (m : L) : m.fin = { m with ended := true } ∧ m.verdict ≠ 0 ∨ ∃ v r, (v = 1 ∨ v = 2) ∧ m.fin = ({ m with ended := true } : L).settle v r := by
  unfold fin
  by_cases h : m.verdict ≠ 0
  · rw [if_pos h]; exact .inl ⟨rfl, h⟩
  · rw [if_neg h]
    repeat' split
    · exact .inr ⟨_, _, .inl rfl, rfl⟩
    · exact .inr ⟨_, _, .inr rfl, rfl⟩
    · exact .inr ⟨_, _, .inl rfl, rfl⟩
    · exact .inr ⟨_, _, .inr rfl, rfl⟩
theorem Inv.step {n : Nat} {m : L} (h : Inv n m) (hn : n < 1152921504606846976) (b : UInt8) : Inv (n + 1) (m.step b) := by
  have hw : Tg.Js.w64 (m.seen + 1) = ((n + 1 : Nat) : Int) := by rw [h.seen]; rw [Tg.Js.w64_in (by omega) (by omega)]; omega
  have hs : Inv (n + 1) m.see := ⟨hw, by have := h.at1; show m.at_ ≤ _; omega, h.at0, h.at2, h.v⟩
  unfold L.step
  split
  · exact hs
  · have ht : Inv (n + 1) (m.see.take1 b) := ⟨hs.seen, hs.at1, hs.at0, hs.at2, hs.v⟩
    rcases look_cases (m.see.take1 b) with e | ⟨v, r, hv, e⟩
    · rw [e]; exact ht
    · rw [e]
      have e1 := ht.seen
      refine ⟨e1, ?_, ?_, ?_, ?_⟩
      · show (m.see.take1 b).seen ≤ _; omega
      · show -1 ≤ (m.see.take1 b).seen; omega
      · intro _; show 0 ≤ (m.see.take1 b).seen; omega
      · exact .inr hv
theorem Inv.feed (t : List UInt8) : ∀ {n : Nat} {m : L}, Inv n m → n + t.length ≤ 1152921504606846976 → Inv (n + t.length) (m.feed t) := by
  induction t with
  | nil => intro n m h _; exact h
  | cons b r ih =>
    intro n m h hn
    simp only [List.length_cons] at hn
    have := ih (h.step (by omega) b) (by omega)
    rw [show n + 1 + r.length = n + (b :: r).length by simp; omega] at this
    exact this
theorem Inv.new (d : Nat) : Inv 0 (new d) := ⟨rfl, by show (-1 : Int) ≤ 0; omega, Int.le_refl _, fun h => absurd rfl h, .inl rfl⟩
theorem Inv.fin {n : Nat} {m : L} (h : Inv n m) : Inv n m.fin := by
  rcases fin_cases m with ⟨e, _⟩ | ⟨v, r, hv, e⟩
  · rw [e]; exact ⟨h.seen, h.at1, h.at0, h.at2, h.v⟩
  · rw [e]
    have e1 := h.seen
    exact ⟨e1, by show m.seen ≤ _; omega, by show -1 ≤ m.seen; omega, fun _ => by show 0 ≤ m.seen; omega, .inr hv⟩
/-- both machines as long as there is no verdict -/
theorem feed_open (t : List UInt8) : ∀ m : L, m.ended = false → (m.feed t).verdict = 0 → (m.feed t).j = m.j.feed t ∧ (m.feed t).s = m.s.feed t ∧ (m.feed t).ended = false := by
  induction t with
  | nil => intro m h _; exact ⟨rfl, rfl, h⟩
  | cons b r ih =>
    intro m he hv
    have hv' : ((m.step b).feed r).verdict = 0 := hv
    have hm : m.verdict = 0 := by
      refine Classical.byContradiction (fun hne => ?_)
      have := (stuck (b :: r) m hne).1
      rw [hv] at this; exact hne this.symm
    have e : m.step b = (m.see.take1 b).look := by unfold step; rw [if_neg (by rintro (h | h); exact h hm; rw [he] at h; cases h)]
    rcases look_cases (m.see.take1 b) with e2 | ⟨v, r', hvv, e2⟩
    · rw [e2] at e
      have := ih (m.step b) (by rw [e]; exact he) hv'
      rw [e] at this
      show ((m.step b).feed r).j = _ ∧ ((m.step b).feed r).s = _ ∧ ((m.step b).feed r).ended = _
      rw [e]
      exact this
    · rw [e2] at e
      have : (m.step b).verdict ≠ 0 := by rw [e]; show v ≠ 0; rcases hvv with rfl | rfl <;> decide
      have h2 := (stuck r (m.step b) this).1
      rw [hv'] at h2
      exact absurd h2.symm this
/-- what is let through ahead of the end has a beginning that is no JSON -/
theorem allowed (t : List UInt8) : ∀ m : L, m.ended = false → m.verdict = 0 → (m.feed t).verdict = 1 → ∃ u k, t = u ++ k ∧ (m.j.feed u).tell = 0 := by
  induction t with
  | nil => intro m _ hv h; rw [show m.feed [] = m from rfl, hv] at h; cases h
  | cons b r ih =>
    intro m he hv h
    have e : m.step b = (m.see.take1 b).look := by unfold step; rw [if_neg (by rintro (h | h); exact h hv; rw [he] at h; cases h)]
    have h' : ((m.step b).feed r).verdict = 1 := h
    have hj : (m.see.take1 b).j = m.j.feed [b] := rfl
    by_cases hz : (m.step b).verdict = 0
    · have e3 : m.step b = m.see.take1 b := by
        rcases look_cases (m.see.take1 b) with e2 | ⟨v, r', hvv, e2⟩
        · rw [e, e2]
        · rw [e, e2] at hz
          have hz' : v = 0 := hz
          rcases hvv with rfl | rfl <;> cases hz'
      obtain ⟨u, k, hu, ht⟩ := ih (m.step b) (by rw [e3]; exact he) hz h'
      refine ⟨b :: u, k, by rw [hu]; rfl, ?_⟩
      rw [e3] at ht
      exact ht
    · have h2 := (stuck r (m.step b) hz).1
      rw [h'] at h2
      refine ⟨[b], r, rfl, ?_⟩
      rw [e] at h2
      unfold look at h2
      split at h2
      · cases h2
      · split at h2
        · cases h2
        · split at h2
          · rename_i h3; exact h3.1
          · rw [show (m.see.take1 b).verdict = m.verdict from rfl, hv] at h2; cases h2
theorem bad_stays (m : Tg.Json.M) (u k : List UInt8) (h : (m.feed u).tell = 0) : (m.feed (u ++ k)).tell = 0 := by
  have hs : (m.feed u).state = 0 := by
    unfold Tg.Json.M.tell at h
    split at h
    · cases h
    · exact h
  rw [Tg.Json.feed_append]
  have := (Tg.Json.feed_stuck k (m.feed u) (by omega)).1
  unfold Tg.Json.M.tell
  rw [if_neg (fun hx => by omega), this, hs]
theorem done_begun (s : List UInt8) (d : Nat) (h : ((Tg.Json.M.start d).feed s).tell = 2) : ((Tg.Json.M.start d).feed s).begun = true := by
  rw [Tg.Json.begun_feed]
  have hw := congrArg Prod.fst (Tg.Json.whole_eq s d)
  simp only [h] at hw
  refine Classical.byContradiction (fun hne => ?_)
  have hge : s.length ≤ Tg.Json.skip s := by
    simp [Tg.Json.M.start] at hne; omega
  have hd : s.drop (Tg.Json.skip s) = [] := List.drop_eq_nil_of_le hge
  have hv : (Tg.Json.value d s).2 = 1 := by
    cases d <;> (unfold Tg.Json.value; rw [hd])
  unfold Tg.Json.whole at hw
  simp [hv] at hw
/-- what is JSON as a whole never is let through -/
theorem json_blocks (d : Nat) (u r : List UInt8) (h : ((Tg.Json.M.start d).feed (u ++ r)).tell = 2) :
    ((new d).feed u).verdict ≠ 1 ∧ (((new d).feed u).feed r).verdict ≠ 1 ∧ (((new d).feed u).feed r).fin.verdict = 2 := by
  have key : ∀ t k, t ++ k = u ++ r → ((new d).feed t).verdict ≠ 1 := by
    intro t k ht hv
    obtain ⟨u', k', e, hb⟩ := allowed t (new d) rfl rfl hv
    have := bad_stays _ u' (k' ++ k) hb
    rw [← List.append_assoc, ← e, ht] at this
    have h' : ((new d).j.feed (u ++ r)).tell = 2 := h
    rw [this] at h'; cases h'
  have k2 := key (u ++ r) [] (by simp)
  refine ⟨key u r rfl, by rw [← feed_append]; exact k2, ?_⟩
  rw [← feed_append]
  have hi := (Inv.new d).feed (u ++ r)
  generalize hm : (new d).feed (u ++ r) = m at *
  by_cases hv : m.verdict = 0
  · obtain ⟨hj, _, _⟩ := feed_open (u ++ r) (new d) rfl (by rw [hm]; exact hv)
    rw [hm] at hj
    have hj' : m.j = (Tg.Json.M.start d).feed (u ++ r) := hj
    unfold fin
    rw [if_neg (fun hx => hx hv), hj', done_begun _ _ h, if_neg (by simp), h, if_pos (by decide)]
    rfl
  · rw [(fin_stuck m hv).1]
    have : m.verdict = 0 ∨ m.verdict = 1 ∨ m.verdict = 2 := by
      rw [← hm]
      have : ∀ (t : List UInt8) (n : L), (n.verdict = 0 ∨ n.verdict = 1 ∨ n.verdict = 2) → ((n.feed t).verdict = 0 ∨ (n.feed t).verdict = 1 ∨ (n.feed t).verdict = 2) := by
        intro t
        induction t with
        | nil => intro n hn; exact hn
        | cons b q ih =>
          intro n hn
          refine ih (n.step b) ?_
          unfold step
          split
          · exact hn
          · rcases look_cases (n.see.take1 b) with e | ⟨v, r', hvv, e⟩
            · rw [e]; exact hn
            · rw [e]; exact .inr hvv
      exact this (u ++ r) (new d) (.inl rfl)
    omega
end L
end Tg.Lx
/-
  The machine of layer 28 (jscript): what its judges of bytes come to.
-/
set_option linter.unusedSimpArgs false
set_option linter.unusedVariables false
namespace Go.Proofs.YtgnefbngkhjfcaaGreatDoor
open Go.Lg Tg.Js

section
variable {H : LH} {b : UInt8}
theorem digit_in : LC Tryz.prog EJ 111 [.int .u8 b.toNat] H = some (.bool (digit b), H) := by
  refine LC_pure rfl Tryz.func111 rfl (Nat.le_of_ble_eq_true rfl) (by decide) (by kernel_rfl) rfl ?_
  simp +contextual [digit, -Int.not_le, -Int.not_lt]
theorem digit_l : LC Tryz.prog EJ 96 [.int .u8 b.toNat] H = some (.bool (digit b), H) := by
  refine LC_pure rfl Tryz.func96 rfl (Nat.le_of_ble_eq_true rfl) (by decide) (by kernel_rfl) rfl ?_
  simp +contextual [digit_in, -Int.not_le, -Int.not_lt]
theorem small_l : LC Tryz.prog EJ 122 [.int .u8 b.toNat] H = some (.bool (decide (97 ≤ (b.toNat : Int)) && decide ((b.toNat : Int) ≤ 122)), H) := by
  refine LC_pure rfl Tryz.func122 rfl (Nat.le_of_ble_eq_true rfl) (by decide) (by kernel_rfl) rfl ?_
  simp +contextual [-Int.not_le, -Int.not_lt]
theorem great_l : LC Tryz.prog EJ 123 [.int .u8 b.toNat] H = some (.bool (decide (65 ≤ (b.toNat : Int)) && decide ((b.toNat : Int) ≤ 90)), H) := by
  refine LC_pure rfl Tryz.func123 rfl (Nat.le_of_ble_eq_true rfl) (by decide) (by kernel_rfl) rfl ?_
  simp +contextual [-Int.not_le, -Int.not_lt]
theorem letter_in : LC Tryz.prog EJ 118 [.int .u8 b.toNat] H = some (.bool (letter b), H) := by
  refine LC_pure rfl Tryz.func118 rfl (Nat.le_of_ble_eq_true rfl) (by decide) (by kernel_rfl) rfl ?_
  simp +contextual [letter, small_l, great_l, -Int.not_le, -Int.not_lt]
theorem letter_l : LC Tryz.prog EJ 113 [.int .u8 b.toNat] H = some (.bool (letter b), H) := by
  refine LC_pure rfl Tryz.func113 rfl (Nat.le_of_ble_eq_true rfl) (by decide) (by kernel_rfl) rfl ?_
  simp +contextual [letter_in, -Int.not_le, -Int.not_lt]
theorem feed_l : LC Tryz.prog EJ 100 [.int .u8 b.toNat] H = some (.bool (feedB b), H) := by
  refine LC_pure rfl Tryz.func100 rfl (Nat.le_of_ble_eq_true rfl) (by decide) (by kernel_rfl) rfl ?_
  simp +contextual [feedB, -Int.not_le, -Int.not_lt]
theorem white_l : LC Tryz.prog EJ 101 [.int .u8 b.toNat] H = some (.bool (white b), H) := by
  refine LC_pure rfl Tryz.func101 rfl (Nat.le_of_ble_eq_true rfl) (by decide) (by kernel_rfl) rfl ?_
  simp +contextual [white, -Int.not_le, -Int.not_lt]
theorem inner_l : LC Tryz.prog EJ 102 [.int .u8 b.toNat] H = some (.bool (inner b), H) := by
  refine LC_pure rfl Tryz.func102 rfl (Nat.le_of_ble_eq_true rfl) (by decide) (by kernel_rfl) rfl ?_
  simp (config := { maxSteps := 2000000 }) +contextual [inner, letter_l, digit_l, -Int.not_le, -Int.not_lt]
theorem pair_l : LC Tryz.prog EJ 119 [.int .u8 b.toNat] H = some (.int .u8 (M.pair b).toNat, H) := by
  refine LC_pure rfl Tryz.func119 rfl (Nat.le_of_ble_eq_true rfl) (by decide) (by kernel_rfl) rfl ?_
  simp +contextual [M.pair, -Int.not_le, -Int.not_lt]
end
end Go.Proofs.YtgnefbngkhjfcaaGreatDoor
/-
  The machine of layer 28 (jscript): its fields, and its methods that leave its stack as it is.
-/
set_option linter.unusedSimpArgs false
set_option linter.unusedVariables false
namespace Go.Proofs.YtgnefbngkhjfcaaGreatDoor
open Go.Lg Tg.Js

/-- the machine's cells -/
def mc (m : M) (v : Value) : List Value := [.int .i64 m.depth, v, .int .i64 m.at_, .int .u8 m.by_.toNat, .bool m.taken, str m.said, .int .i64 m.last, .bool m.broken, .bool m.bad, .int .i64 m.place, .int .i64 m.pieces, .int .i64 m.ends, .int .i64 m.seen]
def mb (m : M) (v : Value) : LB := ⟨mc m v, 67, true⟩
theorem set_self {H : LH} {l : Nat} {b : LB} (h : H.get l = some b) : H.set l b = H := by
  cases H with
  | mk n g ho w0 ng =>
    simp only [LH.set, LH.mk.injEq, true_and, and_true]
    funext k
    split
    · rename_i e; subst e; exact h.symm
    · rfl
@[simp] theorem u8inj {a b : UInt8} : ((a.toNat : Int) = b.toNat) = (a = b) := by
  apply propext
  constructor
  · intro h; exact UInt8.toNat_inj.1 (by omega)
  · rintro rfl; rfl
set_option maxRecDepth 100000
section
variable {H : LH} {b : UInt8} {m : M} {v : Value} {p : Nat}
@[simp] theorem mb_len : (mb m v).cells.length = 13 := by simp only [mb, mc]; simp only [List.length_cons, List.length_nil]
@[simp] theorem mb_rw : (mb m v).rw = true := by simp only [mb]
theorem mb_elem : (mb m v).elem = 67 := rfl
@[simp] theorem ld_depth : (mb m v).cells[0]? = some (.int .i64 m.depth) := rfl
@[simp] theorem lg_depth {hl : 0 < (mb m v).cells.length} : (mb m v).cells[0]'hl = (.int .i64 m.depth) := rfl
@[simp] theorem st_depth {x : Int} : (⟨(mb m v).cells.set 0 (.int .i64 x), (mb m v).elem, true⟩ : LB) = mb { m with depth := x } v := rfl
@[simp] theorem ld_at_ : (mb m v).cells[2]? = some (.int .i64 m.at_) := rfl
@[simp] theorem lg_at_ {hl : 2 < (mb m v).cells.length} : (mb m v).cells[2]'hl = (.int .i64 m.at_) := rfl
@[simp] theorem st_at_ {x : Int} : (⟨(mb m v).cells.set 2 (.int .i64 x), (mb m v).elem, true⟩ : LB) = mb { m with at_ := x } v := rfl
@[simp] theorem ld_by_ : (mb m v).cells[3]? = some (.int .u8 m.by_.toNat) := rfl
@[simp] theorem lg_by_ {hl : 3 < (mb m v).cells.length} : (mb m v).cells[3]'hl = (.int .u8 m.by_.toNat) := rfl
@[simp] theorem st_by_ {x : UInt8} : (⟨(mb m v).cells.set 3 (.int .u8 x.toNat), (mb m v).elem, true⟩ : LB) = mb { m with by_ := x } v := rfl
@[simp] theorem ld_taken : (mb m v).cells[4]? = some (.bool m.taken) := rfl
@[simp] theorem lg_taken {hl : 4 < (mb m v).cells.length} : (mb m v).cells[4]'hl = (.bool m.taken) := rfl
@[simp] theorem st_taken {x : Bool} : (⟨(mb m v).cells.set 4 (.bool x), (mb m v).elem, true⟩ : LB) = mb { m with taken := x } v := rfl
@[simp] theorem ld_said : (mb m v).cells[5]? = some (str m.said) := rfl
@[simp] theorem lg_said {hl : 5 < (mb m v).cells.length} : (mb m v).cells[5]'hl = (str m.said) := rfl
@[simp] theorem st_said {x : List UInt8} : (⟨(mb m v).cells.set 5 (str x), (mb m v).elem, true⟩ : LB) = mb { m with said := x } v := rfl
@[simp] theorem ld_last : (mb m v).cells[6]? = some (.int .i64 m.last) := rfl
@[simp] theorem lg_last {hl : 6 < (mb m v).cells.length} : (mb m v).cells[6]'hl = (.int .i64 m.last) := rfl
@[simp] theorem st_last {x : Int} : (⟨(mb m v).cells.set 6 (.int .i64 x), (mb m v).elem, true⟩ : LB) = mb { m with last := x } v := rfl
@[simp] theorem ld_broken : (mb m v).cells[7]? = some (.bool m.broken) := rfl
@[simp] theorem lg_broken {hl : 7 < (mb m v).cells.length} : (mb m v).cells[7]'hl = (.bool m.broken) := rfl
@[simp] theorem st_broken {x : Bool} : (⟨(mb m v).cells.set 7 (.bool x), (mb m v).elem, true⟩ : LB) = mb { m with broken := x } v := rfl
@[simp] theorem ld_bad : (mb m v).cells[8]? = some (.bool m.bad) := rfl
@[simp] theorem lg_bad {hl : 8 < (mb m v).cells.length} : (mb m v).cells[8]'hl = (.bool m.bad) := rfl
@[simp] theorem st_bad {x : Bool} : (⟨(mb m v).cells.set 8 (.bool x), (mb m v).elem, true⟩ : LB) = mb { m with bad := x } v := rfl
@[simp] theorem ld_place : (mb m v).cells[9]? = some (.int .i64 m.place) := rfl
@[simp] theorem lg_place {hl : 9 < (mb m v).cells.length} : (mb m v).cells[9]'hl = (.int .i64 m.place) := rfl
@[simp] theorem st_place {x : Int} : (⟨(mb m v).cells.set 9 (.int .i64 x), (mb m v).elem, true⟩ : LB) = mb { m with place := x } v := rfl
@[simp] theorem ld_pieces : (mb m v).cells[10]? = some (.int .i64 m.pieces) := rfl
@[simp] theorem lg_pieces {hl : 10 < (mb m v).cells.length} : (mb m v).cells[10]'hl = (.int .i64 m.pieces) := rfl
@[simp] theorem st_pieces {x : Int} : (⟨(mb m v).cells.set 10 (.int .i64 x), (mb m v).elem, true⟩ : LB) = mb { m with pieces := x } v := rfl
@[simp] theorem ld_ends : (mb m v).cells[11]? = some (.int .i64 m.ends) := rfl
@[simp] theorem lg_ends {hl : 11 < (mb m v).cells.length} : (mb m v).cells[11]'hl = (.int .i64 m.ends) := rfl
@[simp] theorem st_ends {x : Int} : (⟨(mb m v).cells.set 11 (.int .i64 x), (mb m v).elem, true⟩ : LB) = mb { m with ends := x } v := rfl
@[simp] theorem ld_seen : (mb m v).cells[12]? = some (.int .i64 m.seen) := rfl
@[simp] theorem lg_seen {hl : 12 < (mb m v).cells.length} : (mb m v).cells[12]'hl = (.int .i64 m.seen) := rfl
@[simp] theorem st_seen {x : Int} : (⟨(mb m v).cells.set 12 (.int .i64 x), (mb m v).elem, true⟩ : LB) = mb { m with seen := x } v := rfl
@[simp] theorem st_by34 : (⟨(mb m v).cells.set 3 (.int .u8 34), (mb m v).elem, true⟩ : LB) = mb { m with by_ := 34 } v := rfl
@[simp] theorem st_by39 : (⟨(mb m v).cells.set 3 (.int .u8 39), (mb m v).elem, true⟩ : LB) = mb { m with by_ := 39 } v := rfl
@[simp] theorem st_by47 : (⟨(mb m v).cells.set 3 (.int .u8 47), (mb m v).elem, true⟩ : LB) = mb { m with by_ := 47 } v := rfl
@[simp] theorem st_by96 : (⟨(mb m v).cells.set 3 (.int .u8 96), (mb m v).elem, true⟩ : LB) = mb { m with by_ := 96 } v := rfl
@[simp] theorem ld_stack : (mb m v).cells[1]? = some v := rfl
@[simp] theorem lg_stack {hl : 1 < (mb m v).cells.length} : (mb m v).cells[1]'hl = v := rfl
@[simp] theorem st_stack {x : Value} : (⟨(mb m v).cells.set 1 x, (mb m v).elem, true⟩ : LB) = mb m x := rfl
/-- a method that writes the machine's own block alone -/
theorem own {f : FuncId} {fn : Func} {c : Code} {args : List Value} {u : Value} {B B' : LB} (he : EJ f = none) (hf : Tryz.prog.funcs[f]? = some fn) (hb : fn.body = some c) (hN : args.length ≤ fn.ntmps) (hname : fn.name ≠ "runtime.NumGoroutine") (hcd : codeOk EJ.loud fn.ntmps c = true)
    (hB : H.get p = some B) (hp : p < H.n) (hr : Runs Tryz.prog EJ fn [.code c] (enter args) H (fun r => r = (u, H.set p B'))) : LC Tryz.prog EJ f args H = some (u, H.set p B') := by
  obtain ⟨r, h, rfl⟩ := LC_runs he hf hb hN hname hcd hr
  rw [h, trunc_set hB hp]
theorem joined_l (h : H.get p = some (mb m v)) : LC Tryz.prog EJ 103 [ptr p 0] H = some (.bool m.joined, H) := by
  refine LC_pure rfl Tryz.func103 rfl (Nat.le_of_ble_eq_true rfl) (by decide) (by kernel_rfl) rfl ?_
  simp +contextual [h, M.joined]
theorem fail_l (h : H.get p = some (mb m v)) (hp : p < H.n) : LC Tryz.prog EJ 104 [ptr p 0] H = some (.tuple #[], H.set p (mb (m.fail) v)) := by
  refine own rfl Tryz.func104 rfl (Nat.le_of_ble_eq_true rfl) (by decide) (by kernel_rfl) h hp ?_
  simp (config := { maxSteps := 2000000 }) +contextual [h, hp, set_self h, M.fail, -Int.not_le, -Int.not_lt]
theorem fail_s (hp : p < H.n) : LC Tryz.prog EJ 104 [ptr p 0] (H.set p (mb m v)) = some (.tuple #[], H.set p (mb (m.fail) v)) := by
  rw [fail_l get_set hp, set_set]
theorem piece_l (h : H.get p = some (mb m v)) (hp : p < H.n) : LC Tryz.prog EJ 105 [ptr p 0] H = some (.tuple #[], H.set p (mb (m.piece) v)) := by
  refine own rfl Tryz.func105 rfl (Nat.le_of_ble_eq_true rfl) (by decide) (by kernel_rfl) h hp ?_
  simp (config := { maxSteps := 2000000 }) +contextual [h, hp, set_self h, M.piece, -Int.not_le, -Int.not_lt]
theorem piece_s (hp : p < H.n) : LC Tryz.prog EJ 105 [ptr p 0] (H.set p (mb m v)) = some (.tuple #[], H.set p (mb (m.piece) v)) := by
  rw [piece_l get_set hp, set_set]
theorem ended_l {l : Int} (h : H.get p = some (mb m v)) (hp : p < H.n) : LC Tryz.prog EJ 108 [ptr p 0, .int .i64 l] H = some (.tuple #[], H.set p (mb (m.ended l) v)) := by
  refine own rfl Tryz.func108 rfl (Nat.le_of_ble_eq_true rfl) (by decide) (by kernel_rfl) h hp ?_
  simp (config := { maxSteps := 2000000 }) +contextual [h, hp, set_self h, M.ended, -Int.not_le, -Int.not_lt]
theorem ended_s {l : Int} (hp : p < H.n) : LC Tryz.prog EJ 108 [ptr p 0, .int .i64 l] (H.set p (mb m v)) = some (.tuple #[], H.set p (mb (m.ended l) v)) := by
  rw [ended_l get_set hp, set_set]
theorem inRemark_l (h : H.get p = some (mb m v)) (hp : p < H.n) : LC Tryz.prog EJ 82 [ptr p 0, .int .u8 b.toNat] H = some (.tuple #[], H.set p (mb (m.inRemark b) v)) := by
  refine own rfl Tryz.func82 rfl (Nat.le_of_ble_eq_true rfl) (by decide) (by kernel_rfl) h hp ?_
  simp (config := { maxSteps := 2000000 }) +contextual [h, hp, set_self h, M.inRemark, feed_l, -Int.not_le, -Int.not_lt]
theorem inRemark_s (hp : p < H.n) : LC Tryz.prog EJ 82 [ptr p 0, .int .u8 b.toNat] (H.set p (mb m v)) = some (.tuple #[], H.set p (mb (m.inRemark b) v)) := by
  rw [inRemark_l get_set hp, set_set]
theorem inLess_l (h : H.get p = some (mb m v)) (hp : p < H.n) : LC Tryz.prog EJ 83 [ptr p 0, .int .u8 b.toNat] H = some (.tuple #[], H.set p (mb (m.inLess b) v)) := by
  refine own rfl Tryz.func83 rfl (Nat.le_of_ble_eq_true rfl) (by decide) (by kernel_rfl) h hp ?_
  simp (config := { maxSteps := 2000000 }) +contextual [h, hp, set_self h, M.inLess, fail_l h hp, -Int.not_le, -Int.not_lt]
theorem inLess_s (hp : p < H.n) : LC Tryz.prog EJ 83 [ptr p 0, .int .u8 b.toNat] (H.set p (mb m v)) = some (.tuple #[], H.set p (mb (m.inLess b) v)) := by
  rw [inLess_l get_set hp, set_set]
theorem inText_l (h : H.get p = some (mb m v)) (hp : p < H.n) : LC Tryz.prog EJ 84 [ptr p 0, .int .u8 b.toNat] H = some (.tuple #[], H.set p (mb (m.inText b) v)) := by
  refine own rfl Tryz.func84 rfl (Nat.le_of_ble_eq_true rfl) (by decide) (by kernel_rfl) h hp ?_
  simp (config := { maxSteps := 2000000 }) +contextual [h, hp, set_self h, M.inText, feed_l, fail_l h hp, ended_l h hp, -Int.not_le, -Int.not_lt]
theorem inText_s (hp : p < H.n) : LC Tryz.prog EJ 84 [ptr p 0, .int .u8 b.toNat] (H.set p (mb m v)) = some (.tuple #[], H.set p (mb (m.inText b) v)) := by
  rw [inText_l get_set hp, set_set]
end
end Go.Proofs.YtgnefbngkhjfcaaGreatDoor
/-
  A logical run of Go code: rules for regions whose order is open.
-/
set_option linter.unusedSimpArgs false
set_option linter.unusedVariables false
namespace Go.Lg
open Go.Tg Go.RowKit
section
variable {P : Program} {fr : Fr} {H H0 : LH} {T : Callee} {L : Loud} {t s : TypeId} {x y i c : Operand}
@[simp ↓] theorem lmixx_move : lmixx P T (.move x) fr H0 H = lopx P T (.move x) fr H := rfl
@[simp ↓] theorem loud_move : loudOp L (.move x) = false := rfl
@[simp ↓] theorem lmixx_assign : lmixx P T (.assign x) fr H0 H = lopx P T (.assign x) fr H := rfl
@[simp ↓] theorem loud_assign : loudOp L (.assign x) = false := rfl
@[simp ↓] theorem lmixx_pick : lmixx P T (.pick c x y) fr H0 H = lopx P T (.pick c x y) fr H := rfl
@[simp ↓] theorem loud_pick : loudOp L (.pick c x y) = false := rfl
@[simp ↓] theorem lmixx_box : lmixx P T (.box t x) fr H0 H = lopx P T (.box t x) fr H := rfl
@[simp ↓] theorem loud_box : loudOp L (.box t x) = false := rfl
@[simp ↓] theorem lmixx_alloc : lmixx P T (.alloc t) fr H0 H = lopx P T (.alloc t) fr H := rfl
@[simp ↓] theorem loud_alloc : loudOp L (.alloc t) = false := rfl
@[simp ↓] theorem lmixx_load : lmixx P T (.load t x) fr H0 H = lopx P T (.load t x) fr H := rfl
@[simp ↓] theorem loud_load : loudOp L (.load t x) = false := rfl
@[simp ↓] theorem lmixx_nilCheck : lmixx P T (.nilCheck x) fr H0 H = lopx P T (.nilCheck x) fr H := rfl
@[simp ↓] theorem loud_nilCheck : loudOp L (.nilCheck x) = false := rfl
@[simp ↓] theorem lmixx_fieldAddr {f : Nat} : lmixx P T (.fieldAddr t x f) fr H0 H = lopx P T (.fieldAddr t x f) fr H := rfl
@[simp ↓] theorem loud_fieldAddr {f : Nat} : loudOp L (.fieldAddr t x f) = false := rfl
@[simp ↓] theorem lmixx_indexAddr : lmixx P T (.indexAddr t x i) fr H0 H = lopx P T (.indexAddr t x i) fr H := rfl
@[simp ↓] theorem loud_indexAddr : loudOp L (.indexAddr t x i) = false := rfl
@[simp ↓] theorem lmixx_slice {lo hi mx : Option Operand} : lmixx P T (.slice t x lo hi mx) fr H0 H = lopx P T (.slice t x lo hi mx) fr H := rfl
@[simp ↓] theorem loud_slice {lo hi mx : Option Operand} : loudOp L (.slice t x lo hi mx) = false := rfl
@[simp ↓] theorem lmixx_field {f : Nat} : lmixx P T (.field t x f) fr H0 H = lopx P T (.field t x f) fr H := rfl
@[simp ↓] theorem loud_field {f : Nat} : loudOp L (.field t x f) = false := rfl
@[simp ↓] theorem lmixx_extract {f : Nat} : lmixx P T (.extract x f) fr H0 H = lopx P T (.extract x f) fr H := rfl
@[simp ↓] theorem loud_extract {f : Nat} : loudOp L (.extract x f) = false := rfl
@[simp ↓] theorem lmixx_build {ps : Array (Nat × Operand)} : lmixx P T (.build t ps) fr H0 H = lopx P T (.build t ps) fr H := rfl
@[simp ↓] theorem loud_build {ps : Array (Nat × Operand)} : loudOp L (.build t ps) = false := rfl
@[simp ↓] theorem lmixx_buildSlice {f : Nat} {ps : Array (Nat × Operand)} : lmixx P T (.buildSlice t f ps) fr H0 H = lopx P T (.buildSlice t f ps) fr H := rfl
@[simp ↓] theorem loud_buildSlice {f : Nat} {ps : Array (Nat × Operand)} : loudOp L (.buildSlice t f ps) = false := rfl
@[simp ↓] theorem lmixx_binOp {op : BinOp} : lmixx P T (.binOp op t x y s) fr H0 H = lopx P T (.binOp op t x y s) fr H := rfl
@[simp ↓] theorem loud_binOp {op : BinOp} : loudOp L (.binOp op t x y s) = false := rfl
@[simp ↓] theorem lmixx_unOp {uop : UnOp} : lmixx P T (.unOp uop t x) fr H0 H = lopx P T (.unOp uop t x) fr H := rfl
@[simp ↓] theorem loud_unOp {uop : UnOp} : loudOp L (.unOp uop t x) = false := rfl
@[simp ↓] theorem lmixx_convert : lmixx P T (.convert s t x) fr H0 H = lopx P T (.convert s t x) fr H := rfl
@[simp ↓] theorem loud_convert : loudOp L (.convert s t x) = false := rfl
@[simp ↓] theorem lmixx_index : lmixx P T (.index t x i) fr H0 H = lopx P T (.index t x i) fr H := rfl
@[simp ↓] theorem loud_index : loudOp L (.index t x i) = false := rfl
@[simp ↓] theorem lmixx_makeFunc {g : Fn} {c1 c2 : Array Operand} : lmixx P T (.makeFunc g c1 c2) fr H0 H = lopx P T (.makeFunc g c1 c2) fr H := rfl
@[simp ↓] theorem loud_makeFunc {g : Fn} {c1 c2 : Array Operand} : loudOp L (.makeFunc g c1 c2) = false := rfl
@[simp ↓] theorem loud_store : loudOp L (.store t x y) = true := rfl
@[simp ↓] theorem loud_append {args : Array Operand} {ts : Array TypeId} : loudOp L (.call ⟨.builtin .append, args, ts⟩) = true := rfl
@[simp ↓] theorem loud_len {args : Array Operand} {ts : Array TypeId} : loudOp L (.call ⟨.builtin .len, args, ts⟩) = false := rfl
@[simp ↓] theorem loud_min {args : Array Operand} {ts : Array TypeId} : loudOp L (.call ⟨.builtin .min, args, ts⟩) = false := rfl
@[simp ↓] theorem loud_max {args : Array Operand} {ts : Array TypeId} : loudOp L (.call ⟨.builtin .max, args, ts⟩) = false := rfl
@[simp ↓] theorem loud_call {g : FuncId} {args : Array Operand} {ts : Array TypeId} : loudOp L (.call ⟨.value (.func g), args, ts⟩) = L g := rfl
@[simp ↓] theorem loud_callt {g : Tmp} {args : Array Operand} {ts : Array TypeId} : loudOp L (.call ⟨.value (.tmp g), args, ts⟩) = false := rfl
def sameH (x : Option (Value × LH)) (H : LH) : Option (Value × LH) := x.map fun r => (r.1, H)
@[simp] theorem sameH_some {v : Value} {H1 : LH} : sameH (some (v, H1)) H = some (v, H) := rfl
@[simp] theorem sameH_none : sameH none H = none := rfl
@[simp ↓] theorem lmixx_len {args : List Operand} {ts : List TypeId} : lmixx P T (.call ⟨.builtin .len, ⟨args⟩, ⟨ts⟩⟩) fr H0 H = sameH (lbuiltin P .len ts (args.map (ev fr)) H) H := rfl
@[simp ↓] theorem lmixx_min {args : List Operand} {ts : List TypeId} : lmixx P T (.call ⟨.builtin .min, ⟨args⟩, ⟨ts⟩⟩) fr H0 H = sameH (lbuiltin P .min ts (args.map (ev fr)) H) H := rfl
@[simp ↓] theorem lmixx_max {args : List Operand} {ts : List TypeId} : lmixx P T (.call ⟨.builtin .max, ⟨args⟩, ⟨ts⟩⟩) fr H0 H = sameH (lbuiltin P .max ts (args.map (ev fr)) H) H := rfl
/-- a call in an open order: of numbers and texts, or ahead of all new blocks -/
def mcall (b : Bool) (x : Option (Value × LH)) (H : LH) : Option (Value × LH) := match b, x with | true, some (v, _) => if flatB v then some (v, H) else none | _, _ => none
@[simp] theorem mcall_some {v : Value} {H1 : LH} (h : flatB v = true) : mcall true (some (v, H1)) H = some (v, H) := by simp [mcall, h]
@[simp] theorem mcall_none {b : Bool} : mcall b none H = none := by cases b <;> rfl
@[congr] theorem mcall_congr {b b' : Bool} {x x' : Option (Value × LH)} (h1 : b = b') (h2 : x = x') : mcall b x H = mcall b' x' H := by rw [h1, h2]
def flatL : List Value → Bool
  | [] => true
  | v :: l => flatB v && flatL l
@[simp] theorem flatL_nil : flatL [] = true := rfl
@[simp] theorem flatL_cons {v : Value} {l : List Value} : flatL (v :: l) = (flatB v && flatL l) := rfl
theorem flatL_eq : ∀ l : List Value, l.all flatB = flatL l
  | [] => rfl
  | v :: l => by simp only [List.all_cons, flatL, flatL_eq l]
def lowH (H0 H : LH) (f : Value) (args : List Value) : Bool := H.n == H0.n || (flatB f && flatL args)
@[simp] theorem lowH_same {f : Value} {args : List Value} : lowH H H f args = true := by simp [lowH]
@[simp] theorem lowH_flat {f : Value} {args : List Value} (h1 : flatB f = true) (h2 : flatL args = true) : lowH H0 H f args = true := by simp [lowH, h1, h2]
@[simp] theorem flat_fn {g : FuncId} : flatB (.func (.func g) #[] #[]) = true := rfl
@[simp ↓] theorem lmixx_call {f : Operand} {args : List Operand} {ts : Array TypeId} : lmixx P T (.call ⟨.value f, ⟨args⟩, ts⟩) fr H0 H = mcall (lowH H0 H (ev fr f) (args.map (ev fr))) (lcallee P T (ev fr f) (args.map (ev fr)) H0.ro) H := by
  show (if (H.n == H0.n || (flatB (ev fr f) && (args.map (ev fr)).all flatB)) = true then (match lcallee P T (ev fr f) (args.map (ev fr)) H0.ro with | some (v, _) => if flatB v then some v else none | none => none).map (fun v => (v, H)) else none) = _
  rw [flatL_eq]
  unfold lowH mcall
  cases (H.n == H0.n || (flatB (ev fr f) && flatL (args.map (ev fr)))) with
  | false => rfl
  | true =>
    rw [if_pos rfl]
    cases lcallee P T (ev fr f) (args.map (ev fr)) H0.ro with
    | none => rfl
    | some x =>
      obtain ⟨v, H1⟩ := x
      simp only
      split <;> rfl
end
end Go.Lg
/-
  A logical run of Go code: more rules.
-/
set_option linter.unusedSimpArgs false
set_option linter.unusedVariables false
namespace Go.Lg
open Go.Tg Go.RowKit
section
variable {P : Program} {H : LH} {t : TypeId} {a b : Bool}
theorem pureVal_equal_b (hu : P.underlying t = some .bool) : pureVal P (Op.equal t (.bool a) (.bool b)) = some (a == b) := by
  unfold Op.equal
  show pureVal P (Op.equalIn (9999 + 1) t (.bool a) (.bool b)) = _
  unfold Op.equalIn
  simp only [pureVal_bind, pureVal_und, hu, Option.bind_some, pureVal_pure]
@[simp] theorem lbin_beq (hu : P.underlying t = some .bool) : lbin P .eql t (.bool a) (.bool b) = some (.bool (a == b)) := lbin_bb (by simp only [binOp, pureVal_bind, pureVal_equal_b hu, Option.bind_some, pureVal_pure]) rfl
@[simp] theorem lbin_bne (hu : P.underlying t = some .bool) : lbin P .neq t (.bool a) (.bool b) = some (.bool (a != b)) := lbin_bb (by simp only [binOp, pureVal_bind, pureVal_equal_b hu, Option.bind_some, pureVal_pure]; rfl) rfl
@[simp ↓] theorem ev_str0 {fr : Fr} : ev fr (.const (.string ⟨#[]⟩)) = str [] := rfl
@[simp ↓] theorem ev_str1 {fr : Fr} : ev fr (.const (.string ByteArray.empty)) = str [] := rfl
@[simp] theorem ev_strc {fr : Fr} {l : List UInt8} : ev fr (.const (str l)) = str l := by
  show (if flatB (str l) then str l else unk) = _
  rw [if_pos flat_str]
@[simp] theorem get_new_eq {H : LH} {b : LB} {l : Nat} (h : l = H.n) : (H.new b).get l = some b := by subst h; exact get_new
@[simp] theorem new_set_eq {H : LH} {b c : LB} {l : Nat} (h : l = H.n) : (H.new b).set l c = H.new c := by subst h; exact new_set
@[simp ↓] theorem lopx_makeSlice {T : Callee} {fr : Fr} {x y : Operand} : lopx P T (.makeSlice t x y) fr H = lmake P t (ev fr x) (ev fr y) H := rfl
@[simp] theorem lmake_one {e : TypeId} {z : Value} {l c : Int} {k k' : IntKind} (hu : P.underlying t = some (.slice e)) (hs : lesz P e = some 1) (hz : zr P e = some z) (hf : flatB z = true) (hc : cellB z = true) (h0 : 0 ≤ l) (h1 : l ≤ c) (h2 : c ≤ 1048576) :
    lmake P t (.int k l) (.int k' c) H = some (.slice (some ⟨H.n, 0, none⟩) l.toNat c.toNat, H.new ⟨List.replicate c.toNat z, e, true⟩) := by
  unfold lesz at hs
  unfold zr at hz
  unfold lmake
  simp only [hu]
  cases hi : P.info? e with
  | none => simp [hi] at hs
  | some i =>
    simp only [hi, Option.bind_some] at hs hz
    rw [hz] at hs
    simp only at hs
    split at hs
    · rename_i hh
      simp only [Option.some.injEq] at hs
      simp only [hz]
      have hcs : z.cells = #[z] := cells_one hc
      rw [if_pos (by
        simp only [Bool.and_eq_true, decide_eq_true_eq, beq_iff_eq]
        refine ⟨⟨⟨⟨⟨⟨hf, by omega⟩, h0⟩, h1⟩, by rw [hs]; omega⟩, hh.2.2⟩, by rw [hcs, hs]; rfl⟩)]
      congr 3
      rw [hcs, hs, Nat.mul_one]
      congr 1
      apply List.ext_getElem
      · simp
      · intro i h1 h2
        simp [Nat.mod_one]
    · cases hs
end
end Go.Lg
/-
  A logical run of Go code: what an object's method may turn: the object's block, the block of its row, new blocks.
-/
set_option linter.unusedSimpArgs false
set_option linter.unusedVariables false
namespace Go.Lg
open Go.Tg Go.RowKit

/-- from the heap H, where the object p has the row v, to the heap H', where it has the row v' -/
structure Kp (p : Nat) (v : Value) (H : LH) (v' : Value) (H' : LH) : Prop where
  n : H.n ≤ H'.n
  keep : ∀ k, k < H.n → k ≠ p → offRow v k → H'.get k = H.get k
  off : ∀ k, k < H.n → k ≠ p → offRow v k → offRow v' k
  base : H'.base = H.base
  ng : H'.ng = H.ng
section
variable {p : Nat} {v v' v1 : Value} {H H' H1 : LH} {B : LB}
theorem Kp.refl : Kp p v H v H := ⟨Nat.le_refl _, fun _ _ _ _ => rfl, fun _ _ _ h => h, rfl, rfl⟩
theorem Kp.trans (h : Kp p v H v1 H1) (k : Kp p v1 H1 v' H') : Kp p v H v' H' :=
  ⟨Nat.le_trans h.n k.n, fun l hl hp ho => (k.keep l (Nat.lt_of_lt_of_le hl h.n) hp (h.off l hl hp ho)).trans (h.keep l hl hp ho),
    fun l hl hp ho => k.off l (Nat.lt_of_lt_of_le hl h.n) hp (h.off l hl hp ho), k.base.trans h.base, k.ng.trans h.ng⟩
theorem Kp.set (ho : ∀ k, offRow v k → offRow v' k) : Kp p v H v' (H.set p B) := ⟨Nat.le_refl _, fun _ _ hp _ => get_set_ne hp, fun k _ _ h => ho k h, rfl, rfl⟩
theorem Kp.new : Kp p v H v (H.new B) := ⟨Nat.le_succ _, fun _ hl _ _ => get_new_ne (by omega), fun _ _ _ h => h, rfl, rfl⟩
/-- what was there ahead of the object -/
theorem Kp.le (h : Kp p v H1 v' H') (hn : H.n ≤ H1.n) (hp : H.n ≤ p) (hv : ∀ k, k < H.n → offRow v k) (hg : ∀ k, k < H.n → H1.get k = H.get k) : H.le H' :=
  ⟨Nat.le_trans hn h.n, fun l hl => (h.keep l (by omega) (by omega) (hv l hl)).trans (hg l hl)⟩
end
end Go.Lg
/-
  The machine of layer 28 (jscript): where it lies.
-/
set_option linter.unusedSimpArgs false
set_option linter.unusedVariables false
namespace Go.Proofs.YtgnefbngkhjfcaaGreatDoor
open Go.Lg Tg.Js

/-- the machine m lies in the block p -/
structure At (p : Nat) (H : LH) (m : M) (v : Value) : Prop where
  get : H.get p = some (mb m v)
  lt : p < H.n
  row : Row 0 H 5 v (m.stack.map bv)
  dom : ∀ l, H.n ≤ l → H.get l = none
  len : (m.stack.length : Int) ≤ (m.depth : Int)
  depth : (m.depth : Int) ≤ 200
structure Post (p : Nat) (H : LH) (m : M) (H' : LH) : Prop where
  at_ : ∃ v, At p H' m v
  fr : ∀ m0 v0 v, At p H m0 v0 → At p H' m v → Kp p v0 H v H'
section
variable {p : Nat} {H H' H1 : LH} {m m' m1 : M} {v v' : Value} {b : UInt8}
theorem mb_inj (h : mb m v = mb m' v') : v = v' := by
  have := congrArg LB.cells h
  simp only [mb, mc, List.cons.injEq] at this
  exact this.2.1
theorem At.same (h : At p H m v) (k : At p H m' v') : v = v' := by
  have h1 := h.get
  rw [k.get] at h1
  injection h1 with h1
  exact (mb_inj h1).symm
theorem At.off (h : At p H m v) : offRow v p := h.row.off_of_elem h.get (by show (67 : Nat) ≠ 5; decide)
theorem Post.trans (h : Post p H m1 H1) (k : Post p H1 m' H') : Post p H m' H' := by
  obtain ⟨v1, a1⟩ := h.at_
  exact ⟨k.at_, fun m0 v0 v a0 a => (h.fr m0 v0 v1 a0 a1).trans (k.fr _ v1 v a1 a)⟩
theorem At.mk_post (h : At p H m v) (k : At p H' m' v') (hk : Kp p v H v' H') : Post p H m' H' :=
  ⟨⟨v', k⟩, fun m0 v0 v2 a0 a => by rw [a0.same h, a.same k]; exact hk⟩
theorem At.post (h : At p H m v) : Post p H m H := h.mk_post h Kp.refl
/-- fields are written, the stack stays -/
theorem At.set (h : At p H m v) (hs : m'.stack = m.stack) (hd : m'.depth = m.depth) : At p (H.set p (mb m' v)) m' v := by
  refine ⟨get_set, h.lt, ?_, fun l hl => ?_, by rw [hs, hd]; exact h.len, by rw [hd]; exact h.depth⟩
  · rw [hs]
    exact h.row.keep (fun k hk hn => get_set_ne (fun e => hn (e ▸ h.off)))
  · rw [get_set_ne (fun e => by have := h.lt; have : H.n ≤ l := hl; omega)]; exact h.dom l hl
theorem At.setPost (h : At p H m v) (hs : m'.stack = m.stack) (hd : m'.depth = m.depth) : Post p H m' (H.set p (mb m' v)) := h.mk_post (h.set hs hd) (Kp.set (fun _ h => h))
theorem At.row_lt (h : At p H m v) {k : Nat} (hn : ¬ offRow v k) : k < H.n := by
  rcases h.row with ⟨rfl, _⟩ | ⟨k', c, rest, rfl, g1, g2, g3⟩
  · exact absurd off_nil hn
  · have : k = k' := by
      refine Classical.byContradiction (fun hne => hn (fun n c' hx => ?_))
      injection hx with hx
      injection hx with hx
      injection hx with hx
      omega
    subst this
    rcases Nat.lt_or_ge k H.n with h1 | h'
    · exact h1
    · rw [h.dom k h'] at g2; cases g2
theorem At.row_off (h : At p H m v) {k : Nat} {B : LB} (hk : H.get k = some B) (hne : B.elem ≠ 5) : offRow v k := h.row.off_of_elem hk hne
/-- a method that hands something back -/
theorem meth_exv {u : Value} {f : FuncId} {fn : Func} {c : Code} {args : List Value} (he : EJ f = none) (hf : Tryz.prog.funcs[f]? = some fn) (hb : fn.body = some c) (hN : args.length ≤ fn.ntmps) (hname : fn.name ≠ "runtime.NumGoroutine") (hcd : codeOk EJ.loud fn.ntmps c = true)
    (h : At p H m v) (hr : Runs Tryz.prog EJ fn [.code c] (enter args) H (fun r => r.1 = u ∧ Post p H m' r.2)) : ∃ H', LC Tryz.prog EJ f args H = some (u, H') ∧ Post p H m' H' := by
  obtain ⟨⟨u', H'⟩, hl, hu, hp⟩ := LC_runs he hf hb hN hname hcd hr
  simp only at hu
  subst hu
  rcases trunc_or u' H H' with e | ⟨e, _, hle⟩
  · exact ⟨H', by rw [hl, e], hp⟩
  · refine ⟨H, by rw [hl, e], ?_⟩
    obtain ⟨⟨v', ha⟩, _⟩ := hp
    have hg := ha.get
    rw [hle.2 p h.lt, h.get] at hg
    injection hg with hg
    have hv := mb_inj hg
    subst hv
    refine h.mk_post ⟨by rw [h.get, hg], h.lt, ?_, h.dom, ha.len, ha.depth⟩ Kp.refl
    exact ha.row.keep (fun k hk hn => (hle.2 k (h.row_lt hn)).symm)
theorem meth_ex {f : FuncId} {fn : Func} {c : Code} {args : List Value} (he : EJ f = none) (hf : Tryz.prog.funcs[f]? = some fn) (hb : fn.body = some c) (hN : args.length ≤ fn.ntmps) (hname : fn.name ≠ "runtime.NumGoroutine") (hcd : codeOk EJ.loud fn.ntmps c = true)
    (h : At p H m v) (hr : Runs Tryz.prog EJ fn [.code c] (enter args) H (fun r => r.1 = .tuple #[] ∧ Post p H m' r.2)) : ∃ H', LC Tryz.prog EJ f args H = some (.tuple #[], H') ∧ Post p H m' H' := meth_exv he hf hb hN hname hcd h hr
theorem At.keep (h : At p H m v) (hn : H.n ≤ H'.n) (hk : ∀ k, k < H.n → (k = p ∨ ¬ offRow v k) → H'.get k = H.get k) (hd : ∀ l, H'.n ≤ l → H'.get l = none) : At p H' m v := by
  refine ⟨by rw [hk p h.lt (.inl rfl)]; exact h.get, Nat.lt_of_lt_of_le h.lt hn, ?_, hd, h.len, h.depth⟩
  exact h.row.keep (fun k hk1 hn1 => hk k (h.row_lt hn1) (.inr hn1))
theorem At.new (h : At p H m v) {B : LB} : At p (H.new B) m v :=
  h.keep (Nat.le_succ _) (fun k hk _ => get_new_ne (by omega)) (fun l hl => by have hl' : H.n + 1 ≤ l := hl; rw [get_new_ne (by omega)]; exact h.dom l (by omega))
theorem At.newPost {B : LB} (h : At p H m v) (s1 : m1.stack = m.stack) (d1 : m1.depth = m.depth) (g1 : m'.stack = m.stack) (g2 : m'.depth = m.depth) : Post p H m' (((H.set p (mb m1 v)).new B).set p (mb m' v)) :=
  h.mk_post (((h.set s1 d1).new (B := B)).set (m' := m') (g1.trans s1.symm) (g2.trans d1.symm)) (((Kp.set (fun _ h => h)).trans Kp.new).trans (Kp.set (fun _ h => h)))
theorem At.newPost' {B : LB} (h : At p H m v) (g1 : m'.stack = m.stack) (g2 : m'.depth = m.depth) : Post p H m' ((H.new B).set p (mb m' v)) :=
  h.mk_post ((h.new (B := B)).set (m' := m') g1 g2) (Kp.new.trans (Kp.set (fun _ h => h)))
/-- one byte more on the stack -/
theorem At.pushed (h : At p H m v) (hc : (m.stack.length : Int) < (m.depth : Int)) : ∃ v' H', lapp Tryz.prog 63 v (some (1, [.int .u8 b.toNat])) (H.new ⟨[.int .u8 b.toNat], 5, true⟩) = some (v', H') ∧ cellB v' = true ∧ H'.get p = some (mb m v) ∧ p < H'.n ∧
    ∀ m'' : M, m''.stack = m.stack ++ [b] → m''.depth = m.depth → Post p H m'' (H'.set p (mb m'' v')) := by
  have h1 := h.new (B := ⟨[.int .u8 b.toNat], 5, true⟩)
  have hdep := h.depth
  obtain ⟨v', H', e1, e2, e3, e4, e5, e6, e7, e8⟩ := Row.push (P := Tryz.prog) (x := .int .u8 b.toNat) h1.row Tryz.underlying63 lesz5 (by simp) (by simp [maxElems]; omega) (Nat.zero_le _) h1.dom
  have hg' : H'.get p = some (mb m v) := by rw [e4 p h1.lt h1.off]; exact h1.get
  have hp' : p < H'.n := Nat.lt_of_lt_of_le h1.lt e3
  refine ⟨v', H', e1, e2.cell, hg', hp', fun m'' g1 g2 => ?_⟩
  have hoff : ∀ k, k < H.n + 1 → offRow v k → offRow v' k := fun k hk ho => e5 k hk ho
  have ha : At p (H'.set p (mb m'' v')) m'' v' := by
    refine ⟨get_set, hp', ?_, fun l hl => ?_, by rw [g1, g2]; simp; omega, by rw [g2]; exact h.depth⟩
    · have := e2.keep (H' := H'.set p (mb m'' v')) (fun k hk hn => get_set_ne (fun e => hn (e ▸ e5 p h1.lt h1.off)))
      rw [g1]
      simpa [bv] using this
    · rw [get_set_ne (fun e => by have : H'.n ≤ l := hl; omega)]; exact e6 l hl
  refine h.mk_post ha ⟨by have : H.n + 1 ≤ H'.n := e3; show H.n ≤ H'.n; omega, fun k hk hkp ho => ?_, fun k hk _ ho => hoff k (by omega) ho, e7, e8⟩
  rw [get_set_ne hkp, e4 k (by show k < H.n + 1; omega) ho, get_new_ne (by omega)]
/-- the last byte of the stack -/
theorem At.last (h : At p H m v) {xs : List UInt8} {t : UInt8} (hs : m.stack = xs ++ [t]) : IntKind.i64.wrap ((m.stack.length : Int) - 1) = xs.length ∧
    (∀ H', ∃ q, lixa Tryz.prog 63 v (.int .i64 xs.length) H' = some (q, H') ∧ lld Tryz.prog 5 q H = some (.int .u8 t.toNat)) ∧
    ∃ v', lpart Tryz.prog 63 v none (some (.int .i64 xs.length)) = some v' ∧ cellB v' = true ∧ ∀ m'' : M, m''.stack = xs → m''.depth = m.depth → ∀ m2 : M, Post p H m'' (H.set p (mb m'' v')) := by
  have hlen := h.len
  have hdep := h.depth
  have hx : (m.stack.map bv).length = xs.length + 1 := by simp [hs]
  have hl2 : m.stack.length = xs.length + 1 := by simp [hs]
  obtain ⟨v', e1, e2, e3⟩ := Row.take (P := Tryz.prog) (kd := .i64) (j := xs.length) h.row Tryz.underlying63 sz5 (by omega) (by omega)
  have hgd : (m.stack.map bv).getD (xs.length : Int).toNat Value.nilFunc = .int .u8 t.toNat := by simp [hs, bv]
  refine ⟨by rw [wrap64_in (by omega) (by omega)]; omega, fun H' => ?_, v', e1, e2.cell, fun m'' g1 g2 _ => ?_⟩
  · obtain ⟨q, f1, f2⟩ := Row.at (P := Tryz.prog) (H' := H') (kd := .i64) (j := xs.length) (d := .nilFunc) h.row Tryz.underlying63 sz5 agg5 (by omega) (by omega)
    rw [hgd] at f2
    exact ⟨q, f1, f2⟩
  · have htk : (m.stack.map bv).take (xs.length : Int).toNat = xs.map bv := by simp [hs]
    rw [htk] at e2
    refine h.mk_post (v' := v') ⟨get_set, h.lt, ?_, fun l hl => ?_, by rw [g1, g2]; omega, by rw [g2]; exact hdep⟩ (Kp.set e3)
    · rw [g1]
      exact e2.keep (fun k hk hn => get_set_ne (fun e => hn (e ▸ e3 p h.off)))
    · rw [get_set_ne (fun e => by have hh : H.n ≤ l := hl; have := h.lt; omega)]; exact h.dom l hl
end
end Go.Proofs.YtgnefbngkhjfcaaGreatDoor
/-
  The machine of layer 28 (jscript): its stack.
-/
set_option linter.unusedSimpArgs false
set_option linter.unusedVariables false
namespace Go.Proofs.YtgnefbngkhjfcaaGreatDoor
open Go.Lg Tg.Js

section
variable {p : Nat} {H H' H1 : LH} {m m' m1 : M} {v v' : Value} {b : UInt8}
theorem fail_ex (h : At p H m v) : Post p H m.fail (H.set p (mb m.fail v)) := h.setPost rfl rfl
theorem push_ex (h : At p H m v) : ∃ H', LC Tryz.prog EJ 109 [ptr p 0, .int .u8 b.toNat] H = some (.tuple #[], H') ∧ Post p H (m.push b) H' := by
  refine meth_ex rfl Tryz.func109 rfl (Nat.le_of_ble_eq_true rfl) (by decide) (by kernel_rfl) h ?_
  have hl := fun H' => h.row.len (H' := H') Tryz.underlying63
  have hg := h.get
  have hp := h.lt
  have hlen := h.len
  by_cases hc : (m.stack.length : Int) = m.depth
  · simp +contextual [hg, hl, fail_l hg h.lt, hc]
    unfold M.push
    rw [if_pos hc]
    exact h.setPost rfl rfl
  · obtain ⟨v', H', e1, hc', hg', hp', key⟩ := h.pushed (b := b) (by omega)
    simp +contextual [hg, hl, hc, e1, hg', hc', hp', ended_s]
    unfold M.push
    rw [if_neg hc]
    exact key _ rfl rfl
set_option maxHeartbeats 4000000 in
theorem pop_ex (h : At p H m v) : ∃ H', LC Tryz.prog EJ 114 [ptr p 0, .int .u8 b.toNat] H = some (.tuple #[], H') ∧ Post p H (m.pop b) H' := by
  refine meth_ex rfl Tryz.func114 rfl (Nat.le_of_ble_eq_true rfl) (by decide) (by kernel_rfl) h ?_
  have hl := fun H' => h.row.len (H' := H') Tryz.underlying63
  have hg := h.get
  have hp := h.lt
  have hlen := h.len
  have hdep := h.depth
  rcases List.eq_nil_or_concat m.stack with hs | ⟨xs, t, hs⟩
  · simp (config := { maxSteps := 4000000 }) +contextual [hg, hl, hs, fail_l hg h.lt]
    simpa [M.pop, hs] using fail_ex h
  · rw [List.concat_eq_append] at hs
    obtain ⟨hw0, hat, v', e1, hcv, key0⟩ := h.last hs
    have key := fun m'' g1 g2 => key0 m'' g1 g2 m
    obtain ⟨q, f1, f2⟩ := hat H
    have hw : IntKind.i64.wrap (xs.length : Int) = xs.length := w64_in (by omega) (by rw [hs] at hlen; simp at hlen; omega)
    have hf := fail_l hg h.lt
    have hpa := fun H => pair_l (H := H) (b := b)
    have hneg : ((xs.length : Int) < 0) = False := eq_false (by omega)
    have hen := fun m l => ended_s (H := H) (m := m) (v := v') (l := l) hp
    have hlast : m.stack.getLast? = some t := by simp [hs]
    have hdrop : m.stack.dropLast = xs := by simp [hs]
    by_cases hb : b = 125
    · have hb' : (b = 125) = True := eq_true hb
      by_cases ht : t = 96
      · have ht' : (t = 96) = True := eq_true ht
        simp (config := { maxSteps := 4000000 }) [hg, hl, hs, hw, e1, f1, f2, hf, hpa, hcv, hen, hp, hneg, hb', ht']
        have hpop : m.pop b = { m with stack := xs, at_ := 4, by_ := 96 } := by simp [M.pop, hlast, hdrop, hb, ht]
        rw [hpop]
        have hk := key ({ m with stack := xs, at_ := 4, by_ := 96 }) rfl rfl
        exact hk
      · have ht' : (t = 96) = False := eq_false ht
        by_cases hq : t = M.pair b
        · have hq' : (t = M.pair b) = True := eq_true hq
          by_cases hx0 : xs = []
          · have hx0' : (xs = []) = True := eq_true hx0
            simp (config := { maxSteps := 4000000 }) [hg, hl, hs, hw, e1, f1, f2, hf, hpa, hcv, hen, hp, hneg, hb', ht', hq', hx0']
            have hq2 : t = M.pair 125 := hb ▸ hq
            have hpop : m.pop b = { ({ m with stack := xs } : M).ended 2 with ends := w64 (m.ends + 1) } := by simp [M.pop, hlast, hdrop, hb, ht', hq2, hs, hx0, M.ended, M.pair]
            rw [hpop]
            have hk := key ({ ({ m with stack := xs } : M).ended 2 with ends := w64 (m.ends + 1) }) rfl rfl
            exact hk
          · simp (config := { maxSteps := 4000000 }) [hg, hl, hs, hw, e1, f1, f2, hf, hpa, hcv, hen, hp, hneg, hb', ht', hq', hx0]
            have hq2 : t = M.pair 125 := hb ▸ hq
            have hpop : m.pop b = ({ m with stack := xs } : M).ended 2 := by simp [M.pop, hlast, hdrop, hb, ht', hq2, hs, hx0, M.ended, M.pair]
            rw [hpop]
            have hk := key (({ m with stack := xs } : M).ended 2) rfl rfl
            exact hk
        · have hq' : (t = M.pair b) = False := eq_false hq
          simp (config := { maxSteps := 4000000 }) [hg, hl, hs, hw, e1, f1, f2, hf, hpa, hcv, hen, hp, hneg, hb', ht', hq']
          have hpop : m.pop b = m.fail := by
            unfold M.pop; rw [hlast]
            simp [ht', hq']
          rw [hpop]
          exact fail_ex h
    · have hb' : (b = 125) = False := eq_false hb
      by_cases hq : t = M.pair b
      · have hq' : (t = M.pair b) = True := eq_true hq
        simp (config := { maxSteps := 4000000 }) [hg, hl, hs, hw, e1, f1, f2, hf, hpa, hcv, hen, hp, hneg, hb', hq']
        have hpop : m.pop b = ({ m with stack := xs } : M).ended 1 := by
          unfold M.pop; rw [hlast]
          simp [hb', hq', hdrop]
        rw [hpop]
        have hk := key (({ m with stack := xs } : M).ended 1) rfl rfl
        exact hk
      · have hq' : (t = M.pair b) = False := eq_false hq
        simp (config := { maxSteps := 4000000 }) [hg, hl, hs, hw, e1, f1, f2, hf, hpa, hcv, hen, hp, hneg, hb', hq']
        have hpop : m.pop b = m.fail := by
          unfold M.pop; rw [hlast]
          simp [hb', hq']
        rw [hpop]
        exact fail_ex h
end
end Go.Proofs.YtgnefbngkhjfcaaGreatDoor
/-
  The machine of layer 28 (jscript): its words.
-/
set_option linter.unusedSimpArgs false
set_option linter.unusedVariables false
set_option maxRecDepth 100000
namespace Go.Proofs.YtgnefbngkhjfcaaGreatDoor
open Go.Lg Tg.Js

section
variable {H : LH} {b : UInt8} {l n : Nat} {B : LB} {xs : List (List UInt8)} {s : List UInt8}
theorem trunc_not {v : Value} {H' : LH} (h : flatB v = false) : trunc H (v, H') = (v, H') := by
  unfold trunc; rw [if_neg (by simp [h])]
theorem kw_lit : kwText = [97, 119, 97, 105, 116, 32, 98, 114, 101, 97, 107, 32, 99, 97, 115, 101, 32, 99, 97, 116, 99, 104, 32, 99, 108, 97, 115, 115, 32, 99, 111, 110, 115, 116, 32, 99, 111, 110, 116, 105, 110, 117, 101, 32, 100, 101, 102, 97, 117, 108, 116, 32, 100, 101, 108, 101, 116, 101, 32, 100, 111, 32, 101, 108, 115, 101, 32, 101, 120, 112, 111, 114, 116, 32, 101, 120, 116, 101, 110, 100, 115, 32, 102, 105, 110, 97, 108, 108, 121, 32, 102, 111, 114, 32, 102, 114, 111, 109, 32, 102, 117, 110, 99, 116, 105, 111, 110, 32, 103, 101, 116, 32, 105, 102, 32, 105, 109, 112, 111, 114, 116, 32, 105, 110, 32, 105, 110, 115, 116, 97, 110, 99, 101, 111, 102, 32, 108, 101, 116, 32, 110, 101, 119, 32, 111, 102, 32, 114, 101, 116, 117, 114, 110, 32, 115, 101, 116, 32, 115, 116, 97, 116, 105, 99, 32, 115, 119, 105, 116, 99, 104, 32, 116, 104, 114, 111, 119, 32, 116, 114, 121, 32, 116, 121, 112, 101, 111, 102, 32, 118, 97, 114, 32, 118, 111, 105, 100, 32, 119, 104, 105, 108, 101, 32, 119, 105, 116, 104, 32, 121, 105, 101, 108, 100, 32, 97, 115, 121, 110, 99, 32, 97, 115] := by decide +kernel
theorem fields_k (ht : Tab H) : LC Tryz.prog EJ 121 [str [97, 119, 97, 105, 116, 32, 98, 114, 101, 97, 107, 32, 99, 97, 115, 101, 32, 99, 97, 116, 99, 104, 32, 99, 108, 97, 115, 115, 32, 99, 111, 110, 115, 116, 32, 99, 111, 110, 116, 105, 110, 117, 101, 32, 100, 101, 102, 97, 117, 108, 116, 32, 100, 101, 108, 101, 116, 101, 32, 100, 111, 32, 101, 108, 115, 101, 32, 101, 120, 112, 111, 114, 116, 32, 101, 120, 116, 101, 110, 100, 115, 32, 102, 105, 110, 97, 108, 108, 121, 32, 102, 111, 114, 32, 102, 114, 111, 109, 32, 102, 117, 110, 99, 116, 105, 111, 110, 32, 103, 101, 116, 32, 105, 102, 32, 105, 109, 112, 111, 114, 116, 32, 105, 110, 32, 105, 110, 115, 116, 97, 110, 99, 101, 111, 102, 32, 108, 101, 116, 32, 110, 101, 119, 32, 111, 102, 32, 114, 101, 116, 117, 114, 110, 32, 115, 101, 116, 32, 115, 116, 97, 116, 105, 99, 32, 115, 119, 105, 116, 99, 104, 32, 116, 104, 114, 111, 119, 32, 116, 114, 121, 32, 116, 121, 112, 101, 111, 102, 32, 118, 97, 114, 32, 118, 111, 105, 100, 32, 119, 104, 105, 108, 101, 32, 119, 105, 116, 104, 32, 121, 105, 101, 108, 100, 32, 97, 115, 121, 110, 99, 32, 97, 115]] H = some (sl H.n 39 39, H.new ⟨keywords.map str, 9, true⟩) := by
  rw [← kw_lit]; exact fields_l ht
theorem keywords_l (ht : Tab H) : LC Tryz.prog EJ 116 [] H = some (sl H.n 39 39, H.new ⟨keywords.map str, 9, true⟩) := by
  obtain ⟨r, h, e⟩ := LC_runs (Q := fun r => r = (sl H.n 39 39, H.new ⟨keywords.map str, 9, true⟩)) (P := Tryz.prog) (E := EJ) (H := H) (args := []) rfl Tryz.func116 rfl (Nat.le_of_ble_eq_true rfl) (by decide) (by kernel_rfl) (by simp [fields_k ht])
  rw [h, e, trunc_not (by simp [flatB, flat1B, atomB])]
/-- where a text stands first among others, from a place on -/
def find (s : List UInt8) : List (List UInt8) → Int → Int
  | [], _ => -1
  | x :: xs, k => if s = x then k else find s xs (k + 1)
theorem index_l (h : H.get l = some B) (hb : B.cells = xs.map str) (hn : xs.length ≤ 1048576) : LC Tryz.prog EJ 120 [sl l xs.length n, str s] H = some (.int .i64 (find s xs 0), H) := by
  refine LC_pure rfl Tryz.func120 rfl (Nat.le_of_ble_eq_true rfl) (by decide) (by kernel_rfl) rfl ?_
  simp +contextual
  refine loop_ind (fun (i : Nat) fr' H' => fr' 0 = sl l xs.length n ∧ fr' 1 = str s ∧ fr' 7 = .int .i64 xs.length ∧ fr' 8 = .int .i64 i ∧ i ≤ xs.length ∧ find s (xs.drop i) i = find s xs 0 ∧ H' = H) (fun i => xs.length - i) 0 (by simp) ?_
  rintro i fr' H' ⟨h0, h1, h7, h8, hi, hh, rfl⟩ ih
  by_cases hlt : i < xs.length
  · obtain ⟨x, hx⟩ : ∃ x, xs[i]? = some x := ⟨_, List.getElem?_eq_getElem hlt⟩
    have hd : xs.drop i = x :: xs.drop (i + 1) := by
      rw [List.drop_eq_getElem_cons hlt]
      rw [List.getElem?_eq_getElem hlt] at hx
      injection hx with hx
      rw [hx]
    have hc : B.cells[i]? = some (str x) := by rw [hb]; simp [hx]
    have hw : IntKind.i64.wrap ((i : Int) + 1) = ((i + 1 : Nat) : Int) := by rw [wrap64_in (by omega) (by omega)]; omega
    rw [hd, find] at hh
    by_cases hs : s = x
    · have hs' : (s = x) = True := eq_true hs
      rw [if_pos hs] at hh
      simp [h0, h1, h7, h8, hlt, h, hc, hs', ← hh]
    · have hs' : (s = x) = False := eq_false hs
      rw [if_neg hs] at hh
      simp [h0, h1, h7, h8, hlt, h, hc, hs', hw]
      exact ih (i + 1) _ _ (by omega) ⟨by simp [h0], by simp [h1], by simp [h7], by simp, hlt, by simpa using hh, rfl⟩
  · have hd : xs.drop i = [] := List.drop_eq_nil_of_le (by omega)
    rw [hd, find] at hh
    simp [h0, h1, h7, h8, hlt, ← hh]
theorem find_mem : ∀ (xs : List (List UInt8)) (k : Int), 0 ≤ k → (0 ≤ find s xs k ↔ s ∈ xs)
  | [], k, h => by simp [find]
  | x :: xs, k, h => by
    unfold find
    by_cases hs : s = x
    · simp [hs, h]
    · rw [if_neg hs, find_mem xs (k + 1) (by omega)]; simp [hs]
theorem contains_l (h : H.get l = some B) (hb : B.cells = xs.map str) (hn : xs.length ≤ 1048576) : LC Tryz.prog EJ 115 [sl l xs.length n, str s] H = some (.bool (xs.contains s), H) := by
  refine LC_pure rfl Tryz.func115 rfl (Nat.le_of_ble_eq_true rfl) (by decide) (by kernel_rfl) rfl ?_
  have hi := index_l (s := s) (n := n) h hb hn
  have := find_mem (s := s) xs 0 (by decide)
  simp [hi, this]
theorem kw_len : keywords.length = 39 := by decide +kernel
theorem isKeyword_l (ht : Tab H) : LC Tryz.prog EJ 107 [str s] H = some (.bool (isKeyword s), H) := by
  refine LC_pure rfl Tryz.func107 rfl (Nat.le_of_ble_eq_true rfl) (by decide) (by kernel_rfl) rfl ?_
  have hk := keywords_l ht
  have hc := contains_l (H := H.new ⟨keywords.map str, 9, true⟩) (l := H.n) (n := 39) (s := s) (xs := keywords) get_new rfl (by rw [kw_len]; decide)
  rw [kw_len] at hc
  simp [hk, hc, isKeyword, le_refl.new]
end
end Go.Proofs.YtgnefbngkhjfcaaGreatDoor
/-
  The machine of layer 28 (jscript): a byte.
-/
set_option linter.unusedSimpArgs false
set_option linter.unusedVariables false
set_option maxRecDepth 100000
namespace Go.Proofs.YtgnefbngkhjfcaaGreatDoor
open Go.Lg Tg.Js

section
variable {p : Nat} {H H' H1 : LH} {m m' m1 : M} {v v' : Value} {b : UInt8}
theorem signs_lit : signs = [123, 125, 40, 41, 91, 93, 59, 44, 60, 62, 61, 33, 43, 45, 42, 47, 37, 38, 124, 94, 126, 63, 58, 46] := by decide +kernel
theorem signs_l : LC Tryz.prog EJ 98 [str [123, 125, 40, 41, 91, 93, 59, 44, 60, 62, 61, 33, 43, 45, 42, 47, 37, 38, 124, 94, 126, 63, 58, 46], .int .u8 b.toNat] H = some (.int .i64 (Lib.indexByte signs b), H) := by
  rw [← signs_lit]; exact indexByte_l
set_option maxHeartbeats 4000000 in
theorem sign_ex (h : At p H m v) : ∃ H', LC Tryz.prog EJ 106 [ptr p 0, .int .u8 b.toNat] H = some (.tuple #[], H') ∧ Post p H (m.sign b) H' := by
  refine meth_ex rfl Tryz.func106 rfl (Nat.le_of_ble_eq_true rfl) (by decide) (by kernel_rfl) h ?_
  have hg := h.get
  have hp := h.lt
  have h1 := h.set (m' := m.piece) rfl rfl
  have hq := h.setPost (m' := m.piece) rfl rfl
  obtain ⟨Hu, eu, pu⟩ := push_ex (b := b) h1
  obtain ⟨Ho, eo, po⟩ := pop_ex (b := b) h1
  have pu' := hq.trans pu
  have po' := hq.trans po
  have hpc := piece_l hg hp
  have hl := fun H' => h.row.len (H' := H') Tryz.underlying63
  have hen := fun m l => ended_s (H := H) (m := m) (v := v) (l := l) hp
  by_cases c1 : b = 40 ∨ b = 91 ∨ b = 123
  · have e : m.sign b = m.piece.push b := by unfold M.sign; rw [if_pos c1]
    rw [e]
    rcases c1 with c | c | c
    · have f40 : (b = 40) = True := eq_true c
      have f91 : (b = 91) = False := eq_false (by rw [c]; decide)
      have f123 : (b = 123) = False := eq_false (by rw [c]; decide)
      have f41 : (b = 41) = False := eq_false (by rw [c]; decide)
      have f93 : (b = 93) = False := eq_false (by rw [c]; decide)
      have f125 : (b = 125) = False := eq_false (by rw [c]; decide)
      have f59 : (b = 59) = False := eq_false (by rw [c]; decide)
      simp (config := { maxSteps := 4000000 }) [hpc, eu, f40, f91, f123, f41, f93, f125, f59, pu']
    · have f40 : (b = 40) = False := eq_false (by rw [c]; decide)
      have f91 : (b = 91) = True := eq_true c
      have f123 : (b = 123) = False := eq_false (by rw [c]; decide)
      have f41 : (b = 41) = False := eq_false (by rw [c]; decide)
      have f93 : (b = 93) = False := eq_false (by rw [c]; decide)
      have f125 : (b = 125) = False := eq_false (by rw [c]; decide)
      have f59 : (b = 59) = False := eq_false (by rw [c]; decide)
      simp (config := { maxSteps := 4000000 }) [hpc, eu, f40, f91, f123, f41, f93, f125, f59, pu']
    · have f40 : (b = 40) = False := eq_false (by rw [c]; decide)
      have f91 : (b = 91) = False := eq_false (by rw [c]; decide)
      have f123 : (b = 123) = True := eq_true c
      have f41 : (b = 41) = False := eq_false (by rw [c]; decide)
      have f93 : (b = 93) = False := eq_false (by rw [c]; decide)
      have f125 : (b = 125) = False := eq_false (by rw [c]; decide)
      have f59 : (b = 59) = False := eq_false (by rw [c]; decide)
      simp (config := { maxSteps := 4000000 }) [hpc, eu, f40, f91, f123, f41, f93, f125, f59, pu']
  · have f40 : (b = 40) = False := eq_false (fun c => c1 (.inl c))
    have f91 : (b = 91) = False := eq_false (fun c => c1 (.inr (.inl c)))
    have f123 : (b = 123) = False := eq_false (fun c => c1 (.inr (.inr c)))
    by_cases c2 : b = 41 ∨ b = 93 ∨ b = 125
    · have e : m.sign b = m.piece.pop b := by unfold M.sign; rw [if_neg c1, if_pos c2]
      rw [e]
      rcases c2 with c | c | c
      · have f40 : (b = 40) = False := eq_false (by rw [c]; decide)
        have f91 : (b = 91) = False := eq_false (by rw [c]; decide)
        have f123 : (b = 123) = False := eq_false (by rw [c]; decide)
        have f41 : (b = 41) = True := eq_true c
        have f93 : (b = 93) = False := eq_false (by rw [c]; decide)
        have f125 : (b = 125) = False := eq_false (by rw [c]; decide)
        have f59 : (b = 59) = False := eq_false (by rw [c]; decide)
        simp (config := { maxSteps := 4000000 }) [hpc, eo, f40, f91, f123, f41, f93, f125, f59, po']
      · have f40 : (b = 40) = False := eq_false (by rw [c]; decide)
        have f91 : (b = 91) = False := eq_false (by rw [c]; decide)
        have f123 : (b = 123) = False := eq_false (by rw [c]; decide)
        have f41 : (b = 41) = False := eq_false (by rw [c]; decide)
        have f93 : (b = 93) = True := eq_true c
        have f125 : (b = 125) = False := eq_false (by rw [c]; decide)
        have f59 : (b = 59) = False := eq_false (by rw [c]; decide)
        simp (config := { maxSteps := 4000000 }) [hpc, eo, f40, f91, f123, f41, f93, f125, f59, po']
      · have f40 : (b = 40) = False := eq_false (by rw [c]; decide)
        have f91 : (b = 91) = False := eq_false (by rw [c]; decide)
        have f123 : (b = 123) = False := eq_false (by rw [c]; decide)
        have f41 : (b = 41) = False := eq_false (by rw [c]; decide)
        have f93 : (b = 93) = False := eq_false (by rw [c]; decide)
        have f125 : (b = 125) = True := eq_true c
        have f59 : (b = 59) = False := eq_false (by rw [c]; decide)
        simp (config := { maxSteps := 4000000 }) [hpc, eo, f40, f91, f123, f41, f93, f125, f59, po']
    · have f41 : (b = 41) = False := eq_false (fun c => c2 (.inl c))
      have f93 : (b = 93) = False := eq_false (fun c => c2 (.inr (.inl c)))
      have f125 : (b = 125) = False := eq_false (fun c => c2 (.inr (.inr c)))
      have en := fun m'' g1 g2 => h.setPost (m' := m'') g1 g2
      by_cases c3 : b = 59
      · have f59 := eq_true c3
        by_cases c4 : m.stack = []
        · have e8 : (m.stack = []) = True := eq_true c4
          simp (config := { maxSteps := 4000000 }) [hpc, hl, hen, hp, f40, f91, f123, f41, f93, f125, f59, e8]
          have e : m.sign b = { m.piece.ended 0 with ends := w64 (m.ends + 1) } := by
            unfold M.sign; rw [if_neg c1, if_neg c2, if_pos c3]
            simp [M.ended, M.piece, c4]
          rw [e]
          have hk := en { m.piece.ended 0 with ends := w64 (m.ends + 1) } rfl rfl
          exact hk
        · have e8 : (m.stack = []) = False := eq_false c4
          simp (config := { maxSteps := 4000000 }) [hpc, hl, hen, hp, f40, f91, f123, f41, f93, f125, f59, e8]
          have e : m.sign b = m.piece.ended 0 := by
            unfold M.sign; rw [if_neg c1, if_neg c2, if_pos c3]
            simp [M.ended, M.piece, c4]
          rw [e]
          exact en (m.piece.ended 0) rfl rfl
      · have f59 := eq_false c3
        simp (config := { maxSteps := 4000000 }) [hpc, hl, hen, hp, f40, f91, f123, f41, f93, f125, f59]
        have e : m.sign b = m.piece.ended 0 := by
          unfold M.sign; rw [if_neg c1, if_neg c2, if_neg c3]
        rw [e]
        exact en (m.piece.ended 0) rfl rfl
theorem conv_b {H0 : LH} : lconv Tryz.prog 63 9 (sl H0.n 1 1) (H0.new ⟨[.int .u8 b.toNat], 5, true⟩) = some (str [b]) :=
  lconv_bs (e := 5) Tryz.underlying63 Tryz.underlying9 Tryz.underlying5 get_new (by simp) (by simp)
theorem idx_mem : ∀ (l : List UInt8) (c : UInt8), 0 ≤ Lib.indexByte l c ↔ c ∈ l
  | [], c => by simp [Lib.indexByte]
  | x :: l, c => by
    have ih := idx_mem l c
    have hge := Lib.indexByte_ge l c
    unfold Lib.indexByte
    by_cases hx : x = c
    · simp [hx]
    · have hx1 : (x == c) = false := by simp [hx]
      have hx2 : ¬ c = x := fun e => hx e.symm
      rw [hx1]
      simp only [Bool.false_eq_true, if_false, List.mem_cons, hx2, false_or]
      by_cases h1 : Lib.indexByte l c = -1
      · simp [h1] at ih ⊢; exact ih
      · have : (Lib.indexByte l c == -1) = false := by simp [h1]
        rw [this]
        simp only [Bool.false_eq_true, if_false]
        rw [← ih]; omega
set_option maxHeartbeats 4000000 in
theorem begin_ex (h : At p H m v) : ∃ H', LC Tryz.prog EJ 78 [ptr p 0, .int .u8 b.toNat] H = some (.tuple #[], H') ∧ Post p H (m.begin b) H' := by
  refine meth_ex rfl Tryz.func78 rfl (Nat.le_of_ble_eq_true rfl) (by decide) (by kernel_rfl) h ?_
  have hg := h.get
  have hp := h.lt
  have hne : (p = H.n) = False := eq_false (by omega)
  have hpc := piece_l hg hp
  have hfl := fail_l hg hp
  have hjo := joined_l hg
  have en := fun m'' g1 g2 => h.setPost (m' := m'') g1 g2
  obtain ⟨Hs, es, ps⟩ := sign_ex (b := b) h
  have hf := fun H => feed_l (H := H) (b := b)
  have hw := fun H => white_l (H := H) (b := b)
  have hi := fun H => inner_l (H := H) (b := b)
  have hd := fun H => digit_l (H := H) (b := b)
  have hcb : ∀ B, lconv Tryz.prog 63 9 (sl H.n 1 1) ((H.set p B).new ⟨[.int .u8 b.toNat], 5, true⟩) = some (str [b]) := fun B => conv_b (H0 := H.set p B)
  have hgn : ∀ A B, ((H.set p A).new B).get p = some A := fun A B => by rw [get_new_ne (by show p ≠ H.n; omega), get_set]
  by_cases c1 : feedB b = true
  · simp (config := { maxSteps := 4000000 }) [hf, c1, hg, hp]
    have e : m.begin b = { m with broken := true } := by unfold M.begin; rw [if_pos c1]
    rw [e]; exact en { m with broken := true } rfl rfl
  rw [Bool.not_eq_true] at c1
  by_cases c2 : white b = true
  · simp (config := { maxSteps := 4000000 }) [hf, hw, c1, c2, hg, hp]
    have e : m.begin b = m := by unfold M.begin; simp [c1, c2]
    rw [e]; exact h.post
  rw [Bool.not_eq_true] at c2
  by_cases c3 : inner b = true
  · by_cases c4 : m.joined = true
    · simp (config := { maxSteps := 4000000 }) [hf, hw, hi, hjo, hfl, c1, c2, c3, c4, hg, hp]
      have e : m.begin b = m.fail := by unfold M.begin; simp [c1, c2, c3, c4]
      rw [e]; exact en m.fail rfl rfl
    · rw [Bool.not_eq_true] at c4
      by_cases c5 : digit b = true
      · simp (config := { maxSteps := 4000000 }) [hf, hw, hi, hd, hjo, hpc, hcb, c1, c2, c3, c4, c5, hg, hp, hgn]
        have e : m.begin b = { m.piece with at_ := 2, said := [b] } := by unfold M.begin; simp [c1, c2, c3, c4, c5]
        rw [e]; exact h.newPost (m1 := m.piece) (m' := { m.piece with at_ := 2, said := [b] }) rfl rfl rfl rfl
      · rw [Bool.not_eq_true] at c5
        simp (config := { maxSteps := 4000000 }) [hf, hw, hi, hd, hjo, hpc, hcb, c1, c2, c3, c4, c5, hg, hp, hgn]
        have e : m.begin b = { m.piece with at_ := 1, said := [b] } := by unfold M.begin; simp [c1, c2, c3, c4, c5]
        rw [e]; exact h.newPost (m1 := m.piece) (m' := { m.piece with at_ := 1, said := [b] }) rfl rfl rfl rfl
  rw [Bool.not_eq_true] at c3
  by_cases c34 : b = 34 ∨ b = 39
  · have e : m.begin b = if m.joined then m.fail else { m.piece with at_ := 3, by_ := b } := by unfold M.begin; simp [c1, c2, c3, c34]
    rw [e]
    by_cases c4 : m.joined = true
    · rw [if_pos c4]
      rcases c34 with c | c
      · have f34 : (b = 34) = True := eq_true c
        simp (config := { maxSteps := 4000000 }) [hf, hw, hi, hjo, hfl, hpc, c1, c2, c3, hg, hp, c4, f34]
        exact en m.fail rfl rfl
      · have f34 : (b = 34) = False := eq_false (by rw [c]; decide)
        have f39 : (b = 39) = True := eq_true c
        simp (config := { maxSteps := 4000000 }) [hf, hw, hi, hjo, hfl, hpc, c1, c2, c3, hg, hp, c4, f34, f39]
        exact en m.fail rfl rfl
    · rw [if_neg c4]
      rw [Bool.not_eq_true] at c4
      rcases c34 with c | c
      · have f34 : (b = 34) = True := eq_true c
        simp (config := { maxSteps := 4000000 }) [hf, hw, hi, hjo, hfl, hpc, c1, c2, c3, hg, hp, c4, f34]
        exact en { m.piece with at_ := 3, by_ := b } rfl rfl
      · have f34 : (b = 34) = False := eq_false (by rw [c]; decide)
        have f39 : (b = 39) = True := eq_true c
        simp (config := { maxSteps := 4000000 }) [hf, hw, hi, hjo, hfl, hpc, c1, c2, c3, hg, hp, c4, f34, f39]
        exact en { m.piece with at_ := 3, by_ := b } rfl rfl
  have f34 : (b = 34) = False := eq_false (fun c => c34 (.inl c))
  have f39 : (b = 39) = False := eq_false (fun c => c34 (.inr c))
  by_cases c96 : b = 96
  · have f96 := eq_true c96
    simp (config := { maxSteps := 4000000 }) [hf, hw, hi, hjo, hfl, hpc, c1, c2, c3, hg, hp, f34, f39, f96]
    have e : m.begin b = { m.piece with at_ := 4, by_ := b } := by unfold M.begin; simp [c1, c2, c3, f34, f39, f96]
    rw [e]
    exact en { m.piece with at_ := 4, by_ := b } rfl rfl
  have f96 := eq_false c96
  by_cases c47 : b = 47
  · have f47 := eq_true c47
    simp (config := { maxSteps := 4000000 }) [hf, hw, hi, hjo, hfl, hpc, c1, c2, c3, hg, hp, f34, f39, f96, f47]
    have e : m.begin b = { m with at_ := 9 } := by unfold M.begin; simp [c1, c2, c3, f34, f39, f96, f47]
    rw [e]
    exact en { m with at_ := 9 } rfl rfl
  have f47 := eq_false c47
  have hss := fun H => signs_l (H := H) (b := b)
  have hbody : m.begin b = if b = 60 ∧ m.pieces = 0 then { m with at_ := 13 } else if signs.contains b then m.sign b else m.fail := by
    unfold M.begin; simp [c1, c2, c3, f34, f39, f96, f47]
  rw [hbody]
  have hmem := idx_mem signs b
  by_cases c60 : b = 60
  · have f60 := eq_true c60
    by_cases c0 : m.pieces = 0
    · simp (config := { maxSteps := 4000000 }) [hf, hw, hi, hfl, c1, c2, c3, hg, hp, f34, f39, f96, f47, f60, c0]
      have hk := en { m with at_ := 13 } rfl rfl
      simpa [c0] using hk
    · by_cases cs : 0 ≤ Lib.indexByte signs b
      · have cs' := eq_true cs
        simp (config := { maxSteps := 4000000 }) [hf, hw, hi, hfl, c1, c2, c3, hg, hp, f34, f39, f96, f47, f60, c0, hss, cs', es]
        exact (by rw [if_pos (hmem.1 cs)]; exact ps)
      · have cs' := eq_false cs
        simp (config := { maxSteps := 4000000 }) [hf, hw, hi, hfl, c1, c2, c3, hg, hp, f34, f39, f96, f47, f60, c0, hss, cs']
        exact (by rw [if_neg (fun hh => cs (hmem.2 hh))]; exact en m.fail rfl rfl)
  · have f60 := eq_false c60
    by_cases cs : 0 ≤ Lib.indexByte signs b
    · have cs' := eq_true cs
      simp (config := { maxSteps := 4000000 }) [hf, hw, hi, hfl, c1, c2, c3, hg, hp, f34, f39, f96, f47, f60, hss, cs', es]
      exact (by rw [if_pos (hmem.1 cs)]; exact ps)
    · have cs' := eq_false cs
      simp (config := { maxSteps := 4000000 }) [hf, hw, hi, hfl, c1, c2, c3, hg, hp, f34, f39, f96, f47, f60, hss, cs']
      exact (by rw [if_neg (fun hh => cs (hmem.2 hh))]; exact en m.fail rfl rfl)
end
end Go.Proofs.YtgnefbngkhjfcaaGreatDoor
/-
  The machine of layer 28 (jscript): a byte, second part.
-/
set_option linter.unusedSimpArgs false
set_option linter.unusedVariables false
set_option maxRecDepth 100000
namespace Go.Proofs.YtgnefbngkhjfcaaGreatDoor
open Go.Lg Tg.Js

section
variable {p : Nat} {H H' H1 : LH} {m m' m1 : M} {v v' : Value} {b : UInt8}
theorem inDollar_ex (h : At p H m v) : ∃ H', LC Tryz.prog EJ 80 [ptr p 0, .int .u8 b.toNat] H = some (.tuple #[], H') ∧ Post p H (m.inDollar b) H' := by
  refine meth_ex rfl Tryz.func80 rfl (Nat.le_of_ble_eq_true rfl) (by decide) (by kernel_rfl) h ?_
  have hg := h.get
  have hp := h.lt
  have h1 := h.set (m' := { m with at_ := 4 }) rfl rfl
  have hq := h.setPost (m' := { m with at_ := 4 }) rfl rfl
  obtain ⟨Hu, eu, pu⟩ := push_ex (b := 96) h1
  have pu' := hq.trans pu
  have eu' : LC Tryz.prog EJ 109 [ptr p 0, .int .u8 96] (H.set p (mb { m with at_ := 4 } v)) = some (.tuple #[], Hu) := eu
  have hit := inText_s (H := H) (m := { m with at_ := 4 }) (v := v) (b := b) hp
  have en := fun m'' g1 g2 => h.setPost (m' := m'') g1 g2
  by_cases c : b = 123
  · have c' := eq_true c
    simp (config := { maxSteps := 4000000 }) [hg, hp, c', eu']
    have e : m.inDollar b = ({ m with at_ := 4 } : M).push 96 := by unfold M.inDollar; simp [c]
    rw [e]; exact pu'
  · have c' := eq_false c
    simp (config := { maxSteps := 4000000 }) [hg, hp, c', hit]
    have e : m.inDollar b = ({ m with at_ := 4 } : M).inText b := by unfold M.inDollar; simp [c]
    rw [e]
    refine en _ ?_ ?_
    · unfold M.inText; repeat' split
      all_goals rfl
    · unfold M.inText; repeat' split
      all_goals rfl
theorem inText_stack (m : M) (b : UInt8) : (m.inText b).stack = m.stack ∧ (m.inText b).depth = m.depth := by
  unfold M.inText; repeat' split
  all_goals exact ⟨rfl, rfl⟩
theorem inSlash_ex (h : At p H m v) : ∃ H', LC Tryz.prog EJ 81 [ptr p 0, .int .u8 b.toNat] H = some (.tuple #[], H') ∧ Post p H (m.inSlash b) H' := by
  refine meth_ex rfl Tryz.func81 rfl (Nat.le_of_ble_eq_true rfl) (by decide) (by kernel_rfl) h ?_
  have hg := h.get
  have hp := h.lt
  have en := fun m'' g1 g2 => h.setPost (m' := m'') g1 g2
  by_cases c1 : b = 47
  · have f1 := eq_true c1
    simp (config := { maxSteps := 4000000 }) [hg, hp, f1]
    have e : m.inSlash b = { m with at_ := 10 } := by unfold M.inSlash; simp [c1]
    rw [e]; exact en { m with at_ := 10 } rfl rfl
  have f1 := eq_false c1
  by_cases c2 : b = 42
  · have f2 := eq_true c2
    simp (config := { maxSteps := 4000000 }) [hg, hp, f1, f2]
    have e : m.inSlash b = { m with at_ := 11 } := by unfold M.inSlash; simp [c2]
    rw [e]; exact en { m with at_ := 11 } rfl rfl
  have f2 := eq_false c2
  by_cases c3 : m.last = 1 ∨ m.last = 2
  · obtain ⟨Hs, es, ps⟩ := sign_ex (b := 47) h
    have es' : LC Tryz.prog EJ 106 [ptr p 0, .int .u8 47] H = some (.tuple #[], Hs) := es
    obtain ⟨v2, h2⟩ := ps.at_
    obtain ⟨Hb, eb, pb⟩ := begin_ex (b := b) h2
    have e : m.inSlash b = (m.sign 47).begin b := by unfold M.inSlash; rw [if_neg c1, if_neg c2, if_pos c3]
    rw [e]
    have pp := ps.trans pb
    by_cases c4 : m.last = 1
    · have f4 := eq_true c4
      simp (config := { maxSteps := 4000000 }) [hg, hp, f1, f2, f4, es', eb]
      exact pp
    · have f4 := eq_false c4
      have f5 : (m.last = 2) = True := eq_true (c3.resolve_left c4)
      simp (config := { maxSteps := 4000000 }) [hg, hp, f1, f2, f4, f5, es', eb]
      exact pp
  · have f4 : (m.last = 1) = False := eq_false (fun c => c3 (.inl c))
    have f5 : (m.last = 2) = False := eq_false (fun c => c3 (.inr c))
    have hpc := piece_l hg hp
    have hit := inText_s (H := H) (m := { m.piece with at_ := 6, by_ := 47 }) (v := v) (b := b) hp
    simp (config := { maxSteps := 4000000 }) [hg, hp, f1, f2, f4, f5, hpc, hit]
    have e : m.inSlash b = ({ m.piece with at_ := 6, by_ := 47 } : M).inText b := by unfold M.inSlash; rw [if_neg c1, if_neg c2, if_neg c3]
    rw [e]
    exact en _ (inText_stack _ _).1 (inText_stack _ _).2
end
end Go.Proofs.YtgnefbngkhjfcaaGreatDoor
/-
  The machine of layer 28 (jscript): a byte within a word.
-/
set_option linter.unusedSimpArgs false
set_option linter.unusedVariables false
set_option maxRecDepth 100000
namespace Go.Proofs.YtgnefbngkhjfcaaGreatDoor
open Go.Lg Tg.Js

section
variable {p : Nat} {H H' H1 : LH} {m m' m1 : M} {v v' : Value} {b : UInt8}
theorem inWord_ex (h : At p H m v) (ht : Tab H) : ∃ H', LC Tryz.prog EJ 79 [ptr p 0, .int .u8 b.toNat] H = some (.tuple #[], H') ∧ Post p H (m.inWord b) H' := by
  refine meth_ex rfl Tryz.func79 rfl (Nat.le_of_ble_eq_true rfl) (by decide) (by kernel_rfl) h ?_
  have hg := h.get
  have hp := h.lt
  have hi := fun H => inner_l (H := H) (b := b)
  have hkw := fun s => isKeyword_l (s := s) ht
  have hcb : lconv Tryz.prog 63 9 (sl H.n 1 1) (H.new ⟨[.int .u8 b.toNat], 5, true⟩) = some (str [b]) := conv_b (H0 := H)
  have hgn : ∀ B, (H.new B).get p = some (mb m v) := fun B => by rw [get_new_ne (by omega)]; exact hg
  have grow : ∀ (hc : inner b = true ∨ m.at_ = 2 ∧ b = 46), m.inWord b = if (m.said.length : Int) ≤ 10 then { m with said := m.said ++ [b] } else m := fun hc => by
    unfold M.inWord; rw [if_pos hc]
  have hkr := fun s => isKeyword_l (H := H.ro) (s := s) ht
  have en := fun m'' g1 g2 => h.setPost (m' := m'') g1 g2
  have hla : ∀ (hc : (m.said.length : Int) ≤ 10), (m.said.length + 1 ≤ 9223372036854775807) = True := fun hc => eq_true (by omega)
  have bad : ∀ (c1 : inner b = false) (c2 : ¬ (m.at_ = 2 ∧ b = 46)), m.inWord b = if m.at_ = 1 ∧ isKeyword m.said then (m.ended 3).begin b else (m.ended 1).begin b := fun c1 c2 => by
    unfold M.inWord; rw [if_neg (fun hc => by rcases hc with hc | hc; (rw [c1] at hc; cases hc); exact c2 hc)]
  by_cases c1 : inner b = true
  · rw [grow (.inl c1)]
    by_cases c2 : (m.said.length : Int) ≤ 10
    · have f2 := eq_true c2
      rw [if_pos c2]
      simp (config := { maxSteps := 4000000 }) [hg, hp, hi, c1, f2, hcb, hgn, hla c2]
      exact h.newPost' rfl rfl
    · have f2 := eq_false c2
      rw [if_neg c2]
      simp (config := { maxSteps := 4000000 }) [hg, hp, hi, c1, f2]
      exact h.post
  rw [Bool.not_eq_true] at c1
  by_cases c3 : m.at_ = 2
  · by_cases c4 : b = 46
    · have f4 := eq_true c4
      rw [grow (.inr ⟨c3, c4⟩)]
      by_cases c2 : (m.said.length : Int) ≤ 10
      · have f2 := eq_true c2
        rw [if_pos c2]
        simp (config := { maxSteps := 4000000 }) [hg, hp, hi, c1, c3, f4, f2, hcb, hgn, hla c2]
        exact h.newPost' rfl rfl
      · have f2 := eq_false c2
        rw [if_neg c2]
        simp (config := { maxSteps := 4000000 }) [hg, hp, hi, c1, c3, f4, f2]
        exact h.post
    · have f4 := eq_false c4
      have h1 := en (m.ended 1) rfl rfl
      obtain ⟨v1, a1⟩ := h1.at_
      obtain ⟨H2, e2, p2⟩ := begin_ex (b := b) a1
      rw [bad c1 (fun hc => c4 hc.2), if_neg (fun hc => by have := hc.1; omega)]
      have hl := ended_l (l := 1) hg hp
      simp (config := { maxSteps := 4000000 }) [hg, hp, hi, c1, c3, f4, hl, e2]
      exact h1.trans p2
  · have f3 := eq_false c3
    by_cases c5 : m.at_ = 1 ∧ isKeyword m.said = true
    · have h1 := en (m.ended 3) rfl rfl
      obtain ⟨v1, a1⟩ := h1.at_
      obtain ⟨H2, e2, p2⟩ := begin_ex (b := b) a1
      rw [bad c1 (fun hc => c3 hc.1), if_pos c5]
      have hl := ended_l (l := 3) hg hp
      simp (config := { maxSteps := 4000000 }) [hg, hp, hi, c1, c5.1, hkw, hkr, c5.2, hl, e2]
      exact h1.trans p2
    · have h1 := en (m.ended 1) rfl rfl
      obtain ⟨v1, a1⟩ := h1.at_
      obtain ⟨H2, e2, p2⟩ := begin_ex (b := b) a1
      rw [bad c1 (fun hc => c3 hc.1), if_neg c5]
      have hl := ended_l (l := 1) hg hp
      by_cases c6 : m.at_ = 1
      · have c7 : isKeyword m.said = false := by
          cases hk : isKeyword m.said with
          | true => exact absurd ⟨c6, hk⟩ c5
          | false => rfl
        simp (config := { maxSteps := 4000000 }) [hg, hp, hi, c1, c6, hkw, hkr, c7, hl, e2]
        exact h1.trans p2
      · have f6 := eq_false c6
        simp (config := { maxSteps := 4000000 }) [hg, hp, hi, c1, f3, f6, hkw, hkr, hl, e2]
        exact h1.trans p2
end
end Go.Proofs.YtgnefbngkhjfcaaGreatDoor
/-
  The machine of layer 28 (jscript): what it tells.
-/
set_option linter.unusedSimpArgs false
set_option linter.unusedVariables false
set_option maxRecDepth 100000
namespace Go.Proofs.YtgnefbngkhjfcaaGreatDoor
open Go.Lg Tg.Js

section
variable {H : LH} {b : UInt8} {l n : Nat} {B : LB} {xs : List Int} {s : Int}
/-- where a number stands first among others, from a place on -/
def findI (s : Int) : List Int → Int → Int
  | [], _ => -1
  | x :: xs, k => if s = x then k else findI s xs (k + 1)
theorem indexI_l (h : H.get l = some B) (hb : B.cells = xs.map (Value.int .i64)) (hn : xs.length ≤ 1048576) : LC Tryz.prog EJ 110 [sl l xs.length n, Value.int .i64 s] H = some (.int .i64 (findI s xs 0), H) := by
  refine LC_pure rfl Tryz.func110 rfl (Nat.le_of_ble_eq_true rfl) (by decide) (by kernel_rfl) rfl ?_
  simp +contextual
  refine loop_ind (fun (i : Nat) fr' H' => fr' 0 = sl l xs.length n ∧ fr' 1 = Value.int .i64 s ∧ fr' 7 = .int .i64 xs.length ∧ fr' 8 = .int .i64 i ∧ i ≤ xs.length ∧ findI s (xs.drop i) i = findI s xs 0 ∧ H' = H) (fun i => xs.length - i) 0 (by simp) ?_
  rintro i fr' H' ⟨h0, h1, h7, h8, hi, hh, rfl⟩ ih
  by_cases hlt : i < xs.length
  · obtain ⟨x, hx⟩ : ∃ x, xs[i]? = some x := ⟨_, List.getElem?_eq_getElem hlt⟩
    have hd : xs.drop i = x :: xs.drop (i + 1) := by
      rw [List.drop_eq_getElem_cons hlt]
      rw [List.getElem?_eq_getElem hlt] at hx
      injection hx with hx
      rw [hx]
    have hc : B.cells[i]? = some (Value.int .i64 x) := by rw [hb]; simp [hx]
    have hw : IntKind.i64.wrap ((i : Int) + 1) = ((i + 1 : Nat) : Int) := by rw [wrap64_in (by omega) (by omega)]; omega
    rw [hd, findI] at hh
    by_cases hs : s = x
    · have hs' : (s = x) = True := eq_true hs
      rw [if_pos hs] at hh
      simp [h0, h1, h7, h8, hlt, h, hc, hs', ← hh]
    · have hs' : (s = x) = False := eq_false hs
      rw [if_neg hs] at hh
      simp [h0, h1, h7, h8, hlt, h, hc, hs', hw]
      exact ih (i + 1) _ _ (by omega) ⟨by simp [h0], by simp [h1], by simp [h7], by simp, hlt, by simpa using hh, rfl⟩
  · have hd : xs.drop i = [] := List.drop_eq_nil_of_le (by omega)
    rw [hd, findI] at hh
    simp [h0, h1, h7, h8, hlt, ← hh]
theorem findI_mem : ∀ (xs : List Int) (k : Int), 0 ≤ k → (0 ≤ findI s xs k ↔ s ∈ xs)
  | [], k, h => by simp [findI]
  | x :: xs, k, h => by
    unfold findI
    by_cases hs : s = x
    · simp [hs, h]
    · rw [if_neg hs, findI_mem xs (k + 1) (by omega)]; simp [hs]
theorem containsI_l (h : H.get l = some B) (hb : B.cells = xs.map (Value.int .i64)) (hn : xs.length ≤ 1048576) : LC Tryz.prog EJ 85 [sl l xs.length n, Value.int .i64 s] H = some (.bool (xs.contains s), H) := by
  refine LC_pure rfl Tryz.func85 rfl (Nat.le_of_ble_eq_true rfl) (by decide) (by kernel_rfl) rfl ?_
  have hi := indexI_l (s := s) (n := n) h hb hn
  have := findI_mem (s := s) xs 0 (by decide)
  simp [hi, this]
theorem tell_g {p : Nat} {m : M} {v : Value} {B0 : LB} (hg : H.get p = some B0) (hc0 : B0.cells = (mb m v).cells) (hp : p < H.n) (hl : ∀ H', lbuiltin Tryz.prog .len [63] [v] H' = some (.int .i64 (m.stack.map bv).length, H')) : LC Tryz.prog EJ 49 [ptr p 0] H = some (.int .i64 m.tell, H) := by
  refine LC_pure rfl Tryz.func49 rfl (Nat.le_of_ble_eq_true rfl) (by decide) (by kernel_rfl) rfl ?_
  have hgn : ∀ B, (H.new B).get p = some B0 := fun B => by rw [get_new_ne (by omega)]; exact hg
  by_cases c1 : m.bad = true
  · simp (config := { maxSteps := 4000000 }) [hg, hc0, hp, c1, M.tell]
  · rw [Bool.not_eq_true] at c1
    by_cases c2 : m.stack = []
    · have f2 := eq_true c2
      have hc : LC Tryz.prog EJ 85 [sl H.n 5 5, .int .i64 m.at_] (H.new ⟨[.int .i64 0, .int .i64 1, .int .i64 2, .int .i64 8, .int .i64 10], 3, true⟩) = some (.bool (([0, 1, 2, 8, 10] : List Int).contains m.at_), H.new ⟨[.int .i64 0, .int .i64 1, .int .i64 2, .int .i64 8, .int .i64 10], 3, true⟩) :=
        containsI_l (l := H.n) (n := 5) (s := m.at_) (xs := [0, 1, 2, 8, 10]) get_new rfl (by decide)
      by_cases c3 : (([0, 1, 2, 8, 10] : List Int).contains m.at_) = true
      · have e : m.tell = 2 := by
          unfold M.tell; rw [c1, if_neg (by simp), if_pos ⟨c2, by simpa using c3⟩]
        rw [c3] at hc
        simp (config := { maxSteps := 4000000 }) [hg, hc0, hp, c1, hl, f2, hgn, hc, e, le_refl.new]
      · rw [Bool.not_eq_true] at c3
        have e : m.tell = 1 := by
          unfold M.tell; rw [c1, if_neg (by simp), if_neg (fun hh => by
            have h2 := hh.2
            have : (([0, 1, 2, 8, 10] : List Int).contains m.at_) = true := by simpa using h2
            rw [this] at c3; cases c3)]
        rw [c3] at hc
        simp (config := { maxSteps := 4000000 }) [hg, hc0, hp, c1, hl, f2, hgn, hc, e, le_refl.new]
    · have f2 := eq_false c2
      simp (config := { maxSteps := 4000000 }) [hg, hc0, hp, c1, hl, f2, hgn, M.tell]
theorem tell_l {p : Nat} {m : M} {v : Value} (h : At p H m v) : LC Tryz.prog EJ 49 [ptr p 0] H = some (.int .i64 m.tell, H) :=
  tell_g h.get rfl h.lt (fun H' => h.row.len (H' := H') Tryz.underlying63)
theorem tell_ro {p : Nat} {m : M} {v : Value} (h : At p H m v) : LC Tryz.prog EJ 49 [ptr p 0] H.ro = some (.int .i64 m.tell, H.ro) :=
  tell_g (B0 := { mb m v with rw := false }) (by rw [get_ro, h.get]; rfl) rfl h.lt (fun H' => h.row.len (H' := H') Tryz.underlying63)
end
end Go.Proofs.YtgnefbngkhjfcaaGreatDoor
/-
  The machine of layer 28 (jscript): a new one.
-/
set_option linter.unusedSimpArgs false
set_option linter.unusedVariables false
set_option maxRecDepth 100000
namespace Go.Proofs.YtgnefbngkhjfcaaGreatDoor
open Go.Lg Tg.Js

section
variable {H : LH}
@[simp] theorem atom_int {k : IntKind} {n : Int} : atomB (.int k n) = true := by simp only [atomB]
@[simp] theorem atom_bool {x : Bool} : atomB (.bool x) = true := by simp only [atomB]
@[simp] theorem atom_str {l : List UInt8} : atomB (str l) = true := by simp only [atomB, str]
@[simp] theorem atom_slice0 : atomB (.slice none 0 0) = true := by simp [atomB]
@[simp] theorem atom_ptr0 : atomB (.pointer none) = true := by simp only [atomB]
@[simp] theorem lfill_cell' {P : Program} {t : TypeId} {cs : List Value} {i : Nat} {q : Nat × Nat × Bool} {v : Value} {ps : List (Nat × Value)} (hf : fldi P t i = some q) (hn : q.2.1 = 1) (hv : cellB v = true) (ho : q.1 < cs.length) : lfill P t cs ((i, v) :: ps) = lfill P t (cs.set q.1 v) ps := by
  obtain ⟨o, n, g⟩ := q
  exact lfill_cell hf hn hv ho
theorem mb_new (d : Int) : (⟨[.int .i64 d, .slice none 0 0, .int .i64 0, .int .u8 0, .bool false, str [], .int .i64 0, .bool false, .bool false, .int .i64 (-1), .int .i64 0, .int .i64 0, .int .i64 0], 67, true⟩ : LB) = mb (new d) (.slice none 0 0) := rfl
theorem new_l {d : Int} (h0 : 0 ≤ d) (h1 : d ≤ 200) : ∃ r, LC Tryz.prog EJ 34 [.int .i64 d] H = some r ∧ r = (.tuple #[ptr H.n 0, .int .i64 0], H.new (mb (new d) (.slice none 0 0))) := by
  obtain ⟨r, h, e⟩ := LC_runs (Q := fun r => r = (.tuple #[ptr H.n 0, .int .i64 0], H.new (mb (new d) (.slice none 0 0)))) (P := Tryz.prog) (E := EJ) (H := H) (args := [.int .i64 d]) rfl Tryz.func34 rfl (Nat.le_of_ble_eq_true rfl) (by decide) (by kernel_rfl) (by
    have f1 : (d < 0) = False := eq_false (by omega)
    have f2 : (200 < d) = False := eq_false (by omega)
    simp (config := { maxSteps := 4000000 }) [f1, f2, mb_new])
  refine ⟨r, ?_, e⟩
  rw [h, e, trunc_not (by simp [flatB, flat1B, atomB])]
end
end Go.Proofs.YtgnefbngkhjfcaaGreatDoor
/-
  The machine of layer 28 (jscript): bytes, pieces, all at once.
-/
set_option linter.unusedSimpArgs false
set_option linter.unusedVariables false
set_option maxRecDepth 100000
namespace Go.Proofs.YtgnefbngkhjfcaaGreatDoor
open Go.Lg Tg.Js

section
variable {p : Nat} {H H' H1 : LH} {m m' m1 : M} {v v' : Value} {b : UInt8} {s : List UInt8}
theorem inRemark_stack (m : M) (b : UInt8) : (m.inRemark b).stack = m.stack ∧ (m.inRemark b).depth = m.depth := by
  unfold M.inRemark; dsimp only; repeat' split
  all_goals exact ⟨rfl, rfl⟩
theorem inLess_stack (m : M) (b : UInt8) : (m.inLess b).stack = m.stack ∧ (m.inLess b).depth = m.depth := by
  unfold M.inLess; repeat' split
  all_goals exact ⟨rfl, rfl⟩
theorem byte_ex (h : At p H m v) (ht : Tab H) : ∃ H', LC Tryz.prog EJ 48 [ptr p 0, .int .u8 b.toNat] H = some (.tuple #[], H') ∧ Post p H (m.byte b) H' := by
  refine meth_ex rfl Tryz.func48 rfl (Nat.le_of_ble_eq_true rfl) (by decide) (by kernel_rfl) h ?_
  have hg := h.get
  have hp := h.lt
  have en := fun m'' (g : m''.stack = m.stack ∧ m''.depth = m.depth) => h.setPost (m' := m'') g.1 g.2
  obtain ⟨H0, e0, p0⟩ := begin_ex (b := b) h
  obtain ⟨H1, e1, p1⟩ := inWord_ex (b := b) h ht
  obtain ⟨H2, e2, p2⟩ := inDollar_ex (b := b) h
  obtain ⟨H3, e3, p3⟩ := inSlash_ex (b := b) h
  have e4 := inRemark_l (b := b) hg hp
  have p4 := en _ (inRemark_stack m b)
  have e5 := inLess_l (b := b) hg hp
  have p5 := en _ (inLess_stack m b)
  have e6 := inText_l (b := b) hg hp
  have p6 := en _ (inText_stack m b)
  unfold M.byte
  by_cases c : m.at_ = 0
  · simp (config := { maxSteps := 4000000 }) [hg, hp, c, e0]; exact p0
  have f0 := eq_false c
  by_cases c : m.at_ = 1
  · simp (config := { maxSteps := 4000000 }) [hg, hp, c, e1]; exact p1
  have f1 := eq_false c
  by_cases c : m.at_ = 2
  · simp (config := { maxSteps := 4000000 }) [hg, hp, c, e1]; exact p1
  have f2 := eq_false c
  by_cases c : m.at_ = 8
  · simp (config := { maxSteps := 4000000 }) [hg, hp, c, e1]; exact p1
  have f8 := eq_false c
  by_cases c : m.at_ = 5
  · simp (config := { maxSteps := 4000000 }) [hg, hp, c, e2]; exact p2
  have f5 := eq_false c
  by_cases c : m.at_ = 9
  · simp (config := { maxSteps := 4000000 }) [hg, hp, c, e3]; exact p3
  have f9 := eq_false c
  by_cases c : m.at_ = 10
  · simp (config := { maxSteps := 4000000 }) [hg, hp, c, e4]; exact p4
  have f10 := eq_false c
  by_cases c : m.at_ = 11
  · simp (config := { maxSteps := 4000000 }) [hg, hp, c, e4]; exact p4
  have f11 := eq_false c
  by_cases c : m.at_ = 12
  · simp (config := { maxSteps := 4000000 }) [hg, hp, c, e4]; exact p4
  have f12 := eq_false c
  by_cases c : m.at_ = 13
  · simp (config := { maxSteps := 4000000 }) [hg, hp, c, e5]; exact p5
  have f13 := eq_false c
  by_cases c : m.at_ = 14
  · simp (config := { maxSteps := 4000000 }) [hg, hp, c, e5]; exact p5
  have f14 := eq_false c
  by_cases c : m.at_ = 15
  · simp (config := { maxSteps := 4000000 }) [hg, hp, c, e5]; exact p5
  have f15 := eq_false c
  simp (config := { maxSteps := 4000000 }) [hg, hp, f0, f1, f2, f8, f5, f9, f10, f11, f12, f13, f14, f15, e6]
  exact p6
theorem Tab.post {m0 : M} (ht : Tab H) (h0 : At p H m0 v) (hp : Post p H m H') : Tab H' := by
  obtain ⟨v', a⟩ := hp.at_
  have k := hp.fr _ _ _ h0 a
  exact ⟨by rw [k.ng]; exact ht.1, by rw [k.base]; exact ht.2⟩
theorem feed_take (m : M) (s : List UInt8) {i : Nat} (h : i < s.length) : m.feed (s.take (i + 1)) = (m.feed (s.take i)).step s[i] := by
  rw [List.take_succ_eq_append_getElem h, M.feed_append]; rfl
theorem feed_ex (h : At p H m v) (ht : Tab H) (hs : s.length ≤ 1048576) : ∃ H', LC Tryz.prog EJ 36 [ptr p 0, str s] H = some (.int .i64 (m.feed s).tell, H') ∧ Post p H (m.feed s) H' := by
  refine meth_exv rfl Tryz.func36 rfl (Nat.le_of_ble_eq_true rfl) (by decide) (by kernel_rfl) h ?_
  simp
  refine loop_ind (fun (i : Nat) fr' H' => fr' 0 = ptr p 0 ∧ fr' 1 = str s ∧ fr' 9 = .int .i64 s.length ∧ fr' 10 = .int .i64 i ∧ i ≤ s.length ∧ Post p H (m.feed (s.take i)) H') (fun i => s.length - i) 0 ?_ ?_
  · exact ⟨by simp, by simp, by simp, by simp, Nat.zero_le _, h.post⟩
  rintro i fr' H' ⟨h0, h1, h9, h10, hi, hpo⟩ ih
  obtain ⟨v1, a1⟩ := hpo.at_
  have hg := a1.get
  have hp := a1.lt
  by_cases hlt : i < s.length
  · have hw : IntKind.i64.wrap ((i : Int) + 1) = ((i + 1 : Nat) : Int) := by rw [wrap64_in (by omega) (by omega)]; omega
    have hat : at_ s i = s[i] := by simp [at_, hlt]
    have hst := feed_take m s hlt
    cases hb : (m.feed (s.take i)).bad with
    | true =>
      rw [M.step_bad _ _ hb] at hst
      have hb' : (!(m.feed (s.take i)).bad) = false := by rw [hb]; rfl
      simp (config := { maxSteps := 4000000 }) [-Bool.not_eq_eq_eq_not, h0, h1, h9, h10, hlt, hg, hp, hb', hw]
      refine ih (i + 1) _ _ (by omega) ⟨by simp [h0], by simp [h1], by simp [h9], by simp, hlt, ?_⟩
      rw [hst]
      exact hpo.trans (a1.setPost rfl rfl)
    | false =>
      rw [M.step_good _ _ hb] at hst
      obtain ⟨H2, e2, p2⟩ := byte_ex (b := s[i]) a1 (ht.post h hpo)
      obtain ⟨v2, a2⟩ := p2.at_
      have hg2 := a2.get
      have hp2 := a2.lt
      simp (config := { maxSteps := 4000000 }) [h0, h1, h9, h10, hlt, hg, hp, hb, hw, hat, e2, hg2, hp2]
      refine ih (i + 1) _ _ (by omega) ⟨by simp [h0], by simp [h1], by simp [h9], by simp, hlt, ?_⟩
      rw [hst]
      exact (hpo.trans p2).trans (a2.setPost rfl rfl)
  · have hi2 : s.take i = s := List.take_of_length_le (by omega)
    rw [hi2] at hpo a1
    have e := tell_l a1
    simp [h0, h1, h9, h10, hlt, e]
    exact hpo
theorem at_new {d : Int} (h0 : 0 ≤ d) (h1 : d ≤ 200) (hd : ∀ l, H.n ≤ l → H.get l = none) : At H.n (H.new (mb (new d) (.slice none 0 0))) (new d) (.slice none 0 0) :=
  ⟨get_new, Nat.lt_succ_self _, .inl ⟨rfl, rfl⟩, fun l hl => by
    have : H.n + 1 ≤ l := hl
    rw [get_new_ne (by omega)]; exact hd l (by omega), h0, h1⟩
def clamp (d : Int) : Int := if (if d < 0 then 0 else d) > 200 then 200 else (if d < 0 then 0 else d)
end
end Go.Proofs.YtgnefbngkhjfcaaGreatDoor
