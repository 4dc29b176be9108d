/-
  Texts joined, part 6: UrNum, UrGood, UrLens, UrParse, HdCode, HdSeq, LgEq, HdRows, HdRef, HdList, HdText, HdParse, HdLives, DoorH, HdSetC, HdSetR, HdGet, HdGetR, HdSetD, HdDel, HdSort, HdSortB, HdSortR, HdCut, HdGetLaw.
-/
import Derived.Test.YteckofomnhminaaGreatDoorM5
import Derived.Test.YteckofomnhminaaGreatDoorM4
import Derived.MapKept
import Derived.Test.YteckofomnhminaaGreatDoorRows
import Derived.Test.YteckofomnhminaaGreatDoorM1
import Derived.ProofKit
import Derived.WideShapes
import Derived.RowKit
import Derived.ChangeArms
import Derived.LaidMore
import Derived.LaidSub
import Derived.Lib.LaidTab
import Derived.Stop.Joined
import Derived.Shelf.Vars
import Derived.HandedShaped
import Derived.Lay
/-
  Layer 26 (url): what the code's functions come to: ports, and what stands ahead of a byte.
-/
set_option linter.unusedSimpArgs false
set_option linter.unusedVariables false
set_option maxRecDepth 100000
namespace Go.Proofs.YteckofomnhminaaGreatDoor
open Go.Lg Go.Tg
section
open Tg.Nu
variable {H : LH} {b : UInt8} {s t : List UInt8}
theorem digit_l : LC Tryz.prog EJ 125 [.int .u8 b.toNat] H = some (.bool (isD b), H) := Digit_cl
theorem digits_l (hs : s.length ≤ 1048576) : LC Tryz.prog EJ 154 [str s] H = some (.int .i64 ((s.takeWhile isD).length : Nat), H) := by
  refine LC_pure rfl Tryz.func154 rfl (Nat.le_of_ble_eq_true rfl) (by decide) (by kernel_rfl) rfl ?_
  simp
  refine loop_ind (fun (i : Nat) fr' H' => fr' 0 = str s ∧ fr' 3 = .int .i64 i ∧ i ≤ s.length ∧ (s.takeWhile isD).length = i + ((s.drop i).takeWhile isD).length ∧ H' = H) (fun i => s.length - i) 0 (by simp) ?_
  rintro i fr' H' ⟨h0, h3, hi, hr, rfl⟩ ih
  by_cases hlt : i < s.length
  · have hd := List.drop_eq_getElem_cons hlt
    rw [hd, List.takeWhile_cons] at hr
    cases hc : isD s[i] with
    | true =>
      rw [hc, if_pos rfl, List.length_cons] at hr
      have hw : IntKind.i64.wrap ((i : Int) + 1) = ((i + 1 : Nat) : Int) := by rw [wrap64_in (by omega) (by omega)]; omega
      simp [h0, h3, hlt, digit_l, at_in hlt, hc, hw]
      exact ih (i + 1) _ _ (by omega) ⟨by simp [h0], by simp, hlt, by omega, rfl⟩
    | false =>
      rw [hc, if_neg (by simp)] at hr
      simp [h0, h3, hlt, digit_l, at_in hlt, hc]
      simp at hr; omega
  · rw [List.drop_eq_nil_of_le (by omega)] at hr
    simp [h0, h3, hlt]
    simp at hr; omega
theorem value_l (hd : digs s) (hs : s.length ≤ 1048576) : LC Tryz.prog EJ 155 [str s] H = some (.tuple #[.int .i64 (dC s : Nat), .bool (decide (dv 0 s ≤ 9007199254740991))], H) := by
  refine LC_pure rfl Tryz.func155 rfl (Nat.le_of_ble_eq_true rfl) (by decide) (by kernel_rfl) rfl ?_
  simp
  refine loop_ind (fun (i : Nat) fr' H' => fr' 0 = str s ∧ fr' 4 = .int .i64 (dv 0 (s.take i) : Nat) ∧ fr' 7 = .int .i64 s.length ∧ fr' 8 = .int .i64 i ∧ i ≤ s.length ∧ dv 0 (s.take i) ≤ 9007199254740991 ∧ H' = H) (fun i => s.length - i) 0 (by simp [dv]) ?_
  rintro i fr' H' ⟨h0, h4, h7, h8, hi, hm, rfl⟩ ih
  by_cases hlt : i < s.length
  · have hD := hd s[i] (List.getElem_mem hlt)
    simp only [isD, Bool.and_eq_true, decide_eq_true_eq] at hD
    have ht := dv_take s hlt
    have hmono := dv_mono s (i + 1)
    have hw1 : IntKind.i64.wrap ((dv 0 (s.take i) : Int) * 10) = (dv 0 (s.take i) : Int) * 10 := by rw [wrap64_in (by omega) (by omega)]
    have hw2 : IntKind.u8.wrap ((s[i].toNat : Int) - 48) = ((s[i].toNat - 48 : Nat) : Int) := by
      have := s[i].toNat_lt
      rw [show IntKind.u8.wrap ((s[i].toNat : Int) - 48) = ((s[i].toNat : Int) - 48) % 256 from IntKind.wrap_u8 _]; omega
    have hw3 : IntKind.i64.wrap ((s[i].toNat - 48 : Nat) : Int) = ((s[i].toNat - 48 : Nat) : Int) := by rw [wrap64_in (by omega) (by omega)]
    have hw4 : IntKind.i64.wrap ((dv 0 (s.take i) : Int) * 10 + ((s[i].toNat - 48 : Nat) : Int)) = ((dv 0 (s.take (i + 1)) : Nat) : Int) := by rw [wrap64_in (by omega) (by omega)]; omega
    have hw : IntKind.i64.wrap ((i : Int) + 1) = ((i + 1 : Nat) : Int) := by rw [wrap64_in (by omega) (by omega)]; omega
    by_cases hbig : dv 0 (s.take (i + 1)) ≤ 9007199254740991
    · have f := eq_false (show ¬ 9007199254740991 < ((dv 0 (s.take (i + 1)) : Nat) : Int) by omega)
      simp [h0, h4, h7, h8, hlt, at_in hlt, hw1, hw2, hw3, hw4, hw, f]
      exact ih (i + 1) _ _ (by omega) ⟨by simp [h0], by simp, by simp [h7], by simp, hlt, hbig, rfl⟩
    · have f := eq_true (show 9007199254740991 < ((dv 0 (s.take (i + 1)) : Nat) : Int) by omega)
      have e1 : ¬ dv 0 s ≤ 9007199254740991 := by omega
      have e2 : dC s = 9007199254740991 := by unfold dC; rw [if_neg e1]
      simp [h0, h4, h7, h8, hlt, at_in hlt, hw1, hw2, hw3, hw4, hw, f, e1, e2]
  · have e : s.take i = s := List.take_of_length_le (by omega)
    rw [e] at hm h4
    have e2 : dC s = dv 0 s := by unfold dC; rw [if_pos hm]
    simp [h0, h4, h7, h8, hlt, hm, e2]
/-- strings.Cut at one byte -/
theorem cutlite_some {c : UInt8} {o : Nat} (h : Lib.indexByte s c = o) (hs : s.length ≤ 9223372036854775806) : LC Tryz.prog EJ 136 [str s, str [c]] H = some (.tuple #[str (s.take o), str (s.drop (o + 1)), .bool true], H) := by
  refine LC_pure rfl Tryz.func136 rfl (Nat.le_of_ble_eq_true rfl) (by decide) (by kernel_rfl) rfl ?_
  have hlt : o < s.length := (List.getElem?_eq_some_iff.1 (Lib.indexByte_some h).1).1
  have hw : IntKind.i64.wrap ((o : Int) + 1) = (o : Int) + 1 := by rw [wrap64_in (by omega) (by omega)]
  have e1 : ((o : Int) + 1).toNat = o + 1 := by omega
  have f1 := eq_true (show (o : Int) ≤ s.length by omega)
  have f2 := eq_true (show (o : Int) + 1 ≤ s.length by omega)
  have f3 := eq_true (show (0 : Int) ≤ (o : Int) + 1 by omega)
  simp [h, hw, e1, f1, f2, f3]
theorem cutlite_none {c : UInt8} (h : Lib.indexByte s c = -1) : LC Tryz.prog EJ 136 [str s, str [c]] H = some (.tuple #[str s, str [], .bool false], H) := by
  refine LC_pure rfl Tryz.func136 rfl (Nat.le_of_ble_eq_true rfl) (by decide) (by kernel_rfl) rfl ?_
  simp [h]
theorem scut_some {c : UInt8} {o : Nat} (h : Lib.indexByte s c = o) (hs : s.length ≤ 9223372036854775806) : LC Tryz.prog EJ 110 [str s, str [c]] H = some (.tuple #[str (s.take o), str (s.drop (o + 1)), .bool true], H) := by
  refine LC_pure rfl Tryz.func110 rfl (Nat.le_of_ble_eq_true rfl) (by decide) (by kernel_rfl) rfl ?_
  simp [cutlite_some h hs]
theorem scut_none {c : UInt8} (h : Lib.indexByte s c = -1) : LC Tryz.prog EJ 110 [str s, str [c]] H = some (.tuple #[str s, str [], .bool false], H) := by
  refine LC_pure rfl Tryz.func110 rfl (Nat.le_of_ble_eq_true rfl) (by decide) (by kernel_rfl) rfl ?_
  simp [cutlite_none h]

theorem tw_all : ∀ {s : List UInt8}, s.all isD = true → s.takeWhile isD = s
  | [], _ => rfl
  | b :: r, h => by
    simp only [List.all_cons, Bool.and_eq_true] at h
    rw [List.takeWhile_cons, if_pos h.1, tw_all h.2]
theorem tw_lt : ∀ {s : List UInt8}, s.all isD = false → (s.takeWhile isD).length < s.length
  | [], h => by simp at h
  | b :: r, h => by
    rw [List.takeWhile_cons]
    by_cases hb : isD b = true
    · rw [if_pos hb]
      simp only [List.all_cons, hb, Bool.true_and] at h
      have := tw_lt h
      simp; omega
    · rw [if_neg hb]; simp
theorem dparse_cl (hs : s.length ≤ 1048576) : LC Tryz.prog EJ 113 [str s] H = some (.tuple #[.int .i64 (if s = [] ∨ s.all isD = false then 0 else if 9007199254740991 < dv 0 s then 0 else (dv 0 s : Nat)), .int .i64 (if s = [] ∨ s.all isD = false then 2 else if 9007199254740991 < dv 0 s then 9 else 0)], H) := by
  have key : LC Tryz.prog EJ 138 [str s] H = some (.tuple #[.int .i64 (if s = [] ∨ s.all isD = false then 0 else if 9007199254740991 < dv 0 s then 0 else (dv 0 s : Nat)), .int .i64 (if s = [] ∨ s.all isD = false then 2 else if 9007199254740991 < dv 0 s then 9 else 0)], H) := by
    refine LC_pure rfl Tryz.func138 rfl (Nat.le_of_ble_eq_true rfl) (by decide) (by kernel_rfl) rfl ?_
    have h1 := fun H : LH => digits_l (H := H) hs
    by_cases h0 : s = []
    · subst h0; simp
    cases ha : s.all isD with
    | false =>
      have hlt := tw_lt ha
      have q := eq_true (show ((s.takeWhile isD).length : Int) < (s.length : Int) by omega)
      rw [if_pos (.inr rfl), if_pos (.inr rfl)]
      generalize (s.takeWhile isD).length = n at *
      simp [h0, h1, q]
    | true =>
      have e := tw_all ha
      have hd : digs s := fun b hb => List.all_eq_true.mp ha b hb
      have h2 := fun H : LH => value_l (H := H) hd hs
      rw [e] at h1
      by_cases hbig : 9007199254740991 < dv 0 s
      · have hn : ¬ dv 0 s ≤ 9007199254740991 := by omega
        rw [decide_eq_false hn] at h2
        simp [h0, h1, h2, hbig]
      · have hn : dv 0 s ≤ 9007199254740991 := by omega
        have hC : dC s = dv 0 s := by unfold dC; rw [if_pos hn]
        rw [decide_eq_true hn, hC] at h2
        simp [h0, h1, h2, hbig]
  refine LC_pure rfl Tryz.func113 rfl (Nat.le_of_ble_eq_true rfl) (by decide) (by kernel_rfl) rfl ?_
  simp [key]
theorem number_cl (hs : s.length ≤ 1048576) : LC Tryz.prog EJ 88 [str s, str t] H = some (.tuple #[.int .i64 (Tg.Ur.number s t).1, .int .i64 (Tg.Ur.number s t).2], H) := by
  refine LC_pure rfl Tryz.func88 rfl (Nat.le_of_ble_eq_true rfl) (by decide) (by kernel_rfl) rfl ?_
  have h1 := fun H : LH => dparse_cl (H := H) hs
  have ho := fun H : LH => own_l (H := H) (s := t)
  unfold Tg.Ur.number
  by_cases h0 : s = []
  · subst h0; simp
  rw [if_neg h0]
  have hisd : Tg.Ur.isD = isD := rfl
  have hdv : Tg.Ur.dval s = dv 0 s := rfl
  rw [hisd, hdv]
  cases ha : s.all isD with
  | false => simp [ha] at h1; simp [h0, h1]
  | true =>
    simp only [ha, h0, or_false, Bool.true_eq_false, if_false] at h1
    rw [if_neg (by simp)]
    by_cases hbig : 9007199254740991 < dv 0 s
    · simp only [if_pos hbig] at h1 ⊢
      simp [h0, h1]
    · simp only [if_neg hbig] at h1 ⊢
      generalize dv 0 s = n at *
      by_cases hz : n = 0
      · subst hz
        simp [h0, h1]
      · have qz := eq_false (show ¬ (n : Int) = 0 by omega)
        by_cases hp : 65535 < n
        · have qp := eq_true (show (65535 : Int) < (n : Int) by omega)
          rw [if_pos (.inr hp)]
          simp [h0, h1, hz, qp]
        · have qp := eq_false (show ¬ (65535 : Int) < (n : Int) by omega)
          rw [if_neg (by omega)]
          by_cases hO : (n : Int) = Tg.Ur.own t
          · have qO := eq_true hO
            rw [if_pos hO]
            simp [h0, h1, hz, qp, ho, qO]
          · have qO := eq_false hO
            rw [if_neg hO]
            simp [h0, h1, hz, qp, ho, qO]
theorem any_upto (s p : List UInt8) : (Lib.indexAny s p = -1 ∧ Tg.Ur.upto p s = s.length) ∨ (Lib.indexAny s p = (Tg.Ur.upto p s : Nat) ∧ Tg.Ur.upto p s < s.length) := by
  induction s with
  | nil => left; simp [Lib.indexAny, Tg.Ur.upto]
  | cons b r ih =>
    unfold Lib.indexAny
    unfold Tg.Ur.upto at ih ⊢
    rw [List.takeWhile_cons]
    cases hc : p.contains b with
    | true => right; simp
    | false =>
      simp only [Bool.not_false, if_true, Bool.false_eq_true, if_false, List.length_cons]
      rcases ih with ⟨h1, h2⟩ | ⟨h1, h2⟩
      · left; rw [h1, h2]; simp
      · right
        rw [h1, if_neg (by simp)]
        exact ⟨by omega, by omega⟩
theorem until_cl {p : List UInt8} (hs : s.length ≤ 1048576) (hp : p.length < 4294967281) (ha : ascL p) : LC Tryz.prog EJ 111 [str s, str p] H = some (.tuple #[str (s.take (Tg.Ur.upto p s)), str (s.drop (Tg.Ur.upto p s))], H) := by
  rcases any_upto s p with ⟨h1, h2⟩ | ⟨h1, h2⟩
  · rw [until_none hs hp ha h1, h2, List.take_length, List.drop_length]
  · exact until_some hs hp ha h1
end
end Go.Proofs.YteckofomnhminaaGreatDoor
/-
  Layer 26 (url): what the code's functions come to: names of hosts, good places.
-/
set_option linter.unusedSimpArgs false
set_option linter.unusedVariables false
set_option maxRecDepth 100000
namespace Go.Proofs.YteckofomnhminaaGreatDoor
open Go.Lg Go.Tg
section
variable {H : LH} {b : UInt8} {s t : List UInt8}
theorem plain_cl : LC Tryz.prog EJ 124 [.int .u8 b.toNat] H = some (.bool (Tg.Ur.isName b), H) := by
  refine LC_pure rfl Tryz.func124 rfl (Nat.le_of_ble_eq_true rfl) (by decide) (by kernel_rfl) rfl ?_
  unfold Tg.Ur.isName
  have hd := fun H : LH => Digit_cl (H := H) (b := b)
  have e : Tg.Ur.isD b = (decide ((48 : Int) ≤ b.toNat) && decide ((b.toNat : Int) ≤ 57)) := rfl
  rw [← e]
  by_cases h3 : b = 46
  · subst h3
    have hd : ∀ H : LH, LC Tryz.prog EJ 125 [.int .u8 46] H = some (.bool false, H) := hd
    simp [hd]
  by_cases h4 : b = 45
  · subst h4
    have hd : ∀ H : LH, LC Tryz.prog EJ 125 [.int .u8 45] H = some (.bool false, H) := hd
    simp [hd]
  by_cases h1 : (97 : Int) ≤ b.toNat <;> by_cases h2 : (b.toNat : Int) ≤ 122 <;> cases h5 : Tg.Ur.isD b <;> rw [h5] at hd <;> simp [h1, h2, h3, h4, hd]
theorem two_dots : ∀ s : List UInt8, Lib.contains s [46, 46] = Tg.Ur.twoDots s
  | [] => rfl
  | [b] => by
    unfold Tg.Ur.twoDots Lib.contains Lib.index
    by_cases hb : b = 46 <;> simp [hb, Lib.index, Tg.Ur.twoDots, List.isPrefixOf]
  | b :: c :: r => by
    have ih := two_dots (c :: r)
    have hge := Lib.index_ge (c :: r) [46, 46]
    unfold Lib.contains at ih ⊢
    unfold Lib.index
    by_cases h : b = 46 ∧ c = 46
    · obtain ⟨rfl, rfl⟩ := h
      simp [Tg.Ur.twoDots, List.isPrefixOf]
    · have hp : List.isPrefixOf [46, 46] (b :: c :: r) = false := by
        simp only [List.isPrefixOf, Bool.and_true]
        rw [Bool.eq_false_iff]
        intro e
        simp at e
        exact h ⟨e.1.symm, e.2.symm⟩
      have ht : Tg.Ur.twoDots (b :: c :: r) = Tg.Ur.twoDots (c :: r) := by
        conv => lhs; unfold Tg.Ur.twoDots
        split
        · rename_i e; simp at e; exact absurd ⟨e.1, e.2.1⟩ h
        · rename_i e; simp at e; rw [← e.2]
        · rename_i e; simp at e
      rw [hp, ht, ← ih]
      simp only [Bool.false_eq_true, if_false]
      by_cases hm : Lib.index (c :: r) [46, 46] = -1
      · simp [hm]
      · have : (Lib.index (c :: r) [46, 46] == -1) = false := by simp [hm]
        rw [this]
        simp only [Bool.false_eq_true, if_false, decide_eq_decide]
        omega
theorem named_cl (hs : s.length ≤ 1048576) (hm : MaxL H) : LC Tryz.prog EJ 99 [str s] H = some (.bool (Tg.Ur.named s), H) := by
  refine LC_pure rfl Tryz.func99 rfl (Nat.le_of_ble_eq_true rfl) (by decide) (by kernel_rfl) rfl ?_
  have hall := fun H : LH => all_cl (H := H) (g := 124) (q := Tg.Ur.isName) (fun b H => plain_cl) (s := s) (by omega)
  have hcon := contains_l (H := H) (s := s) (p := [46, 46]) (by omega) (.inr hm)
  rw [two_dots] at hcon
  unfold Tg.Ur.named
  cases s with
  | nil => simp
  | cons c r =>
    have a0 : at_ (c :: r) 0 = c := rfl
    by_cases h2 : (r.length : Int) + 1 ≤ 253
    · have q2 : r.length + 1 ≤ 253 := by omega
      cases h3 : (c :: r).all Tg.Ur.isName with
      | false =>
        rw [h3] at hall
        simp only [List.all_cons] at h3
        simp [h2, hall, h3]
      | true =>
        rw [h3] at hall
        simp only [List.all_cons] at h3
        have q4 := eq_true (show (0 : Int) < (r.length : Int) + 1 by omega)
        by_cases h4 : c = 46
        · subst h4; simp [h2, q2, q4, hall, h3, a0]
        · simp [h2, q2, q4, hall, h3, h4, a0, hcon]
    · have q2 : ¬ r.length + 1 ≤ 253 := by omega
      simp [h2, q2]
theorem any_free (p s : List UInt8) : decide (0 ≤ Lib.indexAny s p) = !Tg.Ur.free p s := by
  unfold Tg.Ur.free
  induction s with
  | nil => simp [Lib.indexAny]
  | cons b r ih =>
    have hge := Lib.indexAny_ge p r
    unfold Lib.indexAny
    cases hc : p.contains b with
    | true => simp only [List.all_cons, hc]; simp
    | false =>
      simp only [List.all_cons, hc, Bool.not_false, Bool.true_and, Bool.false_eq_true, if_false]
      rw [← ih]
      by_cases hm : Lib.indexAny r p = -1
      · simp [hm]
      · have : (Lib.indexAny r p == -1) = false := by simp [hm]
        rw [this]
        simp only [Bool.false_eq_true, if_false, decide_eq_decide]
        omega
theorem anyOf_cl {p : List UInt8} (h1 : s.length < 4294967281) (h2 : p.length < 4294967281) (h4 : ascL p) : LC Tryz.prog EJ 97 [str s, str p] H = some (.bool (!Tg.Ur.free p s), H) := by
  refine LC_pure rfl Tryz.func97 rfl (Nat.le_of_ble_eq_true rfl) (by decide) (by kernel_rfl) rfl ?_
  have hi := fun H : LH => indexAny_l (H := H) (s := s) h1 h2 h4
  have hf := any_free p s
  by_cases h0 : 0 ≤ Lib.indexAny s p
  · rw [decide_eq_true h0] at hf
    simp [hi, h0, ← hf]
  · rw [decide_eq_false h0] at hf
    simp [hi, h0, ← hf]
theorem hash_cl (h1 : s.length < 4294967281) : LC Tryz.prog EJ 98 [str s, str [35]] H = some (.bool (!Tg.Ur.free [35] s), H) := by
  rw [contains_l h1 (.inl rfl)]
  have : Lib.contains s [35] = !Tg.Ur.free [35] s := by
    unfold Lib.contains
    rw [Lib.index_one, ← Lib.indexAny_one, any_free]
  rw [this]
abbrev uv (u : Tg.Ur.Url) : Value := .agg #[str u.scheme, str u.host, .int .i64 u.port, str u.path, str u.query]
abbrev ub (u : Tg.Ur.Url) : LB := ⟨[str u.scheme, str u.host, .int .i64 u.port, str u.path, str u.query], 44, true⟩
def placeB (u : Tg.Ur.Url) : Bool := decide (u.port = 0) || (decide (1 ≤ u.port) && decide (u.port ≤ 65535) && decide (u.port ≠ Tg.Ur.own u.scheme))
def pathB (u : Tg.Ur.Url) : Bool := decide (u.path[0]? = some 47) && decide (Tg.Ur.dots u.path = u.path) && decide (Tg.Ur.qt u.path = u.path) && Tg.Ur.free [63, 35] u.path
def queryB (u : Tg.Ur.Url) : Bool := decide (u.query = []) || (decide (u.query[0]? = some 63) && decide (Tg.Ur.qt u.query = u.query) && Tg.Ur.free [35] u.query)
theorem good_eq (u : Tg.Ur.Url) : Tg.Ur.good u = (decide (Tg.Ur.own u.scheme ≠ 0) && placeB u && pathB u && queryB u && Tg.Ur.named u.host) := rfl
theorem good_cl {u : Tg.Ur.Url} (h1 : u.host.length ≤ 1048576) (h2 : u.path.length ≤ 90000) (h3 : u.query.length ≤ 90000) (hm : MaxL H) : LC Tryz.prog EJ 64 [uv u] H = some (.bool (Tg.Ur.good u), H) := by
  refine LC_pure rfl Tryz.func64 rfl (Nat.le_of_ble_eq_true rfl) (by decide) (by kernel_rfl) rfl ?_
  have hle : H.le (H.new (ub u)) := le_refl.new
  refine runs_cut 5 (fun fr' H' => fr' 1 = ptr H.n 0 ∧ fr' 3 = .int .i64 (Tg.Ur.own u.scheme) ∧ fr' 4 = .bool (placeB u) ∧ fr' 5 = .bool (pathB u) ∧ fr' 6 = .bool (queryB u) ∧ H' = H.new (ub u)) ?_ (fun K5 hK5 => ?_) rfl
  · rintro fr' H' ⟨f1, f3, f4, f5, f6, rfl⟩
    have hn := named_cl (H := H.new (ub u)) (s := u.host) h1 hm
    rw [good_eq]
    by_cases h0 : Tg.Ur.own u.scheme = 0
    · simp [f1, f3, h0, hle]
    cases hp : placeB u with
    | false => simp [f1, f3, f4, hp, h0, hle]
    | true =>
      cases hq : pathB u with
      | false => simp [f1, f3, f4, f5, hp, hq, h0, hle]
      | true =>
        cases hr : queryB u with
        | false => simp [f1, f3, f4, f5, f6, hp, hq, hr, h0, hle]
        | true => simp [f1, f3, f4, f5, f6, hp, hq, hr, h0, hle, hn]
  refine runs_cut 4 (fun fr' H' => fr' 1 = ptr H.n 0 ∧ fr' 3 = .int .i64 (Tg.Ur.own u.scheme) ∧ fr' 4 = .bool (placeB u) ∧ fr' 5 = .bool (pathB u) ∧ H' = H.new (ub u)) ?_ (fun K4 hK4 => ?_) rfl
  · rintro fr' H' ⟨f1, f3, f4, f5, rfl⟩
    have hq := fun H : LH => quote_cl (H := H) (s := u.query) (by omega)
    have hh := fun H : LH => hash_cl (H := H) (s := u.query) (by omega)
    have hfin := fun fr' (g : fr' 1 = ptr H.n 0 ∧ fr' 3 = .int .i64 (Tg.Ur.own u.scheme) ∧ fr' 4 = .bool (placeB u) ∧ fr' 5 = .bool (pathB u)) (g6 : fr' 6 = .bool (queryB u)) => hK5 fr' (H.new (ub u)) ⟨g.1, g.2.1, g.2.2.1, g.2.2.2, g6, rfl⟩
    unfold queryB at hfin
    clear hK5
    obtain ⟨sch, hst, prt, pth, q⟩ := u
    simp only at *
    cases q with
    | nil =>
      simp [f1]
      exact hfin _ (by simp [f1, f3, f4, f5]) (by simp)
    | cons c r =>
      have a0 : at_ (c :: r) 0 = c := rfl
      have q1 := eq_true (show (0 : Int) < (r.length : Int) + 1 by omega)
      by_cases hc : c = 63
      · subst hc
        by_cases he : Tg.Ur.qt (63 :: r) = 63 :: r
        · cases hf : Tg.Ur.free [35] (63 :: r) with
          | false =>
            rw [hf] at hh
            simp [f1, a0, q1, hq, he, hh]
            exact hfin _ (by simp [f1, f3, f4, f5]) (by simp [he, hf])
          | true =>
            rw [hf] at hh
            simp [f1, a0, q1, hq, he, hh]
            exact hfin _ (by simp [f1, f3, f4, f5]) (by simp [he, hf])
        · simp [f1, a0, q1, hq, he]
          exact hfin _ (by simp [f1, f3, f4, f5]) (by simp [he])
      · simp [f1, a0, q1, hc]
        exact hfin _ (by simp [f1, f3, f4, f5]) (by simp [hc])
  refine runs_cut 3 (fun fr' H' => fr' 1 = ptr H.n 0 ∧ fr' 3 = .int .i64 (Tg.Ur.own u.scheme) ∧ fr' 4 = .bool (placeB u) ∧ H' = H.new (ub u)) ?_ (fun K3 hK3 => ?_) rfl
  · rintro fr' H' ⟨f1, f3, f4, rfl⟩
    have hq := fun H : LH => quote_cl (H := H) (s := u.path) (by omega)
    have hd := dots_cl (H := (H.new (ub u)).ro) (s := u.path) (by omega) hm
    have hh := fun H : LH => anyOf_cl (H := H) (s := u.path) (p := [63, 35]) (by omega) (by decide) (by intro b hb; simp at hb; rcases hb with rfl | rfl <;> decide)
    have hfin := fun fr' (g : fr' 1 = ptr H.n 0 ∧ fr' 3 = .int .i64 (Tg.Ur.own u.scheme) ∧ fr' 4 = .bool (placeB u)) (g5 : fr' 5 = .bool (pathB u)) => hK4 fr' (H.new (ub u)) ⟨g.1, g.2.1, g.2.2, g5, rfl⟩
    unfold pathB at hfin
    clear hK4
    obtain ⟨sch, hst, prt, p, qry⟩ := u
    simp only at *
    cases p with
    | nil =>
      simp [f1]
      exact hfin _ (by simp [f1, f3, f4]) (by simp)
    | cons c r =>
      have a0 : at_ (c :: r) 0 = c := rfl
      have q1 := eq_true (show (0 : Int) < (r.length : Int) + 1 by omega)
      by_cases hc : c = 47
      · subst hc
        by_cases hdd : Tg.Ur.dots (47 :: r) = 47 :: r
        · by_cases he : Tg.Ur.qt (47 :: r) = 47 :: r
          · cases hf : Tg.Ur.free [63, 35] (47 :: r) with
            | false =>
              rw [hf] at hh
              simp [f1, a0, q1, hd, hdd, hq, he, hh]
              exact hfin _ (by simp [f1, f3, f4]) (by simp [hdd, he, hf])
            | true =>
              rw [hf] at hh
              simp [f1, a0, q1, hd, hdd, hq, he, hh]
              exact hfin _ (by simp [f1, f3, f4]) (by simp [hdd, he, hf])
          · simp [f1, a0, q1, hd, hdd, hq, he]
            exact hfin _ (by simp [f1, f3, f4]) (by simp [hdd, he])
        · simp [f1, a0, q1, hd, hdd]
          exact hfin _ (by simp [f1, f3, f4]) (by simp [hdd])
      · simp [f1, a0, q1, hc]
        exact hfin _ (by simp [f1, f3, f4]) (by simp [hc])
  have ho := fun H : LH => own_l (H := H) (s := u.scheme)
  unfold placeB at hK3
  by_cases p0 : u.port = 0
  · obtain ⟨sch, hst, prt, pth, q⟩ := u
    simp only at p0 ho hK3
    subst p0
    simp [ho]
    exact hK3 _ _ ⟨by simp, by simp, by simp, rfl⟩
  · by_cases p1 : 1 ≤ u.port
    · by_cases p2 : u.port ≤ 65535
      · by_cases p3 : u.port = Tg.Ur.own u.scheme
        · have q3 := eq_true p3
          simp [ho, p0, p1, p2, q3]
          exact hK3 _ _ ⟨by simp, by simp, by simp [p0, p1, p2, q3], rfl⟩
        · have q3 := eq_false p3
          simp [ho, p0, p1, p2, q3]
          exact hK3 _ _ ⟨by simp, by simp, by simp [p0, p1, p2, q3], rfl⟩
      · have q2 := eq_false p2
        simp [ho, p0, p1, q2]
        exact hK3 _ _ ⟨by simp, by simp, by simp [p0, p1, q2], rfl⟩
    · have q1 := eq_false p1
      simp [ho, p0, q1]
      exact hK3 _ _ ⟨by simp, by simp, by simp [p0, q1], rfl⟩
end
end Go.Proofs.YteckofomnhminaaGreatDoor
/-
  Layer 26 (url): how long places' parts are, in plain words.
-/
set_option linter.unusedSimpArgs false
set_option linter.unusedVariables false
namespace Tg.Ur
theorem qt_len : ∀ (n : Nat) (s : List UInt8), s.length ≤ n → (qt s).length ≤ 3 * s.length
  | n, [], _ => by rw [qt]; simp
  | n, b :: r, h => by
    cases n with
    | zero => simp at h
    | succ n =>
      cases he : esc (b :: r) with
      | some e =>
        have hl := Go.Proofs.YteckofomnhminaaGreatDoor.esc_len he
        have ih := qt_len n (r.drop 2) (by simp at h ⊢; omega)
        rw [qt, he]
        simp at hl ih ⊢; omega
      | none =>
        have ih := qt_len n r (by simp at h ⊢; omega)
        rw [qt, he]
        have : (if okB b then [b] else pct b).length ≤ 3 := by split <;> simp [pct]
        simp at ih ⊢; omega
theorem joinS_app (a b : List (List UInt8)) : joinS (a ++ b) = joinS a ++ joinS b := by
  induction a with
  | nil => rfl
  | cons x a ih => show 47 :: (x ++ joinS (a ++ b)) = 47 :: (x ++ joinS a) ++ joinS b; rw [ih]; simp
theorem joinS_dl (a : List (List UInt8)) : (joinS a.dropLast).length ≤ (joinS a).length := by
  rcases List.eq_nil_or_concat a with rfl | ⟨l, x, rfl⟩
  · simp [joinS]
  · rw [List.concat_eq_append, List.dropLast_concat, joinS_app]; simp
theorem stepD_jl (t : Bool) (out : List (List UInt8)) (p : List UInt8) : (joinS (stepD t out p)).length ≤ (joinS out).length + (p.length + 1) := by
  unfold stepD
  split
  · rw [joinS_app]; simp [joinS]
  · rw [joinS_app, List.length_append]
    have h1 : (joinS (if pts p 0 = 2 then out.dropLast else out)).length ≤ (joinS out).length := by
      split
      · exact joinS_dl _
      · exact Nat.le_refl _
    have h2 : (joinS (if t = true then [[]] else [])).length ≤ 1 := by split <;> simp [joinS]
    omega
theorem foldD_jl : ∀ (l out : List (List UInt8)), (joinS (foldD out l)).length ≤ (joinS out).length + (joinS l).length
  | [], out => by simp [foldD, joinS]
  | p :: l, out => by
    rw [foldD_cons]
    have h1 := foldD_jl l (stepD (decide (l = [])) out p)
    have h2 := stepD_jl (decide (l = [])) out p
    show _ ≤ _ + (47 :: (p ++ joinS l)).length
    simp; omega
theorem pieces_jl : ∀ s : List UInt8, (joinS (pieces s)).length = s.length + 1
  | [] => by simp [pieces, joinS]
  | b :: r => by
    have ih := pieces_jl r
    unfold pieces
    split
    · simp [joinS, ih]
    · split
      · rename_i h; exact absurd h (pieces_ne r)
      · rename_i p l h
        rw [h] at ih
        simp [joinS] at ih ⊢; omega
theorem dots_len (s : List UInt8) : (dots s).length ≤ s.length := by
  unfold dots
  split
  · rename_i r
    have h1 := foldD_jl (pieces r) []
    have h2 := pieces_jl r
    split
    · simp
    · simp [joinS] at h1 ⊢; omega
  · simp
theorem upto_le (p s : List UInt8) : upto p s ≤ s.length := by
  unfold upto; exact (List.takeWhile_prefix _).length_le
def textP (u : Url) : List UInt8 := u.scheme ++ [58, 47, 47] ++ u.host ++ (if u.port ≠ 0 then 58 :: Go.Lib.itoa u.port else []) ++ u.path ++ u.query
def text (u : Url) : List UInt8 := if good u then textP u else []
def port (u : Url) : Int := if own u.scheme = 0 ∨ u.port = 0 then own u.scheme else u.port
def origin (u : Url) : List UInt8 := if good u then u.scheme ++ [58, 47, 47] ++ u.host ++ [58] ++ Go.Lib.itoa (port u) else []
end Tg.Ur
/-
  Layer 26 (url): what the code's functions come to: a text's parts, the place.
-/
set_option linter.unusedSimpArgs false
set_option linter.unusedVariables false
set_option maxRecDepth 100000
namespace Go.Proofs.YteckofomnhminaaGreatDoor
open Go.Lg Go.Tg
section
variable {H : LH} {b : UInt8} {s t : List UInt8}
@[simp] theorem lfill_cell' {P : Program} {t : TypeId} {cs : List Value} {i : Nat} {q : Nat × Nat × Bool} {v : Value} {ps : List (Nat × Value)} (hf : fldi P t i = some q) (hn : q.2.1 = 1) (hv : cellB v = true) (ho : q.1 < cs.length) : lfill P t cs ((i, v) :: ps) = lfill P t (cs.set q.1 v) ps := by
  obtain ⟨o, n, g⟩ := q
  exact lfill_cell hf hn hv ho
theorem Lower_cl (hs : s.length ≤ 1048576) : LC Tryz.prog EJ 47 [str s] H = some (str (Tg.Lo.lower s), H) := by
  refine LC_pure rfl Tryz.func47 rfl (Nat.le_of_ble_eq_true rfl) (by decide) (by kernel_rfl) rfl ?_
  simp [lower_l (H := H) (s := s) (by unfold maxLen; omega)]
theorem byte_upto (s : List UInt8) (c : UInt8) : (Lib.indexByte s c = -1 ∧ Tg.Ur.upto [c] s = s.length) ∨ (Lib.indexByte s c = (Tg.Ur.upto [c] s : Nat) ∧ Tg.Ur.upto [c] s < s.length) := by
  rw [← Lib.indexAny_one]; exact any_upto s [c]
theorem drop_upto {s : List UInt8} {c : UInt8} (h : Lib.indexByte s c = (Tg.Ur.upto [c] s : Nat)) : s.drop (Tg.Ur.upto [c] s) = c :: s.drop (Tg.Ur.upto [c] s + 1) := by
  have h2 := (Lib.indexByte_some h).1
  obtain ⟨hlt, he⟩ := List.getElem?_eq_some_iff.mp h2
  rw [List.drop_eq_getElem_cons hlt, he]
theorem prefix2 {a c : UInt8} : Lib.hasPrefix s [a, c] = decide (s.take 2 = [a, c]) := by
  rcases s with _ | ⟨x, _ | ⟨y, r⟩⟩
  · rfl
  · simp [Lib.hasPrefix, List.isPrefixOf]
  · simp [Lib.hasPrefix, List.isPrefixOf]
    rw [Bool.eq_iff_iff]
    simp
    constructor <;> rintro ⟨h1, h2⟩ <;> exact ⟨h1.symm, h2.symm⟩
theorem asc1 {a : UInt8} (h : a.toNat < 128) : ascL [a] := by intro b hb; simp at hb; subst hb; exact h
theorem asc2 {a c : UInt8} (h : a.toNat < 128) (h2 : c.toNat < 128) : ascL [a, c] := by intro b hb; simp at hb; rcases hb with rfl | rfl <;> assumption
theorem asc3 {a c d : UInt8} (h : a.toNat < 128) (h2 : c.toNat < 128) (h3 : d.toNat < 128) : ascL [a, c, d] := by intro b hb; simp at hb; rcases hb with rfl | rfl | rfl <;> assumption
theorem parts_none (h : Tg.Ur.parts s = none) (hs : s.length ≤ 20000) : LC Tryz.prog EJ 87 [str s] H = some (.tuple #[uv Tg.Ur.none, str [], .bool false], H) := by
  refine LC_pure rfl Tryz.func87 rfl (Nat.le_of_ble_eq_true rfl) (by decide) (by kernel_rfl) rfl ?_
  have h1 := fun H : LH => until_cl (H := H) (s := s) (p := [35]) (by omega) (by decide) (asc1 (by decide))
  unfold Tg.Ur.parts at h
  simp only at h
  have hl : (s.take (Tg.Ur.upto [35] s)).length ≤ 20000 := by rw [List.length_take]; omega
  generalize s.take (Tg.Ur.upto [35] s) = s1 at *
  generalize s.drop (Tg.Ur.upto [35] s) = s2 at *
  rcases byte_upto s1 58 with ⟨c1, c2⟩ | ⟨c1, c2⟩
  · have h2 := fun H : LH => scut_none (H := H) c1
    simp [h1, h2, le_refl.new]
    exact ⟨rfl, rfl, rfl, rfl, rfl⟩
  · have h2 := fun H : LH => scut_some (H := H) c1 (by omega)
    rw [drop_upto c1] at h
    have h3 : (s1.drop (Tg.Ur.upto [58] s1 + 1)).take 2 ≠ [47, 47] := by
      intro e
      rw [show (58 :: s1.drop (Tg.Ur.upto [58] s1 + 1)).take 3 = 58 :: (s1.drop (Tg.Ur.upto [58] s1 + 1)).take 2 from rfl, e, if_pos rfl] at h
      cases h
    have hp := prefix2 (s := s1.drop (Tg.Ur.upto [58] s1 + 1)) (a := 47) (c := 47)
    rw [decide_eq_false h3] at hp
    generalize s1.drop (Tg.Ur.upto [58] s1 + 1) = r at *
    generalize s1.take (Tg.Ur.upto [58] s1) = sch at *
    simp [h1, h2, hp, le_refl.new]
    exact ⟨rfl, rfl, rfl, rfl, rfl⟩
theorem parts_some {u : Tg.Ur.Url} {pl : List UInt8} (h : Tg.Ur.parts s = some (u, pl)) (hs : s.length ≤ 20000) (hm : MaxL H) : LC Tryz.prog EJ 87 [str s] H = some (.tuple #[uv u, str pl, .bool true], H) := by
  refine LC_pure rfl Tryz.func87 rfl (Nat.le_of_ble_eq_true rfl) (by decide) (by kernel_rfl) rfl ?_
  have h1 := fun H : LH => until_cl (H := H) (s := s) (p := [35]) (by omega) (by decide) (asc1 (by decide))
  unfold Tg.Ur.parts at h
  simp only at h
  have hl : (s.take (Tg.Ur.upto [35] s)).length ≤ 20000 := by rw [List.length_take]; omega
  generalize s.take (Tg.Ur.upto [35] s) = s1 at *
  generalize s.drop (Tg.Ur.upto [35] s) = s2 at *
  rcases byte_upto s1 58 with ⟨c1, c2⟩ | ⟨c1, c2⟩
  · rw [c2, List.drop_length] at h
    simp at h
  · have h2 := fun H : LH => scut_some (H := H) c1 (by omega)
    have hd3 : s1.drop (Tg.Ur.upto [58] s1 + 3) = (s1.drop (Tg.Ur.upto [58] s1 + 1)).drop 2 := by rw [List.drop_drop]
    rw [hd3, drop_upto c1] at h
    have hpre := prefix2 (s := s1.drop (Tg.Ur.upto [58] s1 + 1)) (a := 47) (c := 47)
    have hl2 : (s1.drop (Tg.Ur.upto [58] s1 + 1)).length ≤ 20000 := by rw [List.length_drop]; omega
    have hl3 : (s1.take (Tg.Ur.upto [58] s1)).length ≤ 20000 := by rw [List.length_take]; omega
    generalize s1.drop (Tg.Ur.upto [58] s1 + 1) = r at *
    generalize s1.take (Tg.Ur.upto [58] s1) = sch at *
    rw [show (58 :: r).take 3 = 58 :: r.take 2 from rfl] at h
    by_cases hp : r.take 2 = [47, 47]
    · rw [hp, if_pos rfl] at h
      rw [decide_eq_true hp] at hpre
      have h2len : 2 ≤ r.length := by
        have := congrArg List.length hp
        rw [List.length_take] at this; simp at this; omega
      have q2 := eq_true (show (2 : Int) ≤ (r.length : Int) by omega)
      have hl4 : (r.drop 2).length ≤ 20000 := by rw [List.length_drop]; omega
      have h3 := fun H : LH => until_cl (H := H) (s := r.drop 2) (p := [58, 47, 63]) (by omega) (by decide) (asc3 (by decide) (by decide) (by decide))
      generalize hr1 : r.drop 2 = r1 at *
      have hl5 : (r1.take (Tg.Ur.upto [58, 47, 63] r1)).length ≤ 20000 := by rw [List.length_take]; omega
      have hl6 : (r1.drop (Tg.Ur.upto [58, 47, 63] r1)).length ≤ 20000 := by rw [List.length_drop]; omega
      generalize r1.take (Tg.Ur.upto [58, 47, 63] r1) = hst at *
      generalize r1.drop (Tg.Ur.upto [58, 47, 63] r1) = r2 at *
      have g1 := fun H : LH => Lower_cl (H := H) (s := sch) (by omega)
      have g2 := fun H : LH => Lower_cl (H := H) (s := hst) (by omega)
      have hpre2 := prefix1 (s := r2) (c := 58)
      -- the port's text, what stands behind it
      generalize hx : Tg.Ur.cutPort r2 = x at h
      have hxl : x.2.length ≤ 20000 := by
        rw [← hx]
        unfold Tg.Ur.cutPort
        split
        · rw [List.length_drop]; simp at hl6; omega
        · exact hl6
      refine runs_cut 6 (fun fr' H' => fr' 2 = ptr H.n 0 ∧ fr' 3 = str x.1 ∧ fr' 5 = str sch ∧ fr' 6 = str x.2 ∧ fr' 7 = str hst ∧ H' = H.new (ub Tg.Ur.none)) ?_ (fun K6 hK6 => ?_) rfl
      · rintro fr' H' ⟨f2, f3, f5, f6, f7, rfl⟩
        obtain ⟨pt, rs⟩ := x
        simp only at h hxl f3 f6
        have h4 := fun H : LH => until_cl (H := H) (s := rs) (p := [63]) (by omega) (by decide) (asc1 (by decide))
        have hl7 : (rs.take (Tg.Ur.upto [63] rs)).length ≤ 20000 := by rw [List.length_take]; omega
        have hl8 : (rs.drop (Tg.Ur.upto [63] rs)).length ≤ 20000 := by rw [List.length_drop]; omega
        generalize rs.take (Tg.Ur.upto [63] rs) = p0 at *
        generalize rs.drop (Tg.Ur.upto [63] rs) = q0 at *
        have hl9 : (if p0 = [] then [47] else p0).length ≤ 20000 := by
          split
          · simp
          · exact hl7
        injection h with h
        injection h with h1 h2
        subst h2
        have ha := fun H : LH => quote_cl (H := H) (s := if p0 = [] then [47] else p0) (by omega)
        have hb := fun H : LH => quote_cl (H := H) (s := q0) (by omega)
        have hq := Tg.Ur.qt_len _ (if p0 = [] then [47] else p0) (Nat.le_refl _)
        have hc := fun (H2 : LH) (hm2 : MaxL H2) => dots_cl (H := H2) (s := Tg.Ur.qt (if p0 = [] then [47] else p0)) (by omega) hm2
        subst h1
        by_cases hp0 : p0 = []
        · subst hp0
          rw [if_pos rfl] at *
          have hc1 := hc ((H.new ⟨[str (Tg.Lo.lower sch), str (Tg.Lo.lower hst), .int .i64 0, str [47], str q0], 44, true⟩).ro) hm
          simp [f2, f3, f5, f6, f7, g1, g2, h4, ha, hb, hc1, le_refl.new]
        · rw [if_neg hp0] at *
          have hc1 := hc ((H.new ⟨[str (Tg.Lo.lower sch), str (Tg.Lo.lower hst), .int .i64 0, str p0, str q0], 44, true⟩).ro) hm
          simp [f2, f3, f5, f6, f7, g1, g2, h4, hp0, ha, hb, hc1, le_refl.new]
      cases r2 with
      | nil =>
        have hx2 : x = ([], []) := hx.symm.trans rfl
        rw [hx2] at hK6
        have e : Lib.hasPrefix [] [58] = false := rfl
        simp [h1, h2, hpre, q2, hr1, h3, e]
        exact hK6 _ _ ⟨by simp, by simp, by simp, by simp, by simp, rfl⟩
      | cons c r3 =>
        by_cases hc : c = 58
        · subst hc
          have hx2 : x = (r3.take (Tg.Ur.upto [47, 63] r3), r3.drop (Tg.Ur.upto [47, 63] r3)) := hx.symm.trans rfl
          rw [hx2] at hK6
          have q3 := eq_true (show (1 : Int) ≤ (r3.length : Int) + 1 by omega)
          have h5 := fun H : LH => until_cl (H := H) (s := r3) (p := [47, 63]) (by simp at hl6; omega) (by decide) (asc2 (by decide) (by decide))
          have hpre2 : Lib.hasPrefix (58 :: r3) [58] = true := by rw [hpre2]; simp
          simp [h1, h2, hpre, q2, hr1, h3, hpre2, q3, h5]
          exact hK6 _ _ ⟨by simp, by simp, by simp, by simp, by simp, rfl⟩
        · have hx2 : x = ([], c :: r3) := by
            rw [← hx]
            unfold Tg.Ur.cutPort
            split
            · rename_i e; injection e with e; exact absurd e hc
            · rfl
          rw [hx2] at hK6
          rw [decide_eq_false (by simpa using hc)] at hpre2
          simp [h1, h2, hpre, q2, hr1, h3, hpre2]
          exact hK6 _ _ ⟨by simp, by simp, by simp, by simp, by simp, rfl⟩
    · rw [if_neg (by simp [hp])] at h
      cases h
theorem parts_lens {u : Tg.Ur.Url} {pl : List UInt8} (h : Tg.Ur.parts s = some (u, pl)) : u.host.length ≤ s.length ∧ u.scheme.length ≤ s.length ∧ u.path.length ≤ 3 * s.length + 3 ∧ u.query.length ≤ 3 * s.length ∧ pl.length ≤ s.length ∧ u.port = 0 := by
  have low_len : ∀ l : List UInt8, (Tg.Lo.lower l).length = l.length := fun l => by simp [Tg.Lo.lower]
  unfold Tg.Ur.parts at h
  simp only at h
  generalize h1 : s.take (Tg.Ur.upto [35] s) = s1 at h
  generalize h2 : Tg.Ur.upto [58] s1 = k at h
  split at h
  · generalize h3 : s1.drop (k + 3) = r at h
    generalize h4 : Tg.Ur.upto [58, 47, 63] r = j at h
    generalize h5 : Tg.Ur.cutPort (r.drop j) = x at h
    generalize h6 : Tg.Ur.upto [63] x.2 = q at h
    have l1 : s1.length ≤ s.length := by rw [← h1, List.length_take]; omega
    have l2 : r.length ≤ s1.length := by rw [← h3, List.length_drop]; omega
    have l3 : x.1.length ≤ r.length ∧ x.2.length ≤ r.length := by
      rw [← h5]
      unfold Tg.Ur.cutPort
      split
      · rename_i r3 e
        have := congrArg List.length e
        rw [List.length_drop] at this
        simp at this
        constructor
        · rw [List.length_take]; omega
        · rw [List.length_drop]; omega
      · constructor
        · simp
        · rw [List.length_drop]; omega
    injection h with h
    injection h with e1 e2
    subst e1 e2
    simp only
    have hd := Tg.Ur.dots_len (Tg.Ur.qt (if x.2.take q = [] then [47] else x.2.take q))
    have hq := Tg.Ur.qt_len _ (if x.2.take q = [] then [47] else x.2.take q) (Nat.le_refl _)
    have hq2 := Tg.Ur.qt_len _ (x.2.drop q) (Nat.le_refl _)
    have hl : (if x.2.take q = [] then [47] else x.2.take q).length ≤ s.length + 1 := by
      split
      · simp
      · rw [List.length_take]; omega
    rw [List.length_drop] at hq2
    refine ⟨?_, ?_, by omega, by omega, by omega, ?_⟩
    · rw [low_len, List.length_take]; omega
    · rw [low_len, List.length_take]; omega
    · trivial
  · cases h
theorem parse_cl (hs : s.length ≤ 20000) (hm : MaxL H) : LC Tryz.prog EJ 55 [str s] H = some (.tuple #[uv (Tg.Ur.parse s).1, .int .i64 (Tg.Ur.parse s).2], H) := by
  refine LC_pure rfl Tryz.func55 rfl (Nat.le_of_ble_eq_true rfl) (by decide) (by kernel_rfl) rfl ?_
  have ht := fun H : LH => trim_cl (H := H) (s := s) (by omega)
  have htl : (Tg.Ur.trim s).length ≤ s.length := by
    unfold Tg.Ur.trim Tg.Ur.trimL
    rw [List.length_reverse]
    refine Nat.le_trans (dw_le _) ?_
    rw [List.length_reverse]
    exact dw_le _
  unfold Tg.Ur.parse
  simp only
  generalize Tg.Ur.trim s = t at *
  by_cases h8 : 8192 < t.length
  · have q := eq_true (show (8192 : Int) < (t.length : Int) by omega)
    rw [if_pos h8]
    simp [ht, q, le_refl.new]
    exact ⟨rfl, rfl, rfl, rfl, rfl⟩
  · have q := eq_false (show ¬ (8192 : Int) < (t.length : Int) by omega)
    rw [if_neg h8]
    cases hp : Tg.Ur.parts t with
    | none =>
      have h1 := fun H : LH => parts_none (H := H) hp (by omega)
      simp [ht, q, h1, le_refl.new]
      exact ⟨rfl, rfl, rfl, rfl, rfl⟩
    | some x =>
      obtain ⟨u, pl⟩ := x
      have h1 := parts_some (H := H.new ⟨[str [], str [], .int .i64 0, str [], str []], 44, true⟩) hp (by omega) hm
      obtain ⟨l1, l2, l3, l4, l5, l6⟩ := parts_lens hp
      have h2 := good_cl (H := (H.new ⟨[str [], str [], .int .i64 0, str [], str []], 44, true⟩).new (ub u)) (u := u) (by omega) (by omega) (by omega) hm
      have h3 := fun H : LH => number_cl (H := H) (s := pl) (t := u.scheme) (by omega)
      simp only
      cases hg : Tg.Ur.good u with
      | false =>
        rw [hg] at h2
        simp [ht, q, h1, h2, le_refl.new]
        exact ⟨rfl, rfl, rfl, rfl, rfl⟩
      | true =>
        rw [hg] at h2
        generalize Tg.Ur.number pl u.scheme = n at *
        by_cases hn : n.2 = 0
        · simp [ht, q, h1, h2, h3, hn, le_refl.new]
        · simp [ht, q, h1, h2, h3, hn, le_refl.new]
          exact ⟨rfl, rfl, rfl, rfl, rfl⟩
end
end Go.Proofs.YteckofomnhminaaGreatDoor
/-
  Layer 22 (header): what the code's judges of bytes, texts and headers come to.
-/
set_option linter.unusedSimpArgs false
set_option linter.unusedVariables false
set_option maxRecDepth 100000
namespace Go.Proofs.YteckofomnhminaaGreatDoor
open Go.Lg Go.Tg
section
variable {H : LH} {b : UInt8} {s t : List UInt8}
theorem white_cl : LC Tryz.prog EJ 82 [.int .u8 b.toNat] H = some (.bool (Tg.Hd.white b), H) := by
  refine LC_pure rfl Tryz.func82 rfl (Nat.le_of_ble_eq_true rfl) (by decide) (by kernel_rfl) rfl ?_
  by_cases h1 : b = 9
  · subst h1; simp [Tg.Hd.white]
  by_cases h2 : b = 10
  · subst h2; simp [Tg.Hd.white]
  by_cases h3 : b = 13
  · subst h3; simp [Tg.Hd.white]
  by_cases h4 : b = 32
  · subst h4; simp [Tg.Hd.white]
  simp [Tg.Hd.white, h1, h2, h3, h4]
theorem end_cl {g : FuncId} {q : UInt8 → Bool} (hg : ∀ (b : UInt8) (H : LH), LC Tryz.prog EJ g [.int .u8 b.toNat] H = some (.bool (q b), H)) (hs : s.length ≤ 9223372036854775806) :
    LC Tryz.prog EJ 81 [str s, .func (.func g) #[] #[]] H = some (.int .i64 ((s.reverse.dropWhile q).length : Nat), H) := by
  refine LC_pure rfl Tryz.func81 rfl (Nat.le_of_ble_eq_true rfl) (by decide) (by kernel_rfl) rfl ?_
  obtain ⟨x, hx⟩ : ∃ x, x = (s.reverse.dropWhile q).length := ⟨_, rfl⟩
  rw [← hx]
  simp
  refine loop_ind (fun (i : Nat) fr' H' => fr' 0 = str s ∧ fr' 1 = .func (.func g) #[] #[] ∧ fr' 5 = .int .i64 i ∧ i ≤ s.length ∧ x = ((s.take i).reverse.dropWhile q).length ∧ H' = H) (fun i => i) s.length ⟨by simp, by simp, by simp, Nat.le_refl _, by rw [List.take_length]; exact hx, rfl⟩ ?_
  rintro i fr' H' ⟨h0, h1, h5, hi, hc, rfl⟩ ih
  by_cases hz : 0 < i
  · have q0 := eq_true (show (0 : Int) < (i : Int) by omega)
    have hlt : i - 1 < s.length := by omega
    have hw : IntKind.i64.wrap ((i : Int) - 1) = ((i - 1 : Nat) : Int) := by rw [wrapI (by omega) (by omega)]; omega
    have hat : at_ s ((i - 1 : Nat) : Int) = s[i - 1] := at_in hlt
    have q1 := eq_true (show ((i - 1 : Nat) : Int) < (s.length : Int) by omega)
    have e : s.take i = s.take (i - 1) ++ [s[i - 1]] := by
      have := List.take_succ_eq_append_getElem hlt
      rw [show i - 1 + 1 = i by omega] at this
      exact this
    rw [e, List.reverse_append, List.reverse_singleton, List.singleton_append, List.dropWhile_cons] at hc
    have hgc := hg s[i - 1]
    generalize s[i - 1] = c at *
    generalize hk : i - 1 = k at *
    cases hq : q c with
    | true =>
      rw [hq] at hc hgc
      rw [if_pos rfl] at hc
      simp [h0, h1, h5, q0, hz, hw, hat, q1, hlt, hgc]
      refine ih k _ _ (by omega) ⟨?_, ?_, ?_, by omega, hc, rfl⟩
      all_goals simp [h0, h1, hw]
    | false =>
      rw [hq] at hc hgc
      rw [if_neg (by decide)] at hc
      have hxi : x = i := by rw [hc]; simp; omega
      subst hxi
      simp [h0, h1, h5, q0, hz, hw, hat, q1, hlt, hgc]
  · have q0 := eq_false (show ¬ (0 : Int) < (i : Int) by omega)
    have hi0 : i = 0 := by omega
    subst hi0
    have hx0 : x = 0 := by rw [hc]; rfl
    subst hx0
    simp [h0, h1, h5]
theorem trimE_take : Tg.Hd.trimE s = s.take (s.reverse.dropWhile Tg.Hd.white).length := by
  have h2 : Tg.Hd.trimE s <+: s := List.reverse_suffix.mp (by unfold Tg.Hd.trimE; rw [List.reverse_reverse]; exact List.dropWhile_suffix _)
  have := List.prefix_iff_eq_take.mp h2
  rw [this]
  congr 1
  unfold Tg.Hd.trimE
  rw [List.length_reverse]
theorem dw_drop {q : UInt8 → Bool} : ∀ {s : List UInt8}, s.dropWhile q = s.drop (s.takeWhile q).length
  | [] => rfl
  | b :: r => by
    rw [List.dropWhile_cons, List.takeWhile_cons]
    cases q b with
    | true => simp only [if_true, List.length_cons, List.drop_succ_cons]; exact dw_drop
    | false => simp
theorem Trim_cl (hs : s.length ≤ 9223372036854775806) : LC Tryz.prog EJ 52 [str s] H = some (str (Tg.Hd.trim s), H) := by
  refine LC_pure rfl Tryz.func52 rfl (Nat.le_of_ble_eq_true rfl) (by decide) (by kernel_rfl) rfl ?_
  have he := fun H : LH => end_cl (H := H) (s := s) (g := 82) (q := Tg.Hd.white) (fun b H => white_cl) hs
  have hw := fun (H : LH) (b : UInt8) => white_cl (H := H) (b := b)
  obtain ⟨x, hx⟩ : ∃ x, x = Tg.Hd.trim s := ⟨_, rfl⟩
  rw [← hx]
  unfold Tg.Hd.trim at hx
  rw [trimE_take] at hx
  have hle : (s.reverse.dropWhile Tg.Hd.white).length ≤ s.length := by
    have := (List.dropWhile_suffix (l := s.reverse) Tg.Hd.white).length_le
    rwa [List.length_reverse] at this
  generalize (s.reverse.dropWhile Tg.Hd.white).length = n at *
  have q1 := eq_true (show (n : Int) ≤ (s.length : Int) by omega)
  have htl : (s.take n).length ≤ 9223372036854775806 := by rw [List.length_take]; omega
  simp [he, q1, hle]
  generalize s.take n = t at *
  refine loop_ind (fun (i : Nat) fr' H' => fr' 0 = str t ∧ fr' 3 = .int .i64 i ∧ i ≤ t.length ∧ x = (t.drop i).dropWhile Tg.Hd.white ∧ H' = H) (fun i => t.length - i) 0 ⟨by simp, by simp, Nat.zero_le _, hx, rfl⟩ ?_
  rintro i fr' H' ⟨h0, h3, hi, hc, rfl⟩ ih
  by_cases hlt : i < t.length
  · have q := eq_true (show (i : Int) < (t.length : Int) by omega)
    have hat : at_ t (i : Int) = t[i] := at_in hlt
    have hw1 : IntKind.i64.wrap ((i : Int) + 1) = ((i + 1 : Nat) : Int) := by rw [wrapI (by omega) (by omega)]; omega
    have qi := eq_true (show (i : Int) ≤ (t.length : Int) by omega)
    rw [List.drop_eq_getElem_cons hlt, List.dropWhile_cons] at hc
    have hwc := fun H => hw H t[i]
    have hdr : t.drop i = t[i] :: t.drop (i + 1) := List.drop_eq_getElem_cons hlt
    generalize t[i] = c at *
    cases hq : Tg.Hd.white c with
    | true =>
      rw [hq] at hc hwc
      rw [if_pos rfl] at hc
      simp [h0, h3, q, hlt, hat, hwc]
      refine ih (i + 1) _ _ (by omega) ⟨?_, ?_, by omega, hc, rfl⟩
      all_goals simp [h0, hw1]
    | false =>
      rw [hq] at hc hwc
      rw [if_neg (by decide), ← hdr] at hc
      simp [h0, h3, q, hlt, hat, hwc, qi, hi, hc]
  · have q := eq_false (show ¬ (i : Int) < (t.length : Int) by omega)
    have qi := eq_true (show (i : Int) ≤ (t.length : Int) by omega)
    have hil : i = t.length := by omega
    rw [List.drop_of_length_le (by omega)] at hc
    subst hil
    simp [h0, h3, hc]
theorem small_cl : LC Tryz.prog EJ 151 [.int .u8 b.toNat] H = some (.bool (decide ((97 : Int) ≤ b.toNat) && decide ((b.toNat : Int) ≤ 122)), H) := by
  refine LC_pure rfl Tryz.func151 rfl (Nat.le_of_ble_eq_true rfl) (by decide) (by kernel_rfl) rfl ?_
  by_cases h1 : (97 : Int) ≤ b.toNat <;> by_cases h2 : (b.toNat : Int) ≤ 122 <;> simp [h1, h2]
theorem letter_cl : LC Tryz.prog EJ 128 [.int .u8 b.toNat] H = some (.bool (Tg.Hd.isL b), H) := by
  refine LC_pure rfl Tryz.func128 rfl (Nat.le_of_ble_eq_true rfl) (by decide) (by kernel_rfl) rfl ?_
  have h1 := fun H : LH => small_cl (H := H) (b := b)
  have h2 := fun H : LH => great_cl (H := H) (b := b)
  unfold Tg.Hd.isL
  cases e1 : (decide ((97 : Int) ≤ b.toNat) && decide ((b.toNat : Int) ≤ 122)) <;> rw [e1] at h1 <;>
  cases e2 : (decide ((65 : Int) ≤ b.toNat) && decide ((b.toNat : Int) ≤ 90)) <;> rw [e2] at h2 <;> simp [h1, h2]
theorem Token_cl : LC Tryz.prog EJ 103 [.int .u8 b.toNat] H = some (.bool (Tg.Hd.tok b), H) := by
  refine LC_pure rfl Tryz.func103 rfl (Nat.le_of_ble_eq_true rfl) (by decide) (by kernel_rfl) rfl ?_
  have h1 := fun H : LH => letter_cl (H := H) (b := b)
  have h2 : ∀ H : LH, LC Tryz.prog EJ 129 [.int .u8 b.toNat] H = some (.bool (Tg.Hd.isD b), H) := fun H => digit_cl (H := H) (b := b)
  have h3 := idx_lt Tg.Hd.signs b
  unfold Tg.Hd.tok
  cases e1 : Tg.Hd.isL b with
  | true => rw [e1] at h1; simp [h1]
  | false =>
    rw [e1] at h1
    cases e2 : Tg.Hd.isD b with
    | true => rw [e2] at h2; simp [h1, h2]
    | false =>
      rw [e2] at h2
      rw [h3]
      unfold Tg.Hd.signs
      simp [h1, h2]
      generalize Lib.indexByte _ b = x
      rw [Bool.eq_iff_iff]
      simp
abbrev hv (h : Tg.Hd.Hdr) : Value := .agg #[str h.1, str h.2]
abbrev hb (h : Tg.Hd.Hdr) : LB := ⟨[str h.1, str h.2], 57, true⟩
theorem fine_cl {h : Tg.Hd.Hdr} (h1 : h.1.length ≤ 1048576) (h2 : h.2.length ≤ 1048576) : LC Tryz.prog EJ 75 [hv h] H = some (.bool (Tg.Hd.fine h), H) := by
  refine LC_pure rfl Tryz.func75 rfl (Nat.le_of_ble_eq_true rfl) (by decide) (by kernel_rfl) rfl ?_
  have hle : H.le (H.new (hb h)) := le_refl.new
  obtain ⟨x, hx⟩ : ∃ x, x = Tg.Hd.fine h := ⟨_, rfl⟩
  rw [← hx]
  unfold Tg.Hd.fine at hx
  have ha := fun H : LH => all_cl (H := H) (s := h.1) (g := 103) (q := Tg.Hd.tok) (fun b H => Token_cl) (by omega)
  have ht := fun H : LH => Trim_cl (H := H) (s := h.2) (by omega)
  have hc : ∀ H : LH, LC Tryz.prog EJ 97 [str h.2, str [0, 13, 10]] H = some (.bool (!Tg.Hd.free [0, 13, 10] h.2), H) := fun H => anyOf_cl (H := H) (s := h.2) (p := [0, 13, 10]) (by omega) (by decide) (by intro b hb; simp at hb; rcases hb with rfl | rfl | rfl <;> decide)
  obtain ⟨n, v⟩ := h
  simp only at *
  by_cases e1 : n = []
  · have : x = false := by rw [hx]; simp [e1]
    subst this
    simp [e1, hle]
  · cases e2 : n.all Tg.Hd.tok with
    | false =>
      have : x = false := by rw [hx, e2]; simp
      subst this
      rw [e2] at ha
      simp [e1, ha, hle]
    | true =>
      rw [e2] at ha hx
      by_cases e3 : Tg.Hd.trim v = v
      · cases e4 : Tg.Hd.free [0, 13, 10] v with
        | false =>
          have : x = false := by rw [hx, e4]; simp
          subst this
          rw [e4] at hc
          simp [e1, ha, ht, e3, hc, hle]
        | true =>
          rw [e4] at hc hx
          by_cases e5 : v.length ≤ 8192
          · have : x = true := by rw [hx]; simp [e1, e3, e5]
            subst this
            have q5 := eq_true (show (v.length : Int) ≤ 8192 by omega)
            simp [e1, ha, ht, e3, hc, q5, hle]
          · have : x = false := by rw [hx]; simp [e5]
            subst this
            have q5 := eq_false (show ¬ (v.length : Int) ≤ 8192 by omega)
            simp [e1, ha, ht, e3, hc, q5, hle]
      · have : x = false := by rw [hx]; simp [e3]
        subst this
        simp [e1, ha, ht, e3, hle]
theorem idx_upto (c : UInt8) : ∀ s : List UInt8, (Lib.indexByte s c = -1 ∧ s.contains c = false) ∨ (Lib.indexByte s c = (Tg.Hd.upto c s : Nat) ∧ s.contains c = true)
  | [] => .inl ⟨rfl, rfl⟩
  | b :: r => by
    have hge := Lib.indexByte_ge r c
    unfold Lib.indexByte Tg.Hd.upto
    by_cases hb : b = c
    · subst hb
      right
      simp
    · have hb2 : ¬ c = b := fun e => hb e.symm
      have ih := idx_upto c r
      unfold Tg.Hd.upto at ih
      rcases ih with ⟨h1, h2⟩ | ⟨h1, h2⟩
      · left
        simp [hb, hb2, h1] at h2 ⊢
        exact h2
      · right
        rw [List.takeWhile_cons]
        simp [hb, hb2, h1] at h2 ⊢
        exact h2
theorem le2H {a b : LB} : H.le ((H.new a).new b) := le_refl.new.new
theorem trimH_len (s : List UInt8) : (Tg.Hd.trim s).length ≤ s.length := by
  unfold Tg.Hd.trim Tg.Hd.trimE
  refine Nat.le_trans (dw_le _) ?_
  rw [List.length_reverse]
  refine Nat.le_trans (dw_le _) ?_
  rw [List.length_reverse]
  exact Nat.le_refl _
theorem line_cl (hs : s.length ≤ 1048576) : ∃ h, LC Tryz.prog EJ 85 [str s] H = some (.tuple #[hv h, .bool (Tg.Hd.lineP s).isSome], H) ∧ ∀ h', Tg.Hd.lineP s = some h' → h = h' := by
  rcases idx_upto 58 s with ⟨h1, h2⟩ | ⟨h1, h2⟩
  · have hp : Tg.Hd.lineP s = none := by unfold Tg.Hd.lineP; rw [if_neg (by rw [h2]; decide)]
    rw [hp]
    refine ⟨(s, Tg.Hd.trim []), ?_, fun h' e => by cases e⟩
    refine LC_pure rfl Tryz.func85 rfl (Nat.le_of_ble_eq_true rfl) (by decide) (by kernel_rfl) rfl ?_
    have hc := fun H : LH => scut_none (H := H) h1
    have ht := fun H : LH => Trim_cl (H := H) (s := []) (by decide)
    generalize Tg.Hd.trim [] = z at *
    simp [hc, ht, le2H]
  · have hc := fun H : LH => scut_some (H := H) h1 (by omega)
    have hp : Tg.Hd.lineP s = if Tg.Hd.fine (s.take (Tg.Hd.upto 58 s), Tg.Hd.trim (s.drop (Tg.Hd.upto 58 s + 1))) then some (s.take (Tg.Hd.upto 58 s), Tg.Hd.trim (s.drop (Tg.Hd.upto 58 s + 1))) else none := by
      unfold Tg.Hd.lineP; rw [if_pos h2]
    have hl1 : (s.take (Tg.Hd.upto 58 s)).length ≤ 1048576 := by rw [List.length_take]; omega
    have hl2 : (s.drop (Tg.Hd.upto 58 s + 1)).length ≤ 1048576 := by rw [List.length_drop]; omega
    generalize s.take (Tg.Hd.upto 58 s) = n at *
    generalize s.drop (Tg.Hd.upto 58 s + 1) = v at *
    have ht := fun H : LH => Trim_cl (H := H) (s := v) (by omega)
    have htl := trimH_len v
    have hf := fun H : LH => fine_cl (H := H) (h := (n, Tg.Hd.trim v)) hl1 (by simp only; omega)
    refine ⟨(n, Tg.Hd.trim v), ?_, fun h' e => ?_⟩
    · refine LC_pure rfl Tryz.func85 rfl (Nat.le_of_ble_eq_true rfl) (by decide) (by kernel_rfl) rfl ?_
      generalize Tg.Hd.trim v = z at *
      rw [hp]
      cases hfi : Tg.Hd.fine (n, z) with
      | true => rw [hfi] at hf; simp [hc, ht, hf, le2H]
      | false => rw [hfi] at hf; simp [hc, ht, hf, le2H]
    · rw [hp] at e
      split at e
      · injection e
      · cases e
end
end Go.Proofs.YteckofomnhminaaGreatDoor
/-
  The iterator of strings.SplitSeq, over the logical run with rounds.
-/
set_option linter.unusedSimpArgs false
set_option linter.unusedVariables false
set_option maxRecDepth 100000
namespace Tg.Hd
theorem lines_other {b : UInt8} {r p : List UInt8} {l : List (List UInt8)} (hb : b ≠ 10) (h : lines r = p :: l) : lines (b :: r) = (b :: p) :: l := by
  conv => lhs; unfold lines
  rw [if_neg hb, h]
theorem lines_idx : ∀ s : List UInt8, (Go.Lib.indexByte s 10 = -1 ∧ lines s = [s]) ∨ ∃ i : Nat, Go.Lib.indexByte s 10 = i ∧ i < s.length ∧ lines s = s.take i :: lines (s.drop (i + 1))
  | [] => .inl ⟨rfl, rfl⟩
  | b :: r => by
    by_cases hb : b = 10
    · subst hb
      right
      exact ⟨0, by simp [Go.Lib.indexByte], by simp, lines_cut [] r (by simp)⟩
    · have hge := Go.Lib.indexByte_ge r 10
      rcases lines_idx r with ⟨h1, h2⟩ | ⟨i, h1, h2, h3⟩
      · left
        exact ⟨by simp [Go.Lib.indexByte, hb, h1], lines_other hb h2⟩
      · right
        refine ⟨i + 1, ?_, by simp; omega, ?_⟩
        · unfold Go.Lib.indexByte
          simp [hb, h1]
        · exact lines_other hb h3
end Tg.Hd
namespace Go.Proofs.YteckofomnhminaaGreatDoor
open Go.Lg Go.Tg
noncomputable def EP : PEnv := { E := EJ, pl := EJ.loud, px := fun _ => none, cat := none, tF := 0, ps := fun f => f == 54 || f == 23
  || f == 45 || f == 17
  }
@[simp] theorem EP_E : EP.E = EJ := rfl
@[simp] theorem EP_pl : EP.pl = EJ.loud := rfl
theorem EP_ps {f : FuncId} : EP.ps f = (f == 54 || f == 23
  || f == 45 || f == 17
  ) := rfl
def It (ps pp pv : Nat) (s : List UInt8) (H : LH) : Prop := H.get ps = some ⟨[str s], 9, true⟩ ∧ H.get pp = some ⟨[str [10]], 9, true⟩ ∧ H.get pv = some ⟨[.int .i64 0], 3, true⟩
section
variable {H : LH} {b : UInt8} {s t : List UInt8}
theorem sindex_cl {c : UInt8} : LC Tryz.prog EJ 123 [str s, str [c]] H = some (.int .i64 (Lib.indexByte s c), H) := by
  refine LC_pure rfl Tryz.func123 rfl (Nat.le_of_ble_eq_true rfl) (by decide) (by kernel_rfl) rfl ?_
  simp
theorem seq_run {yc : YC} {ps pp pv : Nat} {I : List (List UInt8) → LH → Prop} {D : LH → Prop} {Q : PQ} (h1 : ps ≠ pp) (h2 : ps ≠ pv)
    (hround : ∀ t ls H s', I (t :: ls) H → It ps pp pv s' H → t.length ≤ 1048576 → ∃ j H1, R Tryz.prog EP (.run none 1 yc.fn [.code yc.assign, .beginRound, .code yc.body] (setL yc.fr (yc.params.zip [str t])) H none (.jump j) H1 none) ∧ It ps pp pv s' H1 ∧ ((j = none ∧ I ls H1) ∨ (j = some .ret ∧ D H1)))
    (hset : ∀ ls H s' s'', I ls H → It ps pp pv s' H → I ls (H.set ps ⟨[str s''], 9, true⟩))
    (hp1 : yc.params.length = 1) (hpN : ∀ d ∈ yc.params, d < yc.fn.ntmps) (hI : I (Tg.Hd.lines s) H) (hIt : It ps pp pv s H) (hs : s.length ≤ 1048576)
    (hq1 : ∀ H1 v, I [] H1 → Q (.ret v) H1 none) (hq2 : ∀ H1 v, D H1 → Q (.ret v) H1 (some .ret)) :
    ∃ gc, fnOk Tryz.prog EP 133 Tryz.f133 gc [tok yc.l, ptr pp 0, ptr ps 0, ptr pv 0] ∧ PR Tryz.prog EP (some yc) 0 Tryz.f133 [.code gc] (enter [tok yc.l, ptr pp 0, ptr ps 0, ptr pv 0]) H none Q := by
  refine ⟨_, ⟨Tryz.func133, rfl, Nat.le_of_ble_eq_true rfl, by decide, by kernel_rfl⟩, ?_⟩
  have g := hIt
  obtain ⟨g1, g2, g3⟩ := g
  simp [g2]
  refine ploop_ind (fun (s' : List UInt8) fr' H' p' => fr' 0 = tok yc.l ∧ fr' 1 = ptr pp 0 ∧ fr' 2 = ptr ps 0 ∧ fr' 3 = ptr pv 0 ∧ s'.length ≤ 1048576 ∧ It ps pp pv s' H' ∧ I (Tg.Hd.lines s') H' ∧ p' = none) (fun s' => s'.length) s ⟨by simp, by simp, by simp, by simp, hs, hIt, hI, rfl⟩ ?_
  clear g1 g2 g3 hs hIt hI
  rintro s' fr' H' p' ⟨f0, f1, f2, f3, hl, hit, hi, rfl⟩ ih
  have g := hit
  obtain ⟨g1, g2, g3⟩ := g
  have hix := fun H : LH => sindex_cl (H := H) (s := s') (c := 10)
  rcases Tg.Hd.lines_idx s' with ⟨e1, e2⟩ | ⟨i, e1, e2, e3⟩
  · rw [e2] at hi
    rw [e1] at hix
    obtain ⟨j, H1, r1, it1, hj⟩ := hround s' [] H' s' hi hit hl
    simp [f0, f1, f2, f3, g1, g2, hix]
    refine hand_yield (yc := yc) (j := j) (H1 := H1) rfl rfl ?_ ?_ hpN ?_ rfl ?_
    · simp [f0]
    · exact hp1.symm
    · simpa using r1
    · simp
      rcases hj with ⟨rfl, hI1⟩ | ⟨rfl, hD1⟩
      · exact hq1 _ _ hI1
      · exact hq2 _ _ hD1
  · rw [e3] at hi
    rw [e1] at hix
    have htl : (s'.take i).length ≤ 1048576 := by rw [List.length_take]; omega
    obtain ⟨j, H1, r1, it1, hj⟩ := hround (s'.take i) (Tg.Hd.lines (s'.drop (i + 1))) H' s' hi hit htl
    obtain ⟨k1, k2, k3⟩ := it1
    have q1 := eq_false (show ¬ (i : Int) < 0 by omega)
    have q2 := eq_true (show (i : Int) ≤ (s'.length : Int) by omega)
    have q3 := eq_true (show (0 : Int) ≤ (i : Int) by omega)
    have hw0 : IntKind.i64.wrap (i : Int) = (i : Int) := wrapI (by omega) (by omega)
    have hw1 : IntKind.i64.wrap ((i : Int) + 1) = ((i + 1 : Nat) : Int) := by rw [wrapI (by omega) (by omega)]; omega
    have q4 := eq_true (show ((i + 1 : Nat) : Int) ≤ (s'.length : Int) by omega)
    simp [f0, f1, f2, f3, g1, g2, g3, hix, q1, q2, hw0]
    refine hand_yield (yc := yc) (j := j) (H1 := H1) rfl rfl ?_ ?_ hpN ?_ rfl ?_
    · simp [f0]
    · exact hp1.symm
    · simpa using r1
    · rcases hj with ⟨rfl, hI1⟩ | ⟨rfl, hD1⟩
      · have q5 := eq_true (show (i : Int) + 1 ≤ (s'.length : Int) by omega)
        have q6 := eq_true (show (0 : Int) ≤ (i : Int) + 1 by omega)
        have e9 : ((i : Int) + 1).toNat = i + 1 := by omega
        simp [f0, f1, f2, f3, k1, k2, k3, hw1, q4, q5, q6, e9]
        refine ih (s'.drop (i + 1)) _ _ _ ?_ ⟨?_, ?_, ?_, ?_, ?_, ⟨?_, ?_, ?_⟩, hset _ _ s' _ hI1 ⟨k1, k2, k3⟩, rfl⟩
        all_goals simp [f0, f1, f2, f3, k2, k3, h1, h2, h1.symm, h2.symm, get_set_ne]
        all_goals omega
      · simp
        exact hq2 _ _ hD1
end
end Go.Proofs.YteckofomnhminaaGreatDoor
/-
  A logical run of Go code: structs compared, part by part.
-/
set_option linter.unusedSimpArgs false
set_option linter.unusedVariables false
set_option maxRecDepth 100000
namespace Go.Lg
theorem pureVal_map {α β : Type} {P : Program} (s : Sem α) (f : α → β) : pureVal P (f <$> s) = (pureVal P s).map f := by
  show pureVal P (s >>= fun x => pure (f x)) = _
  rw [pureVal_bind]; cases pureVal P s <;> rfl
theorem eqIn_int {P : Program} {d : Nat} {t : TypeId} {k : IntKind} {a b : Int} (hu : P.underlying t = some (.int k)) : pureVal P (Op.equalIn (d + 1) t (.int k a) (.int k b)) = some (a == b) := by
  unfold Op.equalIn
  simp only [pureVal_bind, pureVal_und, hu, Option.bind_some, pureVal_pure, if_true]
theorem eqIn_str {P : Program} {d : Nat} {t : TypeId} {a b : List UInt8} (hu : P.underlying t = some .string) : pureVal P (Op.equalIn (d + 1) t (str a) (str b)) = some (decide (a = b)) := by
  unfold Op.equalIn
  simp only [pureVal_bind, pureVal_und, hu, Option.bind_some, str]
  show some _ = _
  congr 1
  rw [Bool.eq_iff_iff, Go.MapKept.bytes_beq]; simp
theorem eqIn_bool {P : Program} {d : Nat} {t : TypeId} {a b : Bool} (hu : P.underlying t = some .bool) : pureVal P (Op.equalIn (d + 1) t (.bool a) (.bool b)) = some (a == b) := by
  unfold Op.equalIn
  simp only [pureVal_bind, pureVal_und, hu, Option.bind_some, pureVal_pure]
theorem part_cell {P : Program} {t : TypeId} {cs : Array Value} {o : Nat} {v : Value} (ha : aggB P t = some false) (h : cs[o]? = some v) : pureVal P (part t cs o) = some v := by
  unfold part
  have : pureVal P (isAgg t) = some false := by
    unfold aggB at ha
    unfold isAgg
    obtain ⟨d, hd, hf⟩ := Option.map_eq_some_iff.1 ha
    simp only [pureVal_bind, pureVal_und, hd, Option.bind_some]
    cases d <;> first | rfl | (simp [aggD] at hf)
  simp only [pureVal_bind, this, Option.bind_some, h]
  rfl
/-- two aggregates of a type that is guarded by nothing -/
theorem lbin_agg {P : Program} {t : TypeId} {xs ys : List Value} {b : Bool} (hx : flatB (.agg ⟨xs⟩) = true) (hy : flatB (.agg ⟨ys⟩) = true) (hg : P.eqGuardType P.depth t = false)
    (he : pureVal P (Op.equalIn Op.maxDepth t (.agg ⟨xs⟩) (.agg ⟨ys⟩)) = some b) : lbin P .eql t (.agg ⟨xs⟩) (.agg ⟨ys⟩) = some (.bool b) := by
  unfold lbin
  simp only
  rw [if_pos (by rw [hx, hy]; rfl)]
  unfold pureFlat eqGuard
  simp only [binOp, Op.equal, pureVal_bind]
  have e1 : ∀ X Y : Value, pureVal P (if (!true) = true then (pure () : Sem Unit) else do
      let __do_lift ← program
      let __do_lift_1 ← program
      if (!__do_lift.eqGuardType __do_lift_1.depth t) = true then pure ()
      else do
        let __do_lift ← Op.eqGuardIn Op.maxDepth t X Y
        if __do_lift = true then unsupported (Unsupported.noEntry "binop/eql: two nil values of an interface type with methods, in a part of a struct or an array") else pure ()) = some () := by
    intro X Y
    rw [if_neg (by decide)]
    simp only [pureVal_bind, pureVal_program, Option.bind_some, hg, Bool.not_false, if_true, pureVal_pure]
  rw [e1, he]
  rfl
end Go.Lg
/-
  Layer 22 (header): rows of headers.
-/
set_option linter.unusedSimpArgs false
set_option linter.unusedVariables false
set_option maxRecDepth 100000
namespace Go.Proofs.YteckofomnhminaaGreatDoor
open Go.Lg Go.Tg
/-- v holds the headers l, wherever they lie -/
def HRow (H : LH) (v : Value) (l : List Tg.Hd.Hdr) : Prop :=
  (v = .slice none 0 0 ∧ l = []) ∨ ∃ (k o c : Nat), v = .slice (some ⟨k, o, none⟩) l.length c ∧ (l ≠ [] → ∃ b : LB, H.get k = some b ∧ k < H.n ∧ ∀ (i : Nat) (h : i < l.length), o + i * 2 + 2 ≤ b.cells.length ∧ (b.cells.drop (o + i * 2)).take 2 = [str l[i].1, str l[i].2] ∧ b.cells[o + i * 2]? = some (str l[i].1) ∧ b.cells[o + i * 2 + 1]? = some (str l[i].2))
/-- v is a row of headers of our own -/
abbrev HOwn (N : Nat) (H : LH) (v : Value) (l : List Tg.Hd.Hdr) : Prop := RowN N H 57 2 v l.length (Tg.Hd.cells l)
def oddAt : List Tg.Hd.Hdr → Nat → Int
  | [], _ => -1
  | h :: l, i => if Tg.Hd.fine h = true then oddAt l (i + 1) else i
theorem odd_iff : ∀ (l : List Tg.Hd.Hdr) (i : Nat), 0 ≤ oddAt l i ↔ l.all Tg.Hd.fine = false
  | [], i => by simp [oddAt]
  | h :: l, i => by
    unfold oddAt
    rw [List.all_cons]
    cases hf : Tg.Hd.fine h with
    | true => rw [if_pos rfl, odd_iff l (i + 1)]; simp
    | false => rw [if_neg (by decide)]; simp
section
variable {H H' : LH} {v : Value} {l : List Tg.Hd.Hdr} {N : Nat}
theorem HRow.keep (h : HRow H v l) (hn : H.n ≤ H'.n) (hk : ∀ k, k < H.n → H'.get k = H.get k) : HRow H' v l := by
  rcases h with h | ⟨k, o, c, h1, h2⟩
  · exact .inl h
  · refine .inr ⟨k, o, c, h1, fun hne => ?_⟩
    obtain ⟨b, h2, h3, h4⟩ := h2 hne
    exact ⟨b, by rw [hk k h3]; exact h2, by omega, h4⟩
theorem HRow.len (h : HRow H v l) : lbuiltin Tryz.prog .len [22] [v] H' = some (.int .i64 l.length, H') := by
  rcases h with ⟨rfl, rfl⟩ | ⟨k, o, c, rfl, h2⟩
  · simp
  · simp
theorem HRow.at (h : HRow H v l) {i : Nat} (hi : i < l.length) : ∃ k o, (∀ H' : LH, lixa Tryz.prog 22 v (.int .i64 i) H' = some (ptr k o, H')) ∧ k < H.n ∧ ∀ H' : LH, H'.get k = H.get k →
    lld Tryz.prog 57 (ptr k o) H' = some (hv l[i]) ∧ lld Tryz.prog 9 (ptr k o) H' = some (str l[i].1) ∧ lld Tryz.prog 9 (ptr k (o + 1)) H' = some (str l[i].2) := by
  rcases h with ⟨rfl, rfl⟩ | ⟨k, o, c, rfl, h2⟩
  · simp at hi
  · obtain ⟨b, h2, h3, h4⟩ := h2 (fun e => by rw [e] at hi; simp at hi)
    obtain ⟨g1, g2, g3, g4⟩ := h4 i hi
    refine ⟨k, o + i * 2, fun H' => ?_, h3, fun H' e => ?_⟩
    · have q := eq_true (show (i : Int) < (l.length : Int) by omega)
      simp [q]
    · rw [h2] at e
      have hlt : o + i * 2 < b.cells.length := by omega
      have hlt2 : o + i * 2 + 1 < b.cells.length := by omega
      rw [List.getElem?_eq_getElem hlt] at g3
      rw [List.getElem?_eq_getElem hlt2] at g4
      injection g3 with g3
      injection g4 with g4
      simp [e, g1, g2, g3, g4, hlt, hlt2]
theorem HOwn.row (h : HOwn N H v l) : HRow H v l := by
  rcases h.2 with ⟨rfl, h0⟩ | ⟨k, c, rest, rfl, h1, h2, h3, h4, h5⟩
  · exact .inl ⟨rfl, List.eq_nil_of_length_eq_zero h0⟩
  · refine .inr ⟨k, 0, c, rfl, fun _ => ⟨_, h3, h2, fun i hi => ?_⟩⟩
    have g := Tg.Hd.cells_at hi rest
    have hl := Tg.Hd.cells_len l
    simp only [Nat.zero_add]
    refine ⟨?_, g⟩
    rw [List.length_append, hl]; omega
theorem HOwn.nil : HOwn N H (.slice none 0 0) [] := RowN.nil
theorem h_app (h : HOwn N H v l) (hN : N ≤ H.n) (hl : l.length ≤ 100000) (a b : List UInt8) :
    ∃ v' H2, lapp Tryz.prog 22 v (some (1, [str a, str b])) (H.new ⟨[str a, str b], 57, true⟩) = some (v', H2) ∧ HOwn N H2 v' (l ++ [(a, b)]) ∧ H.n < H2.n ∧ (∀ k, k < H.n → offRow v k → H2.get k = H.get k) ∧ (Full v → Full v') ∧ (∀ k, k < H.n → offRow v k → offRow v' k) := by
  have h2 : HOwn N (H.new ⟨[str a, str b], 57, true⟩) v l := h.keep (Nat.le_succ _) (fun k _ _ hk => get_new_ne (by omega))
  obtain ⟨v', H2, ha, hr, hk, hf⟩ := RowN.app (P := Tryz.prog) (t := 22) (new := [str a, str b]) (m := 1) h2 Tryz.underlying22 (by kernel_rfl) (by simp) (by simp) (by unfold maxElems; omega) (by rw [n_new]; omega) (.inl (Nat.le_refl 1))
  refine ⟨v', H2, ha, ?_, ?_, fun k hkn ho => ?_, hf, fun k hkn ho => ?_⟩
  · have e : Tg.Hd.cells (l ++ [(a, b)]) = Tg.Hd.cells l ++ [str a, str b] := by rw [Tg.Hd.cells_app]; rfl
    rw [HOwn, List.length_append, e]; exact hr
  · have := hk.le; rw [n_new] at this; omega
  · rw [hk.get k (by rw [n_new]; omega) ho, get_new_ne (by omega)]
  · exact hk.off k (by rw [n_new]; omega) ho
theorem odd_cl {h : Tg.Hd.Hdr} (h1 : h.1.length ≤ 1048576) (h2 : h.2.length ≤ 1048576) : LC Tryz.prog EJ 74 [hv h] H = some (.bool (!Tg.Hd.fine h), H) := by
  refine LC_pure rfl Tryz.func74 rfl (Nat.le_of_ble_eq_true rfl) (by decide) (by kernel_rfl) rfl ?_
  have hf := fun H : LH => fine_cl (H := H) h1 h2
  simp [hf, le_refl.new]
theorem index_cl (hr : HRow H v l) (hl : l.length ≤ 1000000) (hs : ∀ h ∈ l, h.1.length ≤ 1048576 ∧ h.2.length ≤ 1048576) : LC Tryz.prog EJ 71 [v, .func (.func 74) #[] #[]] H = some (.int .i64 (oddAt l 0), H) := by
  refine LC_pure rfl Tryz.func71 rfl (Nat.le_of_ble_eq_true rfl) (by decide) (by kernel_rfl) rfl ?_
  obtain ⟨x, hx⟩ : ∃ x, x = oddAt l 0 := ⟨_, rfl⟩
  rw [← hx]
  simp [hr.len]
  refine loop_ind (fun (i : Nat) fr' H' => fr' 0 = v ∧ fr' 1 = .func (.func 74) #[] #[] ∧ fr' 7 = .int .i64 l.length ∧ fr' 8 = .int .i64 i ∧ i ≤ l.length ∧ x = oddAt (l.drop i) i ∧ H' = H) (fun i => l.length - i) 0 ⟨by simp, by simp, by simp, by simp, Nat.zero_le _, hx, rfl⟩ ?_
  rintro i fr' H' ⟨h0, h1, h7, h8, hi, hc, rfl⟩ ih
  by_cases hlt : i < l.length
  · have q := eq_true (show (i : Int) < (l.length : Int) by omega)
    have hw : IntKind.i64.wrap ((i : Int) + 1) = ((i + 1 : Nat) : Int) := by rw [wrapI (by omega) (by omega)]; omega
    obtain ⟨k, o, g1, g2, g3⟩ := hr.at hlt
    obtain ⟨g4, _, _⟩ := g3 H' rfl
    have hm := hs l[i] (List.getElem_mem hlt)
    have ho := fun H : LH => odd_cl (H := H) (h := l[i]) hm.1 hm.2
    rw [List.drop_eq_getElem_cons hlt] at hc
    generalize l[i] = a at *
    unfold oddAt at hc
    cases hf : Tg.Hd.fine a with
    | true =>
      rw [hf, if_pos rfl] at hc
      rw [hf] at ho
      simp [h0, h1, h7, h8, q, hlt, g1, g4, ho]
      refine ih (i + 1) _ _ (by omega) ⟨?_, ?_, ?_, ?_, by omega, hc, rfl⟩
      all_goals simp [h0, h1, h7, hw]
    | false =>
      rw [hf, if_neg (by decide)] at hc
      rw [hf] at ho
      subst hc
      simp [h0, h1, h7, h8, q, hlt, g1, g4, ho]
  · have q := eq_false (show ¬ (i : Int) < (l.length : Int) by omega)
    rw [List.drop_of_length_le (by omega)] at hc
    have hc : x = -1 := hc
    subst hc
    simp [h0, h1, h7, h8, q, hlt]
theorem good_hl (hr : HRow H v l) (hl : l.length ≤ 1000000) (hs : ∀ h ∈ l, h.1.length ≤ 1048576 ∧ h.2.length ≤ 1048576) : LC Tryz.prog EJ 43 [v] H = some (.bool (Tg.Hd.good l), H) := by
  have hi : ∀ H', H' = H → LC Tryz.prog EJ 71 [v, .func (.func 74) #[] #[]] H' = some (.int .i64 (oddAt l 0), H') := fun H' e => by subst e; exact index_cl hr hl hs
  have hc : LC Tryz.prog EJ 41 [v, .func (.func 74) #[] #[]] H = some (.bool (decide (0 ≤ oddAt l 0)), H) := by
    refine LC_pure rfl Tryz.func41 rfl (Nat.le_of_ble_eq_true rfl) (by decide) (by kernel_rfl) rfl ?_
    simp [hi]
  have hodd := odd_iff l 0
  refine LC_pure rfl Tryz.func43 rfl (Nat.le_of_ble_eq_true rfl) (by decide) (by kernel_rfl) rfl ?_
  unfold Tg.Hd.good
  by_cases h1 : l.length ≤ 100
  · have q := eq_true (show (l.length : Int) ≤ 100 by omega)
    cases hall : l.all Tg.Hd.fine with
    | true =>
      rw [hall] at hodd
      rw [decide_eq_false (by rw [hodd]; decide)] at hc
      simp [hr.len, q, h1, hc]
    | false =>
      rw [hall] at hodd
      rw [decide_eq_true (by rw [hodd])] at hc
      simp [hr.len, q, h1, hc]
  · have q := eq_false (show ¬ (l.length : Int) ≤ 100 by omega)
    simp [hr.len, q, h1]
end
end Go.Proofs.YteckofomnhminaaGreatDoor
/-
  Layer 22 (header): what the reference's functions come to: texts, tokens, good headers.
-/
set_option linter.unusedSimpArgs false
set_option linter.unusedVariables false
set_option maxRecDepth 100000
namespace Tg.Hd
theorem trimE_cons (c : UInt8) (r : List UInt8) : trimE (c :: r) = if trimE r = [] ∧ white c = true then [] else c :: trimE r := by
  unfold trimE
  rw [List.reverse_cons, List.dropWhile_append]
  cases hd : r.reverse.dropWhile white with
  | nil =>
    simp only [List.isEmpty_nil, if_true, List.reverse_nil, true_and]
    cases hw : white c with
    | true => simp [hw]
    | false => simp [hw]
  | cons x l => simp
theorem trim_front : ∀ s : List UInt8, trimE (s.dropWhile white) = trim s
  | [] => rfl
  | c :: r => by
    have ih := trim_front r
    unfold trim at ih ⊢
    rw [trimE_cons, List.dropWhile_cons]
    cases hw : white c with
    | true =>
      simp only [if_true, and_true]
      split
      · rename_i h; rw [ih, h]
      · rw [List.dropWhile_cons, if_pos hw]; exact ih
    | false =>
      simp only [Bool.false_eq_true, if_false, and_false]
      rw [trimE_cons, hw]
      simp only [Bool.false_eq_true, and_false, if_false]
      rw [List.dropWhile_cons, if_neg (by rw [hw]; decide)]
end Tg.Hd
namespace Go.Proofs.YteckofomnhminaaGreatDoor
open Go.Lg Go.Tg
section
variable {H : LH} {b : UInt8} {s p : List UInt8}
theorem htn_ne {c b : UInt8} (h : ¬ c = b) : ((c.toNat : Int) = (b.toNat : Int)) = False := eq_false (fun e => h (UInt8.toNat_inj.mp (by omega)))
theorem hhas_cl (hs : s.length ≤ 1048576) : LC Tryz.prog EJ 76 [str s, .int .u8 b.toNat] H = some (.bool (s.contains b), H) := by
  refine LC_pure rfl Tryz.func76 rfl (Nat.le_of_ble_eq_true rfl) (by decide) (by kernel_rfl) rfl ?_
  obtain ⟨x, hx⟩ : ∃ x, x = s.contains b := ⟨_, rfl⟩
  rw [← hx]
  simp
  refine loop_ind (fun (i : Nat) fr' H' => fr' 0 = str s ∧ fr' 1 = .int .u8 b.toNat ∧ fr' 5 = .int .i64 i ∧ i ≤ s.length ∧ x = (s.drop i).contains b ∧ H' = H) (fun i => s.length - i) 0 ⟨by simp, by simp, by simp, Nat.zero_le _, hx, rfl⟩ ?_
  rintro i fr' H' ⟨h0, h1, h5, hi, hc, rfl⟩ ih
  by_cases hlt : i < s.length
  · have q := eq_true (show (i : Int) < (s.length : Int) by omega)
    have hat : at_ s (i : Int) = s[i] := at_in hlt
    have hw : IntKind.i64.wrap ((i : Int) + 1) = ((i + 1 : Nat) : Int) := by rw [wrapI (by omega) (by omega)]; omega
    rw [List.drop_eq_getElem_cons hlt, List.contains_cons] at hc
    generalize s[i] = c at *
    by_cases hcb : c = b
    · subst hcb
      have hc : x = true := by rw [hc]; simp
      subst hc
      simp [h0, h1, h5, q, hat]
    · have hbc : (b == c) = false := by simp; exact fun e => hcb e.symm
      rw [hbc, Bool.false_or] at hc
      have hcb := htn_ne hcb
      simp [h0, h1, h5, q, hat, hcb]
      refine ih (i + 1) _ _ (by omega) ⟨?_, ?_, ?_, by omega, hc, rfl⟩
      all_goals simp [h0, h1, hw]
  · have q := eq_false (show ¬ (i : Int) < (s.length : Int) by omega)
    rw [List.drop_of_length_le (by omega)] at hc
    have hc : x = false := hc
    subst hc
    simp [h0, h1, h5, q]
theorem hwhite_cl : LC Tryz.prog EJ 53 [.int .u8 b.toNat] H = some (.bool (Tg.Hd.white b), H) := by
  refine LC_pure rfl Tryz.func53 rfl (Nat.le_of_ble_eq_true rfl) (by decide) (by kernel_rfl) rfl ?_
  have hh := fun H : LH => hhas_cl (H := H) (s := [9, 10, 13, 32]) (b := b) (by decide)
  have e : ([9, 10, 13, 32] : List UInt8).contains b = Tg.Hd.white b := rfl
  rw [e] at hh
  simp [hh]
theorem htrim_cl (hs : s.length ≤ 1048576) : LC Tryz.prog EJ 22 [str s] H = some (str (Tg.Hd.trim s), H) := by
  refine LC_pure rfl Tryz.func22 rfl (Nat.le_of_ble_eq_true rfl) (by decide) (by kernel_rfl) rfl ?_
  have hw := fun (H : LH) (b : UInt8) => hwhite_cl (H := H) (b := b)
  rw [← Tg.Hd.trim_front]
  refine runs_cut 2 (fun fr' H' => fr' 0 = str (s.dropWhile Tg.Hd.white) ∧ H' = H) ?_ (fun K2 hK2 => ?_) rfl
  · rintro fr' H' ⟨f0, rfl⟩
    have hll : (s.dropWhile Tg.Hd.white).length ≤ 1048576 := Nat.le_trans (dw_le _) hs
    generalize s.dropWhile Tg.Hd.white = t at *
    obtain ⟨y, hy⟩ : ∃ y, y = Tg.Hd.trimE t := ⟨_, rfl⟩
    rw [← hy]
    unfold Tg.Hd.trimE at hy
    simp
    refine loop_ind (fun (t' : List UInt8) fr'' H'' => fr'' 0 = str t' ∧ t'.length ≤ 1048576 ∧ y = (t'.reverse.dropWhile Tg.Hd.white).reverse ∧ H'' = H') (fun t' => t'.length) t ⟨by simp [f0], hll, hy, rfl⟩ ?_
    rintro t' fr' H' ⟨h0, hl, hc, rfl⟩ ih
    rcases List.eq_nil_or_concat t' with rfl | ⟨r, c, rfl⟩
    · have hc : y = [] := hc
      subst hc
      simp [h0]
    · rw [List.concat_eq_append] at *
      rw [List.reverse_append, List.reverse_singleton, List.singleton_append, List.dropWhile_cons] at hc
      have hlen : (r ++ [c]).length = r.length + 1 := by simp
      have hat : at_ (r ++ [c]) (r.length : Int) = c := by
        rw [at_in (by simp)]; simp
      have hw2 : IntKind.i64.wrap (((r.length : Int) + 1) - 1) = (r.length : Int) := by rw [wrapI (by omega) (by omega)]; omega
      have hw4 : IntKind.i64.wrap (r.length : Int) = (r.length : Int) := wrapI (by omega) (by omega)
      have q1 := eq_true (show (0 : Int) < (r.length : Int) + 1 by omega)
      have q2 := eq_true (show (r.length : Int) < (r.length : Int) + 1 by omega)
      have q3 := eq_true (show (r.length : Int) ≤ (r.length : Int) + 1 by omega)
      have hwc := fun H => hw H c
      cases h32 : Tg.Hd.white c with
      | true =>
        rw [h32] at hc hwc
        rw [if_pos rfl] at hc
        simp [h0, hw2, hw4, q1, q2, q3, hat, hwc]
        refine ih r _ _ (by simp) ⟨?_, by omega, hc, rfl⟩
        simp
      | false =>
        rw [h32] at hc hwc
        rw [if_neg (by decide)] at hc
        have hc : y = r ++ [c] := by rw [hc]; simp
        subst hc
        simp [h0, hw2, hw4, q1, q2, q3, hat, hwc]
  have hfin := fun fr' (g0 : fr' 0 = str (s.dropWhile Tg.Hd.white)) => hK2 fr' _ ⟨g0, rfl⟩
  clear hK2
  obtain ⟨y, hy⟩ : ∃ y, y = s.dropWhile Tg.Hd.white := ⟨_, rfl⟩
  rw [← hy] at hfin ⊢
  simp
  refine loop_ind (fun (t' : List UInt8) fr' H' => fr' 0 = str t' ∧ t'.length ≤ 1048576 ∧ y = t'.dropWhile Tg.Hd.white ∧ H' = H) (fun t' => t'.length) s ⟨by simp, hs, hy, rfl⟩ ?_
  rintro t' fr' H' ⟨h0, hl, hc, rfl⟩ ih
  cases t' with
  | nil =>
    have hc : y = [] := hc
    subst hc
    simp [h0]
    refine hfin _ ?_
    all_goals simp [h0]
  | cons c r =>
    rw [List.dropWhile_cons] at hc
    have a0 : at_ (c :: r) 0 = c := rfl
    have q1 := eq_true (show (0 : Int) < (r.length : Int) + 1 by omega)
    have q2 := eq_true (show (1 : Int) ≤ (r.length : Int) + 1 by omega)
    have hwc := fun H => hw H c
    cases h32 : Tg.Hd.white c with
    | true =>
      rw [h32] at hc hwc
      rw [if_pos rfl] at hc
      simp [h0, a0, q1, q2, hwc]
      refine ih r _ _ (by simp) ⟨?_, by simp at hl; omega, hc, rfl⟩
      all_goals simp
    | false =>
      rw [h32] at hc hwc
      rw [if_neg (by decide)] at hc
      subst hc
      simp [h0, a0, q1, q2, hwc]
      refine hfin _ ?_
      all_goals simp [h0]
theorem hdigit_cl : LC Tryz.prog EJ 91 [.int .u8 b.toNat] H = some (.bool (Tg.Hd.isD b), H) := by
  refine LC_pure rfl Tryz.func91 rfl (Nat.le_of_ble_eq_true rfl) (by decide) (by kernel_rfl) rfl ?_
  unfold Tg.Hd.isD
  by_cases h1 : (48 : Int) ≤ b.toNat <;> by_cases h2 : (b.toNat : Int) ≤ 57 <;> simp [h1, h2]
theorem hletter_cl : LC Tryz.prog EJ 130 [.int .u8 b.toNat] H = some (.bool (Tg.Hd.isL b), H) := by
  refine LC_pure rfl Tryz.func130 rfl (Nat.le_of_ble_eq_true rfl) (by decide) (by kernel_rfl) rfl ?_
  unfold Tg.Hd.isL
  by_cases h1 : (97 : Int) ≤ b.toNat <;> by_cases h2 : (b.toNat : Int) ≤ 122 <;> by_cases h3 : (65 : Int) ≤ b.toNat <;> by_cases h4 : (b.toNat : Int) ≤ 90 <;> simp [h1, h2, h3, h4]
theorem htoken_cl : LC Tryz.prog EJ 104 [.int .u8 b.toNat] H = some (.bool (Tg.Hd.tok b), H) := by
  refine LC_pure rfl Tryz.func104 rfl (Nat.le_of_ble_eq_true rfl) (by decide) (by kernel_rfl) rfl ?_
  have h1 := fun H : LH => hletter_cl (H := H) (b := b)
  have h2 := fun H : LH => hdigit_cl (H := H) (b := b)
  have h3 := fun H : LH => hhas_cl (H := H) (s := [33, 35, 36, 37, 38, 39, 42, 43, 45, 46, 94, 95, 96, 124, 126]) (b := b) (by decide)
  have e : ([33, 35, 36, 37, 38, 39, 42, 43, 45, 46, 94, 95, 96, 124, 126] : List UInt8).contains b = Tg.Hd.signs.contains b := by
    unfold Tg.Hd.signs
    rw [Bool.eq_iff_iff]
    simp only [List.contains_eq_mem, List.mem_cons, List.not_mem_nil, or_false, decide_eq_true_eq]
    constructor <;> intro h <;> rcases h with h | h | h | h | h | h | h | h | h | h | h | h | h | h | h <;> simp [h]
  rw [e] at h3
  unfold Tg.Hd.tok
  cases e1 : Tg.Hd.isL b with
  | true => rw [e1] at h1; simp [h1]
  | false =>
    rw [e1] at h1
    cases e2 : Tg.Hd.isD b with
    | true => rw [e2] at h2; simp [h1, h2]
    | false =>
      rw [e2] at h2
      simp [h1, h2, h3]
theorem htokens_cl (hs : s.length ≤ 1048576) : LC Tryz.prog EJ 77 [str s] H = some (.bool (s.all Tg.Hd.tok && decide (s ≠ [])), H) := by
  refine LC_pure rfl Tryz.func77 rfl (Nat.le_of_ble_eq_true rfl) (by decide) (by kernel_rfl) rfl ?_
  have hh := fun (H : LH) (b : UInt8) => htoken_cl (H := H) (b := b)
  obtain ⟨x, hx⟩ : ∃ x, x = (s.all Tg.Hd.tok && decide (s ≠ [])) := ⟨_, rfl⟩
  rw [← hx]
  simp
  refine loop_ind (fun (i : Nat) fr' H' => fr' 0 = str s ∧ fr' 3 = .int .i64 i ∧ i ≤ s.length ∧ x = ((s.drop i).all Tg.Hd.tok && decide (s ≠ [])) ∧ H' = H) (fun i => s.length - i) 0 ⟨by simp, by simp, Nat.zero_le _, hx, rfl⟩ ?_
  rintro i fr' H' ⟨h0, h3, hi, hc, rfl⟩ ih
  by_cases hlt : i < s.length
  · have q := eq_true (show (i : Int) < (s.length : Int) by omega)
    have hat : at_ s (i : Int) = s[i] := at_in hlt
    have hw : IntKind.i64.wrap ((i : Int) + 1) = ((i + 1 : Nat) : Int) := by rw [wrapI (by omega) (by omega)]; omega
    rw [List.drop_eq_getElem_cons hlt, List.all_cons] at hc
    have hhc := fun H => hh H s[i]
    generalize s[i] = c at *
    cases hcb : Tg.Hd.tok c with
    | false =>
      rw [hcb] at hc hhc
      have hc : x = false := by rw [hc]; simp
      subst hc
      simp [h0, h3, q, hat, hhc]
    | true =>
      rw [hcb, Bool.true_and] at hc
      rw [hcb] at hhc
      simp [h0, h3, q, hat, hhc]
      refine ih (i + 1) _ _ (by omega) ⟨?_, ?_, by omega, hc, rfl⟩
      all_goals simp [h0, hw]
  · have q := eq_false (show ¬ (i : Int) < (s.length : Int) by omega)
    rw [List.drop_of_length_le (by omega)] at hc
    have hc : x = decide (s ≠ []) := by rw [hc]; simp
    subst hc
    by_cases hn : s = []
    · subst hn
      have qn := eq_false (show ¬ (i : Int) < 0 by omega)
      simp [h0, h3, qn]
    · simp [h0, h3, q, hn]
theorem hfine_cl {h : Tg.Hd.Hdr} (h1 : h.1.length ≤ 1048576) (h2 : h.2.length ≤ 1048576) : LC Tryz.prog EJ 44 [hv h] H = some (.bool (Tg.Hd.fine h), H) := by
  refine LC_pure rfl Tryz.func44 rfl (Nat.le_of_ble_eq_true rfl) (by decide) (by kernel_rfl) rfl ?_
  have hle : H.le (H.new (hb h)) := le_refl.new
  obtain ⟨x, hx⟩ : ∃ x, x = Tg.Hd.fine h := ⟨_, rfl⟩
  rw [← hx]
  unfold Tg.Hd.fine at hx
  have ha := fun H : LH => htokens_cl (H := H) (s := h.1) (by omega)
  have ht := fun H : LH => htrim_cl (H := H) (s := h.2) (by omega)
  have hh := fun (H : LH) (b : UInt8) => hhas_cl (H := H) (s := [0, 13, 10]) (b := b) (by decide)
  obtain ⟨n, v⟩ := h
  simp only at *
  refine runs_cut 2 (fun fr' H' => fr' 1 = ptr H.n 0 ∧ H' = H.new (hb (n, v)) ∧ Tg.Hd.free [0, 13, 10] v = true) ?_ (fun K3 hK3 => ?_) rfl
  · rintro fr' H' ⟨f1, rfl, hfr⟩
    rw [hfr] at hx
    by_cases e1 : n = []
    · have : x = false := by rw [hx]; simp [e1]
      subst this
      subst e1
      simp [f1, ha, hle]
    · cases e2 : n.all Tg.Hd.tok with
      | false =>
        have : x = false := by rw [hx, e2]; simp
        subst this
        rw [e2] at ha
        simp [f1, ha, hle]
      | true =>
        rw [e2] at ha hx
        by_cases e3 : Tg.Hd.trim v = v
        · by_cases e5 : v.length ≤ 8192
          · have : x = true := by rw [hx]; simp [e1, e3, e5]
            subst this
            have q5 := eq_true (show (v.length : Int) < 8193 by omega)
            simp [f1, e1, ha, ht, e3, q5, hle]
          · have : x = false := by rw [hx]; simp [e5]
            subst this
            have q5 := eq_false (show ¬ (v.length : Int) < 8193 by omega)
            simp [f1, e1, ha, ht, e3, q5, hle]
        · have : x = false := by rw [hx]; simp [e3]
          subst this
          simp [f1, e1, ha, ht, e3, hle]
  have hfin := fun fr' (g1 : fr' 1 = ptr H.n 0) (g : Tg.Hd.free [0, 13, 10] v = true) => hK3 fr' _ ⟨g1, rfl, g⟩
  have hno : Tg.Hd.free [0, 13, 10] v = false → x = false := fun e => by rw [hx, e]; simp
  clear hK3 hx ha ht
  obtain ⟨y, hy⟩ : ∃ y, y = Tg.Hd.free [0, 13, 10] v := ⟨_, rfl⟩
  rw [← hy] at hfin hno
  unfold Tg.Hd.free at hy
  simp
  refine loop_ind (fun (i : Nat) fr' H' => fr' 1 = ptr H.n 0 ∧ fr' 3 = .int .i64 i ∧ i ≤ v.length ∧ y = (v.drop i).all (fun b => !([0, 13, 10] : List UInt8).contains b) ∧ H' = H.new (hb (n, v))) (fun i => v.length - i) 0 ⟨by simp, by simp, Nat.zero_le _, hy, rfl⟩ ?_
  rintro i fr' H' ⟨h0, h3, hi, hc, rfl⟩ ih
  by_cases hlt : i < v.length
  · have q := eq_true (show (i : Int) < (v.length : Int) by omega)
    have hat : at_ v (i : Int) = v[i] := at_in hlt
    have hw : IntKind.i64.wrap ((i : Int) + 1) = ((i + 1 : Nat) : Int) := by rw [wrapI (by omega) (by omega)]; omega
    rw [List.drop_eq_getElem_cons hlt, List.all_cons] at hc
    have hhc := fun H => hh H v[i]
    generalize v[i] = c at *
    cases hcb : ([0, 13, 10] : List UInt8).contains c with
    | true =>
      rw [hcb] at hc hhc
      have hc : y = false := by rw [hc]; simp
      have := hno hc
      subst this
      simp [h0, h3, q, hlt, hat, hhc, hle]
    | false =>
      rw [hcb] at hc hhc
      have hc : y = (v.drop (i + 1)).all (fun b => !([0, 13, 10] : List UInt8).contains b) := by rw [hc]; simp
      simp [h0, h3, q, hlt, hat, hhc]
      refine ih (i + 1) _ _ (by omega) ⟨?_, ?_, by omega, hc, rfl⟩
      all_goals simp [h0, hw]
  · have q := eq_false (show ¬ (i : Int) < (v.length : Int) by omega)
    rw [List.drop_of_length_le (by omega)] at hc
    have hc : y = true := hc
    simp [h0, h3, q, hlt]
    refine hfin _ ?_ hc
    all_goals simp [h0]
end
end Go.Proofs.YteckofomnhminaaGreatDoor
/-
  Layer 22 (header): lists of headers: good ones, the same ones, their text, the first ones cut.
-/
set_option linter.unusedSimpArgs false
set_option linter.unusedVariables false
set_option maxRecDepth 100000
namespace Tg.Hd
theorem text_app (a b : List Hdr) : text (a ++ b) = text a ++ text b := List.flatMap_append
theorem text_one (h : Hdr) : text [h] = h.1 ++ [58, 32] ++ h.2 ++ [13, 10] := by unfold text; simp
theorem text_len {m : Nat} : ∀ {l : List Hdr}, (∀ h ∈ l, h.1.length ≤ m ∧ h.2.length ≤ m) → (text l).length ≤ l.length * (2 * m + 4)
  | [], _ => by simp [text]
  | h :: l, hs => by
    have ih := text_len (l := l) (fun x hx => hs x (by simp [hx]))
    have := hs h (by simp)
    have e : text (h :: l) = (h.1 ++ [58, 32] ++ h.2 ++ [13, 10]) ++ text l := by unfold text; rw [List.flatMap_cons]
    rw [e, List.length_append, List.length_cons, Nat.add_mul]
    simp
    omega
end Tg.Hd
namespace Go.Proofs.YteckofomnhminaaGreatDoor
open Go.Lg Go.Tg
section
variable {H : LH} {v w : Value} {l m : List Tg.Hd.Hdr} {N : Nat}
theorem hgood_cl (hr : HRow H v l) (hl : l.length ≤ 1000000) (hs : ∀ h ∈ l, h.1.length ≤ 1048576 ∧ h.2.length ≤ 1048576) : LC Tryz.prog EJ 13 [v] H = some (.bool (Tg.Hd.good l), H) := by
  refine LC_pure rfl Tryz.func13 rfl (Nat.le_of_ble_eq_true rfl) (by decide) (by kernel_rfl) rfl ?_
  obtain ⟨x, hx⟩ : ∃ x, x = Tg.Hd.good l := ⟨_, rfl⟩
  rw [← hx]
  unfold Tg.Hd.good at hx
  have hx : x = (decide (l.length ≤ 100) && (l.drop 0).all Tg.Hd.fine) := hx
  simp
  refine loop_ind (fun (i : Nat) fr' H' => fr' 0 = v ∧ fr' 3 = .int .i64 i ∧ i ≤ l.length ∧ x = (decide (l.length ≤ 100) && (l.drop i).all Tg.Hd.fine) ∧ H' = H) (fun i => l.length - i) 0 ⟨by simp, by simp, Nat.zero_le _, hx, rfl⟩ ?_
  rintro i fr' H' ⟨h0, h3, hi, hc, rfl⟩ ih
  by_cases hlt : i < l.length
  · have q := eq_true (show (i : Int) < (l.length : Int) by omega)
    have hw : IntKind.i64.wrap ((i : Int) + 1) = ((i + 1 : Nat) : Int) := by rw [wrapI (by omega) (by omega)]; omega
    obtain ⟨k, o, g1, g2, g3⟩ := hr.at hlt
    obtain ⟨g4, _, _⟩ := g3 H' rfl
    have hm := hs l[i] (List.getElem_mem hlt)
    have ho := fun H : LH => hfine_cl (H := H) (h := l[i]) hm.1 hm.2
    rw [List.drop_eq_getElem_cons hlt, List.all_cons] at hc
    generalize l[i] = a at *
    cases hf : Tg.Hd.fine a with
    | true =>
      rw [hf] at hc ho
      simp [h0, h3, q, hlt, g1, g4, ho, hr.len]
      refine ih (i + 1) _ _ (by omega) ⟨?_, ?_, by omega, by rw [hc]; rfl, rfl⟩
      all_goals simp [h0, hw]
    | false =>
      rw [hf] at hc ho
      have hc : x = false := by rw [hc]; simp
      subst hc
      simp [h0, h3, q, hlt, g1, g4, ho, hr.len]
  · have q := eq_false (show ¬ (i : Int) < (l.length : Int) by omega)
    rw [List.drop_of_length_le (by omega)] at hc
    have hc : x = decide (l.length ≤ 100) := by rw [hc]; simp
    by_cases h1 : l.length ≤ 100
    · have q1 := eq_true (show (l.length : Int) < 101 by omega)
      rw [decide_eq_true h1] at hc
      subst hc
      simp [h0, h3, q, q1, hr.len]
    · have q1 := eq_false (show ¬ (l.length : Int) < 101 by omega)
      rw [decide_eq_false h1] at hc
      subst hc
      simp [h0, h3, q, q1, hr.len]
theorem hbin_neq {P : Program} {t : TypeId} {xs ys : List Value} {b : Bool} (hx : flatB (.agg ⟨xs⟩) = true) (hy : flatB (.agg ⟨ys⟩) = true) (hg : P.eqGuardType P.depth t = false)
    (he : pureVal P (Op.equalIn Op.maxDepth t (.agg ⟨xs⟩) (.agg ⟨ys⟩)) = some b) : lbin P .neq t (.agg ⟨xs⟩) (.agg ⟨ys⟩) = some (.bool (!b)) := by
  unfold lbin
  simp only
  rw [if_pos (by rw [hx, hy]; rfl)]
  unfold pureFlat eqGuard
  simp only [binOp, Op.equal, pureVal_bind]
  have e1 : ∀ X Y : Value, pureVal P (if (!true) = true then (pure () : Sem Unit) else do
      let __do_lift ← program
      let __do_lift_1 ← program
      if (!__do_lift.eqGuardType __do_lift_1.depth t) = true then pure ()
      else do
        let __do_lift ← Op.eqGuardIn Op.maxDepth t X Y
        if __do_lift = true then unsupported (Unsupported.noEntry "binop/eql: two nil values of an interface type with methods, in a part of a struct or an array") else pure ()) = some () := by
    intro X Y
    rw [if_neg (by decide)]
    simp only [pureVal_bind, pureVal_program, Option.bind_some, hg, Bool.not_false, if_true, pureVal_pure]
  rw [e1, he]
  rfl
theorem hdr_in {a b : Tg.Hd.Hdr} : pureVal Tryz.prog (Op.equalIn Op.maxDepth 57 (hv a) (hv b)) = some (decide (a = b)) := by
  show pureVal Tryz.prog (Op.equalIn ((9998 + 1) + 1) _ _ _) = _
  have hs : Tryz.prog.stoodInHeld 57 = false := by kernel_rfl
  obtain ⟨a1, a2⟩ := a
  obtain ⟨b1, b2⟩ := b
  unfold Op.equalIn
  simp only [pureVal_bind, pureVal_und, Tryz.underlying57, Option.bind_some, pureVal_program, hs, Bool.false_eq_true, if_false, pureVal_pure]
  by_cases h1 : a1 = b1 <;> by_cases h2 : a2 = b2 <;>
    simp [← Array.forIn_toList, pureVal_bind, part_cell, eqIn_int, eqIn_str, eqIn_bool, h1, h2, Tryz.underlying3, Tryz.underlying9, Tryz.underlying4]
theorem hdr_eq {a b : Tg.Hd.Hdr} : lbin Tryz.prog .eql 57 (hv a) (hv b) = some (.bool (decide (a = b))) := lbin_agg rfl rfl (by kernel_rfl) hdr_in
theorem hdr_ne {a b : Tg.Hd.Hdr} : lbin Tryz.prog .neq 57 (hv a) (hv b) = some (.bool (!decide (a = b))) := hbin_neq rfl rfl (by kernel_rfl) hdr_in
theorem hsame_cl (hr : HRow H v l) (hw : HRow H w m) (hl : l.length ≤ 1000000) : LC Tryz.prog EJ 16 [v, w] H = some (.bool (decide (l = m)), H) := by
  refine LC_pure rfl Tryz.func16 rfl (Nat.le_of_ble_eq_true rfl) (by decide) (by kernel_rfl) rfl ?_
  by_cases hlm : l.length = m.length
  · obtain ⟨x, hx⟩ : ∃ x, x = decide (l.drop 0 = m.drop 0) := ⟨_, rfl⟩
    have e : decide (l = m) = x := hx.symm
    rw [e]
    have q0 := eq_true (show (l.length : Int) = (m.length : Int) by omega)
    simp [hr.len, hw.len, q0, hlm]
    refine loop_ind (fun (i : Nat) fr' H' => fr' 0 = v ∧ fr' 1 = w ∧ fr' 5 = .int .i64 i ∧ i ≤ l.length ∧ x = decide (l.drop i = m.drop i) ∧ H' = H) (fun i => l.length - i) 0 ⟨by simp, by simp, by simp, Nat.zero_le _, hx, rfl⟩ ?_
    rintro i fr' H' ⟨h0, h1, h5, hi, hc, rfl⟩ ih
    by_cases hlt : i < l.length
    · have q := eq_true (show (i : Int) < (m.length : Int) by omega)
      have q' := eq_true (show (i : Int) < (l.length : Int) by omega)
      have hlt2 : i < m.length := by omega
      have hw1 : IntKind.i64.wrap ((i : Int) + 1) = ((i + 1 : Nat) : Int) := by rw [wrapI (by omega) (by omega)]; omega
      obtain ⟨k, o, g1, g2, g3⟩ := hr.at hlt
      obtain ⟨k', o', g1', g2', g3'⟩ := hw.at hlt2
      obtain ⟨g4, _, _⟩ := g3 H' rfl
      obtain ⟨g4', _, _⟩ := g3' H' rfl
      have hne := fun a b => hdr_ne (a := a) (b := b)
      rw [List.drop_eq_getElem_cons hlt, List.drop_eq_getElem_cons hlt2] at hc
      generalize l[i] = a at *
      generalize m[i] = b at *
      by_cases hab : a = b
      · subst hab
        have hc : x = decide (l.drop (i + 1) = m.drop (i + 1)) := by rw [hc]; simp
        simp [h0, h1, h5, q, q', hlt, hlt2, g1, g4, g1', g4', hne, hr.len]
        refine ih (i + 1) _ _ (by omega) ⟨?_, ?_, ?_, by omega, hc, rfl⟩
        all_goals simp [h0, h1, hw1]
      · have hc : x = false := by rw [hc]; simp [hab]
        subst hc
        simp [h0, h1, h5, q, q', hlt, hlt2, g1, g4, g1', g4', hne, hab, hr.len]
    · have q := eq_false (show ¬ (i : Int) < (m.length : Int) by omega)
      have q' := eq_false (show ¬ (i : Int) < (l.length : Int) by omega)
      rw [List.drop_of_length_le (by omega), List.drop_of_length_le (by omega)] at hc
      have hc : x = true := hc
      subst hc
      simp [h0, h1, h5, q, q', hlt, hr.len]
  · have e : decide (l = m) = false := decide_eq_false (fun e => hlm (by rw [e]))
    have q0 := eq_false (show ¬ (l.length : Int) = (m.length : Int) by omega)
    rw [e]
    simp [hr.len, hw.len, q0, hlm]
end
end Go.Proofs.YteckofomnhminaaGreatDoor
/-
  Layer 22 (header): the text of headers by the code; the first headers, cut.
-/
set_option linter.unusedSimpArgs false
set_option linter.unusedVariables false
set_option maxRecDepth 100000
namespace Go.Proofs.YteckofomnhminaaGreatDoor
open Go.Lg Go.Tg
section
variable {H : LH} {v w : Value} {l m : List Tg.Hd.Hdr} {N : Nat} {s : List UInt8}
theorem hcut_cl {k : Int} (h0 : 0 ≤ k) : LC Tryz.prog EJ 6 [str s, .int .i64 k] H = some (str (s.take k.toNat), H) := by
  refine LC_pure rfl Tryz.func6 rfl (Nat.le_of_ble_eq_true rfl) (by decide) (by kernel_rfl) (by simp) ?_
  by_cases hc : k < s.length
  · have f := eq_true hc
    have f2 := eq_true (show k ≤ s.length by omega)
    have f3 := eq_true h0
    simp [f, f2, f3]
  · have f := eq_false hc
    have e : s.take k.toNat = s := List.take_of_length_le (by omega)
    simp [f, e]
theorem bs0h : lbuildSlice Tryz.prog 22 0 [] H = some (sl H.n 0 0, H.new ⟨[], 57, true⟩) := by
  unfold lbuildSlice
  simp [Instr.fill, Value.cells]
  rfl
theorem bs1h {a b : List UInt8} : lbuildSlice Tryz.prog 22 1 [(0, .agg #[str a, str b])] H = some (sl H.n 1 1, H.new ⟨[str a, str b], 57, true⟩) := by
  unfold lbuildSlice
  simp [Instr.fill, Value.cells, Array.range]
  rfl
/-- a row of our own is handed back -/
structure OutRow (H : LH) (v : Value) (H' : LH) (l : List Tg.Hd.Hdr) : Prop where
  row : HOwn H.n H' v l
  full : Full v
  le : H.n ≤ H'.n
  old : ∀ k, k < H.n → H'.get k = H.get k
theorem OutRow.trunc {H' : LH} (h : OutRow H v H' l) : ∃ H2, Lg.trunc H (v, H') = (v, H2) ∧ OutRow H v H2 l := by
  rcases trunc_or v H H' with e | ⟨e, hf, _⟩
  · exact ⟨H', e, h⟩
  · refine ⟨H, e, ⟨?_, h.full, Nat.le_refl _, fun _ _ => rfl⟩⟩
    refine ⟨h.row.1, ?_⟩
    rcases h.row.2 with h2 | ⟨k, c, rest, rfl, _⟩
    · exact .inl h2
    · simp [flatB, flat1B, atomB] at hf
theorem few_hl (hr : HRow H v l) (hl : l.length ≤ 9223372036854775807) {c : Nat} (hc : c ≤ 1000) : ∃ v' H', LC Tryz.prog EJ 7 [v, .int .i64 c] H = some (v', H') ∧ OutRow H v' H' (Tg.Hd.few l c) := by
  have key : ∃ r, LC Tryz.prog EJ 7 [v, .int .i64 c] H = some (Lg.trunc H r) ∧ OutRow H r.1 r.2 (Tg.Hd.few l c) := by
    refine LC_runs (P := Tryz.prog) (E := EJ) (f := 7) rfl Tryz.func7 rfl (Nat.le_of_ble_eq_true rfl) (by decide) (by kernel_rfl) ?_
    simp [bs0h]
    refine loop_ind (fun (i : Nat) fr' H' => fr' 0 = v ∧ fr' 1 = .int .i64 c ∧ fr' 6 = .int .i64 i ∧ i ≤ l.length ∧ i ≤ c ∧ ∃ w, fr' 5 = w ∧ OutRow H w H' ((l.take i).map fun h => (h.1.take 30, h.2.take 100))) (fun i => l.length - i) 0 ⟨by simp, by simp, by simp, Nat.zero_le _, Nat.zero_le _, sl H.n 0 0, by simp, ⟨?_, full_new, by simp, fun k hk => get_new_ne (by omega)⟩⟩ ?_
    · exact ⟨by simp [Tg.Hd.cells], .inr ⟨H.n, 0, [], by simp, Nat.le_refl _, by simp, by simp [Tg.Hd.cells], by simp, by simp [Tg.Hd.cells]⟩⟩
    rintro i fr' H' ⟨h0, h1, h6, hi, hic, w, h5, hrow, hfull, hn, hk⟩ ih
    have hr' := hr.keep hn hk
    by_cases hlt : i < l.length
    · have q := eq_true (show (i : Int) < (l.length : Int) by omega)
      by_cases hlc : i < c
      · have qc := eq_true (show (i : Int) < (c : Int) by omega)
        have hw1 : IntKind.i64.wrap ((i : Int) + 1) = ((i + 1 : Nat) : Int) := by rw [wrapI (by omega) (by omega)]; omega
        obtain ⟨k, o, g1, g2, g3⟩ := hr'.at hlt
        obtain ⟨_, g4, g5⟩ := g3 H' rfl
        have hc1 := fun H : LH => hcut_cl (H := H) (s := l[i].1) (k := 30) (by decide)
        have hc2 := fun H : LH => hcut_cl (H := H) (s := l[i].2) (k := 100) (by decide)
        simp only [show ((30 : Int).toNat) = 30 from rfl, show ((100 : Int).toNat) = 100 from rfl] at hc1 hc2
        have hnew : (l.take (i + 1)).map (fun h : Tg.Hd.Hdr => ((h.1.take 30, h.2.take 100) : Tg.Hd.Hdr)) = (l.take i).map (fun h : Tg.Hd.Hdr => ((h.1.take 30, h.2.take 100) : Tg.Hd.Hdr)) ++ [(l[i].1.take 30, l[i].2.take 100)] := by
          rw [List.take_succ_eq_append_getElem hlt, List.map_append]; rfl
        obtain ⟨v', H2, a1, a2, a3, a4, a5, a6⟩ := h_app hrow hn (by rw [List.length_map, List.length_take]; omega) (l[i].1.take 30) (l[i].2.take 100)
        rw [← hnew] at a2
        have hfin := fun fr2 (f0 : fr2 0 = v) (f1 : fr2 1 = .int .i64 c) (f6 : fr2 6 = .int .i64 ((i + 1 : Nat) : Int)) (f5 : fr2 5 = v') => ih (i + 1) fr2 H2 (by omega) ⟨f0, f1, f6, by omega, by omega, v', f5, ⟨a2, a5 hfull, by omega, fun k hk2 => by rw [a4 k (by omega) (hrow.off_lt hk2), hk k hk2]⟩⟩
        clear ih
        generalize l[i].1.take 30 = x1 at *
        generalize l[i].2.take 100 = x2 at *
        generalize l[i] = a at *
        simp [h0, h1, h5, h6, q, qc, hlt, hlc, g1, g4, g5, hc1, hc2, bs1h, a1, hr.len]
        refine hfin _ ?_ ?_ ?_ ?_
        all_goals simp [h0, h1, hw1]
      · have qc := eq_false (show ¬ (i : Int) < (c : Int) by omega)
        have hic : i = c := by omega
        subst hic
        simp [h0, h1, h5, h6, q, hlt, hr.len]
        exact ⟨hrow, hfull, hn, hk⟩
    · have q := eq_false (show ¬ (i : Int) < (l.length : Int) by omega)
      have e : l.take i = l.take c := by rw [List.take_of_length_le (by omega), List.take_of_length_le (by omega)]
      rw [e] at hrow
      simp [h0, h1, h5, h6, q, hr.len]
      exact ⟨hrow, hfull, hn, hk⟩
  obtain ⟨r, e, ho⟩ := key
  obtain ⟨H2, e2, ho2⟩ := ho.trunc
  exact ⟨r.1, H2, by rw [e, ← e2], ho2⟩
end
end Go.Proofs.YteckofomnhminaaGreatDoor
/-
  Layer 22 (header): what header.Parse comes to: a range over a function.
-/
set_option linter.unusedSimpArgs false
set_option linter.unusedVariables false
set_option maxRecDepth 100000
namespace Go.Proofs.YteckofomnhminaaGreatDoor
open Go.Lg Go.Tg
section
variable {H : LH} {s t : List UInt8}
theorem strip_eq (t : List UInt8) : Lib.trimSuffix t [13] = Tg.Hd.stripR t := by
  rcases List.eq_nil_or_concat t with rfl | ⟨r, c, rfl⟩
  · rfl
  · rw [List.concat_eq_append]
    unfold Lib.trimSuffix Tg.Hd.stripR
    rw [List.getLast?_concat, List.dropLast_concat]
    by_cases hc : c = 13
    · subst hc
      simp [Lib.hasSuffix, List.isSuffixOf]
    · have hc2 : ¬ (13 : UInt8) = c := fun e => hc e.symm
      simp [Lib.hasSuffix, List.isSuffixOf, hc, hc2]
theorem strip_len (t : List UInt8) : (Tg.Hd.stripR t).length ≤ t.length := by
  unfold Tg.Hd.stripR
  split
  · simp
  · exact Nat.le_refl _
theorem split0_l : LC Tryz.prog EJ 108 [str s, str [10], .int .i64 0] H = some (.func (.func 133) #[] #[ptr (H.n + 1) 0, ptr H.n 0, ptr (H.n + 2) 0], ((H.new ⟨[str s], 9, true⟩).new ⟨[str [10]], 9, true⟩).new ⟨[.int .i64 0], 3, true⟩) := by
  obtain ⟨r, h, e⟩ : ∃ r, LC Tryz.prog EJ 108 [str s, str [10], .int .i64 0] H = some (Lg.trunc H r) ∧ r = (.func (.func 133) #[] #[ptr (H.n + 1) 0, ptr H.n 0, ptr (H.n + 2) 0], ((H.new ⟨[str s], 9, true⟩).new ⟨[str [10]], 9, true⟩).new ⟨[.int .i64 0], 3, true⟩) := by
    refine LC_runs (P := Tryz.prog) (E := EJ) (f := 108) rfl Tryz.func108 rfl (Nat.le_of_ble_eq_true rfl) (by decide) (by kernel_rfl) ?_
    simp
  rw [h, e, trunc_no (by simp [flatB, flat1B, atomB])]
theorem splitSeq_l : LC Tryz.prog EJ 83 [str s, str [10]] H = some (.func (.func 133) #[] #[ptr (H.n + 1) 0, ptr H.n 0, ptr (H.n + 2) 0], ((H.new ⟨[str s], 9, true⟩).new ⟨[str [10]], 9, true⟩).new ⟨[.int .i64 0], 3, true⟩) := by
  obtain ⟨r, h, e⟩ : ∃ r, LC Tryz.prog EJ 83 [str s, str [10]] H = some (Lg.trunc H r) ∧ r = (.func (.func 133) #[] #[ptr (H.n + 1) 0, ptr H.n 0, ptr (H.n + 2) 0], ((H.new ⟨[str s], 9, true⟩).new ⟨[str [10]], 9, true⟩).new ⟨[.int .i64 0], 3, true⟩) := by
    refine LC_runs (P := Tryz.prog) (E := EJ) (f := 83) rfl Tryz.func83 rfl (Nat.le_of_ble_eq_true rfl) (by decide) (by kernel_rfl) ?_
    simp [split0_l]
  rw [h, e, trunc_no (by simp [flatB, flat1B, atomB])]
/-- what a round of header.Parse finds -/
structure PSt (H0 : LH) (n : Int) (acc : List Tg.Hd.Hdr) (v : Value) (H : LH) : Prop where
  le : H0.n + 8 ≤ H.n
  old : ∀ k, k < H0.n → H.get k = H0.get k
  b2 : H.get H0.n = some ⟨[.slice none 0 0], 22, true⟩
  b3 : H.get (H0.n + 1) = some ⟨[.int .i64 0], 3, true⟩
  b4 : H.get (H0.n + 2) = some ⟨[.int .i64 0], 45, true⟩
  b5 : H.get (H0.n + 3) = some ⟨[v], 22, true⟩
  b6 : H.get (H0.n + 4) = some ⟨[.int .i64 n], 3, true⟩
  row : HOwn (H0.n + 8) H v acc
  full : Full v
theorem PSt.set {H0 : LH} {n : Int} {acc : List Tg.Hd.Hdr} {v : Value} {k : Nat} {b : LB} (h : PSt H0 n acc v H) (h1 : H0.n + 5 ≤ k) (h2 : k < H0.n + 8) : PSt H0 n acc v (H.set k b) :=
  ⟨h.le, fun j hj => by rw [get_set_ne (by omega)]; exact h.old j hj, by rw [get_set_ne (by omega)]; exact h.b2, by rw [get_set_ne (by omega)]; exact h.b3, by rw [get_set_ne (by omega)]; exact h.b4, by rw [get_set_ne (by omega)]; exact h.b5, by rw [get_set_ne (by omega)]; exact h.b6, h.row.keep (Nat.le_refl _) (fun j hj _ _ => get_set_ne (by omega)), h.full⟩
theorem PSt.count {H0 : LH} {n : Int} {acc : List Tg.Hd.Hdr} {v : Value} (h : PSt H0 n acc v H) (m : Int) : PSt H0 m acc v (H.set (H0.n + 4) ⟨[.int .i64 m], 3, true⟩) :=
  ⟨h.le, fun j hj => by rw [get_set_ne (by omega)]; exact h.old j hj, by rw [get_set_ne (by omega)]; exact h.b2, by rw [get_set_ne (by omega)]; exact h.b3, by rw [get_set_ne (by omega)]; exact h.b4, by rw [get_set_ne (by omega)]; exact h.b5, get_set, h.row.keep (Nat.le_refl _) (fun j hj _ _ => get_set_ne (by omega)), h.full⟩
theorem get8 {a0 a1 a2 a3 a4 a5 a6 a7 : LB} : (((((((((H.new a0).new a1).new a2).new a3).new a4).new a5).new a6).new a7).get H.n = some a0 ∧ ((((((((H.new a0).new a1).new a2).new a3).new a4).new a5).new a6).new a7).get (H.n + 1) = some a1 ∧ ((((((((H.new a0).new a1).new a2).new a3).new a4).new a5).new a6).new a7).get (H.n + 2) = some a2 ∧ ((((((((H.new a0).new a1).new a2).new a3).new a4).new a5).new a6).new a7).get (H.n + 3) = some a3 ∧ ((((((((H.new a0).new a1).new a2).new a3).new a4).new a5).new a6).new a7).get (H.n + 4) = some a4 ∧ ((((((((H.new a0).new a1).new a2).new a3).new a4).new a5).new a6).new a7).get (H.n + 5) = some a5 ∧ ((((((((H.new a0).new a1).new a2).new a3).new a4).new a5).new a6).new a7).get (H.n + 6) = some a6 ∧ ((((((((H.new a0).new a1).new a2).new a3).new a4).new a5).new a6).new a7).get (H.n + 7) = some a7 ∧ ((((((((H.new a0).new a1).new a2).new a3).new a4).new a5).new a6).new a7).n = H.n + 8 ∧ ∀ k, k < H.n → ((((((((H.new a0).new a1).new a2).new a3).new a4).new a5).new a6).new a7).get k = H.get k) := by
  refine ⟨?_, ?_, ?_, ?_, ?_, ?_, ?_, ?_, ?_, fun k hk => ?_⟩
  all_goals simp only [get_new', n_new]
  all_goals repeat (first | rw [if_pos trivial] | rw [if_pos (by omega)] | rw [if_neg (by omega)])
def PI (H0 : LH) (s : List UInt8) (ls : List (List UInt8)) (H : LH) : Prop := ∃ (n : Nat) (acc : List Tg.Hd.Hdr) (v : Value), PSt H0 (n : Int) acc v H ∧ Tg.Hd.rows ls n acc = Tg.Hd.parse s ∧ acc.length + ls.length ≤ 100001 ∧ n + ls.length ≤ 100001
def PD (H0 : LH) (s : List UInt8) (H : LH) : Prop := ∃ n : Nat, Tg.Hd.parse s = ([], (n : Int), 2) ∧ H0.n ≤ H.n ∧ (∀ k, k < H0.n → H.get k = H0.get k) ∧ H.get H0.n = some ⟨[.slice none 0 0], 22, true⟩ ∧ H.get (H0.n + 1) = some ⟨[.int .i64 n], 3, true⟩ ∧ H.get (H0.n + 2) = some ⟨[.int .i64 2], 45, true⟩
theorem lines_len : ∀ s : List UInt8, (Tg.Hd.lines s).length ≤ s.length + 1
  | [] => by simp [Tg.Hd.lines]
  | b :: r => by
    have ih := lines_len r
    by_cases hb : b = 10
    · subst hb
      have e : Tg.Hd.lines (10 :: r) = [] :: Tg.Hd.lines r := Tg.Hd.lines_cut [] r (by simp)
      rw [e]; simp; omega
    · cases h : Tg.Hd.lines r with
      | nil => exact absurd h (Tg.Hd.lines_ne r)
      | cons p l => rw [Tg.Hd.lines_other hb h]; rw [h] at ih; simp at ih ⊢; omega
theorem parse_ex (hs : s.length ≤ 100000) : ∃ v H', R Tryz.prog EP (.call 54 [str s] H (.ret (.tuple #[v, .int .i64 (Tg.Hd.parse s).2.1, .int .i64 (Tg.Hd.parse s).2.2])) H') ∧ OutRow H v H' (Tg.Hd.parse s).1 := by
  have key : ∃ r H', R Tryz.prog EP (.call 54 [str s] H r H') ∧ ∃ v, r = .ret (.tuple #[v, .int .i64 (Tg.Hd.parse s).2.1, .int .i64 (Tg.Hd.parse s).2.2]) ∧ OutRow H v H' (Tg.Hd.parse s).1 := by
    refine pcall Tryz.func54 rfl (Nat.le_of_ble_eq_true rfl) (by decide) (by kernel_rfl) (Q := fun r H' => ∃ v, r = .ret (.tuple #[v, .int .i64 (Tg.Hd.parse s).2.1, .int .i64 (Tg.Hd.parse s).2.2]) ∧ OutRow H v H' (Tg.Hd.parse s).1) ?_
    simp [splitSeq_l, EP_ps]
    refine pr_rangeE (g := 133) (gfn := Tryz.f133) rfl ?_
    refine seq_run (ps := H.n + 5) (pp := H.n + 6) (pv := H.n + 7) (I := PI H s) (D := PD H s) (s := s) (by omega) (by omega) ?_ ?_ rfl ?_ ?_ ?_ (by omega) ?_ ?_
    · intro t ls Hc s' hI hIt ht
      obtain ⟨n, acc, v, st, e1, e2, e3⟩ := hI
      obtain ⟨it1, it2, it3⟩ := hIt
      have hlen := st.le
      have hts := fun H : LH => trimSuffix_l (H := H) (s := t) (p := [13]) (by omega)
      simp only [strip_eq] at hts
      have hsl := strip_len t
      have hw : IntKind.i64.wrap ((n : Int) + 1) = ((n + 1 : Nat) : Int) := by rw [wrapI (by simp at e3; omega) (by simp at e3; omega)]; omega
      have sA := st.count ((n : Int) + 1)
      have ec : ((n + 1 : Nat) : Int) = (n : Int) + 1 := by omega
      have iA : It (H.n + 5) (H.n + 6) (H.n + 7) s' (Hc.set (H.n + 4) ⟨[.int .i64 ((n : Int) + 1)], 3, true⟩) := ⟨by rw [get_set_ne (by omega)]; exact it1, by rw [get_set_ne (by omega)]; exact it2, by rw [get_set_ne (by omega)]; exact it3⟩
      refine round_of ?_
      simp only [Nat.add_assoc, Nat.reduceAdd]
      simp [setL]
      refine pr_begin ?_
      unfold Tg.Hd.rows at e1
      by_cases h0 : Tg.Hd.stripR t = []
      · rw [if_pos h0] at e1
        rw [h0] at hts
        simp [st.b6, st.b5, hts, hw, EP_ps]
        exact ⟨iA, n + 1, acc, v, by rw [ec]; exact sA, e1, by simp at e2; omega, by simp at e3; omega⟩
      · rw [if_neg h0] at e1
        obtain ⟨h, l1, l2⟩ := line_cl (H := Hc.set (H.n + 4) ⟨[.int .i64 ((n : Int) + 1)], 3, true⟩) (s := Tg.Hd.stripR t) (by omega)
        generalize Tg.Hd.stripR t = t2 at *
        generalize hp : Tg.Hd.lineP t2 = o at *
        cases o with
        | none =>
          simp only at e1
          have d0 : (H.n = Hc.n) = False := eq_false (by omega)
          have d1 : (H.n + 1 = Hc.n) = False := eq_false (by omega)
          have d2 : (H.n + 2 = Hc.n) = False := eq_false (by omega)
          have d4 : (H.n + 4 = Hc.n) = False := eq_false (by omega)
          simp [st.b6, st.b5, st.b2, st.b3, st.b4, hts, hw, h0, l1, EP_ps, d0, d1, d2, d4]
          have hgo : ∀ k, k < H.n + 8 → k ≠ H.n → k ≠ H.n + 1 → k ≠ H.n + 2 → (((((Hc.set (H.n + 4) ⟨[.int .i64 ((n : Int) + 1)], 3, true⟩).new ⟨[str h.1, str h.2], 57, true⟩).set H.n ⟨[.slice none 0 0], 22, true⟩).set (H.n + 1) ⟨[.int .i64 ((n : Int) + 1)], 3, true⟩).set (H.n + 2) ⟨[.int .i64 2], 45, true⟩).get k = (Hc.set (H.n + 4) ⟨[.int .i64 ((n : Int) + 1)], 3, true⟩).get k := fun k hk n0 n1 n2 => by
            rw [get_set_ne n2, get_set_ne n1, get_set_ne n0, get_new_ne (by rw [n_set]; omega)]
          refine ⟨⟨?_, ?_, ?_⟩, n + 1, ?_, ?_, fun k hk => ?_, ?_, ?_, ?_⟩
          · rw [hgo _ (by omega) (by omega) (by omega) (by omega)]; exact iA.1
          · rw [hgo _ (by omega) (by omega) (by omega) (by omega)]; exact iA.2.1
          · rw [hgo _ (by omega) (by omega) (by omega) (by omega)]; exact iA.2.2
          · exact e1.symm
          · simp; omega
          · rw [hgo _ (by omega) (by omega) (by omega) (by omega)]; exact sA.old k hk
          · rw [get_set_ne (by omega), get_set_ne (by omega), get_set]
          · rw [get_set_ne (by omega), get_set, ec]
          · rw [get_set]
        | some h' =>
          simp only at e1
          have := l2 h' rfl
          subst this
          have d3 : (H.n + 3 = Hc.n) = False := eq_false (by omega)
          have hown : HOwn (H.n + 8) ((Hc.set (H.n + 4) ⟨[.int .i64 ((n : Int) + 1)], 3, true⟩).new ⟨[str h.1, str h.2], 57, true⟩) v acc := sA.row.keep (Nat.le_succ _) (fun j hj _ hjn => get_new_ne (by omega))
          obtain ⟨v', H2, a1, a2, a3, a4, a5, a6⟩ := h_app hown (by rw [n_new, n_set]; omega) (by simp at e2; omega) h.1 h.2
          have hg : ∀ k, k < H.n + 8 → H2.get k = (Hc.set (H.n + 4) ⟨[.int .i64 ((n : Int) + 1)], 3, true⟩).get k := fun k hk => by rw [a4 k (by rw [n_new, n_set]; omega) (hown.off_lt hk), get_new_ne (by rw [n_set]; omega)]
          have g3 : H2.get (H.n + 3) = some ⟨[v], 22, true⟩ := by rw [hg _ (by omega)]; exact sA.b5
          have hcv := a2.cell
          simp [st.b6, st.b5, hts, hw, h0, l1, EP_ps, d3, bs1h, a1, g3, hcv]
          have hgo : ∀ k, k < H.n + 8 → k ≠ H.n + 3 → (H2.set (H.n + 3) ⟨[v'], 22, true⟩).get k = (Hc.set (H.n + 4) ⟨[.int .i64 ((n : Int) + 1)], 3, true⟩).get k := fun k hk n3 => by
            rw [get_set_ne n3, hg k hk]
          have hn2 := a3
          rw [n_new, n_set] at hn2
          refine ⟨⟨?_, ?_, ?_⟩, n + 1, acc ++ [h], v', ⟨?_, fun k hk => ?_, ?_, ?_, ?_, ?_, ?_, ?_, a5 st.full⟩, e1, ?_, ?_⟩
          · rw [hgo _ (by omega) (by omega)]; exact iA.1
          · rw [hgo _ (by omega) (by omega)]; exact iA.2.1
          · rw [hgo _ (by omega) (by omega)]; exact iA.2.2
          · rw [n_set]; omega
          · rw [hgo _ (by omega) (by omega)]; exact sA.old k hk
          · rw [hgo _ (by omega) (by omega)]; exact sA.b2
          · rw [hgo _ (by omega) (by omega)]; exact sA.b3
          · rw [hgo _ (by omega) (by omega)]; exact sA.b4
          · rw [get_set]
          · rw [hgo _ (by omega) (by omega), ec]; exact sA.b6
          · exact a2.keep (Nat.le_refl _) (fun j hj _ _ => get_set_ne (by omega))
          · simp at e2 ⊢; omega
          · simp at e3 ⊢; omega
    · intro ls Hc s' s'' ⟨n, acc, v, st, e1, e2, e3⟩ _
      exact ⟨n, acc, v, st.set (by omega) (by omega), e1, e2, e3⟩
    · intro d hd
      simp at hd
      subst hd
      exact of_decide_eq_true rfl
    · have hll := lines_len s
      obtain ⟨k0, k1, k2, k3, k4, k5, k6, k7, kn, ko⟩ := get8 (H := H) (a0 := ⟨[.slice none 0 0], 22, true⟩) (a1 := ⟨[.int .i64 0], 3, true⟩) (a2 := ⟨[.int .i64 0], 45, true⟩) (a3 := ⟨[.slice none 0 0], 22, true⟩) (a4 := ⟨[.int .i64 0], 3, true⟩) (a5 := ⟨[str s], 9, true⟩) (a6 := ⟨[str [10]], 9, true⟩) (a7 := ⟨[.int .i64 0], 3, true⟩)
      exact ⟨0, [], .slice none 0 0, ⟨by show _ ≤ _ + 1; rw [kn]; omega, ko, k0, k1, k2, k3, k4, RowN.nil, full_nil⟩, rfl, by simp; omega, by omega⟩
    · obtain ⟨k0, k1, k2, k3, k4, k5, k6, k7, kn, ko⟩ := get8 (H := H) (a0 := ⟨[.slice none 0 0], 22, true⟩) (a1 := ⟨[.int .i64 0], 3, true⟩) (a2 := ⟨[.int .i64 0], 45, true⟩) (a3 := ⟨[.slice none 0 0], 22, true⟩) (a4 := ⟨[.int .i64 0], 3, true⟩) (a5 := ⟨[str s], 9, true⟩) (a6 := ⟨[str [10]], 9, true⟩) (a7 := ⟨[.int .i64 0], 3, true⟩)
      exact ⟨k5, k6, k7⟩
    · intro H1 u ⟨n, acc, v, st, e1, e2, e3⟩
      refine ⟨⟨u, rfl⟩, ?_⟩
      unfold Tg.Hd.rows at e1
      have hrow := st.row.row
      have hle := st.le
      simp only [Nat.add_assoc, Nat.reduceAdd]
      by_cases h1 : 100 < acc.length
      · rw [if_pos h1] at e1
        rw [← e1]
        have q := eq_true (show (100 : Int) < (acc.length : Int) by omega)
        simp [st.b2, st.b3, st.b4, st.b5, hrow.len, q, h1, EP_ps]
        exact ⟨RowN.nil, full_nil, by rw [n_set, n_set, n_set]; omega, fun k hk => by rw [get_set_ne (by omega), get_set_ne (by omega), get_set_ne (by omega)]; exact st.old k hk⟩
      · rw [if_neg h1] at e1
        rw [← e1]
        have q := eq_false (show ¬ (100 : Int) < (acc.length : Int) by omega)
        have hcv := st.row.cell
        simp [st.b2, st.b3, st.b4, st.b5, hrow.len, q, h1, hcv, EP_ps]
        refine ⟨?_, st.full, by rw [n_set, n_set, n_set]; omega, fun k hk => by rw [get_set_ne (by omega), get_set_ne (by omega), get_set_ne (by omega)]; exact st.old k hk⟩
        refine ⟨st.row.1, ?_⟩
        rcases st.row.2 with h2 | ⟨k, c, rest, rfl, g1, g2, g3, g4, g5⟩
        · exact .inl h2
        · exact .inr ⟨k, c, rest, rfl, by omega, by rw [n_set, n_set, n_set]; omega, by rw [get_set_ne (by omega), get_set_ne (by omega), get_set_ne (by omega)]; exact g3, g4, g5⟩
    · intro H1 u ⟨n, e1, e2, e3, e4, e5, e6⟩
      refine ⟨⟨u, rfl⟩, ?_⟩
      rw [e1]
      simp only [Nat.add_assoc, Nat.reduceAdd]
      simp [e4, e5, e6]
      exact ⟨RowN.nil, full_nil, e2, e3⟩
  obtain ⟨r, H', h1, v, rfl, h2⟩ := key
  exact ⟨v, H', h1, h2⟩
end
end Go.Proofs.YteckofomnhminaaGreatDoor
/-
  Layer 22 (header): the living call, and the law HeaderBack, as the run answers them.
-/
set_option linter.unusedSimpArgs false
set_option linter.unusedVariables false
set_option maxRecDepth 100000
namespace Tg.Hd
theorem few_len (l : List Hdr) (n : Nat) : (few l n).length ≤ n := by
  unfold few; rw [List.length_map, List.length_take]; omega
theorem few_mem {l : List Hdr} {n : Nat} : ∀ h ∈ few l n, h.1.length ≤ 30 ∧ h.2.length ≤ 100 := by
  intro h hh
  unfold few at hh
  obtain ⟨a, _, rfl⟩ := List.mem_map.mp hh
  simp only [List.length_take]
  omega
theorem few_few (l : List Hdr) (n : Nat) : few (few l n) n = few l n := by
  unfold few
  rw [← List.map_take, List.take_take, Nat.min_self, List.map_map]
  congr 1
  funext h
  simp only [Function.comp, List.take_take, Nat.min_self]
end Tg.Hd
namespace Go.Proofs.YteckofomnhminaaGreatDoor
open Go.Lg Go.Tg
section
variable {H : LH} {v : Value} {l : List Tg.Hd.Hdr}
theorem lives_r : R Tryz.prog EP (.call 23 [] H (.ret (.bool true)) H) := by
  refine pcall_flat Tryz.func23 rfl (Nat.le_of_ble_eq_true rfl) (by decide) (by kernel_rfl) rfl ?_
  obtain ⟨v, H', hR, ho⟩ := parse_ex (H := H) (s := [65, 58, 32, 98]) (by decide)
  rw [Tg.Hd.live1] at hR ho
  simp only at hR ho
  have hrow := ho.row.row
  obtain ⟨k, o, g1, g2, g3⟩ := hrow.at (i := 0) (by decide)
  obtain ⟨g4, _, _⟩ := g3 H' rfl
  have g1 := g1
  simp at g1 g4
  have he := hdr_eq (a := ([65], [98])) (b := ([65], [98]))
  have hlen := fun H2 : LH => hrow.len (H' := H2)
  simp at he hlen
  simp [EP_ps]
  refine hand_call_ret (g := 54) (first := #[]) (caps := #[]) (H1 := H') rfl rfl rfl rfl (by simpa using hR) rfl ?_
  simp [hlen, g1, g4, he]
  exact ⟨ho.le, fun k hk => ho.old k hk⟩
end
end Go.Proofs.YteckofomnhminaaGreatDoor
/-
  What the world's shape gives: a heap that is not empty; a list of headers among the arguments; what a run with throws asserts.
-/
set_option linter.unusedSimpArgs false
set_option linter.unusedVariables false
set_option maxRecDepth 100000
namespace Go.Proofs.YteckofomnhminaaGreatDoor
open Go.ChangeShapes Go.WideShapes Go.ChangeAt Go.RowKit Go.Tg Go.Lg

theorem liftVs {n : Nat} {l : List UInt8} : liftV n (str l) = str l := rfl
theorem liftVl {n : Nat} {a : Option Addr} {k c : Nat} : liftV n (.slice a k c) = lift1 n (.slice a k c) := rfl
theorem sizeH {W : World} (h : W.ShapedOpen Tryz.prog) : 1 ≤ W.heap.size := by
  obtain ⟨m, h2⟩ := Go.Proofs.cell_of_shapedOpen_int (P := Tryz.prog) (w := W) (zero := #[.int .i64 0]) (t := 3) (g := 0) h (of_decide_eq_true (by kernel_rfl)) (by kernel_rfl) rfl (by kernel_rfl) (by kernel_rfl) Tryz.underlying3
  have h2' : W.cell? ⟨0, 0, none⟩ = some (.int .i64 m) := h2
  rcases Nat.lt_or_ge 0 W.heap.size with h3 | h3
  · omega
  · simp [World.cell?, Array.getElem?_eq_none h3] at h2'
theorem soundP {j : J} (h : R Tryz.prog EP j) : Sound Tryz.prog EP j := sound tOk mixed (fun _ _ h => by cases h) (fun _ h => by cases h) h
theorem cells_hdr : Tryz.prog.cellsOf 57 = 2 := by kernel_rfl
theorem cells_hstr : Tryz.prog.cellsOf 9 = 1 := by kernel_rfl
theorem hdr_of_trod {HH : Type} {enc : TypeId × Value → HH} {W : World} {base fuel : Nat} {sp : Nat → Bool} {held : Bool} {cs : List Value} {x : DataW HH × List MemPlace} (n : Nat) (hf : DataW.trod enc Tryz.prog W base sp held fuel 57 cs = some x) : ∃ a : Tg.Hd.Hdr, cs.map (lift1 n) = [str a.1, str a.2] := by
  cases fuel with
  | zero => simp [DataW.trod] at hf
  | succ m =>
    rw [DataW.trod_step] at hf
    unfold DataW.trodStep at hf
    simp only [Tryz.underlying57, Value.cells] at hf
    split at hf
    · rename_i hs
      rw [cells_hdr] at hs
      match cs, hs with
      | [c0, c1], _ =>
      simp only [Option.map_eq_some_iff] at hf
      obtain ⟨xs, hx, e1⟩ := hf
      simp only [List.mapM_cons, List.mapM_nil, bind, Option.bind_eq_some_iff, pure, Option.some.injEq, cells_hstr] at hx
      obtain ⟨y0, h0, _, ⟨y1, h1, _, rfl, rfl⟩, rfl⟩ := hx
      obtain ⟨s0, q0, _, _⟩ := DataW.trod_string Tryz.underlying9 h0
      obtain ⟨s1, q1, _, _⟩ := DataW.trod_string Tryz.underlying9 h1
      simp at q0 q1
      subst q0; subst q1
      exact ⟨(s0.data.toList, s1.data.toList), by simp only [str_ba]; rfl⟩
    · cases hf
theorem hrow_of {W : World} {g : Nat} {v : Value} {xs : List Tg.Hd.Hdr} (h : RowOf (LH.lift W g) 2 (fun (a : Tg.Hd.Hdr) cs => cs = [str a.1, str a.2]) v xs) : HRow (LH.lift W g) v xs := by
  rcases h with h | ⟨l, o, c, h1, _, h2, h3⟩
  · exact .inl h
  · refine .inr ⟨l, o, c, h1, fun hne => ?_⟩
    obtain ⟨b, h4, h5, h6⟩ := h3 hne
    refine ⟨b, h4, h2, fun i hi => ?_⟩
    have h7 := h6 i xs[i] (List.getElem?_eq_getElem hi)
    have hle : o + i * 2 + 2 ≤ b.cells.length := by
      have := Nat.mul_le_mul_right 2 (show i + 1 ≤ xs.length by omega)
      omega
    have e1 : b.cells[o + i * 2]? = ((b.cells.drop (o + i * 2)).take 2)[0]? := by rw [List.getElem?_take, if_pos (by decide), List.getElem?_drop]; rfl
    have e2 : b.cells[o + i * 2 + 1]? = ((b.cells.drop (o + i * 2)).take 2)[1]? := by rw [List.getElem?_take, if_pos (by decide), List.getElem?_drop]
    exact ⟨hle, h7, by rw [e1, h7]; rfl, by rw [e2, h7]; rfl⟩
theorem returns_and_shaped {H : Type} {enc : TypeId × Value → H} {a : Assume} {C : Checked} {os : Os} {f : FuncId} {fn : Func} {s : ChangeSpec} {conds : List PathCond} {apart fresh handsOn again : Bool} {X : World → Array Value → Prop}
    (hX : ∀ (w w' : World) (args : Array Value), w.heap = w'.heap → X w args → X w' args)
    (own : Go.ownKnob C.prog.godebug = none) (started : os.Started) (noInit : C.prog.inits.idxOf? f = none) (hfn : C.prog.funcs[f]? = some fn)
    (witness : ∃ (w : World) (tape : Tape) (i : Input), w.os = os ∧ (w.forCall tape i).Shaped C.prog ∧ i.vars = [] ∧ Input.okWide C.prog (w.forCall tape i) .any w.heap.size f i ∧
      ((s.pre enc C.prog fn conds apart (w.forCall tape i).memory i.args ∧ X (w.forCall tape i).memory i.args) ∧ sizedMet enc C.prog fn (OpenSpec.ofChange s) apart (w.forCall tape i).memory i.args) ∧ a.holds C.prog (lone (Frame.enter C.prog f i.args .normal) [] (w.forCall tape i)))
    (contract : ∀ (W : World) (base : Nat) (args : Array Value) (ds gs : List (DataW H)) (before : List MemPlace),
      (∀ (j : Nat) t v, fn.params[j]? = some t → args[j]? = some v → Value.okWide C.prog W .any base t v) →
      DataW.Whole enc C.prog fn.params.toList s.vars apart W args.toList ds gs before →
      X W args → W.ShapedOpen C.prog →
      Calls C.prog f args W fun e W' => ∃ v, e = .returned v ∧ s.post enc C.prog fn apart fresh handsOn again W args v W') :
    ReturnsInHanded a C os f .any (fun w args => (s.pre enc C.prog fn conds apart w args ∧ X w args) ∧ sizedMet enc C.prog fn (OpenSpec.ofChange s) apart w args) (s.post enc C.prog fn apart fresh handsOn again) := by
  refine returnsInHanded_of_calls own started noInit witness ?_
  intro w tape i _ hsh _ hok hpre hholds
  obtain ⟨_, _, _, fn', hfn', _, _, _, _, hval⟩ := hok
  have e : fn' = fn := Option.some.inj (hfn'.symm.trans hfn)
  subst e
  obtain ⟨⟨⟨ds, gs, before, hw, hc⟩, hx⟩, hz⟩ := hpre
  have hw' := DataW.Whole.of_heap (w' := w.forCall tape i) (by rfl) hw
  refine (contract (w.forCall tape i) w.heap.size i.args ds gs before hval hw' (hX _ _ _ (by rfl) hx) hsh).mono fun e W' ⟨v, he, hp⟩ => ?_
  subst he
  exact ChangeSpec.post_blind hp
end Go.Proofs.YteckofomnhminaaGreatDoor
/-
  Layer 22 (header): a header set: plain, and what the code's function comes to.
-/
set_option linter.unusedSimpArgs false
set_option linter.unusedVariables false
set_option maxRecDepth 100000
namespace Tg.Hd
def isP (name : List UInt8) (h : Hdr) : Bool := decide (Tg.Lo.lower h.1 = Tg.Lo.lower name)
/-- the headers with a value in the first one's place -/
def goS (name val : List UInt8) : List Hdr → Bool → List Hdr
  | [], _ => []
  | x :: r, d => if isP name x = false then x :: goS name val r d else if d = true then goS name val r d else (x.1, val) :: goS name val r true
theorem goS_cons {name val : List UInt8} {x : Hdr} {r : List Hdr} {d : Bool} : goS name val (x :: r) d = if isP name x = false then x :: goS name val r d else if d = true then goS name val r d else (x.1, val) :: goS name val r true := rfl
def setP (name value : List UInt8) (l : List Hdr) : List Hdr × Int :=
  if good l = true ∧ fine (name, trim value) = true then
    if l.any (isP name) = true then (goS name (trim value) l false, 0)
    else if l.length = 100 then ([], 3) else (l ++ [(name, trim value)], 0)
  else ([], 2)
theorem goS_len (name val : List UInt8) : ∀ (l : List Hdr) (d : Bool), (goS name val l d).length ≤ l.length
  | [], _ => by simp [goS]
  | x :: r, d => by
    unfold goS
    split
    · have := goS_len name val r d; simp; omega
    · split
      · have := goS_len name val r d; simp; omega
      · have := goS_len name val r true; simp; omega
theorem goS_no {name val : List UInt8} : ∀ {l : List Hdr} {d : Bool}, l.any (isP name) = false → goS name val l d = l
  | [], _, _ => rfl
  | x :: r, d, h => by
    rw [List.any_cons, Bool.or_eq_false_iff] at h
    unfold goS
    rw [if_pos h.1, goS_no h.2]
theorem goS_true {name val : List UInt8} : ∀ {l : List Hdr}, goS name val l true = l.filter (fun h => !isP name h)
  | [] => rfl
  | x :: r => by
    unfold goS
    rw [List.filter_cons, goS_true]
    cases isP name x <;> simp
end Tg.Hd
namespace Go.Proofs.YteckofomnhminaaGreatDoor
open Go.Lg Go.Tg
section
variable {H : LH} {v w : Value} {l m : List Tg.Hd.Hdr} {N : Nat} {s name value : List UInt8} {h : Tg.Hd.Hdr} {p : Nat}
theorem csame_cl (hs : s.length ≤ 9223372036854775806) {t : List UInt8} : LC Tryz.prog EJ 73 [str s, str t] H = some (.bool (decide (Tg.Lo.lower s = Tg.Lo.lower t)), H) := by
  refine LC_pure rfl Tryz.func73 rfl (Nat.le_of_ble_eq_true rfl) (by decide) (by kernel_rfl) rfl ?_
  have hh := fun H : LH => same_cl (H := H) (s := s) (p := t) hs
  simp [hh]
theorem named1_cl (hg : H.get p = some ⟨[str name], 9, true⟩) (hp : p < H.n) (hs : h.1.length ≤ 1048576) : LC Tryz.prog EJ 72 [hv h, ptr p 0] H = some (.bool (Tg.Hd.isP name h), H) := by
  refine LC_pure rfl Tryz.func72 rfl (Nat.le_of_ble_eq_true rfl) (by decide) (by kernel_rfl) (by simp) ?_
  have hh := fun H : LH => csame_cl (H := H) (s := h.1) (t := name) (by omega)
  have hne : (p = H.n) = False := eq_false (by omega)
  unfold Tg.Hd.isP
  simp [hh, hg, hne, le_refl.new]
theorem named_l : LC Tryz.prog EJ 42 [str name] H = some (.func (.func 72) #[] #[ptr H.n 0], H.new ⟨[str name], 9, true⟩) := by
  obtain ⟨r, h, e⟩ : ∃ r, LC Tryz.prog EJ 42 [str name] H = some (Lg.trunc H r) ∧ r = (.func (.func 72) #[] #[ptr H.n 0], H.new ⟨[str name], 9, true⟩) := by
    refine LC_runs (P := Tryz.prog) (E := EJ) (f := 42) rfl Tryz.func42 rfl (Nat.le_of_ble_eq_true rfl) (by decide) (by kernel_rfl) ?_
    simp
  rw [h, e, trunc_no (by simp [flatB, flat1B, atomB])]
theorem HOwn.weak {N' : Nat} (h : HOwn N H v l) (hn : N' ≤ N) : HOwn N' H v l := by
  refine ⟨h.1, ?_⟩
  rcases h.2 with h2 | ⟨k, c, rest, rfl, g1, g2, g3, g4, g5⟩
  · exact .inl h2
  · exact .inr ⟨k, c, rest, rfl, by omega, g2, g3, g4, g5⟩
theorem OutRow.truncT {H' : LH} {x : Value} (h : OutRow H v H' l) : ∃ H2, Lg.trunc H (.tuple #[v, x], H') = (.tuple #[v, x], H2) ∧ OutRow H v H2 l := by
  rcases trunc_or (.tuple #[v, x]) H H' with e | ⟨e, hf, _⟩
  · exact ⟨H', e, h⟩
  · refine ⟨H, e, ⟨?_, h.full, Nat.le_refl _, fun _ _ => rfl⟩⟩
    refine ⟨h.row.1, ?_⟩
    rcases h.row.2 with h2 | ⟨k, c, rest, rfl, _⟩
    · exact .inl h2
    · simp [flatB, flat1B, atomB] at hf
end
end Go.Proofs.YteckofomnhminaaGreatDoor
/-
  Layer 22 (header): a header set: what the reference's functions come to.
-/
set_option linter.unusedSimpArgs false
set_option linter.unusedVariables false
set_option maxRecDepth 100000
namespace Tg.Hd
def cutP (name : List UInt8) (l : List Hdr) : List Hdr := l.filter fun h => !isP name h
theorem goS_first {name val : List UInt8} : ∀ {l : List Hdr} {i : Nat} (h : i < l.length), (∀ j (hj : j < i), isP name (l[j]'(by omega)) = false) → isP name l[i] = true → goS name val l false = l.take i ++ (l[i].1, val) :: cutP name (l.drop (i + 1)) ∧ l.any (isP name) = true
  | [], i, h, _, _ => by simp at h
  | x :: r, 0, h, _, h1 => by
    rw [goS_cons]
    simp only [List.getElem_cons_zero] at h1
    rw [if_neg (by rw [h1]; decide), if_neg (by decide), goS_true]
    refine ⟨by simp [cutP], ?_⟩
    rw [List.any_cons, h1]; rfl
  | x :: r, i + 1, h, h0, h1 => by
    have hx := h0 0 (by omega)
    simp only [List.getElem_cons_zero] at hx
    simp only [List.getElem_cons_succ] at h1
    obtain ⟨e1, e2⟩ := goS_first (val := val) (l := r) (i := i) (by simpa using h) (fun j hj => by have := h0 (j + 1) (by omega); simpa using this) h1
    rw [goS_cons, if_pos hx, e1]
    refine ⟨by simp, ?_⟩
    rw [List.any_cons, e2, Bool.or_true]
theorem any_no {name : List UInt8} {l : List Hdr} (h : ∀ j (hj : j < l.length), isP name l[j] = false) : l.any (isP name) = false := by
  rw [List.any_eq_false]
  intro x hx
  obtain ⟨j, hj, rfl⟩ := List.getElem_of_mem hx
  rw [h j hj]; decide
end Tg.Hd
namespace Go.Proofs.YteckofomnhminaaGreatDoor
open Go.Lg Go.Tg
section
variable {H : LH} {b : UInt8} {s p : List UInt8}
theorem hrow_str {N : Nat} {v : Value} {l : List UInt8} (h : RowN N H 5 1 v l.length (l.map bv)) (hv : v ≠ .slice none 0 0) : ∃ k c, v = sl k l.length c ∧ lconv Tryz.prog 81 9 (sl k l.length c) H = some (str l) := by
  rcases h.2 with ⟨e, h0⟩ | ⟨k, c, rest, e, g1, g2, g3, g4, g5⟩
  · exact absurd e hv
  · refine ⟨k, c, e, lconv_bs (e := 5) Tryz.underlying81 Tryz.underlying9 Tryz.underlying5 g3 (by simp) ?_⟩
    have : ((l.map bv ++ rest).drop 0).take l.length = l.map bv := by simp
    rw [this]; exact lbs_map l
theorem hbyte_app {v : Value} {N : Nat} {l : List UInt8} {x : UInt8} (h : RowN N H 5 1 v l.length (l.map bv)) (hN : N ≤ H.n) (hl : l.length ≤ 1000000) :
    ∃ v' H2, lapp Tryz.prog 81 v (some (1, [.int .u8 x.toNat])) (H.new ⟨[.int .u8 x.toNat], 5, true⟩) = some (v', H2) ∧ RowN N H2 5 1 v' (l ++ [x]).length ((l ++ [x]).map bv) ∧ N ≤ H2.n ∧ ∀ k, k < N → H2.get k = H.get k := by
  have h2 : RowN N (H.new ⟨[.int .u8 x.toNat], 5, true⟩) 5 1 v l.length (l.map bv) := h.keep (Nat.le_succ _) (fun k _ _ hk => get_new_ne (by omega))
  obtain ⟨v', H2, ha, hr, hk, _⟩ := h2.app (t := 81) (new := [x].map bv) (m := 1) Tryz.underlying81 (by kernel_rfl) (bv_cells [x]) (by simp) (by unfold maxElems; omega) (by rw [n_new]; omega) (.inl (Nat.le_refl 1))
  refine ⟨v', H2, ha, by rw [List.length_append, List.map_append]; exact hr, Nat.le_trans (by rw [n_new]; omega) hk.le, fun k hkn => ?_⟩
  rw [hk.get k (by rw [n_new]; omega) (h.off_lt hkn), get_new_ne (by omega)]
theorem hbs0 : lbuildSlice Tryz.prog 81 0 [] H = some (sl H.n 0 0, H.new ⟨[], 5, true⟩) := lbs_dense (z := .int .u8 0) Tryz.underlying81 (by kernel_rfl) (by kernel_rfl) rfl rfl rfl (by decide) rfl
theorem hlower_cl (hs : s.length ≤ 1000000) : LC Tryz.prog EJ 51 [str s] H = some (str (Tg.Lo.lower s), H) := by
  refine LC_pure rfl Tryz.func51 rfl (Nat.le_of_ble_eq_true rfl) (by decide) (by kernel_rfl) rfl ?_
  simp [hbs0]
  refine loop_ind (fun (i : Nat) fr' H' => fr' 0 = str s ∧ fr' 4 = .int .i64 i ∧ i ≤ s.length ∧ (∃ v, fr' 3 = v ∧ v ≠ .slice none 0 0 ∧ RowN H.n H' 5 1 v (Tg.Lo.lower (s.take i)).length ((Tg.Lo.lower (s.take i)).map bv)) ∧ H.n ≤ H'.n ∧ ∀ k, k < H.n → H'.get k = H.get k) (fun i => s.length - i) 0 ⟨by simp, by simp, Nat.zero_le _, ⟨sl H.n 0 0, by simp, (by intro e; cases e), ?_⟩, by simp, fun k hk => get_new_ne (by omega)⟩ ?_
  · exact ⟨by simp [Tg.Lo.lower], .inr ⟨H.n, 0, [], by simp [Tg.Lo.lower], Nat.le_refl _, by simp, by simp [Tg.Lo.lower], by simp [Tg.Lo.lower], by simp [Tg.Lo.lower]⟩⟩
  rintro i fr' H' ⟨h0, h4, hi, ⟨v, h3, hne, hr⟩, hn, hk⟩ ih
  by_cases hlt : i < s.length
  · have q := eq_true (show (i : Int) < (s.length : Int) by omega)
    have hat : at_ s (i : Int) = s[i] := at_in hlt
    have hw : IntKind.i64.wrap ((i : Int) + 1) = ((i + 1 : Nat) : Int) := by rw [wrapI (by omega) (by omega)]; omega
    have hll : (Tg.Lo.lower (s.take i)).length ≤ 1000000 := by simp [Tg.Lo.lower]; omega
    have hnew : Tg.Lo.lower (s.take (i + 1)) = Tg.Lo.lower (s.take i) ++ [Tg.Lo.low s[i]] := by
      have e : s.take (i + 1) = s.take i ++ [s[i]] := List.take_succ_eq_append_getElem hlt
      unfold Tg.Lo.lower; rw [e, List.map_append]; rfl
    generalize s[i] = c at *
    have hlt8 := c.toNat_lt
    have e8 : (c + 32).toNat = (c.toNat + 32) % 256 := by rw [UInt8.toNat_add]; rfl
    have hw8 : IntKind.u8.wrap ((c.toNat : Int) + 32) = ((c + 32).toNat : Int) := by rw [wrap8, e8]; omega
    obtain ⟨v2, H2, a1, a2, a3, a4⟩ := hbyte_app (x := Tg.Lo.low c) hr hn hll
    have hne2 : v2 ≠ .slice none 0 0 := by
      rcases a2.2 with ⟨_, e⟩ | ⟨k, c2, rest, e, _⟩
      · simp at e
      · rw [e]; intro e2; cases e2
    rw [← hnew] at a2
    have hfin := fun fr2 (g0 : fr2 0 = str s) (g4 : fr2 4 = .int .i64 ((i + 1 : Nat) : Int)) (g3 : fr2 3 = v2) => ih (i + 1) fr2 H2 (by omega) ⟨g0, g4, by omega, ⟨v2, g3, hne2, a2⟩, a3, fun k hk2 => by rw [a4 k hk2, hk k hk2]⟩
    clear ih
    unfold Tg.Lo.low at a1
    by_cases h1 : (65 : Int) ≤ c.toNat
    · by_cases h2 : (c.toNat : Int) ≤ 90
      · rw [if_pos ⟨h1, h2⟩] at a1
        clear e8
        generalize c + 32 = c2 at *
        have q1 := eq_true h1
        have q2 := eq_true h2
        simp [h0, h3, h4, q, hat, q1, q2, hw8, a1]
        refine hfin _ ?_ ?_ ?_
        all_goals simp [h0, hw]
      · rw [if_neg (fun h => h2 h.2)] at a1
        have q1 := eq_true h1
        have q2 := eq_false h2
        simp [h0, h3, h4, q, hat, q1, q2, a1]
        refine hfin _ ?_ ?_ ?_
        all_goals simp [h0, hw]
    · rw [if_neg (fun h => h1 h.1)] at a1
      have q1 := eq_false h1
      simp [h0, h3, h4, q, hat, q1, a1]
      refine hfin _ ?_ ?_ ?_
      all_goals simp [h0, hw]
  · have q := eq_false (show ¬ (i : Int) < (s.length : Int) by omega)
    rw [List.take_of_length_le (by omega)] at hr
    obtain ⟨k, c, hv, hc⟩ := hrow_str hr hne
    subst hv
    simp [h0, h3, h4, q, hc]
    exact ⟨hn, hk⟩
end
section
variable {H : LH} {v w : Value} {l m : List Tg.Hd.Hdr} {N : Nat} {s name value : List UInt8} {h : Tg.Hd.Hdr} {p : Nat}
theorem his_cl (h1 : h.1.length ≤ 1000000) (h2 : name.length ≤ 1000000) : LC Tryz.prog EJ 38 [hv h, str name] H = some (.bool (Tg.Hd.isP name h), H) := by
  refine LC_pure rfl Tryz.func38 rfl (Nat.le_of_ble_eq_true rfl) (by decide) (by kernel_rfl) rfl ?_
  have e1 := fun H : LH => hlower_cl (H := H) (s := h.1) h1
  have e2 := fun H : LH => hlower_cl (H := H) (s := name) h2
  unfold Tg.Hd.isP
  generalize Tg.Lo.lower h.1 = a at *
  generalize Tg.Lo.lower name = c at *
  simp [e1, e2, le_refl.new]
theorem hcut_ex (hr : HRow H v l) (hl : l.length ≤ 90000) (hs : ∀ h ∈ l, h.1.length ≤ 1000000) (hn : name.length ≤ 1000000) : ∃ v' H', LC Tryz.prog EJ 18 [str name, v] H = some (v', H') ∧ OutRow H v' H' (Tg.Hd.cutP name l) := by
  have key : ∃ r, LC Tryz.prog EJ 18 [str name, v] H = some (Lg.trunc H r) ∧ OutRow H r.1 r.2 (Tg.Hd.cutP name l) := by
    refine LC_runs (P := Tryz.prog) (E := EJ) (f := 18) rfl Tryz.func18 rfl (Nat.le_of_ble_eq_true rfl) (by decide) (by kernel_rfl) ?_
    simp [bs0h]
    refine loop_ind (fun (i : Nat) fr' H' => fr' 0 = str name ∧ fr' 1 = v ∧ fr' 6 = .int .i64 i ∧ i ≤ l.length ∧ ∃ w, fr' 5 = w ∧ OutRow H w H' (Tg.Hd.cutP name (l.take i))) (fun i => l.length - i) 0 ⟨by simp, by simp, by simp, Nat.zero_le _, sl H.n 0 0, by simp, ⟨?_, full_new, by simp, fun k hk => get_new_ne (by omega)⟩⟩ ?_
    · exact ⟨by simp [Tg.Hd.cells, Tg.Hd.cutP], .inr ⟨H.n, 0, [], by simp [Tg.Hd.cutP], Nat.le_refl _, by simp, by simp [Tg.Hd.cells, Tg.Hd.cutP], by simp [Tg.Hd.cutP], by simp [Tg.Hd.cells, Tg.Hd.cutP]⟩⟩
    rintro i fr' H' ⟨h0, h1, h6, hi, w, h5, hrow, hfull, hn2, hk⟩ ih
    have hr' := hr.keep hn2 hk
    by_cases hlt : i < l.length
    · have q := eq_true (show (i : Int) < (l.length : Int) by omega)
      have hw1 : IntKind.i64.wrap ((i : Int) + 1) = ((i + 1 : Nat) : Int) := by rw [wrapI (by omega) (by omega)]; omega
      obtain ⟨k, o, g1, g2, g3⟩ := hr'.at hlt
      obtain ⟨g4, _, _⟩ := g3 H' rfl
      have his := fun H : LH => his_cl (H := H) (h := l[i]) (name := name) (hs l[i] (List.getElem_mem hlt)) hn
      have hcl : (Tg.Hd.cutP name (l.take i)).length ≤ i := by
        refine Nat.le_trans (List.length_filter_le _ _) ?_
        rw [List.length_take]; omega
      have hnew : Tg.Hd.cutP name (l.take (i + 1)) = Tg.Hd.cutP name (l.take i) ++ (if Tg.Hd.isP name l[i] = true then [] else [l[i]]) := by
        rw [List.take_succ_eq_append_getElem hlt]
        unfold Tg.Hd.cutP
        rw [List.filter_append]
        congr 1
        cases hx : Tg.Hd.isP name l[i] <;> simp [hx]
      have ihx := fun fr2 H2 => ih (i + 1) fr2 H2 (by omega)
      clear ih
      generalize Tg.Hd.cutP name (l.take (i + 1)) = c' at *
      generalize Tg.Hd.cutP name (l.take i) = c at *
      generalize l[i] = x at *
      cases hx : Tg.Hd.isP name x with
      | true =>
        rw [hx] at his hnew
        rw [if_pos rfl, List.append_nil] at hnew
        subst hnew
        simp [h0, h1, h5, h6, q, hlt, g1, g4, his, hr.len]
        refine ihx _ _ ⟨?_, ?_, ?_, by omega, w, ?_, ⟨hrow, hfull, hn2, hk⟩⟩
        all_goals simp [h0, h1, h5, hw1]
      | false =>
        rw [hx] at his hnew
        rw [if_neg (by decide)] at hnew
        obtain ⟨v', H2, a1, a2, a3, a4, a5, a6⟩ := h_app hrow hn2 (by omega) x.1 x.2
        have a2 : HOwn H.n H2 v' c' := by rw [hnew]; exact a2
        simp [h0, h1, h5, h6, q, hlt, g1, g4, his, bs1h, a1, hr.len]
        refine ihx _ _ ⟨?_, ?_, ?_, by omega, v', ?_, ⟨a2, a5 hfull, by omega, fun k hk2 => by rw [a4 k (by omega) (hrow.off_lt hk2), hk k hk2]⟩⟩
        all_goals simp [h0, h1, hw1]
    · have q := eq_false (show ¬ (i : Int) < (l.length : Int) by omega)
      rw [List.take_of_length_le (by omega)] at hrow
      simp [h0, h1, h5, h6, q, hr.len]
      exact ⟨hrow, hfull, hn2, hk⟩
  obtain ⟨r, e, ho⟩ := key
  obtain ⟨H2, e2, ho2⟩ := ho.trunc
  exact ⟨r.1, H2, by rw [e, ← e2], ho2⟩
end
end Go.Proofs.YteckofomnhminaaGreatDoor
/-
  Layer 22 (header): the values of a name: the code's functions and the reference's.
-/
set_option linter.unusedSimpArgs false
set_option linter.unusedVariables false
set_option maxRecDepth 100000
namespace Tg.Hd
def getP (name : List UInt8) (l : List Hdr) : List (List UInt8) := (l.filter (isP name)).map fun h => h.2
theorem getP_take {name : List UInt8} {l : List Hdr} {i : Nat} (h : i < l.length) : getP name (l.take (i + 1)) = getP name (l.take i) ++ (if isP name l[i] = true then [l[i].2] else []) := by
  rw [List.take_succ_eq_append_getElem h]
  unfold getP
  rw [List.filter_append, List.map_append]
  congr 1
  cases hx : isP name l[i] <;> simp [hx]
theorem getP_len (name : List UInt8) (l : List Hdr) : (getP name l).length ≤ l.length := by
  unfold getP
  rw [List.length_map]
  exact List.length_filter_le _ _
theorem getP_any (name : List UInt8) (l : List Hdr) : l.any (isP name) = decide (getP name l ≠ []) := by
  unfold getP
  induction l with
  | nil => rfl
  | cons x r ih =>
    rw [List.any_cons, List.filter_cons]
    cases hx : isP name x with
    | true => simp
    | false => simpa using ih
/-- where the first one of a name stands -/
def idxP (name : List UInt8) : List Hdr → Nat → Int
  | [], _ => -1
  | h :: l, i => if isP name h = true then i else idxP name l (i + 1)
theorem idxP_iff (name : List UInt8) : ∀ (l : List Hdr) (i : Nat), 0 ≤ idxP name l i ↔ l.any (isP name) = true
  | [], i => by simp [idxP]
  | h :: l, i => by
    unfold idxP
    rw [List.any_cons]
    cases hf : isP name h with
    | true => rw [if_pos rfl]; simp
    | false => rw [if_neg (by decide), idxP_iff name l (i + 1)]; simp
def joinC (l : List (List UInt8)) : List UInt8 := Go.Lib.join l [44, 32]
end Tg.Hd
namespace Go.Proofs.YteckofomnhminaaGreatDoor
open Go.Lg Go.Tg
abbrev SOwn (N : Nat) (H : LH) (v : Value) (xs : List (List UInt8)) : Prop := RowN N H 9 1 v xs.length (xs.map str)
section
variable {H H' : LH} {v w : Value} {l m : List Tg.Hd.Hdr} {N : Nat} {s name value : List UInt8} {h : Tg.Hd.Hdr} {p : Nat} {xs ys : List (List UInt8)}
structure OutS (H : LH) (v : Value) (H' : LH) (xs : List (List UInt8)) : Prop where
  row : SOwn H.n H' v xs
  le : H.n ≤ H'.n
  old : ∀ k, k < H.n → H'.get k = H.get k
theorem OutS.trunc (h : OutS H v H' xs) : ∃ H2, Lg.trunc H (v, H') = (v, H2) ∧ OutS H v H2 xs := by
  rcases trunc_or v H H' with e | ⟨e, hf, _⟩
  · exact ⟨H', e, h⟩
  · refine ⟨H, e, ⟨?_, Nat.le_refl _, fun _ _ => rfl⟩⟩
    refine ⟨h.row.1, ?_⟩
    rcases h.row.2 with h2 | ⟨k, c, rest, rfl, _⟩
    · exact .inl h2
    · simp [flatB, flat1B, atomB] at hf
theorem SOwn.at (h : SOwn N H v xs) {i : Nat} (hi : i < xs.length) : ∃ k o, (∀ H' : LH, lixa Tryz.prog 25 v (.int .i64 i) H' = some (ptr k o, H')) ∧ k < H.n ∧ ∀ H' : LH, H'.get k = H.get k → lld Tryz.prog 9 (ptr k o) H' = some (str xs[i]) := by
  rcases h.2 with ⟨rfl, h0⟩ | ⟨k, c, rest, rfl, g1, g2, g3, g4, g5⟩
  · omega
  · refine ⟨k, 0 + i * 1, fun H' => ?_, g2, fun H' e => ?_⟩
    · have q := eq_true (show (i : Int) < (xs.length : Int) by omega)
      simp [q]
    · rw [g3] at e
      have e2 : (xs.map str ++ rest)[0 + i * 1]? = some (str xs[i]) := by
        rw [show 0 + i * 1 = i by omega, List.getElem?_append_left (by simpa using hi), List.getElem?_map, List.getElem?_eq_getElem hi]; rfl
      rw [lld_ptr e]
      simp
      simpa using e2
theorem SOwn.len (h : SOwn N H v xs) : lbuiltin Tryz.prog .len [25] [v] H' = some (.int .i64 xs.length, H') := RowN.len h Tryz.underlying25
theorem RowN.weak {P : Program} {N' : Nat} {e : TypeId} {s n : Nat} {zs : List Value} (h : RowN N H e s v n zs) (hn : N' ≤ N) : RowN N' H e s v n zs := by
  refine ⟨h.1, ?_⟩
  rcases h.2 with h2 | ⟨k, c, rest, rfl, g1, g2, g3, g4, g5⟩
  · exact .inl h2
  · exact .inr ⟨k, c, rest, rfl, by omega, g2, g3, g4, g5⟩
theorem cget_ex (hr : HRow H v l) (hl : l.length ≤ 90000) (hs : ∀ h ∈ l, h.1.length ≤ 1048576) : ∃ v' H', LC Tryz.prog EJ 39 [str name, v] H = some (v', H') ∧ OutS H v' H' (Tg.Hd.getP name l) := by
  have key : ∃ r, LC Tryz.prog EJ 39 [str name, v] H = some (Lg.trunc H r) ∧ OutS H r.1 r.2 (Tg.Hd.getP name l) := by
    refine LC_runs (P := Tryz.prog) (E := EJ) (f := 39) rfl Tryz.func39 rfl (Nat.le_of_ble_eq_true rfl) (by decide) (by kernel_rfl) ?_
    simp [named_l, hr.len]
    refine loop_ind (fun (i : Nat) fr' H' => fr' 6 = .func (.func 72) #[] #[ptr H.n 0] ∧ fr' 11 = v ∧ fr' 12 = .int .i64 l.length ∧ fr' 13 = .int .i64 i ∧ i ≤ l.length ∧ ∃ w, fr' 5 = w ∧ SOwn (H.n + 1) H' w (Tg.Hd.getP name (l.take i)) ∧ H.n + 1 ≤ H'.n ∧ H'.get H.n = some ⟨[str name], 9, true⟩ ∧ ∀ k, k < H.n → H'.get k = H.get k) (fun i => l.length - i) 0 ⟨by simp, by simp, by simp, by simp, Nat.zero_le _, .slice none 0 0, by simp, ⟨by simp [Tg.Hd.getP], .inl ⟨rfl, rfl⟩⟩, by simp, by simp, fun k hk => get_new_ne (by omega)⟩ ?_
    rintro i fr' H' ⟨f6, f11, f12, f13, hi, w, f5, ho, hn2, hb0, hold⟩ ih
    have hr' := hr.keep (by omega) hold
    by_cases hlt : i < l.length
    · have q := eq_true (show (i : Int) < (l.length : Int) by omega)
      have hw1 : IntKind.i64.wrap ((i : Int) + 1) = ((i + 1 : Nat) : Int) := by rw [wrapI (by omega) (by omega)]; omega
      obtain ⟨k, o, g1, g2, g3⟩ := hr'.at hlt
      obtain ⟨g4, _, _⟩ := g3 H' rfl
      have hm := hs l[i] (List.getElem_mem hlt)
      have hgl := Tg.Hd.getP_len name (l.take i)
      rw [List.length_take] at hgl
      have hnew := Tg.Hd.getP_take (name := name) hlt
      have ihx := fun fr2 H2 => ih (i + 1) fr2 H2 (by omega)
      clear ih
      generalize Tg.Hd.getP name (l.take (i + 1)) = c' at *
      generalize Tg.Hd.getP name (l.take i) = c at *
      generalize l[i] = x at *
      have hnm := named1_cl (H := H'.new (hb x)) (p := H.n) (name := name) (h := x) (by rw [get_new_ne (by omega)]; exact hb0) (by rw [n_new]; omega) hm
      have ho1 : SOwn (H.n + 1) (H'.new (hb x)) w c := ho.keep (Nat.le_succ _) (fun j hj _ hjn => get_new_ne (by omega))
      have hnw : ∀ k, k < H.n + 1 → (H'.new (hb x)).get k = H'.get k := fun k hk => get_new_ne (by omega)
      cases hx : Tg.Hd.isP name x with
      | true =>
        rw [hx] at hnm hnew
        rw [if_pos rfl] at hnew
        obtain ⟨v', H2, a1, a2, a3, a4⟩ := out_app (x := x.2) ho1 (by rw [n_new]; omega) (by omega)
        rw [← hnew] at a2
        have hg2 : ∀ k, k < H.n + 1 → H2.get k = H'.get k := fun k hk => by rw [a4 k hk, hnw k hk]
        simp [f6, f11, f12, f13, f5, q, hlt, g1, g4, hnm, a1]
        refine ihx _ _ ⟨?_, ?_, ?_, ?_, by omega, v', ?_, a2, a3, by rw [hg2 _ (by omega)]; exact hb0, fun k hk => by rw [hg2 k (by omega)]; exact hold k hk⟩
        all_goals simp [f6, f11, f12, hw1]
      | false =>
        rw [hx] at hnm hnew
        rw [if_neg (by decide), List.append_nil] at hnew
        subst hnew
        simp [f6, f11, f12, f13, f5, q, hlt, g1, g4, hnm]
        refine ihx _ _ ⟨?_, ?_, ?_, ?_, by omega, w, ?_, ho1, by rw [n_new]; omega, by rw [hnw _ (by omega)]; exact hb0, fun k hk => by rw [hnw k (by omega)]; exact hold k hk⟩
        all_goals simp [f6, f11, f12, f5, hw1]
    · have q := eq_false (show ¬ (i : Int) < (l.length : Int) by omega)
      rw [List.take_of_length_le (by omega)] at ho
      simp [f12, f13, f5, q]
      exact ⟨RowN.weak (P := Tryz.prog) ho (by omega), by omega, hold⟩
  obtain ⟨r, e, ho⟩ := key
  obtain ⟨H2, e2, ho2⟩ := ho.trunc
  exact ⟨r.1, H2, by rw [e, ← e2], ho2⟩
theorem Get_ex (hr : HRow H v l) (hl : l.length ≤ 90000) (hs : ∀ h ∈ l, h.1.length ≤ 1048576) : ∃ v' H', LC Tryz.prog EJ 15 [str name, v] H = some (v', H') ∧ OutS H v' H' (Tg.Hd.getP name l) := by
  obtain ⟨v', H', e, ho⟩ := cget_ex (name := name) hr hl hs
  have key : ∃ r, LC Tryz.prog EJ 15 [str name, v] H = some (Lg.trunc H r) ∧ OutS H r.1 r.2 (Tg.Hd.getP name l) := by
    refine LC_runs (P := Tryz.prog) (E := EJ) (f := 15) rfl Tryz.func15 rfl (Nat.le_of_ble_eq_true rfl) (by decide) (by kernel_rfl) ?_
    simp [e]
    exact ho
  obtain ⟨r, e, ho⟩ := key
  obtain ⟨H2, e2, ho2⟩ := ho.trunc
  exact ⟨r.1, H2, by rw [e, ← e2], ho2⟩
theorem findex_cl (hr : HRow H v l) (hl : l.length ≤ 1000000) (hs : ∀ h ∈ l, h.1.length ≤ 1048576) (hg : H.get p = some ⟨[str name], 9, true⟩) (hp : p < H.n) : LC Tryz.prog EJ 71 [v, .func (.func 72) #[] #[ptr p 0]] H = some (.int .i64 (Tg.Hd.idxP name l 0), H) := by
  refine LC_pure rfl Tryz.func71 rfl (Nat.le_of_ble_eq_true rfl) (by decide) (by kernel_rfl) (by simp) ?_
  obtain ⟨x, hx⟩ : ∃ x, x = Tg.Hd.idxP name l 0 := ⟨_, rfl⟩
  rw [← hx]
  simp [hr.len]
  refine loop_ind (fun (i : Nat) fr' H' => fr' 0 = v ∧ fr' 1 = .func (.func 72) #[] #[ptr p 0] ∧ fr' 7 = .int .i64 l.length ∧ fr' 8 = .int .i64 i ∧ i ≤ l.length ∧ x = Tg.Hd.idxP name (l.drop i) i ∧ H' = H) (fun i => l.length - i) 0 ⟨by simp, by simp, by simp, by simp, Nat.zero_le _, hx, rfl⟩ ?_
  rintro i fr' H' ⟨h0, h1, h7, h8, hi, hc, rfl⟩ ih
  by_cases hlt : i < l.length
  · have q := eq_true (show (i : Int) < (l.length : Int) by omega)
    have hw : IntKind.i64.wrap ((i : Int) + 1) = ((i + 1 : Nat) : Int) := by rw [wrapI (by omega) (by omega)]; omega
    obtain ⟨k, o, g1, g2, g3⟩ := hr.at hlt
    obtain ⟨g4, _, _⟩ := g3 H' rfl
    have hm := hs l[i] (List.getElem_mem hlt)
    have ho := named1_cl (H := H') (p := p) (name := name) (h := l[i]) hg hp hm
    rw [List.drop_eq_getElem_cons hlt] at hc
    generalize l[i] = a at *
    unfold Tg.Hd.idxP at hc
    cases hf : Tg.Hd.isP name a with
    | false =>
      rw [hf, if_neg (by decide)] at hc
      rw [hf] at ho
      simp [h0, h1, h7, h8, q, hlt, g1, g4, ho]
      refine ih (i + 1) _ _ (by omega) ⟨?_, ?_, ?_, ?_, by omega, hc, rfl⟩
      all_goals simp [h0, h1, h7, hw]
    | true =>
      rw [hf, if_pos rfl] at hc
      rw [hf] at ho
      subst hc
      simp [h0, h1, h7, h8, q, hlt, g1, g4, ho]
  · have q := eq_false (show ¬ (i : Int) < (l.length : Int) by omega)
    rw [List.drop_of_length_le (by omega)] at hc
    have hc : x = -1 := hc
    subst hc
    simp [h0, h1, h7, h8, q, hlt]
theorem Has_cl (hr : HRow H v l) (hl : l.length ≤ 1000000) (hs : ∀ h ∈ l, h.1.length ≤ 1048576) : LC Tryz.prog EJ 11 [str name, v] H = some (.bool (l.any (Tg.Hd.isP name)), H) := by
  have hr1 : HRow (H.new ⟨[str name], 9, true⟩) v l := hr.keep (Nat.le_succ _) (fun k hk => get_new_ne (by omega))
  have hi := findex_cl (H := H.new ⟨[str name], 9, true⟩) (p := H.n) hr1 hl hs get_new (Nat.lt_succ_self _)
  have hc : LC Tryz.prog EJ 41 [v, .func (.func 72) #[] #[ptr H.n 0]] (H.new ⟨[str name], 9, true⟩) = some (.bool (l.any (Tg.Hd.isP name)), H.new ⟨[str name], 9, true⟩) := by
    have hif := Tg.Hd.idxP_iff name l 0
    refine LC_pure rfl Tryz.func41 rfl (Nat.le_of_ble_eq_true rfl) (by decide) (by kernel_rfl) (by simp) ?_
    simp [hi]
    rw [Bool.eq_iff_iff, decide_eq_true_eq]
    exact hif
  refine LC_pure rfl Tryz.func11 rfl (Nat.le_of_ble_eq_true rfl) (by decide) (by kernel_rfl) (by simp) ?_
  simp [named_l, hc, le_refl.new]
theorem hbs0s : lbuildSlice Tryz.prog 25 0 [] H = some (sl H.n 0 0, H.new ⟨[], 9, true⟩) := lbs_dense (z := str []) Tryz.underlying25 (by kernel_rfl) (by kernel_rfl) rfl (by simp) rfl (by decide) rfl
theorem rget_ex (hr : HRow H v l) (hl : l.length ≤ 90000) (hs : ∀ h ∈ l, h.1.length ≤ 1000000) (hn : name.length ≤ 1000000) : ∃ v' H', LC Tryz.prog EJ 8 [str name, v] H = some (v', H') ∧ OutS H v' H' (Tg.Hd.getP name l) := by
  have key : ∃ r, LC Tryz.prog EJ 8 [str name, v] H = some (Lg.trunc H r) ∧ OutS H r.1 r.2 (Tg.Hd.getP name l) := by
    refine LC_runs (P := Tryz.prog) (E := EJ) (f := 8) rfl Tryz.func8 rfl (Nat.le_of_ble_eq_true rfl) (by decide) (by kernel_rfl) ?_
    simp [hbs0s]
    refine loop_ind (fun (i : Nat) fr' H' => fr' 0 = str name ∧ fr' 1 = v ∧ fr' 6 = .int .i64 i ∧ i ≤ l.length ∧ ∃ w, fr' 5 = w ∧ OutS H w H' (Tg.Hd.getP name (l.take i))) (fun i => l.length - i) 0 ⟨by simp, by simp, by simp, Nat.zero_le _, sl H.n 0 0, by simp, ⟨?_, by simp, fun k hk => get_new_ne (by omega)⟩⟩ ?_
    · exact ⟨by simp [Tg.Hd.getP], .inr ⟨H.n, 0, [], by simp [Tg.Hd.getP], Nat.le_refl _, by simp, by simp [Tg.Hd.getP], by simp [Tg.Hd.getP], by simp [Tg.Hd.getP]⟩⟩
    rintro i fr' H' ⟨h0, h1, h6, hi, w, h5, hrow, hn2, hk⟩ ih
    have hr' := hr.keep hn2 hk
    by_cases hlt : i < l.length
    · have q := eq_true (show (i : Int) < (l.length : Int) by omega)
      have hw1 : IntKind.i64.wrap ((i : Int) + 1) = ((i + 1 : Nat) : Int) := by rw [wrapI (by omega) (by omega)]; omega
      obtain ⟨k, o, g1, g2, g3⟩ := hr'.at hlt
      obtain ⟨g4, _, g5⟩ := g3 H' rfl
      have his := fun H : LH => his_cl (H := H) (h := l[i]) (name := name) (hs l[i] (List.getElem_mem hlt)) hn
      have hcl := Tg.Hd.getP_len name (l.take i)
      rw [List.length_take] at hcl
      have hnew := Tg.Hd.getP_take (name := name) hlt
      have ihx := fun fr2 H2 => ih (i + 1) fr2 H2 (by omega)
      clear ih
      generalize Tg.Hd.getP name (l.take (i + 1)) = c' at *
      generalize Tg.Hd.getP name (l.take i) = c at *
      generalize l[i] = x at *
      cases hx : Tg.Hd.isP name x with
      | false =>
        rw [hx] at his hnew
        rw [if_neg (by decide), List.append_nil] at hnew
        subst hnew
        simp [h0, h1, h5, h6, q, hlt, g1, g4, his, hr.len]
        refine ihx _ _ ⟨?_, ?_, ?_, by omega, w, ?_, ⟨hrow, hn2, hk⟩⟩
        all_goals simp [h0, h1, h5, hw1]
      | true =>
        rw [hx] at his hnew
        rw [if_pos rfl] at hnew
        obtain ⟨v', H2, a1, a2, a3, a4⟩ := out_app (x := x.2) hrow hn2 (by omega)
        rw [← hnew] at a2
        simp [h0, h1, h5, h6, q, hlt, g1, g4, g5, his, a1, hr.len]
        refine ihx _ _ ⟨?_, ?_, ?_, by omega, v', ?_, ⟨a2, a3, fun k hk2 => by rw [a4 k hk2, hk k hk2]⟩⟩
        all_goals simp [h0, h1, hw1]
    · have q := eq_false (show ¬ (i : Int) < (l.length : Int) by omega)
      rw [List.take_of_length_le (by omega)] at hrow
      simp [h0, h1, h5, h6, q, hr.len]
      exact ⟨hrow, hn2, hk⟩
  obtain ⟨r, e, ho⟩ := key
  obtain ⟨H2, e2, ho2⟩ := ho.trunc
  exact ⟨r.1, H2, by rw [e, ← e2], ho2⟩
theorem cjoin_cl (h : SOwn N H v xs) (hne : xs ≠ []) (hn : xs.length ≤ 1000000) (hl : (Tg.Hd.joinC xs).length ≤ 9000000) : LC Tryz.prog EJ 40 [v] H = some (str (Tg.Hd.joinC xs), H) := by
  have hj : LC Tryz.prog EJ 100 [v, str [44, 32]] H = some (str (Tg.Hd.joinC xs), H) := by
    rcases h.2 with ⟨rfl, h0⟩ | ⟨k, c, rest, rfl, g1, g2, g3, g4, g5⟩
    · exact absurd (List.eq_nil_of_length_eq_zero h0) hne
    · exact join_l (n := xs.length) g3 (by intro e; exact hne (List.eq_nil_of_length_eq_zero e)) g4 (by omega) rfl (by rw [List.drop_zero, List.take_left' (by simp)]) (by unfold Tg.Hd.joinC at hl; omega)
  have hj2 : LC Tryz.prog EJ 70 [v] H = some (str (Tg.Hd.joinC xs), H) := by
    refine LC_pure rfl Tryz.func70 rfl (Nat.le_of_ble_eq_true rfl) (by decide) (by kernel_rfl) (by simp) ?_
    simp [hj]
  refine LC_pure rfl Tryz.func40 rfl (Nat.le_of_ble_eq_true rfl) (by decide) (by kernel_rfl) (by simp) ?_
  simp [hj2]
theorem comb_cl (hr : HRow H v l) (hl : l.length ≤ 90000) (hs : ∀ h ∈ l, h.1.length ≤ 1048576) (hjl : (Tg.Hd.joinC (Tg.Hd.getP name l)).length ≤ 9000000) :
    LC Tryz.prog EJ 9 [str name, v] H = some (.tuple #[str (Tg.Hd.joinC (Tg.Hd.getP name l)), .bool (decide (Tg.Hd.getP name l ≠ []))], H) := by
  obtain ⟨v', H', e, ho⟩ := cget_ex (name := name) hr hl hs
  have hgl := Tg.Hd.getP_len name l
  refine LC_pure rfl Tryz.func9 rfl (Nat.le_of_ble_eq_true rfl) (by decide) (by kernel_rfl) rfl ?_
  generalize Tg.Hd.getP name l = xs at *
  have hlen := fun H2 : LH => ho.row.len (H' := H2)
  by_cases hx : xs = []
  · subst hx
    simp at hlen
    simp [e, hlen, Tg.Hd.joinC, Lib.join]
    exact ⟨ho.le, ho.old⟩
  · have hc := cjoin_cl ho.row hx (by omega) hjl
    have q := eq_false (show ¬ (xs.length : Int) = 0 by intro e; exact hx (List.eq_nil_of_length_eq_zero (by omega)))
    simp [e, hlen, hx, hc]
    exact ⟨ho.le, ho.old⟩
end
end Go.Proofs.YteckofomnhminaaGreatDoor
/-
  Layer 22 (header): texts joined, lists of texts compared, by the reference.
-/
set_option linter.unusedSimpArgs false
set_option linter.unusedVariables false
set_option maxRecDepth 100000
namespace Tg.Hd
theorem joinC_take {xs : List (List UInt8)} {i : Nat} (h : i < xs.length) : joinC (xs.take (i + 1)) = if i = 0 then xs[i] else joinC (xs.take i) ++ ([44, 32] ++ xs[i]) := by
  rw [List.take_succ_eq_append_getElem h]
  by_cases hi : i = 0
  · subst hi
    rw [if_pos rfl]
    simp [joinC, Go.Lib.join_cons, Go.Lib.joinTail]
  · rw [if_neg hi]
    cases xs with
    | nil => simp at h
    | cons a r =>
      obtain ⟨j, rfl⟩ : ∃ j, i = j + 1 := ⟨i - 1, by omega⟩
      rw [List.take_succ_cons, List.cons_append]
      unfold joinC
      rw [Go.Lib.join_cons, Go.Lib.join_cons]
      unfold Go.Lib.joinTail
      rw [List.map_append, List.flatten_append]
      simp
theorem joinC_len {m : Nat} {xs : List (List UInt8)} (h : ∀ x ∈ xs, x.length ≤ m) : ∀ i, i ≤ xs.length → (joinC (xs.take i)).length ≤ i * (m + 2)
  | 0, _ => by simp [joinC, Go.Lib.join]
  | i + 1, hi => by
    have ih := joinC_len h i (by omega)
    have hx := h xs[i] (List.getElem_mem (by omega))
    rw [joinC_take (by omega), Nat.add_mul]
    split
    · omega
    · simp; omega
end Tg.Hd
namespace Go.Proofs.YteckofomnhminaaGreatDoor
open Go.Lg Go.Tg
section
variable {H H' : LH} {v w : Value} {N M : Nat} {xs ys : List (List UInt8)}
theorem rjoin_cl (h : SOwn N H v xs) (hn : xs.length ≤ 1000) (hm : ∀ x ∈ xs, x.length ≤ 1000) : LC Tryz.prog EJ 10 [v] H = some (str (Tg.Hd.joinC xs), H) := by
  refine LC_pure rfl Tryz.func10 rfl (Nat.le_of_ble_eq_true rfl) (by decide) (by kernel_rfl) (by simp) ?_
  simp
  refine loop_ind (fun (i : Nat) fr' H' => fr' 0 = v ∧ fr' 3 = str (Tg.Hd.joinC (xs.take i)) ∧ fr' 4 = .int .i64 i ∧ i ≤ xs.length ∧ H' = H) (fun i => xs.length - i) 0 ⟨by simp, by simp [Tg.Hd.joinC, Lib.join], by simp, Nat.zero_le _, rfl⟩ ?_
  rintro i fr' H' ⟨h0, h3, h4, hi, rfl⟩ ih
  by_cases hlt : i < xs.length
  · have q := eq_true (show (i : Int) < (xs.length : Int) by omega)
    have hw1 : IntKind.i64.wrap ((i : Int) + 1) = ((i + 1 : Nat) : Int) := by rw [wrapI (by omega) (by omega)]; omega
    obtain ⟨k, o, g1, g2, g3⟩ := h.at hlt
    have g4 := g3 H' rfl
    have hx := hm xs[i] (List.getElem_mem hlt)
    have hjl := Tg.Hd.joinC_len hm i hi
    have hmul := Nat.mul_le_mul_right (1000 + 2) (show i ≤ 1000 by omega)
    have hnew := Tg.Hd.joinC_take hlt
    have ihx := fun fr2 H2 => ih (i + 1) fr2 H2 (by omega)
    clear ih
    generalize Tg.Hd.joinC (xs.take (i + 1)) = c' at *
    generalize Tg.Hd.joinC (xs.take i) = c at *
    generalize xs[i] = x at *
    have cat := fun (x y : List UInt8) (hh : x.length + y.length ≤ 9000000) => lbin_cat (P := Tryz.prog) (t := 9) (x := x) (y := y) (by omega)
    by_cases hz : i = 0
    · rw [if_pos hz] at hnew
      subst hnew
      have hc0 : c = [] := by
        rw [hz] at hjl
        simpa using hjl
      subst hc0
      have qz := eq_false (show ¬ (0 : Int) < (i : Int) by omega)
      have qz2 := eq_false (show ¬ 0 < i by omega)
      have c1 := cat [] c' (by simp; omega)
      simp only [List.nil_append] at c1
      simp [h0, h3, h4, q, qz, qz2, hlt, g1, g4, c1, h.len]
      refine ihx _ _ ⟨?_, ?_, ?_, by omega, rfl⟩
      all_goals simp [h0, hw1]
    · rw [if_neg hz] at hnew
      have qz := eq_true (show (0 : Int) < (i : Int) by omega)
      have qz2 := eq_true (show 0 < i by omega)
      have c1 := cat c [44, 32] (by simp; omega)
      have c2 := cat (c ++ [44, 32]) x (by simp; omega)
      rw [List.append_assoc, ← hnew] at c2
      simp [h0, h3, h4, q, qz, qz2, hlt, g1, g4, c1, c2, h.len]
      refine ihx _ _ ⟨?_, ?_, ?_, by omega, rfl⟩
      all_goals simp [h0, hw1]
  · have q := eq_false (show ¬ (i : Int) < (xs.length : Int) by omega)
    rw [List.take_of_length_le (by omega)] at h3
    simp [h0, h3, h4, q, h.len]
theorem ssame_cl (h : SOwn N H v xs) (h' : SOwn M H w xs) (hn : xs.length ≤ 1000000) : LC Tryz.prog EJ 14 [v, w] H = some (.bool true, H) := by
  refine LC_pure rfl Tryz.func14 rfl (Nat.le_of_ble_eq_true rfl) (by decide) (by kernel_rfl) (by simp) ?_
  simp [h.len, h'.len]
  refine loop_ind (fun (i : Nat) fr' H' => fr' 0 = v ∧ fr' 1 = w ∧ fr' 5 = .int .i64 i ∧ i ≤ xs.length ∧ H' = H) (fun i => xs.length - i) 0 ⟨by simp, by simp, by simp, Nat.zero_le _, rfl⟩ ?_
  rintro i fr' H' ⟨h0, h1, h5, hi, rfl⟩ ih
  by_cases hlt : i < xs.length
  · have q := eq_true (show (i : Int) < (xs.length : Int) by omega)
    have hw1 : IntKind.i64.wrap ((i : Int) + 1) = ((i + 1 : Nat) : Int) := by rw [wrapI (by omega) (by omega)]; omega
    obtain ⟨k, o, g1, g2, g3⟩ := h.at hlt
    obtain ⟨k', o', g1', g2', g3'⟩ := h'.at hlt
    have g4 := g3 H' rfl
    have g4' := g3' H' rfl
    generalize xs[i] = x at *
    simp [h0, h1, h5, q, hlt, g1, g4, g1', g4', h.len]
    refine ih (i + 1) _ _ (by omega) ⟨?_, ?_, ?_, by omega, rfl⟩
    all_goals simp [h0, h1, hw1]
  · have q := eq_false (show ¬ (i : Int) < (xs.length : Int) by omega)
    simp [h0, h1, h5, q, hlt, h.len]
end
end Go.Proofs.YteckofomnhminaaGreatDoor
/-
  Layer 22 (header): rows of headers: parts, sources, all appended.
-/
set_option linter.unusedSimpArgs false
set_option linter.unusedVariables false
set_option maxRecDepth 100000
namespace Tg.Hd
theorem cells_cell : ∀ l : List Hdr, (cells l).all Go.Lg.cellB = true
  | [] => rfl
  | h :: l => by rw [cells_cons]; simp [cells_cell l]
theorem cells_take : ∀ (l : List Hdr) (i : Nat), (cells l).take (i * 2) = cells (l.take i)
  | [], i => by simp [cells]
  | h :: l, 0 => by simp [cells]
  | h :: l, i + 1 => by
    rw [cells_cons, List.take_succ_cons, cells_cons, show (i + 1) * 2 = i * 2 + 1 + 1 by omega, List.take_succ_cons, List.take_succ_cons, cells_take l i]
theorem cells_drop : ∀ (l : List Hdr) (i : Nat), (cells l).drop (i * 2) = cells (l.drop i)
  | [], i => by simp [cells]
  | h :: l, 0 => by simp [cells]
  | h :: l, i + 1 => by
    rw [cells_cons, List.drop_succ_cons, show (i + 1) * 2 = i * 2 + 1 + 1 by omega, List.drop_succ_cons, List.drop_succ_cons, cells_drop l i]
end Tg.Hd
namespace Go.Proofs.YteckofomnhminaaGreatDoor
open Go.Lg Go.Tg
section
variable {H H' : LH} {v w : Value} {l m : List Tg.Hd.Hdr} {N : Nat} {s name value : List UInt8} {h : Tg.Hd.Hdr} {p : Nat}
theorem h_cat (h : HOwn N H v l) (hf : Full v) (hN : N ≤ H.n) (hl : l.length + m.length ≤ 100000) :
    ∃ v' H2, lapp Tryz.prog 22 v (some (m.length, Tg.Hd.cells m)) H = some (v', H2) ∧ HOwn N H2 v' (l ++ m) ∧ H.n ≤ H2.n ∧ (∀ k, k < H.n → offRow v k → H2.get k = H.get k) ∧ Full v' ∧ (∀ k, k < H.n → offRow v k → offRow v' k) := by
  obtain ⟨v', H2, ha, hr, hk, hf2⟩ := RowN.app (P := Tryz.prog) (t := 22) (new := Tg.Hd.cells m) (m := m.length) h Tryz.underlying22 (by kernel_rfl) (Tg.Hd.cells_cell m) (Tg.Hd.cells_len m) (by unfold maxElems; omega) hN (.inr hf)
  refine ⟨v', H2, ha, ?_, hk.le, hk.get, hf2 hf, hk.off⟩
  rw [HOwn, List.length_append, Tg.Hd.cells_app]; exact hr
theorem HOwn.src (h : HOwn N H v l) (hk : ∀ k, N ≤ k → k < H.n → H'.get k = H.get k) : lesrc Tryz.prog 22 v H' = some (l.length, Tg.Hd.cells l) := by
  rcases h.2 with ⟨rfl, h0⟩ | ⟨k, c, rest, rfl, g1, g2, g3, g4, g5⟩
  · have : l = [] := List.eq_nil_of_length_eq_zero h0
    subst this
    simp [Tg.Hd.cells]
  · have hl := Tg.Hd.cells_len l
    rw [lesrc_row (s := 2) Tryz.underlying22 (by kernel_rfl) (by rw [hk k g1 g2]; exact g3) (by rw [List.length_append, hl]; omega)]
    rw [List.drop_zero, List.take_left' hl]
theorem HOwn.takeP (h : HOwn N H v l) {i : Nat} (hi : i ≤ l.length) : ∃ v', lpart Tryz.prog 22 v none (some (.int .i64 i)) = some v' ∧ HOwn N H v' (l.take i) := by
  have hl := Tg.Hd.cells_len l
  rcases h.2 with ⟨rfl, h0⟩ | ⟨k, c, rest, rfl, g1, g2, g3, g4, g5⟩
  · have : l = [] := List.eq_nil_of_length_eq_zero h0
    subst this
    have : i = 0 := by simpa using hi
    subst this
    have hu := Tryz.underlying22
    have hs : sz Tryz.prog 57 = some 2 := by kernel_rfl
    exact ⟨.slice none 0 0, by simp [lpart, lbd], RowN.nil⟩
  · refine ⟨_, lpart_row_ns (s := 2) Tryz.underlying22 (by kernel_rfl) (by omega) (by omega), ?_⟩
    have e : (l.take i).length = i := by rw [List.length_take]; omega
    refine ⟨by rw [Tg.Hd.cells_len], .inr ⟨k, c, Tg.Hd.cells (l.drop i) ++ rest, by rw [Int.toNat_natCast, e], g1, g2, ?_, by omega, ?_⟩⟩
    · rw [← List.append_assoc, ← Tg.Hd.cells_app, List.take_append_drop]; exact g3
    · rw [← List.append_assoc, ← Tg.Hd.cells_app, List.take_append_drop]; exact g5
theorem HOwn.dropP (h : HOwn N H v l) {i : Nat} (hi : i < l.length) : ∃ v', lpart Tryz.prog 22 v (some (.int .i64 ((i : Int) + 1))) none = some v' ∧ HRow H v' (l.drop (i + 1)) := by
  have hl := Tg.Hd.cells_len l
  rcases h.2 with ⟨rfl, h0⟩ | ⟨k, c, rest, rfl, g1, g2, g3, g4, g5⟩
  · omega
  · refine ⟨_, lpart_row_sn (s := 2) Tryz.underlying22 (by kernel_rfl) (by omega) (by omega), ?_⟩
    have e : ((i : Int) + 1).toNat = i + 1 := by omega
    refine .inr ⟨k, 0 + (i + 1) * 2, c - (i + 1), by rw [e, List.length_drop], fun _ => ⟨_, g3, g2, fun j hj => ?_⟩⟩
    rw [List.length_drop] at hj
    have g := Tg.Hd.cells_at (l := l) (i := i + 1 + j) (by omega) rest
    have e2 : 0 + (i + 1) * 2 + j * 2 = (i + 1 + j) * 2 := by omega
    rw [e2]
    simp only [List.getElem_drop]
    refine ⟨?_, g⟩
    rw [List.length_append, hl]; omega
theorem own0 {x : LB} : HOwn H.n (H.new ⟨[], 57, true⟩) (sl H.n 0 0) [] := ⟨by simp [Tg.Hd.cells], .inr ⟨H.n, 0, [], by simp, Nat.le_refl _, by simp, by simp [Tg.Hd.cells], by simp, by simp [Tg.Hd.cells]⟩⟩
end
end Go.Proofs.YteckofomnhminaaGreatDoor
/-
  Layer 22 (header): the headers without those of a name, by the code.
-/
set_option linter.unusedSimpArgs false
set_option linter.unusedVariables false
set_option maxRecDepth 100000
namespace Tg.Hd
theorem cutP_take {name : List UInt8} {l : List Hdr} {i : Nat} (h : i < l.length) : cutP name (l.take (i + 1)) = cutP name (l.take i) ++ (if isP name l[i] = true then [] else [l[i]]) := by
  rw [List.take_succ_eq_append_getElem h]
  unfold cutP
  rw [List.filter_append]
  congr 1
  cases hx : isP name l[i] <;> simp [hx]
theorem idxP_at {name : List UInt8} : ∀ (l : List Hdr) (i : Nat), (idxP name l i = -1 ∧ cutP name l = l) ∨ ∃ j : Nat, idxP name l i = ((i + j : Nat) : Int) ∧ j < l.length ∧ cutP name (l.take (j + 1)) = l.take j
  | [], i => .inl ⟨rfl, rfl⟩
  | h :: l, i => by
    unfold idxP
    cases hx : isP name h with
    | true =>
      right
      refine ⟨0, by simp, by simp, ?_⟩
      simp [cutP, hx]
    | false =>
      rw [if_neg (by decide)]
      rcases idxP_at l (i + 1) with ⟨h1, h2⟩ | ⟨j, h1, h2, h3⟩
      · left
        refine ⟨h1, ?_⟩
        unfold cutP at h2 ⊢
        rw [List.filter_cons, hx]
        simp only [Bool.not_false, if_true]
        rw [h2]
      · right
        refine ⟨j + 1, by rw [h1]; congr 1; omega, by simp; omega, ?_⟩
        rw [List.take_succ_cons, List.take_succ_cons]
        unfold cutP at h3 ⊢
        rw [List.filter_cons, hx]
        simp only [Bool.not_false, if_true]
        rw [h3]
end Tg.Hd
namespace Go.Proofs.YteckofomnhminaaGreatDoor
open Go.Lg Go.Tg
section
variable {H H' : LH} {v w : Value} {l m : List Tg.Hd.Hdr} {N : Nat} {s name value : List UInt8} {h : Tg.Hd.Hdr} {p : Nat}
/-- an element is written -/
theorem h_store (h : HOwn N H v m) {i : Nat} (hi : i < m.length) (x : Tg.Hd.Hdr) : ∃ k, (∀ H' : LH, lixa Tryz.prog 22 v (.int .i64 i) H' = some (ptr k (i * 2), H')) ∧ N ≤ k ∧ ¬ offRow v k ∧ ∃ H2, lst Tryz.prog 57 (ptr k (i * 2)) (hv x) H = some (undef, H2) ∧ HOwn N H2 v (m.set i x) ∧ H2.n = H.n ∧ ∀ j, j ≠ k → H2.get j = H.get j := by
  have hl := Tg.Hd.cells_len m
  rcases h.2 with ⟨rfl, h0⟩ | ⟨k, c, rest, rfl, g1, g2, g3, g4, g5⟩
  · omega
  · refine ⟨k, fun H' => ?_, g1, fun ho => ho _ _ rfl, ?_⟩
    · have q := eq_true (show (i : Int) < (m.length : Int) by omega)
      simp [q, hi]
    · have hle : i * 2 + 2 ≤ (Tg.Hd.cells m ++ rest).length := by rw [List.length_append, hl]; omega
      refine ⟨_, lst_agg (n := 2) g3 rfl (by kernel_rfl) rfl (by simp) hle, ?_, by simp, fun j hj => get_set_ne hj⟩
      have e : splice (Tg.Hd.cells m ++ rest) (i * 2) [str x.1, str x.2] = Tg.Hd.cells (m.set i x) ++ rest := by
        unfold splice
        have e1 : (Tg.Hd.cells m ++ rest).take (i * 2) = Tg.Hd.cells (m.take i) := by
          rw [List.take_append_of_le_length (by rw [hl]; omega), Tg.Hd.cells_take]
        have e2 : (Tg.Hd.cells m ++ rest).drop (i * 2 + [str x.1, str x.2].length) = Tg.Hd.cells (m.drop (i + 1)) ++ rest := by
          rw [show i * 2 + [str x.1, str x.2].length = (i + 1) * 2 by simp; omega, List.drop_append_of_le_length (by rw [hl]; omega), Tg.Hd.cells_drop]
        rw [e1, e2, List.set_eq_take_append_cons_drop, if_pos hi, Tg.Hd.cells_app, Tg.Hd.cells_cons]
        simp
      refine ⟨by rw [Tg.Hd.cells_len], .inr ⟨k, c, rest, by rw [List.length_set], g1, by simpa using g2, ?_, by rw [List.length_set]; exact g4, ?_⟩⟩
      · rw [get_set, e]
      · rw [List.length_append, Tg.Hd.cells_len, List.length_set]
        rw [List.length_append, hl] at g5
        exact g5
theorem zero_mem {q : Nat} {a : Value} : ∀ x ∈ (Builtin.zeroCells #[a, a] q).toList, x = a := by
  intro x hx
  unfold Builtin.zeroCells at hx
  simp at hx
  obtain ⟨i, hi, rfl⟩ := hx
  have : i % 2 = 0 ∨ i % 2 = 1 := by omega
  rcases this with e | e <;> simp [e]
theorem zero_len {q : Nat} {a : Value} : (Builtin.zeroCells #[a, a] q).toList.length = q * 2 := by
  unfold Builtin.zeroCells
  simp
/-- the end is emptied, the beginning handed back -/
theorem h_clear (h : HOwn N H v m) {i : Nat} (hi : i < m.length) : ∃ vd H2 v', lpart Tryz.prog 22 v (some (.int .i64 i)) none = some vd ∧ lclr Tryz.prog 22 vd H = some H2 ∧ lpart Tryz.prog 22 v none (some (.int .i64 i)) = some v' ∧ HOwn N H2 v' (m.take i) ∧ H2.n = H.n ∧ ∀ j, offRow v j → H2.get j = H.get j := by
  have hl := Tg.Hd.cells_len m
  rcases h.2 with ⟨rfl, h0⟩ | ⟨k, c, rest, rfl, g1, g2, g3, g4, g5⟩
  · omega
  · have hz : zr Tryz.prog 57 = some (.agg #[str [], str []]) := by kernel_rfl
    have e : (m.take i).length = i := by rw [List.length_take]; omega
    have hzc : (Value.agg #[str [], str []]).cells = #[str [], str []] := rfl
    refine ⟨_, H.set k ⟨splice (Tg.Hd.cells m ++ rest) (0 + i * 2) (Builtin.zeroCells #[str [], str []] (m.length - i)).toList, 57, true⟩, _, lpart_row_sn (s := 2) Tryz.underlying22 (by kernel_rfl) (by omega) (by omega), ?_, lpart_row_ns (s := 2) Tryz.underlying22 (by kernel_rfl) (by omega) (by omega), ?_, by simp, fun j hj => get_set_ne (fun e => hj m.length c (by subst e; rfl))⟩
    · unfold lclr
      rw [Tryz.underlying22]
      simp only [Int.toNat_natCast]
      rw [if_neg (by omega), hz]
      simp only [g3, hzc]
      rw [if_pos]
      refine ⟨trivial, ?_, ?_⟩
      · rw [List.all_eq_true]
        intro x hx
        rw [zero_mem x hx]
        simp
      · rw [zero_len, List.length_append, hl]; omega
    · have e1 : splice (Tg.Hd.cells m ++ rest) (0 + i * 2) (Builtin.zeroCells #[str [], str []] (m.length - i)).toList = Tg.Hd.cells (m.take i) ++ ((Builtin.zeroCells #[str [], str []] (m.length - i)).toList ++ rest) := by
        unfold splice
        rw [zero_len, Nat.zero_add, List.take_append_of_le_length (by rw [hl]; omega), Tg.Hd.cells_take, show i * 2 + (m.length - i) * 2 = (Tg.Hd.cells m).length by rw [hl]; omega, List.drop_left, List.append_assoc]
      refine ⟨by rw [Tg.Hd.cells_len], .inr ⟨k, c, (Builtin.zeroCells #[str [], str []] (m.length - i)).toList ++ rest, by rw [Int.toNat_natCast, e], g1, by simpa using g2, ?_, by omega, ?_⟩⟩
      · rw [get_set, e1]
      · rw [List.length_append, List.length_append, Tg.Hd.cells_len, zero_len, e]
        rw [List.length_append, hl] at g5
        omega
theorem clone_ex (hv : HOwn N H v l) (hl : l.length ≤ 40000) : ∃ v' H', LC Tryz.prog EJ 46 [v] H = some (v', H') ∧ OutRow H v' H' l := by
  have key : ∃ r, LC Tryz.prog EJ 46 [v] H = some (Lg.trunc H r) ∧ OutRow H r.1 r.2 l := by
    refine LC_runs (P := Tryz.prog) (E := EJ) (f := 46) rfl Tryz.func46 rfl (Nat.le_of_ble_eq_true rfl) (by decide) (by kernel_rfl) ?_
    have hsrc := hv.src (H' := H.new ⟨[], 57, true⟩) (fun k _ hk => get_new_ne (by omega))
    obtain ⟨va, Ha, b1, b2, b3, b4, b5, b6⟩ := h_cat (m := l) (own0 (H := H) (x := hb ([], []))) full_new (Nat.le_succ _) (by simp; omega)
    rcases hv.2 with ⟨rfl, h0⟩ | ⟨k, c, rest, rfl, g1, g2, g3, g4, g5⟩
    · have : l = [] := List.eq_nil_of_length_eq_zero h0
      subst this
      simp
      exact ⟨RowN.nil, full_nil, Nat.le_refl _, fun _ _ => rfl⟩
    · generalize hsl : sl k l.length c = vs at *
      have hne : lbin Tryz.prog .eql 22 vs (.slice none 0 0) = some (.bool false) := by
        rw [← hsl]; simp
      simp [hne, bs0h, hsrc, b1]
      exact ⟨b2, b5, by rw [n_new] at b3; omega, fun j hj => by rw [b4 j (by rw [n_new]; omega) (fun n c e => by injection e with e; injection e with e; injection e with e; omega), get_new_ne (by omega)]⟩
  obtain ⟨r, e, ho⟩ := key
  obtain ⟨H2, e2, ho2⟩ := ho.trunc
  exact ⟨r.1, H2, by rw [e, ← e2], ho2⟩
end
end Go.Proofs.YteckofomnhminaaGreatDoor
/-
  Layer 22 (header): headers sorted by the code: insertion.
-/
set_option linter.unusedSimpArgs false
set_option linter.unusedVariables false
set_option maxRecDepth 100000
namespace Tg.Hd
abbrev slt := Go.Op.bytesLess
theorem slt_irr : ∀ x : List UInt8, slt x x = false
  | [] => rfl
  | a :: x => by
    unfold slt Go.Op.bytesLess
    have := slt_irr x
    unfold slt at this
    simp [this]
theorem slt_gt : ∀ x y : List UInt8, (!(slt x y || x == y)) = slt y x
  | [], [] => rfl
  | [], b :: y => rfl
  | a :: x, [] => rfl
  | a :: x, b :: y => by
    have ih := slt_gt x y
    unfold slt at ih ⊢
    unfold Go.Op.bytesLess
    rcases Nat.lt_trichotomy a.toNat b.toNat with h | h | h
    · have h1 : a < b := UInt8.lt_iff_toNat_lt.mpr h
      have h2 : ¬ b < a := fun e => by have := UInt8.lt_iff_toNat_lt.mp e; omega
      have h3 : ¬ a = b := fun e => by rw [e] at h; omega
      have h4 : ¬ b = a := fun e => h3 e.symm
      simp [h1, h2, h3, h4]
    · have h3 : a = b := UInt8.toNat_inj.mp h
      subst h3
      have h2 : ¬ a < a := fun e => by have := UInt8.lt_iff_toNat_lt.mp e; omega
      simp [h2] at ih ⊢
      exact ih
    · have h1 : b < a := UInt8.lt_iff_toNat_lt.mpr h
      have h2 : ¬ a < b := fun e => by have := UInt8.lt_iff_toNat_lt.mp e; omega
      have h3 : ¬ a = b := fun e => by rw [e] at h; omega
      have h4 : ¬ b = a := fun e => h3 e.symm
      simp [h1, h2, h3, h4]
def atI (x : List UInt8) (pre : List Hdr) : Nat → Nat
  | 0 => 0
  | j + 1 => if slt x (pre.getD j ([], [])).1 = true then atI x pre j else j + 1
def insP (pre : List Hdr) (h : Hdr) : List Hdr := pre.take (atI h.1 pre pre.length) ++ h :: pre.drop (atI h.1 pre pre.length)
def sortP (l : List Hdr) : List Hdr := l.foldl insP []
theorem insP_len (pre : List Hdr) (h : Hdr) : (insP pre h).length = pre.length + 1 := by
  unfold insP
  rw [List.length_append, List.length_cons, ← Nat.add_assoc, ← List.length_append, List.take_append_drop]
theorem foldl_len : ∀ (l acc : List Hdr), (l.foldl insP acc).length = acc.length + l.length
  | [], acc => rfl
  | h :: l, acc => by rw [List.foldl_cons, foldl_len l, insP_len, List.length_cons]; omega
theorem sortP_len (l : List Hdr) : (sortP l).length = l.length := by
  unfold sortP; rw [foldl_len]; simp
theorem sortP_take {l : List Hdr} {i : Nat} (h : i < l.length) : sortP (l.take (i + 1)) = insP (sortP (l.take i)) l[i] := by
  unfold sortP
  rw [List.take_succ_eq_append_getElem h, List.foldl_append]; rfl
def cmpI (x y : List UInt8) : Int := if slt x y = true then -1 else if slt y x = true then 1 else 0
theorem swap_eq {pre rest : List Hdr} {x : Hdr} {j : Nat} (hj : j + 1 ≤ pre.length) : (((pre.take (j + 1) ++ x :: (pre.drop (j + 1) ++ rest)).set (j + 1) (pre.getD j ([], []))).set j x) = pre.take j ++ x :: (pre.drop j ++ rest) := by
  have e1 : (pre.take (j + 1)).length = j + 1 := by rw [List.length_take]; omega
  have e2 : pre.take (j + 1) = pre.take j ++ [pre[j]] := List.take_succ_eq_append_getElem (by omega)
  have e3 : pre.drop j = pre[j] :: pre.drop (j + 1) := List.drop_eq_getElem_cons (by omega)
  have e4 : pre.getD j ([], []) = pre[j] := by rw [List.getD_eq_getElem?_getD, List.getElem?_eq_getElem (by omega)]; rfl
  have e5 : (pre.take j).length = j := by rw [List.length_take]; omega
  rw [e4, List.set_append_right _ _ (by omega), e1, Nat.sub_self, List.set_cons_zero, e2, e3]
  rw [List.append_assoc, List.set_append_right _ _ (by omega), e5, Nat.sub_self]
  simp only [List.set_cons_zero, List.cons_append, List.nil_append]
end Tg.Hd
namespace Go.Proofs.YteckofomnhminaaGreatDoor
open Go.Lg Go.Tg
section
variable {H H' : LH} {v w : Value} {l m : List Tg.Hd.Hdr} {N : Nat} {x y : List UInt8} {a b : Tg.Hd.Hdr} {p : Nat} {P : Program} {t : TypeId}
theorem lbin_slt : lbin P .lss t (str x) (str y) = some (.bool (Tg.Hd.slt x y)) := lbin_ss (by
  simp only [str, binOp, Op.stringOp, ba_list]
  rfl) rfl
theorem lbin_sgt : lbin P .gtr t (str x) (str y) = some (.bool (Tg.Hd.slt y x)) := by
  rw [← Tg.Hd.slt_gt]
  exact lbin_ss (by
    simp only [str, binOp, Op.stringOp, ba_list]
    rfl) rfl
theorem nan_cl : LC Tryz.prog EJ 80 [str x] H = some (.bool false, H) := by
  refine LC_pure rfl Tryz.func80 rfl (Nat.le_of_ble_eq_true rfl) (by decide) (by kernel_rfl) rfl ?_
  simp
theorem compare_cl : LC Tryz.prog EJ 50 [str x, str y] H = some (.int .i64 (Tg.Hd.cmpI x y), H) := by
  refine LC_pure rfl Tryz.func50 rfl (Nat.le_of_ble_eq_true rfl) (by decide) (by kernel_rfl) rfl ?_
  unfold Tg.Hd.cmpI
  cases h1 : Tg.Hd.slt x y with
  | true => simp [nan_cl, lbin_slt, lbin_sgt, h1]
  | false =>
    cases h2 : Tg.Hd.slt y x with
    | true => simp [nan_cl, lbin_slt, lbin_sgt, h1, h2]
    | false => simp [nan_cl, lbin_slt, lbin_sgt, h1, h2]
theorem sort1_cl : LC Tryz.prog EJ 49 [hv a, hv b] H = some (.int .i64 (Tg.Hd.cmpI a.1 b.1), H) := by
  refine LC_pure rfl Tryz.func49 rfl (Nat.le_of_ble_eq_true rfl) (by decide) (by kernel_rfl) rfl ?_
  simp [compare_cl, le_refl.new.new]
theorem own_trunc {l0 l1 : List Tg.Hd.Hdr} {u : Value} (h0 : HOwn N H v l0) (h1 : HOwn N H' v l1) (hn : H.n ≤ H'.n) (hold : ∀ k, k < N → H'.get k = H.get k) : ∃ H2, Lg.trunc H (u, H') = (u, H2) ∧ HOwn N H2 v l1 ∧ H.n ≤ H2.n ∧ ∀ k, k < N → H2.get k = H.get k := by
  rcases trunc_or u H H' with e | ⟨e, _, hle⟩
  · exact ⟨H', e, h1, hn, hold⟩
  · refine ⟨H, e, ⟨h1.1, ?_⟩, Nat.le_refl _, fun _ _ => rfl⟩
    rcases h1.2 with h2 | ⟨k, c, rest, rfl, g1, g2, g3, g4, g5⟩
    · exact .inl h2
    · rcases h0.2 with ⟨e0, _⟩ | ⟨k', c', rest', e0, g1', g2', _⟩
      · cases e0
      · injection e0 with e0 _ _
        injection e0 with e0
        injection e0 with e0
        subst e0
        exact .inr ⟨k, c, rest, rfl, g1, g2', by rw [← hle.2 k g2']; exact g3, g4, g5⟩
theorem ins_ex (hv : HOwn N H v l) (hN : N ≤ H.n) (hl : l.length ≤ 1000) :
    ∃ H2, LC Tryz.prog EJ 106 [v, .int .i64 0, .int .i64 l.length, .func (.func 49) #[] #[]] H = some (.tuple #[], H2) ∧ HOwn N H2 v (Tg.Hd.sortP l) ∧ H.n ≤ H2.n ∧ ∀ k, k < N → H2.get k = H.get k := by
  have key : ∃ r, LC Tryz.prog EJ 106 [v, .int .i64 0, .int .i64 l.length, .func (.func 49) #[] #[]] H = some (Lg.trunc H r) ∧ r.1 = .tuple #[] ∧ HOwn N r.2 v (Tg.Hd.sortP l) ∧ H.n ≤ r.2.n ∧ ∀ k, k < N → r.2.get k = H.get k := by
    refine LC_runs (P := Tryz.prog) (E := EJ) (f := 106) rfl Tryz.func106 rfl (Nat.le_of_ble_eq_true rfl) (by decide) (by kernel_rfl) ?_
    have hcmp := fun (H : LH) (a b : Tg.Hd.Hdr) => sort1_cl (H := H) (a := a) (b := b)
    have hs1 : Tg.Hd.sortP (l.take 1) ++ l.drop 1 = l := by
      cases l with
      | nil => rfl
      | cons y r => rfl
    simp
    refine loop_ind (fun (i : Nat) fr' H' => fr' 0 = v ∧ fr' 1 = .int .i64 0 ∧ fr' 2 = .int .i64 l.length ∧ fr' 3 = .func (.func 49) #[] #[] ∧ fr' 8 = .int .i64 i ∧ 1 ≤ i ∧ (i ≤ l.length ∨ i = 1) ∧ HOwn N H' v (Tg.Hd.sortP (l.take i) ++ l.drop i) ∧ H.n ≤ H'.n ∧ ∀ k, k < N → H'.get k = H.get k) (fun i => l.length - i) 1 ⟨by simp, by simp, by simp, by simp, by simp, Nat.le_refl _, .inr rfl, by rw [hs1]; exact hv, Nat.le_refl _, fun _ _ => rfl⟩ ?_
    rintro i fr' H' ⟨f0, f1, f2, f3, f8, h1i, hi, ho, hn2, hold⟩ ih
    by_cases hlt : i < l.length
    · have q := eq_true (show (i : Int) < (l.length : Int) by omega)
      have hw1 : IntKind.i64.wrap ((i : Int) + 1) = ((i + 1 : Nat) : Int) := by rw [wrapI (by omega) (by omega)]; omega
      have hpl : (Tg.Hd.sortP (l.take i)).length = i := by rw [Tg.Hd.sortP_len, List.length_take]; omega
      have hdr : l.drop i = l[i] :: l.drop (i + 1) := List.drop_eq_getElem_cons hlt
      have hst := Tg.Hd.sortP_take hlt
      rw [hdr] at ho
      have ihx := fun fr2 H2 => ih (i + 1) fr2 H2 (by omega)
      clear ih
      unfold Tg.Hd.insP at hst
      rw [hpl] at hst
      generalize Tg.Hd.sortP (l.take (i + 1)) = pre' at *
      generalize Tg.Hd.sortP (l.take i) = pre at *
      generalize l[i] = x at *
      generalize hrest : l.drop (i + 1) = rest at *
      have hrl : rest.length = l.length - (i + 1) := by rw [← hrest, List.length_drop]
      simp [f2, f8, q, hlt]
      refine loop_ind (fun (j : Nat) fr2 H2 => fr2 0 = v ∧ fr2 1 = .int .i64 0 ∧ fr2 2 = .int .i64 l.length ∧ fr2 3 = .func (.func 49) #[] #[] ∧ fr2 8 = .int .i64 i ∧ fr2 9 = .int .i64 j ∧ j ≤ i ∧ HOwn N H2 v (pre.take j ++ x :: (pre.drop j ++ rest)) ∧ Tg.Hd.atI x.1 pre i = Tg.Hd.atI x.1 pre j ∧ H.n ≤ H2.n ∧ ∀ k, k < N → H2.get k = H.get k) (fun j => j) i ⟨by simp [f0], by simp [f1], by simp [f2], by simp [f3], by simp [f8], by simp [f8], Nat.le_refl _, by rw [← hpl, List.take_length, List.drop_length]; exact ho, rfl, hn2, hold⟩ ?_
      clear f0 f1 f2 f3 f8 ho hn2 hold
      rintro j fr2 H2 ⟨f0, f1, f2, f3, f8, f9, hj, ho, hat, hn2, hold⟩ ih2
      have hdone : Tg.Hd.atI x.1 pre j = j → HOwn N H2 v (pre' ++ rest) := fun e => by
        rw [hst, hat, e, List.append_assoc, List.cons_append]; exact ho
      by_cases hz : j = 0
      · have hdone := hdone (by rw [hz]; rfl)
        have q0 := eq_false (show ¬ (0 : Int) < (j : Int) by omega)
        have q0' := eq_false (show ¬ 0 < j by omega)
        simp [f8, f9, f1, q0, q0']
        refine ihx _ _ ⟨?_, ?_, ?_, ?_, ?_, by omega, by omega, hdone, hn2, hold⟩
        all_goals simp [f0, f1, f2, f3, f8, hw1]
      · obtain ⟨j0, hj0⟩ : ∃ j0, j = j0 + 1 := ⟨j - 1, by omega⟩
        have qj := eq_true (show (0 : Int) < (j : Int) by omega)
        have qj' := eq_true (show 0 < j by omega)
        have hwj : IntKind.i64.wrap ((j : Int) - 1) = (j0 : Int) := by rw [wrapI (by omega) (by omega)]; omega
        have hml : (pre.take j ++ x :: (pre.drop j ++ rest)).length = l.length := by
          simp; omega
        have etk : (pre.take j).length = j := by rw [List.length_take]; omega
        obtain ⟨k1, o1, a1, a2, a3⟩ := ho.row.at (i := j) (by omega)
        obtain ⟨b1, _, _⟩ := a3 H2 rfl
        obtain ⟨k0, o0, c1, c2, c3⟩ := ho.row.at (i := j0) (by omega)
        obtain ⟨d1, _, _⟩ := c3 H2 rfl
        have em1 : (pre.take j ++ x :: (pre.drop j ++ rest))[j]'(by omega) = x := by
          rw [List.getElem_append_right (by omega)]; simp [etk]
        have em0 : (pre.take j ++ x :: (pre.drop j ++ rest))[j0]'(by omega) = pre.getD j0 ([], []) := by
          rw [List.getElem_append_left (by omega), List.getElem_take, List.getD_eq_getElem?_getD, List.getElem?_eq_getElem (by omega)]; rfl
        rw [em1] at b1
        rw [em0] at d1
        have hsw := Tg.Hd.swap_eq (pre := pre) (rest := rest) (x := x) (j := j0) (by omega)
        rw [← hj0] at hsw
        have hatj : Tg.Hd.atI x.1 pre j = if Tg.Hd.slt x.1 (pre.getD j0 ([], [])).1 = true then Tg.Hd.atI x.1 pre j0 else j := by
          rw [hj0]; rfl
        generalize hy : pre.getD j0 ([], []) = y at *
        have hci : Tg.Hd.slt x.1 y.1 = true → Tg.Hd.cmpI x.1 y.1 = -1 := fun e => by unfold Tg.Hd.cmpI; rw [if_pos e]
        have hcn : Tg.Hd.slt x.1 y.1 = false → 0 ≤ Tg.Hd.cmpI x.1 y.1 := fun e => by
          unfold Tg.Hd.cmpI; rw [if_neg (by rw [e]; decide)]; split <;> decide
        obtain ⟨k2, s1, s2, s3, Ha, s4, s5, s6, s7⟩ := h_store ho (i := j) (by omega) y
        obtain ⟨k3, t1, t2, t3, Hb, t4, t5, t6, t7⟩ := h_store s5 (i := j0) (by rw [List.length_set]; omega) x
        rw [hsw] at t5
        have p1 : ptr k1 o1 = ptr k2 (j * 2) := by
          have e := (a1 H2).symm.trans (s1 H2)
          injection e with e
          injection e with e
        have p2 : ptr k0 o0 = ptr k3 (j0 * 2) := by
          have e := (c1 H2).symm.trans (t1 H2)
          injection e with e
          injection e with e
        rw [← p1] at s4
        rw [← p2] at t4
        cases hlt2 : Tg.Hd.slt x.1 y.1 with
        | true =>
          rw [hlt2, if_pos rfl] at hatj
          have hc := hci hlt2
          have hcxy := fun H : LH => hcmp H x y
          rw [hc] at hcxy
          simp [f0, f1, f2, f3, f9, qj, qj', hwj, a1, b1, c1, d1, hcxy, s4, t4]
          refine ih2 j0 _ _ (by omega) ⟨?_, ?_, ?_, ?_, ?_, ?_, by omega, t5, by rw [hat, hatj], by omega, fun k hk => by rw [t7 k (by omega), s7 k (by omega)]; exact hold k hk⟩
          all_goals simp [f0, f1, f2, f3, f8, hwj]
        | false =>
          rw [hlt2, if_neg (by decide)] at hatj
          have hdone := hdone hatj
          have hc := hcn hlt2
          have hcxy := fun H : LH => hcmp H x y
          generalize Tg.Hd.cmpI x.1 y.1 = cv at *
          have qc := eq_false (show ¬ cv < 0 by omega)
          simp [f0, f1, f2, f3, f8, f9, qj, qj', hwj, a1, b1, c1, d1, hcxy, qc]
          refine ihx _ _ ⟨?_, ?_, ?_, ?_, ?_, by omega, by omega, hdone, hn2, hold⟩
          all_goals simp [f0, f1, f2, f3, f8, hw1]
    · have q := eq_false (show ¬ (i : Int) < (l.length : Int) by omega)
      have e : Tg.Hd.sortP (l.take i) ++ l.drop i = Tg.Hd.sortP l := by
        rw [List.take_of_length_le (by omega), List.drop_of_length_le (by omega), List.append_nil]
      rw [e] at ho
      simp [f2, f8, q, hlt]
      exact ⟨ho, hn2, hold⟩
  obtain ⟨⟨r, H'⟩, e, rfl, h1, h2, h3⟩ := key
  obtain ⟨H2, e2, g1, g2, g3⟩ := own_trunc (u := .tuple #[]) hv h1 h2 h3
  exact ⟨H2, by rw [e, ← e2], g1, g2, g3⟩
end
end Go.Proofs.YteckofomnhminaaGreatDoor
/-
  Layer 22 (header): headers sorted, by the code and by the reference.
-/
set_option linter.unusedSimpArgs false
set_option linter.unusedVariables false
set_option maxRecDepth 100000
namespace Tg.Hd
def lowH (h : Hdr) : Hdr := (Tg.Lo.lower h.1, h.2)
def lowL (l : List Hdr) : List Hdr := l.map lowH
end Tg.Hd
namespace Go.Proofs.YteckofomnhminaaGreatDoor
open Go.Lg Go.Tg
section
variable {H H' : LH} {v w : Value} {l m : List Tg.Hd.Hdr} {N : Nat} {x y : List UInt8} {a b : Tg.Hd.Hdr} {p : Nat} {P : Program} {t : TypeId}
/-- a row of our own, maybe with room -/
structure OutV (H : LH) (v : Value) (H' : LH) (l : List Tg.Hd.Hdr) : Prop where
  row : HOwn H.n H' v l
  le : H.n ≤ H'.n
  old : ∀ k, k < H.n → H'.get k = H.get k
theorem OutV.trunc (h : OutV H v H' l) : ∃ H2, Lg.trunc H (v, H') = (v, H2) ∧ OutV H v H2 l := by
  rcases trunc_or v H H' with e | ⟨e, hf, _⟩
  · exact ⟨H', e, h⟩
  · refine ⟨H, e, ⟨?_, Nat.le_refl _, fun _ _ => rfl⟩⟩
    refine ⟨h.row.1, ?_⟩
    rcases h.row.2 with h2 | ⟨k, c, rest, rfl, _⟩
    · exact .inl h2
    · simp [flatB, flat1B, atomB] at hf
theorem stable_ex (hv : HOwn N H v l) (hN : N ≤ H.n) (hl : l.length ≤ 19) :
    ∃ H2, LC Tryz.prog EJ 79 [v, .int .i64 l.length, .func (.func 49) #[] #[]] H = some (.tuple #[], H2) ∧ HOwn N H2 v (Tg.Hd.sortP l) ∧ H.n ≤ H2.n ∧ ∀ k, k < N → H2.get k = H.get k := by
  obtain ⟨H1, e1, h1, h2, h3⟩ := ins_ex hv hN (by omega)
  have key : ∃ r, LC Tryz.prog EJ 79 [v, .int .i64 l.length, .func (.func 49) #[] #[]] H = some (Lg.trunc H r) ∧ r.1 = .tuple #[] ∧ r.2 = H1 := by
    refine LC_runs (P := Tryz.prog) (E := EJ) (f := 79) rfl Tryz.func79 rfl (Nat.le_of_ble_eq_true rfl) (by decide) (by kernel_rfl) ?_
    have q1 := eq_false (show ¬ (20 : Int) ≤ (l.length : Int) by omega)
    have q2 := eq_false (show ¬ (20 : Int) < (l.length : Int) by omega)
    have q3 := eq_false (show ¬ 20 ≤ l.length by omega)
    have q4 := eq_false (show ¬ 20 < l.length by omega)
    simp
    refine loop_ind (fun (_ : Unit) fr' H' => fr' 0 = v ∧ fr' 1 = .int .i64 l.length ∧ fr' 2 = .func (.func 49) #[] #[] ∧ fr' 6 = .int .i64 20 ∧ fr' 7 = .int .i64 0 ∧ fr' 8 = .int .i64 20 ∧ H' = H) (fun _ => 0) () ⟨by simp, by simp, by simp, by simp, by simp, by simp, rfl⟩ ?_
    rintro _ fr' H' ⟨f0, f1, f2, f6, f7, f8, rfl⟩ _
    simp [f0, f1, f2, f6, f7, f8, q1, q3, e1]
    refine loop_ind (fun (_ : Unit) fr2 H2 => fr2 1 = .int .i64 l.length ∧ fr2 6 = .int .i64 20 ∧ H2 = H1) (fun _ => 0) () ⟨by simp [f1], by simp [f6], rfl⟩ ?_
    rintro _ fr2 H2 ⟨g1, g6, rfl⟩ _
    simp [g1, g6, q2, q4]
  obtain ⟨⟨r, H'⟩, e, rfl, rfl⟩ := key
  obtain ⟨H2, e2, g1, g2, g3⟩ := own_trunc (u := .tuple #[]) hv h1 h2 h3
  exact ⟨H2, by rw [e, ← e2], g1, g2, g3⟩
theorem sortf_ex (hv : HOwn N H v l) (hN : N ≤ H.n) (hl : l.length ≤ 19) :
    ∃ H2, LC Tryz.prog EJ 48 [v, .func (.func 49) #[] #[]] H = some (.tuple #[], H2) ∧ HOwn N H2 v (Tg.Hd.sortP l) ∧ H.n ≤ H2.n ∧ ∀ k, k < N → H2.get k = H.get k := by
  obtain ⟨H1, e1, h1, h2, h3⟩ := stable_ex hv hN hl
  have key : ∃ r, LC Tryz.prog EJ 48 [v, .func (.func 49) #[] #[]] H = some (Lg.trunc H r) ∧ r.1 = .tuple #[] ∧ r.2 = H1 := by
    refine LC_runs (P := Tryz.prog) (E := EJ) (f := 48) rfl Tryz.func48 rfl (Nat.le_of_ble_eq_true rfl) (by decide) (by kernel_rfl) ?_
    have hlen := fun H2 : LH => hv.row.len (H' := H2)
    simp [hlen, e1]
  obtain ⟨⟨r, H'⟩, e, rfl, rfl⟩ := key
  obtain ⟨H2, e2, g1, g2, g3⟩ := own_trunc (u := .tuple #[]) hv h1 h2 h3
  exact ⟨H2, by rw [e, ← e2], g1, g2, g3⟩
theorem mk_ex {n : Nat} (hn : n ≤ 1000) : ∃ zs : List Value, lmake Tryz.prog 22 (.int .i64 0) (.int .i64 n) H = some (sl H.n 0 n, H.new ⟨zs, 57, true⟩) ∧ zs.length = n * 2 := by
  have hs : lesz Tryz.prog 57 = some 2 := by kernel_rfl
  have hz : zr Tryz.prog 57 = some (.agg #[str [], str []]) := by kernel_rfl
  unfold lesz at hs
  unfold zr at hz
  unfold lmake
  simp only [Tryz.underlying22]
  cases hi : Tryz.prog.info? 57 with
  | none => simp [hi] at hs
  | some i =>
    simp only [hi, Option.bind_some] at hs hz
    rw [hz] at hs
    simp only at hs
    split at hs
    · rename_i hh
      simp only [Option.some.injEq] at hs
      simp only [hz]
      refine ⟨((Array.range ((n : Int).toNat * i.size)).map fun j => (Value.agg #[str [], str []]).cells[j % (Value.agg #[str [], str []]).cells.size]!).toList, ?_, ?_⟩
      · rw [if_pos (by
          simp only [Bool.and_eq_true, decide_eq_true_eq, beq_iff_eq]
          refine ⟨⟨⟨⟨⟨⟨rfl, by omega⟩, by omega⟩, by omega⟩, by rw [hs]; omega⟩, hh.2.2⟩, by rw [hs]; rfl⟩)]
        rfl
      · simp [hs]
    · cases hs
theorem csort_ex (hr : HRow H v l) (hl : l.length ≤ 19) (hs : ∀ h ∈ l, h.1.length ≤ 1048576) :
    ∃ v' H', LC Tryz.prog EJ 19 [v] H = some (v', H') ∧ OutV H v' H' (Tg.Hd.sortP (Tg.Hd.lowL l)) := by
  have key : ∃ r, LC Tryz.prog EJ 19 [v] H = some (Lg.trunc H r) ∧ OutV H r.1 r.2 (Tg.Hd.sortP (Tg.Hd.lowL l)) := by
    refine LC_runs (P := Tryz.prog) (E := EJ) (f := 19) rfl Tryz.func19 rfl (Nat.le_of_ble_eq_true rfl) (by decide) (by kernel_rfl) ?_
    obtain ⟨zs, hz1, hz2⟩ := mk_ex (H := H) (n := l.length) (by omega)
    have hlen := fun H2 : LH => hr.len (H' := H2)
    simp [hlen, hz1]
    refine loop_ind (fun (i : Nat) fr' H' => fr' 9 = v ∧ fr' 10 = .int .i64 l.length ∧ fr' 11 = .int .i64 i ∧ i ≤ l.length ∧ ∃ w, fr' 3 = w ∧ OutV H w H' (Tg.Hd.lowL (l.take i))) (fun i => l.length - i) 0 ⟨by simp, by simp, by simp, Nat.zero_le _, sl H.n 0 l.length, by simp, ⟨?_, by simp, fun k hk => get_new_ne (by omega)⟩⟩ ?_
    · exact ⟨by simp [Tg.Hd.cells, Tg.Hd.lowL], .inr ⟨H.n, l.length, zs, by simp [Tg.Hd.lowL], Nat.le_refl _, by simp, by simp [Tg.Hd.cells, Tg.Hd.lowL], by simp [Tg.Hd.lowL], by simp [Tg.Hd.cells, Tg.Hd.lowL, hz2]⟩⟩
    rintro i fr' H' ⟨f9, f10, f11, hi, w, f3, ho⟩ ih
    have hr' := hr.keep ho.le ho.old
    by_cases hlt : i < l.length
    · have q := eq_true (show (i : Int) < (l.length : Int) by omega)
      have hw1 : IntKind.i64.wrap ((i : Int) + 1) = ((i + 1 : Nat) : Int) := by rw [wrapI (by omega) (by omega)]; omega
      obtain ⟨k, o, g1, g2, g3⟩ := hr'.at hlt
      obtain ⟨g4, _, _⟩ := g3 H' rfl
      have hm := hs l[i] (List.getElem_mem hlt)
      have hlw := fun H : LH => Lower_cl (H := H) (s := l[i].1) hm
      have hnew : Tg.Hd.lowL (l.take (i + 1)) = Tg.Hd.lowL (l.take i) ++ [(Tg.Lo.lower l[i].1, l[i].2)] := by
        rw [List.take_succ_eq_append_getElem hlt]
        unfold Tg.Hd.lowL
        rw [List.map_append]; rfl
      have hll : (Tg.Hd.lowL (l.take i)).length ≤ 19 := by unfold Tg.Hd.lowL; rw [List.length_map, List.length_take]; omega
      have ihx := fun fr2 H2 => ih (i + 1) fr2 H2 (by omega)
      clear ih
      generalize Tg.Hd.lowL (l.take (i + 1)) = c' at *
      generalize Tg.Hd.lowL (l.take i) = c at *
      generalize l[i] = x at *
      have ho1 : HOwn H.n (H'.new (hb x)) w c := ho.row.keep (Nat.le_succ _) (fun a _ _ ha => get_new_ne (by omega))
      obtain ⟨v', H2, a1, a2, a3, a4, a5, a6⟩ := h_app ho1 (by rw [n_new]; have := ho.le; omega) (by omega) (Tg.Lo.lower x.1) x.2
      rw [← hnew] at a2
      generalize Tg.Lo.lower x.1 = lx at *
      rw [n_new] at a3
      simp [f3, f9, f10, f11, q, hlt, g1, g4, hlw, bs1h, a1]
      refine ihx _ _ ⟨?_, ?_, ?_, by omega, v', ?_, ⟨a2, by have := ho.le; omega, fun k hk => by rw [a4 k (by rw [n_new]; have := ho.le; omega) (ho1.off_lt hk), get_new_ne (by have := ho.le; omega)]; exact ho.old k hk⟩⟩
      all_goals simp [f9, f10, hw1]
    · have q := eq_false (show ¬ (i : Int) < (l.length : Int) by omega)
      rw [List.take_of_length_le (by omega)] at ho
      have hll : (Tg.Hd.lowL l).length ≤ 19 := by unfold Tg.Hd.lowL; rw [List.length_map]; omega
      obtain ⟨H2, e1, h1, h2, h3⟩ := sortf_ex ho.row ho.le hll
      simp [f3, f10, f11, q, e1]
      exact ⟨h1, by have := ho.le; omega, fun k hk => by rw [h3 k hk]; exact ho.old k hk⟩
  obtain ⟨r, e, ho⟩ := key
  obtain ⟨H2, e2, ho2⟩ := ho.trunc
  exact ⟨r.1, H2, by rw [e, ← e2], ho2⟩
theorem HOwn.dropS (h : HOwn N H v l) {i : Nat} (hi : i ≤ l.length) : ∃ v', lpart Tryz.prog 22 v (some (.int .i64 i)) none = some v' ∧ ∀ H' : LH, (∀ k, N ≤ k → k < H.n → H'.get k = H.get k) → lesrc Tryz.prog 22 v' H' = some ((l.drop i).length, Tg.Hd.cells (l.drop i)) := by
  have hl := Tg.Hd.cells_len l
  rcases h.2 with ⟨rfl, h0⟩ | ⟨k, c, rest, rfl, g1, g2, g3, g4, g5⟩
  · have : l = [] := List.eq_nil_of_length_eq_zero h0
    subst this
    have : i = 0 := by simpa using hi
    subst this
    have hu := Tryz.underlying22
    have hs : sz Tryz.prog 57 = some 2 := by kernel_rfl
    exact ⟨.slice none 0 0, by simp [lpart, lbd], fun H' _ => by simp [Tg.Hd.cells]⟩
  · refine ⟨_, lpart_row_sn (s := 2) Tryz.underlying22 (by kernel_rfl) (by omega) (by omega), fun H' hk => ?_⟩
    rw [lesrc_row (s := 2) Tryz.underlying22 (by kernel_rfl) (by rw [hk k g1 g2]; exact g3) (by rw [List.length_append, hl]; simp only [Int.toNat_natCast]; omega)]
    simp only [Int.toNat_natCast, List.length_drop, Nat.zero_add]
    rw [List.drop_append_of_le_length (by rw [hl]; omega), Tg.Hd.cells_drop, List.take_left' (by rw [Tg.Hd.cells_len, List.length_drop])]
end
end Go.Proofs.YteckofomnhminaaGreatDoor
/-
  Layer 22 (header): headers sorted by the reference.
-/
set_option linter.unusedSimpArgs false
set_option linter.unusedVariables false
set_option maxRecDepth 100000
namespace Go.Proofs.YteckofomnhminaaGreatDoor
open Go.Lg Go.Tg
section
variable {H H' : LH} {v w : Value} {l m : List Tg.Hd.Hdr} {N : Nat} {x y : List UInt8} {a b : Tg.Hd.Hdr} {p : Nat} {P : Program} {t : TypeId}
theorem rsort_ex (hr : HRow H v l) (hl : l.length ≤ 1000) (hs : ∀ h ∈ l, h.1.length ≤ 1000000) :
    ∃ v' H', LC Tryz.prog EJ 20 [v] H = some (v', H') ∧ OutV H v' H' (Tg.Hd.sortP (Tg.Hd.lowL l)) := by
  have key : ∃ r, LC Tryz.prog EJ 20 [v] H = some (Lg.trunc H r) ∧ OutV H r.1 r.2 (Tg.Hd.sortP (Tg.Hd.lowL l)) := by
    refine LC_runs (P := Tryz.prog) (E := EJ) (f := 20) rfl Tryz.func20 rfl (Nat.le_of_ble_eq_true rfl) (by decide) (by kernel_rfl) ?_
    simp [bs0h]
    refine loop_ind (fun (i : Nat) fr' H' => fr' 0 = v ∧ fr' 4 = .int .i64 i ∧ i ≤ l.length ∧ ∃ w, fr' 3 = w ∧ OutV H w H' (Tg.Hd.sortP (Tg.Hd.lowL (l.take i)))) (fun i => l.length - i) 0 ⟨by simp, by simp, Nat.zero_le _, sl H.n 0 0, by simp, ⟨own0 (x := hb ([], [])), by simp, fun k hk => get_new_ne (by omega)⟩⟩ ?_
    rintro i fr' H' ⟨f0, f4, hi, w, f3, ho⟩ ih
    have hr' := hr.keep ho.le ho.old
    have hle := ho.le
    by_cases hlt : i < l.length
    · have q := eq_true (show (i : Int) < (l.length : Int) by omega)
      have hw1 : IntKind.i64.wrap ((i : Int) + 1) = ((i + 1 : Nat) : Int) := by rw [wrapI (by omega) (by omega)]; omega
      obtain ⟨k, o, g1, g2, g3⟩ := hr'.at hlt
      obtain ⟨_, g4, g5⟩ := g3 H' rfl
      have hm := hs l[i] (List.getElem_mem hlt)
      have hlw := fun H : LH => hlower_cl (H := H) (s := l[i].1) hm
      have hll : (Tg.Hd.lowL l).length = l.length := by unfold Tg.Hd.lowL; rw [List.length_map]
      have htk : ∀ j, Tg.Hd.lowL (l.take j) = (Tg.Hd.lowL l).take j := fun j => by unfold Tg.Hd.lowL; rw [List.map_take]
      have hlx : (Tg.Hd.lowL l)[i]'(by omega) = (Tg.Lo.lower l[i].1, l[i].2) := by unfold Tg.Hd.lowL; rw [List.getElem_map]; rfl
      have hst := Tg.Hd.sortP_take (l := Tg.Hd.lowL l) (i := i) (by omega)
      rw [hlx, ← htk, ← htk] at hst
      have hpl : (Tg.Hd.sortP (Tg.Hd.lowL (l.take i))).length = i := by rw [Tg.Hd.sortP_len, htk, List.length_take]; omega
      have ihx := fun fr2 H2 => ih (i + 1) fr2 H2 (by omega)
      clear ih
      unfold Tg.Hd.insP at hst
      rw [hpl] at hst
      generalize Tg.Hd.sortP (Tg.Hd.lowL (l.take (i + 1))) = pre' at *
      generalize Tg.Hd.sortP (Tg.Hd.lowL (l.take i)) = pre at *
      generalize Tg.Lo.lower l[i].1 = lx at *
      generalize l[i] = z at *
      have hlen := fun H2 : LH => ho.row.row.len (H' := H2)
      rw [hpl] at hlen
      simp [f0, f3, f4, q, hlt, g1, g4, g5, hlw, hr.len, hlen]
      refine loop_ind (fun (k : Nat) fr2 H2 => fr2 0 = v ∧ fr2 3 = w ∧ fr2 4 = .int .i64 i ∧ fr2 5 = ptr H'.n 0 ∧ fr2 6 = .int .i64 k ∧ k ≤ i ∧ Tg.Hd.atI lx pre i = Tg.Hd.atI lx pre k ∧ H2 = H'.new (hb (lx, z.2))) (fun k => k) i ⟨by simp [f0], by simp [f3], by simp [f4], by simp, by simp, Nat.le_refl _, rfl, rfl⟩ ?_
      clear f0 f3 f4
      rintro k fr2 H2 ⟨f0, f3, f4, f5, f6, hk, hat, rfl⟩ ih2
      have hown : HOwn H.n (H'.new (hb (lx, z.2))) w pre := ho.row.keep (Nat.le_succ _) (fun a _ _ ha => get_new_ne (by omega))
      -- the end of the inner loop
      obtain ⟨vi, p1, p2⟩ := hown.takeP (i := k) (by omega)
      obtain ⟨vd, p3, p4⟩ := hown.dropS (i := k) (by omega)
      have hsrc := p2.src (H' := (H'.new (hb (lx, z.2))).new ⟨[], 57, true⟩) (fun a _ ha => get_new_ne (by omega))
      have etk : (pre.take k).length = k := by rw [List.length_take]; omega
      have hn1 : (H'.new (hb (lx, z.2))).n = H'.n + 1 := n_new
      have offA : ∀ a, a < H'.n + 1 → offRow (sl (H'.new (hb (lx, z.2))).n 0 0) a := fun a ha n c e => by injection e with e; injection e with e; injection e with e; omega
      obtain ⟨va, Ha, b1, b2, b3, b4, b5, b6⟩ := h_cat (m := pre.take k) (own0 (H := H'.new (hb (lx, z.2))) (x := hb ([], []))) full_new (Nat.le_succ _) (by rw [etk]; simp; omega)
      have b3' := b3
      rw [n_new, n_new] at b3'
      have hga : ∀ a, a < H'.n + 1 → Ha.get a = (H'.new (hb (lx, z.2))).get a := fun a ha => by rw [b4 a (by rw [n_new]; omega) (offA a ha), get_new_ne (by omega)]
      have hb0 : Ha.get H'.n = some (hb (lx, z.2)) := by rw [hga _ (by omega), get_new]
      obtain ⟨vb, Hb, c1, c2, c3, c4, c5, c6⟩ := h_app b2 (by omega) (by rw [List.nil_append, etk]; omega) lx z.2
      have hgb : ∀ a, a < H'.n + 1 → Hb.get a = (H'.new (hb (lx, z.2))).get a := fun a ha => by rw [c4 a (by omega) (b6 a (by rw [n_new]; omega) (offA a ha)), hga a ha]
      have hsrc2 := p4 Hb (fun a _ ha => hgb a (by omega))
      obtain ⟨vf, Hf, k1, k2, k3, k4, k5, k6⟩ := h_cat (m := pre.drop k) c2 (c5 b5) (by rw [hn1]; omega) (by simp; omega)
      have hgf : ∀ a, a < H'.n → Hf.get a = H'.get a := fun a ha => by
        rw [k4 a (by omega) (c6 a (by omega) (b6 a (by rw [n_new]; omega) (offA a (by omega)))), hgb a (by omega), get_new_ne (by omega)]
      rw [etk] at hsrc b1
      rw [List.length_drop] at k1
      rw [hn1] at b1
      have hdone : Tg.Hd.atI lx pre k = k → OutV H vf Hf pre' := fun e => by
        refine ⟨?_, by omega, fun a ha => by rw [hgf a (by omega)]; exact ho.old a ha⟩
        rw [hst, hat, e]
        have e2 : [] ++ pre.take k ++ [(lx, z.2)] ++ pre.drop k = pre.take k ++ (lx, z.2) :: pre.drop k := by simp
        rw [e2] at k2
        exact RowN.weak (P := Tryz.prog) k2 (by rw [hn1]; omega)
      by_cases hz : k = 0
      · have hdone := hdone (by rw [hz]; rfl)
        have q0 := eq_false (show ¬ (0 : Int) < (k : Int) by omega)
        have q0' := eq_false (show ¬ 0 < k by omega)
        have hk0 : (k : Int) = 0 := by omega
        simp [f0, f3, f4, f5, f6, q0, q0', bs0h, bs1h, p1, hsrc, b1, hb0, c1, p3, hsrc2, k1]
        refine ihx _ _ ⟨?_, ?_, by omega, vf, ?_, hdone⟩
        all_goals simp [f0, f4, hw1]
      · obtain ⟨k0, hk0⟩ : ∃ k0, k = k0 + 1 := ⟨k - 1, by omega⟩
        have qj := eq_true (show (0 : Int) < (k : Int) by omega)
        have qj' := eq_true (show 0 < k by omega)
        have hwj : IntKind.i64.wrap ((k : Int) - 1) = (k0 : Int) := by rw [wrapI (by omega) (by omega)]; omega
        obtain ⟨kk, oo, a1, a2, a3⟩ := hown.row.at (i := k0) (by omega)
        obtain ⟨_, d1, _⟩ := a3 _ rfl
        have hgd : pre.getD k0 ([], []) = pre[k0]'(by omega) := by rw [List.getD_eq_getElem?_getD, List.getElem?_eq_getElem (by omega)]; rfl
        have hatj : Tg.Hd.atI lx pre k = if Tg.Hd.slt lx (pre.getD k0 ([], [])).1 = true then Tg.Hd.atI lx pre k0 else k := by
          rw [hk0]; rfl
        rw [hgd] at hatj
        generalize pre[k0]'(by omega) = yy at *
        have hgt := lbin_sgt (P := Tryz.prog) (t := 9) (x := yy.1) (y := lx)
        cases hlt2 : Tg.Hd.slt lx yy.1 with
        | true =>
          rw [hlt2] at hgt
          rw [hlt2, if_pos rfl] at hatj
          simp [f0, f3, f4, f5, f6, qj, qj', hwj, a1, d1, hgt]
          refine ih2 k0 _ _ (by omega) ⟨?_, ?_, ?_, ?_, ?_, by omega, by rw [hat, hatj], rfl⟩
          all_goals simp [f0, f3, f4, f5, hwj]
        | false =>
          rw [hlt2] at hgt
          rw [hlt2, if_neg (by decide)] at hatj
          have hdone := hdone hatj
          simp [f0, f3, f4, f5, f6, qj, qj', hwj, a1, d1, hgt, bs0h, bs1h, p1, hsrc, b1, hb0, c1, p3, hsrc2, k1]
          refine ihx _ _ ⟨?_, ?_, by omega, vf, ?_, hdone⟩
          all_goals simp [f0, f4, hw1]
    · have q := eq_false (show ¬ (i : Int) < (l.length : Int) by omega)
      rw [List.take_of_length_le (by omega)] at ho
      simp [f0, f3, f4, q, hr.len]
      exact ho
  obtain ⟨r, e, ho⟩ := key
  obtain ⟨H2, e2, ho2⟩ := ho.trunc
  exact ⟨r.1, H2, by rw [e, ← e2], ho2⟩
end
end Go.Proofs.YteckofomnhminaaGreatDoor
/-
  Layer 22 (header): the headers without those of a name, by the code: a run with a clear.
-/
set_option linter.unusedSimpArgs false
set_option linter.unusedVariables false
set_option maxRecDepth 100000
namespace Go.Proofs.YteckofomnhminaaGreatDoor
open Go.Lg Go.Tg
section
variable {H H' : LH} {v w : Value} {l m : List Tg.Hd.Hdr} {N : Nat} {s name value : List UInt8} {h : Tg.Hd.Hdr} {p : Nat}
theorem del_ex (hv : HOwn N H v l) (hl : l.length ≤ 40000) (hs : ∀ h ∈ l, h.1.length ≤ 1048576) (hg : H.get p = some ⟨[str name], 9, true⟩) (hp : offRow v p) (hpn : p < H.n) (hN : N ≤ H.n) :
    ∃ v' H', R Tryz.prog EP (.call 45 [v, .func (.func 72) #[] #[ptr p 0]] H (.ret v') H') ∧ HOwn N H' v' (Tg.Hd.cutP name l) ∧ H.n ≤ H'.n ∧ ∀ k, k < N → H'.get k = H.get k := by
  have key : ∃ r H', R Tryz.prog EP (.call 45 [v, .func (.func 72) #[] #[ptr p 0]] H r H') ∧ ∃ v', r = .ret v' ∧ HOwn N H' v' (Tg.Hd.cutP name l) ∧ H.n ≤ H'.n ∧ ∀ k, k < N → H'.get k = H.get k := by
    refine pcall Tryz.func45 rfl (Nat.le_of_ble_eq_true rfl) (by decide) (by kernel_rfl) (Q := fun r H' => ∃ v', r = .ret v' ∧ HOwn N H' v' (Tg.Hd.cutP name l) ∧ H.n ≤ H'.n ∧ ∀ k, k < N → H'.get k = H.get k) ?_
    have hi := findex_cl (H := H) (p := p) hv.row (by omega) hs hg (by omega)
    rcases Tg.Hd.idxP_at (name := name) l 0 with ⟨e1, e2⟩ | ⟨j0, e1, e2, e3⟩
    · rw [e1] at hi
      simp [hi, EP_ps]
      rw [e2]
      exact hv
    · rw [Nat.zero_add] at e1
      rw [e1] at hi
      have q := eq_false (show ¬ (j0 : Int) = -1 by omega)
      have hw0 : IntKind.i64.wrap ((j0 : Int) + 1) = ((j0 + 1 : Nat) : Int) := by rw [wrapI (by omega) (by omega)]; omega
      simp [hi, q, EP_ps]
      refine ploop_ind (fun (j : Nat) fr' H' p' => fr' 0 = v ∧ fr' 1 = .func (.func 72) #[] #[ptr p 0] ∧ fr' 6 = .int .i64 j ∧ j ≤ l.length ∧ H.n ≤ H'.n ∧ (∀ k, k < N → H'.get k = H.get k) ∧ p' = none ∧ H'.get p = some ⟨[str name], 9, true⟩ ∧ ∃ (i : Nat) (m : List Tg.Hd.Hdr), fr' 5 = .int .i64 i ∧ HOwn N H' v m ∧ m.length = l.length ∧ i < j ∧ m.take i = Tg.Hd.cutP name (l.take j) ∧ m.drop j = l.drop j) (fun j => l.length - j) (j0 + 1) ⟨by simp, by simp, by simp [hw0], by omega, Nat.le_refl _, fun _ _ => rfl, rfl, hg, j0, l, by simp, hv, rfl, by omega, e3.symm, rfl⟩ ?_
      rintro j fr' H' p' ⟨f0, f1, f6, hj, hn2, hold, rfl, hgp, i, m, f5, ho, hml, hij, hmt, hmd⟩ ih
      have hlen := fun H2 : LH => ho.row.len (H' := H2)
      rw [hml] at hlen
      by_cases hlt : j < l.length
      · have qj := eq_true (show (j : Int) < (l.length : Int) by omega)
        have hw1 : IntKind.i64.wrap ((j : Int) + 1) = ((j + 1 : Nat) : Int) := by rw [wrapI (by omega) (by omega)]; omega
        have hw2 : IntKind.i64.wrap ((i : Int) + 1) = ((i + 1 : Nat) : Int) := by rw [wrapI (by omega) (by omega)]; omega
        have hltm : j < m.length := by omega
        obtain ⟨k, o, g1, g2, g3⟩ := ho.row.at hltm
        obtain ⟨g4, _, _⟩ := g3 H' rfl
        have emj : m[j] = l[j] := by
          have h := congrArg (fun z => z[0]?) hmd
          simp only [List.getElem?_drop, Nat.add_zero] at h
          rw [List.getElem?_eq_getElem hltm, List.getElem?_eq_getElem hlt] at h
          injection h
        rw [emj] at g4
        have hm := hs l[j] (List.getElem_mem hlt)
        have hnew := Tg.Hd.cutP_take (name := name) hlt
        have hdr : l.drop j = l[j] :: l.drop (j + 1) := List.drop_eq_getElem_cons hlt
        have hmd1 : m.drop (j + 1) = l.drop (j + 1) := by
          rw [← List.drop_drop, hmd, List.drop_drop]
        generalize l[j] = x at *
        have hnm := named1_cl (H := H'.new (hb x)) (p := p) (name := name) (h := x) (by rw [get_new_ne (by omega)]; exact hgp) (by rw [n_new]; omega) hm
        have ho1 : HOwn N (H'.new (hb x)) v m := ho.keep (Nat.le_succ _) (fun a _ _ ha => get_new_ne (by omega))
        cases hx : Tg.Hd.isP name x with
        | true =>
          rw [hx] at hnm hnew
          rw [if_pos rfl, List.append_nil] at hnew
          simp [f0, f1, f6, hlen, qj, hlt, g1, g4, hnm, EP_ps]
          refine ih (j + 1) _ _ _ (by omega) ⟨?_, ?_, ?_, by omega, by rw [n_new]; omega, fun a ha => by rw [get_new_ne (by omega)]; exact hold a ha, rfl, by rw [get_new_ne (by omega)]; exact hgp, i, m, ?_, ho1, hml, by omega, by rw [hmt, hnew], hmd1⟩
          all_goals simp [f0, f1, f5, hw1]
        | false =>
          rw [hx] at hnm hnew
          rw [if_neg (by decide)] at hnew
          obtain ⟨k2, s1, s2, s3, H2, s4, s5, s6, s7⟩ := h_store ho1 (i := i) (by omega) x
          simp [f0, f1, f5, f6, hlen, qj, hlt, g1, g4, hnm, s1, s4, EP_ps]
          refine ih (j + 1) _ _ _ (by omega) ⟨?_, ?_, ?_, by omega, by rw [s6, n_new]; omega, fun a ha => by rw [s7 a (by omega), get_new_ne (by omega)]; exact hold a ha, rfl, by rw [s7 p (fun e => s3 (e ▸ hp)), get_new_ne (by omega)]; exact hgp, i + 1, m.set i x, ?_, s5, by rw [List.length_set]; exact hml, by omega, ?_, ?_⟩
          · simp [f0]
          · simp [f1]
          · simp [hw1]
          · simp [hw2]
          · rw [hnew, ← hmt, List.take_succ_eq_append_getElem (by rw [List.length_set]; omega)]
            rw [List.take_set_of_le (Nat.le_refl _)]
            simp
          · rw [List.drop_set_of_lt (by omega)]
            exact hmd1
      · have qj := eq_false (show ¬ (j : Int) < (l.length : Int) by omega)
        have hjl : j = l.length := by omega
        rw [List.take_of_length_le (show l.length ≤ j by omega)] at hmt
        obtain ⟨vd, H2, v', c1, c2, c3, c4, c5, c6⟩ := h_clear ho (i := i) (by omega)
        rw [hmt] at c4
        simp [f0, f5, f6, hlen, qj, c1, EP_ps]
        refine hand_clear (H1 := H2) rfl rfl (by simpa using c2) rfl ?_
        simp [f0, f5, c3, EP_ps]
        exact ⟨c4, by omega, fun a ha => by rw [c6 a (ho.off_lt ha)]; exact hold a ha⟩
  obtain ⟨r, H', h1, v', rfl, h2⟩ := key
  exact ⟨v', H', h1, h2⟩
theorem cut_ex (hv : HOwn N H v l) (hl : l.length ≤ 40000) (hs : ∀ h ∈ l, h.1.length ≤ 1048576) :
    ∃ v' H', R Tryz.prog EP (.call 17 [str name, v] H (.ret v') H') ∧ HOwn H.n H' v' (Tg.Hd.cutP name l) ∧ H.n ≤ H'.n ∧ ∀ k, k < H.n → H'.get k = H.get k := by
  have key : ∃ r H', R Tryz.prog EP (.call 17 [str name, v] H r H') ∧ ∃ v', r = .ret v' ∧ HOwn H.n H' v' (Tg.Hd.cutP name l) ∧ H.n ≤ H'.n ∧ ∀ k, k < H.n → H'.get k = H.get k := by
    refine pcall Tryz.func17 rfl (Nat.le_of_ble_eq_true rfl) (by decide) (by kernel_rfl) (Q := fun r H' => ∃ v', r = .ret v' ∧ HOwn H.n H' v' (Tg.Hd.cutP name l) ∧ H.n ≤ H'.n ∧ ∀ k, k < H.n → H'.get k = H.get k) ?_
    obtain ⟨vc, Hc, e1, o1⟩ := clone_ex hv hl
    have hown : HOwn H.n (Hc.new ⟨[str name], 9, true⟩) vc l := o1.row.keep (Nat.le_succ _) (fun a _ _ ha => get_new_ne (by omega))
    have hle := o1.le
    obtain ⟨vd, Hd, hR, d1, d2, d3⟩ := del_ex (name := name) (p := Hc.n) hown hl hs get_new (o1.row.off_ge (Nat.le_refl _)) (Nat.lt_succ_self _) (by rw [n_new]; omega)
    rw [n_new] at d2
    simp [e1, named_l, EP_ps]
    refine hand_call_ret (g := 45) (first := #[]) (caps := #[]) (H1 := Hd) rfl rfl rfl rfl (by simpa using hR) rfl ?_
    simp
    exact ⟨d1, by omega, fun a ha => by rw [d3 a ha, get_new_ne (by omega)]; exact o1.old a ha⟩
  obtain ⟨r, H', h1, v', rfl, h2⟩ := key
  exact ⟨v', H', h1, h2⟩
end
end Go.Proofs.YteckofomnhminaaGreatDoor
/-
  Layer 22 (header): the law HeaderGets, as the run answers it.
-/
set_option linter.unusedSimpArgs false
set_option linter.unusedVariables false
set_option maxRecDepth 100000
namespace Tg.Hd
theorem getP_mem {name : List UInt8} {l : List Hdr} {m : Nat} (h : ∀ a ∈ l, a.2.length ≤ m) : ∀ x ∈ getP name l, x.length ≤ m := by
  intro x hx
  unfold getP at hx
  obtain ⟨a, ha, rfl⟩ := List.mem_map.mp hx
  exact h a (List.mem_filter.mp ha).1
end Tg.Hd
namespace Go.Proofs.YteckofomnhminaaGreatDoor
open Go.Lg Go.Tg
section
variable {H H' : LH} {v w : Value} {l m : List Tg.Hd.Hdr} {N : Nat} {s name : List UInt8}
theorem Good_hl (hr : HRow H v l) (hl : l.length ≤ 1000000) (hs : ∀ h ∈ l, h.1.length ≤ 1048576 ∧ h.2.length ≤ 1048576) : LC Tryz.prog EJ 12 [v] H = some (.bool (Tg.Hd.good l), H) := by
  have hg := good_hl hr hl hs
  refine LC_pure rfl Tryz.func12 rfl (Nat.le_of_ble_eq_true rfl) (by decide) (by kernel_rfl) (by simp) ?_
  simp [hg]
theorem Clean_cl (hs : s.length ≤ 9223372036854775806) : LC Tryz.prog EJ 21 [str s] H = some (str (Tg.Hd.trim s), H) := by
  have ht := fun H : LH => Trim_cl (H := H) hs
  refine LC_pure rfl Tryz.func21 rfl (Nat.le_of_ble_eq_true rfl) (by decide) (by kernel_rfl) (by simp) ?_
  simp [ht]
theorem gets_r (hr : HRow H v l) (hl : l.length ≤ 9223372036854775807) : ∃ H', R Tryz.prog EP (.call 3 [str name, v] H (.ret (.bool true)) H') := by
  have key : ∃ r H', R Tryz.prog EP (.call 3 [str name, v] H r H') ∧ r = .ret (.bool true) := by
    refine pcall Tryz.func3 rfl (Nat.le_of_ble_eq_true rfl) (by decide) (by kernel_rfl) (Q := fun r _ => r = .ret (.bool true)) ?_
    have hc1 := fun H : LH => hcut_cl (H := H) (s := name) (k := 30) (by decide)
    simp only [show ((30 : Int).toNat) = 30 from rfl] at hc1
    have hl1 : (name.take 30).length ≤ 30 := by rw [List.length_take]; omega
    generalize name.take 30 = nm at *
    obtain ⟨v1, H1, e1, o1⟩ := few_hl (H := H) hr hl (c := 12) (by decide)
    have hm := Tg.Hd.few_mem (l := l) (n := 12)
    have hn := Tg.Hd.few_len l 12
    have hff := Tg.Hd.few_few l 12
    generalize Tg.Hd.few l 12 = f at *
    have m1 : ∀ h ∈ f, h.1.length ≤ 1048576 := fun h hh => by have := hm h hh; omega
    have m2 : ∀ h ∈ f, h.1.length ≤ 1048576 ∧ h.2.length ≤ 1048576 := fun h hh => by have := hm h hh; omega
    have m3 : ∀ h ∈ f, h.1.length ≤ 1000000 := fun h hh => by have := hm h hh; omega
    have r1 : HRow H1 v1 f := o1.row.row
    obtain ⟨g1, H2, e2, o2⟩ := rget_ex (H := H1) (name := nm) r1 (by omega) m3 (by omega)
    have hxl := Tg.Hd.getP_len nm f
    have hxm := Tg.Hd.getP_mem (name := nm) (l := f) (m := 100) (fun h hh => by have := hm h hh; omega)
    have hany := Tg.Hd.getP_any nm f
    have hjl := Tg.Hd.joinC_len hxm _ (Nat.le_refl _)
    rw [List.take_length] at hjl
    have hjm := Nat.mul_le_mul_right (100 + 2) hxl
    have hjm2 := Nat.mul_le_mul_right (100 + 2) hn
    have r2 : HRow H2 v1 f := r1.keep o2.le o2.old
    obtain ⟨v2, H3, e3, o3⟩ := few_hl (H := H2) r2 (by omega) (c := 12) (by decide)
    rw [hff] at o3
    have r3 : HRow H3 v1 f := r2.keep o3.le o3.old
    have g3 : SOwn H1.n H3 g1 (Tg.Hd.getP nm f) := o2.row.keep o3.le (fun k _ _ hk => o3.old k hk)
    have c3 := comb_cl (H := H3) (name := nm) o3.row.row (by omega) m1 (by omega)
    have j3 := rjoin_cl (H := H3) g3 (by omega) (fun x hx => by have := hxm x hx; omega)
    obtain ⟨v3, H4, e4, o4⟩ := few_hl (H := H3) r3 (by omega) (c := 12) (by decide)
    rw [hff] at o4
    have r4 : HRow H4 v1 f := r3.keep o4.le o4.old
    have g4 : SOwn H1.n H4 g1 (Tg.Hd.getP nm f) := g3.keep o4.le (fun k _ _ hk => o4.old k hk)
    have a4 := Has_cl (H := H4) (name := nm) o4.row.row (by omega) m1
    rw [hany] at a4
    obtain ⟨v4, H5, e5, o5⟩ := few_hl (H := H4) r4 (by omega) (c := 12) (by decide)
    rw [hff] at o5
    have r5 : HRow H5 v1 f := r4.keep o5.le o5.old
    have g5 : SOwn H1.n H5 g1 (Tg.Hd.getP nm f) := g4.keep o5.le (fun k _ _ hk => o5.old k hk)
    have b5 := Good_hl (H := H5) o5.row.row (by omega) m2
    have b5' := hgood_cl (H := H5) r5 (by omega) m2
    obtain ⟨v5, H6, e6, o6⟩ := few_hl (H := H5) r5 (by omega) (c := 12) (by decide)
    rw [hff] at o6
    have r6 : HRow H6 v1 f := r5.keep o6.le o6.old
    have g6 : SOwn H1.n H6 g1 (Tg.Hd.getP nm f) := g5.keep o6.le (fun k _ _ hk => o6.old k hk)
    obtain ⟨g2, H7, e7, o7⟩ := Get_ex (H := H6) (name := nm) o6.row.row (by omega) m1
    have r7 : HRow H7 v1 f := r6.keep o7.le o7.old
    have g7 : SOwn H1.n H7 g1 (Tg.Hd.getP nm f) := g6.keep o7.le (fun k _ _ hk => o7.old k hk)
    have s7 := ssame_cl (H := H7) o7.row g7 (by omega)
    obtain ⟨v6, H8, e8, o8⟩ := few_hl (H := H7) r7 (by omega) (c := 12) (by decide)
    rw [hff] at o8
    have r8 : HRow H8 v1 f := r7.keep o8.le o8.old
    obtain ⟨vc, H9, hR, d1, d2, d3⟩ := cut_ex (H := H8) (name := nm) o8.row (by omega) m1
    have r9 : HRow H9 v1 f := r8.keep d2 d3
    obtain ⟨vr, H10, e10, o10⟩ := hcut_ex (H := H9) (name := nm) r9 (by omega) m3 (by omega)
    have r10 : HRow H10 v1 f := r9.keep o10.le o10.old
    have hcl : (Tg.Hd.cutP nm f).length ≤ 12 := Nat.le_trans (List.length_filter_le _ _) hn
    have s10 := hsame_cl (H := H10) (d1.row.keep o10.le o10.old) o10.row.row (by omega)
    rw [decide_eq_true rfl] at s10
    obtain ⟨v7, H11, e11, o11⟩ := few_hl (H := H10) r10 (by omega) (c := 12) (by decide)
    rw [hff] at o11
    have r11 : HRow H11 v1 f := r10.keep o11.le o11.old
    obtain ⟨vs, H12, e12, o12⟩ := csort_ex (H := H11) o11.row.row (by omega) m1
    have r12 : HRow H12 v1 f := r11.keep o12.le o12.old
    obtain ⟨vt, H13, e13, o13⟩ := rsort_ex (H := H12) r12 (by omega) m3
    have hsl : (Tg.Hd.sortP (Tg.Hd.lowL f)).length ≤ 12 := by
      rw [Tg.Hd.sortP_len]; unfold Tg.Hd.lowL; rw [List.length_map]; exact hn
    have s13 := hsame_cl (H := H13) (o12.row.row.keep o13.le o13.old) o13.row.row (by omega)
    rw [decide_eq_true rfl] at s13
    have t1 := fun H : LH => Clean_cl (H := H) (s := nm) (by omega)
    have t2 := fun H : LH => htrim_cl (H := H) (s := nm) (by omega)
    have hL := lives_r (H := H13)
    have e1 : LC Tryz.prog EJ 7 [v, .int .i64 12] H = some (v1, H1) := e1
    have e3 : LC Tryz.prog EJ 7 [v1, .int .i64 12] H2 = some (v2, H3) := e3
    have e4 : LC Tryz.prog EJ 7 [v1, .int .i64 12] H3 = some (v3, H4) := e4
    have e5 : LC Tryz.prog EJ 7 [v1, .int .i64 12] H4 = some (v4, H5) := e5
    have e6 : LC Tryz.prog EJ 7 [v1, .int .i64 12] H5 = some (v5, H6) := e6
    have e8 : LC Tryz.prog EJ 7 [v1, .int .i64 12] H7 = some (v6, H8) := e8
    have e11 : LC Tryz.prog EJ 7 [v1, .int .i64 12] H10 = some (v7, H11) := e11
    have l3 := fun H' : LH => g3.len (H' := H')
    generalize Tg.Hd.getP nm f = xs at *
    generalize Tg.Hd.joinC xs = jn at *
    generalize Tg.Hd.trim nm = tn at *
    generalize Tg.Hd.good f = gd at *
    by_cases hx : xs = []
    · have q0 := eq_false (show ¬ (0 : Int) < (xs.length : Int) by rw [hx]; decide)
      have hj0 : jn = [] := by
        rw [hx] at hjl; simpa using hjl
      rw [decide_eq_false (by simp [hx])] at c3 a4
      subst hj0
      simp [hc1, e1, e2, e3, c3, l3, q0, hx, e4, a4, e5, b5, b5', e6, e7, s7, e8, EP_ps]
      refine hand_call_ret (g := 17) (first := #[]) (caps := #[]) (H1 := H9) ?_ rfl rfl rfl (by simpa using hR) rfl ?_
      · rw [lwant_x]; simp
      · simp [e10, s10, e11, e12, e13, s13, t1, t2, EP_ps]
        refine hand_call_ret (g := 23) (first := #[]) (caps := #[]) (H1 := H13) ?_ rfl rfl rfl (by simpa using hL) rfl ?_
        · rw [lwant_x]; simp
        · simp
    · have hx0 : 0 < xs.length := List.length_pos_iff.mpr hx
      have q0 := eq_true (show (0 : Int) < (xs.length : Int) by omega)
      rw [decide_eq_true hx] at c3 a4
      simp [hc1, e1, e2, e3, c3, l3, q0, hx0, hx, j3, e4, a4, e5, b5, b5', e6, e7, s7, e8, EP_ps]
      refine hand_call_ret (g := 17) (first := #[]) (caps := #[]) (H1 := H9) ?_ rfl rfl rfl (by simpa using hR) rfl ?_
      · rw [lwant_x]; simp
      · simp [e10, s10, e11, e12, e13, s13, t1, t2, EP_ps]
        refine hand_call_ret (g := 23) (first := #[]) (caps := #[]) (H1 := H13) ?_ rfl rfl rfl (by simpa using hL) rfl ?_
        · rw [lwant_x]; simp
        · simp
  obtain ⟨r, H', h1, rfl⟩ := key
  exact ⟨H', h1⟩
end
end Go.Proofs.YteckofomnhminaaGreatDoor
