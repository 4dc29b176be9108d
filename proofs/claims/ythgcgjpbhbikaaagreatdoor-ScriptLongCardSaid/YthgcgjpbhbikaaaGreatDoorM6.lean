/-
  Texts joined, part 6: UrSplit, UrDots, NuPlain, NuParts, UrNum, ScCode, UrGood, UrLens, UrParse, LgEq, UrEq, UrText, HdBack, HdCode, HdRows, HdRef, HdList, HdText, LgLift, HdRun, ScWord, ScEv, ScGood, StBs, ScShow, ScSet.
-/
import Derived.Test.YthgcgjpbhbikaaaGreatDoorM5
import Derived.Test.YthgcgjpbhbikaaaGreatDoorM4
import Derived.Test.YthgcgjpbhbikaaaGreatDoorM1
import Derived.Lib.SlTrimSet
import Derived.MapKept
import Derived.ChangeArms
import Derived.WideShapes
import Derived.Lib.LaidTab
/-
  Layer 26 (url): pieces between slashes, and their joining, in plain words.
-/
set_option linter.unusedSimpArgs false
set_option linter.unusedVariables false
namespace Tg.Ur
open Go
theorem pieces_ne (s : List UInt8) : pieces s ≠ [] := by
  cases s with
  | nil => simp [pieces]
  | cons b r =>
    unfold pieces
    split
    · simp
    · split <;> simp
theorem pieces_idx : ∀ s : List UInt8, (Lib.indexByte s 47 = -1 → pieces s = [s]) ∧ ∀ i : Nat, Lib.indexByte s 47 = i → pieces s = s.take i :: pieces (s.drop (i + 1))
  | [] => ⟨fun _ => rfl, fun i h => by simp [Lib.indexByte] at h⟩
  | b :: r => by
    obtain ⟨h1, h2⟩ := pieces_idx r
    have hge := Lib.indexByte_ge r 47
    unfold Lib.indexByte
    by_cases hb : b = 47
    · subst hb
      constructor
      · intro h; simp at h
      · intro i h
        have : i = 0 := by simp at h; omega
        subst this
        simp [pieces]
    · have hb1 : (b == 47) = false := by simp [hb]
      rw [hb1]
      simp only [Bool.false_eq_true, if_false]
      by_cases hm : Lib.indexByte r 47 = -1
      · constructor
        · intro _; unfold pieces; rw [if_neg hb, h1 hm]
        · intro i h; simp [hm] at h
      · have hm1 : (Lib.indexByte r 47 == -1) = false := by simp [hm]
        rw [hm1]
        simp only [Bool.false_eq_true, if_false]
        constructor
        · intro h; omega
        · intro i h
          obtain ⟨j, rfl⟩ : ∃ j, i = j + 1 := ⟨i - 1, by omega⟩
          have e := h2 j (by omega)
          conv => lhs; unfold pieces
          rw [if_neg hb, e]
          rfl
theorem splitK_pieces : ∀ (n : Nat) (s : List UInt8), s.length ≤ n → Lib.splitK [47] 0 (Lib.count s [47]) s = pieces s ∧ Lib.count s [47] ≤ s.length
  | n, s, h => by
    obtain ⟨h1, h2⟩ := pieces_idx s
    have hge := Lib.indexByte_ge s 47
    by_cases hm : Lib.indexByte s 47 = -1
    · have hi : Lib.index s [47] = -1 := by rw [Lib.index_one]; exact hm
      rw [Lib.count_miss hi, h1 hm]
      exact ⟨rfl, by omega⟩
    · obtain ⟨i, hi⟩ : ∃ i : Nat, Lib.indexByte s 47 = i := ⟨(Lib.indexByte s 47).toNat, by omega⟩
      have hi2 : Lib.index s [47] = i := by rw [Lib.index_one]; exact hi
      have hlt : i < s.length := by
        have := (Lib.indexByte_some hi).1
        rcases Nat.lt_or_ge i s.length with g | g
        · exact g
        · rw [List.getElem?_eq_none g] at this; cases this
      rw [Lib.count_hit (by simp) hi2, h2 i hi]
      cases n with
      | zero => omega
      | succ n =>
        have ih := splitK_pieces n (s.drop (i + 1)) (by rw [List.length_drop]; omega)
        rw [Nat.add_comm 1]
        constructor
        · show (if Lib.index s [47] == -1 then [s] else s.take ((Lib.index s [47]).toNat + 0) :: Lib.splitK [47] 0 (Lib.count (s.drop (i + 1)) [47]) (s.drop ((Lib.index s [47]).toNat + 1))) = _
          rw [hi2, if_neg (by simp), Int.toNat_natCast, ih.1]
          rfl
        · have h3 := ih.2
          rw [List.length_drop] at h3
          show Lib.count (s.drop (i + 1)) [47] + 1 ≤ _
          omega
theorem ba_str (x : ByteArray) : Value.string x = Go.Lg.str x.data.toList := by
  unfold Go.Lg.str; rfl
theorem split_rows (s : List UInt8) : (Lib.splitB ⟨[47].toArray⟩ 0 (Lib.countB ⟨s.toArray⟩ ⟨[47].toArray⟩) ⟨s.toArray⟩).map Value.string = (pieces s).map Go.Lg.str ∧ (pieces s).length = Lib.countB ⟨s.toArray⟩ ⟨[47].toArray⟩ + 1 ∧ (Lib.splitB ⟨[47].toArray⟩ 0 (Lib.countB ⟨s.toArray⟩ ⟨[47].toArray⟩) ⟨s.toArray⟩).length = Lib.countB ⟨s.toArray⟩ ⟨[47].toArray⟩ + 1 ∧ Lib.countB ⟨s.toArray⟩ ⟨[47].toArray⟩ ≤ s.length := by
  have e := Lib.splitB_data ⟨[47].toArray⟩ 0 (Lib.countB ⟨s.toArray⟩ ⟨[47].toArray⟩) ⟨s.toArray⟩
  have hp := splitK_pieces s.length s (Nat.le_refl _)
  have e2 : (Lib.splitB ⟨[47].toArray⟩ 0 (Lib.countB ⟨s.toArray⟩ ⟨[47].toArray⟩) ⟨s.toArray⟩).map (·.data.toList) = pieces s := e.trans hp.1
  have hl := Lib.splitB_all ⟨[47].toArray⟩ (Nat.le_refl 1) 0 (Lib.countB ⟨s.toArray⟩ ⟨[47].toArray⟩) ⟨s.toArray⟩ rfl
  refine ⟨?_, ?_, hl, hp.2⟩
  · rw [← e2, List.map_map]
    exact List.map_congr_left (fun x _ => ba_str x)
  · rw [← e2, List.length_map, hl]
theorem pieces_len : ∀ s : List UInt8, ∀ p ∈ pieces s, p.length ≤ s.length
  | [], p, h => by simp [pieces] at h; subst h; simp
  | b :: r, p, h => by
    have ih := pieces_len r
    unfold pieces at h
    split at h
    · rcases List.mem_cons.mp h with rfl | h
      · simp
      · have := ih p h; simp; omega
    · split at h
      · simp at h; subst h; simp
      · rename_i q l hq
        rcases List.mem_cons.mp h with rfl | h
        · have := ih q (by rw [hq]; simp); simp; omega
        · have := ih p (by rw [hq]; simp [h]); simp; omega
/-! ### joined -/
theorem joinS_ne {l : List (List UInt8)} (h : l ≠ []) : joinS l = 47 :: Lib.join l [47] := by
  cases l with
  | nil => exact absurd rfl h
  | cons x r =>
    rw [Lib.join_cons]
    show 47 :: (x ++ joinS r) = 47 :: (x ++ Lib.joinTail [47] r)
    congr 2
    clear h
    induction r with
    | nil => rfl
    | cons y r ih => show 47 :: (y ++ joinS r) = _; rw [ih]; simp [Lib.joinTail]
theorem joinS_len {m : Nat} : ∀ {l : List (List UInt8)}, (∀ p ∈ l, p.length ≤ m) → (joinS l).length ≤ l.length * (m + 1)
  | [], _ => by simp [joinS]
  | x :: l, h => by
    have ih := joinS_len (l := l) (fun p hp => h p (by simp [hp]))
    have hx := h x (by simp)
    show (47 :: (x ++ joinS l)).length ≤ (l.length + 1) * (m + 1)
    rw [Nat.add_mul]
    simp; omega
theorem foldD_cons (out : List (List UInt8)) (p : List UInt8) (l : List (List UInt8)) : foldD out (p :: l) = foldD (stepD (decide (l = [])) out p) l := by
  cases l with
  | nil => rfl
  | cons q l => rfl
theorem stepD_len (t : Bool) (out : List (List UInt8)) (p : List UInt8) : (stepD t out p).length ≤ out.length + 1 := by
  unfold stepD
  split
  · simp
  · rw [List.length_append]
    have : (if pts p 0 = 2 then out.dropLast else out).length ≤ out.length := by split <;> simp
    have : (if t = true then [([] : List UInt8)] else []).length ≤ 1 := by split <;> simp
    omega
theorem stepD_mem {t : Bool} {out : List (List UInt8)} {p : List UInt8} {m : Nat} (h : ∀ q ∈ out, q.length ≤ m) (hp : p.length ≤ m) : ∀ q ∈ stepD t out p, q.length ≤ m := by
  unfold stepD
  intro q hq
  split at hq
  · rcases List.mem_append.mp hq with g | g
    · exact h q g
    · simp at g; subst g; exact hp
  · rcases List.mem_append.mp hq with g | g
    · split at g
      · exact h q (List.dropLast_subset _ g)
      · exact h q g
    · split at g
      · simp at g; subst g; simp
      · simp at g
end Tg.Ur
/-
  Layer 26 (url): what the code's functions come to: a path without points.
-/
set_option linter.unusedSimpArgs false
set_option linter.unusedVariables false
set_option maxRecDepth 100000
namespace Go.Proofs.YthgcgjpbhbikaaaGreatDoor
open Go.Lg Go.Tg
section
variable {H : LH} {b : UInt8} {s p : List UInt8}
theorem RowN.takeL {P : Program} {N : Nat} {t e : TypeId} {v : Value} {n : Nat} {xs : List Value} (h : RowN N H e 1 v n xs) (hu : P.underlying t = some (.slice e)) (hs : sz P e = some 1) (j : Nat) (hj : j ≤ n) : ∃ v', lpart P t v none (some (.int .i64 j)) = some v' ∧ RowN N H e 1 v' j (xs.take j) ∧ ∀ k, offRow v k → offRow v' k := by
  have hl := h.1
  rcases h.2 with ⟨rfl, rfl⟩ | ⟨k, c, rest, rfl, g1, g2, g3, g4, g5⟩
  · have : j = 0 := by omega
    subst this
    exact ⟨.slice none 0 0, by simp [lpart, hu, hs, lbd], ⟨by simp, .inl ⟨rfl, rfl⟩⟩, fun _ h => h⟩
  · refine ⟨_, lpart_row_ns hu hs (by omega) (by omega), ⟨by rw [List.length_take]; omega, .inr ⟨k, c, xs.drop j ++ rest, by rw [Int.toNat_natCast], g1, g2, ?_, by omega, ?_⟩⟩, fun i hi n c' h => ?_⟩
    · rw [← List.append_assoc, List.take_append_drop]; exact g3
    · rw [← List.append_assoc, List.take_append_drop]; exact g5
    · injection h with h
      injection h with h
      injection h with h
      subst h
      exact hi _ _ rfl
theorem prefix1 {c : UInt8} : Lib.hasPrefix s [c] = decide (s[0]? = some c) := by
  cases s with
  | nil => rfl
  | cons b r => simp [Lib.hasPrefix, List.isPrefixOf]; rw [Bool.eq_iff_iff]; simp; exact eq_comm
theorem out_app {v : Value} {acc : List (List UInt8)} {N : Nat} {x : List UInt8} (h : RowN N H 9 1 v acc.length (acc.map str)) (hN : N ≤ H.n) (hl : acc.length ≤ 100000) :
    ∃ v' H2, lapp Tryz.prog 40 v (some (1, [str x])) (H.new ⟨[str x], 9, true⟩) = some (v', H2) ∧ RowN N H2 9 1 v' (acc ++ [x]).length ((acc ++ [x]).map str) ∧ N ≤ H2.n ∧ ∀ k, k < N → H2.get k = H.get k := by
  have h2 : RowN N (H.new ⟨[str x], 9, true⟩) 9 1 v acc.length (acc.map str) := h.keep (Nat.le_succ _) (fun k _ _ hk => get_new_ne (by omega))
  obtain ⟨v', H2, ha, hr, hk, _⟩ := h2.app (t := 40) (new := [x].map str) (m := 1) Tryz.underlying40 (by kernel_rfl) (by simp) (by simp) (by unfold maxElems; omega) (by rw [n_new]; omega) (.inl (Nat.le_refl 1))
  refine ⟨v', H2, ha, by rw [List.length_append, List.map_append]; exact hr, Nat.le_trans (by rw [n_new]; omega) hk.le, fun k hkn => ?_⟩
  rw [hk.get k (by rw [n_new]; omega) (h.off_lt hkn), get_new_ne (by omega)]
theorem foldD_ne : ∀ (l : List (List UInt8)) (out : List (List UInt8)), l ≠ [] → Tg.Ur.foldD out l ≠ []
  | [], _, h => absurd rfl h
  | [p], out, _ => by
    show Tg.Ur.stepD true out p ≠ []
    unfold Tg.Ur.stepD
    split <;> simp
  | p :: q :: l, out, _ => foldD_ne (q :: l) _ (by simp)
end
end Go.Proofs.YthgcgjpbhbikaaaGreatDoor
/-
  Plain laws of numbers' texts: the machine of states and the grammar agree.
-/
set_option linter.unusedSimpArgs false
set_option linter.unusedVariables false
namespace Tg.Nu
def isD (b : UInt8) : Bool := decide (48 ≤ (b.toNat : Int)) && decide ((b.toNat : Int) ≤ 57)
def isE (b : UInt8) : Bool := decide (b = 101) || decide (b = 69)
def wh (st : Nat) : Bool := st == 2 || st == 3 || st == 5 || st == 8
def nx (st : Nat) (b : UInt8) : Nat :=
  if st = 0 ∨ st = 1 then
    if b = 45 ∧ st = 0 then 1 else if b = 48 then 2 else if isD b then 3 else 9
  else if (st = 4 ∨ st = 5) ∧ isD b then 5
  else if st = 6 ∨ st = 7 ∨ st = 8 then
    if isD b then 8 else if st = 6 ∧ (b = 43 ∨ b = 45) then 7 else 9
  else if st = 3 ∧ isD b then 3
  else if b = 46 ∧ (st = 2 ∨ st = 3) then 4
  else if isE b ∧ wh st then 6 else 9
def en (st : Nat) (s : List UInt8) : Nat := s.foldl nx st
def acc (st : Nat) (s : List UInt8) : Bool := wh (en st s)
theorem nx9 (b : UInt8) : nx 9 b = 9 := by simp [nx, wh]
theorem en9 : ∀ s, en 9 s = 9
  | [] => rfl
  | b :: s => by show en (nx 9 b) s = 9; rw [nx9]; exact en9 s
theorem acc9 (s : List UInt8) : acc 9 s = false := by unfold acc; rw [en9]; rfl
theorem acc_cons (st : Nat) (b : UInt8) (s : List UInt8) : acc st (b :: s) = acc (nx st b) s := rfl
theorem D_not (b : UInt8) (h : isD b = true) : b ≠ 45 ∧ b ≠ 43 ∧ b ≠ 46 ∧ isE b = false := by
  simp only [isD, Bool.and_eq_true, decide_eq_true_eq] at h
  refine ⟨?_, ?_, ?_, ?_⟩
  · rintro rfl; simp at h
  · rintro rfl; simp at h
  · rintro rfl; simp at h
  · simp only [isE, Bool.or_eq_false_iff, decide_eq_false_iff_not]
    constructor <;> (rintro rfl; simp at h)
theorem E_not (b : UInt8) (h : isE b = true) : b ≠ 46 ∧ isD b = false := by
  simp only [isE, Bool.or_eq_true, decide_eq_true_eq] at h
  rcases h with rfl | rfl <;> decide
def hd : List UInt8 → Bool
  | [] => false
  | c :: _ => isD c
theorem hd_cons (c : UInt8) (r : List UInt8) : hd (c :: r) = isD c := rfl
def all8 (v : List UInt8) : Bool := hd v && (v.dropWhile isD).isEmpty
def B6 (r : List UInt8) : Bool :=
  match r with
  | [] => false
  | c :: q => if c = 43 ∨ c = 45 then all8 q else all8 r
def B2 (u : List UInt8) : Bool :=
  match u with
  | [] => true
  | c :: r => isE c && B6 r
def B1 (v : List UInt8) : Bool :=
  match v with
  | [] => true
  | c :: r => if c = 46 then hd r && B2 (r.dropWhile isD) else B2 v
theorem acc8 : ∀ s, acc 8 s = (s.dropWhile isD).isEmpty
  | [] => rfl
  | b :: s => by
    rw [acc_cons, List.dropWhile_cons]
    by_cases h : isD b = true
    · rw [if_pos h, show nx 8 b = 8 by simp [nx, h]]; exact acc8 s
    · rw [if_neg h, show nx 8 b = 9 by simp [nx, h], acc9]; rfl
theorem acc7 (s : List UInt8) : acc 7 s = all8 s := by
  cases s with
  | nil => rfl
  | cons b s =>
    rw [acc_cons]
    unfold all8
    rw [List.dropWhile_cons, hd_cons]
    by_cases h : isD b = true
    · rw [if_pos h, show nx 7 b = 8 by simp [nx, h], acc8, h]; rfl
    · rw [if_neg h, show nx 7 b = 9 by simp [nx, h], acc9]; simp [h]
theorem acc6 (s : List UInt8) : acc 6 s = B6 s := by
  cases s with
  | nil => rfl
  | cons b s =>
    rw [acc_cons]
    unfold B6
    by_cases h : isD b = true
    · obtain ⟨h1, h2, _⟩ := D_not b h
      rw [show nx 6 b = 8 by simp [nx, h], acc8]
      simp [h1, h2, all8, hd, h, List.dropWhile_cons]
    · by_cases h2 : b = 43 ∨ b = 45
      · rw [show nx 6 b = 7 by simp [nx, h, h2], acc7]; simp [h2]
      · rw [show nx 6 b = 9 by simp [nx, h, h2], acc9]; simp [h2, all8, hd, h]
theorem acc5 : ∀ s, acc 5 s = B2 (s.dropWhile isD)
  | [] => rfl
  | b :: s => by
    rw [acc_cons, List.dropWhile_cons]
    by_cases h : isD b = true
    · rw [if_pos h, show nx 5 b = 5 by simp [nx, h]]; exact acc5 s
    · rw [if_neg h]
      unfold B2
      by_cases h2 : isE b = true
      · rw [show nx 5 b = 6 by simp [nx, h, h2, wh], acc6]; simp [h2]
      · rw [show nx 5 b = 9 by simp [nx, h, h2], acc9]; simp [h2]
theorem acc4 (s : List UInt8) : acc 4 s = (hd s && B2 (s.dropWhile isD)) := by
  cases s with
  | nil => rfl
  | cons b s =>
    rw [acc_cons, List.dropWhile_cons]
    unfold hd
    by_cases h : isD b = true
    · rw [if_pos h, show nx 4 b = 5 by simp [nx, h], acc5]; simp [h]
    · rw [if_neg h, show nx 4 b = 9 by simp [nx, h, wh], acc9]; simp [h]
theorem acc3 : ∀ s, acc 3 s = B1 (s.dropWhile isD)
  | [] => rfl
  | b :: s => by
    rw [acc_cons, List.dropWhile_cons]
    by_cases h : isD b = true
    · rw [if_pos h, show nx 3 b = 3 by simp [nx, h]]; exact acc3 s
    · rw [if_neg h]
      unfold B1
      by_cases h1 : b = 46
      · rw [show nx 3 b = 4 by subst h1; rfl, acc4]; simp [h1]
      · by_cases h2 : isE b = true
        · rw [show nx 3 b = 6 by simp [nx, h, h1, h2, wh], acc6]; simp [h1, B2, h2]
        · rw [show nx 3 b = 9 by simp [nx, h, h1, h2], acc9]; simp [h1, B2, h2]
theorem acc2 (s : List UInt8) : acc 2 s = B1 s := by
  cases s with
  | nil => rfl
  | cons b s =>
    rw [acc_cons]
    unfold B1
    by_cases h1 : b = 46
    · rw [show nx 2 b = 4 by subst h1; rfl, acc4]; simp [h1]
    · by_cases h2 : isE b = true
      · rw [show nx 2 b = 6 by simp [nx, h1, h2, wh], acc6]; simp [h1, B2, h2]
      · rw [show nx 2 b = 9 by simp [nx, h1, h2], acc9]; simp [h1, B2, h2]
/-- the reference's grammar, by places -/
def rn (s : List UInt8) (i : Nat) : Nat := ((s.drop i).takeWhile isD).length
def Is2 (s : List UInt8) (i : Nat) : Bool :=
  match s[i]? with
  | some c =>
    if isE c then
      let j := if s[i + 1]? = some 43 ∨ s[i + 1]? = some 45 then i + 2 else i + 1
      if rn s j = 0 then false else j + rn s j == s.length
    else i == s.length
  | none => i == s.length
def Is1 (s : List UInt8) (i : Nat) : Bool := if s[i]? = some 46 then (if rn s (i + 1) = 0 then false else Is2 s (i + 1 + rn s (i + 1))) else Is2 s i
def Is (s : List UInt8) : Bool :=
  let i := if s[0]? = some 45 then 1 else 0
  if rn s i = 0 ∨ (1 < rn s i ∧ s[i]? = some 48) then false else Is1 s (i + rn s i)
theorem drop_take (u : List UInt8) : u.drop (u.takeWhile isD).length = u.dropWhile isD := by
  induction u with
  | nil => rfl
  | cons b u ih =>
    rw [List.takeWhile_cons, List.dropWhile_cons]
    split
    · simpa using ih
    · rfl
theorem drop_rn (s : List UInt8) (i : Nat) : s.drop (i + rn s i) = (s.drop i).dropWhile isD := by
  rw [← List.drop_drop]; exact drop_take _
theorem rn_zero (s : List UInt8) (i : Nat) : (rn s i = 0) = (hd (s.drop i) = false) := by
  unfold rn
  cases s.drop i with
  | nil => simp [hd]
  | cons b u =>
    rw [List.takeWhile_cons]
    unfold hd
    split
    · rename_i h; simp [h]
    · rename_i h; simp [h]
theorem rn_le (s : List UInt8) (i : Nat) (h : i ≤ s.length) : i + rn s i ≤ s.length := by
  have : rn s i ≤ (s.drop i).length := (List.takeWhile_prefix isD).length_le
  rw [List.length_drop] at this; omega
theorem get_drop (s : List UInt8) (i : Nat) : s[i]? = (s.drop i)[0]? := by simp
theorem end_drop (s : List UInt8) (i : Nat) (h : i ≤ s.length) : (i == s.length) = (s.drop i).isEmpty := by
  rw [Bool.eq_iff_iff, beq_iff_eq, List.isEmpty_iff, List.drop_eq_nil_iff]; omega
theorem Is2_eq (s : List UInt8) (i : Nat) (h : i ≤ s.length) : Is2 s i = B2 (s.drop i) := by
  unfold Is2
  rw [get_drop s i, end_drop s i h]
  cases hu : s.drop i with
  | nil => rfl
  | cons c r =>
    have hl : i < s.length := by
      rcases Nat.lt_or_ge i s.length with h | h
      · exact h
      · rw [List.drop_eq_nil_of_le h] at hu; cases hu
    have hr : s.drop (i + 1) = r := by rw [← List.drop_drop, hu]; rfl
    simp only [List.getElem?_cons_zero]
    show _ = (isE c && B6 r)
    by_cases hE : isE c = true
    · rw [if_pos hE, hE, Bool.true_and, get_drop s (i + 1), hr]
      have key : ∀ j, j ≤ s.length → (if rn s j = 0 then false else j + rn s j == s.length) = all8 (s.drop j) := by
        intro j hj
        unfold all8
        rw [← drop_rn, ← end_drop _ _ (rn_le s j hj)]
        by_cases h0 : rn s j = 0
        · rw [if_pos h0]; rw [rn_zero] at h0; simp [h0]
        · rw [if_neg h0]; rw [rn_zero] at h0; simp [h0]
      cases r with
      | nil =>
        simp only [List.getElem?_nil, reduceCtorEq, or_self, if_false]
        rw [key _ hl, hr]; rfl
      | cons d q =>
        have hq : s.drop (i + 2) = q := by rw [show i + 2 = i + 1 + 1 from rfl, ← List.drop_drop, hr]; rfl
        have hl2 : i + 2 ≤ s.length := by
          have := congrArg List.length hr
          simp at this; omega
        simp only [List.getElem?_cons_zero, Option.some.injEq]
        unfold B6
        by_cases hs : d = 43 ∨ d = 45
        · simp only [if_pos hs]; rw [key _ hl2, hq]
        · simp only [if_neg hs]; rw [key _ hl, hr]
    · rw [if_neg hE]; simp [hE]
theorem Is1_eq (s : List UInt8) (i : Nat) (h : i ≤ s.length) : Is1 s i = B1 (s.drop i) := by
  unfold Is1
  rw [get_drop s i]
  cases hu : s.drop i with
  | nil =>
    simp only [List.getElem?_nil, reduceCtorEq, if_false]
    rw [Is2_eq s i h, hu]; rfl
  | cons c r =>
    have hl : i < s.length := by
      rcases Nat.lt_or_ge i s.length with h | h
      · exact h
      · rw [List.drop_eq_nil_of_le h] at hu; cases hu
    have hr : s.drop (i + 1) = r := by rw [← List.drop_drop, hu]; rfl
    simp only [List.getElem?_cons_zero, Option.some.injEq]
    unfold B1
    by_cases h46 : c = 46
    · simp only [if_pos h46]
      by_cases h0 : rn s (i + 1) = 0
      · rw [if_pos h0]; rw [rn_zero, hr] at h0; simp [h0]
      · rw [if_neg h0, Is2_eq _ _ (rn_le _ _ hl), drop_rn, hr]; rw [rn_zero, hr] at h0; simp [h0]
    · simp only [if_neg h46]
      rw [Is2_eq s i h, hu]
theorem rn_cons (s r : List UInt8) (c : UInt8) (i : Nat) (h : s.drop i = c :: r) (hc : isD c = true) : rn s i = (r.takeWhile isD).length + 1 := by
  unfold rn; rw [h, List.takeWhile_cons, if_pos hc]; rfl
theorem hd_len (r : List UInt8) : (0 < (r.takeWhile isD).length) ↔ hd r = true := by
  cases r with
  | nil => simp [hd]
  | cons c q => rw [List.takeWhile_cons]; unfold hd; split <;> simp_all
theorem acc1_eq (s : List UInt8) (i : Nat) (h : i ≤ s.length) : acc 1 (s.drop i) = (if rn s i = 0 ∨ (1 < rn s i ∧ s[i]? = some 48) then false else Is1 s (i + rn s i)) := by
  rw [get_drop s i]
  by_cases h0 : rn s i = 0
  · rw [if_pos (.inl h0)]
    rw [rn_zero] at h0
    cases hu : s.drop i with
    | nil => rfl
    | cons c r =>
      rw [hu] at h0
      have hc : isD c = false := h0
      have h48 : c ≠ 48 := by rintro rfl; cases hc
      rw [acc_cons, show nx 1 c = 9 by simp [nx, hc, h48], acc9]
  · cases hu : s.drop i with
    | nil => rw [rn_zero, hu] at h0; exact absurd rfl h0
    | cons c r =>
      have hc : isD c = true := by rw [rn_zero, hu] at h0; simpa [hd] using h0
      have hn := rn_cons s r c i hu hc
      have hdw : (s.drop i).dropWhile isD = r.dropWhile isD := by rw [hu, List.dropWhile_cons, if_pos hc]
      have hI : Is1 s (i + rn s i) = B1 (r.dropWhile isD) := by rw [Is1_eq _ _ (rn_le _ _ h), drop_rn, hdw]
      simp only [List.getElem?_cons_zero, Option.some.injEq]
      rw [acc_cons]
      by_cases h48 : c = 48
      · subst h48
        rw [show nx 1 48 = 2 from rfl, acc2, hI]
        by_cases hr : hd r = true
        · rw [if_pos (.inr ⟨by have := (hd_len r).2 hr; omega, rfl⟩)]
          cases r with
          | nil => cases hr
          | cons d q =>
            have hD : isD d = true := hr
            obtain ⟨_, _, h46, hE⟩ := D_not d hD
            simp [B1, h46, B2, hE]
        · have hl : ¬ 1 < rn s i := (by
            have : ¬ 0 < (r.takeWhile isD).length := fun h => hr ((hd_len r).1 h)
            omega)
          rw [if_neg (fun h => h.elim h0 (fun h => hl h.1))]
          congr 1
          cases r with
          | nil => rfl
          | cons d q => rw [List.dropWhile_cons, if_neg]; exact hr
      · rw [if_neg (fun h => h.elim h0 (fun h => h48 h.2)), hI, show nx 1 c = 3 by simp [nx, hc, h48], acc3]
/-- the machine and the grammar -/
theorem is_eq (s : List UInt8) : Is s = acc 0 s := by
  unfold Is
  cases s with
  | nil => rfl
  | cons b r =>
    simp only [List.getElem?_cons_zero, Option.some.injEq]
    by_cases h : b = 45
    · subst h
      simp only [if_true]
      exact (acc1_eq (45 :: r) 1 (by simp)).symm
    · simp only [if_neg h]
      have := acc1_eq (b :: r) 0 (by simp)
      rw [← this, List.drop_zero, acc_cons, acc_cons]
      congr 1
      simp [nx, h]
theorem en_lt : ∀ (s : List UInt8) (st : Nat), st ≤ 9 → en st s ≤ 9
  | [], st, h => h
  | b :: s, st, h => en_lt s (nx st b) (by unfold nx; repeat (first | omega | split))
theorem en_append (st : Nat) (s t : List UInt8) : en st (s ++ t) = en (en st s) t := by unfold en; rw [List.foldl_append]
/-- the state of a text -/
def stP (s : List UInt8) : Nat := if Is s then 2 else if Is (s ++ [49]) then 1 else 0
def stC (s : List UInt8) : Nat := if en 0 s = 9 then 0 else if wh (en 0 s) then 2 else 1
theorem st_eq (s : List UInt8) : stC s = stP s := by
  unfold stC stP
  rw [is_eq, is_eq]
  unfold acc
  rw [en_append]
  have h := en_lt s 0 (by omega)
  generalize en 0 s = k at *
  have : k = 0 ∨ k = 1 ∨ k = 2 ∨ k = 3 ∨ k = 4 ∨ k = 5 ∨ k = 6 ∨ k = 7 ∨ k = 8 ∨ k = 9 := by omega
  rcases this with rfl | rfl | rfl | rfl | rfl | rfl | rfl | rfl | rfl | rfl <;> rfl
/-- the longest number's text: from above, and from below -/
def longP (s : List UInt8) : Nat → Nat
  | 0 => 0
  | n + 1 => if Is (s.take (n + 1)) then n + 1 else longP s n
theorem longP_is (s : List UInt8) : ∀ n, longP s n ≤ n ∧ (longP s n ≠ 0 → Is (s.take (longP s n)) = true)
  | 0 => ⟨Nat.le_refl _, fun h => absurd rfl h⟩
  | n + 1 => by
    unfold longP
    split
    · exact ⟨Nat.le_refl _, fun _ => by assumption⟩
    · have := longP_is s n; exact ⟨by omega, this.2⟩
theorem longP_lost (s : List UInt8) (i : Nat) (h : en 0 (s.take i) = 9) : ∀ n, i ≤ n → longP s n = longP s i
  | 0, h0 => by rw [show i = 0 by omega]
  | n + 1, h0 => by
    rcases Nat.lt_or_ge n i with h1 | h1
    · rw [show i = n + 1 by omega]
    · have e : Is (s.take (n + 1)) = false := by
        rw [is_eq]; unfold acc
        have : s.take (n + 1) = s.take i ++ (s.take (n + 1)).drop i := by
          rw [show s.take i = (s.take (n + 1)).take i by rw [List.take_take, Nat.min_eq_left h0], List.take_append_drop]
        rw [this, en_append, h, en9]; rfl
      show (if Is (s.take (n + 1)) = true then n + 1 else longP s n) = _
      rw [e, if_neg (by simp)]
      exact longP_lost s i h n h1
end Tg.Nu
namespace Tg.Nu
theorem en_take (k : Nat) (s : List UInt8) {i : Nat} (h : i < s.length) : en k (s.take (i + 1)) = nx (en k (s.take i)) s[i] := by
  rw [List.take_succ_eq_append_getElem h, en_append]; rfl
theorem en_lost (k : Nat) (s : List UInt8) (i : Nat) (h : en k (s.take i) = 9) : en k s = 9 := by
  have := en_append k (s.take i) (s.drop i)
  rw [List.take_append_drop, h, en9] at this
  exact this
theorem longP_step (s : List UInt8) (i : Nat) (h : i < s.length) : longP s (i + 1) = if wh (nx (en 0 (s.take i)) s[i]) then i + 1 else longP s i := by
  show (if Is (s.take (i + 1)) = true then i + 1 else longP s i) = _
  rw [is_eq]; unfold acc; rw [en_take 0 s h]
end Tg.Nu
/-
  Layer 9 (jnum): what a number's text says: the code's way and the reference's way.
-/
set_option linter.unusedSimpArgs false
set_option linter.unusedVariables false
namespace Tg.Nu
open Go
theorem mem_tw {p : UInt8 → Bool} : ∀ {l : List UInt8} {b : UInt8}, b ∈ l.takeWhile p → p b = true
  | [], b, h => by cases h
  | x :: l, b, h => by
    rw [List.takeWhile_cons] at h
    split at h
    · rename_i hx
      rcases List.mem_cons.1 h with rfl | h
      · exact hx
      · exact mem_tw h
    · cases h
theorem any_cons (b : UInt8) (l c : List UInt8) : Lib.indexAny (b :: l) c = if c.contains b then 0 else if Lib.indexAny l c == -1 then -1 else Lib.indexAny l c + 1 := rfl
theorem byte_cons (b : UInt8) (l : List UInt8) (c : UInt8) : Lib.indexByte (b :: l) c = if b == c then 0 else if Lib.indexByte l c == -1 then -1 else Lib.indexByte l c + 1 := rfl
def digs (l : List UInt8) : Prop := ∀ b ∈ l, isD b = true
def eoT : Option (UInt8 × List UInt8 × List UInt8) → List UInt8
  | none => []
  | some (e, sg, ep) => e :: (sg ++ ep)
def foT : Option (List UInt8) → List UInt8
  | none => []
  | some f => 46 :: f
structure Num where
  neg : Bool
  ip : List UInt8
  f : Option (List UInt8)
  e : Option (UInt8 × List UInt8 × List UInt8)
def OkE : Option (UInt8 × List UInt8 × List UInt8) → Prop
  | none => True
  | some (c, sg, ep) => isE c = true ∧ (sg = [] ∨ sg = [43] ∨ sg = [45]) ∧ digs ep ∧ ep ≠ []
def OkF : Option (List UInt8) → Prop
  | none => True
  | some f => digs f
structure Num.Ok (n : Num) : Prop where
  ip : digs n.ip
  ip0 : n.ip ≠ []
  f : OkF n.f
  e : OkE n.e
def Num.head (n : Num) : List UInt8 := n.ip ++ foT n.f
def Num.body (n : Num) : List UInt8 := n.head ++ eoT n.e
def Num.text (n : Num) : List UInt8 := (if n.neg then [45] else []) ++ n.body
theorem digs_take (l : List UInt8) : digs (l.takeWhile isD) := fun b hb => mem_tw hb
theorem digs_all {l : List UInt8} (h : (l.dropWhile isD).isEmpty = true) : digs l := by
  intro b hb
  rw [List.isEmpty_iff] at h
  have := List.takeWhile_append_dropWhile (p := isD) (l := l)
  rw [h, List.append_nil] at this
  rw [← this] at hb
  exact mem_tw hb
theorem all8_of {l : List UInt8} (h : all8 l = true) : digs l ∧ l ≠ [] := by
  unfold all8 at h
  rw [Bool.and_eq_true] at h
  exact ⟨digs_all h.2, fun e => by rw [e] at h; exact absurd h.1 (by decide)⟩
theorem B6_of {r : List UInt8} (h : B6 r = true) : ∃ sg ep, r = sg ++ ep ∧ (sg = [] ∨ sg = [43] ∨ sg = [45]) ∧ digs ep ∧ ep ≠ [] := by
  unfold B6 at h
  split at h
  · cases h
  · rename_i c q
    split at h
    · rename_i hc
      obtain ⟨h1, h2⟩ := all8_of h
      rcases hc with rfl | rfl
      · exact ⟨[43], q, rfl, .inr (.inl rfl), h1, h2⟩
      · exact ⟨[45], q, rfl, .inr (.inr rfl), h1, h2⟩
    · obtain ⟨h1, h2⟩ := all8_of h
      exact ⟨[], c :: q, rfl, .inl rfl, h1, h2⟩
theorem B2_of {u : List UInt8} (h : B2 u = true) : ∃ e, u = eoT e ∧ OkE e := by
  unfold B2 at h
  split at h
  · exact ⟨none, rfl, trivial⟩
  · rename_i c r
    rw [Bool.and_eq_true] at h
    obtain ⟨sg, ep, rfl, h2, h3, h4⟩ := B6_of h.2
    exact ⟨some (c, sg, ep), rfl, h.1, h2, h3, h4⟩
theorem B1_of {v : List UInt8} (h : B1 v = true) : ∃ f e, v = foT f ++ eoT e ∧ OkF f ∧ OkE e := by
  unfold B1 at h
  split at h
  · exact ⟨none, none, rfl, trivial, trivial⟩
  · rename_i c r
    split at h
    · rename_i hc
      subst hc
      rw [Bool.and_eq_true] at h
      obtain ⟨e, he, hok⟩ := B2_of h.2
      refine ⟨some (r.takeWhile isD), e, ?_, digs_take r, hok⟩
      show 46 :: r = 46 :: (r.takeWhile isD) ++ eoT e
      rw [← he, List.cons_append, List.takeWhile_append_dropWhile]
    · obtain ⟨e, he, hok⟩ := B2_of h
      exact ⟨none, e, he, trivial, hok⟩
theorem acc1_of {u : List UInt8} (h : acc 1 u = true) : ∃ ip v, u = ip ++ v ∧ digs ip ∧ ip ≠ [] ∧ B1 v = true := by
  cases u with
  | nil => cases h
  | cons c r =>
    rw [acc_cons] at h
    by_cases h48 : c = 48
    · subst h48
      rw [show nx 1 48 = 2 from rfl, acc2] at h
      exact ⟨[48], r, rfl, fun b hb => by rw [List.mem_singleton.1 hb]; rfl, by simp, h⟩
    · cases hc : isD c with
      | true =>
        rw [show nx 1 c = 3 by simp [nx, hc, h48], acc3] at h
        refine ⟨c :: r.takeWhile isD, r.dropWhile isD, ?_, ?_, by simp, h⟩
        · rw [List.cons_append, List.takeWhile_append_dropWhile]
        · intro b hb
          rcases List.mem_cons.1 hb with rfl | hb
          · exact hc
          · exact mem_tw hb
      | false => rw [show nx 1 c = 9 by simp [nx, hc, h48], acc9] at h; cases h
theorem text_of {s : List UInt8} (h : acc 0 s = true) : ∃ n : Num, s = n.text ∧ n.Ok := by
  cases s with
  | nil => cases h
  | cons c r =>
    by_cases h45 : c = 45
    · subst h45
      rw [acc_cons, show nx 0 45 = 1 from rfl] at h
      obtain ⟨ip, v, rfl, h1, h2, h3⟩ := acc1_of h
      obtain ⟨f, e, rfl, h4, h5⟩ := B1_of h3
      exact ⟨⟨true, ip, f, e⟩, by simp [Num.text, Num.body, Num.head], ⟨h1, h2, h4, h5⟩⟩
    · have h' : acc 1 (c :: r) = true := by
        rw [acc_cons] at h ⊢
        rw [show nx 1 c = nx 0 c by simp [nx, h45]]; exact h
      obtain ⟨ip, v, e0, h1, h2, h3⟩ := acc1_of h'
      obtain ⟨f, e, rfl, h4, h5⟩ := B1_of h3
      exact ⟨⟨false, ip, f, e⟩, by simp [Num.text, Num.body, Num.head, e0], ⟨h1, h2, h4, h5⟩⟩
/-! ### the answer -/
def dv (n : Nat) (l : List UInt8) : Nat := l.foldl (fun n b => 10 * n + (b.toNat - 48)) n
def nz (b : UInt8) : Bool := b == 48
def lead (l : List UInt8) : List UInt8 := l.dropWhile nz
def trail (l : List UInt8) : List UInt8 := (l.reverse.dropWhile nz).reverse
def cap40 (n : Nat) : Nat := if 1099511627776 < n then 1099511627776 else n
def Num.fp (n : Num) : List UInt8 := match n.f with | none => [] | some f => f
def Num.pw (n : Num) : Int := match n.e with
  | none => 0
  | some (_, sg, ep) => if sg = [45] then -(cap40 (dv 0 ep) : Int) else cap40 (dv 0 ep)
def Num.all (n : Num) : List UInt8 := lead (n.ip ++ n.fp)
def Num.short (n : Num) : List UInt8 := trail n.all
def clamp (n lo hi : Int) : Int := if n < lo then lo else if hi < n then hi else n
def Num.exp (n : Num) : Int := if n.short = [] then 0 else clamp (n.pw - n.fp.length + (n.all.length - n.short.length)) (-9999) 9999
/-! ### the code's way -/
theorem D_ne {b : UInt8} (h : isD b = true) : b ≠ 45 ∧ b ≠ 43 ∧ b ≠ 46 ∧ b ≠ 101 ∧ b ≠ 69 := by
  obtain ⟨h1, h2, h3, h4⟩ := D_not b h
  refine ⟨h1, h2, h3, ?_, ?_⟩
  · rintro rfl; revert h4; decide
  · rintro rfl; revert h4; decide
theorem Num.Ok.cons {n : Num} (h : n.Ok) : ∃ c r, n.ip = c :: r ∧ isD c = true := by
  cases hip : n.ip with
  | nil => exact absurd hip h.ip0
  | cons c r => exact ⟨c, r, rfl, h.ip c (by rw [hip]; simp)⟩
theorem text_true {n : Num} (h : n.neg = true) : n.text = 45 :: n.body := by unfold Num.text; rw [h]; rfl
theorem text_false {n : Num} (h : n.neg = false) : n.text = n.body := by unfold Num.text; rw [h]; rfl
theorem body_cons {n : Num} (h : n.Ok) : ∃ c r, n.body = c :: r ∧ isD c = true := by
  obtain ⟨c, r, e, hc⟩ := h.cons
  exact ⟨c, r ++ foT n.f ++ eoT n.e, by unfold Num.body Num.head; rw [e]; simp, hc⟩
theorem trim_text {n : Num} (h : n.Ok) : Lib.trimPrefix n.text [45] = n.body := by
  unfold Lib.trimPrefix Lib.hasPrefix
  cases hn : n.neg with
  | true => rw [text_true hn]; simp
  | false =>
    rw [text_false hn]
    obtain ⟨c, r, e, hc⟩ := body_cons h
    have := (D_ne hc).1
    rw [e, if_neg]
    simp; exact fun h => this h.symm
theorem len_text {n : Num} : n.text.length = n.body.length + (if n.neg = true then 1 else 0) := by
  cases hn : n.neg with
  | true => rw [text_true hn]; rfl
  | false => rw [text_false hn]; rfl
theorem any_skip (l r : List UInt8) (h : ∀ b ∈ l, b ≠ 101 ∧ b ≠ 69) : Lib.indexAny (l ++ r) [101, 69] = if Lib.indexAny r [101, 69] = -1 then -1 else Lib.indexAny r [101, 69] + l.length := by
  induction l with
  | nil => simp
  | cons b l ih =>
    obtain ⟨h1, h2⟩ := h b (by simp)
    rw [List.cons_append, any_cons, ih (fun b hb => h b (by simp [hb]))]
    have hc : ([101, 69] : List UInt8).contains b = false := by simp [h1, h2]
    rw [hc]
    have hge := Lib.indexAny_ge [101, 69] r
    by_cases hr : Lib.indexAny r [101, 69] = -1
    · simp [hr]
    · have h3 : Lib.indexAny r [101, 69] + (l.length : Int) ≠ -1 := by omega
      simp [hr, h3]; omega
theorem head_ne {n : Num} (h : n.Ok) : ∀ b ∈ n.head, b ≠ 101 ∧ b ≠ 69 := by
  intro b hb
  unfold Num.head at hb
  rcases List.mem_append.1 hb with hb | hb
  · obtain ⟨_, _, _, h4, h5⟩ := D_ne (h.ip b hb); exact ⟨h4, h5⟩
  · cases hf : n.f with
    | none => rw [hf] at hb; cases hb
    | some f =>
      rw [hf] at hb
      rcases List.mem_cons.1 hb with rfl | hb
      · decide
      · have := h.f; rw [hf] at this
        obtain ⟨_, _, _, h4, h5⟩ := D_ne (this b hb); exact ⟨h4, h5⟩
theorem any_body {n : Num} (h : n.Ok) : Lib.indexAny n.body [101, 69] = match n.e with | none => -1 | some _ => (n.head.length : Int) := by
  unfold Num.body
  rw [any_skip _ _ (head_ne h)]
  cases he : n.e with
  | none => rfl
  | some x =>
    obtain ⟨c, sg, ep⟩ := x
    have hok := h.e
    rw [he] at hok
    have hc : c = 101 ∨ c = 69 := by have := hok.1; simpa [isE] using this
    have h0 : Lib.indexAny (eoT (some (c, sg, ep))) [101, 69] = 0 := by
      show Lib.indexAny (c :: (sg ++ ep)) [101, 69] = 0
      unfold Lib.indexAny
      rw [if_pos]
      rcases hc with rfl | rfl <;> rfl
    rw [h0]; simp
theorem digs_head {l : List UInt8} (h : digs l) (h0 : l ≠ []) : ∃ c r, l = c :: r ∧ isD c = true := by
  cases l with
  | nil => exact absurd rfl h0
  | cons c r => exact ⟨c, r, rfl, h c (by simp)⟩
theorem trim_sign {c : UInt8} {sg ep : List UInt8} (h : OkE (some (c, sg, ep))) : Lib.trimLeftS (sg ++ ep) [43, 45] = ep := by
  obtain ⟨_, hs, hd, h0⟩ := h
  obtain ⟨d, r, rfl, hc⟩ := digs_head hd h0
  obtain ⟨h1, h2, _⟩ := D_ne hc
  have hx : ([43, 45] : List UInt8).contains d = false := by simp [h1, h2]
  unfold Lib.trimLeftS
  rcases hs with rfl | rfl | rfl
  · rw [List.nil_append, List.dropWhile_cons, if_neg (by rw [hx]; simp)]
  · rw [List.singleton_append, List.dropWhile_cons, if_pos (by decide), List.dropWhile_cons, if_neg (by rw [hx]; simp)]
  · rw [List.singleton_append, List.dropWhile_cons, if_pos (by decide), List.dropWhile_cons, if_neg (by rw [hx]; simp)]
theorem body_take {n : Num} : n.body.take n.head.length = n.head := by unfold Num.body; simp
theorem body_drop {n : Num} {c : UInt8} {sg ep : List UInt8} (he : n.e = some (c, sg, ep)) : n.body.drop (n.head.length + 1) = sg ++ ep := by
  unfold Num.body
  rw [he, ← List.drop_drop]
  simp [eoT]
theorem body_sign {n : Num} {c : UInt8} {sg ep : List UInt8} (h : n.Ok) (he : n.e = some (c, sg, ep)) : (n.body[n.head.length + 1]? = some 45) ↔ sg = [45] := by
  have e1 : n.body[n.head.length + 1]? = (sg ++ ep)[0]? := by rw [← body_drop he]; simp
  have hok := h.e
  rw [he] at hok
  obtain ⟨_, hs, hd, h0⟩ := hok
  obtain ⟨d, r, rfl, hc⟩ := digs_head hd h0
  rw [e1]
  rcases hs with rfl | rfl | rfl
  · simp; exact (D_ne hc).1
  · simp
  · simp
theorem byte_skip (l r : List UInt8) (h : ∀ b ∈ l, b ≠ 46) : Lib.indexByte (l ++ r) 46 = if Lib.indexByte r 46 = -1 then -1 else Lib.indexByte r 46 + l.length := by
  induction l with
  | nil => simp
  | cons b l ih =>
    have h1 := h b (by simp)
    rw [List.cons_append, byte_cons, ih (fun b hb => h b (by simp [hb]))]
    have hc : (b == 46) = false := by simp [h1]
    rw [hc]
    have hge := Lib.indexByte_ge r 46
    by_cases hr : Lib.indexByte r 46 = -1
    · simp [hr]
    · have h3 : Lib.indexByte r 46 + (l.length : Int) ≠ -1 := by omega
      simp [hr, h3]; omega
theorem byte_head {n : Num} (h : n.Ok) : Lib.indexByte n.head 46 = match n.f with | none => -1 | some _ => (n.ip.length : Int) := by
  unfold Num.head
  rw [byte_skip _ _ (fun b hb => (D_ne (h.ip b hb)).2.2.1)]
  cases hf : n.f with
  | none => rfl
  | some f => simp [foT, Lib.indexByte]
theorem contains_nz (b : UInt8) : ([48] : List UInt8).contains b = nz b := by simp [nz]; rw [Bool.eq_iff_iff]; simp
theorem trimL_all (l : List UInt8) : Lib.trimLeftS l [48] = lead l := by
  unfold Lib.trimLeftS lead
  congr 1; funext b; exact contains_nz b
theorem trimR_short (l : List UInt8) : Lib.trimRightS l [48] = trail l := by
  unfold Lib.trimRightS trail
  congr 2; funext b; exact contains_nz b
theorem ascii_text {n : Num} (h : n.Ok) : ∀ b ∈ n.body, b.toNat < 128 := by
  have hd : ∀ b, isD b = true → b.toNat < 128 := by
    intro b hb
    simp only [isD, Bool.and_eq_true, decide_eq_true_eq] at hb
    omega
  intro b hb
  unfold Num.body Num.head at hb
  rcases List.mem_append.1 hb with hb | hb
  · rcases List.mem_append.1 hb with hb | hb
    · exact hd b (h.ip b hb)
    · cases hf : n.f with
      | none => rw [hf] at hb; cases hb
      | some f =>
        rw [hf] at hb
        rcases List.mem_cons.1 hb with rfl | hb
        · decide
        · have := h.f; rw [hf] at this; exact hd b (this b hb)
  · cases he : n.e with
    | none => rw [he] at hb; cases hb
    | some x =>
      obtain ⟨c, sg, ep⟩ := x
      have hok := h.e
      rw [he] at hb hok
      obtain ⟨h1, h2, h3, h4⟩ := hok
      rcases List.mem_cons.1 hb with rfl | hb
      · have hc : b = 101 ∨ b = 69 := by simpa [isE] using h1
        rcases hc with rfl | rfl <;> decide
      · rcases List.mem_append.1 hb with hb | hb
        · rcases h2 with rfl | rfl | rfl
          · cases hb
          · rw [List.mem_singleton.1 hb]; decide
          · rw [List.mem_singleton.1 hb]; decide
        · exact hd b (h3 b hb)
/-! ### digits -/
theorem dv_append (n : Nat) (l r : List UInt8) : dv n (l ++ r) = dv (dv n l) r := by unfold dv; rw [List.foldl_append]
theorem dv_take (l : List UInt8) {i : Nat} (h : i < l.length) : dv 0 (l.take (i + 1)) = 10 * dv 0 (l.take i) + (l[i].toNat - 48) := by
  rw [List.take_succ_eq_append_getElem h, dv_append]; rfl
theorem dv_ge (l : List UInt8) : ∀ n, n ≤ dv n l := by
  induction l with
  | nil => intro n; exact Nat.le_refl n
  | cons b l ih => intro n; exact Nat.le_trans (by omega) (ih (10 * n + (b.toNat - 48)))
theorem dv_mono (l : List UInt8) (i : Nat) : dv 0 (l.take i) ≤ dv 0 l := by
  have := dv_append 0 (l.take i) (l.drop i)
  rw [List.take_append_drop] at this
  rw [this]; exact dv_ge _ _
def dC (l : List UInt8) : Nat := if dv 0 l ≤ 9007199254740991 then dv 0 l else 9007199254740991
theorem dC_cap (l : List UInt8) : min (dC l) 1099511627776 = cap40 (dv 0 l) := by unfold dC cap40; split <;> split <;> omega
end Tg.Nu
/-! ### the reference's way -/
namespace Tg.Nu
def rstep (x : Bool × List UInt8 × Int) (b : UInt8) : Bool × List UInt8 × Int :=
  if b = 46 then (true, x.2.1, x.2.2) else (x.1, if x.2.1 ≠ [] ∨ b ≠ 48 then x.2.1 ++ [b] else x.2.1, if x.1 then x.2.2 - 1 else x.2.2)
def rfold (l : List UInt8) : Bool × List UInt8 × Int := l.foldl rstep (false, [], 0)
def cat (d l : List UInt8) : List UInt8 := if d ≠ [] then d ++ l else lead l
theorem cat_cons (d l : List UInt8) (b : UInt8) : cat (if d ≠ [] ∨ b ≠ 48 then d ++ [b] else d) l = cat d (b :: l) := by
  unfold cat
  by_cases hd : d = []
  · subst hd
    by_cases hb : b = 48
    · subst hb; simp [lead, nz]
    · simp [hb, lead, nz]
  · simp [hd]
theorem rfold_run (l : List UInt8) (h : ∀ b ∈ l, b ≠ 46) : ∀ (pt : Bool) (d : List UInt8) (e : Int), l.foldl rstep (pt, d, e) = (pt, if l = [] then d else cat d l, if pt then e - l.length else e) := by
  induction l with
  | nil => intro pt d e; cases pt <;> simp
  | cons b l ih =>
    intro pt d e
    have hb := h b (by simp)
    have e1 : rstep (pt, d, e) b = (pt, if d ≠ [] ∨ b ≠ 48 then d ++ [b] else d, if pt then e - 1 else e) := by unfold rstep; rw [if_neg hb]
    rw [List.foldl_cons, e1, ih (fun b hb => h b (by simp [hb]))]
    by_cases hl : l = []
    · subst hl
      have := cat_cons d [] b
      unfold cat at this
      cases pt <;> by_cases hd : d = [] <;> by_cases hb48 : b = 48 <;> simp_all [cat, lead, nz]
    · rw [if_neg hl, cat_cons d l b, if_neg (show ¬ (b :: l = []) by simp)]
      cases pt <;> simp; omega
theorem lead_app (a b : List UInt8) : lead (a ++ b) = if lead a ≠ [] then lead a ++ b else lead b := by
  unfold lead
  induction a with
  | nil => simp
  | cons x a ih =>
    rw [List.cons_append, List.dropWhile_cons, List.dropWhile_cons]
    by_cases hx : nz x = true
    · rw [if_pos hx, if_pos hx]; exact ih
    · rw [if_neg hx, if_neg hx]; simp
theorem rfold_head {n : Num} (h : n.Ok) : (rfold n.head).2 = (n.all, -(n.fp.length : Int)) := by
  have h46 : ∀ b ∈ n.ip, b ≠ 46 := fun b hb => (D_ne (h.ip b hb)).2.2.1
  unfold rfold Num.head
  rw [List.foldl_append, rfold_run _ h46, if_neg h.ip0]
  have hc : cat [] n.ip = lead n.ip := by simp [cat]
  rw [hc]
  unfold Num.all Num.fp
  cases hf : n.f with
  | none => simp [foT]
  | some f =>
    have hF := h.f
    rw [hf] at hF
    have hf46 : ∀ b ∈ f, b ≠ 46 := fun b hb => (D_ne (hF b hb)).2.2.1
    show (f.foldl rstep (rstep (false, lead n.ip, 0) 46)).2 = _
    have e1 : rstep (false, lead n.ip, 0) 46 = (true, lead n.ip, 0) := rfl
    rw [e1, rfold_run _ hf46]
    dsimp only
    by_cases hf0 : f = []
    · subst hf0; simp
    · rw [if_neg hf0, lead_app]
      unfold cat
      simp
theorem rfold_take (l : List UInt8) {i : Nat} (h : i < l.length) : rfold (l.take (i + 1)) = rstep (rfold (l.take i)) l[i] := by
  unfold rfold
  rw [List.take_succ_eq_append_getElem h, List.foldl_append]; rfl
theorem rfold_bound (l : List UInt8) : (rfold l).2.1.length ≤ l.length ∧ -(l.length : Int) ≤ (rfold l).2.2 ∧ (rfold l).2.2 ≤ 0 := by
  have : ∀ (l : List UInt8) (x : Bool × List UInt8 × Int), (l.foldl rstep x).2.1.length ≤ x.2.1.length + l.length ∧ x.2.2 - l.length ≤ (l.foldl rstep x).2.2 ∧ (l.foldl rstep x).2.2 ≤ x.2.2 := by
    intro l
    induction l with
    | nil => intro x; simp
    | cons b l ih =>
      intro x
      have hi := ih (rstep x b)
      have h1 : (rstep x b).2.1.length ≤ x.2.1.length + 1 ∧ x.2.2 - 1 ≤ (rstep x b).2.2 ∧ (rstep x b).2.2 ≤ x.2.2 := by
        unfold rstep
        split
        · simp; omega
        · refine ⟨?_, ?_, ?_⟩
          · dsimp only; split <;> simp
          · dsimp only; split <;> omega
          · dsimp only; split <;> omega
      rw [List.foldl_cons, List.length_cons]
      omega
  have := this l (false, [], 0)
  simp at this
  exact ⟨this.1, by unfold rfold; omega, this.2.2⟩
/-- a digit less at the end -/
theorem trail_last (l : List UInt8) (h : l ≠ []) (hz : l.getLast h = 48) : trail l = trail l.dropLast := by
  unfold trail
  congr 1
  have e : l.reverse = 48 :: l.dropLast.reverse := by
    conv => lhs; rw [← List.dropLast_concat_getLast h, hz]
    simp
  rw [e, List.dropWhile_cons, if_pos (by rfl)]
theorem trail_stay (l : List UInt8) (h : l = [] ∨ ∃ h : l ≠ [], l.getLast h ≠ 48) : trail l = l := by
  unfold trail
  rcases h with rfl | ⟨h, hz⟩
  · rfl
  · have e : l.reverse = l.getLast h :: l.dropLast.reverse := by
      conv => lhs; rw [← List.dropLast_concat_getLast h]
      simp
    rw [e, List.dropWhile_cons, if_neg (by simpa [nz] using hz), ← e, List.reverse_reverse]
end Tg.Nu
/-
  Layer 26 (url): what the code's functions come to: ports, and what stands ahead of a byte.
-/
set_option linter.unusedSimpArgs false
set_option linter.unusedVariables false
set_option maxRecDepth 100000
namespace Go.Proofs.YthgcgjpbhbikaaaGreatDoor
open Go.Lg Go.Tg
section
open Tg.Nu
variable {H : LH} {b : UInt8} {s t : List UInt8}
theorem digit_l : LC Tryz.prog EJ 131 [.int .u8 b.toNat] H = some (.bool (isD b), H) := Digit_cl
theorem digits_l (hs : s.length ≤ 1048576) : LC Tryz.prog EJ 115 [str s] H = some (.int .i64 ((s.takeWhile isD).length : Nat), H) := by
  refine LC_pure rfl Tryz.func115 rfl (Nat.le_of_ble_eq_true rfl) (by decide) (by kernel_rfl) rfl ?_
  simp
  refine loop_ind (fun (i : Nat) fr' H' => fr' 0 = str s ∧ fr' 3 = .int .i64 i ∧ i ≤ s.length ∧ (s.takeWhile isD).length = i + ((s.drop i).takeWhile isD).length ∧ H' = H) (fun i => s.length - i) 0 (by simp) ?_
  rintro i fr' H' ⟨h0, h3, hi, hr, rfl⟩ ih
  by_cases hlt : i < s.length
  · have hd := List.drop_eq_getElem_cons hlt
    rw [hd, List.takeWhile_cons] at hr
    cases hc : isD s[i] with
    | true =>
      rw [hc, if_pos rfl, List.length_cons] at hr
      have hw : IntKind.i64.wrap ((i : Int) + 1) = ((i + 1 : Nat) : Int) := by rw [wrap64_in (by omega) (by omega)]; omega
      simp [h0, h3, hlt, digit_l, at_in hlt, hc, hw]
      exact ih (i + 1) _ _ (by omega) ⟨by simp [h0], by simp, hlt, by omega, rfl⟩
    | false =>
      rw [hc, if_neg (by simp)] at hr
      simp [h0, h3, hlt, digit_l, at_in hlt, hc]
      simp at hr; omega
  · rw [List.drop_eq_nil_of_le (by omega)] at hr
    simp [h0, h3, hlt]
    simp at hr; omega
theorem value_l (hd : digs s) (hs : s.length ≤ 1048576) : LC Tryz.prog EJ 116 [str s] H = some (.tuple #[.int .i64 (dC s : Nat), .bool (decide (dv 0 s ≤ 9007199254740991))], H) := by
  refine LC_pure rfl Tryz.func116 rfl (Nat.le_of_ble_eq_true rfl) (by decide) (by kernel_rfl) rfl ?_
  simp
  refine loop_ind (fun (i : Nat) fr' H' => fr' 0 = str s ∧ fr' 4 = .int .i64 (dv 0 (s.take i) : Nat) ∧ fr' 7 = .int .i64 s.length ∧ fr' 8 = .int .i64 i ∧ i ≤ s.length ∧ dv 0 (s.take i) ≤ 9007199254740991 ∧ H' = H) (fun i => s.length - i) 0 (by simp [dv]) ?_
  rintro i fr' H' ⟨h0, h4, h7, h8, hi, hm, rfl⟩ ih
  by_cases hlt : i < s.length
  · have hD := hd s[i] (List.getElem_mem hlt)
    simp only [isD, Bool.and_eq_true, decide_eq_true_eq] at hD
    have ht := dv_take s hlt
    have hmono := dv_mono s (i + 1)
    have hw1 : IntKind.i64.wrap ((dv 0 (s.take i) : Int) * 10) = (dv 0 (s.take i) : Int) * 10 := by rw [wrap64_in (by omega) (by omega)]
    have hw2 : IntKind.u8.wrap ((s[i].toNat : Int) - 48) = ((s[i].toNat - 48 : Nat) : Int) := by
      have := s[i].toNat_lt
      rw [show IntKind.u8.wrap ((s[i].toNat : Int) - 48) = ((s[i].toNat : Int) - 48) % 256 from IntKind.wrap_u8 _]; omega
    have hw3 : IntKind.i64.wrap ((s[i].toNat - 48 : Nat) : Int) = ((s[i].toNat - 48 : Nat) : Int) := by rw [wrap64_in (by omega) (by omega)]
    have hw4 : IntKind.i64.wrap ((dv 0 (s.take i) : Int) * 10 + ((s[i].toNat - 48 : Nat) : Int)) = ((dv 0 (s.take (i + 1)) : Nat) : Int) := by rw [wrap64_in (by omega) (by omega)]; omega
    have hw : IntKind.i64.wrap ((i : Int) + 1) = ((i + 1 : Nat) : Int) := by rw [wrap64_in (by omega) (by omega)]; omega
    by_cases hbig : dv 0 (s.take (i + 1)) ≤ 9007199254740991
    · have f := eq_false (show ¬ 9007199254740991 < ((dv 0 (s.take (i + 1)) : Nat) : Int) by omega)
      simp [h0, h4, h7, h8, hlt, at_in hlt, hw1, hw2, hw3, hw4, hw, f]
      exact ih (i + 1) _ _ (by omega) ⟨by simp [h0], by simp, by simp [h7], by simp, hlt, hbig, rfl⟩
    · have f := eq_true (show 9007199254740991 < ((dv 0 (s.take (i + 1)) : Nat) : Int) by omega)
      have e1 : ¬ dv 0 s ≤ 9007199254740991 := by omega
      have e2 : dC s = 9007199254740991 := by unfold dC; rw [if_neg e1]
      simp [h0, h4, h7, h8, hlt, at_in hlt, hw1, hw2, hw3, hw4, hw, f, e1, e2]
  · have e : s.take i = s := List.take_of_length_le (by omega)
    rw [e] at hm h4
    have e2 : dC s = dv 0 s := by unfold dC; rw [if_pos hm]
    simp [h0, h4, h7, h8, hlt, hm, e2]
/-- strings.Cut at one byte -/
theorem cutlite_some {c : UInt8} {o : Nat} (h : Lib.indexByte s c = o) (hs : s.length ≤ 9223372036854775806) : LC Tryz.prog EJ 82 [str s, str [c]] H = some (.tuple #[str (s.take o), str (s.drop (o + 1)), .bool true], H) := by
  refine LC_pure rfl Tryz.func82 rfl (Nat.le_of_ble_eq_true rfl) (by decide) (by kernel_rfl) rfl ?_
  have hlt : o < s.length := (List.getElem?_eq_some_iff.1 (Lib.indexByte_some h).1).1
  have hw : IntKind.i64.wrap ((o : Int) + 1) = (o : Int) + 1 := by rw [wrap64_in (by omega) (by omega)]
  have e1 : ((o : Int) + 1).toNat = o + 1 := by omega
  have f1 := eq_true (show (o : Int) ≤ s.length by omega)
  have f2 := eq_true (show (o : Int) + 1 ≤ s.length by omega)
  have f3 := eq_true (show (0 : Int) ≤ (o : Int) + 1 by omega)
  simp [h, hw, e1, f1, f2, f3]
theorem cutlite_none {c : UInt8} (h : Lib.indexByte s c = -1) : LC Tryz.prog EJ 82 [str s, str [c]] H = some (.tuple #[str s, str [], .bool false], H) := by
  refine LC_pure rfl Tryz.func82 rfl (Nat.le_of_ble_eq_true rfl) (by decide) (by kernel_rfl) rfl ?_
  simp [h]
theorem scut_some {c : UInt8} {o : Nat} (h : Lib.indexByte s c = o) (hs : s.length ≤ 9223372036854775806) : LC Tryz.prog EJ 58 [str s, str [c]] H = some (.tuple #[str (s.take o), str (s.drop (o + 1)), .bool true], H) := by
  refine LC_pure rfl Tryz.func58 rfl (Nat.le_of_ble_eq_true rfl) (by decide) (by kernel_rfl) rfl ?_
  simp [cutlite_some h hs]
theorem scut_none {c : UInt8} (h : Lib.indexByte s c = -1) : LC Tryz.prog EJ 58 [str s, str [c]] H = some (.tuple #[str s, str [], .bool false], H) := by
  refine LC_pure rfl Tryz.func58 rfl (Nat.le_of_ble_eq_true rfl) (by decide) (by kernel_rfl) rfl ?_
  simp [cutlite_none h]

theorem tw_all : ∀ {s : List UInt8}, s.all isD = true → s.takeWhile isD = s
  | [], _ => rfl
  | b :: r, h => by
    simp only [List.all_cons, Bool.and_eq_true] at h
    rw [List.takeWhile_cons, if_pos h.1, tw_all h.2]
theorem tw_lt : ∀ {s : List UInt8}, s.all isD = false → (s.takeWhile isD).length < s.length
  | [], h => by simp at h
  | b :: r, h => by
    rw [List.takeWhile_cons]
    by_cases hb : isD b = true
    · rw [if_pos hb]
      simp only [List.all_cons, hb, Bool.true_and] at h
      have := tw_lt h
      simp; omega
    · rw [if_neg hb]; simp
theorem dparse_cl (hs : s.length ≤ 1048576) : LC Tryz.prog EJ 79 [str s] H = some (.tuple #[.int .i64 (if s = [] ∨ s.all isD = false then 0 else if 9007199254740991 < dv 0 s then 0 else (dv 0 s : Nat)), .int .i64 (if s = [] ∨ s.all isD = false then 2 else if 9007199254740991 < dv 0 s then 9 else 0)], H) := by
  have key : LC Tryz.prog EJ 100 [str s] H = some (.tuple #[.int .i64 (if s = [] ∨ s.all isD = false then 0 else if 9007199254740991 < dv 0 s then 0 else (dv 0 s : Nat)), .int .i64 (if s = [] ∨ s.all isD = false then 2 else if 9007199254740991 < dv 0 s then 9 else 0)], H) := by
    refine LC_pure rfl Tryz.func100 rfl (Nat.le_of_ble_eq_true rfl) (by decide) (by kernel_rfl) rfl ?_
    have h1 := fun H : LH => digits_l (H := H) hs
    by_cases h0 : s = []
    · subst h0; simp
    cases ha : s.all isD with
    | false =>
      have hlt := tw_lt ha
      have q := eq_true (show ((s.takeWhile isD).length : Int) < (s.length : Int) by omega)
      rw [if_pos (.inr rfl), if_pos (.inr rfl)]
      generalize (s.takeWhile isD).length = n at *
      simp [h0, h1, q]
    | true =>
      have e := tw_all ha
      have hd : digs s := fun b hb => List.all_eq_true.mp ha b hb
      have h2 := fun H : LH => value_l (H := H) hd hs
      rw [e] at h1
      by_cases hbig : 9007199254740991 < dv 0 s
      · have hn : ¬ dv 0 s ≤ 9007199254740991 := by omega
        rw [decide_eq_false hn] at h2
        simp [h0, h1, h2, hbig]
      · have hn : dv 0 s ≤ 9007199254740991 := by omega
        have hC : dC s = dv 0 s := by unfold dC; rw [if_pos hn]
        rw [decide_eq_true hn, hC] at h2
        simp [h0, h1, h2, hbig]
  refine LC_pure rfl Tryz.func79 rfl (Nat.le_of_ble_eq_true rfl) (by decide) (by kernel_rfl) rfl ?_
  simp [key]
theorem any_upto (s p : List UInt8) : (Lib.indexAny s p = -1 ∧ Tg.Ur.upto p s = s.length) ∨ (Lib.indexAny s p = (Tg.Ur.upto p s : Nat) ∧ Tg.Ur.upto p s < s.length) := by
  induction s with
  | nil => left; simp [Lib.indexAny, Tg.Ur.upto]
  | cons b r ih =>
    unfold Lib.indexAny
    unfold Tg.Ur.upto at ih ⊢
    rw [List.takeWhile_cons]
    cases hc : p.contains b with
    | true => right; simp
    | false =>
      simp only [Bool.not_false, if_true, Bool.false_eq_true, if_false, List.length_cons]
      rcases ih with ⟨h1, h2⟩ | ⟨h1, h2⟩
      · left; rw [h1, h2]; simp
      · right
        rw [h1, if_neg (by simp)]
        exact ⟨by omega, by omega⟩
end
end Go.Proofs.YthgcgjpbhbikaaaGreatDoor
/-
  Layer 40 (script): signs, by the code.
-/
set_option linter.unusedSimpArgs false
set_option linter.unusedVariables false
set_option maxRecDepth 100000
namespace Go.Proofs.YthgcgjpbhbikaaaGreatDoor.Sc
open Go.Lg Go.Tg
section
variable {H : LH} {b : UInt8} {s t : List UInt8}
theorem srow_str {N : Nat} {v : Value} {l : List UInt8} (h : RowN N H 5 1 v l.length (l.map bv)) (hv : v ≠ .slice none 0 0) : ∃ k c, v = sl k l.length c ∧ lconv Tryz.prog 59 9 (sl k l.length c) H = some (str l) := by
  rcases h.2 with ⟨e, h0⟩ | ⟨k, c, rest, e, g1, g2, g3, g4, g5⟩
  · exact absurd e hv
  · refine ⟨k, c, e, lconv_bs (e := 5) Tryz.underlying59 Tryz.underlying9 Tryz.underlying5 g3 (by simp) ?_⟩
    have : ((l.map bv ++ rest).drop 0).take l.length = l.map bv := by simp
    rw [this]; exact lbs_map l
theorem sbyte_app {v : Value} {N : Nat} {l : List UInt8} {x : UInt8} (h : RowN N H 5 1 v l.length (l.map bv)) (hN : N ≤ H.n) (hl : l.length ≤ 1000000) :
    ∃ v' H2, lapp Tryz.prog 59 v (some (1, [.int .u8 x.toNat])) (H.new ⟨[.int .u8 x.toNat], 5, true⟩) = some (v', H2) ∧ RowN N H2 5 1 v' (l ++ [x]).length ((l ++ [x]).map bv) ∧ N ≤ H2.n ∧ ∀ k, k < N → H2.get k = H.get k := by
  have h2 : RowN N (H.new ⟨[.int .u8 x.toNat], 5, true⟩) 5 1 v l.length (l.map bv) := h.keep (Nat.le_succ _) (fun k _ _ hk => get_new_ne (by omega))
  obtain ⟨v', H2, ha, hr, hk, _⟩ := h2.app (t := 59) (new := [x].map bv) (m := 1) Tryz.underlying59 (by kernel_rfl) (bv_cells [x]) (by simp) (by unfold maxElems; omega) (by rw [n_new]; omega) (.inl (Nat.le_refl 1))
  refine ⟨v', H2, ha, by rw [List.length_append, List.map_append]; exact hr, Nat.le_trans (by rw [n_new]; omega) hk.le, fun k hkn => ?_⟩
  rw [hk.get k (by rw [n_new]; omega) (h.off_lt hkn), get_new_ne (by omega)]
theorem hexl_at {n : Nat} : at_ [48, 49, 50, 51, 52, 53, 54, 55, 56, 57, 97, 98, 99, 100, 101, 102] (n : Int) = Tg.Sc.hd16 n := by
  unfold at_ Tg.Sc.hd16; rw [Int.toNat_natCast]; rfl
theorem conv3s {y z : UInt8} : lconv Tryz.prog 59 9 (sl H.n 3 3) (H.new ⟨[.int .u8 92, .int .u8 y.toNat, .int .u8 z.toNat], 5, true⟩) = some (str [92, y, z]) :=
  lconv_bs (e := 5) Tryz.underlying59 Tryz.underlying9 Tryz.underlying5 get_new (by simp) (by show lbs [bv 92, bv y, bv z] = _; exact lbs_map [92, y, z])
theorem mark_cl : LC Tryz.prog EJ 64 [.int .u8 b.toNat] H = some (str (Tg.Sc.mark b), H) := by
  refine LC_pure rfl Tryz.func64 rfl (Nat.le_of_ble_eq_true rfl) (by decide) (by kernel_rfl) rfl ?_
  obtain ⟨e1, e2, e3, e4⟩ := nib b
  have e1 : (b.toNat : Int).fdiv (2 ^ min 4 IntKind.u8.bits) = ((b.toNat / 16 : Nat) : Int) := e1
  have g1 := hexl_at (n := b.toNat / 16)
  have g2 := hexl_at (n := b.toNat % 16)
  have q5 := eq_true (show ((b.toNat / 16 : Nat) : Int) < 16 by omega)
  have q6 := eq_true (show ((b.toNat % 16 : Nat) : Int) < 16 by omega)
  unfold Tg.Sc.mark
  generalize b.toNat / 16 = n1 at *
  generalize b.toNat % 16 = n2 at *
  have hw : ∀ n : Nat, n < 16 → IntKind.u8.wrap (n : Int) = (n : Int) := fun n h => by rw [wrap8]; omega
  have hwa := hw n1 e3
  have hwb := hw n2 e4
  simp [e1, e2, g1, g2, q5, q6, hwa, hwb, conv3s]
theorem flat_drop {i : Nat} (h : i < s.length) : (s.drop i).flatMap Tg.Sc.sign = Tg.Sc.sign s[i] ++ (s.drop (i + 1)).flatMap Tg.Sc.sign := by
  rw [List.drop_eq_getElem_cons h, List.flatMap_cons]
theorem escape_cl (hs : s.length ≤ 300000) : LC Tryz.prog EJ 39 [str s] H = some (str (Tg.Sc.esc s), H) := by
  refine LC_pure rfl Tryz.func39 rfl (Nat.le_of_ble_eq_true rfl) (by decide) (by kernel_rfl) rfl ?_
  unfold Tg.Sc.esc
  by_cases h0 : s = []
  · subst h0; simp
  by_cases h1 : s = [45]
  · subst h1
    have hm := fun H : LH => mark_cl (H := H) (b := 45)
    have hm : ∀ H : LH, LC Tryz.prog EJ 64 [.int .u8 45] H = some (str (Tg.Sc.mark 45), H) := hm
    have a0 : at_ [45] 0 = (45 : UInt8) := rfl
    have a1 : (UInt8.toNat 45 : Int) = 45 := rfl
    simp [a0, a1, hm]
  rw [if_neg h0, if_neg h1]
  simp [h0, h1]
  have hN : H.n ≤ H.n := Nat.le_refl _
  refine loop_ind (fun (i : Nat) fr' H' => fr' 0 = str s ∧ fr' 3 = ptr H.n 0 ∧ fr' 14 = .int .i64 s.length ∧ fr' 15 = .int .i64 i ∧ i ≤ s.length ∧ (∃ l v, Bld H.n H' H.n l v ∧ s.flatMap Tg.Sc.sign = l ++ (s.drop i).flatMap Tg.Sc.sign ∧ l.length ≤ 3 * i) ∧ ∀ k, k < H.n → H'.get k = H.get k) (fun i => s.length - i) 0 ⟨by simp, by simp, by simp, by simp, Nat.zero_le _, ⟨[], _, Bld.first, by simp, by simp⟩, fun k hk => get_new_ne (by omega)⟩ ?_
  rintro i fr' H' ⟨f0, f3, f14, f15, hi, ⟨l, v, hb, hq, hl⟩, hle⟩ ih
  by_cases hlt : i < s.length
  · have q0 := eq_true (show (i : Int) < (s.length : Int) by omega)
    have hat : at_ s (i : Int) = s[i] := at_in hlt
    have hw1 : IntKind.i64.wrap ((i : Int) + 1) = ((i + 1 : Nat) : Int) := by rw [wrapI (by omega) (by omega)]; omega
    rw [flat_drop hlt] at hq
    generalize s[i] = c at *
    have hsl : (Tg.Sc.sign c).length ≤ 3 := by unfold Tg.Sc.sign Tg.Sc.mark; split <;> simp
    by_cases ho : Tg.Sc.odd c = true
    · have hsg : Tg.Sc.sign c = Tg.Sc.mark c := if_pos ho
      rw [hsg] at hq hsl
      obtain ⟨v', H2, w1, w2, w3⟩ := wstr_k (s := Tg.Sc.mark c) hb hN (by unfold maxElems; omega)
      have hmk := fun H : LH => mark_cl (H := H) (b := c)
      have hfin := fun fr2 (g0 : fr2 0 = str s) (g3 : fr2 3 = ptr H.n 0) (g14 : fr2 14 = .int .i64 s.length) (g15 : fr2 15 = .int .i64 ((i + 1 : Nat) : Int)) => ih (i + 1) fr2 H2 (by omega) ⟨g0, g3, g14, g15, by omega, ⟨l ++ Tg.Sc.mark c, v', w2, by rw [hq, List.append_assoc], by rw [List.length_append]; omega⟩, fun k hk => by rw [w3 k hk, hle k hk]⟩
      clear ih w2 w3 hq
      unfold Tg.Sc.odd at ho
      generalize Tg.Sc.mark c = m at *
      by_cases o1 : (c.toNat : Int) < 33
      · simp [f0, f3, f14, f15, q0, hat, o1, hmk, w1]
        refine hfin _ ?_ ?_ ?_ ?_
        all_goals simp [f0, f3, f14, hw1]
      · have o1 := eq_false o1
        by_cases o2 : (126 : Int) < c.toNat
        · simp [f0, f3, f14, f15, q0, hat, o1, o2, hmk, w1]
          refine hfin _ ?_ ?_ ?_ ?_
          all_goals simp [f0, f3, f14, hw1]
        · have o2 := eq_false o2
          have o3 : ((c.toNat : Int) = 92) = True := by
            simp only [o1, o2, decide_false, Bool.false_or, decide_eq_true_eq] at ho
            exact eq_true ho
          simp [f0, f3, f14, f15, q0, hat, o1, o2, o3, hmk, w1]
          refine hfin _ ?_ ?_ ?_ ?_
          all_goals simp [f0, f3, f14, hw1]
    · have hsg : Tg.Sc.sign c = [c] := if_neg ho
      rw [hsg] at hq hsl
      obtain ⟨v', H2, w1, w2, w3⟩ := wbyte_k (c := c) hb hN (by unfold maxElems; omega)
      have hfin := fun fr2 (g0 : fr2 0 = str s) (g3 : fr2 3 = ptr H.n 0) (g14 : fr2 14 = .int .i64 s.length) (g15 : fr2 15 = .int .i64 ((i + 1 : Nat) : Int)) => ih (i + 1) fr2 H2 (by omega) ⟨g0, g3, g14, g15, by omega, ⟨l ++ [c], v', w2, by rw [hq, List.append_assoc], by rw [List.length_append]; simp; omega⟩, fun k hk => by rw [w3 k hk, hle k hk]⟩
      clear ih w2 w3 hq
      unfold Tg.Sc.odd at ho
      simp only [Bool.not_eq_true, Bool.or_eq_false_iff, decide_eq_false_iff_not] at ho
      obtain ⟨⟨o1, o2⟩, o3⟩ := ho
      have o1 := eq_false o1
      have o2 := eq_false o2
      have o3 := eq_false o3
      simp [f0, f3, f14, f15, q0, hat, o1, o2, o3, w1]
      refine hfin _ ?_ ?_ ?_ ?_
      all_goals simp [f0, f3, f14, hw1]
  · have q0 := eq_false (show ¬ (i : Int) < (s.length : Int) by omega)
    rw [List.drop_of_length_le (by omega), List.flatMap_nil, List.append_nil] at hq
    obtain ⟨H2, b1, b2, b3⟩ := bstr_ex hb (by unfold maxLen; omega)
    simp [f0, f3, f14, f15, q0, b1, hq]
    exact ⟨by have := hb.lt; omega, fun k hk => by rw [b3 k hk, hle k hk]⟩
theorem hexs_cl : LC Tryz.prog EJ 63 [.int .u8 b.toNat] H = some (.tuple #[.int .i64 (Tg.Sc.hexv b : Nat), .bool (Tg.Ur.hx b).isSome], H) := by
  rw [hex_cl, Tg.Sc.hexv_hx]
theorem two_F : ∀ k : Fin 16, ∀ l : Fin 16, IntKind.u8.wrap (bOr .i64 (IntKind.i64.wrap ((k.1 : Int) * 2 ^ (min 4 IntKind.i64.bits))) (l.1 : Int)) = ((k.1 * 16 + l.1 : Nat) : Int) := by decide +kernel
theorem two_b {x y : Nat} (hx : x < 16) (hy : y < 16) : IntKind.u8.wrap (bOr .i64 (IntKind.i64.wrap ((x : Int) * 2 ^ (min 4 IntKind.i64.bits))) (y : Int)) = ((UInt8.ofNat (x * 16 + y)).toNat : Int) := by
  have h := two_F ⟨x, hx⟩ ⟨y, hy⟩
  dsimp only at h
  rw [h]
  have : (UInt8.ofNat (x * 16 + y)).toNat = x * 16 + y := by
    rw [UInt8.toNat_ofNat']; omega
  rw [this]
theorem conv_nil : lconv Tryz.prog 59 9 (.slice none 0 0) H = some (str []) := by kernel_rfl
theorem plain_cl (hs : s.length ≤ 300000) : LC Tryz.prog EJ 38 [str s] H = some (.tuple #[str (Tg.Sc.plainT s), .bool (Tg.Sc.plainB s)], H) := by
  refine LC_pure rfl Tryz.func38 rfl (Nat.le_of_ble_eq_true rfl) (by decide) (by kernel_rfl) rfl ?_
  have hpl := Tg.Sc.plain_len s
  have hesc := fun H : LH => escape_cl (H := H) (s := Tg.Sc.plainT s) (by omega)
  have hpb : Tg.Sc.plainB s = decide (Tg.Sc.esc (Tg.Sc.plainT s) = s) := rfl
  rw [hpb]
  simp
  by_cases h1 : s = [45]
  · subst h1
    have hp : Tg.Sc.plainT [45] = [] := rfl
    rw [hp] at hesc ⊢
    refine loop_ind (fun (i : Nat) fr' H' => fr' 0 = str [45] ∧ fr' 4 = .slice none 0 0 ∧ fr' 5 = .int .i64 0 ∧ H' = H) (fun i => 0) 0 ⟨by simp, by simp, by simp, rfl⟩ ?_
    rintro i fr' H' ⟨f0, f4, f5, rfl⟩ ih
    simp [f0, f4, f5, hesc, conv_nil]
  · have hpt : Tg.Sc.plainT s = Tg.Sc.dec s := if_neg h1
    refine loop_ind (fun (i : Nat) fr' H' => ∃ acc v, fr' 0 = str s ∧ fr' 4 = v ∧ fr' 5 = .int .i64 i ∧ i ≤ s.length ∧ acc ++ Tg.Sc.dec (s.drop i) = Tg.Sc.dec s ∧ acc.length ≤ i ∧ RowN H.n H' 5 1 v acc.length (acc.map bv) ∧ H.n ≤ H'.n ∧ ∀ k, k < H.n → H'.get k = H.get k) (fun i => s.length - i) 0 ⟨[], .slice none 0 0, by simp, by simp, by simp, Nat.zero_le _, by simp, by simp, RowN.nil, Nat.le_refl _, fun k hk => rfl⟩ ?_
    rintro i fr' H' ⟨acc, v, f0, f4, f5, hi, hd, hal, hrow, hn, hle⟩ ih
    subst f4
    by_cases hlt : i < s.length
    · have q0 := eq_true (show (i : Int) < (s.length : Int) by omega)
      have hat : at_ s (i : Int) = s[i] := at_in hlt
      have hw1 : IntKind.i64.wrap ((i : Int) + 1) = (i : Int) + 1 := wrapI (by omega) (by omega)
      have hw2 : IntKind.i64.wrap ((i : Int) + 2) = (i : Int) + 2 := wrapI (by omega) (by omega)
      have hw3 : IntKind.i64.wrap ((i : Int) + 2 + 1) = (i : Int) + 3 := by rw [wrapI (by omega) (by omega)]; omega
      rw [List.drop_eq_getElem_cons hlt] at hd
      by_cases hb : s[i] = 92 ∧ i + 2 < s.length
      · obtain ⟨hb, hlt2⟩ := hb
        have q2 := eq_true (show (i : Int) + 2 < (s.length : Int) by omega)
        have q1 := eq_true (show (i : Int) + 1 < (s.length : Int) by omega)
        have hat1 : at_ s ((i : Int) + 1) = s[i + 1] := at_in (i := i + 1) (by omega)
        have hat2 : at_ s ((i : Int) + 2) = s[i + 2] := at_in (i := i + 2) hlt2
        have hx1 := fun H : LH => hexs_cl (H := H) (b := s[i + 1])
        have hx2 := fun H : LH => hexs_cl (H := H) (b := s[i + 2])
        have h2 := two_b (Tg.Sc.hexv_lt s[i + 1]) (Tg.Sc.hexv_lt s[i + 2])
        rw [List.drop_eq_getElem_cons (show i + 1 < s.length by omega), List.drop_eq_getElem_cons (show i + 1 + 1 < s.length by omega), hb, Tg.Sc.dec_two] at hd
        have e3 : Tg.Sc.byte2 s[i + 1] s[i + 1 + 1] = UInt8.ofNat (Tg.Sc.hexv s[i + 1] * 16 + Tg.Sc.hexv s[i + 2]) := rfl
        rw [e3] at hd
        generalize UInt8.ofNat (Tg.Sc.hexv s[i + 1] * 16 + Tg.Sc.hexv s[i + 2]) = c at *
        obtain ⟨v', H2, ha, hr, hn2, hk2⟩ := sbyte_app (x := c) hrow hn (by omega)
        have hfin := fun fr2 (g0 : fr2 0 = str s) (g4 : fr2 4 = v') (g5 : fr2 5 = .int .i64 ((i + 3 : Nat) : Int)) => ih (i + 3) fr2 H2 (by omega) ⟨acc ++ [c], v', g0, g4, g5, by omega, by rw [List.append_assoc]; exact hd, by rw [List.length_append]; simp; omega, hr, hn2, fun k hk => by rw [hk2 k hk, hle k hk]⟩
        clear ih hd hr
        generalize s[i + 1] = y1 at *
        generalize s[i + 2] = y2 at *
        have p1 := eq_true (show (0 : Int) ≤ (i : Int) + 1 by omega)
        have p2 := eq_true (show (0 : Int) ≤ (i : Int) + 2 by omega)
        simp [f0, f5, q0, h1, hat, hb, q2, q1, hat1, hat2, hx1, hx2, h2, hw1, hw2, ha, p1, p2]
        refine hfin _ ?_ ?_ ?_
        all_goals simp [f0, hw1, hw2, hw3]
      · have hdd : Tg.Sc.dec (s[i] :: s.drop (i + 1)) = s[i] :: Tg.Sc.dec (s.drop (i + 1)) := by
          by_cases h9 : s[i] = 92
          · have hsh : ¬ i + 2 < s.length := fun h => hb ⟨h9, h⟩
            exact Tg.Sc.dec_short (by rw [List.length_drop]; omega)
          · exact Tg.Sc.dec_one h9 _
        rw [hdd] at hd
        obtain ⟨v', H2, ha, hr, hn2, hk2⟩ := sbyte_app (x := s[i]) hrow hn (by omega)
        have hfin := fun fr2 (g0 : fr2 0 = str s) (g4 : fr2 4 = v') (g5 : fr2 5 = .int .i64 ((i + 1 : Nat) : Int)) => ih (i + 1) fr2 H2 (by omega) ⟨acc ++ [s[i]], v', g0, g4, g5, by omega, by rw [List.append_assoc]; exact hd, by rw [List.length_append]; simp; omega, hr, hn2, fun k hk => by rw [hk2 k hk, hle k hk]⟩
        have q9 : s[i] ≠ 92 → (((s[i]'hlt).toNat : Int) = 92) = False := fun h => eq_false (fun e => h (UInt8.toNat_inj.mp (by show (s[i]'hlt).toNat = 92; omega)))
        clear ih hd hr
        generalize s[i] = c at *
        by_cases h9 : c = 92
        · have hsh : ¬ i + 2 < s.length := fun h => hb ⟨h9, h⟩
          have q9 : ((c.toNat : Int) = 92) = True := eq_true (by rw [h9]; rfl)
          have q2 := eq_false (show ¬ (i : Int) + 2 < (s.length : Int) by omega)
          simp [f0, f5, q0, h1, hat, q2, hw2, q9, ha]
          refine hfin _ ?_ ?_ ?_
          all_goals simp [f0, hw1]
        · have q9 := q9 h9
          simp [f0, f5, q0, h1, hat, q9, ha]
          refine hfin _ ?_ ?_ ?_
          all_goals simp [f0, hw1]
    · have q0 := eq_false (show ¬ (i : Int) < (s.length : Int) by omega)
      rw [List.drop_of_length_le (by omega), Tg.Sc.dec_nil, List.append_nil] at hd
      subst hd
      rw [hpt] at hesc ⊢
      rcases hrow.2 with ⟨e, h9⟩ | ⟨k, c, rest, e, _⟩
      · have hnil : Tg.Sc.dec s = [] := List.eq_nil_of_length_eq_zero h9
        rw [hnil] at hesc ⊢
        simp [f0, e, f5, q0, hesc, conv_nil]
        exact ⟨hn, hle⟩
      · obtain ⟨k2, c2, e2, hcv⟩ := srow_str hrow (by rw [e]; simp)
        simp [f0, e2, f5, q0, hcv, hesc]
        exact ⟨hn, hle⟩
theorem Plain_cl (hs : s.length ≤ 300000) : LC Tryz.prog EJ 16 [str s] H = some (.tuple #[str (if Tg.Sc.plainB s = true then Tg.Sc.plainT s else []), .bool (Tg.Sc.plainB s)], H) := by
  refine LC_pure rfl Tryz.func16 rfl (Nat.le_of_ble_eq_true rfl) (by decide) (by kernel_rfl) rfl ?_
  have hp := fun H : LH => plain_cl (H := H) hs
  cases hb : Tg.Sc.plainB s <;> rw [hb] at hp <;> simp [hp]
theorem Escape_cl (hs : s.length ≤ 300000) : LC Tryz.prog EJ 18 [str s] H = some (str (Tg.Sc.esc s), H) := by
  refine LC_pure rfl Tryz.func18 rfl (Nat.le_of_ble_eq_true rfl) (by decide) (by kernel_rfl) rfl ?_
  have hp := fun H : LH => escape_cl (H := H) hs
  simp [hp]
end
end Go.Proofs.YthgcgjpbhbikaaaGreatDoor.Sc
/-
  Layer 26 (url): what the code's functions come to: names of hosts, good places.
-/
set_option linter.unusedSimpArgs false
set_option linter.unusedVariables false
set_option maxRecDepth 100000
namespace Go.Proofs.YthgcgjpbhbikaaaGreatDoor
open Go.Lg Go.Tg
section
variable {H : LH} {b : UInt8} {s t : List UInt8}
theorem two_dots : ∀ s : List UInt8, Lib.contains s [46, 46] = Tg.Ur.twoDots s
  | [] => rfl
  | [b] => by
    unfold Tg.Ur.twoDots Lib.contains Lib.index
    by_cases hb : b = 46 <;> simp [hb, Lib.index, Tg.Ur.twoDots, List.isPrefixOf]
  | b :: c :: r => by
    have ih := two_dots (c :: r)
    have hge := Lib.index_ge (c :: r) [46, 46]
    unfold Lib.contains at ih ⊢
    unfold Lib.index
    by_cases h : b = 46 ∧ c = 46
    · obtain ⟨rfl, rfl⟩ := h
      simp [Tg.Ur.twoDots, List.isPrefixOf]
    · have hp : List.isPrefixOf [46, 46] (b :: c :: r) = false := by
        simp only [List.isPrefixOf, Bool.and_true]
        rw [Bool.eq_false_iff]
        intro e
        simp at e
        exact h ⟨e.1.symm, e.2.symm⟩
      have ht : Tg.Ur.twoDots (b :: c :: r) = Tg.Ur.twoDots (c :: r) := by
        conv => lhs; unfold Tg.Ur.twoDots
        split
        · rename_i e; simp at e; exact absurd ⟨e.1, e.2.1⟩ h
        · rename_i e; simp at e; rw [← e.2]
        · rename_i e; simp at e
      rw [hp, ht, ← ih]
      simp only [Bool.false_eq_true, if_false]
      by_cases hm : Lib.index (c :: r) [46, 46] = -1
      · simp [hm]
      · have : (Lib.index (c :: r) [46, 46] == -1) = false := by simp [hm]
        rw [this]
        simp only [Bool.false_eq_true, if_false, decide_eq_decide]
        omega
theorem any_free (p s : List UInt8) : decide (0 ≤ Lib.indexAny s p) = !Tg.Ur.free p s := by
  unfold Tg.Ur.free
  induction s with
  | nil => simp [Lib.indexAny]
  | cons b r ih =>
    have hge := Lib.indexAny_ge p r
    unfold Lib.indexAny
    cases hc : p.contains b with
    | true => simp only [List.all_cons, hc]; simp
    | false =>
      simp only [List.all_cons, hc, Bool.not_false, Bool.true_and, Bool.false_eq_true, if_false]
      rw [← ih]
      by_cases hm : Lib.indexAny r p = -1
      · simp [hm]
      · have : (Lib.indexAny r p == -1) = false := by simp [hm]
        rw [this]
        simp only [Bool.false_eq_true, if_false, decide_eq_decide]
        omega
theorem anyOf_cl {p : List UInt8} (h1 : s.length < 4294967281) (h2 : p.length < 4294967281) (h4 : ascL p) : LC Tryz.prog EJ 135 [str s, str p] H = some (.bool (!Tg.Ur.free p s), H) := by
  refine LC_pure rfl Tryz.func135 rfl (Nat.le_of_ble_eq_true rfl) (by decide) (by kernel_rfl) rfl ?_
  have hi := fun H : LH => indexAny_l (H := H) (s := s) h1 h2 h4
  have hf := any_free p s
  by_cases h0 : 0 ≤ Lib.indexAny s p
  · rw [decide_eq_true h0] at hf
    simp [hi, h0, ← hf]
  · rw [decide_eq_false h0] at hf
    simp [hi, h0, ← hf]
abbrev uv (u : Tg.Ur.Url) : Value := .agg #[str u.scheme, str u.host, .int .i64 u.port, str u.path, str u.query]
def placeB (u : Tg.Ur.Url) : Bool := decide (u.port = 0) || (decide (1 ≤ u.port) && decide (u.port ≤ 65535) && decide (u.port ≠ Tg.Ur.own u.scheme))
def pathB (u : Tg.Ur.Url) : Bool := decide (u.path[0]? = some 47) && decide (Tg.Ur.dots u.path = u.path) && decide (Tg.Ur.qt u.path = u.path) && Tg.Ur.free [63, 35] u.path
def queryB (u : Tg.Ur.Url) : Bool := decide (u.query = []) || (decide (u.query[0]? = some 63) && decide (Tg.Ur.qt u.query = u.query) && Tg.Ur.free [35] u.query)
theorem good_eq (u : Tg.Ur.Url) : Tg.Ur.good u = (decide (Tg.Ur.own u.scheme ≠ 0) && placeB u && pathB u && queryB u && Tg.Ur.named u.host) := rfl
end
end Go.Proofs.YthgcgjpbhbikaaaGreatDoor
/-
  Layer 26 (url): how long places' parts are, in plain words.
-/
set_option linter.unusedSimpArgs false
set_option linter.unusedVariables false
namespace Tg.Ur
theorem qt_len : ∀ (n : Nat) (s : List UInt8), s.length ≤ n → (qt s).length ≤ 3 * s.length
  | n, [], _ => by rw [qt]; simp
  | n, b :: r, h => by
    cases n with
    | zero => simp at h
    | succ n =>
      cases he : esc (b :: r) with
      | some e =>
        have hl := Go.Proofs.YthgcgjpbhbikaaaGreatDoor.esc_len he
        have ih := qt_len n (r.drop 2) (by simp at h ⊢; omega)
        rw [qt, he]
        simp at hl ih ⊢; omega
      | none =>
        have ih := qt_len n r (by simp at h ⊢; omega)
        rw [qt, he]
        have : (if okB b then [b] else pct b).length ≤ 3 := by split <;> simp [pct]
        simp at ih ⊢; omega
theorem joinS_app (a b : List (List UInt8)) : joinS (a ++ b) = joinS a ++ joinS b := by
  induction a with
  | nil => rfl
  | cons x a ih => show 47 :: (x ++ joinS (a ++ b)) = 47 :: (x ++ joinS a) ++ joinS b; rw [ih]; simp
theorem joinS_dl (a : List (List UInt8)) : (joinS a.dropLast).length ≤ (joinS a).length := by
  rcases List.eq_nil_or_concat a with rfl | ⟨l, x, rfl⟩
  · simp [joinS]
  · rw [List.concat_eq_append, List.dropLast_concat, joinS_app]; simp
theorem stepD_jl (t : Bool) (out : List (List UInt8)) (p : List UInt8) : (joinS (stepD t out p)).length ≤ (joinS out).length + (p.length + 1) := by
  unfold stepD
  split
  · rw [joinS_app]; simp [joinS]
  · rw [joinS_app, List.length_append]
    have h1 : (joinS (if pts p 0 = 2 then out.dropLast else out)).length ≤ (joinS out).length := by
      split
      · exact joinS_dl _
      · exact Nat.le_refl _
    have h2 : (joinS (if t = true then [[]] else [])).length ≤ 1 := by split <;> simp [joinS]
    omega
theorem foldD_jl : ∀ (l out : List (List UInt8)), (joinS (foldD out l)).length ≤ (joinS out).length + (joinS l).length
  | [], out => by simp [foldD, joinS]
  | p :: l, out => by
    rw [foldD_cons]
    have h1 := foldD_jl l (stepD (decide (l = [])) out p)
    have h2 := stepD_jl (decide (l = [])) out p
    show _ ≤ _ + (47 :: (p ++ joinS l)).length
    simp; omega
theorem pieces_jl : ∀ s : List UInt8, (joinS (pieces s)).length = s.length + 1
  | [] => by simp [pieces, joinS]
  | b :: r => by
    have ih := pieces_jl r
    unfold pieces
    split
    · simp [joinS, ih]
    · split
      · rename_i h; exact absurd h (pieces_ne r)
      · rename_i p l h
        rw [h] at ih
        simp [joinS] at ih ⊢; omega
theorem dots_len (s : List UInt8) : (dots s).length ≤ s.length := by
  unfold dots
  split
  · rename_i r
    have h1 := foldD_jl (pieces r) []
    have h2 := pieces_jl r
    split
    · simp
    · simp [joinS] at h1 ⊢; omega
  · simp
theorem upto_le (p s : List UInt8) : upto p s ≤ s.length := by
  unfold upto; exact (List.takeWhile_prefix _).length_le
def textP (u : Url) : List UInt8 := u.scheme ++ [58, 47, 47] ++ u.host ++ (if u.port ≠ 0 then 58 :: Go.Lib.itoa u.port else []) ++ u.path ++ u.query
def text (u : Url) : List UInt8 := if good u then textP u else []
def port (u : Url) : Int := if own u.scheme = 0 ∨ u.port = 0 then own u.scheme else u.port
def origin (u : Url) : List UInt8 := if good u then u.scheme ++ [58, 47, 47] ++ u.host ++ [58] ++ Go.Lib.itoa (port u) else []
end Tg.Ur
/-
  Layer 26 (url): what the code's functions come to: a text's parts, the place.
-/
set_option linter.unusedSimpArgs false
set_option linter.unusedVariables false
set_option maxRecDepth 100000
namespace Go.Proofs.YthgcgjpbhbikaaaGreatDoor
open Go.Lg Go.Tg
section
variable {H : LH} {b : UInt8} {s t : List UInt8}
@[simp] theorem lfill_cell' {P : Program} {t : TypeId} {cs : List Value} {i : Nat} {q : Nat × Nat × Bool} {v : Value} {ps : List (Nat × Value)} (hf : fldi P t i = some q) (hn : q.2.1 = 1) (hv : cellB v = true) (ho : q.1 < cs.length) : lfill P t cs ((i, v) :: ps) = lfill P t (cs.set q.1 v) ps := by
  obtain ⟨o, n, g⟩ := q
  exact lfill_cell hf hn hv ho
theorem byte_upto (s : List UInt8) (c : UInt8) : (Lib.indexByte s c = -1 ∧ Tg.Ur.upto [c] s = s.length) ∨ (Lib.indexByte s c = (Tg.Ur.upto [c] s : Nat) ∧ Tg.Ur.upto [c] s < s.length) := by
  rw [← Lib.indexAny_one]; exact any_upto s [c]
theorem drop_upto {s : List UInt8} {c : UInt8} (h : Lib.indexByte s c = (Tg.Ur.upto [c] s : Nat)) : s.drop (Tg.Ur.upto [c] s) = c :: s.drop (Tg.Ur.upto [c] s + 1) := by
  have h2 := (Lib.indexByte_some h).1
  obtain ⟨hlt, he⟩ := List.getElem?_eq_some_iff.mp h2
  rw [List.drop_eq_getElem_cons hlt, he]
theorem prefix2 {a c : UInt8} : Lib.hasPrefix s [a, c] = decide (s.take 2 = [a, c]) := by
  rcases s with _ | ⟨x, _ | ⟨y, r⟩⟩
  · rfl
  · simp [Lib.hasPrefix, List.isPrefixOf]
  · simp [Lib.hasPrefix, List.isPrefixOf]
    rw [Bool.eq_iff_iff]
    simp
    constructor <;> rintro ⟨h1, h2⟩ <;> exact ⟨h1.symm, h2.symm⟩
theorem asc1 {a : UInt8} (h : a.toNat < 128) : ascL [a] := by intro b hb; simp at hb; subst hb; exact h
theorem asc2 {a c : UInt8} (h : a.toNat < 128) (h2 : c.toNat < 128) : ascL [a, c] := by intro b hb; simp at hb; rcases hb with rfl | rfl <;> assumption
theorem asc3 {a c d : UInt8} (h : a.toNat < 128) (h2 : c.toNat < 128) (h3 : d.toNat < 128) : ascL [a, c, d] := by intro b hb; simp at hb; rcases hb with rfl | rfl | rfl <;> assumption
theorem parts_lens {u : Tg.Ur.Url} {pl : List UInt8} (h : Tg.Ur.parts s = some (u, pl)) : u.host.length ≤ s.length ∧ u.scheme.length ≤ s.length ∧ u.path.length ≤ 3 * s.length + 3 ∧ u.query.length ≤ 3 * s.length ∧ pl.length ≤ s.length ∧ u.port = 0 := by
  have low_len : ∀ l : List UInt8, (Tg.Lo.lower l).length = l.length := fun l => by simp [Tg.Lo.lower]
  unfold Tg.Ur.parts at h
  simp only at h
  generalize h1 : s.take (Tg.Ur.upto [35] s) = s1 at h
  generalize h2 : Tg.Ur.upto [58] s1 = k at h
  split at h
  · generalize h3 : s1.drop (k + 3) = r at h
    generalize h4 : Tg.Ur.upto [58, 47, 63] r = j at h
    generalize h5 : Tg.Ur.cutPort (r.drop j) = x at h
    generalize h6 : Tg.Ur.upto [63] x.2 = q at h
    have l1 : s1.length ≤ s.length := by rw [← h1, List.length_take]; omega
    have l2 : r.length ≤ s1.length := by rw [← h3, List.length_drop]; omega
    have l3 : x.1.length ≤ r.length ∧ x.2.length ≤ r.length := by
      rw [← h5]
      unfold Tg.Ur.cutPort
      split
      · rename_i r3 e
        have := congrArg List.length e
        rw [List.length_drop] at this
        simp at this
        constructor
        · rw [List.length_take]; omega
        · rw [List.length_drop]; omega
      · constructor
        · simp
        · rw [List.length_drop]; omega
    injection h with h
    injection h with e1 e2
    subst e1 e2
    simp only
    have hd := Tg.Ur.dots_len (Tg.Ur.qt (if x.2.take q = [] then [47] else x.2.take q))
    have hq := Tg.Ur.qt_len _ (if x.2.take q = [] then [47] else x.2.take q) (Nat.le_refl _)
    have hq2 := Tg.Ur.qt_len _ (x.2.drop q) (Nat.le_refl _)
    have hl : (if x.2.take q = [] then [47] else x.2.take q).length ≤ s.length + 1 := by
      split
      · simp
      · rw [List.length_take]; omega
    rw [List.length_drop] at hq2
    refine ⟨?_, ?_, by omega, by omega, by omega, ?_⟩
    · rw [low_len, List.length_take]; omega
    · rw [low_len, List.length_take]; omega
    · trivial
  · cases h
end
end Go.Proofs.YthgcgjpbhbikaaaGreatDoor
/-
  A logical run of Go code: structs compared, part by part.
-/
set_option linter.unusedSimpArgs false
set_option linter.unusedVariables false
set_option maxRecDepth 100000
namespace Go.Lg
theorem pureVal_map {α β : Type} {P : Program} (s : Sem α) (f : α → β) : pureVal P (f <$> s) = (pureVal P s).map f := by
  show pureVal P (s >>= fun x => pure (f x)) = _
  rw [pureVal_bind]; cases pureVal P s <;> rfl
theorem eqIn_int {P : Program} {d : Nat} {t : TypeId} {k : IntKind} {a b : Int} (hu : P.underlying t = some (.int k)) : pureVal P (Op.equalIn (d + 1) t (.int k a) (.int k b)) = some (a == b) := by
  unfold Op.equalIn
  simp only [pureVal_bind, pureVal_und, hu, Option.bind_some, pureVal_pure, if_true]
theorem eqIn_str {P : Program} {d : Nat} {t : TypeId} {a b : List UInt8} (hu : P.underlying t = some .string) : pureVal P (Op.equalIn (d + 1) t (str a) (str b)) = some (decide (a = b)) := by
  unfold Op.equalIn
  simp only [pureVal_bind, pureVal_und, hu, Option.bind_some, str]
  show some _ = _
  congr 1
  rw [Bool.eq_iff_iff, Go.MapKept.bytes_beq]; simp
theorem eqIn_bool {P : Program} {d : Nat} {t : TypeId} {a b : Bool} (hu : P.underlying t = some .bool) : pureVal P (Op.equalIn (d + 1) t (.bool a) (.bool b)) = some (a == b) := by
  unfold Op.equalIn
  simp only [pureVal_bind, pureVal_und, hu, Option.bind_some, pureVal_pure]
theorem part_cell {P : Program} {t : TypeId} {cs : Array Value} {o : Nat} {v : Value} (ha : aggB P t = some false) (h : cs[o]? = some v) : pureVal P (part t cs o) = some v := by
  unfold part
  have : pureVal P (isAgg t) = some false := by
    unfold aggB at ha
    unfold isAgg
    obtain ⟨d, hd, hf⟩ := Option.map_eq_some_iff.1 ha
    simp only [pureVal_bind, pureVal_und, hd, Option.bind_some]
    cases d <;> first | rfl | (simp [aggD] at hf)
  simp only [pureVal_bind, this, Option.bind_some, h]
  rfl
/-- two aggregates of a type that is guarded by nothing -/
theorem lbin_agg {P : Program} {t : TypeId} {xs ys : List Value} {b : Bool} (hx : flatB (.agg ⟨xs⟩) = true) (hy : flatB (.agg ⟨ys⟩) = true) (hg : P.eqGuardType P.depth t = false)
    (he : pureVal P (Op.equalIn Op.maxDepth t (.agg ⟨xs⟩) (.agg ⟨ys⟩)) = some b) : lbin P .eql t (.agg ⟨xs⟩) (.agg ⟨ys⟩) = some (.bool b) := by
  unfold lbin
  simp only
  rw [if_pos (by rw [hx, hy]; rfl)]
  unfold pureFlat eqGuard
  simp only [binOp, Op.equal, pureVal_bind]
  have e1 : ∀ X Y : Value, pureVal P (if (!true) = true then (pure () : Sem Unit) else do
      let __do_lift ← program
      let __do_lift_1 ← program
      if (!__do_lift.eqGuardType __do_lift_1.depth t) = true then pure ()
      else do
        let __do_lift ← Op.eqGuardIn Op.maxDepth t X Y
        if __do_lift = true then unsupported (Unsupported.noEntry "binop/eql: two nil values of an interface type with methods, in a part of a struct or an array") else pure ()) = some () := by
    intro X Y
    rw [if_neg (by decide)]
    simp only [pureVal_bind, pureVal_program, Option.bind_some, hg, Bool.not_false, if_true, pureVal_pure]
  rw [e1, he]
  rfl
end Go.Lg
/-
  Layer 26 (url): places compared.
-/
set_option linter.unusedSimpArgs false
set_option linter.unusedVariables false
set_option maxRecDepth 100000
namespace Go.Lg
theorem lbin_aggn {P : Program} {t : TypeId} {xs ys : List Value} {b : Bool} (hx : flatB (.agg ⟨xs⟩) = true) (hy : flatB (.agg ⟨ys⟩) = true) (hg : P.eqGuardType P.depth t = false)
    (he : pureVal P (Op.equalIn Op.maxDepth t (.agg ⟨xs⟩) (.agg ⟨ys⟩)) = some b) : lbin P .neq t (.agg ⟨xs⟩) (.agg ⟨ys⟩) = some (.bool (!b)) := by
  unfold lbin
  simp only
  rw [if_pos (by rw [hx, hy]; rfl)]
  unfold pureFlat eqGuard
  simp only [binOp, Op.equal, pureVal_bind]
  have e1 : ∀ X Y : Value, pureVal P (if (!true) = true then (pure () : Sem Unit) else do
      let __do_lift ← program
      let __do_lift_1 ← program
      if (!__do_lift.eqGuardType __do_lift_1.depth t) = true then pure ()
      else do
        let __do_lift ← Op.eqGuardIn Op.maxDepth t X Y
        if __do_lift = true then unsupported (Unsupported.noEntry "binop/eql: two nil values of an interface type with methods, in a part of a struct or an array") else pure ()) = some () := by
    intro X Y
    rw [if_neg (by decide)]
    simp only [pureVal_bind, pureVal_program, Option.bind_some, hg, Bool.not_false, if_true, pureVal_pure]
  rw [e1, he]
  rfl
end Go.Lg
namespace Go.Proofs.YthgcgjpbhbikaaaGreatDoor
open Go.Lg Go.Tg
section
abbrev p3 (a b : List UInt8) (n : Int) : Value := .agg #[str a, str b, .int .i64 n]
end
end Go.Proofs.YthgcgjpbhbikaaaGreatDoor
/-
  Layer 26 (url): what the code's functions come to: texts, origins, ports, keys.
-/
set_option linter.unusedSimpArgs false
set_option linter.unusedVariables false
set_option maxRecDepth 100000
namespace Go.Proofs.YthgcgjpbhbikaaaGreatDoor
open Go.Lg Go.Tg
section
variable {H : LH} {b : UInt8} {s t : List UInt8} {u v : Tg.Ur.Url}
/-- a place whose parts are not too long -/
structure Small (u : Tg.Ur.Url) : Prop where
  host : u.host.length ≤ 30000
  path : u.path.length ≤ 80000
  query : u.query.length ≤ 80000
  scheme : u.scheme.length ≤ 30000
  lo : -9223372036854775808 ≤ u.port
  hi : u.port ≤ 9223372036854775807
theorem itoa_cl {n : Int} (h1 : -9223372036854775808 ≤ n) (h2 : n ≤ 9223372036854775807) (ht : Tab10 H) : LC Tryz.prog EJ 48 [.int .i64 n] H = some (str (Lib.itoa n), H) := by
  refine LC_pure rfl Tryz.func48 rfl (Nat.le_of_ble_eq_true rfl) (by decide) (by kernel_rfl) rfl ?_
  simp [itoa_l h1 h2 ht]
theorem own_rng (s : List UInt8) : 0 ≤ Tg.Ur.own s ∧ Tg.Ur.own s ≤ 443 := by
  unfold Tg.Ur.own
  split
  · omega
  · split <;> omega
end
end Go.Proofs.YthgcgjpbhbikaaaGreatDoor
/-
  Layer 22 (header): good headers come back from their text; in plain words.
-/
set_option linter.unusedSimpArgs false
set_option linter.unusedVariables false
namespace Tg.Hd
theorem lines_ne (s : List UInt8) : lines s ≠ [] := by
  cases s with
  | nil => simp [lines]
  | cons b r =>
    unfold lines
    split
    · simp
    · split <;> simp
theorem lines_one : ∀ (w : List UInt8), (∀ b ∈ w, b ≠ 10) → lines w = [w]
  | [], _ => rfl
  | b :: w, h => by
    unfold lines
    rw [if_neg (h b (by simp)), lines_one w (fun c hc => h c (by simp [hc]))]
theorem lines_cut : ∀ (w r : List UInt8), (∀ b ∈ w, b ≠ 10) → lines (w ++ 10 :: r) = w :: lines r
  | [], r, _ => by
    show lines (10 :: r) = _
    conv => lhs; unfold lines
    rw [if_pos rfl]
  | b :: w, r, h => by
    show lines (b :: (w ++ 10 :: r)) = _
    conv => lhs; unfold lines
    rw [if_neg (h b (by simp)), lines_cut w r (fun c hc => h c (by simp [hc]))]
theorem trim_fix {s : List UInt8} (h : trim s = s) : trimE s = s ∧ s.dropWhile white = s := by
  have h1 : (trim s).length ≤ (trimE s).length := (List.dropWhile_suffix _).length_le
  have h2 : trimE s <+: s := List.reverse_suffix.mp (by unfold trimE; rw [List.reverse_reverse]; exact List.dropWhile_suffix _)
  have h3 : trimE s = s := h2.eq_of_length_le (by rw [h] at h1; exact h1)
  refine ⟨h3, ?_⟩
  unfold trim at h
  rw [h3] at h
  exact h
theorem dw_cons {c : UInt8} {r : List UInt8} (h : (c :: r).dropWhile white = c :: r) : white c = false := by
  rw [List.dropWhile_cons] at h
  cases hc : white c with
  | false => rfl
  | true =>
    rw [hc, if_pos rfl] at h
    have := (List.dropWhile_suffix (l := r) white).length_le
    rw [h] at this
    simp at this; omega
theorem trim_blank {s : List UInt8} (h : trim s = s) : trim (32 :: s) = s := by
  obtain ⟨h1, h2⟩ := trim_fix h
  cases hr : s.reverse with
  | nil =>
    have : s = [] := by rw [← List.reverse_reverse s, hr]; rfl
    subst this; decide
  | cons c r =>
    have h3 : s.reverse.dropWhile white = s.reverse := by
      unfold trimE at h1
      rw [← List.reverse_reverse (s.reverse.dropWhile white), h1]
    rw [hr] at h3
    have hc := dw_cons h3
    unfold trim trimE
    rw [List.reverse_cons, hr, List.cons_append, List.dropWhile_cons, if_neg (by rw [hc]; decide), ← List.cons_append, List.reverse_append, ← hr, List.reverse_reverse]
    show (32 :: s).dropWhile white = s
    rw [List.dropWhile_cons, if_pos (by decide), h2]
theorem tok_F : ∀ k : Fin 256, tok (UInt8.ofNat k.1) = true → (UInt8.ofNat k.1) ≠ 58 ∧ (UInt8.ofNat k.1) ≠ 10 := by decide +kernel
theorem tok_b {b : UInt8} (h : tok b = true) : b ≠ 58 ∧ b ≠ 10 := by
  have := tok_F ⟨b.toNat, b.toNat_lt⟩
  rw [show UInt8.ofNat b.toNat = b from UInt8.ofNat_toNat] at this
  exact this h
structure FineP (h : Hdr) : Prop where
  ne : h.1 ≠ []
  tok : ∀ b ∈ h.1, tok b = true
  trim : trim h.2 = h.2
  free : ∀ b ∈ h.2, b ≠ 0 ∧ b ≠ 13 ∧ b ≠ 10
  len : h.2.length ≤ 8192
theorem fine_p {h : Hdr} (hf : fine h = true) : FineP h := by
  unfold fine at hf
  simp only [Bool.and_eq_true, decide_eq_true_eq] at hf
  obtain ⟨⟨⟨⟨h1, h2⟩, h3⟩, h4⟩, h5⟩ := hf
  refine ⟨h1, List.all_eq_true.mp h2, h3, fun b hb => ?_, h5⟩
  have := List.all_eq_true.mp h4 b hb
  simp at this
  exact this
theorem upto_at {a r : List UInt8} (h : ∀ b ∈ a, b ≠ 58) : upto 58 (a ++ 58 :: r) = a.length := by
  unfold upto
  induction a with
  | nil => simp
  | cons x a ih =>
    rw [List.cons_append, List.takeWhile_cons, if_pos (by simp [h x (by simp)]), List.length_cons, ih (fun b hb => h b (by simp [hb])), List.length_cons]
theorem line_back {h : Hdr} (hf : fine h = true) : stripR (h.1 ++ 58 :: 32 :: (h.2 ++ [13])) = h.1 ++ 58 :: 32 :: h.2 ∧ lineP (h.1 ++ 58 :: 32 :: h.2) = some h ∧ ∀ b ∈ h.1 ++ 58 :: 32 :: (h.2 ++ [13]), b ≠ 10 := by
  have g := fine_p hf
  have hu := upto_at (a := h.1) (r := 32 :: h.2) (fun b hb => (tok_b (g.tok b hb)).1)
  have e1 : (h.1 ++ 58 :: 32 :: h.2).drop (h.1.length + 1) = 32 :: h.2 := by
    have : (h.1 ++ 58 :: 32 :: h.2).drop (h.1.length + 1) = ((h.1 ++ 58 :: 32 :: h.2).drop h.1.length).drop 1 := by rw [List.drop_drop]
    rw [this, List.drop_left]; rfl
  refine ⟨?_, ?_, ?_⟩
  · unfold stripR
    have e : h.1 ++ 58 :: 32 :: (h.2 ++ [13]) = (h.1 ++ 58 :: 32 :: h.2) ++ [13] := by simp
    rw [e, List.getLast?_concat, if_pos rfl, List.dropLast_concat]
  · unfold lineP
    rw [if_pos (by simp), hu, List.take_left, e1, trim_blank g.trim]
    simp only
    rw [if_pos hf]
  · intro b hb
    simp only [List.mem_append, List.mem_cons, List.not_mem_nil, or_false] at hb
    rcases hb with hb | rfl | rfl | hb | rfl
    · exact (tok_b (g.tok b hb)).2
    · decide
    · decide
    · exact (g.free b hb).2.2
    · decide
theorem rows_back : ∀ (l : List Hdr) (n : Nat) (acc : List Hdr), l.all fine = true → rows (lines (text l)) n acc = if 100 < (acc ++ l).length then ([], 0, 6) else (acc ++ l, 0, 0)
  | [], n, acc, _ => by
    show rows [[]] n acc = _
    unfold rows
    rw [if_pos (by decide)]
    unfold rows
    rw [List.append_nil]
  | h :: l, n, acc, hl => by
    rw [List.all_cons, Bool.and_eq_true] at hl
    obtain ⟨e1, e2, e3⟩ := line_back hl.1
    have e : text (h :: l) = (h.1 ++ 58 :: 32 :: (h.2 ++ [13])) ++ 10 :: text l := by
      unfold text
      rw [List.flatMap_cons]; simp
    rw [e, lines_cut _ _ e3]
    unfold rows
    rw [e1, e2, if_neg (by simp)]
    simp only
    rw [rows_back l (n + 1) (acc ++ [h]) hl.2, List.append_assoc, List.singleton_append]
theorem parse_text {l : List Hdr} (h : good l = true) : parse (text l) = (l, 0, 0) := by
  unfold good at h
  rw [Bool.and_eq_true, decide_eq_true_eq] at h
  unfold parse
  rw [rows_back l 0 [] h.2, List.nil_append, if_neg (by omega)]
theorem live1 : parse [65, 58, 32, 98] = ([([65], [98])], 0, 0) := by decide +kernel
end Tg.Hd
/-
  Layer 22 (header): what the code's judges of bytes, texts and headers come to.
-/
set_option linter.unusedSimpArgs false
set_option linter.unusedVariables false
set_option maxRecDepth 100000
namespace Go.Proofs.YthgcgjpbhbikaaaGreatDoor
open Go.Lg Go.Tg
section
variable {H : LH} {b : UInt8} {s t : List UInt8}
theorem white_cl : LC Tryz.prog EJ 146 [.int .u8 b.toNat] H = some (.bool (Tg.Hd.white b), H) := by
  refine LC_pure rfl Tryz.func146 rfl (Nat.le_of_ble_eq_true rfl) (by decide) (by kernel_rfl) rfl ?_
  by_cases h1 : b = 9
  · subst h1; simp [Tg.Hd.white]
  by_cases h2 : b = 10
  · subst h2; simp [Tg.Hd.white]
  by_cases h3 : b = 13
  · subst h3; simp [Tg.Hd.white]
  by_cases h4 : b = 32
  · subst h4; simp [Tg.Hd.white]
  simp [Tg.Hd.white, h1, h2, h3, h4]
theorem end_cl {g : FuncId} {q : UInt8 → Bool} (hg : ∀ (b : UInt8) (H : LH), LC Tryz.prog EJ g [.int .u8 b.toNat] H = some (.bool (q b), H)) (hs : s.length ≤ 9223372036854775806) :
    LC Tryz.prog EJ 145 [str s, .func (.func g) #[] #[]] H = some (.int .i64 ((s.reverse.dropWhile q).length : Nat), H) := by
  refine LC_pure rfl Tryz.func145 rfl (Nat.le_of_ble_eq_true rfl) (by decide) (by kernel_rfl) rfl ?_
  obtain ⟨x, hx⟩ : ∃ x, x = (s.reverse.dropWhile q).length := ⟨_, rfl⟩
  rw [← hx]
  simp
  refine loop_ind (fun (i : Nat) fr' H' => fr' 0 = str s ∧ fr' 1 = .func (.func g) #[] #[] ∧ fr' 5 = .int .i64 i ∧ i ≤ s.length ∧ x = ((s.take i).reverse.dropWhile q).length ∧ H' = H) (fun i => i) s.length ⟨by simp, by simp, by simp, Nat.le_refl _, by rw [List.take_length]; exact hx, rfl⟩ ?_
  rintro i fr' H' ⟨h0, h1, h5, hi, hc, rfl⟩ ih
  by_cases hz : 0 < i
  · have q0 := eq_true (show (0 : Int) < (i : Int) by omega)
    have hlt : i - 1 < s.length := by omega
    have hw : IntKind.i64.wrap ((i : Int) - 1) = ((i - 1 : Nat) : Int) := by rw [wrapI (by omega) (by omega)]; omega
    have hat : at_ s ((i - 1 : Nat) : Int) = s[i - 1] := at_in hlt
    have q1 := eq_true (show ((i - 1 : Nat) : Int) < (s.length : Int) by omega)
    have e : s.take i = s.take (i - 1) ++ [s[i - 1]] := by
      have := List.take_succ_eq_append_getElem hlt
      rw [show i - 1 + 1 = i by omega] at this
      exact this
    rw [e, List.reverse_append, List.reverse_singleton, List.singleton_append, List.dropWhile_cons] at hc
    have hgc := hg s[i - 1]
    generalize s[i - 1] = c at *
    generalize hk : i - 1 = k at *
    cases hq : q c with
    | true =>
      rw [hq] at hc hgc
      rw [if_pos rfl] at hc
      simp [h0, h1, h5, q0, hz, hw, hat, q1, hlt, hgc]
      refine ih k _ _ (by omega) ⟨?_, ?_, ?_, by omega, hc, rfl⟩
      all_goals simp [h0, h1, hw]
    | false =>
      rw [hq] at hc hgc
      rw [if_neg (by decide)] at hc
      have hxi : x = i := by rw [hc]; simp; omega
      subst hxi
      simp [h0, h1, h5, q0, hz, hw, hat, q1, hlt, hgc]
  · have q0 := eq_false (show ¬ (0 : Int) < (i : Int) by omega)
    have hi0 : i = 0 := by omega
    subst hi0
    have hx0 : x = 0 := by rw [hc]; rfl
    subst hx0
    simp [h0, h1, h5]
theorem trimE_take : Tg.Hd.trimE s = s.take (s.reverse.dropWhile Tg.Hd.white).length := by
  have h2 : Tg.Hd.trimE s <+: s := List.reverse_suffix.mp (by unfold Tg.Hd.trimE; rw [List.reverse_reverse]; exact List.dropWhile_suffix _)
  have := List.prefix_iff_eq_take.mp h2
  rw [this]
  congr 1
  unfold Tg.Hd.trimE
  rw [List.length_reverse]
theorem dw_drop {q : UInt8 → Bool} : ∀ {s : List UInt8}, s.dropWhile q = s.drop (s.takeWhile q).length
  | [] => rfl
  | b :: r => by
    rw [List.dropWhile_cons, List.takeWhile_cons]
    cases q b with
    | true => simp only [if_true, List.length_cons, List.drop_succ_cons]; exact dw_drop
    | false => simp
theorem Trim_cl (hs : s.length ≤ 9223372036854775806) : LC Tryz.prog EJ 134 [str s] H = some (str (Tg.Hd.trim s), H) := by
  refine LC_pure rfl Tryz.func134 rfl (Nat.le_of_ble_eq_true rfl) (by decide) (by kernel_rfl) rfl ?_
  have he := fun H : LH => end_cl (H := H) (s := s) (g := 146) (q := Tg.Hd.white) (fun b H => white_cl) hs
  have hw := fun (H : LH) (b : UInt8) => white_cl (H := H) (b := b)
  obtain ⟨x, hx⟩ : ∃ x, x = Tg.Hd.trim s := ⟨_, rfl⟩
  rw [← hx]
  unfold Tg.Hd.trim at hx
  rw [trimE_take] at hx
  have hle : (s.reverse.dropWhile Tg.Hd.white).length ≤ s.length := by
    have := (List.dropWhile_suffix (l := s.reverse) Tg.Hd.white).length_le
    rwa [List.length_reverse] at this
  generalize (s.reverse.dropWhile Tg.Hd.white).length = n at *
  have q1 := eq_true (show (n : Int) ≤ (s.length : Int) by omega)
  have htl : (s.take n).length ≤ 9223372036854775806 := by rw [List.length_take]; omega
  simp [he, q1, hle]
  generalize s.take n = t at *
  refine loop_ind (fun (i : Nat) fr' H' => fr' 0 = str t ∧ fr' 3 = .int .i64 i ∧ i ≤ t.length ∧ x = (t.drop i).dropWhile Tg.Hd.white ∧ H' = H) (fun i => t.length - i) 0 ⟨by simp, by simp, Nat.zero_le _, hx, rfl⟩ ?_
  rintro i fr' H' ⟨h0, h3, hi, hc, rfl⟩ ih
  by_cases hlt : i < t.length
  · have q := eq_true (show (i : Int) < (t.length : Int) by omega)
    have hat : at_ t (i : Int) = t[i] := at_in hlt
    have hw1 : IntKind.i64.wrap ((i : Int) + 1) = ((i + 1 : Nat) : Int) := by rw [wrapI (by omega) (by omega)]; omega
    have qi := eq_true (show (i : Int) ≤ (t.length : Int) by omega)
    rw [List.drop_eq_getElem_cons hlt, List.dropWhile_cons] at hc
    have hwc := fun H => hw H t[i]
    have hdr : t.drop i = t[i] :: t.drop (i + 1) := List.drop_eq_getElem_cons hlt
    generalize t[i] = c at *
    cases hq : Tg.Hd.white c with
    | true =>
      rw [hq] at hc hwc
      rw [if_pos rfl] at hc
      simp [h0, h3, q, hlt, hat, hwc]
      refine ih (i + 1) _ _ (by omega) ⟨?_, ?_, by omega, hc, rfl⟩
      all_goals simp [h0, hw1]
    | false =>
      rw [hq] at hc hwc
      rw [if_neg (by decide), ← hdr] at hc
      simp [h0, h3, q, hlt, hat, hwc, qi, hi, hc]
  · have q := eq_false (show ¬ (i : Int) < (t.length : Int) by omega)
    have qi := eq_true (show (i : Int) ≤ (t.length : Int) by omega)
    have hil : i = t.length := by omega
    rw [List.drop_of_length_le (by omega)] at hc
    subst hil
    simp [h0, h3, hc]
theorem small_cl : LC Tryz.prog EJ 150 [.int .u8 b.toNat] H = some (.bool (decide ((97 : Int) ≤ b.toNat) && decide ((b.toNat : Int) ≤ 122)), H) := by
  refine LC_pure rfl Tryz.func150 rfl (Nat.le_of_ble_eq_true rfl) (by decide) (by kernel_rfl) rfl ?_
  by_cases h1 : (97 : Int) ≤ b.toNat <;> by_cases h2 : (b.toNat : Int) ≤ 122 <;> simp [h1, h2]
theorem letter_cl : LC Tryz.prog EJ 143 [.int .u8 b.toNat] H = some (.bool (Tg.Hd.isL b), H) := by
  refine LC_pure rfl Tryz.func143 rfl (Nat.le_of_ble_eq_true rfl) (by decide) (by kernel_rfl) rfl ?_
  have h1 := fun H : LH => small_cl (H := H) (b := b)
  have h2 := fun H : LH => great_cl (H := H) (b := b)
  unfold Tg.Hd.isL
  cases e1 : (decide ((97 : Int) ≤ b.toNat) && decide ((b.toNat : Int) ≤ 122)) <;> rw [e1] at h1 <;>
  cases e2 : (decide ((65 : Int) ≤ b.toNat) && decide ((b.toNat : Int) ≤ 90)) <;> rw [e2] at h2 <;> simp [h1, h2]
theorem Token_cl : LC Tryz.prog EJ 133 [.int .u8 b.toNat] H = some (.bool (Tg.Hd.tok b), H) := by
  refine LC_pure rfl Tryz.func133 rfl (Nat.le_of_ble_eq_true rfl) (by decide) (by kernel_rfl) rfl ?_
  have h1 := fun H : LH => letter_cl (H := H) (b := b)
  have h2 : ∀ H : LH, LC Tryz.prog EJ 87 [.int .u8 b.toNat] H = some (.bool (Tg.Hd.isD b), H) := fun H => digit_cl (H := H) (b := b)
  have h3 := idx_lt Tg.Hd.signs b
  unfold Tg.Hd.tok
  cases e1 : Tg.Hd.isL b with
  | true => rw [e1] at h1; simp [h1]
  | false =>
    rw [e1] at h1
    cases e2 : Tg.Hd.isD b with
    | true => rw [e2] at h2; simp [h1, h2]
    | false =>
      rw [e2] at h2
      rw [h3]
      unfold Tg.Hd.signs
      simp [h1, h2]
      generalize Lib.indexByte _ b = x
      rw [Bool.eq_iff_iff]
      simp
abbrev hv (h : Tg.Hd.Hdr) : Value := .agg #[str h.1, str h.2]
abbrev hb (h : Tg.Hd.Hdr) : LB := ⟨[str h.1, str h.2], 78, true⟩
theorem fine_cl {h : Tg.Hd.Hdr} (h1 : h.1.length ≤ 1048576) (h2 : h.2.length ≤ 1048576) : LC Tryz.prog EJ 120 [hv h] H = some (.bool (Tg.Hd.fine h), H) := by
  refine LC_pure rfl Tryz.func120 rfl (Nat.le_of_ble_eq_true rfl) (by decide) (by kernel_rfl) rfl ?_
  have hle : H.le (H.new (hb h)) := le_refl.new
  obtain ⟨x, hx⟩ : ∃ x, x = Tg.Hd.fine h := ⟨_, rfl⟩
  rw [← hx]
  unfold Tg.Hd.fine at hx
  have ha := fun H : LH => all_cl (H := H) (s := h.1) (g := 133) (q := Tg.Hd.tok) (fun b H => Token_cl) (by omega)
  have ht := fun H : LH => Trim_cl (H := H) (s := h.2) (by omega)
  have hc : ∀ H : LH, LC Tryz.prog EJ 135 [str h.2, str [0, 13, 10]] H = some (.bool (!Tg.Hd.free [0, 13, 10] h.2), H) := fun H => anyOf_cl (H := H) (s := h.2) (p := [0, 13, 10]) (by omega) (by decide) (by intro b hb; simp at hb; rcases hb with rfl | rfl | rfl <;> decide)
  obtain ⟨n, v⟩ := h
  simp only at *
  by_cases e1 : n = []
  · have : x = false := by rw [hx]; simp [e1]
    subst this
    simp [e1, hle]
  · cases e2 : n.all Tg.Hd.tok with
    | false =>
      have : x = false := by rw [hx, e2]; simp
      subst this
      rw [e2] at ha
      simp [e1, ha, hle]
    | true =>
      rw [e2] at ha hx
      by_cases e3 : Tg.Hd.trim v = v
      · cases e4 : Tg.Hd.free [0, 13, 10] v with
        | false =>
          have : x = false := by rw [hx, e4]; simp
          subst this
          rw [e4] at hc
          simp [e1, ha, ht, e3, hc, hle]
        | true =>
          rw [e4] at hc hx
          by_cases e5 : v.length ≤ 8192
          · have : x = true := by rw [hx]; simp [e1, e3, e5]
            subst this
            have q5 := eq_true (show (v.length : Int) ≤ 8192 by omega)
            simp [e1, ha, ht, e3, hc, q5, hle]
          · have : x = false := by rw [hx]; simp [e5]
            subst this
            have q5 := eq_false (show ¬ (v.length : Int) ≤ 8192 by omega)
            simp [e1, ha, ht, e3, hc, q5, hle]
      · have : x = false := by rw [hx]; simp [e3]
        subst this
        simp [e1, ha, ht, e3, hle]
theorem idx_upto (c : UInt8) : ∀ s : List UInt8, (Lib.indexByte s c = -1 ∧ s.contains c = false) ∨ (Lib.indexByte s c = (Tg.Hd.upto c s : Nat) ∧ s.contains c = true)
  | [] => .inl ⟨rfl, rfl⟩
  | b :: r => by
    have hge := Lib.indexByte_ge r c
    unfold Lib.indexByte Tg.Hd.upto
    by_cases hb : b = c
    · subst hb
      right
      simp
    · have hb2 : ¬ c = b := fun e => hb e.symm
      have ih := idx_upto c r
      unfold Tg.Hd.upto at ih
      rcases ih with ⟨h1, h2⟩ | ⟨h1, h2⟩
      · left
        simp [hb, hb2, h1] at h2 ⊢
        exact h2
      · right
        rw [List.takeWhile_cons]
        simp [hb, hb2, h1] at h2 ⊢
        exact h2
theorem le2H {a b : LB} : H.le ((H.new a).new b) := le_refl.new.new
theorem trimH_len (s : List UInt8) : (Tg.Hd.trim s).length ≤ s.length := by
  unfold Tg.Hd.trim Tg.Hd.trimE
  refine Nat.le_trans (dw_le _) ?_
  rw [List.length_reverse]
  refine Nat.le_trans (dw_le _) ?_
  rw [List.length_reverse]
  exact Nat.le_refl _
end
end Go.Proofs.YthgcgjpbhbikaaaGreatDoor
/-
  Layer 22 (header): rows of headers.
-/
set_option linter.unusedSimpArgs false
set_option linter.unusedVariables false
set_option maxRecDepth 100000
namespace Go.Proofs.YthgcgjpbhbikaaaGreatDoor
open Go.Lg Go.Tg
/-- v holds the headers l, wherever they lie -/
def HRow (H : LH) (v : Value) (l : List Tg.Hd.Hdr) : Prop :=
  (v = .slice none 0 0 ∧ l = []) ∨ ∃ (k o c : Nat), v = .slice (some ⟨k, o, none⟩) l.length c ∧ (l ≠ [] → ∃ b : LB, H.get k = some b ∧ k < H.n ∧ ∀ (i : Nat) (h : i < l.length), o + i * 2 + 2 ≤ b.cells.length ∧ (b.cells.drop (o + i * 2)).take 2 = [str l[i].1, str l[i].2] ∧ b.cells[o + i * 2]? = some (str l[i].1) ∧ b.cells[o + i * 2 + 1]? = some (str l[i].2))
/-- v is a row of headers of our own -/
abbrev HOwn (N : Nat) (H : LH) (v : Value) (l : List Tg.Hd.Hdr) : Prop := RowN N H 78 2 v l.length (Tg.Hd.cells l)
def oddAt : List Tg.Hd.Hdr → Nat → Int
  | [], _ => -1
  | h :: l, i => if Tg.Hd.fine h = true then oddAt l (i + 1) else i
theorem odd_iff : ∀ (l : List Tg.Hd.Hdr) (i : Nat), 0 ≤ oddAt l i ↔ l.all Tg.Hd.fine = false
  | [], i => by simp [oddAt]
  | h :: l, i => by
    unfold oddAt
    rw [List.all_cons]
    cases hf : Tg.Hd.fine h with
    | true => rw [if_pos rfl, odd_iff l (i + 1)]; simp
    | false => rw [if_neg (by decide)]; simp
section
variable {H H' : LH} {v : Value} {l : List Tg.Hd.Hdr} {N : Nat}
theorem HRow.keep (h : HRow H v l) (hn : H.n ≤ H'.n) (hk : ∀ k, k < H.n → H'.get k = H.get k) : HRow H' v l := by
  rcases h with h | ⟨k, o, c, h1, h2⟩
  · exact .inl h
  · refine .inr ⟨k, o, c, h1, fun hne => ?_⟩
    obtain ⟨b, h2, h3, h4⟩ := h2 hne
    exact ⟨b, by rw [hk k h3]; exact h2, by omega, h4⟩
theorem HRow.len (h : HRow H v l) : lbuiltin Tryz.prog .len [32] [v] H' = some (.int .i64 l.length, H') := by
  rcases h with ⟨rfl, rfl⟩ | ⟨k, o, c, rfl, h2⟩
  · simp
  · simp
theorem HRow.at (h : HRow H v l) {i : Nat} (hi : i < l.length) : ∃ k o, (∀ H' : LH, lixa Tryz.prog 32 v (.int .i64 i) H' = some (ptr k o, H')) ∧ k < H.n ∧ ∀ H' : LH, H'.get k = H.get k →
    lld Tryz.prog 78 (ptr k o) H' = some (hv l[i]) ∧ lld Tryz.prog 9 (ptr k o) H' = some (str l[i].1) ∧ lld Tryz.prog 9 (ptr k (o + 1)) H' = some (str l[i].2) := by
  rcases h with ⟨rfl, rfl⟩ | ⟨k, o, c, rfl, h2⟩
  · simp at hi
  · obtain ⟨b, h2, h3, h4⟩ := h2 (fun e => by rw [e] at hi; simp at hi)
    obtain ⟨g1, g2, g3, g4⟩ := h4 i hi
    refine ⟨k, o + i * 2, fun H' => ?_, h3, fun H' e => ?_⟩
    · have q := eq_true (show (i : Int) < (l.length : Int) by omega)
      simp [q]
    · rw [h2] at e
      have hlt : o + i * 2 < b.cells.length := by omega
      have hlt2 : o + i * 2 + 1 < b.cells.length := by omega
      rw [List.getElem?_eq_getElem hlt] at g3
      rw [List.getElem?_eq_getElem hlt2] at g4
      injection g3 with g3
      injection g4 with g4
      simp [e, g1, g2, g3, g4, hlt, hlt2]
theorem HOwn.row (h : HOwn N H v l) : HRow H v l := by
  rcases h.2 with ⟨rfl, h0⟩ | ⟨k, c, rest, rfl, h1, h2, h3, h4, h5⟩
  · exact .inl ⟨rfl, List.eq_nil_of_length_eq_zero h0⟩
  · refine .inr ⟨k, 0, c, rfl, fun _ => ⟨_, h3, h2, fun i hi => ?_⟩⟩
    have g := Tg.Hd.cells_at hi rest
    have hl := Tg.Hd.cells_len l
    simp only [Nat.zero_add]
    refine ⟨?_, g⟩
    rw [List.length_append, hl]; omega
theorem HOwn.nil : HOwn N H (.slice none 0 0) [] := RowN.nil
theorem h_app (h : HOwn N H v l) (hN : N ≤ H.n) (hl : l.length ≤ 100000) (a b : List UInt8) :
    ∃ v' H2, lapp Tryz.prog 32 v (some (1, [str a, str b])) (H.new ⟨[str a, str b], 78, true⟩) = some (v', H2) ∧ HOwn N H2 v' (l ++ [(a, b)]) ∧ H.n < H2.n ∧ (∀ k, k < H.n → offRow v k → H2.get k = H.get k) ∧ (Full v → Full v') ∧ (∀ k, k < H.n → offRow v k → offRow v' k) := by
  have h2 : HOwn N (H.new ⟨[str a, str b], 78, true⟩) v l := h.keep (Nat.le_succ _) (fun k _ _ hk => get_new_ne (by omega))
  obtain ⟨v', H2, ha, hr, hk, hf⟩ := RowN.app (P := Tryz.prog) (t := 32) (new := [str a, str b]) (m := 1) h2 Tryz.underlying32 (by kernel_rfl) (by simp) (by simp) (by unfold maxElems; omega) (by rw [n_new]; omega) (.inl (Nat.le_refl 1))
  refine ⟨v', H2, ha, ?_, ?_, fun k hkn ho => ?_, hf, fun k hkn ho => ?_⟩
  · have e : Tg.Hd.cells (l ++ [(a, b)]) = Tg.Hd.cells l ++ [str a, str b] := by rw [Tg.Hd.cells_app]; rfl
    rw [HOwn, List.length_append, e]; exact hr
  · have := hk.le; rw [n_new] at this; omega
  · rw [hk.get k (by rw [n_new]; omega) ho, get_new_ne (by omega)]
  · exact hk.off k (by rw [n_new]; omega) ho
theorem odd_cl {h : Tg.Hd.Hdr} (h1 : h.1.length ≤ 1048576) (h2 : h.2.length ≤ 1048576) : LC Tryz.prog EJ 119 [hv h] H = some (.bool (!Tg.Hd.fine h), H) := by
  refine LC_pure rfl Tryz.func119 rfl (Nat.le_of_ble_eq_true rfl) (by decide) (by kernel_rfl) rfl ?_
  have hf := fun H : LH => fine_cl (H := H) h1 h2
  simp [hf, le_refl.new]
theorem index_cl (hr : HRow H v l) (hl : l.length ≤ 1000000) (hs : ∀ h ∈ l, h.1.length ≤ 1048576 ∧ h.2.length ≤ 1048576) : LC Tryz.prog EJ 136 [v, .func (.func 119) #[] #[]] H = some (.int .i64 (oddAt l 0), H) := by
  refine LC_pure rfl Tryz.func136 rfl (Nat.le_of_ble_eq_true rfl) (by decide) (by kernel_rfl) rfl ?_
  obtain ⟨x, hx⟩ : ∃ x, x = oddAt l 0 := ⟨_, rfl⟩
  rw [← hx]
  simp [hr.len]
  refine loop_ind (fun (i : Nat) fr' H' => fr' 0 = v ∧ fr' 1 = .func (.func 119) #[] #[] ∧ fr' 7 = .int .i64 l.length ∧ fr' 8 = .int .i64 i ∧ i ≤ l.length ∧ x = oddAt (l.drop i) i ∧ H' = H) (fun i => l.length - i) 0 ⟨by simp, by simp, by simp, by simp, Nat.zero_le _, hx, rfl⟩ ?_
  rintro i fr' H' ⟨h0, h1, h7, h8, hi, hc, rfl⟩ ih
  by_cases hlt : i < l.length
  · have q := eq_true (show (i : Int) < (l.length : Int) by omega)
    have hw : IntKind.i64.wrap ((i : Int) + 1) = ((i + 1 : Nat) : Int) := by rw [wrapI (by omega) (by omega)]; omega
    obtain ⟨k, o, g1, g2, g3⟩ := hr.at hlt
    obtain ⟨g4, _, _⟩ := g3 H' rfl
    have hm := hs l[i] (List.getElem_mem hlt)
    have ho := fun H : LH => odd_cl (H := H) (h := l[i]) hm.1 hm.2
    rw [List.drop_eq_getElem_cons hlt] at hc
    generalize l[i] = a at *
    unfold oddAt at hc
    cases hf : Tg.Hd.fine a with
    | true =>
      rw [hf, if_pos rfl] at hc
      rw [hf] at ho
      simp [h0, h1, h7, h8, q, hlt, g1, g4, ho]
      refine ih (i + 1) _ _ (by omega) ⟨?_, ?_, ?_, ?_, by omega, hc, rfl⟩
      all_goals simp [h0, h1, h7, hw]
    | false =>
      rw [hf, if_neg (by decide)] at hc
      rw [hf] at ho
      subst hc
      simp [h0, h1, h7, h8, q, hlt, g1, g4, ho]
  · have q := eq_false (show ¬ (i : Int) < (l.length : Int) by omega)
    rw [List.drop_of_length_le (by omega)] at hc
    have hc : x = -1 := hc
    subst hc
    simp [h0, h1, h7, h8, q, hlt]
theorem good_hl (hr : HRow H v l) (hl : l.length ≤ 1000000) (hs : ∀ h ∈ l, h.1.length ≤ 1048576 ∧ h.2.length ≤ 1048576) : LC Tryz.prog EJ 105 [v] H = some (.bool (Tg.Hd.good l), H) := by
  have hi : ∀ H', H' = H → LC Tryz.prog EJ 136 [v, .func (.func 119) #[] #[]] H' = some (.int .i64 (oddAt l 0), H') := fun H' e => by subst e; exact index_cl hr hl hs
  have hc : LC Tryz.prog EJ 121 [v, .func (.func 119) #[] #[]] H = some (.bool (decide (0 ≤ oddAt l 0)), H) := by
    refine LC_pure rfl Tryz.func121 rfl (Nat.le_of_ble_eq_true rfl) (by decide) (by kernel_rfl) rfl ?_
    simp [hi]
  have hodd := odd_iff l 0
  refine LC_pure rfl Tryz.func105 rfl (Nat.le_of_ble_eq_true rfl) (by decide) (by kernel_rfl) rfl ?_
  unfold Tg.Hd.good
  by_cases h1 : l.length ≤ 100
  · have q := eq_true (show (l.length : Int) ≤ 100 by omega)
    cases hall : l.all Tg.Hd.fine with
    | true =>
      rw [hall] at hodd
      rw [decide_eq_false (by rw [hodd]; decide)] at hc
      simp [hr.len, q, h1, hc]
    | false =>
      rw [hall] at hodd
      rw [decide_eq_true (by rw [hodd])] at hc
      simp [hr.len, q, h1, hc]
  · have q := eq_false (show ¬ (l.length : Int) ≤ 100 by omega)
    simp [hr.len, q, h1]
end
end Go.Proofs.YthgcgjpbhbikaaaGreatDoor
/-
  Layer 22 (header): what the reference's functions come to: texts, tokens, good headers.
-/
set_option linter.unusedSimpArgs false
set_option linter.unusedVariables false
set_option maxRecDepth 100000
namespace Tg.Hd
theorem trimE_cons (c : UInt8) (r : List UInt8) : trimE (c :: r) = if trimE r = [] ∧ white c = true then [] else c :: trimE r := by
  unfold trimE
  rw [List.reverse_cons, List.dropWhile_append]
  cases hd : r.reverse.dropWhile white with
  | nil =>
    simp only [List.isEmpty_nil, if_true, List.reverse_nil, true_and]
    cases hw : white c with
    | true => simp [hw]
    | false => simp [hw]
  | cons x l => simp
theorem trim_front : ∀ s : List UInt8, trimE (s.dropWhile white) = trim s
  | [] => rfl
  | c :: r => by
    have ih := trim_front r
    unfold trim at ih ⊢
    rw [trimE_cons, List.dropWhile_cons]
    cases hw : white c with
    | true =>
      simp only [if_true, and_true]
      split
      · rename_i h; rw [ih, h]
      · rw [List.dropWhile_cons, if_pos hw]; exact ih
    | false =>
      simp only [Bool.false_eq_true, if_false, and_false]
      rw [trimE_cons, hw]
      simp only [Bool.false_eq_true, and_false, if_false]
      rw [List.dropWhile_cons, if_neg (by rw [hw]; decide)]
end Tg.Hd
namespace Go.Proofs.YthgcgjpbhbikaaaGreatDoor
open Go.Lg Go.Tg
section
variable {H : LH} {b : UInt8} {s p : List UInt8}
theorem htn_ne {c b : UInt8} (h : ¬ c = b) : ((c.toNat : Int) = (b.toNat : Int)) = False := eq_false (fun e => h (UInt8.toNat_inj.mp (by omega)))
theorem hhas_cl (hs : s.length ≤ 1048576) : LC Tryz.prog EJ 84 [str s, .int .u8 b.toNat] H = some (.bool (s.contains b), H) := by
  refine LC_pure rfl Tryz.func84 rfl (Nat.le_of_ble_eq_true rfl) (by decide) (by kernel_rfl) rfl ?_
  obtain ⟨x, hx⟩ : ∃ x, x = s.contains b := ⟨_, rfl⟩
  rw [← hx]
  simp
  refine loop_ind (fun (i : Nat) fr' H' => fr' 0 = str s ∧ fr' 1 = .int .u8 b.toNat ∧ fr' 5 = .int .i64 i ∧ i ≤ s.length ∧ x = (s.drop i).contains b ∧ H' = H) (fun i => s.length - i) 0 ⟨by simp, by simp, by simp, Nat.zero_le _, hx, rfl⟩ ?_
  rintro i fr' H' ⟨h0, h1, h5, hi, hc, rfl⟩ ih
  by_cases hlt : i < s.length
  · have q := eq_true (show (i : Int) < (s.length : Int) by omega)
    have hat : at_ s (i : Int) = s[i] := at_in hlt
    have hw : IntKind.i64.wrap ((i : Int) + 1) = ((i + 1 : Nat) : Int) := by rw [wrapI (by omega) (by omega)]; omega
    rw [List.drop_eq_getElem_cons hlt, List.contains_cons] at hc
    generalize s[i] = c at *
    by_cases hcb : c = b
    · subst hcb
      have hc : x = true := by rw [hc]; simp
      subst hc
      simp [h0, h1, h5, q, hat]
    · have hbc : (b == c) = false := by simp; exact fun e => hcb e.symm
      rw [hbc, Bool.false_or] at hc
      have hcb := htn_ne hcb
      simp [h0, h1, h5, q, hat, hcb]
      refine ih (i + 1) _ _ (by omega) ⟨?_, ?_, ?_, by omega, hc, rfl⟩
      all_goals simp [h0, h1, hw]
  · have q := eq_false (show ¬ (i : Int) < (s.length : Int) by omega)
    rw [List.drop_of_length_le (by omega)] at hc
    have hc : x = false := hc
    subst hc
    simp [h0, h1, h5, q]
theorem hwhite_cl : LC Tryz.prog EJ 103 [.int .u8 b.toNat] H = some (.bool (Tg.Hd.white b), H) := by
  refine LC_pure rfl Tryz.func103 rfl (Nat.le_of_ble_eq_true rfl) (by decide) (by kernel_rfl) rfl ?_
  have hh := fun H : LH => hhas_cl (H := H) (s := [9, 10, 13, 32]) (b := b) (by decide)
  have e : ([9, 10, 13, 32] : List UInt8).contains b = Tg.Hd.white b := rfl
  rw [e] at hh
  simp [hh]
theorem htrim_cl (hs : s.length ≤ 1048576) : LC Tryz.prog EJ 86 [str s] H = some (str (Tg.Hd.trim s), H) := by
  refine LC_pure rfl Tryz.func86 rfl (Nat.le_of_ble_eq_true rfl) (by decide) (by kernel_rfl) rfl ?_
  have hw := fun (H : LH) (b : UInt8) => hwhite_cl (H := H) (b := b)
  rw [← Tg.Hd.trim_front]
  refine runs_cut 2 (fun fr' H' => fr' 0 = str (s.dropWhile Tg.Hd.white) ∧ H' = H) ?_ (fun K2 hK2 => ?_) rfl
  · rintro fr' H' ⟨f0, rfl⟩
    have hll : (s.dropWhile Tg.Hd.white).length ≤ 1048576 := Nat.le_trans (dw_le _) hs
    generalize s.dropWhile Tg.Hd.white = t at *
    obtain ⟨y, hy⟩ : ∃ y, y = Tg.Hd.trimE t := ⟨_, rfl⟩
    rw [← hy]
    unfold Tg.Hd.trimE at hy
    simp
    refine loop_ind (fun (t' : List UInt8) fr'' H'' => fr'' 0 = str t' ∧ t'.length ≤ 1048576 ∧ y = (t'.reverse.dropWhile Tg.Hd.white).reverse ∧ H'' = H') (fun t' => t'.length) t ⟨by simp [f0], hll, hy, rfl⟩ ?_
    rintro t' fr' H' ⟨h0, hl, hc, rfl⟩ ih
    rcases List.eq_nil_or_concat t' with rfl | ⟨r, c, rfl⟩
    · have hc : y = [] := hc
      subst hc
      simp [h0]
    · rw [List.concat_eq_append] at *
      rw [List.reverse_append, List.reverse_singleton, List.singleton_append, List.dropWhile_cons] at hc
      have hlen : (r ++ [c]).length = r.length + 1 := by simp
      have hat : at_ (r ++ [c]) (r.length : Int) = c := by
        rw [at_in (by simp)]; simp
      have hw2 : IntKind.i64.wrap (((r.length : Int) + 1) - 1) = (r.length : Int) := by rw [wrapI (by omega) (by omega)]; omega
      have hw4 : IntKind.i64.wrap (r.length : Int) = (r.length : Int) := wrapI (by omega) (by omega)
      have q1 := eq_true (show (0 : Int) < (r.length : Int) + 1 by omega)
      have q2 := eq_true (show (r.length : Int) < (r.length : Int) + 1 by omega)
      have q3 := eq_true (show (r.length : Int) ≤ (r.length : Int) + 1 by omega)
      have hwc := fun H => hw H c
      cases h32 : Tg.Hd.white c with
      | true =>
        rw [h32] at hc hwc
        rw [if_pos rfl] at hc
        simp [h0, hw2, hw4, q1, q2, q3, hat, hwc]
        refine ih r _ _ (by simp) ⟨?_, by omega, hc, rfl⟩
        simp
      | false =>
        rw [h32] at hc hwc
        rw [if_neg (by decide)] at hc
        have hc : y = r ++ [c] := by rw [hc]; simp
        subst hc
        simp [h0, hw2, hw4, q1, q2, q3, hat, hwc]
  have hfin := fun fr' (g0 : fr' 0 = str (s.dropWhile Tg.Hd.white)) => hK2 fr' _ ⟨g0, rfl⟩
  clear hK2
  obtain ⟨y, hy⟩ : ∃ y, y = s.dropWhile Tg.Hd.white := ⟨_, rfl⟩
  rw [← hy] at hfin ⊢
  simp
  refine loop_ind (fun (t' : List UInt8) fr' H' => fr' 0 = str t' ∧ t'.length ≤ 1048576 ∧ y = t'.dropWhile Tg.Hd.white ∧ H' = H) (fun t' => t'.length) s ⟨by simp, hs, hy, rfl⟩ ?_
  rintro t' fr' H' ⟨h0, hl, hc, rfl⟩ ih
  cases t' with
  | nil =>
    have hc : y = [] := hc
    subst hc
    simp [h0]
    refine hfin _ ?_
    all_goals simp [h0]
  | cons c r =>
    rw [List.dropWhile_cons] at hc
    have a0 : at_ (c :: r) 0 = c := rfl
    have q1 := eq_true (show (0 : Int) < (r.length : Int) + 1 by omega)
    have q2 := eq_true (show (1 : Int) ≤ (r.length : Int) + 1 by omega)
    have hwc := fun H => hw H c
    cases h32 : Tg.Hd.white c with
    | true =>
      rw [h32] at hc hwc
      rw [if_pos rfl] at hc
      simp [h0, a0, q1, q2, hwc]
      refine ih r _ _ (by simp) ⟨?_, by simp at hl; omega, hc, rfl⟩
      all_goals simp
    | false =>
      rw [h32] at hc hwc
      rw [if_neg (by decide)] at hc
      subst hc
      simp [h0, a0, q1, q2, hwc]
      refine hfin _ ?_
      all_goals simp [h0]
theorem hdigit_cl : LC Tryz.prog EJ 118 [.int .u8 b.toNat] H = some (.bool (Tg.Hd.isD b), H) := by
  refine LC_pure rfl Tryz.func118 rfl (Nat.le_of_ble_eq_true rfl) (by decide) (by kernel_rfl) rfl ?_
  unfold Tg.Hd.isD
  by_cases h1 : (48 : Int) ≤ b.toNat <;> by_cases h2 : (b.toNat : Int) ≤ 57 <;> simp [h1, h2]
theorem hletter_cl : LC Tryz.prog EJ 117 [.int .u8 b.toNat] H = some (.bool (Tg.Hd.isL b), H) := by
  refine LC_pure rfl Tryz.func117 rfl (Nat.le_of_ble_eq_true rfl) (by decide) (by kernel_rfl) rfl ?_
  unfold Tg.Hd.isL
  by_cases h1 : (97 : Int) ≤ b.toNat <;> by_cases h2 : (b.toNat : Int) ≤ 122 <;> by_cases h3 : (65 : Int) ≤ b.toNat <;> by_cases h4 : (b.toNat : Int) ≤ 90 <;> simp [h1, h2, h3, h4]
theorem htoken_cl : LC Tryz.prog EJ 102 [.int .u8 b.toNat] H = some (.bool (Tg.Hd.tok b), H) := by
  refine LC_pure rfl Tryz.func102 rfl (Nat.le_of_ble_eq_true rfl) (by decide) (by kernel_rfl) rfl ?_
  have h1 := fun H : LH => hletter_cl (H := H) (b := b)
  have h2 := fun H : LH => hdigit_cl (H := H) (b := b)
  have h3 := fun H : LH => hhas_cl (H := H) (s := [33, 35, 36, 37, 38, 39, 42, 43, 45, 46, 94, 95, 96, 124, 126]) (b := b) (by decide)
  have e : ([33, 35, 36, 37, 38, 39, 42, 43, 45, 46, 94, 95, 96, 124, 126] : List UInt8).contains b = Tg.Hd.signs.contains b := by
    unfold Tg.Hd.signs
    rw [Bool.eq_iff_iff]
    simp only [List.contains_eq_mem, List.mem_cons, List.not_mem_nil, or_false, decide_eq_true_eq]
    constructor <;> intro h <;> rcases h with h | h | h | h | h | h | h | h | h | h | h | h | h | h | h <;> simp [h]
  rw [e] at h3
  unfold Tg.Hd.tok
  cases e1 : Tg.Hd.isL b with
  | true => rw [e1] at h1; simp [h1]
  | false =>
    rw [e1] at h1
    cases e2 : Tg.Hd.isD b with
    | true => rw [e2] at h2; simp [h1, h2]
    | false =>
      rw [e2] at h2
      simp [h1, h2, h3]
theorem htokens_cl (hs : s.length ≤ 1048576) : LC Tryz.prog EJ 85 [str s] H = some (.bool (s.all Tg.Hd.tok && decide (s ≠ [])), H) := by
  refine LC_pure rfl Tryz.func85 rfl (Nat.le_of_ble_eq_true rfl) (by decide) (by kernel_rfl) rfl ?_
  have hh := fun (H : LH) (b : UInt8) => htoken_cl (H := H) (b := b)
  obtain ⟨x, hx⟩ : ∃ x, x = (s.all Tg.Hd.tok && decide (s ≠ [])) := ⟨_, rfl⟩
  rw [← hx]
  simp
  refine loop_ind (fun (i : Nat) fr' H' => fr' 0 = str s ∧ fr' 3 = .int .i64 i ∧ i ≤ s.length ∧ x = ((s.drop i).all Tg.Hd.tok && decide (s ≠ [])) ∧ H' = H) (fun i => s.length - i) 0 ⟨by simp, by simp, Nat.zero_le _, hx, rfl⟩ ?_
  rintro i fr' H' ⟨h0, h3, hi, hc, rfl⟩ ih
  by_cases hlt : i < s.length
  · have q := eq_true (show (i : Int) < (s.length : Int) by omega)
    have hat : at_ s (i : Int) = s[i] := at_in hlt
    have hw : IntKind.i64.wrap ((i : Int) + 1) = ((i + 1 : Nat) : Int) := by rw [wrapI (by omega) (by omega)]; omega
    rw [List.drop_eq_getElem_cons hlt, List.all_cons] at hc
    have hhc := fun H => hh H s[i]
    generalize s[i] = c at *
    cases hcb : Tg.Hd.tok c with
    | false =>
      rw [hcb] at hc hhc
      have hc : x = false := by rw [hc]; simp
      subst hc
      simp [h0, h3, q, hat, hhc]
    | true =>
      rw [hcb, Bool.true_and] at hc
      rw [hcb] at hhc
      simp [h0, h3, q, hat, hhc]
      refine ih (i + 1) _ _ (by omega) ⟨?_, ?_, by omega, hc, rfl⟩
      all_goals simp [h0, hw]
  · have q := eq_false (show ¬ (i : Int) < (s.length : Int) by omega)
    rw [List.drop_of_length_le (by omega)] at hc
    have hc : x = decide (s ≠ []) := by rw [hc]; simp
    subst hc
    by_cases hn : s = []
    · subst hn
      have qn := eq_false (show ¬ (i : Int) < 0 by omega)
      simp [h0, h3, qn]
    · simp [h0, h3, q, hn]
theorem hfine_cl {h : Tg.Hd.Hdr} (h1 : h.1.length ≤ 1048576) (h2 : h.2.length ≤ 1048576) : LC Tryz.prog EJ 61 [hv h] H = some (.bool (Tg.Hd.fine h), H) := by
  refine LC_pure rfl Tryz.func61 rfl (Nat.le_of_ble_eq_true rfl) (by decide) (by kernel_rfl) rfl ?_
  have hle : H.le (H.new (hb h)) := le_refl.new
  obtain ⟨x, hx⟩ : ∃ x, x = Tg.Hd.fine h := ⟨_, rfl⟩
  rw [← hx]
  unfold Tg.Hd.fine at hx
  have ha := fun H : LH => htokens_cl (H := H) (s := h.1) (by omega)
  have ht := fun H : LH => htrim_cl (H := H) (s := h.2) (by omega)
  have hh := fun (H : LH) (b : UInt8) => hhas_cl (H := H) (s := [0, 13, 10]) (b := b) (by decide)
  obtain ⟨n, v⟩ := h
  simp only at *
  refine runs_cut 2 (fun fr' H' => fr' 1 = ptr H.n 0 ∧ H' = H.new (hb (n, v)) ∧ Tg.Hd.free [0, 13, 10] v = true) ?_ (fun K3 hK3 => ?_) rfl
  · rintro fr' H' ⟨f1, rfl, hfr⟩
    rw [hfr] at hx
    by_cases e1 : n = []
    · have : x = false := by rw [hx]; simp [e1]
      subst this
      subst e1
      simp [f1, ha, hle]
    · cases e2 : n.all Tg.Hd.tok with
      | false =>
        have : x = false := by rw [hx, e2]; simp
        subst this
        rw [e2] at ha
        simp [f1, ha, hle]
      | true =>
        rw [e2] at ha hx
        by_cases e3 : Tg.Hd.trim v = v
        · by_cases e5 : v.length ≤ 8192
          · have : x = true := by rw [hx]; simp [e1, e3, e5]
            subst this
            have q5 := eq_true (show (v.length : Int) < 8193 by omega)
            simp [f1, e1, ha, ht, e3, q5, hle]
          · have : x = false := by rw [hx]; simp [e5]
            subst this
            have q5 := eq_false (show ¬ (v.length : Int) < 8193 by omega)
            simp [f1, e1, ha, ht, e3, q5, hle]
        · have : x = false := by rw [hx]; simp [e3]
          subst this
          simp [f1, e1, ha, ht, e3, hle]
  have hfin := fun fr' (g1 : fr' 1 = ptr H.n 0) (g : Tg.Hd.free [0, 13, 10] v = true) => hK3 fr' _ ⟨g1, rfl, g⟩
  have hno : Tg.Hd.free [0, 13, 10] v = false → x = false := fun e => by rw [hx, e]; simp
  clear hK3 hx ha ht
  obtain ⟨y, hy⟩ : ∃ y, y = Tg.Hd.free [0, 13, 10] v := ⟨_, rfl⟩
  rw [← hy] at hfin hno
  unfold Tg.Hd.free at hy
  simp
  refine loop_ind (fun (i : Nat) fr' H' => fr' 1 = ptr H.n 0 ∧ fr' 3 = .int .i64 i ∧ i ≤ v.length ∧ y = (v.drop i).all (fun b => !([0, 13, 10] : List UInt8).contains b) ∧ H' = H.new (hb (n, v))) (fun i => v.length - i) 0 ⟨by simp, by simp, Nat.zero_le _, hy, rfl⟩ ?_
  rintro i fr' H' ⟨h0, h3, hi, hc, rfl⟩ ih
  by_cases hlt : i < v.length
  · have q := eq_true (show (i : Int) < (v.length : Int) by omega)
    have hat : at_ v (i : Int) = v[i] := at_in hlt
    have hw : IntKind.i64.wrap ((i : Int) + 1) = ((i + 1 : Nat) : Int) := by rw [wrapI (by omega) (by omega)]; omega
    rw [List.drop_eq_getElem_cons hlt, List.all_cons] at hc
    have hhc := fun H => hh H v[i]
    generalize v[i] = c at *
    cases hcb : ([0, 13, 10] : List UInt8).contains c with
    | true =>
      rw [hcb] at hc hhc
      have hc : y = false := by rw [hc]; simp
      have := hno hc
      subst this
      simp [h0, h3, q, hlt, hat, hhc, hle]
    | false =>
      rw [hcb] at hc hhc
      have hc : y = (v.drop (i + 1)).all (fun b => !([0, 13, 10] : List UInt8).contains b) := by rw [hc]; simp
      simp [h0, h3, q, hlt, hat, hhc]
      refine ih (i + 1) _ _ (by omega) ⟨?_, ?_, by omega, hc, rfl⟩
      all_goals simp [h0, hw]
  · have q := eq_false (show ¬ (i : Int) < (v.length : Int) by omega)
    rw [List.drop_of_length_le (by omega)] at hc
    have hc : y = true := hc
    simp [h0, h3, q, hlt]
    refine hfin _ ?_ hc
    all_goals simp [h0]
end
end Go.Proofs.YthgcgjpbhbikaaaGreatDoor
/-
  Layer 22 (header): lists of headers: good ones, the same ones, their text, the first ones cut.
-/
set_option linter.unusedSimpArgs false
set_option linter.unusedVariables false
set_option maxRecDepth 100000
namespace Tg.Hd
theorem text_app (a b : List Hdr) : text (a ++ b) = text a ++ text b := List.flatMap_append
theorem text_one (h : Hdr) : text [h] = h.1 ++ [58, 32] ++ h.2 ++ [13, 10] := by unfold text; simp
theorem text_len {m : Nat} : ∀ {l : List Hdr}, (∀ h ∈ l, h.1.length ≤ m ∧ h.2.length ≤ m) → (text l).length ≤ l.length * (2 * m + 4)
  | [], _ => by simp [text]
  | h :: l, hs => by
    have ih := text_len (l := l) (fun x hx => hs x (by simp [hx]))
    have := hs h (by simp)
    have e : text (h :: l) = (h.1 ++ [58, 32] ++ h.2 ++ [13, 10]) ++ text l := by unfold text; rw [List.flatMap_cons]
    rw [e, List.length_append, List.length_cons, Nat.add_mul]
    simp
    omega
end Tg.Hd
namespace Go.Proofs.YthgcgjpbhbikaaaGreatDoor
open Go.Lg Go.Tg
section
variable {H : LH} {v w : Value} {l m : List Tg.Hd.Hdr} {N : Nat}
theorem hgood_cl (hr : HRow H v l) (hl : l.length ≤ 1000000) (hs : ∀ h ∈ l, h.1.length ≤ 1048576 ∧ h.2.length ≤ 1048576) : LC Tryz.prog EJ 36 [v] H = some (.bool (Tg.Hd.good l), H) := by
  refine LC_pure rfl Tryz.func36 rfl (Nat.le_of_ble_eq_true rfl) (by decide) (by kernel_rfl) rfl ?_
  obtain ⟨x, hx⟩ : ∃ x, x = Tg.Hd.good l := ⟨_, rfl⟩
  rw [← hx]
  unfold Tg.Hd.good at hx
  have hx : x = (decide (l.length ≤ 100) && (l.drop 0).all Tg.Hd.fine) := hx
  simp
  refine loop_ind (fun (i : Nat) fr' H' => fr' 0 = v ∧ fr' 3 = .int .i64 i ∧ i ≤ l.length ∧ x = (decide (l.length ≤ 100) && (l.drop i).all Tg.Hd.fine) ∧ H' = H) (fun i => l.length - i) 0 ⟨by simp, by simp, Nat.zero_le _, hx, rfl⟩ ?_
  rintro i fr' H' ⟨h0, h3, hi, hc, rfl⟩ ih
  by_cases hlt : i < l.length
  · have q := eq_true (show (i : Int) < (l.length : Int) by omega)
    have hw : IntKind.i64.wrap ((i : Int) + 1) = ((i + 1 : Nat) : Int) := by rw [wrapI (by omega) (by omega)]; omega
    obtain ⟨k, o, g1, g2, g3⟩ := hr.at hlt
    obtain ⟨g4, _, _⟩ := g3 H' rfl
    have hm := hs l[i] (List.getElem_mem hlt)
    have ho := fun H : LH => hfine_cl (H := H) (h := l[i]) hm.1 hm.2
    rw [List.drop_eq_getElem_cons hlt, List.all_cons] at hc
    generalize l[i] = a at *
    cases hf : Tg.Hd.fine a with
    | true =>
      rw [hf] at hc ho
      simp [h0, h3, q, hlt, g1, g4, ho, hr.len]
      refine ih (i + 1) _ _ (by omega) ⟨?_, ?_, by omega, by rw [hc]; rfl, rfl⟩
      all_goals simp [h0, hw]
    | false =>
      rw [hf] at hc ho
      have hc : x = false := by rw [hc]; simp
      subst hc
      simp [h0, h3, q, hlt, g1, g4, ho, hr.len]
  · have q := eq_false (show ¬ (i : Int) < (l.length : Int) by omega)
    rw [List.drop_of_length_le (by omega)] at hc
    have hc : x = decide (l.length ≤ 100) := by rw [hc]; simp
    by_cases h1 : l.length ≤ 100
    · have q1 := eq_true (show (l.length : Int) < 101 by omega)
      rw [decide_eq_true h1] at hc
      subst hc
      simp [h0, h3, q, q1, hr.len]
    · have q1 := eq_false (show ¬ (l.length : Int) < 101 by omega)
      rw [decide_eq_false h1] at hc
      subst hc
      simp [h0, h3, q, q1, hr.len]
theorem hbin_neq {P : Program} {t : TypeId} {xs ys : List Value} {b : Bool} (hx : flatB (.agg ⟨xs⟩) = true) (hy : flatB (.agg ⟨ys⟩) = true) (hg : P.eqGuardType P.depth t = false)
    (he : pureVal P (Op.equalIn Op.maxDepth t (.agg ⟨xs⟩) (.agg ⟨ys⟩)) = some b) : lbin P .neq t (.agg ⟨xs⟩) (.agg ⟨ys⟩) = some (.bool (!b)) := by
  unfold lbin
  simp only
  rw [if_pos (by rw [hx, hy]; rfl)]
  unfold pureFlat eqGuard
  simp only [binOp, Op.equal, pureVal_bind]
  have e1 : ∀ X Y : Value, pureVal P (if (!true) = true then (pure () : Sem Unit) else do
      let __do_lift ← program
      let __do_lift_1 ← program
      if (!__do_lift.eqGuardType __do_lift_1.depth t) = true then pure ()
      else do
        let __do_lift ← Op.eqGuardIn Op.maxDepth t X Y
        if __do_lift = true then unsupported (Unsupported.noEntry "binop/eql: two nil values of an interface type with methods, in a part of a struct or an array") else pure ()) = some () := by
    intro X Y
    rw [if_neg (by decide)]
    simp only [pureVal_bind, pureVal_program, Option.bind_some, hg, Bool.not_false, if_true, pureVal_pure]
  rw [e1, he]
  rfl
theorem hdr_in {a b : Tg.Hd.Hdr} : pureVal Tryz.prog (Op.equalIn Op.maxDepth 78 (hv a) (hv b)) = some (decide (a = b)) := by
  show pureVal Tryz.prog (Op.equalIn ((9998 + 1) + 1) _ _ _) = _
  have hs : Tryz.prog.stoodInHeld 78 = false := by kernel_rfl
  obtain ⟨a1, a2⟩ := a
  obtain ⟨b1, b2⟩ := b
  unfold Op.equalIn
  simp only [pureVal_bind, pureVal_und, Tryz.underlying78, Option.bind_some, pureVal_program, hs, Bool.false_eq_true, if_false, pureVal_pure]
  by_cases h1 : a1 = b1 <;> by_cases h2 : a2 = b2 <;>
    simp [← Array.forIn_toList, pureVal_bind, part_cell, eqIn_int, eqIn_str, eqIn_bool, h1, h2, Tryz.underlying3, Tryz.underlying9, Tryz.underlying4]
theorem hdr_eq {a b : Tg.Hd.Hdr} : lbin Tryz.prog .eql 78 (hv a) (hv b) = some (.bool (decide (a = b))) := lbin_agg rfl rfl (by kernel_rfl) hdr_in
theorem hdr_ne {a b : Tg.Hd.Hdr} : lbin Tryz.prog .neq 78 (hv a) (hv b) = some (.bool (!decide (a = b))) := hbin_neq rfl rfl (by kernel_rfl) hdr_in
theorem hsame_cl (hr : HRow H v l) (hw : HRow H w m) (hl : l.length ≤ 1000000) : LC Tryz.prog EJ 44 [v, w] H = some (.bool (decide (l = m)), H) := by
  refine LC_pure rfl Tryz.func44 rfl (Nat.le_of_ble_eq_true rfl) (by decide) (by kernel_rfl) rfl ?_
  by_cases hlm : l.length = m.length
  · obtain ⟨x, hx⟩ : ∃ x, x = decide (l.drop 0 = m.drop 0) := ⟨_, rfl⟩
    have e : decide (l = m) = x := hx.symm
    rw [e]
    have q0 := eq_true (show (l.length : Int) = (m.length : Int) by omega)
    simp [hr.len, hw.len, q0, hlm]
    refine loop_ind (fun (i : Nat) fr' H' => fr' 0 = v ∧ fr' 1 = w ∧ fr' 5 = .int .i64 i ∧ i ≤ l.length ∧ x = decide (l.drop i = m.drop i) ∧ H' = H) (fun i => l.length - i) 0 ⟨by simp, by simp, by simp, Nat.zero_le _, hx, rfl⟩ ?_
    rintro i fr' H' ⟨h0, h1, h5, hi, hc, rfl⟩ ih
    by_cases hlt : i < l.length
    · have q := eq_true (show (i : Int) < (m.length : Int) by omega)
      have q' := eq_true (show (i : Int) < (l.length : Int) by omega)
      have hlt2 : i < m.length := by omega
      have hw1 : IntKind.i64.wrap ((i : Int) + 1) = ((i + 1 : Nat) : Int) := by rw [wrapI (by omega) (by omega)]; omega
      obtain ⟨k, o, g1, g2, g3⟩ := hr.at hlt
      obtain ⟨k', o', g1', g2', g3'⟩ := hw.at hlt2
      obtain ⟨g4, _, _⟩ := g3 H' rfl
      obtain ⟨g4', _, _⟩ := g3' H' rfl
      have hne := fun a b => hdr_ne (a := a) (b := b)
      rw [List.drop_eq_getElem_cons hlt, List.drop_eq_getElem_cons hlt2] at hc
      generalize l[i] = a at *
      generalize m[i] = b at *
      by_cases hab : a = b
      · subst hab
        have hc : x = decide (l.drop (i + 1) = m.drop (i + 1)) := by rw [hc]; simp
        simp [h0, h1, h5, q, q', hlt, hlt2, g1, g4, g1', g4', hne, hr.len]
        refine ih (i + 1) _ _ (by omega) ⟨?_, ?_, ?_, by omega, hc, rfl⟩
        all_goals simp [h0, h1, hw1]
      · have hc : x = false := by rw [hc]; simp [hab]
        subst hc
        simp [h0, h1, h5, q, q', hlt, hlt2, g1, g4, g1', g4', hne, hab, hr.len]
    · have q := eq_false (show ¬ (i : Int) < (m.length : Int) by omega)
      have q' := eq_false (show ¬ (i : Int) < (l.length : Int) by omega)
      rw [List.drop_of_length_le (by omega), List.drop_of_length_le (by omega)] at hc
      have hc : x = true := hc
      subst hc
      simp [h0, h1, h5, q, q', hlt, hr.len]
  · have e : decide (l = m) = false := decide_eq_false (fun e => hlm (by rw [e]))
    have q0 := eq_false (show ¬ (l.length : Int) = (m.length : Int) by omega)
    rw [e]
    simp [hr.len, hw.len, q0, hlm]
end
end Go.Proofs.YthgcgjpbhbikaaaGreatDoor
/-
  Layer 22 (header): the text of headers by the code; the first headers, cut.
-/
set_option linter.unusedSimpArgs false
set_option linter.unusedVariables false
set_option maxRecDepth 100000
namespace Go.Proofs.YthgcgjpbhbikaaaGreatDoor
open Go.Lg Go.Tg
section
variable {H : LH} {v w : Value} {l m : List Tg.Hd.Hdr} {N : Nat} {s : List UInt8}
theorem hcut_cl {k : Int} (h0 : 0 ≤ k) : LC Tryz.prog EJ 9 [str s, .int .i64 k] H = some (str (s.take k.toNat), H) := by
  refine LC_pure rfl Tryz.func9 rfl (Nat.le_of_ble_eq_true rfl) (by decide) (by kernel_rfl) (by simp) ?_
  by_cases hc : k < s.length
  · have f := eq_true hc
    have f2 := eq_true (show k ≤ s.length by omega)
    have f3 := eq_true h0
    simp [f, f2, f3]
  · have f := eq_false hc
    have e : s.take k.toNat = s := List.take_of_length_le (by omega)
    simp [f, e]
theorem bs0h : lbuildSlice Tryz.prog 32 0 [] H = some (sl H.n 0 0, H.new ⟨[], 78, true⟩) := by
  unfold lbuildSlice
  simp [Instr.fill, Value.cells]
  rfl
theorem bs1h {a b : List UInt8} : lbuildSlice Tryz.prog 32 1 [(0, .agg #[str a, str b])] H = some (sl H.n 1 1, H.new ⟨[str a, str b], 78, true⟩) := by
  unfold lbuildSlice
  simp [Instr.fill, Value.cells, Array.range]
  rfl
/-- a row of our own is handed back -/
structure OutRow (H : LH) (v : Value) (H' : LH) (l : List Tg.Hd.Hdr) : Prop where
  row : HOwn H.n H' v l
  full : Full v
  le : H.n ≤ H'.n
  old : ∀ k, k < H.n → H'.get k = H.get k
theorem OutRow.trunc {H' : LH} (h : OutRow H v H' l) : ∃ H2, Lg.trunc H (v, H') = (v, H2) ∧ OutRow H v H2 l := by
  rcases trunc_or v H H' with e | ⟨e, hf, _⟩
  · exact ⟨H', e, h⟩
  · refine ⟨H, e, ⟨?_, h.full, Nat.le_refl _, fun _ _ => rfl⟩⟩
    refine ⟨h.row.1, ?_⟩
    rcases h.row.2 with h2 | ⟨k, c, rest, rfl, _⟩
    · exact .inl h2
    · simp [flatB, flat1B, atomB] at hf
theorem few_hl (hr : HRow H v l) (hl : l.length ≤ 9223372036854775807) {c : Nat} (hc : c ≤ 1000) : ∃ v' H', LC Tryz.prog EJ 27 [v, .int .i64 c] H = some (v', H') ∧ OutRow H v' H' (Tg.Hd.few l c) := by
  have key : ∃ r, LC Tryz.prog EJ 27 [v, .int .i64 c] H = some (Lg.trunc H r) ∧ OutRow H r.1 r.2 (Tg.Hd.few l c) := by
    refine LC_runs (P := Tryz.prog) (E := EJ) (f := 27) rfl Tryz.func27 rfl (Nat.le_of_ble_eq_true rfl) (by decide) (by kernel_rfl) ?_
    simp [bs0h]
    refine loop_ind (fun (i : Nat) fr' H' => fr' 0 = v ∧ fr' 1 = .int .i64 c ∧ fr' 6 = .int .i64 i ∧ i ≤ l.length ∧ i ≤ c ∧ ∃ w, fr' 5 = w ∧ OutRow H w H' ((l.take i).map fun h => (h.1.take 30, h.2.take 100))) (fun i => l.length - i) 0 ⟨by simp, by simp, by simp, Nat.zero_le _, Nat.zero_le _, sl H.n 0 0, by simp, ⟨?_, full_new, by simp, fun k hk => get_new_ne (by omega)⟩⟩ ?_
    · exact ⟨by simp [Tg.Hd.cells], .inr ⟨H.n, 0, [], by simp, Nat.le_refl _, by simp, by simp [Tg.Hd.cells], by simp, by simp [Tg.Hd.cells]⟩⟩
    rintro i fr' H' ⟨h0, h1, h6, hi, hic, w, h5, hrow, hfull, hn, hk⟩ ih
    have hr' := hr.keep hn hk
    by_cases hlt : i < l.length
    · have q := eq_true (show (i : Int) < (l.length : Int) by omega)
      by_cases hlc : i < c
      · have qc := eq_true (show (i : Int) < (c : Int) by omega)
        have hw1 : IntKind.i64.wrap ((i : Int) + 1) = ((i + 1 : Nat) : Int) := by rw [wrapI (by omega) (by omega)]; omega
        obtain ⟨k, o, g1, g2, g3⟩ := hr'.at hlt
        obtain ⟨_, g4, g5⟩ := g3 H' rfl
        have hc1 := fun H : LH => hcut_cl (H := H) (s := l[i].1) (k := 30) (by decide)
        have hc2 := fun H : LH => hcut_cl (H := H) (s := l[i].2) (k := 100) (by decide)
        simp only [show ((30 : Int).toNat) = 30 from rfl, show ((100 : Int).toNat) = 100 from rfl] at hc1 hc2
        have hnew : (l.take (i + 1)).map (fun h : Tg.Hd.Hdr => ((h.1.take 30, h.2.take 100) : Tg.Hd.Hdr)) = (l.take i).map (fun h : Tg.Hd.Hdr => ((h.1.take 30, h.2.take 100) : Tg.Hd.Hdr)) ++ [(l[i].1.take 30, l[i].2.take 100)] := by
          rw [List.take_succ_eq_append_getElem hlt, List.map_append]; rfl
        obtain ⟨v', H2, a1, a2, a3, a4, a5, a6⟩ := h_app hrow hn (by rw [List.length_map, List.length_take]; omega) (l[i].1.take 30) (l[i].2.take 100)
        rw [← hnew] at a2
        have hfin := fun fr2 (f0 : fr2 0 = v) (f1 : fr2 1 = .int .i64 c) (f6 : fr2 6 = .int .i64 ((i + 1 : Nat) : Int)) (f5 : fr2 5 = v') => ih (i + 1) fr2 H2 (by omega) ⟨f0, f1, f6, by omega, by omega, v', f5, ⟨a2, a5 hfull, by omega, fun k hk2 => by rw [a4 k (by omega) (hrow.off_lt hk2), hk k hk2]⟩⟩
        clear ih
        generalize l[i].1.take 30 = x1 at *
        generalize l[i].2.take 100 = x2 at *
        generalize l[i] = a at *
        simp [h0, h1, h5, h6, q, qc, hlt, hlc, g1, g4, g5, hc1, hc2, bs1h, a1, hr.len]
        refine hfin _ ?_ ?_ ?_ ?_
        all_goals simp [h0, h1, hw1]
      · have qc := eq_false (show ¬ (i : Int) < (c : Int) by omega)
        have hic : i = c := by omega
        subst hic
        simp [h0, h1, h5, h6, q, hlt, hr.len]
        exact ⟨hrow, hfull, hn, hk⟩
    · have q := eq_false (show ¬ (i : Int) < (l.length : Int) by omega)
      have e : l.take i = l.take c := by rw [List.take_of_length_le (by omega), List.take_of_length_le (by omega)]
      rw [e] at hrow
      simp [h0, h1, h5, h6, q, hr.len]
      exact ⟨hrow, hfull, hn, hk⟩
  obtain ⟨r, e, ho⟩ := key
  obtain ⟨H2, e2, ho2⟩ := ho.trunc
  exact ⟨r.1, H2, by rw [e, ← e2], ho2⟩
end
end Go.Proofs.YthgcgjpbhbikaaaGreatDoor
/-
  A logical run of Go code: a whole world as a logical heap that is only read: arguments of any shape.
-/
set_option linter.unusedSimpArgs false
set_option linter.unusedVariables false
namespace Go.Lg
open Go.Tg Go.RowKit

def lift1 (n : Nat) : Value → Value
  | .pointer (some ⟨l, o, none⟩) => if l < n then .pointer (some ⟨l, o, none⟩) else unk
  | .slice (some ⟨l, o, none⟩) k c => if l < n ∧ k ≤ c then .slice (some ⟨l, o, none⟩) k c else if k = 0 ∧ c = 0 ∧ 0 < n then .slice (some ⟨0, 0, none⟩) 0 0 else unk
  | .slice (some ⟨_, _, some _⟩) k c => if k = 0 ∧ c = 0 ∧ 0 < n then .slice (some ⟨0, 0, none⟩) 0 0 else unk
  | v => if atomB v then v else unk
def liftV (n : Nat) : Value → Value
  | .agg cs => .agg (cs.map (lift1 n))
  | v => lift1 n v
def liftB (n : Nat) : Option Obj → Option LB
  | some (.cells arr t _) => some ⟨arr.toList.map (lift1 n), t, false⟩
  | _ => none
/-- the world w as a logical heap -/
def LH.lift (w : World) (g : Nat) : LH := ⟨w.heap.size, fun l => liftB w.heap.size w.heap[l]?, fun _ => False, w, g⟩
def renI : Ren := fun l => ⟨l, 0, 0⟩
theorem atom_flat {v : Value} (h : atomB v = true) : flatB v = true := by
  cases v <;> first | exact h | (simp [atomB] at h)
section
variable {P : Program} {E : Ext} {H H' : LH} {w w' : World} {v v' : Value} {g : Nat}
theorem lift_D {l : Nat} : (LH.lift w g).D l ↔ l < w.heap.size := ⟨fun h => h.1, fun h => ⟨h, fun h => h⟩⟩
theorem lift1_vr (v : Value) : VR (LH.lift w g).D renI (lift1 w.heap.size v) v := by
  unfold lift1
  split
  · rename_i l o
    split
    · have := VR.ptr (n := (LH.lift w g).D) (ι := renI) l o (lift_D.2 ‹_›)
      simpa [renI] using this
    · exact .any _
  · rename_i l o k c
    split
    · rename_i h
      have := VR.slice (n := (LH.lift w g).D) (ι := renI) l o k c (lift_D.2 h.1) h.2
      simpa [renI] using this
    · split
      · rename_i h; obtain ⟨rfl, rfl, h⟩ := h; exact .slice0 0 0 _ (lift_D.2 h)
      · exact .any _
  · split
    · rename_i h; obtain ⟨rfl, rfl, h⟩ := h; exact .slice0 0 0 _ (lift_D.2 h)
    · exact .any _
  · split
    · exact .flat _ (atom_flat ‹_›)
    · exact .any _
theorem liftV_vr (v : Value) : VR (LH.lift w g).D renI (liftV w.heap.size v) v := by
  unfold liftV
  split
  · refine .agg _ _ (by simp) (fun i x y hx hy => ?_)
    rw [Array.getElem?_map, hy] at hx
    simp only [Option.map_some, Option.some.injEq] at hx
    subst hx
    exact lift1_vr y
  · exact lift1_vr _
theorem rel_lift (hg : g ≤ w.heap.size) : Rel P (LH.lift w g) renI w := by
  have hno : ∀ k, ¬ RW (LH.lift w g) renI k := by
    rintro k ⟨l, b, hb, hr, _⟩
    have hb' : liftB w.heap.size w.heap[l]? = some b := hb
    unfold liftB at hb'
    split at hb'
    · simp only [Option.some.injEq] at hb'; subst hb'; cases hr
    · cases hb'
  refine ⟨fun l hl => ?_, fun _ h => h.elim, fun l b hb => ?_, fun l l' b b' hb _ hr => ?_, fun k hk => ⟨rfl, Nat.lt_of_lt_of_le hk hg, hno k⟩⟩
  · show liftB _ _ = none
    rw [Array.getElem?_eq_none hl]; rfl
  · have hb' : liftB w.heap.size w.heap[l]? = some b := hb
    unfold liftB at hb'
    split at hb'
    · rename_i arr t fr hw
      simp only [Option.some.injEq] at hb'
      subst hb'
      refine ⟨arr, t, fr, hw, by simp [renI], fun i x hx => ?_, fun h => by cases h⟩
      simp only [List.getElem?_map, Option.map_eq_some_iff] at hx
      obtain ⟨y, hy, rfl⟩ := hx
      exact ⟨y, by simpa [renI] using hy, lift1_vr y⟩
    · cases hb'
  · exact absurd ⟨l, b, hb, hr, rfl⟩ (hno (renI l).blk)
/-- a law of arguments of any shape -/
theorem law_lift {f : FuncId} {args : Array Value} {ng : Nat} (hT : TOk P (LC P E)) (hng : ng ≤ w.heap.size) (h : LC P E f (args.toList.map (liftV w.heap.size)) (LH.lift w ng) = some (.bool true, H')) (he : Entered P f := by exact ⟨_, rfl, rfl, by decide⟩) :
    Calls P f args w fun e w' => e = .returned (.bool true) ∧ Change (fun _ => False) w w' := by
  have hc := (hT _ _ _ _ _ h).call he
  refine (hc renI w args (rel_lift hng) (by simp) (fun i x y hx hy => ?_)).mono ?_
  · rw [List.getElem?_map, Array.getElem?_toList] at hx
    rw [hy] at hx
    simp only [Option.map_some, Option.some.injEq] at hx
    subst hx
    exact liftV_vr y
  · rintro e w' ⟨ι', v', rfl, ho, hv⟩
    rw [flat_eq hv rfl]
    refine ⟨rfl, ho.chg.mono ?_⟩
    rintro k - ⟨l, b, hb, hr, _⟩
    have hb' : liftB w.heap.size w.heap[l]? = some b := hb
    unfold liftB at hb'
    split at hb'
    · simp only [Option.some.injEq] at hb'; subst hb'; cases hr
    · cases hb'
theorem lift_flat {v : Value} (h : atomB v = true) (n : Nat) : lift1 n v = v := by
  unfold lift1
  split
  · simp [atomB] at h
  · simp [atomB] at h
  · simp [atomB] at h
  · rw [if_pos h]
@[simp] theorem lift_str {n : Nat} {s : ByteArray} : lift1 n (.string s) = .string s := rfl
@[simp] theorem lift_int {n : Nat} {k : IntKind} {i : Int} : lift1 n (.int k i) = .int k i := rfl
@[simp] theorem lift_bool {n : Nat} {b : Bool} : lift1 n (.bool b) = .bool b := rfl
/-- v is a row of elements of s cells each -/
def RowOf {α : Type} (H : LH) (s : Nat) (El : α → List Value → Prop) (v : Value) (xs : List α) : Prop :=
  (v = .slice none 0 0 ∧ xs = []) ∨ ∃ l o c, v = .slice (some ⟨l, o, none⟩) xs.length c ∧ xs.length ≤ c ∧ l < H.n ∧ (xs ≠ [] → ∃ b, H.get l = some b ∧ o + xs.length * s ≤ b.cells.length ∧ ∀ i x, xs[i]? = some x → El x ((b.cells.drop (o + i * s)).take s))
variable {HH : Type} {enc : TypeId × Value → HH}
theorem cells_lift {a : Addr} {k : Nat} {cs : List Value} {b0 : Nat} (hk : 0 < k) (h : w.cells? b0 a k = some cs) : ∃ l o arr t f, a = ⟨l, o, none⟩ ∧ w.heap[l]? = some (.cells arr t f) ∧ cs = (arr.toList.drop o).take k ∧ o + k ≤ arr.size := by
  unfold World.cells? at h
  split at h
  · have hlen : cs.length = k := by simpa using Lib.mapM_length h
    have hi : ∀ i, i < k → cs[i]? = w.cell? (a.add i) := fun i hi => mapM_get h i i (by simp [hi])
    have e0 := hi 0 hk
    have hsome : ∀ i, i < k → ∃ x, cs[i]? = some x := fun i hi => ⟨_, List.getElem?_eq_getElem (by omega)⟩
    obtain ⟨x0, hx0⟩ := hsome 0 hk
    obtain ⟨l, o, sp⟩ := a
    rw [hx0] at e0
    simp only [Addr.add, if_pos, World.cell?] at e0
    split at e0
    · rename_i arr t f hw
      split at e0
      · cases e0
      · rename_i hsp
        have hsp' : sp = none := by cases sp with | none => rfl | some x => simp at hsp
        subst hsp'
        have hc : ∀ i, i < k → cs[i]? = arr[o + i]? := fun i h2 => by
          rw [hi i h2]
          unfold Addr.add
          split
          · rename_i h0; subst h0; simp [World.cell?, hw]
          · simp [World.cell?, hw]
        have hsz : o + k ≤ arr.size := by
          obtain ⟨x, hx⟩ := hsome (k - 1) (by omega)
          rw [hc (k - 1) (by omega)] at hx
          have := (Array.getElem?_eq_some_iff.1 hx).1
          omega
        refine ⟨l, o, arr, t, f, rfl, hw, ?_, hsz⟩
        apply List.ext_getElem?
        intro i
        rw [List.getElem?_take]
        split
        · rename_i h2; rw [hc i h2, List.getElem?_drop]; simp
        · rw [List.getElem?_eq_none (by omega)]
    · cases e0
  · cases h
theorem lift_block {l : Nat} {arr : Array Value} {t : TypeId} {f : Nat × Nat} (h : w.heap[l]? = some (.cells arr t f)) : (LH.lift w g).get l = some ⟨arr.toList.map (lift1 w.heap.size), t, false⟩ := by
  show liftB _ _ = _
  rw [h]; rfl
/-- a slice among arguments -/
theorem row_of_trod {α : Type} {El : α → List Value → Prop} {t e : TypeId} {base fuel s : Nat} {held : Bool} {cs : List Value} {x : DataW HH × List MemPlace} (ht : P.underlying t = some (.slice e)) (hs : P.cellsOf e = s) (h0 : 0 < s) (hw0 : 0 < w.heap.size)
    (hel : ∀ fuel cs y, DataW.trod enc P w base (fun _ => true) held fuel e cs = some y → ∃ a, El a (cs.map (lift1 w.heap.size)))
    (h : DataW.trod enc P w base (fun _ => true) held fuel t cs = some x) : ∃ v xs, cs = [v] ∧ RowOf (LH.lift w g) s El (lift1 w.heap.size v) xs ∧ xs.length ≤ maxLen := by
  rcases DataW.trod_slice ht h with ⟨rfl, rfl⟩ | ⟨a, len, cap, elems, rest, n, _, rfl, rfl, _, hl, hm, hlen, hat, hrest, _⟩
  · exact ⟨_, [], rfl, .inl ⟨rfl, rfl⟩, Nat.zero_le _⟩
  · rw [hs] at hat hrest
    obtain ⟨hr1, hr2⟩ := hrest rfl
    have hcell : ∀ i, i < len → ∃ cs' y, w.cells? base (a.add (i * s)) s = some cs' ∧ DataW.trod enc P w base (fun _ => true) held n e cs' = some y := fun i hi => by
      have := hat i hi
      rw [List.getElem?_eq_getElem (by omega)] at this
      obtain ⟨cs', h1, h2⟩ := Option.bind_eq_some_iff.1 this
      exact ⟨cs', _, h1, h2⟩
    have hmem : ∀ i, i < cap → ∃ cs', w.cells? base (a.add (i * s)) s = some cs' := fun i hi => by
      rcases Nat.lt_or_ge i len with h1 | h1
      · obtain ⟨cs', _, h, _⟩ := hcell i h1; exact ⟨cs', h⟩
      · have := hr2 (i - len) (by omega)
        rw [List.getElem?_eq_getElem (by omega), show len + (i - len) = i by omega] at this
        obtain ⟨cs', h1, h2⟩ := Option.bind_eq_some_iff.1 this
        exact ⟨cs', h1⟩
    have hex : ∀ i : Fin len, ∃ x : α, ∀ cs', w.cells? base (a.add (i.1 * s)) s = some cs' → El x (cs'.map (lift1 w.heap.size)) := fun i => by
      obtain ⟨cs', y, h1, h2⟩ := hcell i.1 i.2
      obtain ⟨x, hx⟩ := hel n cs' y h2
      exact ⟨x, fun cs2 h3 => by rw [h1] at h3; injection h3 with h3; subst h3; exact hx⟩
    refine ⟨_, List.ofFn (fun i => Classical.choose (hex i)), rfl, ?_, by simp; omega⟩
    rcases Nat.eq_zero_or_pos cap with hc | hc
    · subst hc
      obtain rfl : len = 0 := by omega
      refine .inr ?_
      have : ∃ l o, lift1 w.heap.size (.slice (some a) 0 0) = .slice (some ⟨l, o, none⟩) 0 0 ∧ l < w.heap.size := by
        obtain ⟨l, o, sp⟩ := a
        cases sp with
        | none =>
          simp only [lift1]
          split
          · exact ⟨l, o, rfl, And.left ‹_›⟩
          · rw [if_pos (by simp [hw0])]; exact ⟨0, 0, rfl, hw0⟩
        | some q => simp only [lift1]; rw [if_pos (by simp [hw0])]; exact ⟨0, 0, rfl, hw0⟩
      obtain ⟨l, o, e1, h1⟩ := this
      exact ⟨l, o, 0, by simpa using e1, by simp, h1, fun hne => by simp at hne⟩
    · obtain ⟨cs0, h00⟩ := hmem 0 hc
      rw [Nat.zero_mul, show a.add 0 = a from rfl] at h00
      obtain ⟨l, o, arr, t, f, rfl, hw, _, _⟩ := cells_lift h0 h00
      have hlt : l < w.heap.size := (Array.getElem?_eq_some_iff.1 hw).1
      refine .inr ⟨l, o, cap, by simp [lift1, hlt, hl], by simpa using hl, hlt, fun hne => ⟨_, lift_block hw, ?_, fun i y hy => ?_⟩⟩
      · have hlen0 : 0 < len := by
          rcases Nat.eq_zero_or_pos len with h1 | h1
          · subst h1; simp at hne
          · exact h1
        obtain ⟨cs', y, h1, _⟩ := hcell (len - 1) (by omega)
        obtain ⟨l', o', arr', t', f', ea, hw', _, hsz⟩ := cells_lift h0 h1
        have : l' = l ∧ o' = o + (len - 1) * s := by
          unfold Addr.add at ea
          split at ea
          · rename_i hz; injection ea with e1 e2; exact ⟨e1.symm, by omega⟩
          · injection ea with e1 e2; exact ⟨e1.symm, e2.symm⟩
        obtain ⟨rfl, rfl⟩ := this
        rw [hw] at hw'
        injection hw' with hw'
        injection hw' with e1
        subst e1
        have e2 : len * s = (len - 1) * s + s := by
          obtain ⟨m, rfl⟩ : ∃ m, len = m + 1 := ⟨len - 1, by omega⟩
          rw [Nat.add_sub_cancel, Nat.succ_mul]
        simp; omega
      · have hi : i < len := by have := (List.getElem?_eq_some_iff.1 hy).1; simpa using this
        obtain ⟨cs', y', h1, _⟩ := hcell i hi
        have hch := Classical.choose_spec (hex ⟨i, hi⟩) cs' h1
        have hy' : y = Classical.choose (hex ⟨i, hi⟩) := by
          rw [List.getElem?_ofFn] at hy
          simpa [hi] using hy.symm
        rw [hy']
        obtain ⟨l', o', arr', t', f', ea, hw', hcs, hsz⟩ := cells_lift h0 h1
        have : l' = l ∧ o' = o + i * s := by
          unfold Addr.add at ea
          split at ea
          · rename_i hz; injection ea with e1 e2; exact ⟨e1.symm, by omega⟩
          · injection ea with e1 e2; exact ⟨e1.symm, e2.symm⟩
        obtain ⟨rfl, rfl⟩ := this
        rw [hw] at hw'
        injection hw' with hw'
        injection hw' with e1
        subst e1
        subst hcs
        rw [List.map_take, List.map_drop] at hch
        exact hch
/-- strings among arguments -/
theorem str_of_trod {t : TypeId} {base fuel : Nat} {sp : Nat → Bool} {held : Bool} {cs : List Value} {x : DataW HH × List MemPlace} (ht : P.underlying t = some .string) (h : DataW.trod enc P w base sp held fuel t cs = some x) :
    ∃ s : List UInt8, cs = [str s] ∧ s.length ≤ maxLen := by
  obtain ⟨s', rfl, hx, hs⟩ := DataW.trod_string ht h
  exact ⟨s'.data.toList, by rw [str_ba], by simpa using hs⟩
end
end Go.Lg
/-
  Ranges over functions, and laws, over the logical run with throws.
-/
set_option linter.unusedSimpArgs false
set_option linter.unusedVariables false
namespace Go.Lg
open Go.Tg Go.RowKit
section
variable {P : Program} {E : PEnv} {Y : Option YC} {rd : Nat} {fn : Func} {k : List Item} {fr : Fr} {H H' H0 : LH} {p : Option Code} {Q : PQ} {w : World}
theorem pr_rangeF {x : Operand} {params : Array Tmp} {assign body : Code} {g : FuncId} {caps : Array Value} {gfn : Func} {gc : Code} (hx : ev fr x = .func (.func g) #[] caps) (hf : fnOk P E g gfn gc (tok H.n :: caps.toList))
    (h : PR P E (some ⟨H.n, fn, fr, params.toList, assign, body⟩) 0 gfn [.code gc] (enter (tok H.n :: caps.toList)) H.dead none (fun r H1 p1 => (∃ v, r = .ret v) ∧ PR P E Y rd fn ((p1.map Item.code).toList ++ k) fr H1 p Q)) : PR P E Y rd fn (.code (.rangeFunc x params assign body) :: k) fr H p Q := by
  obtain ⟨r, H1, p1, h1, ⟨v, rfl⟩, r2, H2, p2, h2, q⟩ := h
  exact ⟨_, _, _, .rangeF hx hf h1 h2, q⟩
theorem pr_rangeE {x : Operand} {params : Array Tmp} {assign body : Code} {g : FuncId} {caps : Array Value} {gfn : Func} (hx : ev fr x = .func (.func g) #[] caps)
    (h : ∃ gc, fnOk P E g gfn gc (tok H.n :: caps.toList) ∧ PR P E (some ⟨H.n, fn, fr, params.toList, assign, body⟩) 0 gfn [.code gc] (enter (tok H.n :: caps.toList)) H.dead none (fun r H1 p1 => (∃ v, r = .ret v) ∧ PR P E Y rd fn ((p1.map Item.code).toList ++ k) fr H1 p Q)) : PR P E Y rd fn (.code (.rangeFunc x params assign body) :: k) fr H p Q := by
  obtain ⟨gc, hf, h⟩ := h
  exact pr_rangeF hx hf h
theorem pr_begin (h : PR P E none 2 fn k fr H none (fun r H' p' => p' = none ∧ Q r H' none)) : PR P E none 1 fn (.beginRound :: k) fr H none Q := by
  obtain ⟨r, H', p', h, rfl, q⟩ := h
  exact ⟨_, _, _, .beg h, q⟩
theorem round_of {Post : Option Code → LH → Prop} (h : PR P E none 1 fn k fr H none (fun r H1 p' => p' = none ∧ ∃ j, r = .jump j ∧ Post j H1)) : ∃ j H1, R P E (.run none 1 fn k fr H none (.jump j) H1 none) ∧ Post j H1 := by
  obtain ⟨r, H', p', h, rfl, j, rfl, q⟩ := h
  exact ⟨_, _, h, q⟩
theorem pr_mono {Q' : PQ} (h : PR P E Y rd fn k fr H p Q) (hq : ∀ r H' p', Q r H' p' → Q' r H' p') : PR P E Y rd fn k fr H p Q' := by
  obtain ⟨r, H', p', h1, q⟩ := h
  exact ⟨r, H', p', h1, hq _ _ _ q⟩
/-- a law of arguments of any shape -/
theorem law_liftR {f : FuncId} {args : Array Value} {ng : Nat} (hng : ng ≤ w.heap.size) (h : Sound P E (.call f (args.toList.map (liftV w.heap.size)) (LH.lift w ng) (.ret (.bool true)) H')) :
    Calls P f args w fun e w' => e = .returned (.bool true) ∧ Change (fun _ => False) w w' := by
  obtain ⟨he, hc⟩ := h
  refine (hc renI w args (rel_lift hng) (by simp) (fun i x y hx hy => ?_)).mono ?_
  · rw [List.getElem?_map, Array.getElem?_toList] at hx
    rw [hy] at hx
    simp only [Option.map_some, Option.some.injEq] at hx
    subst hx
    exact liftV_vr y
  · rintro e w' ⟨ι', ⟨v', rfl, hv⟩, ho⟩
    rw [flat_eq hv rfl]
    refine ⟨rfl, ho.chg.mono ?_⟩
    rintro k - ⟨l, b, hb, hr, _⟩
    have hb' : liftB w.heap.size w.heap[l]? = some b := hb
    unfold liftB at hb'
    split at hb'
    · simp only [Option.some.injEq] at hb'; subst hb'; cases hr
    · cases hb'
@[simp] theorem lopx_mkf0 {T : Callee} {f : FuncId} {c : List Operand} : lopx P T (.makeFunc (.func f) #[] ⟨c⟩) fr H = some (.func (.func f) #[] ⟨c.map (ev fr)⟩, H) := by
  show some (Value.func (.func f) ((#[] : Array Operand).map (ev fr)) ((⟨c⟩ : Array Operand).map (ev fr)), H) = _
  simp
@[simp] theorem lopx_mkf1 {T : Callee} {f : FuncId} {x : Operand} : lopx P T (.makeFunc (.func f) ⟨[x]⟩ #[]) fr H = some (.func (.func f) ⟨[ev fr x]⟩ #[], H) := by
  show some (Value.func (.func f) ((⟨[x]⟩ : Array Operand).map (ev fr)) ((#[] : Array Operand).map (ev fr)), H) = _
  simp
@[simp] theorem lcallee_first {T : Callee} {g : FuncId} {a : Value} {args : List Value} : lcallee P T (.func (.func g) ⟨[a]⟩ #[]) args H = T g (a :: args) H := by
  show T g ([a] ++ args ++ (#[] : Array Value).toList) H = _
  simp
@[simp] theorem lcallee_caps {T : Callee} {g : FuncId} {a : Value} {c args : List Value} : lcallee P T (.func (.func g) #[] ⟨a :: c⟩) args H = T g (args ++ a :: c) H := rfl
theorem trunc_no {v : Value} (h : flatB v = false) : trunc H (v, H') = (v, H') := by
  rcases trunc_or v H H' with e | ⟨_, e, _⟩
  · exact e
  · rw [h] at e; cases e
end
end Go.Lg
/-
  Layer 40 (script): words, by the code.
-/
set_option linter.unusedSimpArgs false
set_option linter.unusedVariables false
set_option maxRecDepth 100000
namespace Tg.Sc
/-- where a text stands first among others, from a place on -/
def find (s : List UInt8) : List (List UInt8) → Int → Int
  | [], _ => -1
  | x :: xs, k => if s = x then k else find s xs (k + 1)
theorem find_mem {s : List UInt8} : ∀ (xs : List (List UInt8)) (k : Int), 0 ≤ k → (0 ≤ find s xs k ↔ s ∈ xs)
  | [], k, h => by simp [find]
  | x :: xs, k, h => by
    unfold find
    by_cases hs : s = x
    · simp [hs, h]
    · rw [if_neg hs, find_mem xs (k + 1) (by omega)]; simp [hs]
theorem find_kind {s : List UInt8} : ∀ (xs : List (List UInt8)) (k : Nat), find s xs k + 1 = (kindP s xs k : Nat) ∨ find s xs k = -1 ∧ kindP s xs k = 0
  | [], k => .inr ⟨rfl, rfl⟩
  | x :: xs, k => by
    unfold find kindP
    by_cases hs : s = x
    · rw [if_pos hs, if_pos hs.symm]; exact .inl (by omega)
    · rw [if_neg hs, if_neg (fun h => hs h.symm)]
      exact find_kind xs (k + 1)
theorem find_words (s : List UInt8) : find s words 0 + 1 = (kindP s words 0 : Nat) := by
  rcases find_kind (s := s) words 0 with h | ⟨h, h2⟩
  · exact h
  · show find s words ((0 : Nat) : Int) + 1 = _
    rw [h, h2]; rfl
theorem kind_le (s : List UInt8) : ∀ (xs : List (List UInt8)) (k : Nat), kindP s xs k ≤ xs.length + k
  | [], k => by simp [kindP]
  | x :: xs, k => by
    unfold kindP
    split
    · simp; omega
    · have := kind_le s xs (k + 1)
      simp; omega
def wordsT : List UInt8 := [97, 115, 107, 32, 104, 101, 97, 100, 32, 99, 104, 117, 110, 107, 32, 101, 110, 100, 32, 97, 98, 111, 114, 116, 32, 114, 101, 115, 101, 116]
theorem words_f : Go.Lib.fields wordsT = words := by decide +kernel
theorem words_ascii : (wordsT.all fun b => decide (b.toNat < 128)) = true := by decide +kernel
def outsT : List UInt8 := [104, 101, 97, 100, 32, 98, 111, 100, 121, 32, 101, 110, 100, 32, 98, 108, 111, 99, 107, 32, 102, 97, 105, 108, 32, 114, 101, 102, 117, 115, 101, 100]
def kwBody : List UInt8 := [98, 111, 100, 121]
def kwBlock : List UInt8 := [98, 108, 111, 99, 107]
def kwFail : List UInt8 := [102, 97, 105, 108]
def kwRefused : List UInt8 := [114, 101, 102, 117, 115, 101, 100]
def outsW : List (List UInt8) := [kwHead, kwBody, kwEnd, kwBlock, kwFail, kwRefused]
theorem outs_f : Go.Lib.fields outsT = outsW := by decide +kernel
theorem outs_ascii : (outsT.all fun b => decide (b.toNat < 128)) = true := by decide +kernel
end Tg.Sc
namespace Go.Proofs.YthgcgjpbhbikaaaGreatDoor.Sc
open Go.Lg Go.Tg
section
variable {H H' : LH} {b : UInt8} {l n : Nat} {B : LB} {xs : List (List UInt8)} {s : List UInt8}
/-- v holds the texts xs, wherever they lie -/
def TRow (H : LH) (v : Value) (xs : List (List UInt8)) : Prop :=
  (v = .slice none 0 0 ∧ xs = []) ∨ ∃ (k o c : Nat) (B : LB), v = .slice (some ⟨k, o, none⟩) xs.length c ∧ H.get k = some B ∧ k < H.n ∧ (B.cells.drop o).take xs.length = xs.map str ∧ xs.length ≤ c ∧ B.elem = 9
theorem TRow.keep {v : Value} (h : TRow H v xs) (hn : H.n ≤ H'.n) (hk : ∀ k, k < H.n → H'.get k = H.get k) : TRow H' v xs := by
  rcases h with h | ⟨k, o, c, B, h1, h2, h3, h4, h5⟩
  · exact .inl h
  · exact .inr ⟨k, o, c, B, h1, by rw [hk k h3]; exact h2, by omega, h4, h5⟩
theorem TRow.len {v : Value} (h : TRow H v xs) : lbuiltin Tryz.prog .len [40] [v] H' = some (.int .i64 xs.length, H') := by
  rcases h with ⟨rfl, rfl⟩ | ⟨k, o, c, B, rfl, _⟩
  · simp
  · simp
theorem TRow.at {v : Value} (h : TRow H v xs) {i : Nat} (hi : i < xs.length) : ∃ k o, (∀ H' : LH, lixa Tryz.prog 40 v (.int .i64 i) H' = some (ptr k o, H')) ∧ k < H.n ∧ ∀ H' : LH, H'.get k = H.get k → lld Tryz.prog 9 (ptr k o) H' = some (str xs[i]) := by
  rcases h with ⟨rfl, rfl⟩ | ⟨k, o, c, B, rfl, h2, h3, h4, h5, _⟩
  · simp at hi
  · refine ⟨k, o + i, fun H' => ?_, h3, fun H' e => ?_⟩
    · have q := eq_true (show (i : Int) < (xs.length : Int) by omega)
      simp [q]
    · rw [h2] at e
      have hc : B.cells[o + i]? = some (str xs[i]) := by
        have := congrArg (fun z => z[i]?) h4
        simp only [List.getElem?_take, if_pos hi, List.getElem?_drop, List.getElem?_map, List.getElem?_eq_getElem hi, Option.map_some] at this
        exact this
      obtain ⟨hlt, hc⟩ := List.getElem?_eq_some_iff.mp hc
      simp [e, hlt, hc]
theorem TRow.new {c : Nat} (hc : xs.length ≤ c) : TRow (H.new ⟨xs.map str, 9, true⟩) (.slice (some ⟨H.n, 0, none⟩) xs.length c) xs :=
  .inr ⟨H.n, 0, c, _, rfl, get_new, by simp, by rw [List.drop_zero, List.take_of_length_le (by simp)], hc, rfl⟩
theorem TRow.of_own {N : Nat} {v : Value} (h : RowN N H 9 1 v xs.length (xs.map str)) : TRow H v xs := by
  rcases h.2 with ⟨rfl, h0⟩ | ⟨k, c, rest, rfl, h1, h2, h3, h4, h5⟩
  · exact .inl ⟨rfl, List.eq_nil_of_length_eq_zero h0⟩
  · exact .inr ⟨k, 0, c, _, rfl, h3, h2, by simp, h4, rfl⟩
theorem TRow.slice {v : Value} (h : TRow H v xs) : ∃ pa pl pc, v = .slice pa pl pc := by
  rcases h with ⟨rfl, _⟩ | ⟨k, o, c, B, rfl, _⟩
  · exact ⟨_, _, _, rfl⟩
  · exact ⟨_, _, _, rfl⟩
theorem sindex_l {v : Value} (h : TRow H v xs) (hn : xs.length ≤ 1048576) : LC Tryz.prog EJ 80 [v, str s] H = some (.int .i64 (Tg.Sc.find s xs 0), H) := by
  refine LC_pure rfl Tryz.func80 rfl (Nat.le_of_ble_eq_true rfl) (by decide) (by kernel_rfl) rfl ?_
  have hlen := fun H' : LH => h.len (H' := H')
  simp [hlen]
  refine loop_ind (fun (i : Nat) fr' H' => fr' 0 = v ∧ fr' 1 = str s ∧ fr' 7 = .int .i64 xs.length ∧ fr' 8 = .int .i64 i ∧ i ≤ xs.length ∧ Tg.Sc.find s (xs.drop i) i = Tg.Sc.find s xs 0 ∧ H' = H) (fun i => xs.length - i) 0 (by simp) ?_
  rintro i fr' H' ⟨h0, h1, h7, h8, hi, hh, rfl⟩ ih
  by_cases hlt : i < xs.length
  · have hd : xs.drop i = xs[i] :: xs.drop (i + 1) := List.drop_eq_getElem_cons hlt
    have q := eq_true (show (i : Int) < (xs.length : Int) by omega)
    obtain ⟨k, o, g1, g2, g3⟩ := h.at hlt
    have g4 := g3 H' rfl
    have hw : IntKind.i64.wrap ((i : Int) + 1) = ((i + 1 : Nat) : Int) := by rw [wrap64_in (by omega) (by omega)]; omega
    rw [hd, Tg.Sc.find] at hh
    generalize xs[i] = x at *
    by_cases hs : s = x
    · have hs' : (s = x) = True := eq_true hs
      rw [if_pos hs] at hh
      simp [h0, h1, h7, h8, q, g1, g4, hs', ← hh]
    · have hs' : (s = x) = False := eq_false hs
      rw [if_neg hs] at hh
      simp [h0, h1, h7, h8, q, g1, g4, hs', hw]
      exact ih (i + 1) _ _ (by omega) ⟨by simp [h0], by simp [h1], by simp [h7], by simp, hlt, by simpa using hh, rfl⟩
  · have hd : xs.drop i = [] := List.drop_eq_nil_of_le (by omega)
    have q := eq_false (show ¬ (i : Int) < (xs.length : Int) by omega)
    rw [hd, Tg.Sc.find] at hh
    simp [h0, h1, h7, h8, q, ← hh]
theorem scontains_l {v : Value} (h : TRow H v xs) (hn : xs.length ≤ 1048576) : LC Tryz.prog EJ 104 [v, str s] H = some (.bool (xs.contains s), H) := by
  refine LC_pure rfl Tryz.func104 rfl (Nat.le_of_ble_eq_true rfl) (by decide) (by kernel_rfl) rfl ?_
  have hi := sindex_l (s := s) h hn
  have := Tg.Sc.find_mem (s := s) xs 0 (by decide)
  simp [hi, this]
theorem mode_cl : LC Tryz.prog EJ 88 [str s] H = some (.bool (Tg.Sc.modes.contains s), H) := by
  refine LC_pure rfl Tryz.func88 rfl (Nat.le_of_ble_eq_true rfl) (by decide) (by kernel_rfl) rfl ?_
  have hc := scontains_l (H := H.new ⟨Tg.Sc.modes.map str, 9, true⟩) (v := sl H.n 4 4) (s := s) (TRow.new (H := H) (xs := Tg.Sc.modes) (c := 4) (Nat.le_refl _)) (by decide)
  generalize hb : Tg.Sc.modes.contains s = b at *
  unfold Tg.Sc.modes at hc
  simp only [List.map_cons, List.map_nil] at hc
  simp [hc]
theorem fields_at (ht : Tab H) {t : List UInt8} {ws : List (List UInt8)} (hl : t.length ≤ 1000) (ha : (t.all fun b => decide (b.toNat < 128)) = true) (hf : Lib.fields t = ws) (hw : ws.length ≤ 1000) : LC Tryz.prog EJ 71 [str t] H = some (sl H.n ws.length ws.length, H.new ⟨ws.map str, 9, true⟩) := LC_ext (s := specFields) rfl (by
  unfold specFields str
  dsimp only
  rw [if_pos ⟨by rw [ba_size]; omega, fun j b hb => by
    have := List.all_eq_true.mp ha b (List.mem_of_getElem? hb)
    simpa using this, ht, by show (Lib.fields t).length ≤ _; rw [hf]; unfold maxLen; omega⟩]
  show some (sl H.n (Lib.fields t).length (Lib.fields t).length, _) = _
  rw [hf])
theorem words_l (ht : Tab H) : LC Tryz.prog EJ 68 [] H = some (sl H.n 6 6, H.new ⟨Tg.Sc.words.map str, 9, true⟩) := by
  have hf := fields_at ht (t := Tg.Sc.wordsT) (ws := Tg.Sc.words) (by decide) Tg.Sc.words_ascii Tg.Sc.words_f (by decide)
  unfold Tg.Sc.wordsT at hf
  rw [show Tg.Sc.words.length = 6 from rfl] at hf
  obtain ⟨r, h, e⟩ := LC_runs (P := Tryz.prog) (E := EJ) (f := 68) rfl Tryz.func68 rfl (Nat.le_of_ble_eq_true rfl) (by decide) (by kernel_rfl) (H := H) (args := []) (Q := fun r => r = (sl H.n 6 6, H.new ⟨Tg.Sc.words.map str, 9, true⟩)) (by simp [hf])
  rw [h, e, trunc_no (by simp [flatB, flat1B, atomB])]
theorem outs_l (ht : Tab H) : LC Tryz.prog EJ 47 [] H = some (sl H.n 6 6, H.new ⟨Tg.Sc.outsW.map str, 9, true⟩) := by
  have hf := fields_at ht (t := Tg.Sc.outsT) (ws := Tg.Sc.outsW) (by decide) Tg.Sc.outs_ascii Tg.Sc.outs_f (by decide)
  unfold Tg.Sc.outsT at hf
  rw [show Tg.Sc.outsW.length = 6 from rfl] at hf
  obtain ⟨r, h, e⟩ := LC_runs (P := Tryz.prog) (E := EJ) (f := 47) rfl Tryz.func47 rfl (Nat.le_of_ble_eq_true rfl) (by decide) (by kernel_rfl) (H := H) (args := []) (Q := fun r => r = (sl H.n 6 6, H.new ⟨Tg.Sc.outsW.map str, 9, true⟩)) (by simp [hf])
  rw [h, e, trunc_no (by simp [flatB, flat1B, atomB])]
theorem join_cl {v : Value} (h : TRow H v xs) (hne : xs ≠ []) (hn : xs.length ≤ 1000000) (hl : (Tg.Sc.wl xs).length ≤ 9000000) : LC Tryz.prog EJ 50 [v] H = some (str (Tg.Sc.wl xs), H) := by
  have hj : LC Tryz.prog EJ 73 [v, str [32]] H = some (str (Tg.Sc.wl xs), H) := by
    rcases h with ⟨rfl, h0⟩ | ⟨k, o, c, B, rfl, g1, g2, g3, g4, _⟩
    · exact absurd h0 hne
    · rw [← Tg.Sc.wl_join] at hl ⊢
      exact join_l (n := xs.length) g1 (by intro e; exact hne (List.eq_nil_of_length_eq_zero e)) g4 (by omega) rfl g3 (by omega)
  refine LC_pure rfl Tryz.func50 rfl (Nat.le_of_ble_eq_true rfl) (by decide) (by kernel_rfl) (by simp) ?_
  simp [hj]
end
end Go.Proofs.YthgcgjpbhbikaaaGreatDoor.Sc
/-
  Layer 40 (script): events, by the code.
-/
set_option linter.unusedSimpArgs false
set_option linter.unusedVariables false
set_option maxRecDepth 100000
namespace Go.Proofs.YthgcgjpbhbikaaaGreatDoor.Sc
open Go.Lg Go.Tg
section
variable {H : LH} {v w : Value} {l m : List Tg.Hd.Hdr}
theorem hequal_cl (hr : HRow H v l) (hw : HRow H w m) (hl : l.length ≤ 1000000) : LC Tryz.prog EJ 69 [v, w] H = some (.bool (decide (l = m)), H) := by
  refine LC_pure rfl Tryz.func69 rfl (Nat.le_of_ble_eq_true rfl) (by decide) (by kernel_rfl) rfl ?_
  by_cases hlm : l.length = m.length
  · obtain ⟨x, hx⟩ : ∃ x, x = decide (l.drop 0 = m.drop 0) := ⟨_, rfl⟩
    have e : decide (l = m) = x := hx.symm
    rw [e]
    have q0 := eq_true (show (l.length : Int) = (m.length : Int) by omega)
    simp [hr.len, hw.len, q0, hlm]
    refine loop_ind (fun (i : Nat) fr' H' => fr' 0 = v ∧ fr' 1 = w ∧ fr' 12 = .int .i64 l.length ∧ fr' 13 = .int .i64 i ∧ i ≤ l.length ∧ x = decide (l.drop i = m.drop i) ∧ H' = H) (fun i => l.length - i) 0 ⟨by simp, by simp, by simp [hlm], by simp, Nat.zero_le _, hx, rfl⟩ ?_
    rintro i fr' H' ⟨h0, h1, h12, h5, hi, hc, rfl⟩ ih
    by_cases hlt : i < l.length
    · have q := eq_true (show (i : Int) < (m.length : Int) by omega)
      have q' := eq_true (show (i : Int) < (l.length : Int) by omega)
      have hlt2 : i < m.length := by omega
      have hw1 : IntKind.i64.wrap ((i : Int) + 1) = ((i + 1 : Nat) : Int) := by rw [wrapI (by omega) (by omega)]; omega
      obtain ⟨k, o, g1, g2, g3⟩ := hr.at hlt
      obtain ⟨k', o', g1', g2', g3'⟩ := hw.at hlt2
      obtain ⟨g4, _, _⟩ := g3 H' rfl
      obtain ⟨g4', _, _⟩ := g3' H' rfl
      have hne := fun a b => hdr_ne (a := a) (b := b)
      rw [List.drop_eq_getElem_cons hlt, List.drop_eq_getElem_cons hlt2] at hc
      generalize l[i] = a at *
      generalize m[i] = b at *
      by_cases hab : a = b
      · subst hab
        have hc : x = decide (l.drop (i + 1) = m.drop (i + 1)) := by rw [hc]; simp
        simp [h0, h1, h12, h5, q, q', hlt, hlt2, g1, g4, g1', g4', hne, hr.len]
        refine ih (i + 1) _ _ (by omega) ⟨?_, ?_, ?_, ?_, by omega, hc, rfl⟩
        all_goals simp [h0, h1, h12, hw1]
      · have hc : x = false := by rw [hc]; simp [hab]
        subst hc
        simp [h0, h1, h12, h5, q, q', hlt, hlt2, g1, g4, g1', g4', hne, hab, hr.len]
    · have q := eq_false (show ¬ (i : Int) < (m.length : Int) by omega)
      have q' := eq_false (show ¬ (i : Int) < (l.length : Int) by omega)
      rw [List.drop_of_length_le (by omega), List.drop_of_length_le (by omega)] at hc
      have hc : x = true := hc
      subst hc
      simp [h0, h1, h12, h5, q, q', hlt, hr.len]
  · have e : decide (l = m) = false := decide_eq_false (fun e => hlm (by rw [e]))
    have q0 := eq_false (show ¬ (l.length : Int) = (m.length : Int) by omega)
    rw [e]
    simp [hr.len, hw.len, q0, hlm]
end
section
variable {H : LH} {v w : Value} {l m : List (List UInt8)}
theorem tequal_cl (hr : TRow H v l) (hw : TRow H w m) (hl : l.length ≤ 1000000) : LC Tryz.prog EJ 60 [v, w] H = some (.bool (decide (l = m)), H) := by
  refine LC_pure rfl Tryz.func60 rfl (Nat.le_of_ble_eq_true rfl) (by decide) (by kernel_rfl) rfl ?_
  by_cases hlm : l.length = m.length
  · obtain ⟨x, hx⟩ : ∃ x, x = decide (l.drop 0 = m.drop 0) := ⟨_, rfl⟩
    have e : decide (l = m) = x := hx.symm
    rw [e]
    have q0 := eq_true (show (l.length : Int) = (m.length : Int) by omega)
    simp [hr.len, hw.len, q0, hlm]
    refine loop_ind (fun (i : Nat) fr' H' => fr' 0 = v ∧ fr' 1 = w ∧ fr' 12 = .int .i64 l.length ∧ fr' 13 = .int .i64 i ∧ i ≤ l.length ∧ x = decide (l.drop i = m.drop i) ∧ H' = H) (fun i => l.length - i) 0 ⟨by simp, by simp, by simp [hlm], by simp, Nat.zero_le _, hx, rfl⟩ ?_
    rintro i fr' H' ⟨h0, h1, h12, h5, hi, hc, rfl⟩ ih
    by_cases hlt : i < l.length
    · have q := eq_true (show (i : Int) < (m.length : Int) by omega)
      have q' := eq_true (show (i : Int) < (l.length : Int) by omega)
      have hlt2 : i < m.length := by omega
      have hw1 : IntKind.i64.wrap ((i : Int) + 1) = ((i + 1 : Nat) : Int) := by rw [wrapI (by omega) (by omega)]; omega
      obtain ⟨k, o, g1, g2, g3⟩ := hr.at hlt
      obtain ⟨k', o', g1', g2', g3'⟩ := hw.at hlt2
      have g4 := g3 H' rfl
      have g4' := g3' H' rfl
      rw [List.drop_eq_getElem_cons hlt, List.drop_eq_getElem_cons hlt2] at hc
      generalize l[i] = a at *
      generalize m[i] = b at *
      by_cases hab : a = b
      · subst hab
        have hc : x = decide (l.drop (i + 1) = m.drop (i + 1)) := by rw [hc]; simp
        simp [h0, h1, h12, h5, q, q', hlt, hlt2, g1, g4, g1', g4', hr.len]
        refine ih (i + 1) _ _ (by omega) ⟨?_, ?_, ?_, ?_, by omega, hc, rfl⟩
        all_goals simp [h0, h1, h12, hw1]
      · have hc : x = false := by rw [hc]; simp [hab]
        subst hc
        simp [h0, h1, h12, h5, q, q', hlt, hlt2, g1, g4, g1', g4', hab, hr.len]
    · have q := eq_false (show ¬ (i : Int) < (m.length : Int) by omega)
      have q' := eq_false (show ¬ (i : Int) < (l.length : Int) by omega)
      rw [List.drop_of_length_le (by omega), List.drop_of_length_le (by omega)] at hc
      have hc : x = true := hc
      subst hc
      simp [h0, h1, h12, h5, q, q', hlt, hr.len]
  · have e : decide (l = m) = false := decide_eq_false (fun e => hlm (by rw [e]))
    have q0 := eq_false (show ¬ (l.length : Int) = (m.length : Int) by omega)
    rw [e]
    simp [hr.len, hw.len, q0, hlm]
end
abbrev evv (e : Tg.Sc.Ev) (p : Value) : Value := .agg #[.int .i64 e.kind, .int .i64 e.id, str e.url, str e.src, str e.mode, .int .i64 e.media, .int .i64 e.status, p, str e.body]
/-- an event whose parts are not too long -/
structure EvZ (e : Tg.Sc.Ev) : Prop where
  url : e.url.length ≤ 300000
  src : e.src.length ≤ 300000
  mode : e.mode.length ≤ 300000
  body : e.body.length ≤ 300000
  hn : e.hdrs.length ≤ 90000
  hs : ∀ h ∈ e.hdrs, h.1.length ≤ 300000 ∧ h.2.length ≤ 300000
  id0 : -9223372036854775808 ≤ e.id
  id1 : e.id ≤ 9223372036854775807
  me0 : -9223372036854775808 ≤ e.media
  me1 : e.media ≤ 9223372036854775807
  st0 : -9223372036854775808 ≤ e.status
  st1 : e.status ≤ 9223372036854775807
end Go.Proofs.YthgcgjpbhbikaaaGreatDoor.Sc
namespace Tg.Sc
def fitsB (e : Ev) : Bool :=
  if e.kind = 1 then decide (e.url.length ≤ 1000) && decide (e.src.length ≤ 1000) && modes.contains e.mode && decide (0 ≤ e.media) && decide (e.media ≤ 2)
  else if e.kind = 2 then decide (0 ≤ e.status) && decide (e.status ≤ 9999) && Tg.Hd.good e.hdrs
  else if e.kind = 3 then decide (e.body.length ≤ 10000) else true
def onlyE (e : Ev) : Ev :=
  if e.kind = 1 then { ev0 with kind := e.kind, id := e.id, url := e.url, src := e.src, mode := e.mode, media := e.media }
  else if e.kind = 2 then { ev0 with kind := e.kind, id := e.id, status := e.status, hdrs := e.hdrs }
  else if e.kind = 3 then { ev0 with kind := e.kind, id := e.id, body := e.body }
  else if e.kind = 6 then { ev0 with kind := e.kind, id := 0 }
  else { ev0 with kind := e.kind, id := e.id }
theorem good_code (e : Ev) : good e = (((decide (1 ≤ e.kind) && decide (e.kind ≤ 6)) && ((decide (1 ≤ e.id) && decide (e.id ≤ 1000000)) || (decide (e.kind = 6) && decide (e.id = 0)))) && fitsB e && decide (e = onlyE e)) := by
  obtain ⟨kind, id, url, src, mode, media, status, hdrs, body⟩ := e
  unfold good fitsB onlyE ev0
  simp only [Ev.mk.injEq]
  by_cases hk : 1 ≤ kind ∧ kind ≤ 6
  · have hc : kind = 1 ∨ kind = 2 ∨ kind = 3 ∨ kind = 4 ∨ kind = 5 ∨ kind = 6 := by omega
    rcases hc with rfl | rfl | rfl | rfl | rfl | rfl
    · simp; grind
    · simp; grind
    · simp; grind
    · simp; grind
    · simp; grind
    · simp; grind
  · have : (decide (1 ≤ kind) && decide (kind ≤ 6)) = false := by
      rw [Bool.and_eq_false_iff, decide_eq_false_iff_not, decide_eq_false_iff_not]; omega
    simp [this]
end Tg.Sc
namespace Go.Proofs.YthgcgjpbhbikaaaGreatDoor.Sc
open Go.Lg Go.Tg
section
variable {H : LH} {p q : Value} {e f : Tg.Sc.Ev}
theorem hGood_cl {v : Value} {l : List Tg.Hd.Hdr} (hr : HRow H v l) (hl : l.length ≤ 1000000) (hs : ∀ h ∈ l, h.1.length ≤ 1048576 ∧ h.2.length ≤ 1048576) : LC Tryz.prog EJ 89 [v] H = some (.bool (Tg.Hd.good l), H) := by
  refine LC_pure rfl Tryz.func89 rfl (Nat.le_of_ble_eq_true rfl) (by decide) (by kernel_rfl) rfl ?_
  have h1 := good_hl hr hl hs
  simp [h1]
theorem fits_cl (hr : HRow H p e.hdrs) (hz : EvZ e) : LC Tryz.prog EJ 66 [evv e p] H = some (.bool (Tg.Sc.fitsB e), H) := by
  refine LC_pure rfl Tryz.func66 rfl (Nat.le_of_ble_eq_true rfl) (by decide) (by kernel_rfl) rfl ?_
  obtain ⟨kind, id, url, src, mode, media, status, hdrs, body⟩ := e
  have hr1 := hr.keep (H' := H.new ⟨[.int .i64 kind, .int .i64 id, str url, str src, str mode, .int .i64 media, .int .i64 status, p, str body], 36, true⟩) (Nat.le_succ _) (fun k hk => get_new_ne (by omega))
  have hg := hGood_cl hr1 (by have := hz.hn; omega) (fun h hh => by have := hz.hs h hh; omega)
  have hm := fun H : LH => mode_cl (H := H) (s := mode)
  unfold Tg.Sc.fitsB
  simp only
  generalize Tg.Sc.modes.contains mode = mo at *
  generalize Tg.Hd.good hdrs = hd at *
  by_cases k1 : kind = 1
  · subst k1
    by_cases a1 : url.length ≤ 1000
    · have b1 := eq_true (show (url.length : Int) ≤ 1000 by omega)
      by_cases a2 : src.length ≤ 1000
      · have b2 := eq_true (show (src.length : Int) ≤ 1000 by omega)
        cases mo
        · simp [a1, a2, b1, b2, hm]
        · by_cases a3 : 0 ≤ media
          · simp [a1, a2, b1, b2, hm, a3]
          · simp [a1, a2, b1, b2, hm, a3]
      · have b2 := eq_false (show ¬ (src.length : Int) ≤ 1000 by omega)
        simp [a1, a2, b1, b2, hm]
    · have b1 := eq_false (show ¬ (url.length : Int) ≤ 1000 by omega)
      simp [a1, b1, hm]
  · by_cases k2 : kind = 2
    · subst k2
      by_cases a1 : 0 ≤ status
      · by_cases a2 : status ≤ 9999
        · simp [a1, a2, hg]
        · simp [a1, a2, hg]
      · simp [a1, hg]
    · by_cases k3 : kind = 3
      · subst k3
        have b1 : ((body.length : Int) ≤ 10000) = (body.length ≤ 10000) := propext (by omega)
        simp [b1]
      · simp [k1, k2, k3]
end
end Go.Proofs.YthgcgjpbhbikaaaGreatDoor.Sc
/-
  Layer 40 (script): which events are good, by the code.
-/
set_option linter.unusedSimpArgs false
set_option linter.unusedVariables false
set_option maxRecDepth 100000
namespace Go.Proofs.YthgcgjpbhbikaaaGreatDoor.Sc
open Go.Lg Go.Tg
abbrev evc (e : Tg.Sc.Ev) (p : Value) : LB := ⟨[.int .i64 e.kind, .int .i64 e.id, str e.url, str e.src, str e.mode, .int .i64 e.media, .int .i64 e.status, p, str e.body], 36, true⟩
section
variable {H : LH} {p q : Value} {e f : Tg.Sc.Ev}
theorem _root_.Go.Proofs.YthgcgjpbhbikaaaGreatDoor.HRow.new1 {b : LB} {v : Value} {l : List Tg.Hd.Hdr} (h : HRow H v l) : HRow (H.new b) v l := h.keep (Nat.le_succ _) (fun k hk => get_new_ne (by omega))
theorem _root_.Go.Proofs.YthgcgjpbhbikaaaGreatDoor.HRow.slice {v : Value} {l : List Tg.Hd.Hdr} (h : HRow H v l) : ∃ a n c, v = .slice a n c := by
  rcases h with ⟨rfl, _⟩ | ⟨k, o, c, rfl, _⟩
  · exact ⟨_, _, _, rfl⟩
  · exact ⟨_, _, _, rfl⟩
def askB (a b : Tg.Sc.Ev) : Bool := decide (a.url = b.url) && decide (a.src = b.src) && decide (a.mode = b.mode) && decide (a.media = b.media)
def repB (a b : Tg.Sc.Ev) : Bool := decide (a.status = b.status) && decide (a.hdrs = b.hdrs)
theorem same_b (a b : Tg.Sc.Ev) : decide (a = b) = (decide (a.kind = b.kind) && decide (a.id = b.id) && askB a b && repB a b && decide (a.body = b.body)) := by
  obtain ⟨k1, i1, u1, s1, m1, d1, t1, h1, b1⟩ := a
  obtain ⟨k2, i2, u2, s2, m2, d2, t2, h2, b2⟩ := b
  unfold askB repB
  simp only [Tg.Sc.Ev.mk.injEq]
  rw [Bool.eq_iff_iff]
  simp
  grind
theorem csame2_cl (hp : HRow H p e.hdrs) (hq : HRow H q f.hdrs) (hz : e.hdrs.length ≤ 1000000) : LC Tryz.prog EJ 43 [evv e p, evv f q] H = some (.bool (decide (e = f)), H) := by
  refine LC_pure rfl Tryz.func43 rfl (Nat.le_of_ble_eq_true rfl) (by decide) (by kernel_rfl) rfl ?_
  obtain ⟨pa, pn, pc, rfl⟩ := hp.slice
  obtain ⟨qa, qn, qc, rfl⟩ := hq.slice
  have hp2 : HRow ((H.new (evc e (.slice pa pn pc))).new (evc f (.slice qa qn qc))) _ _ := hp.new1.new1
  have hq2 : HRow ((H.new (evc e (.slice pa pn pc))).new (evc f (.slice qa qn qc))) _ _ := hq.new1.new1
  have heq := hequal_cl hp2 hq2 hz
  obtain ⟨H2, hH2⟩ : ∃ H2, H2 = (H.new (evc e (.slice pa pn pc))).new (evc f (.slice qa qn qc)) := ⟨_, rfl⟩
  have g1 : H2.get H.n = some (evc e (.slice pa pn pc)) := by rw [hH2, get_new_ne (by simp), get_new]
  have g2 : H2.get (H.n + 1) = some (evc f (.slice qa qn qc)) := by rw [hH2]; exact get_new
  have hle : H.le H2 := by rw [hH2]; exact le_refl.new.new
  refine runs_cut 3 (fun fr' H' => fr' 2 = ptr H.n 0 ∧ fr' 3 = ptr (H.n + 1) 0 ∧ fr' 5 = .bool (askB e f) ∧ fr' 6 = .bool (repB e f) ∧ H2 = H') ?_ (fun K3 hK3 => ?_) rfl
  · rintro fr' H' ⟨f2, f3, f5, f6, rfl⟩
    rw [same_b]
    by_cases h1 : e.kind = f.kind
    · have h1 := eq_true h1
      by_cases h2 : e.id = f.id
      · have h2 := eq_true h2
        cases h3 : askB e f
        · simp [f2, f3, f5, f6, g1, g2, h1, h2, h3, hle]
        · cases h4 : repB e f
          · simp [f2, f3, f5, f6, g1, g2, h1, h2, h3, h4, hle]
          · simp [f2, f3, f5, f6, g1, g2, h1, h2, h3, h4, hle]
      · have h2 := eq_false h2
        simp [f2, f3, f5, f6, g1, g2, h1, h2, hle]
    · have h1 := eq_false h1
      simp [f2, f3, f5, f6, g1, g2, h1, hle]
  refine runs_cut 2 (fun fr' H' => fr' 2 = ptr H.n 0 ∧ fr' 3 = ptr (H.n + 1) 0 ∧ fr' 5 = .bool (askB e f) ∧ H2 = H') ?_ (fun K2 hK2 => ?_) rfl
  · rintro fr' H' ⟨f2, f3, f5, rfl⟩
    rw [← hH2] at heq
    have hfin := fun fr' (g2 : fr' 2 = ptr H.n 0) (g3 : fr' 3 = ptr (H.n + 1) 0) (g5 : fr' 5 = .bool (askB e f)) (g6 : fr' 6 = .bool (repB e f)) => hK3 fr' H2 ⟨g2, g3, g5, g6, rfl⟩
    unfold repB at hfin
    clear hK3
    by_cases h1 : e.status = f.status
    · have h1 := eq_true h1
      simp [f2, f3, g1, g2, h1, heq]
      refine hfin _ ?_ ?_ ?_ ?_
      all_goals simp [f2, f3, f5, h1]
    · have h1 := eq_false h1
      simp [f2, f3, g1, g2, h1]
      refine hfin _ ?_ ?_ ?_ ?_
      all_goals simp [f2, f3, f5, h1]
  have hfin := fun fr' (g2 : fr' 2 = ptr H.n 0) (g3 : fr' 3 = ptr (H.n + 1) 0) (g5 : fr' 5 = .bool (askB e f)) => hK2 fr' H2 ⟨g2, g3, g5, rfl⟩
  unfold askB at hfin
  clear hK2 hK3 heq
  by_cases h1 : e.url = f.url
  · have h1 := eq_true h1
    by_cases h2 : e.src = f.src
    · have h2 := eq_true h2
      by_cases h3 : e.mode = f.mode
      · have h3 := eq_true h3
        simp [h1, h2, h3, ← hH2, g1, g2]
        refine hfin _ ?_ ?_ ?_
        all_goals simp [h1, h2, h3]
      · have h3 := eq_false h3
        simp [h1, h2, h3, ← hH2, g1, g2]
        refine hfin _ ?_ ?_ ?_
        all_goals simp [h1, h2, h3]
    · have h2 := eq_false h2
      simp [h1, h2, ← hH2, g1, g2]
      refine hfin _ ?_ ?_ ?_
      all_goals simp [h1, h2]
  · have h1 := eq_false h1
    simp [h1, ← hH2, g1, g2]
    refine hfin _ ?_ ?_ ?_
    all_goals simp [h1]
/-- what `only` leaves -/
structure OutE (H : LH) (e : Tg.Sc.Ev) (v : Value) (H' : LH) : Prop where
  ex : ∃ p, v = evv e p ∧ HRow H' p e.hdrs
  le : H.le H'
theorem OutE.trunc {v : Value} {H' : LH} (h : OutE H e v H') : ∃ H2, Lg.trunc H (v, H') = (v, H2) ∧ OutE H e v H2 := by
  rcases trunc_or v H H' with e2 | ⟨e2, hf, _⟩
  · exact ⟨H', e2, h⟩
  · refine ⟨H, e2, ?_, le_refl⟩
    obtain ⟨p, hv, hr⟩ := h.ex
    refine ⟨p, hv, ?_⟩
    rw [hv] at hf
    rcases hr with h1 | ⟨k, o, c, rfl, _⟩
    · exact .inl h1
    · simp [flatB, flat1B, atomB] at hf
theorem only_ex (hp : HRow H p e.hdrs) : ∃ v H', LC Tryz.prog EJ 67 [evv e p] H = some (v, H') ∧ OutE H (Tg.Sc.onlyE e) v H' := by
  obtain ⟨pa, pn, pc, rfl⟩ := hp.slice
  have key : ∃ r, LC Tryz.prog EJ 67 [evv e (.slice pa pn pc)] H = some (Lg.trunc H r) ∧ OutE H (Tg.Sc.onlyE e) r.1 r.2 := by
    refine LC_runs (P := Tryz.prog) (E := EJ) (f := 67) rfl Tryz.func67 rfl (Nat.le_of_ble_eq_true rfl) (by decide) (by kernel_rfl) ?_
    obtain ⟨kind, id, url, src, mode, media, status, hdrs, body⟩ := e
    unfold Tg.Sc.onlyE Tg.Sc.ev0
    simp only
    have fin : ∀ (e : Tg.Sc.Ev) (H2 : LH), e.hdrs = [] → H.le H2 → OutE H e (evv e (.slice none 0 0)) H2 := fun e H2 h1 h2 => ⟨⟨_, rfl, .inl ⟨rfl, h1⟩⟩, h2⟩
    have d2 := eq_false (show ¬ H.n = H.n + 1 + 1 by omega)
    by_cases k1 : kind = 1
    · subst k1
      simp [d2]
      refine fin ⟨1, id, url, src, mode, media, 0, [], []⟩ _ rfl (by simp; exact le_refl.new.new.new)
    · by_cases k2 : kind = 2
      · subst k2
        simp [d2, splice]
        refine ⟨⟨.slice pa pn pc, rfl, ?_⟩, ?_⟩
        · exact hp.keep (by simp; omega) (fun k hk => by simp [show k ≠ H.n by omega, show k ≠ H.n + 1 by omega, show k ≠ H.n + 1 + 1 by omega])
        · simp
          exact le_refl.new.new.new
      · by_cases k3 : kind = 3
        · subst k3
          simp [d2]
          refine fin ⟨3, id, [], [], [], 0, 0, [], body⟩ _ rfl (by simp; exact le_refl.new.new.new)
        · by_cases k6 : kind = 6
          · subst k6
            simp [d2]
            refine fin ⟨6, 0, [], [], [], 0, 0, [], []⟩ _ rfl (by simp; exact le_refl.new.new.new)
          · simp [k1, k2, k3, k6, d2]
            refine fin ⟨kind, id, [], [], [], 0, 0, [], []⟩ _ rfl (by simp; exact le_refl.new.new.new)
  obtain ⟨r, e, ho⟩ := key
  obtain ⟨H2, e2, ho2⟩ := ho.trunc
  exact ⟨r.1, H2, by rw [e, ← e2], ho2⟩
theorem good_cl (hr : HRow H p e.hdrs) (hz : EvZ e) : LC Tryz.prog EJ 41 [evv e p] H = some (.bool (Tg.Sc.good e), H) := by
  refine LC_pure rfl Tryz.func41 rfl (Nat.le_of_ble_eq_true rfl) (by decide) (by kernel_rfl) rfl ?_
  obtain ⟨pa, pn, pc, rfl⟩ := hr.slice
  obtain ⟨x, hx⟩ : ∃ x, x = Tg.Sc.good e := ⟨_, rfl⟩
  rw [← hx]
  rw [Tg.Sc.good_code] at hx
  obtain ⟨Hb, hHb⟩ : ∃ Hb, Hb = H.new (evc e (.slice pa pn pc)) := ⟨_, rfl⟩
  have gb : Hb.get H.n = some (evc e (.slice pa pn pc)) := by rw [hHb]; exact get_new
  have hle : H.le Hb := by rw [hHb]; exact le_refl.new
  have hr1 : HRow Hb (.slice pa pn pc) e.hdrs := by rw [hHb]; exact hr.new1
  have hnb : Hb.n = H.n + 1 := by rw [hHb]; rfl
  have hf := fits_cl hr1 hz
  obtain ⟨v, H2, eo, ⟨q, hv, hq⟩, hle2⟩ := only_ex hr1
  subst hv
  have hs := csame2_cl (hr1.keep hle2.1 hle2.2) hq (by have := hz.hn; omega)
  have gb2 : H2.get H.n = some (evc e (.slice pa pn pc)) := by rw [hle2.2 H.n (by omega)]; exact gb
  refine runs_cut 3 (fun fr' H' => fr' 1 = ptr H.n 0 ∧ fr' 3 = .bool (decide (1 ≤ e.kind) && decide (e.kind ≤ 6)) ∧ fr' 4 = .bool ((decide (1 ≤ e.id) && decide (e.id ≤ 1000000)) || (decide (e.kind = 6) && decide (e.id = 0))) ∧ Hb = H') ?_ (fun K3 hK3 => ?_) rfl
  · rintro fr' H' ⟨f1, f3, f4, rfl⟩
    subst hx
    generalize (decide (1 ≤ e.kind) && decide (e.kind ≤ 6)) = b1 at *
    generalize ((decide (1 ≤ e.id) && decide (e.id ≤ 1000000)) || (decide (e.kind = 6) && decide (e.id = 0))) = b2 at *
    generalize Tg.Sc.fitsB e = b3 at *
    generalize decide (e = Tg.Sc.onlyE e) = b4 at *
    cases b1 with
    | false => simp [f1, f3, f4, gb, hle]
    | true =>
      cases b2 with
      | false => simp [f1, f3, f4, gb, hle]
      | true =>
        cases b3 with
        | false => simp [f1, f3, f4, gb, hf, hle]
        | true =>
          simp [f1, f3, f4, gb, hf, eo, hs, gb2, hle]
          exact ⟨Nat.le_trans hle.1 hle2.1, fun k hk => by rw [hle2.2 k (by omega), hle.2 k hk]⟩
  refine runs_cut 2 (fun fr' H' => fr' 1 = ptr H.n 0 ∧ fr' 3 = .bool (decide (1 ≤ e.kind) && decide (e.kind ≤ 6)) ∧ Hb = H') ?_ (fun K2 hK2 => ?_) rfl
  · rintro fr' H' ⟨f1, f3, rfl⟩
    have hfin := fun fr' (g1 : fr' 1 = ptr H.n 0) (g3 : fr' 3 = .bool (decide (1 ≤ e.kind) && decide (e.kind ≤ 6))) (g4 : fr' 4 = .bool ((decide (1 ≤ e.id) && decide (e.id ≤ 1000000)) || (decide (e.kind = 6) && decide (e.id = 0)))) => hK3 fr' Hb ⟨g1, g3, g4, rfl⟩
    clear hK3 hx
    by_cases h1 : 1 ≤ e.id
    · by_cases h2 : e.id ≤ 1000000
      · simp [f1, gb, h1, h2]
        refine hfin _ ?_ ?_ ?_
        all_goals simp [f1, f3, h1, h2]
      · by_cases h3 : e.kind = 6
        · have h3 := eq_true h3
          by_cases h4 : e.id = 0
          · omega
          · have h4 := eq_false h4
            simp [f1, gb, h1, h2, h3, h4]
            refine hfin _ ?_ ?_ ?_
            all_goals simp [f1, f3, h1, h2, h3, h4]
        · have h3 := eq_false h3
          simp [f1, gb, h1, h2, h3]
          refine hfin _ ?_ ?_ ?_
          all_goals simp [f1, f3, h1, h2, h3]
    · by_cases h3 : e.kind = 6
      · have h3 := eq_true h3
        by_cases h4 : e.id = 0
        · have h4 := eq_true h4
          simp [f1, gb, h1, h3, h4]
          refine hfin _ ?_ ?_ ?_
          all_goals simp [f1, f3, h1, h3, h4]
        · have h4 := eq_false h4
          simp [f1, gb, h1, h3, h4]
          refine hfin _ ?_ ?_ ?_
          all_goals simp [f1, f3, h1, h3, h4]
      · have h3 := eq_false h3
        simp [f1, gb, h1, h3]
        refine hfin _ ?_ ?_ ?_
        all_goals simp [f1, f3, h1, h3]
  have hfin := fun fr' (g1 : fr' 1 = ptr H.n 0) (g3 : fr' 3 = .bool (decide (1 ≤ e.kind) && decide (e.kind ≤ 6))) => hK2 fr' Hb ⟨g1, g3, rfl⟩
  clear hK2 hK3 hf hs eo hx
  by_cases h1 : 1 ≤ e.kind
  · by_cases h2 : e.kind ≤ 6
    · simp [h1, h2, ← hHb, gb]
      refine hfin _ ?_ ?_
      all_goals simp [h1, h2]
    · simp [h1, h2, ← hHb, gb]
      refine hfin _ ?_ ?_
      all_goals simp [h1, h2]
  · simp [h1, ← hHb, gb]
    refine hfin _ ?_ ?_
    all_goals simp [h1]
end
end Go.Proofs.YthgcgjpbhbikaaaGreatDoor.Sc
/-
  The library functions of these laws never turn the base.
-/
set_option linter.unusedSimpArgs false
set_option linter.unusedVariables false
namespace Go.Proofs.YthgcgjpbhbikaaaGreatDoor
open Go.Lg Go.Tg
def SpecBs (s : Lg.Spec) : Prop := ∀ args H v H', s args H = some (v, H') → Bs H H'
theorem flat_bs {g : List Value → Option Value} : SpecBs (flatSpec g) := by
  intro args H v H' h
  unfold flatSpec at h
  (repeat' split at h) <;> first | (cases h; done) | (simp only [Option.some.injEq, Prod.mk.injEq] at h; obtain ⟨_, rfl⟩ := h; exact ⟨rfl, rfl⟩) | (obtain ⟨u, _, e⟩ := Option.map_eq_some_iff.1 h; simp only [Prod.mk.injEq] at e; obtain ⟨_, rfl⟩ := e; exact ⟨rfl, rfl⟩)
theorem index_bs : SpecBs specIndexA := by
  intro args H v H' h
  unfold specIndexA at h
  (repeat' split at h) <;> first | (cases h; done) | (simp only [Option.some.injEq, Prod.mk.injEq] at h; obtain ⟨_, rfl⟩ := h; exact ⟨rfl, rfl⟩)
theorem split_bs : SpecBs specSplit := by
  intro args H v H' h
  unfold specSplit at h
  (repeat' split at h) <;> first | (cases h; done) | (simp only [Option.some.injEq, Prod.mk.injEq] at h; obtain ⟨_, rfl⟩ := h; exact ⟨rfl, rfl⟩) | (obtain ⟨u, _, e⟩ := Option.map_eq_some_iff.1 h; simp only [Prod.mk.injEq] at e; obtain ⟨_, rfl⟩ := e; exact ⟨rfl, rfl⟩)
theorem join_bs : SpecBs specJoin := by
  intro args H v H' h
  unfold specJoin at h
  (repeat' split at h) <;> first | (cases h; done) | (simp only [Option.some.injEq, Prod.mk.injEq] at h; obtain ⟨_, rfl⟩ := h; exact ⟨rfl, rfl⟩) | (obtain ⟨u, _, e⟩ := Option.map_eq_some_iff.1 h; simp only [Prod.mk.injEq] at e; obtain ⟨_, rfl⟩ := e; exact ⟨rfl, rfl⟩)
theorem itoa_bs : SpecBs specItoa := by
  intro args H v H' h
  unfold specItoa at h
  (repeat' split at h) <;> first | (cases h; done) | (simp only [Option.some.injEq, Prod.mk.injEq] at h; obtain ⟨_, rfl⟩ := h; exact ⟨rfl, rfl⟩) | (obtain ⟨u, _, e⟩ := Option.map_eq_some_iff.1 h; simp only [Prod.mk.injEq] at e; obtain ⟨_, rfl⟩ := e; exact ⟨rfl, rfl⟩)
theorem copy_bs : SpecBs specCopy := by
  intro args H v H' h
  unfold specCopy at h
  (repeat' split at h) <;> first | (cases h; done) | (simp only [Option.some.injEq, Prod.mk.injEq] at h; obtain ⟨_, rfl⟩ := h; exact ⟨rfl, rfl⟩) | (obtain ⟨u, _, e⟩ := Option.map_eq_some_iff.1 h; simp only [Prod.mk.injEq] at e; obtain ⟨_, rfl⟩ := e; exact ⟨rfl, rfl⟩)
theorem bstr_bs : SpecBs specBStr := by
  intro args H v H' h
  unfold specBStr at h
  (repeat' split at h) <;> first | (cases h; done) | (simp only [Option.some.injEq, Prod.mk.injEq] at h; obtain ⟨_, rfl⟩ := h; exact ⟨rfl, rfl⟩) | (obtain ⟨u, _, e⟩ := Option.map_eq_some_iff.1 h; simp only [Prod.mk.injEq] at e; obtain ⟨_, rfl⟩ := e; exact ⟨rfl, rfl⟩)
theorem fields_bs : SpecBs specFields := by
  intro args H v H' h
  unfold specFields at h
  (repeat' split at h) <;> first | (cases h; done) | (simp only [Option.some.injEq, Prod.mk.injEq] at h; obtain ⟨_, rfl⟩ := h; exact ⟨rfl, rfl⟩) | (obtain ⟨u, _, e⟩ := Option.map_eq_some_iff.1 h; simp only [Prod.mk.injEq] at e; obtain ⟨_, rfl⟩ := e; exact ⟨rfl, rfl⟩)
theorem str_bs : ∀ p ∈ specsStr, SpecBs p.2 := by
  intro p hp
  unfold specsStr at hp
  rcases List.mem_cons.1 hp with rfl | hp
  · exact fields_bs
  rcases List.mem_cons.1 hp with rfl | hp
  · exact split_bs
  rcases List.mem_cons.1 hp with rfl | hp
  · exact join_bs
  rcases List.mem_cons.1 hp with rfl | hp
  · exact itoa_bs
  rcases List.mem_cons.1 hp with rfl | hp
  · exact copy_bs
  rcases List.mem_cons.1 hp with rfl | hp
  · exact bstr_bs
  rcases List.mem_cons.1 hp with rfl | hp
  · exact flat_bs
  rcases List.mem_cons.1 hp with rfl | hp
  · exact flat_bs
  rcases List.mem_cons.1 hp with rfl | hp
  · exact flat_bs
  rcases List.mem_cons.1 hp with rfl | hp
  · exact index_bs
  cases hp
theorem ext_bs {f : FuncId} {args : List Value} {H H' : LH} {v : Value} (h : LC Tryz.prog EJ f args H = some (v, H')) : Bs H H' :=
  LC_bs (fun f s hs args H v H' hr => by
    have hs : ((specsStr).find? (fun p => p.1 == f)).map (·.2) = some s := hs
    obtain ⟨p, hp, rfl⟩ := Option.map_eq_some_iff.1 hs
    exact str_bs p (List.mem_of_find?_eq_some hp) args H v H' hr) h
theorem lapp_bs {P : Program} {t : TypeId} {x v : Value} {src : Option (Nat × List Value)} {H H' : LH} (h : lapp P t x src H = some (v, H')) : Bs H H' := by
  unfold lapp at h
  (repeat' split at h) <;> first | (cases h; done) | exact appM_bs h | (simp only [Option.some.injEq, Prod.mk.injEq] at h; obtain ⟨_, rfl⟩ := h; exact ⟨rfl, rfl⟩)
theorem MaxL.bs {H H' : LH} (h : MaxL H) (hb : Bs H H') : MaxL H' := ⟨by rw [hb.2]; exact h.1, by rw [hb.1]; exact h.2⟩
theorem Tab10.bs {H H' : LH} (h : Tab10 H) (hb : Bs H H') : Tab10 H' := ⟨by rw [hb.2]; exact h.1, by rw [hb.1]; exact h.2⟩
theorem Tab.bs {H H' : LH} (h : Tab H) (hb : Bs H H') : Tab H' := ⟨by rw [hb.2]; exact h.1, by rw [hb.1]; exact h.2⟩
end Go.Proofs.YthgcgjpbhbikaaaGreatDoor
/-
  Layer 40 (script): the lines of events and setups, by the code.
-/
set_option linter.unusedSimpArgs false
set_option linter.unusedVariables false
set_option maxRecDepth 100000
namespace Go.Proofs.YthgcgjpbhbikaaaGreatDoor.Sc
open Go.Lg Go.Tg
/-- a row of texts is handed back -/
structure OutT (H : LH) (v : Value) (H' : LH) (xs : List (List UInt8)) : Prop where
  row : TRow H' v xs
  le : H.le H'
section
variable {H : LH} {p q v : Value} {e f : Tg.Sc.Ev} {xs : List (List UInt8)} {l : List Tg.Hd.Hdr} {s : List UInt8}
theorem OutT.trunc {H' : LH} (h : OutT H v H' xs) : ∃ H2, Lg.trunc H (v, H') = (v, H2) ∧ OutT H v H2 xs := by
  rcases trunc_or v H H' with e2 | ⟨e2, hf, _⟩
  · exact ⟨H', e2, h⟩
  · refine ⟨H, e2, ?_, le_refl⟩
    rcases h.row with h1 | ⟨k, o, c, B, rfl, _⟩
    · exact .inl h1
    · simp [flatB, flat1B, atomB] at hf
theorem le_trans {H H1 H2 : LH} (h : H.le H1) (k : H1.le H2) : H.le H2 := ⟨Nat.le_trans h.1 k.1, fun l hl => by rw [k.2 l (Nat.lt_of_lt_of_le hl h.1), h.2 l hl]⟩
theorem bs1s : lbuildSlice Tryz.prog 40 1 [(0, str s)] H = some (sl H.n 1 1, H.new ⟨[str s], 9, true⟩) := lbs_dense (z := str []) Tryz.underlying40 (by kernel_rfl) (by kernel_rfl) rfl (by simp) rfl (by decide) rfl
theorem join_new {n : Nat} (hn : xs.length = n) (h0 : n ≠ 0) (hN : n ≤ 1000) (hl : (Tg.Sc.wl xs).length ≤ 9000000) : LC Tryz.prog EJ 50 [sl H.n n n] (H.new ⟨xs.map str, 9, true⟩) = some (str (Tg.Sc.wl xs), H.new ⟨xs.map str, 9, true⟩) := by
  subst hn
  exact join_cl (TRow.new (Nat.le_refl _)) (fun e => h0 (by rw [e]; rfl)) (by omega) hl
theorem wl_len : ∀ {l : List (List UInt8)} {m : Nat}, (∀ w ∈ l, w.length ≤ m) → (Tg.Sc.wl l).length ≤ l.length * (m + 1)
  | [], m, _ => by simp [Tg.Sc.wl]
  | [w], m, h => by have := h w (by simp); unfold Tg.Sc.wl; simp; omega
  | w :: v :: l, m, h => by
    have ih := wl_len (l := v :: l) (m := m) (fun x hx => h x (by simp [hx]))
    have := h w (by simp)
    unfold Tg.Sc.wl
    simp only [List.length_append, List.length_cons] at ih ⊢
    rw [Nat.add_mul _ 1]
    omega
theorem scitoa {n : Int} (h1 : -9223372036854775808 ≤ n) (h2 : n ≤ 9223372036854775807) (ht : Tab10 H) : LC Tryz.prog EJ 48 [.int .i64 n] H = some (str (Lib.itoa n), H) := itoa_cl h1 h2 ht
theorem heads_ex {id st : Int} (hr : HRow H p l) (hl : l.length ≤ 90000) (hs : ∀ h ∈ l, h.1.length ≤ 300000 ∧ h.2.length ≤ 300000) (hw : s.length ≤ 1000) (i0 : -9223372036854775808 ≤ id) (i1 : id ≤ 9223372036854775807) (t0 : -9223372036854775808 ≤ st) (t1 : st ≤ 9223372036854775807) (ht : Tab10 H) :
    ∃ v H', LC Tryz.prog EJ 49 [str s, .int .i64 id, .int .i64 st, p] H = some (v, H') ∧ OutT H v H' (Tg.Sc.headsL s id st l) := by
  have key : ∃ r, LC Tryz.prog EJ 49 [str s, .int .i64 id, .int .i64 st, p] H = some (Lg.trunc H r) ∧ OutT H r.1 r.2 (Tg.Sc.headsL s id st l) := by
    refine LC_runs (P := Tryz.prog) (E := EJ) (f := 49) rfl Tryz.func49 rfl (Nat.le_of_ble_eq_true rfl) (by decide) (by kernel_rfl) ?_
    have e1 := scitoa i0 i1 ht
    have e2 := scitoa t0 t1 ht
    have e3 := scitoa (n := (l.length : Int)) (by omega) (by omega) ht
    have n1 := Tg.Sc.itoa_short i0 i1
    have n2 := Tg.Sc.itoa_short t0 t1
    have n3 := Tg.Sc.itoa_short (n := (l.length : Int)) (by omega) (by omega)
    unfold Tg.Sc.headsL
    generalize Lib.itoa id = x1 at *
    generalize Lib.itoa st = x2 at *
    generalize Lib.itoa (l.length : Int) = x3 at *
    have hj := join_new (H := H) (xs := [s, x1, x2, x3]) (n := 4) rfl (by decide) (by decide) (by
      have := wl_len (l := [s, x1, x2, x3]) (m := 1000) (by simp; omega)
      simp at this; omega)
    simp only [List.map_cons, List.map_nil] at hj
    generalize Tg.Sc.wl [s, x1, x2, x3] = f at *
    simp [e1, e2, e3, hr.len, hj]
    refine loop_ind (fun (i : Nat) fr' H' => ∃ w, fr' 9 = w ∧ fr' 23 = p ∧ fr' 24 = .int .i64 l.length ∧ fr' 25 = .int .i64 i ∧ i ≤ l.length ∧ RowN H.n H' 9 1 w (f :: (l.take i).map Tg.Sc.hline).length ((f :: (l.take i).map Tg.Sc.hline).map str) ∧ H.n ≤ H'.n ∧ ∀ k, k < H.n → H'.get k = H.get k) (fun i => l.length - i) 0 ⟨sl (H.n + 1) 1 1, by simp, by simp, by simp, by simp, Nat.zero_le _, ?_, by simp; omega, fun k hk => by rw [get_new_ne (by simp; omega), get_new_ne (by omega)]⟩ ?_
    · refine ⟨by simp, .inr ⟨H.n + 1, 1, [], by simp, by omega, by simp, ?_, by simp, by simp⟩⟩
      rw [show H.n + 1 = (H.new ⟨[str s, str x1, str x2, str x3], 9, true⟩).n from rfl, get_new]; simp
    rintro i fr' H' ⟨w, f9, f23, f24, f25, hi, hrow, hn, hk⟩ ih
    subst f9
    have hr' := hr.keep hn hk
    by_cases hlt : i < l.length
    · have q := eq_true (show (i : Int) < (l.length : Int) by omega)
      have hw1 : IntKind.i64.wrap ((i : Int) + 1) = ((i + 1 : Nat) : Int) := by rw [wrapI (by omega) (by omega)]; omega
      obtain ⟨k, o, g1, g2, g3⟩ := hr'.at hlt
      obtain ⟨g0, g4, g5⟩ := g3 H' rfl
      have hm := hs l[i] (List.getElem_mem hlt)
      have hes := fun H : LH => escape_cl (H := H) (s := l[i].2) hm.2
      have hnew : f :: (l.take (i + 1)).map Tg.Sc.hline = (f :: (l.take i).map Tg.Sc.hline) ++ [Tg.Sc.hline l[i]] := by
        rw [List.take_succ_eq_append_getElem hlt, List.map_append]; rfl
      have hrow1 : RowN H.n (H'.new (hb l[i])) 9 1 (fr' 9) (f :: (l.take i).map Tg.Sc.hline).length ((f :: (l.take i).map Tg.Sc.hline).map str) := hrow.keep (Nat.le_succ _) (fun j _ _ hj => get_new_ne (by omega))
      obtain ⟨v', H2, a1, a2, a3, a4⟩ := out_app (x := Tg.Sc.hline l[i]) hrow1 (by rw [n_new]; omega) (by simp; omega)
      rw [← hnew] at a2
      have hfin := fun fr2 (g9 : fr2 9 = v') (g23 : fr2 23 = p) (g24 : fr2 24 = .int .i64 l.length) (g25 : fr2 25 = .int .i64 ((i + 1 : Nat) : Int)) => ih (i + 1) fr2 H2 (by omega) ⟨v', g9, g23, g24, g25, by omega, a2, a3, fun k hk2 => by rw [a4 k hk2, get_new_ne (by omega), hk k hk2]⟩
      unfold Tg.Sc.hline at a1
      have hel := Tg.Sc.esc_len l[i].2
      clear ih hrow hrow1 a2 hnew
      generalize l[i] = a at *
      have qa := eq_true (show 1 + a.1.length ≤ 9223372036854775807 by omega)
      have qb := eq_true (show a.1.length + 1 + 2 ≤ 9223372036854775807 by omega)
      have qc := eq_true (show a.1.length + 2 + 1 + (Tg.Sc.esc a.2).length ≤ 9223372036854775807 by omega)
      simp [f23, f24, f25, q, g1, g0, hes, bs1s, a1, qa, qb, qc]
      refine hfin _ ?_ ?_ ?_ ?_
      all_goals simp [f23, f24, hw1]
    · have q := eq_false (show ¬ (i : Int) < (l.length : Int) by omega)
      rw [List.take_of_length_le (by omega)] at hrow
      simp [f23, f24, f25, q]
      exact ⟨TRow.of_own hrow, hn, hk⟩
  obtain ⟨r, e, ho⟩ := key
  obtain ⟨H2, e2, ho2⟩ := ho.trunc
  exact ⟨r.1, H2, by rw [e, ← e2], ho2⟩
theorem shown_ex (hg : Tg.Sc.good e = true) (hr : HRow H p e.hdrs) (hz : EvZ e) (ht : Tab H) (h10 : Tab10 H) : ∃ v H', LC Tryz.prog EJ 42 [evv e p] H = some (v, H') ∧ OutT H v H' (Tg.Sc.shown e) := by
  obtain ⟨pa, pn, pc, rfl⟩ := hr.slice
  have key : ∃ r, LC Tryz.prog EJ 42 [evv e (.slice pa pn pc)] H = some (Lg.trunc H r) ∧ OutT H r.1 r.2 (Tg.Sc.shown e) := by
    refine LC_runs (P := Tryz.prog) (E := EJ) (f := 42) rfl Tryz.func42 rfl (Nat.le_of_ble_eq_true rfl) (by decide) (by kernel_rfl) ?_
    obtain ⟨kind, id, url, src, mode, media, status, hdrs, body⟩ := e
    have hk : kind = 1 ∨ kind = 2 ∨ kind = 3 ∨ kind = 4 ∨ kind = 5 ∨ kind = 6 := by
      unfold Tg.Sc.good at hg
      simp only [Bool.and_eq_true, decide_eq_true_eq] at hg
      have := hg.1.1.1.1
      omega
    obtain ⟨z1, z2, z3, z4, z5, z6, z7, z8, z9, z10, z11, z12⟩ := hz
    simp only at z1 z2 z3 z4 z5 z6 z7 z8 z9 z10 z11 z12 hr
    clear hg
    have n1 := Tg.Sc.itoa_short z7 z8
    have hes1 := fun H : LH => escape_cl (H := H) (s := url) z1
    have hes2 := fun H : LH => escape_cl (H := H) (s := src) z2
    have hes3 := fun H : LH => escape_cl (H := H) (s := body) z4
    have l1 := Tg.Sc.esc_len url
    have l2 := Tg.Sc.esc_len src
    have l3 := Tg.Sc.esc_len body
    obtain ⟨Hb, hHb⟩ : ∃ Hb, Hb = H.new ⟨[.int .i64 kind, .int .i64 id, str url, str src, str mode, .int .i64 media, .int .i64 status, .slice pa pn pc, str body], 36, true⟩ := ⟨_, rfl⟩
    have hbn : Hb.n = H.n + 1 := by rw [hHb]; rfl
    have hbb : Bs H Hb := by rw [hHb]; exact ⟨rfl, rfl⟩
    have hble : H.le Hb := by rw [hHb]; exact le_refl.new
    have gb : Hb.get H.n = some ⟨[.int .i64 kind, .int .i64 id, str url, str src, str mode, .int .i64 media, .int .i64 status, .slice pa pn pc, str body], 36, true⟩ := by rw [hHb]; exact get_new
    have hrb : HRow Hb (.slice pa pn pc) hdrs := by rw [hHb]; exact hr.new1
    have hwd := words_l (H := Hb) (ht.bs hbb)
    unfold Tg.Sc.words at hwd
    simp only [List.map_cons, List.map_nil] at hwd
    obtain ⟨Hc, hHc⟩ : ∃ Hc, Hc = Hb.new ⟨[str Tg.Sc.kwAsk, str Tg.Sc.kwHead, str Tg.Sc.kwChunk, str Tg.Sc.kwEnd, str Tg.Sc.kwAbort, str Tg.Sc.kwReset], 9, true⟩ := ⟨_, rfl⟩
    rw [← hHc, hbn] at hwd
    have hcn : Hc.n = H.n + 1 + 1 := by rw [hHc, n_new, hbn]
    have gw : Hc.get (H.n + 1) = some ⟨[str Tg.Sc.kwAsk, str Tg.Sc.kwHead, str Tg.Sc.kwChunk, str Tg.Sc.kwEnd, str Tg.Sc.kwAbort, str Tg.Sc.kwReset], 9, true⟩ := by rw [hHc, ← hbn]; exact get_new
    have gc : Hc.get H.n = some ⟨[.int .i64 kind, .int .i64 id, str url, str src, str mode, .int .i64 media, .int .i64 status, .slice pa pn pc, str body], 36, true⟩ := by rw [hHc, get_new_ne (by omega)]; exact gb
    have hbc : Bs H Hc := by rw [hHc]; exact hbb
    have hcle : H.le Hc := by rw [hHc]; exact hble.new
    have hrc : HRow Hc (.slice pa pn pc) hdrs := by rw [hHc]; exact hrb.new1
    have t1 := scitoa (H := Hc) z7 z8 (h10.bs hbc)
    have t2 := scitoa (H := Hc) z9 z10 (h10.bs hbc)
    have n2 := Tg.Sc.itoa_short z9 z10
    obtain ⟨v2, H2, e2, o2⟩ := heads_ex (s := Tg.Sc.kwHead) (id := id) (st := status) hrc z5 z6 (by decide) z7 z8 z11 z12 (h10.bs hbc)
    unfold Tg.Sc.shown
    simp only
    generalize Lib.itoa id = x1 at *
    generalize Lib.itoa media = x2 at *
    have hj2 := fun (w : List UInt8) (hw : w.length ≤ 100) => join_new (H := Hc) (xs := [w, x1]) (n := 2) rfl (by decide) (by decide) (by
      have := wl_len (l := [w, x1]) (m := 100) (by simp; omega)
      simp at this; omega)
    simp only [List.map_cons, List.map_nil] at hj2
    have fin : ∀ (s : List UInt8) (G : LH), H.le G → OutT H (sl G.n 1 1) (G.new ⟨[str s], 9, true⟩) [s] := fun s G hG => ⟨TRow.new (H := G) (xs := [s]) (c := 1) (Nat.le_refl _), hG.new⟩
    rcases hk with rfl | rfl | rfl | rfl | rfl | rfl
    · have hj := join_new (H := Hc) (xs := [Tg.Sc.kwAsk, x1, x2, mode, Tg.Sc.esc url, Tg.Sc.esc src]) (n := 6) rfl (by decide) (by decide) (by
        have := wl_len (l := [Tg.Sc.kwAsk, x1, x2, mode, Tg.Sc.esc url, Tg.Sc.esc src]) (m := 1000000) (by simp [Tg.Sc.kwAsk]; omega)
        simp at this; omega)
      simp only [List.map_cons, List.map_nil] at hj
      simp [← hHb, hwd, gb, gw, gc, t1, t2, hes1, hes2, hj, bs1s]
      exact fin _ (Hc.new _) hcle.new
    · simp [← hHb, hwd, gb, gw, gc, t1, e2]
      exact ⟨o2.row, le_trans hcle o2.le⟩
    · have hj := join_new (H := Hc) (xs := [Tg.Sc.kwChunk, x1, Tg.Sc.esc body]) (n := 3) rfl (by decide) (by decide) (by
        have := wl_len (l := [Tg.Sc.kwChunk, x1, Tg.Sc.esc body]) (m := 1000000) (by simp [Tg.Sc.kwChunk]; omega)
        simp at this; omega)
      simp only [List.map_cons, List.map_nil] at hj
      simp [← hHb, hwd, gb, gw, gc, t1, hes3, hj, bs1s]
      exact fin _ (Hc.new _) hcle.new
    · have hj := hj2 Tg.Sc.kwEnd (by decide)
      simp [← hHb, hwd, gb, gw, gc, t1, hj, bs1s]
      exact fin _ (Hc.new _) hcle.new
    · have hj := hj2 Tg.Sc.kwAbort (by decide)
      simp [← hHb, hwd, gb, gw, gc, t1, hj, bs1s]
      exact fin _ (Hc.new _) hcle.new
    · simp [← hHb, hwd, gb, gw, gc, t1, bs1s]
      exact fin _ Hc hcle
  obtain ⟨r, e, ho⟩ := key
  obtain ⟨H2, e2, ho2⟩ := ho.trunc
  exact ⟨r.1, H2, by rw [e, ← e2], ho2⟩
end
end Go.Proofs.YthgcgjpbhbikaaaGreatDoor.Sc
/-
  Layer 40 (script): setups, by the code and by the reference.
-/
set_option linter.unusedSimpArgs false
set_option linter.unusedVariables false
set_option maxRecDepth 100000
namespace Go.Proofs.YthgcgjpbhbikaaaGreatDoor.Sc
open Go.Lg Go.Tg
abbrev suv (c : Tg.Sc.Setup) : Value := .agg #[.bool c.legacy, .int .i64 c.look, .int .i64 c.depth, .int .i64 c.table, .int .i64 c.valid]
section
variable {H : LH} {c : Tg.Sc.Setup} {l : Bool} {k n : Int}
theorem ogood_cl : LC Tryz.prog EJ 109 [.agg #[.bool l, .int .i64 k, .int .i64 n]] H = some (.bool (decide (1445 ≤ k) && decide (k ≤ 1048576) && decide (0 ≤ n) && decide (n ≤ 200)), H) := by
  refine LC_pure rfl Tryz.func109 rfl (Nat.le_of_ble_eq_true rfl) (by decide) (by kernel_rfl) rfl ?_
  by_cases h1 : 1445 ≤ k
  · by_cases h2 : k ≤ 1048576
    · by_cases h3 : 0 ≤ n
      · by_cases h4 : n ≤ 200 <;> simp [h1, h2, h3, h4]
      · simp [h1, h2, h3]
    · simp [h1, h2]
  · simp [h1]
theorem rgood38_cl : LC Tryz.prog EJ 62 [.agg #[.bool l, .int .i64 k, .int .i64 n]] H = some (.bool (decide (1445 ≤ k) && decide (k ≤ 1048576) && decide (0 ≤ n) && decide (n ≤ 200)), H) := by
  refine LC_pure rfl Tryz.func62 rfl (Nat.le_of_ble_eq_true rfl) (by decide) (by kernel_rfl) rfl ?_
  by_cases h1 : 1445 ≤ k
  · by_cases h2 : k ≤ 1048576
    · by_cases h3 : 0 ≤ n
      · by_cases h4 : n ≤ 200 <;> simp [h1, h2, h3, h4]
      · simp [h1, h2, h3]
    · simp [h1, h2]
  · simp [h1]
theorem fineS_b (c : Tg.Sc.Setup) : Tg.Sc.fineS c = ((decide (1445 ≤ c.look) && decide (c.look ≤ 1048576) && decide (0 ≤ c.depth) && decide (c.depth ≤ 200)) && decide (1 ≤ c.table) && decide (c.table ≤ 1000) && decide (0 ≤ c.valid) && decide (c.valid ≤ 10000)) := by
  unfold Tg.Sc.fineS
  simp only [Bool.and_assoc]
theorem fgood_cl : LC Tryz.prog EJ 94 [suv c] H = some (.bool (Tg.Sc.fineS c), H) := by
  refine LC_pure rfl Tryz.func94 rfl (Nat.le_of_ble_eq_true rfl) (by decide) (by kernel_rfl) rfl ?_
  have ho := fun H : LH => ogood_cl (H := H) (l := c.legacy) (k := c.look) (n := c.depth)
  rw [fineS_b]
  generalize (decide (1445 ≤ c.look) && decide (c.look ≤ 1048576) && decide (0 ≤ c.depth) && decide (c.depth ≤ 200)) = b at *
  cases b with
  | false => simp [ho]
  | true =>
    by_cases h1 : 1 ≤ c.table
    · by_cases h2 : c.table ≤ 1000
      · by_cases h3 : 0 ≤ c.valid
        · by_cases h4 : c.valid ≤ 10000 <;> simp [ho, h1, h2, h3, h4]
        · simp [ho, h1, h2, h3]
      · simp [ho, h1, h2]
    · simp [ho, h1]
theorem fGood_cl : LC Tryz.prog EJ 74 [suv c] H = some (.bool (Tg.Sc.fineS c), H) := by
  refine LC_pure rfl Tryz.func74 rfl (Nat.le_of_ble_eq_true rfl) (by decide) (by kernel_rfl) rfl ?_
  have ho := fun H : LH => fgood_cl (H := H) (c := c)
  simp [ho]
theorem rgood39_cl : LC Tryz.prog EJ 37 [suv c] H = some (.bool (Tg.Sc.fineS c), H) := by
  refine LC_pure rfl Tryz.func37 rfl (Nat.le_of_ble_eq_true rfl) (by decide) (by kernel_rfl) rfl ?_
  have ho := fun H : LH => rgood38_cl (H := H) (l := c.legacy) (k := c.look) (n := c.depth)
  rw [fineS_b]
  generalize (decide (1445 ≤ c.look) && decide (c.look ≤ 1048576) && decide (0 ≤ c.depth) && decide (c.depth ≤ 200)) = b at *
  have e1 : decide (1 ≤ c.table) = decide (0 < c.table) := by rw [decide_eq_decide]; omega
  have e2 : decide (c.table ≤ 1000) = decide (c.table < 1001) := by rw [decide_eq_decide]; omega
  have e3 : decide (c.valid ≤ 10000) = decide (c.valid < 10001) := by rw [decide_eq_decide]; omega
  rw [e1, e2, e3]
  cases b with
  | false => simp [ho]
  | true =>
    by_cases h1 : 0 < c.table
    · by_cases h2 : c.table < 1001
      · by_cases h3 : 0 ≤ c.valid
        · by_cases h4 : c.valid < 10001 <;> simp [ho, h1, h2, h3, h4]
        · simp [ho, h1, h2, h3]
      · simp [ho, h1, h2]
    · simp [ho, h1]
theorem rfine_cl : LC Tryz.prog EJ 12 [suv c] H = some (.bool (Tg.Sc.fineS c), H) := by
  refine LC_pure rfl Tryz.func12 rfl (Nat.le_of_ble_eq_true rfl) (by decide) (by kernel_rfl) rfl ?_
  have ho := fun H : LH => rgood39_cl (H := H) (c := c)
  simp [ho]
theorem setup_cl (h10 : Tab10 H) : LC Tryz.prog EJ 51 [suv c] H = some (str (if Tg.Sc.fineS c = true then Tg.Sc.setupT c else []), H) := by
  refine LC_pure rfl Tryz.func51 rfl (Nat.le_of_ble_eq_true rfl) (by decide) (by kernel_rfl) rfl ?_
  have ho := fun H : LH => fGood_cl (H := H) (c := c)
  cases hb : Tg.Sc.fineS c with
  | false => rw [hb] at ho; simp [ho]
  | true =>
    rw [hb] at ho
    have h' := hb
    rw [fineS_b] at h'
    simp only [Bool.and_eq_true, decide_eq_true_eq] at h'
    obtain ⟨⟨⟨⟨⟨⟨⟨a1, a2⟩, a3⟩, a4⟩, a5⟩, a6⟩, a7⟩, a8⟩ := h'
    clear hb
    obtain ⟨legacy, look, depth, table, valid⟩ := c
    simp only at a1 a2 a3 a4 a5 a6 a7 a8
    have t1 := fun (H : LH) (h : Tab10 H) => scitoa (H := H) (n := look) (by omega) (by omega) h
    have t2 := fun (H : LH) (h : Tab10 H) => scitoa (H := H) (n := depth) (by omega) (by omega) h
    have t3 := fun (H : LH) (h : Tab10 H) => scitoa (H := H) (n := table) (by omega) (by omega) h
    have t4 := fun (H : LH) (h : Tab10 H) => scitoa (H := H) (n := valid) (by omega) (by omega) h
    have n1 := Tg.Sc.itoa_short (n := look) (by omega) (by omega)
    have n2 := Tg.Sc.itoa_short (n := depth) (by omega) (by omega)
    have n3 := Tg.Sc.itoa_short (n := table) (by omega) (by omega)
    have n4 := Tg.Sc.itoa_short (n := valid) (by omega) (by omega)
    unfold Tg.Sc.setupT
    simp only
    generalize Lib.itoa look = x1 at *
    generalize Lib.itoa depth = x2 at *
    generalize Lib.itoa table = x3 at *
    generalize Lib.itoa valid = x4 at *
    have hj : ∀ (H : LH) (w : List UInt8), w.length ≤ 100 → LC Tryz.prog EJ 50 [sl H.n 6 6] (H.new ⟨[str Tg.Sc.kwSetup, str w, str x1, str x2, str x3, str x4], 9, true⟩) = some (str (Tg.Sc.wl [Tg.Sc.kwSetup, w, x1, x2, x3, x4]), H.new ⟨[str Tg.Sc.kwSetup, str w, str x1, str x2, str x3, str x4], 9, true⟩) := fun H w hw =>
      join_new (H := H) (xs := [Tg.Sc.kwSetup, w, x1, x2, x3, x4]) (n := 6) rfl (by decide) (by decide) (by
        have := wl_len (l := [Tg.Sc.kwSetup, w, x1, x2, x3, x4]) (m := 100) (by simp [Tg.Sc.kwSetup]; omega)
        simp at this; omega)
    obtain ⟨Hb, hHb⟩ : ∃ Hb, Hb = H.new ⟨[.bool legacy, .int .i64 look, .int .i64 depth, .int .i64 table, .int .i64 valid], 26, true⟩ := ⟨_, rfl⟩
    have hbn : Hb.n = H.n + 1 := by rw [hHb]; rfl
    have hx : Tab10 Hb := h10.bs (by rw [hHb]; exact ⟨rfl, rfl⟩)
    have gb : Hb.get H.n = some ⟨[.bool legacy, .int .i64 look, .int .i64 depth, .int .i64 table, .int .i64 valid], 26, true⟩ := by rw [hHb]; exact get_new
    have hle : H.le Hb := by rw [hHb]; exact le_refl.new
    have hj := hj Hb
    cases legacy with
    | false =>
      have hj := hj Tg.Sc.kwOrb (by decide)
      simp only [Bool.false_eq_true, if_false]
      generalize Tg.Sc.wl [Tg.Sc.kwSetup, Tg.Sc.kwOrb, x1, x2, x3, x4] = f at *
      unfold Tg.Sc.kwSetup Tg.Sc.kwOrb at hj
      simp [← hHb, gb, ho, t1 _ hx, t2 _ hx, t3 _ hx, t4 _ hx, hj]
      exact hle.new
    | true =>
      have hj := hj Tg.Sc.kwLegacy (by decide)
      simp only [if_true]
      generalize Tg.Sc.wl [Tg.Sc.kwSetup, Tg.Sc.kwLegacy, x1, x2, x3, x4] = f at *
      unfold Tg.Sc.kwSetup Tg.Sc.kwLegacy at hj
      simp [← hHb, gb, ho, t1 _ hx, t2 _ hx, t3 _ hx, t4 _ hx, hj]
      exact hle.new
end
end Go.Proofs.YthgcgjpbhbikaaaGreatDoor.Sc
