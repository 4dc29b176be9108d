/-
  Texts joined, part 6: NuParts, UrNum, UrGood, UrLens, UrParse, HdCode, HdSeq, LgEq, HdRows, HdRef, HdList, HdText, HdParse, HdLives, DoorH, HdSetC, HdSetR, HdSetS.
-/
import Derived.Test.YteckofomnhminaaDoorM5
import Derived.Test.YteckofomnhminaaDoorM1
import Derived.Lib.SlTrimSet
import Derived.Test.YteckofomnhminaaDoorM4
import Derived.MapKept
import Derived.Test.YteckofomnhminaaDoorRows
import Derived.ProofKit
import Derived.WideShapes
import Derived.RowKit
import Derived.ChangeArms
import Derived.LaidMore
import Derived.LaidSub
import Derived.Lib.LaidTab
import Derived.Stop.Joined
import Derived.Shelf.Vars
import Derived.HandedShaped
import Derived.Lay
/-
  Layer 9 (jnum): what a number's text says: the code's way and the reference's way.
-/
set_option linter.unusedSimpArgs false
set_option linter.unusedVariables false
namespace Tg.Nu
open Go
theorem mem_tw {p : UInt8 → Bool} : ∀ {l : List UInt8} {b : UInt8}, b ∈ l.takeWhile p → p b = true
  | [], b, h => by cases h
  | x :: l, b, h => by
    rw [List.takeWhile_cons] at h
    split at h
    · rename_i hx
      rcases List.mem_cons.1 h with rfl | h
      · exact hx
      · exact mem_tw h
    · cases h
theorem any_cons (b : UInt8) (l c : List UInt8) : Lib.indexAny (b :: l) c = if c.contains b then 0 else if Lib.indexAny l c == -1 then -1 else Lib.indexAny l c + 1 := rfl
theorem byte_cons (b : UInt8) (l : List UInt8) (c : UInt8) : Lib.indexByte (b :: l) c = if b == c then 0 else if Lib.indexByte l c == -1 then -1 else Lib.indexByte l c + 1 := rfl
def digs (l : List UInt8) : Prop := ∀ b ∈ l, isD b = true
def eoT : Option (UInt8 × List UInt8 × List UInt8) → List UInt8
  | none => []
  | some (e, sg, ep) => e :: (sg ++ ep)
def foT : Option (List UInt8) → List UInt8
  | none => []
  | some f => 46 :: f
structure Num where
  neg : Bool
  ip : List UInt8
  f : Option (List UInt8)
  e : Option (UInt8 × List UInt8 × List UInt8)
def OkE : Option (UInt8 × List UInt8 × List UInt8) → Prop
  | none => True
  | some (c, sg, ep) => isE c = true ∧ (sg = [] ∨ sg = [43] ∨ sg = [45]) ∧ digs ep ∧ ep ≠ []
def OkF : Option (List UInt8) → Prop
  | none => True
  | some f => digs f
structure Num.Ok (n : Num) : Prop where
  ip : digs n.ip
  ip0 : n.ip ≠ []
  f : OkF n.f
  e : OkE n.e
def Num.head (n : Num) : List UInt8 := n.ip ++ foT n.f
def Num.body (n : Num) : List UInt8 := n.head ++ eoT n.e
def Num.text (n : Num) : List UInt8 := (if n.neg then [45] else []) ++ n.body
theorem digs_take (l : List UInt8) : digs (l.takeWhile isD) := fun b hb => mem_tw hb
theorem digs_all {l : List UInt8} (h : (l.dropWhile isD).isEmpty = true) : digs l := by
  intro b hb
  rw [List.isEmpty_iff] at h
  have := List.takeWhile_append_dropWhile (p := isD) (l := l)
  rw [h, List.append_nil] at this
  rw [← this] at hb
  exact mem_tw hb
theorem all8_of {l : List UInt8} (h : all8 l = true) : digs l ∧ l ≠ [] := by
  unfold all8 at h
  rw [Bool.and_eq_true] at h
  exact ⟨digs_all h.2, fun e => by rw [e] at h; exact absurd h.1 (by decide)⟩
theorem B6_of {r : List UInt8} (h : B6 r = true) : ∃ sg ep, r = sg ++ ep ∧ (sg = [] ∨ sg = [43] ∨ sg = [45]) ∧ digs ep ∧ ep ≠ [] := by
  unfold B6 at h
  split at h
  · cases h
  · rename_i c q
    split at h
    · rename_i hc
      obtain ⟨h1, h2⟩ := all8_of h
      rcases hc with rfl | rfl
      · exact ⟨[43], q, rfl, .inr (.inl rfl), h1, h2⟩
      · exact ⟨[45], q, rfl, .inr (.inr rfl), h1, h2⟩
    · obtain ⟨h1, h2⟩ := all8_of h
      exact ⟨[], c :: q, rfl, .inl rfl, h1, h2⟩
theorem B2_of {u : List UInt8} (h : B2 u = true) : ∃ e, u = eoT e ∧ OkE e := by
  unfold B2 at h
  split at h
  · exact ⟨none, rfl, trivial⟩
  · rename_i c r
    rw [Bool.and_eq_true] at h
    obtain ⟨sg, ep, rfl, h2, h3, h4⟩ := B6_of h.2
    exact ⟨some (c, sg, ep), rfl, h.1, h2, h3, h4⟩
theorem B1_of {v : List UInt8} (h : B1 v = true) : ∃ f e, v = foT f ++ eoT e ∧ OkF f ∧ OkE e := by
  unfold B1 at h
  split at h
  · exact ⟨none, none, rfl, trivial, trivial⟩
  · rename_i c r
    split at h
    · rename_i hc
      subst hc
      rw [Bool.and_eq_true] at h
      obtain ⟨e, he, hok⟩ := B2_of h.2
      refine ⟨some (r.takeWhile isD), e, ?_, digs_take r, hok⟩
      show 46 :: r = 46 :: (r.takeWhile isD) ++ eoT e
      rw [← he, List.cons_append, List.takeWhile_append_dropWhile]
    · obtain ⟨e, he, hok⟩ := B2_of h
      exact ⟨none, e, he, trivial, hok⟩
theorem acc1_of {u : List UInt8} (h : acc 1 u = true) : ∃ ip v, u = ip ++ v ∧ digs ip ∧ ip ≠ [] ∧ B1 v = true := by
  cases u with
  | nil => cases h
  | cons c r =>
    rw [acc_cons] at h
    by_cases h48 : c = 48
    · subst h48
      rw [show nx 1 48 = 2 from rfl, acc2] at h
      exact ⟨[48], r, rfl, fun b hb => by rw [List.mem_singleton.1 hb]; rfl, by simp, h⟩
    · cases hc : isD c with
      | true =>
        rw [show nx 1 c = 3 by simp [nx, hc, h48], acc3] at h
        refine ⟨c :: r.takeWhile isD, r.dropWhile isD, ?_, ?_, by simp, h⟩
        · rw [List.cons_append, List.takeWhile_append_dropWhile]
        · intro b hb
          rcases List.mem_cons.1 hb with rfl | hb
          · exact hc
          · exact mem_tw hb
      | false => rw [show nx 1 c = 9 by simp [nx, hc, h48], acc9] at h; cases h
theorem text_of {s : List UInt8} (h : acc 0 s = true) : ∃ n : Num, s = n.text ∧ n.Ok := by
  cases s with
  | nil => cases h
  | cons c r =>
    by_cases h45 : c = 45
    · subst h45
      rw [acc_cons, show nx 0 45 = 1 from rfl] at h
      obtain ⟨ip, v, rfl, h1, h2, h3⟩ := acc1_of h
      obtain ⟨f, e, rfl, h4, h5⟩ := B1_of h3
      exact ⟨⟨true, ip, f, e⟩, by simp [Num.text, Num.body, Num.head], ⟨h1, h2, h4, h5⟩⟩
    · have h' : acc 1 (c :: r) = true := by
        rw [acc_cons] at h ⊢
        rw [show nx 1 c = nx 0 c by simp [nx, h45]]; exact h
      obtain ⟨ip, v, e0, h1, h2, h3⟩ := acc1_of h'
      obtain ⟨f, e, rfl, h4, h5⟩ := B1_of h3
      exact ⟨⟨false, ip, f, e⟩, by simp [Num.text, Num.body, Num.head, e0], ⟨h1, h2, h4, h5⟩⟩
/-! ### the answer -/
def dv (n : Nat) (l : List UInt8) : Nat := l.foldl (fun n b => 10 * n + (b.toNat - 48)) n
def nz (b : UInt8) : Bool := b == 48
def lead (l : List UInt8) : List UInt8 := l.dropWhile nz
def trail (l : List UInt8) : List UInt8 := (l.reverse.dropWhile nz).reverse
def cap40 (n : Nat) : Nat := if 1099511627776 < n then 1099511627776 else n
def Num.fp (n : Num) : List UInt8 := match n.f with | none => [] | some f => f
def Num.pw (n : Num) : Int := match n.e with
  | none => 0
  | some (_, sg, ep) => if sg = [45] then -(cap40 (dv 0 ep) : Int) else cap40 (dv 0 ep)
def Num.all (n : Num) : List UInt8 := lead (n.ip ++ n.fp)
def Num.short (n : Num) : List UInt8 := trail n.all
def clamp (n lo hi : Int) : Int := if n < lo then lo else if hi < n then hi else n
def Num.exp (n : Num) : Int := if n.short = [] then 0 else clamp (n.pw - n.fp.length + (n.all.length - n.short.length)) (-9999) 9999
/-! ### the code's way -/
theorem D_ne {b : UInt8} (h : isD b = true) : b ≠ 45 ∧ b ≠ 43 ∧ b ≠ 46 ∧ b ≠ 101 ∧ b ≠ 69 := by
  obtain ⟨h1, h2, h3, h4⟩ := D_not b h
  refine ⟨h1, h2, h3, ?_, ?_⟩
  · rintro rfl; revert h4; decide
  · rintro rfl; revert h4; decide
theorem Num.Ok.cons {n : Num} (h : n.Ok) : ∃ c r, n.ip = c :: r ∧ isD c = true := by
  cases hip : n.ip with
  | nil => exact absurd hip h.ip0
  | cons c r => exact ⟨c, r, rfl, h.ip c (by rw [hip]; simp)⟩
theorem text_true {n : Num} (h : n.neg = true) : n.text = 45 :: n.body := by unfold Num.text; rw [h]; rfl
theorem text_false {n : Num} (h : n.neg = false) : n.text = n.body := by unfold Num.text; rw [h]; rfl
theorem body_cons {n : Num} (h : n.Ok) : ∃ c r, n.body = c :: r ∧ isD c = true := by
  obtain ⟨c, r, e, hc⟩ := h.cons
  exact ⟨c, r ++ foT n.f ++ eoT n.e, by unfold Num.body Num.head; rw [e]; simp, hc⟩
theorem trim_text {n : Num} (h : n.Ok) : Lib.trimPrefix n.text [45] = n.body := by
  unfold Lib.trimPrefix Lib.hasPrefix
  cases hn : n.neg with
  | true => rw [text_true hn]; simp
  | false =>
    rw [text_false hn]
    obtain ⟨c, r, e, hc⟩ := body_cons h
    have := (D_ne hc).1
    rw [e, if_neg]
    simp; exact fun h => this h.symm
theorem len_text {n : Num} : n.text.length = n.body.length + (if n.neg = true then 1 else 0) := by
  cases hn : n.neg with
  | true => rw [text_true hn]; rfl
  | false => rw [text_false hn]; rfl
theorem any_skip (l r : List UInt8) (h : ∀ b ∈ l, b ≠ 101 ∧ b ≠ 69) : Lib.indexAny (l ++ r) [101, 69] = if Lib.indexAny r [101, 69] = -1 then -1 else Lib.indexAny r [101, 69] + l.length := by
  induction l with
  | nil => simp
  | cons b l ih =>
    obtain ⟨h1, h2⟩ := h b (by simp)
    rw [List.cons_append, any_cons, ih (fun b hb => h b (by simp [hb]))]
    have hc : ([101, 69] : List UInt8).contains b = false := by simp [h1, h2]
    rw [hc]
    have hge := Lib.indexAny_ge [101, 69] r
    by_cases hr : Lib.indexAny r [101, 69] = -1
    · simp [hr]
    · have h3 : Lib.indexAny r [101, 69] + (l.length : Int) ≠ -1 := by omega
      simp [hr, h3]; omega
theorem head_ne {n : Num} (h : n.Ok) : ∀ b ∈ n.head, b ≠ 101 ∧ b ≠ 69 := by
  intro b hb
  unfold Num.head at hb
  rcases List.mem_append.1 hb with hb | hb
  · obtain ⟨_, _, _, h4, h5⟩ := D_ne (h.ip b hb); exact ⟨h4, h5⟩
  · cases hf : n.f with
    | none => rw [hf] at hb; cases hb
    | some f =>
      rw [hf] at hb
      rcases List.mem_cons.1 hb with rfl | hb
      · decide
      · have := h.f; rw [hf] at this
        obtain ⟨_, _, _, h4, h5⟩ := D_ne (this b hb); exact ⟨h4, h5⟩
theorem any_body {n : Num} (h : n.Ok) : Lib.indexAny n.body [101, 69] = match n.e with | none => -1 | some _ => (n.head.length : Int) := by
  unfold Num.body
  rw [any_skip _ _ (head_ne h)]
  cases he : n.e with
  | none => rfl
  | some x =>
    obtain ⟨c, sg, ep⟩ := x
    have hok := h.e
    rw [he] at hok
    have hc : c = 101 ∨ c = 69 := by have := hok.1; simpa [isE] using this
    have h0 : Lib.indexAny (eoT (some (c, sg, ep))) [101, 69] = 0 := by
      show Lib.indexAny (c :: (sg ++ ep)) [101, 69] = 0
      unfold Lib.indexAny
      rw [if_pos]
      rcases hc with rfl | rfl <;> rfl
    rw [h0]; simp
theorem digs_head {l : List UInt8} (h : digs l) (h0 : l ≠ []) : ∃ c r, l = c :: r ∧ isD c = true := by
  cases l with
  | nil => exact absurd rfl h0
  | cons c r => exact ⟨c, r, rfl, h c (by simp)⟩
theorem trim_sign {c : UInt8} {sg ep : List UInt8} (h : OkE (some (c, sg, ep))) : Lib.trimLeftS (sg ++ ep) [43, 45] = ep := by
  obtain ⟨_, hs, hd, h0⟩ := h
  obtain ⟨d, r, rfl, hc⟩ := digs_head hd h0
  obtain ⟨h1, h2, _⟩ := D_ne hc
  have hx : ([43, 45] : List UInt8).contains d = false := by simp [h1, h2]
  unfold Lib.trimLeftS
  rcases hs with rfl | rfl | rfl
  · rw [List.nil_append, List.dropWhile_cons, if_neg (by rw [hx]; simp)]
  · rw [List.singleton_append, List.dropWhile_cons, if_pos (by decide), List.dropWhile_cons, if_neg (by rw [hx]; simp)]
  · rw [List.singleton_append, List.dropWhile_cons, if_pos (by decide), List.dropWhile_cons, if_neg (by rw [hx]; simp)]
theorem body_take {n : Num} : n.body.take n.head.length = n.head := by unfold Num.body; simp
theorem body_drop {n : Num} {c : UInt8} {sg ep : List UInt8} (he : n.e = some (c, sg, ep)) : n.body.drop (n.head.length + 1) = sg ++ ep := by
  unfold Num.body
  rw [he, ← List.drop_drop]
  simp [eoT]
theorem body_sign {n : Num} {c : UInt8} {sg ep : List UInt8} (h : n.Ok) (he : n.e = some (c, sg, ep)) : (n.body[n.head.length + 1]? = some 45) ↔ sg = [45] := by
  have e1 : n.body[n.head.length + 1]? = (sg ++ ep)[0]? := by rw [← body_drop he]; simp
  have hok := h.e
  rw [he] at hok
  obtain ⟨_, hs, hd, h0⟩ := hok
  obtain ⟨d, r, rfl, hc⟩ := digs_head hd h0
  rw [e1]
  rcases hs with rfl | rfl | rfl
  · simp; exact (D_ne hc).1
  · simp
  · simp
theorem byte_skip (l r : List UInt8) (h : ∀ b ∈ l, b ≠ 46) : Lib.indexByte (l ++ r) 46 = if Lib.indexByte r 46 = -1 then -1 else Lib.indexByte r 46 + l.length := by
  induction l with
  | nil => simp
  | cons b l ih =>
    have h1 := h b (by simp)
    rw [List.cons_append, byte_cons, ih (fun b hb => h b (by simp [hb]))]
    have hc : (b == 46) = false := by simp [h1]
    rw [hc]
    have hge := Lib.indexByte_ge r 46
    by_cases hr : Lib.indexByte r 46 = -1
    · simp [hr]
    · have h3 : Lib.indexByte r 46 + (l.length : Int) ≠ -1 := by omega
      simp [hr, h3]; omega
theorem byte_head {n : Num} (h : n.Ok) : Lib.indexByte n.head 46 = match n.f with | none => -1 | some _ => (n.ip.length : Int) := by
  unfold Num.head
  rw [byte_skip _ _ (fun b hb => (D_ne (h.ip b hb)).2.2.1)]
  cases hf : n.f with
  | none => rfl
  | some f => simp [foT, Lib.indexByte]
theorem contains_nz (b : UInt8) : ([48] : List UInt8).contains b = nz b := by simp [nz]; rw [Bool.eq_iff_iff]; simp
theorem trimL_all (l : List UInt8) : Lib.trimLeftS l [48] = lead l := by
  unfold Lib.trimLeftS lead
  congr 1; funext b; exact contains_nz b
theorem trimR_short (l : List UInt8) : Lib.trimRightS l [48] = trail l := by
  unfold Lib.trimRightS trail
  congr 2; funext b; exact contains_nz b
theorem ascii_text {n : Num} (h : n.Ok) : ∀ b ∈ n.body, b.toNat < 128 := by
  have hd : ∀ b, isD b = true → b.toNat < 128 := by
    intro b hb
    simp only [isD, Bool.and_eq_true, decide_eq_true_eq] at hb
    omega
  intro b hb
  unfold Num.body Num.head at hb
  rcases List.mem_append.1 hb with hb | hb
  · rcases List.mem_append.1 hb with hb | hb
    · exact hd b (h.ip b hb)
    · cases hf : n.f with
      | none => rw [hf] at hb; cases hb
      | some f =>
        rw [hf] at hb
        rcases List.mem_cons.1 hb with rfl | hb
        · decide
        · have := h.f; rw [hf] at this; exact hd b (this b hb)
  · cases he : n.e with
    | none => rw [he] at hb; cases hb
    | some x =>
      obtain ⟨c, sg, ep⟩ := x
      have hok := h.e
      rw [he] at hb hok
      obtain ⟨h1, h2, h3, h4⟩ := hok
      rcases List.mem_cons.1 hb with rfl | hb
      · have hc : b = 101 ∨ b = 69 := by simpa [isE] using h1
        rcases hc with rfl | rfl <;> decide
      · rcases List.mem_append.1 hb with hb | hb
        · rcases h2 with rfl | rfl | rfl
          · cases hb
          · rw [List.mem_singleton.1 hb]; decide
          · rw [List.mem_singleton.1 hb]; decide
        · exact hd b (h3 b hb)
/-! ### digits -/
theorem dv_append (n : Nat) (l r : List UInt8) : dv n (l ++ r) = dv (dv n l) r := by unfold dv; rw [List.foldl_append]
theorem dv_take (l : List UInt8) {i : Nat} (h : i < l.length) : dv 0 (l.take (i + 1)) = 10 * dv 0 (l.take i) + (l[i].toNat - 48) := by
  rw [List.take_succ_eq_append_getElem h, dv_append]; rfl
theorem dv_ge (l : List UInt8) : ∀ n, n ≤ dv n l := by
  induction l with
  | nil => intro n; exact Nat.le_refl n
  | cons b l ih => intro n; exact Nat.le_trans (by omega) (ih (10 * n + (b.toNat - 48)))
theorem dv_mono (l : List UInt8) (i : Nat) : dv 0 (l.take i) ≤ dv 0 l := by
  have := dv_append 0 (l.take i) (l.drop i)
  rw [List.take_append_drop] at this
  rw [this]; exact dv_ge _ _
def dC (l : List UInt8) : Nat := if dv 0 l ≤ 9007199254740991 then dv 0 l else 9007199254740991
theorem dC_cap (l : List UInt8) : min (dC l) 1099511627776 = cap40 (dv 0 l) := by unfold dC cap40; split <;> split <;> omega
end Tg.Nu
/-! ### the reference's way -/
namespace Tg.Nu
def rstep (x : Bool × List UInt8 × Int) (b : UInt8) : Bool × List UInt8 × Int :=
  if b = 46 then (true, x.2.1, x.2.2) else (x.1, if x.2.1 ≠ [] ∨ b ≠ 48 then x.2.1 ++ [b] else x.2.1, if x.1 then x.2.2 - 1 else x.2.2)
def rfold (l : List UInt8) : Bool × List UInt8 × Int := l.foldl rstep (false, [], 0)
def cat (d l : List UInt8) : List UInt8 := if d ≠ [] then d ++ l else lead l
theorem cat_cons (d l : List UInt8) (b : UInt8) : cat (if d ≠ [] ∨ b ≠ 48 then d ++ [b] else d) l = cat d (b :: l) := by
  unfold cat
  by_cases hd : d = []
  · subst hd
    by_cases hb : b = 48
    · subst hb; simp [lead, nz]
    · simp [hb, lead, nz]
  · simp [hd]
theorem rfold_run (l : List UInt8) (h : ∀ b ∈ l, b ≠ 46) : ∀ (pt : Bool) (d : List UInt8) (e : Int), l.foldl rstep (pt, d, e) = (pt, if l = [] then d else cat d l, if pt then e - l.length else e) := by
  induction l with
  | nil => intro pt d e; cases pt <;> simp
  | cons b l ih =>
    intro pt d e
    have hb := h b (by simp)
    have e1 : rstep (pt, d, e) b = (pt, if d ≠ [] ∨ b ≠ 48 then d ++ [b] else d, if pt then e - 1 else e) := by unfold rstep; rw [if_neg hb]
    rw [List.foldl_cons, e1, ih (fun b hb => h b (by simp [hb]))]
    by_cases hl : l = []
    · subst hl
      have := cat_cons d [] b
      unfold cat at this
      cases pt <;> by_cases hd : d = [] <;> by_cases hb48 : b = 48 <;> simp_all [cat, lead, nz]
    · rw [if_neg hl, cat_cons d l b, if_neg (show ¬ (b :: l = []) by simp)]
      cases pt <;> simp; omega
theorem lead_app (a b : List UInt8) : lead (a ++ b) = if lead a ≠ [] then lead a ++ b else lead b := by
  unfold lead
  induction a with
  | nil => simp
  | cons x a ih =>
    rw [List.cons_append, List.dropWhile_cons, List.dropWhile_cons]
    by_cases hx : nz x = true
    · rw [if_pos hx, if_pos hx]; exact ih
    · rw [if_neg hx, if_neg hx]; simp
theorem rfold_head {n : Num} (h : n.Ok) : (rfold n.head).2 = (n.all, -(n.fp.length : Int)) := by
  have h46 : ∀ b ∈ n.ip, b ≠ 46 := fun b hb => (D_ne (h.ip b hb)).2.2.1
  unfold rfold Num.head
  rw [List.foldl_append, rfold_run _ h46, if_neg h.ip0]
  have hc : cat [] n.ip = lead n.ip := by simp [cat]
  rw [hc]
  unfold Num.all Num.fp
  cases hf : n.f with
  | none => simp [foT]
  | some f =>
    have hF := h.f
    rw [hf] at hF
    have hf46 : ∀ b ∈ f, b ≠ 46 := fun b hb => (D_ne (hF b hb)).2.2.1
    show (f.foldl rstep (rstep (false, lead n.ip, 0) 46)).2 = _
    have e1 : rstep (false, lead n.ip, 0) 46 = (true, lead n.ip, 0) := rfl
    rw [e1, rfold_run _ hf46]
    dsimp only
    by_cases hf0 : f = []
    · subst hf0; simp
    · rw [if_neg hf0, lead_app]
      unfold cat
      simp
theorem rfold_take (l : List UInt8) {i : Nat} (h : i < l.length) : rfold (l.take (i + 1)) = rstep (rfold (l.take i)) l[i] := by
  unfold rfold
  rw [List.take_succ_eq_append_getElem h, List.foldl_append]; rfl
theorem rfold_bound (l : List UInt8) : (rfold l).2.1.length ≤ l.length ∧ -(l.length : Int) ≤ (rfold l).2.2 ∧ (rfold l).2.2 ≤ 0 := by
  have : ∀ (l : List UInt8) (x : Bool × List UInt8 × Int), (l.foldl rstep x).2.1.length ≤ x.2.1.length + l.length ∧ x.2.2 - l.length ≤ (l.foldl rstep x).2.2 ∧ (l.foldl rstep x).2.2 ≤ x.2.2 := by
    intro l
    induction l with
    | nil => intro x; simp
    | cons b l ih =>
      intro x
      have hi := ih (rstep x b)
      have h1 : (rstep x b).2.1.length ≤ x.2.1.length + 1 ∧ x.2.2 - 1 ≤ (rstep x b).2.2 ∧ (rstep x b).2.2 ≤ x.2.2 := by
        unfold rstep
        split
        · simp; omega
        · refine ⟨?_, ?_, ?_⟩
          · dsimp only; split <;> simp
          · dsimp only; split <;> omega
          · dsimp only; split <;> omega
      rw [List.foldl_cons, List.length_cons]
      omega
  have := this l (false, [], 0)
  simp at this
  exact ⟨this.1, by unfold rfold; omega, this.2.2⟩
/-- a digit less at the end -/
theorem trail_last (l : List UInt8) (h : l ≠ []) (hz : l.getLast h = 48) : trail l = trail l.dropLast := by
  unfold trail
  congr 1
  have e : l.reverse = 48 :: l.dropLast.reverse := by
    conv => lhs; rw [← List.dropLast_concat_getLast h, hz]
    simp
  rw [e, List.dropWhile_cons, if_pos (by rfl)]
theorem trail_stay (l : List UInt8) (h : l = [] ∨ ∃ h : l ≠ [], l.getLast h ≠ 48) : trail l = l := by
  unfold trail
  rcases h with rfl | ⟨h, hz⟩
  · rfl
  · have e : l.reverse = l.getLast h :: l.dropLast.reverse := by
      conv => lhs; rw [← List.dropLast_concat_getLast h]
      simp
    rw [e, List.dropWhile_cons, if_neg (by simpa [nz] using hz), ← e, List.reverse_reverse]
end Tg.Nu
/-
  Layer 26 (url): what the code's functions come to: ports, and what stands ahead of a byte.
-/
set_option linter.unusedSimpArgs false
set_option linter.unusedVariables false
set_option maxRecDepth 100000
namespace Go.Proofs.YteckofomnhminaaDoor
open Go.Lg Go.Tg
section
open Tg.Nu
variable {H : LH} {b : UInt8} {s t : List UInt8}
theorem digit_l : LC Tryd.prog EJ 121 [.int .u8 b.toNat] H = some (.bool (isD b), H) := Digit_cl
theorem digits_l (hs : s.length ≤ 1048576) : LC Tryd.prog EJ 113 [str s] H = some (.int .i64 ((s.takeWhile isD).length : Nat), H) := by
  refine LC_pure rfl Tryd.func113 rfl (Nat.le_of_ble_eq_true rfl) (by decide) (by kernel_rfl) rfl ?_
  simp
  refine loop_ind (fun (i : Nat) fr' H' => fr' 0 = str s ∧ fr' 3 = .int .i64 i ∧ i ≤ s.length ∧ (s.takeWhile isD).length = i + ((s.drop i).takeWhile isD).length ∧ H' = H) (fun i => s.length - i) 0 (by simp) ?_
  rintro i fr' H' ⟨h0, h3, hi, hr, rfl⟩ ih
  by_cases hlt : i < s.length
  · have hd := List.drop_eq_getElem_cons hlt
    rw [hd, List.takeWhile_cons] at hr
    cases hc : isD s[i] with
    | true =>
      rw [hc, if_pos rfl, List.length_cons] at hr
      have hw : IntKind.i64.wrap ((i : Int) + 1) = ((i + 1 : Nat) : Int) := by rw [wrap64_in (by omega) (by omega)]; omega
      simp [h0, h3, hlt, digit_l, at_in hlt, hc, hw]
      exact ih (i + 1) _ _ (by omega) ⟨by simp [h0], by simp, hlt, by omega, rfl⟩
    | false =>
      rw [hc, if_neg (by simp)] at hr
      simp [h0, h3, hlt, digit_l, at_in hlt, hc]
      simp at hr; omega
  · rw [List.drop_eq_nil_of_le (by omega)] at hr
    simp [h0, h3, hlt]
    simp at hr; omega
theorem value_l (hd : digs s) (hs : s.length ≤ 1048576) : LC Tryd.prog EJ 114 [str s] H = some (.tuple #[.int .i64 (dC s : Nat), .bool (decide (dv 0 s ≤ 9007199254740991))], H) := by
  refine LC_pure rfl Tryd.func114 rfl (Nat.le_of_ble_eq_true rfl) (by decide) (by kernel_rfl) rfl ?_
  simp
  refine loop_ind (fun (i : Nat) fr' H' => fr' 0 = str s ∧ fr' 4 = .int .i64 (dv 0 (s.take i) : Nat) ∧ fr' 7 = .int .i64 s.length ∧ fr' 8 = .int .i64 i ∧ i ≤ s.length ∧ dv 0 (s.take i) ≤ 9007199254740991 ∧ H' = H) (fun i => s.length - i) 0 (by simp [dv]) ?_
  rintro i fr' H' ⟨h0, h4, h7, h8, hi, hm, rfl⟩ ih
  by_cases hlt : i < s.length
  · have hD := hd s[i] (List.getElem_mem hlt)
    simp only [isD, Bool.and_eq_true, decide_eq_true_eq] at hD
    have ht := dv_take s hlt
    have hmono := dv_mono s (i + 1)
    have hw1 : IntKind.i64.wrap ((dv 0 (s.take i) : Int) * 10) = (dv 0 (s.take i) : Int) * 10 := by rw [wrap64_in (by omega) (by omega)]
    have hw2 : IntKind.u8.wrap ((s[i].toNat : Int) - 48) = ((s[i].toNat - 48 : Nat) : Int) := by
      have := s[i].toNat_lt
      rw [show IntKind.u8.wrap ((s[i].toNat : Int) - 48) = ((s[i].toNat : Int) - 48) % 256 from IntKind.wrap_u8 _]; omega
    have hw3 : IntKind.i64.wrap ((s[i].toNat - 48 : Nat) : Int) = ((s[i].toNat - 48 : Nat) : Int) := by rw [wrap64_in (by omega) (by omega)]
    have hw4 : IntKind.i64.wrap ((dv 0 (s.take i) : Int) * 10 + ((s[i].toNat - 48 : Nat) : Int)) = ((dv 0 (s.take (i + 1)) : Nat) : Int) := by rw [wrap64_in (by omega) (by omega)]; omega
    have hw : IntKind.i64.wrap ((i : Int) + 1) = ((i + 1 : Nat) : Int) := by rw [wrap64_in (by omega) (by omega)]; omega
    by_cases hbig : dv 0 (s.take (i + 1)) ≤ 9007199254740991
    · have f := eq_false (show ¬ 9007199254740991 < ((dv 0 (s.take (i + 1)) : Nat) : Int) by omega)
      simp [h0, h4, h7, h8, hlt, at_in hlt, hw1, hw2, hw3, hw4, hw, f]
      exact ih (i + 1) _ _ (by omega) ⟨by simp [h0], by simp, by simp [h7], by simp, hlt, hbig, rfl⟩
    · have f := eq_true (show 9007199254740991 < ((dv 0 (s.take (i + 1)) : Nat) : Int) by omega)
      have e1 : ¬ dv 0 s ≤ 9007199254740991 := by omega
      have e2 : dC s = 9007199254740991 := by unfold dC; rw [if_neg e1]
      simp [h0, h4, h7, h8, hlt, at_in hlt, hw1, hw2, hw3, hw4, hw, f, e1, e2]
  · have e : s.take i = s := List.take_of_length_le (by omega)
    rw [e] at hm h4
    have e2 : dC s = dv 0 s := by unfold dC; rw [if_pos hm]
    simp [h0, h4, h7, h8, hlt, hm, e2]
/-- strings.Cut at one byte -/
theorem cutlite_some {c : UInt8} {o : Nat} (h : Lib.indexByte s c = o) (hs : s.length ≤ 9223372036854775806) : LC Tryd.prog EJ 100 [str s, str [c]] H = some (.tuple #[str (s.take o), str (s.drop (o + 1)), .bool true], H) := by
  refine LC_pure rfl Tryd.func100 rfl (Nat.le_of_ble_eq_true rfl) (by decide) (by kernel_rfl) rfl ?_
  have hlt : o < s.length := (List.getElem?_eq_some_iff.1 (Lib.indexByte_some h).1).1
  have hw : IntKind.i64.wrap ((o : Int) + 1) = (o : Int) + 1 := by rw [wrap64_in (by omega) (by omega)]
  have e1 : ((o : Int) + 1).toNat = o + 1 := by omega
  have f1 := eq_true (show (o : Int) ≤ s.length by omega)
  have f2 := eq_true (show (o : Int) + 1 ≤ s.length by omega)
  have f3 := eq_true (show (0 : Int) ≤ (o : Int) + 1 by omega)
  simp [h, hw, e1, f1, f2, f3]
theorem cutlite_none {c : UInt8} (h : Lib.indexByte s c = -1) : LC Tryd.prog EJ 100 [str s, str [c]] H = some (.tuple #[str s, str [], .bool false], H) := by
  refine LC_pure rfl Tryd.func100 rfl (Nat.le_of_ble_eq_true rfl) (by decide) (by kernel_rfl) rfl ?_
  simp [h]
theorem scut_some {c : UInt8} {o : Nat} (h : Lib.indexByte s c = o) (hs : s.length ≤ 9223372036854775806) : LC Tryd.prog EJ 63 [str s, str [c]] H = some (.tuple #[str (s.take o), str (s.drop (o + 1)), .bool true], H) := by
  refine LC_pure rfl Tryd.func63 rfl (Nat.le_of_ble_eq_true rfl) (by decide) (by kernel_rfl) rfl ?_
  simp [cutlite_some h hs]
theorem scut_none {c : UInt8} (h : Lib.indexByte s c = -1) : LC Tryd.prog EJ 63 [str s, str [c]] H = some (.tuple #[str s, str [], .bool false], H) := by
  refine LC_pure rfl Tryd.func63 rfl (Nat.le_of_ble_eq_true rfl) (by decide) (by kernel_rfl) rfl ?_
  simp [cutlite_none h]

theorem tw_all : ∀ {s : List UInt8}, s.all isD = true → s.takeWhile isD = s
  | [], _ => rfl
  | b :: r, h => by
    simp only [List.all_cons, Bool.and_eq_true] at h
    rw [List.takeWhile_cons, if_pos h.1, tw_all h.2]
theorem tw_lt : ∀ {s : List UInt8}, s.all isD = false → (s.takeWhile isD).length < s.length
  | [], h => by simp at h
  | b :: r, h => by
    rw [List.takeWhile_cons]
    by_cases hb : isD b = true
    · rw [if_pos hb]
      simp only [List.all_cons, hb, Bool.true_and] at h
      have := tw_lt h
      simp; omega
    · rw [if_neg hb]; simp
theorem dparse_cl (hs : s.length ≤ 1048576) : LC Tryd.prog EJ 133 [str s] H = some (.tuple #[.int .i64 (if s = [] ∨ s.all isD = false then 0 else if 9007199254740991 < dv 0 s then 0 else (dv 0 s : Nat)), .int .i64 (if s = [] ∨ s.all isD = false then 2 else if 9007199254740991 < dv 0 s then 9 else 0)], H) := by
  have key : LC Tryd.prog EJ 155 [str s] H = some (.tuple #[.int .i64 (if s = [] ∨ s.all isD = false then 0 else if 9007199254740991 < dv 0 s then 0 else (dv 0 s : Nat)), .int .i64 (if s = [] ∨ s.all isD = false then 2 else if 9007199254740991 < dv 0 s then 9 else 0)], H) := by
    refine LC_pure rfl Tryd.func155 rfl (Nat.le_of_ble_eq_true rfl) (by decide) (by kernel_rfl) rfl ?_
    have h1 := fun H : LH => digits_l (H := H) hs
    by_cases h0 : s = []
    · subst h0; simp
    cases ha : s.all isD with
    | false =>
      have hlt := tw_lt ha
      have q := eq_true (show ((s.takeWhile isD).length : Int) < (s.length : Int) by omega)
      rw [if_pos (.inr rfl), if_pos (.inr rfl)]
      generalize (s.takeWhile isD).length = n at *
      simp [h0, h1, q]
    | true =>
      have e := tw_all ha
      have hd : digs s := fun b hb => List.all_eq_true.mp ha b hb
      have h2 := fun H : LH => value_l (H := H) hd hs
      rw [e] at h1
      by_cases hbig : 9007199254740991 < dv 0 s
      · have hn : ¬ dv 0 s ≤ 9007199254740991 := by omega
        rw [decide_eq_false hn] at h2
        simp [h0, h1, h2, hbig]
      · have hn : dv 0 s ≤ 9007199254740991 := by omega
        have hC : dC s = dv 0 s := by unfold dC; rw [if_pos hn]
        rw [decide_eq_true hn, hC] at h2
        simp [h0, h1, h2, hbig]
  refine LC_pure rfl Tryd.func133 rfl (Nat.le_of_ble_eq_true rfl) (by decide) (by kernel_rfl) rfl ?_
  simp [key]
theorem number_cl (hs : s.length ≤ 1048576) : LC Tryd.prog EJ 93 [str s, str t] H = some (.tuple #[.int .i64 (Tg.Ur.number s t).1, .int .i64 (Tg.Ur.number s t).2], H) := by
  refine LC_pure rfl Tryd.func93 rfl (Nat.le_of_ble_eq_true rfl) (by decide) (by kernel_rfl) rfl ?_
  have h1 := fun H : LH => dparse_cl (H := H) hs
  have ho := fun H : LH => own_l (H := H) (s := t)
  unfold Tg.Ur.number
  by_cases h0 : s = []
  · subst h0; simp
  rw [if_neg h0]
  have hisd : Tg.Ur.isD = isD := rfl
  have hdv : Tg.Ur.dval s = dv 0 s := rfl
  rw [hisd, hdv]
  cases ha : s.all isD with
  | false => simp [ha] at h1; simp [h0, h1]
  | true =>
    simp only [ha, h0, or_false, Bool.true_eq_false, if_false] at h1
    rw [if_neg (by simp)]
    by_cases hbig : 9007199254740991 < dv 0 s
    · simp only [if_pos hbig] at h1 ⊢
      simp [h0, h1]
    · simp only [if_neg hbig] at h1 ⊢
      generalize dv 0 s = n at *
      by_cases hz : n = 0
      · subst hz
        simp [h0, h1]
      · have qz := eq_false (show ¬ (n : Int) = 0 by omega)
        by_cases hp : 65535 < n
        · have qp := eq_true (show (65535 : Int) < (n : Int) by omega)
          rw [if_pos (.inr hp)]
          simp [h0, h1, hz, qp]
        · have qp := eq_false (show ¬ (65535 : Int) < (n : Int) by omega)
          rw [if_neg (by omega)]
          by_cases hO : (n : Int) = Tg.Ur.own t
          · have qO := eq_true hO
            rw [if_pos hO]
            simp [h0, h1, hz, qp, ho, qO]
          · have qO := eq_false hO
            rw [if_neg hO]
            simp [h0, h1, hz, qp, ho, qO]
theorem any_upto (s p : List UInt8) : (Lib.indexAny s p = -1 ∧ Tg.Ur.upto p s = s.length) ∨ (Lib.indexAny s p = (Tg.Ur.upto p s : Nat) ∧ Tg.Ur.upto p s < s.length) := by
  induction s with
  | nil => left; simp [Lib.indexAny, Tg.Ur.upto]
  | cons b r ih =>
    unfold Lib.indexAny
    unfold Tg.Ur.upto at ih ⊢
    rw [List.takeWhile_cons]
    cases hc : p.contains b with
    | true => right; simp
    | false =>
      simp only [Bool.not_false, if_true, Bool.false_eq_true, if_false, List.length_cons]
      rcases ih with ⟨h1, h2⟩ | ⟨h1, h2⟩
      · left; rw [h1, h2]; simp
      · right
        rw [h1, if_neg (by simp)]
        exact ⟨by omega, by omega⟩
theorem until_cl {p : List UInt8} (hs : s.length ≤ 1048576) (hp : p.length < 4294967281) (ha : ascL p) : LC Tryd.prog EJ 125 [str s, str p] H = some (.tuple #[str (s.take (Tg.Ur.upto p s)), str (s.drop (Tg.Ur.upto p s))], H) := by
  rcases any_upto s p with ⟨h1, h2⟩ | ⟨h1, h2⟩
  · rw [until_none hs hp ha h1, h2, List.take_length, List.drop_length]
  · exact until_some hs hp ha h1
end
end Go.Proofs.YteckofomnhminaaDoor
/-
  Layer 26 (url): what the code's functions come to: names of hosts, good places.
-/
set_option linter.unusedSimpArgs false
set_option linter.unusedVariables false
set_option maxRecDepth 100000
namespace Go.Proofs.YteckofomnhminaaDoor
open Go.Lg Go.Tg
section
variable {H : LH} {b : UInt8} {s t : List UInt8}
theorem plain_cl : LC Tryd.prog EJ 154 [.int .u8 b.toNat] H = some (.bool (Tg.Ur.isName b), H) := by
  refine LC_pure rfl Tryd.func154 rfl (Nat.le_of_ble_eq_true rfl) (by decide) (by kernel_rfl) rfl ?_
  unfold Tg.Ur.isName
  have hd := fun H : LH => Digit_cl (H := H) (b := b)
  have e : Tg.Ur.isD b = (decide ((48 : Int) ≤ b.toNat) && decide ((b.toNat : Int) ≤ 57)) := rfl
  rw [← e]
  by_cases h3 : b = 46
  · subst h3
    have hd : ∀ H : LH, LC Tryd.prog EJ 121 [.int .u8 46] H = some (.bool false, H) := hd
    simp [hd]
  by_cases h4 : b = 45
  · subst h4
    have hd : ∀ H : LH, LC Tryd.prog EJ 121 [.int .u8 45] H = some (.bool false, H) := hd
    simp [hd]
  by_cases h1 : (97 : Int) ≤ b.toNat <;> by_cases h2 : (b.toNat : Int) ≤ 122 <;> cases h5 : Tg.Ur.isD b <;> rw [h5] at hd <;> simp [h1, h2, h3, h4, hd]
theorem two_dots : ∀ s : List UInt8, Lib.contains s [46, 46] = Tg.Ur.twoDots s
  | [] => rfl
  | [b] => by
    unfold Tg.Ur.twoDots Lib.contains Lib.index
    by_cases hb : b = 46 <;> simp [hb, Lib.index, Tg.Ur.twoDots, List.isPrefixOf]
  | b :: c :: r => by
    have ih := two_dots (c :: r)
    have hge := Lib.index_ge (c :: r) [46, 46]
    unfold Lib.contains at ih ⊢
    unfold Lib.index
    by_cases h : b = 46 ∧ c = 46
    · obtain ⟨rfl, rfl⟩ := h
      simp [Tg.Ur.twoDots, List.isPrefixOf]
    · have hp : List.isPrefixOf [46, 46] (b :: c :: r) = false := by
        simp only [List.isPrefixOf, Bool.and_true]
        rw [Bool.eq_false_iff]
        intro e
        simp at e
        exact h ⟨e.1.symm, e.2.symm⟩
      have ht : Tg.Ur.twoDots (b :: c :: r) = Tg.Ur.twoDots (c :: r) := by
        conv => lhs; unfold Tg.Ur.twoDots
        split
        · rename_i e; simp at e; exact absurd ⟨e.1, e.2.1⟩ h
        · rename_i e; simp at e; rw [← e.2]
        · rename_i e; simp at e
      rw [hp, ht, ← ih]
      simp only [Bool.false_eq_true, if_false]
      by_cases hm : Lib.index (c :: r) [46, 46] = -1
      · simp [hm]
      · have : (Lib.index (c :: r) [46, 46] == -1) = false := by simp [hm]
        rw [this]
        simp only [Bool.false_eq_true, if_false, decide_eq_decide]
        omega
theorem named_cl (hs : s.length ≤ 1048576) (hm : MaxL H) : LC Tryd.prog EJ 132 [str s] H = some (.bool (Tg.Ur.named s), H) := by
  refine LC_pure rfl Tryd.func132 rfl (Nat.le_of_ble_eq_true rfl) (by decide) (by kernel_rfl) rfl ?_
  have hall := fun H : LH => all_cl (H := H) (g := 154) (q := Tg.Ur.isName) (fun b H => plain_cl) (s := s) (by omega)
  have hcon := contains_l (H := H) (s := s) (p := [46, 46]) (by omega) (.inr hm)
  rw [two_dots] at hcon
  unfold Tg.Ur.named
  cases s with
  | nil => simp
  | cons c r =>
    have a0 : at_ (c :: r) 0 = c := rfl
    by_cases h2 : (r.length : Int) + 1 ≤ 253
    · have q2 : r.length + 1 ≤ 253 := by omega
      cases h3 : (c :: r).all Tg.Ur.isName with
      | false =>
        rw [h3] at hall
        simp only [List.all_cons] at h3
        simp [h2, hall, h3]
      | true =>
        rw [h3] at hall
        simp only [List.all_cons] at h3
        have q4 := eq_true (show (0 : Int) < (r.length : Int) + 1 by omega)
        by_cases h4 : c = 46
        · subst h4; simp [h2, q2, q4, hall, h3, a0]
        · simp [h2, q2, q4, hall, h3, h4, a0, hcon]
    · have q2 : ¬ r.length + 1 ≤ 253 := by omega
      simp [h2, q2]
theorem any_free (p s : List UInt8) : decide (0 ≤ Lib.indexAny s p) = !Tg.Ur.free p s := by
  unfold Tg.Ur.free
  induction s with
  | nil => simp [Lib.indexAny]
  | cons b r ih =>
    have hge := Lib.indexAny_ge p r
    unfold Lib.indexAny
    cases hc : p.contains b with
    | true => simp only [List.all_cons, hc]; simp
    | false =>
      simp only [List.all_cons, hc, Bool.not_false, Bool.true_and, Bool.false_eq_true, if_false]
      rw [← ih]
      by_cases hm : Lib.indexAny r p = -1
      · simp [hm]
      · have : (Lib.indexAny r p == -1) = false := by simp [hm]
        rw [this]
        simp only [Bool.false_eq_true, if_false, decide_eq_decide]
        omega
theorem anyOf_cl {p : List UInt8} (h1 : s.length < 4294967281) (h2 : p.length < 4294967281) (h4 : ascL p) : LC Tryd.prog EJ 72 [str s, str p] H = some (.bool (!Tg.Ur.free p s), H) := by
  refine LC_pure rfl Tryd.func72 rfl (Nat.le_of_ble_eq_true rfl) (by decide) (by kernel_rfl) rfl ?_
  have hi := fun H : LH => indexAny_l (H := H) (s := s) h1 h2 h4
  have hf := any_free p s
  by_cases h0 : 0 ≤ Lib.indexAny s p
  · rw [decide_eq_true h0] at hf
    simp [hi, h0, ← hf]
  · rw [decide_eq_false h0] at hf
    simp [hi, h0, ← hf]
theorem hash_cl (h1 : s.length < 4294967281) : LC Tryd.prog EJ 131 [str s, str [35]] H = some (.bool (!Tg.Ur.free [35] s), H) := by
  rw [contains_l h1 (.inl rfl)]
  have : Lib.contains s [35] = !Tg.Ur.free [35] s := by
    unfold Lib.contains
    rw [Lib.index_one, ← Lib.indexAny_one, any_free]
  rw [this]
abbrev uv (u : Tg.Ur.Url) : Value := .agg #[str u.scheme, str u.host, .int .i64 u.port, str u.path, str u.query]
abbrev ub (u : Tg.Ur.Url) : LB := ⟨[str u.scheme, str u.host, .int .i64 u.port, str u.path, str u.query], 55, true⟩
def placeB (u : Tg.Ur.Url) : Bool := decide (u.port = 0) || (decide (1 ≤ u.port) && decide (u.port ≤ 65535) && decide (u.port ≠ Tg.Ur.own u.scheme))
def pathB (u : Tg.Ur.Url) : Bool := decide (u.path[0]? = some 47) && decide (Tg.Ur.dots u.path = u.path) && decide (Tg.Ur.qt u.path = u.path) && Tg.Ur.free [63, 35] u.path
def queryB (u : Tg.Ur.Url) : Bool := decide (u.query = []) || (decide (u.query[0]? = some 63) && decide (Tg.Ur.qt u.query = u.query) && Tg.Ur.free [35] u.query)
theorem good_eq (u : Tg.Ur.Url) : Tg.Ur.good u = (decide (Tg.Ur.own u.scheme ≠ 0) && placeB u && pathB u && queryB u && Tg.Ur.named u.host) := rfl
theorem good_cl {u : Tg.Ur.Url} (h1 : u.host.length ≤ 1048576) (h2 : u.path.length ≤ 90000) (h3 : u.query.length ≤ 90000) (hm : MaxL H) : LC Tryd.prog EJ 92 [uv u] H = some (.bool (Tg.Ur.good u), H) := by
  refine LC_pure rfl Tryd.func92 rfl (Nat.le_of_ble_eq_true rfl) (by decide) (by kernel_rfl) rfl ?_
  have hle : H.le (H.new (ub u)) := le_refl.new
  refine runs_cut 5 (fun fr' H' => fr' 1 = ptr H.n 0 ∧ fr' 3 = .int .i64 (Tg.Ur.own u.scheme) ∧ fr' 4 = .bool (placeB u) ∧ fr' 5 = .bool (pathB u) ∧ fr' 6 = .bool (queryB u) ∧ H' = H.new (ub u)) ?_ (fun K5 hK5 => ?_) rfl
  · rintro fr' H' ⟨f1, f3, f4, f5, f6, rfl⟩
    have hn := named_cl (H := H.new (ub u)) (s := u.host) h1 hm
    rw [good_eq]
    by_cases h0 : Tg.Ur.own u.scheme = 0
    · simp [f1, f3, h0, hle]
    cases hp : placeB u with
    | false => simp [f1, f3, f4, hp, h0, hle]
    | true =>
      cases hq : pathB u with
      | false => simp [f1, f3, f4, f5, hp, hq, h0, hle]
      | true =>
        cases hr : queryB u with
        | false => simp [f1, f3, f4, f5, f6, hp, hq, hr, h0, hle]
        | true => simp [f1, f3, f4, f5, f6, hp, hq, hr, h0, hle, hn]
  refine runs_cut 4 (fun fr' H' => fr' 1 = ptr H.n 0 ∧ fr' 3 = .int .i64 (Tg.Ur.own u.scheme) ∧ fr' 4 = .bool (placeB u) ∧ fr' 5 = .bool (pathB u) ∧ H' = H.new (ub u)) ?_ (fun K4 hK4 => ?_) rfl
  · rintro fr' H' ⟨f1, f3, f4, f5, rfl⟩
    have hq := fun H : LH => quote_cl (H := H) (s := u.query) (by omega)
    have hh := fun H : LH => hash_cl (H := H) (s := u.query) (by omega)
    have hfin := fun fr' (g : fr' 1 = ptr H.n 0 ∧ fr' 3 = .int .i64 (Tg.Ur.own u.scheme) ∧ fr' 4 = .bool (placeB u) ∧ fr' 5 = .bool (pathB u)) (g6 : fr' 6 = .bool (queryB u)) => hK5 fr' (H.new (ub u)) ⟨g.1, g.2.1, g.2.2.1, g.2.2.2, g6, rfl⟩
    unfold queryB at hfin
    clear hK5
    obtain ⟨sch, hst, prt, pth, q⟩ := u
    simp only at *
    cases q with
    | nil =>
      simp [f1]
      exact hfin _ (by simp [f1, f3, f4, f5]) (by simp)
    | cons c r =>
      have a0 : at_ (c :: r) 0 = c := rfl
      have q1 := eq_true (show (0 : Int) < (r.length : Int) + 1 by omega)
      by_cases hc : c = 63
      · subst hc
        by_cases he : Tg.Ur.qt (63 :: r) = 63 :: r
        · cases hf : Tg.Ur.free [35] (63 :: r) with
          | false =>
            rw [hf] at hh
            simp [f1, a0, q1, hq, he, hh]
            exact hfin _ (by simp [f1, f3, f4, f5]) (by simp [he, hf])
          | true =>
            rw [hf] at hh
            simp [f1, a0, q1, hq, he, hh]
            exact hfin _ (by simp [f1, f3, f4, f5]) (by simp [he, hf])
        · simp [f1, a0, q1, hq, he]
          exact hfin _ (by simp [f1, f3, f4, f5]) (by simp [he])
      · simp [f1, a0, q1, hc]
        exact hfin _ (by simp [f1, f3, f4, f5]) (by simp [hc])
  refine runs_cut 3 (fun fr' H' => fr' 1 = ptr H.n 0 ∧ fr' 3 = .int .i64 (Tg.Ur.own u.scheme) ∧ fr' 4 = .bool (placeB u) ∧ H' = H.new (ub u)) ?_ (fun K3 hK3 => ?_) rfl
  · rintro fr' H' ⟨f1, f3, f4, rfl⟩
    have hq := fun H : LH => quote_cl (H := H) (s := u.path) (by omega)
    have hd := dots_cl (H := (H.new (ub u)).ro) (s := u.path) (by omega) hm
    have hh := fun H : LH => anyOf_cl (H := H) (s := u.path) (p := [63, 35]) (by omega) (by decide) (by intro b hb; simp at hb; rcases hb with rfl | rfl <;> decide)
    have hfin := fun fr' (g : fr' 1 = ptr H.n 0 ∧ fr' 3 = .int .i64 (Tg.Ur.own u.scheme) ∧ fr' 4 = .bool (placeB u)) (g5 : fr' 5 = .bool (pathB u)) => hK4 fr' (H.new (ub u)) ⟨g.1, g.2.1, g.2.2, g5, rfl⟩
    unfold pathB at hfin
    clear hK4
    obtain ⟨sch, hst, prt, p, qry⟩ := u
    simp only at *
    cases p with
    | nil =>
      simp [f1]
      exact hfin _ (by simp [f1, f3, f4]) (by simp)
    | cons c r =>
      have a0 : at_ (c :: r) 0 = c := rfl
      have q1 := eq_true (show (0 : Int) < (r.length : Int) + 1 by omega)
      by_cases hc : c = 47
      · subst hc
        by_cases hdd : Tg.Ur.dots (47 :: r) = 47 :: r
        · by_cases he : Tg.Ur.qt (47 :: r) = 47 :: r
          · cases hf : Tg.Ur.free [63, 35] (47 :: r) with
            | false =>
              rw [hf] at hh
              simp [f1, a0, q1, hd, hdd, hq, he, hh]
              exact hfin _ (by simp [f1, f3, f4]) (by simp [hdd, he, hf])
            | true =>
              rw [hf] at hh
              simp [f1, a0, q1, hd, hdd, hq, he, hh]
              exact hfin _ (by simp [f1, f3, f4]) (by simp [hdd, he, hf])
          · simp [f1, a0, q1, hd, hdd, hq, he]
            exact hfin _ (by simp [f1, f3, f4]) (by simp [hdd, he])
        · simp [f1, a0, q1, hd, hdd]
          exact hfin _ (by simp [f1, f3, f4]) (by simp [hdd])
      · simp [f1, a0, q1, hc]
        exact hfin _ (by simp [f1, f3, f4]) (by simp [hc])
  have ho := fun H : LH => own_l (H := H) (s := u.scheme)
  unfold placeB at hK3
  by_cases p0 : u.port = 0
  · obtain ⟨sch, hst, prt, pth, q⟩ := u
    simp only at p0 ho hK3
    subst p0
    simp [ho]
    exact hK3 _ _ ⟨by simp, by simp, by simp, rfl⟩
  · by_cases p1 : 1 ≤ u.port
    · by_cases p2 : u.port ≤ 65535
      · by_cases p3 : u.port = Tg.Ur.own u.scheme
        · have q3 := eq_true p3
          simp [ho, p0, p1, p2, q3]
          exact hK3 _ _ ⟨by simp, by simp, by simp [p0, p1, p2, q3], rfl⟩
        · have q3 := eq_false p3
          simp [ho, p0, p1, p2, q3]
          exact hK3 _ _ ⟨by simp, by simp, by simp [p0, p1, p2, q3], rfl⟩
      · have q2 := eq_false p2
        simp [ho, p0, p1, q2]
        exact hK3 _ _ ⟨by simp, by simp, by simp [p0, p1, q2], rfl⟩
    · have q1 := eq_false p1
      simp [ho, p0, q1]
      exact hK3 _ _ ⟨by simp, by simp, by simp [p0, q1], rfl⟩
end
end Go.Proofs.YteckofomnhminaaDoor
/-
  Layer 26 (url): how long places' parts are, in plain words.
-/
set_option linter.unusedSimpArgs false
set_option linter.unusedVariables false
namespace Tg.Ur
theorem qt_len : ∀ (n : Nat) (s : List UInt8), s.length ≤ n → (qt s).length ≤ 3 * s.length
  | n, [], _ => by rw [qt]; simp
  | n, b :: r, h => by
    cases n with
    | zero => simp at h
    | succ n =>
      cases he : esc (b :: r) with
      | some e =>
        have hl := Go.Proofs.YteckofomnhminaaDoor.esc_len he
        have ih := qt_len n (r.drop 2) (by simp at h ⊢; omega)
        rw [qt, he]
        simp at hl ih ⊢; omega
      | none =>
        have ih := qt_len n r (by simp at h ⊢; omega)
        rw [qt, he]
        have : (if okB b then [b] else pct b).length ≤ 3 := by split <;> simp [pct]
        simp at ih ⊢; omega
theorem joinS_app (a b : List (List UInt8)) : joinS (a ++ b) = joinS a ++ joinS b := by
  induction a with
  | nil => rfl
  | cons x a ih => show 47 :: (x ++ joinS (a ++ b)) = 47 :: (x ++ joinS a) ++ joinS b; rw [ih]; simp
theorem joinS_dl (a : List (List UInt8)) : (joinS a.dropLast).length ≤ (joinS a).length := by
  rcases List.eq_nil_or_concat a with rfl | ⟨l, x, rfl⟩
  · simp [joinS]
  · rw [List.concat_eq_append, List.dropLast_concat, joinS_app]; simp
theorem stepD_jl (t : Bool) (out : List (List UInt8)) (p : List UInt8) : (joinS (stepD t out p)).length ≤ (joinS out).length + (p.length + 1) := by
  unfold stepD
  split
  · rw [joinS_app]; simp [joinS]
  · rw [joinS_app, List.length_append]
    have h1 : (joinS (if pts p 0 = 2 then out.dropLast else out)).length ≤ (joinS out).length := by
      split
      · exact joinS_dl _
      · exact Nat.le_refl _
    have h2 : (joinS (if t = true then [[]] else [])).length ≤ 1 := by split <;> simp [joinS]
    omega
theorem foldD_jl : ∀ (l out : List (List UInt8)), (joinS (foldD out l)).length ≤ (joinS out).length + (joinS l).length
  | [], out => by simp [foldD, joinS]
  | p :: l, out => by
    rw [foldD_cons]
    have h1 := foldD_jl l (stepD (decide (l = [])) out p)
    have h2 := stepD_jl (decide (l = [])) out p
    show _ ≤ _ + (47 :: (p ++ joinS l)).length
    simp; omega
theorem pieces_jl : ∀ s : List UInt8, (joinS (pieces s)).length = s.length + 1
  | [] => by simp [pieces, joinS]
  | b :: r => by
    have ih := pieces_jl r
    unfold pieces
    split
    · simp [joinS, ih]
    · split
      · rename_i h; exact absurd h (pieces_ne r)
      · rename_i p l h
        rw [h] at ih
        simp [joinS] at ih ⊢; omega
theorem dots_len (s : List UInt8) : (dots s).length ≤ s.length := by
  unfold dots
  split
  · rename_i r
    have h1 := foldD_jl (pieces r) []
    have h2 := pieces_jl r
    split
    · simp
    · simp [joinS] at h1 ⊢; omega
  · simp
theorem upto_le (p s : List UInt8) : upto p s ≤ s.length := by
  unfold upto; exact (List.takeWhile_prefix _).length_le
def textP (u : Url) : List UInt8 := u.scheme ++ [58, 47, 47] ++ u.host ++ (if u.port ≠ 0 then 58 :: Go.Lib.itoa u.port else []) ++ u.path ++ u.query
def text (u : Url) : List UInt8 := if good u then textP u else []
def port (u : Url) : Int := if own u.scheme = 0 ∨ u.port = 0 then own u.scheme else u.port
def origin (u : Url) : List UInt8 := if good u then u.scheme ++ [58, 47, 47] ++ u.host ++ [58] ++ Go.Lib.itoa (port u) else []
end Tg.Ur
/-
  Layer 26 (url): what the code's functions come to: a text's parts, the place.
-/
set_option linter.unusedSimpArgs false
set_option linter.unusedVariables false
set_option maxRecDepth 100000
namespace Go.Proofs.YteckofomnhminaaDoor
open Go.Lg Go.Tg
section
variable {H : LH} {b : UInt8} {s t : List UInt8}
@[simp] theorem lfill_cell' {P : Program} {t : TypeId} {cs : List Value} {i : Nat} {q : Nat × Nat × Bool} {v : Value} {ps : List (Nat × Value)} (hf : fldi P t i = some q) (hn : q.2.1 = 1) (hv : cellB v = true) (ho : q.1 < cs.length) : lfill P t cs ((i, v) :: ps) = lfill P t (cs.set q.1 v) ps := by
  obtain ⟨o, n, g⟩ := q
  exact lfill_cell hf hn hv ho
theorem Lower_cl (hs : s.length ≤ 1048576) : LC Tryd.prog EJ 127 [str s] H = some (str (Tg.Lo.lower s), H) := by
  refine LC_pure rfl Tryd.func127 rfl (Nat.le_of_ble_eq_true rfl) (by decide) (by kernel_rfl) rfl ?_
  simp [lower_l (H := H) (s := s) (by unfold maxLen; omega)]
theorem byte_upto (s : List UInt8) (c : UInt8) : (Lib.indexByte s c = -1 ∧ Tg.Ur.upto [c] s = s.length) ∨ (Lib.indexByte s c = (Tg.Ur.upto [c] s : Nat) ∧ Tg.Ur.upto [c] s < s.length) := by
  rw [← Lib.indexAny_one]; exact any_upto s [c]
theorem drop_upto {s : List UInt8} {c : UInt8} (h : Lib.indexByte s c = (Tg.Ur.upto [c] s : Nat)) : s.drop (Tg.Ur.upto [c] s) = c :: s.drop (Tg.Ur.upto [c] s + 1) := by
  have h2 := (Lib.indexByte_some h).1
  obtain ⟨hlt, he⟩ := List.getElem?_eq_some_iff.mp h2
  rw [List.drop_eq_getElem_cons hlt, he]
theorem prefix2 {a c : UInt8} : Lib.hasPrefix s [a, c] = decide (s.take 2 = [a, c]) := by
  rcases s with _ | ⟨x, _ | ⟨y, r⟩⟩
  · rfl
  · simp [Lib.hasPrefix, List.isPrefixOf]
  · simp [Lib.hasPrefix, List.isPrefixOf]
    rw [Bool.eq_iff_iff]
    simp
    constructor <;> rintro ⟨h1, h2⟩ <;> exact ⟨h1.symm, h2.symm⟩
theorem asc1 {a : UInt8} (h : a.toNat < 128) : ascL [a] := by intro b hb; simp at hb; subst hb; exact h
theorem asc2 {a c : UInt8} (h : a.toNat < 128) (h2 : c.toNat < 128) : ascL [a, c] := by intro b hb; simp at hb; rcases hb with rfl | rfl <;> assumption
theorem asc3 {a c d : UInt8} (h : a.toNat < 128) (h2 : c.toNat < 128) (h3 : d.toNat < 128) : ascL [a, c, d] := by intro b hb; simp at hb; rcases hb with rfl | rfl | rfl <;> assumption
theorem parts_none (h : Tg.Ur.parts s = none) (hs : s.length ≤ 20000) : LC Tryd.prog EJ 91 [str s] H = some (.tuple #[uv Tg.Ur.none, str [], .bool false], H) := by
  refine LC_pure rfl Tryd.func91 rfl (Nat.le_of_ble_eq_true rfl) (by decide) (by kernel_rfl) rfl ?_
  have h1 := fun H : LH => until_cl (H := H) (s := s) (p := [35]) (by omega) (by decide) (asc1 (by decide))
  unfold Tg.Ur.parts at h
  simp only at h
  have hl : (s.take (Tg.Ur.upto [35] s)).length ≤ 20000 := by rw [List.length_take]; omega
  generalize s.take (Tg.Ur.upto [35] s) = s1 at *
  generalize s.drop (Tg.Ur.upto [35] s) = s2 at *
  rcases byte_upto s1 58 with ⟨c1, c2⟩ | ⟨c1, c2⟩
  · have h2 := fun H : LH => scut_none (H := H) c1
    simp [h1, h2, le_refl.new]
    exact ⟨rfl, rfl, rfl, rfl, rfl⟩
  · have h2 := fun H : LH => scut_some (H := H) c1 (by omega)
    rw [drop_upto c1] at h
    have h3 : (s1.drop (Tg.Ur.upto [58] s1 + 1)).take 2 ≠ [47, 47] := by
      intro e
      rw [show (58 :: s1.drop (Tg.Ur.upto [58] s1 + 1)).take 3 = 58 :: (s1.drop (Tg.Ur.upto [58] s1 + 1)).take 2 from rfl, e, if_pos rfl] at h
      cases h
    have hp := prefix2 (s := s1.drop (Tg.Ur.upto [58] s1 + 1)) (a := 47) (c := 47)
    rw [decide_eq_false h3] at hp
    generalize s1.drop (Tg.Ur.upto [58] s1 + 1) = r at *
    generalize s1.take (Tg.Ur.upto [58] s1) = sch at *
    simp [h1, h2, hp, le_refl.new]
    exact ⟨rfl, rfl, rfl, rfl, rfl⟩
theorem parts_some {u : Tg.Ur.Url} {pl : List UInt8} (h : Tg.Ur.parts s = some (u, pl)) (hs : s.length ≤ 20000) (hm : MaxL H) : LC Tryd.prog EJ 91 [str s] H = some (.tuple #[uv u, str pl, .bool true], H) := by
  refine LC_pure rfl Tryd.func91 rfl (Nat.le_of_ble_eq_true rfl) (by decide) (by kernel_rfl) rfl ?_
  have h1 := fun H : LH => until_cl (H := H) (s := s) (p := [35]) (by omega) (by decide) (asc1 (by decide))
  unfold Tg.Ur.parts at h
  simp only at h
  have hl : (s.take (Tg.Ur.upto [35] s)).length ≤ 20000 := by rw [List.length_take]; omega
  generalize s.take (Tg.Ur.upto [35] s) = s1 at *
  generalize s.drop (Tg.Ur.upto [35] s) = s2 at *
  rcases byte_upto s1 58 with ⟨c1, c2⟩ | ⟨c1, c2⟩
  · rw [c2, List.drop_length] at h
    simp at h
  · have h2 := fun H : LH => scut_some (H := H) c1 (by omega)
    have hd3 : s1.drop (Tg.Ur.upto [58] s1 + 3) = (s1.drop (Tg.Ur.upto [58] s1 + 1)).drop 2 := by rw [List.drop_drop]
    rw [hd3, drop_upto c1] at h
    have hpre := prefix2 (s := s1.drop (Tg.Ur.upto [58] s1 + 1)) (a := 47) (c := 47)
    have hl2 : (s1.drop (Tg.Ur.upto [58] s1 + 1)).length ≤ 20000 := by rw [List.length_drop]; omega
    have hl3 : (s1.take (Tg.Ur.upto [58] s1)).length ≤ 20000 := by rw [List.length_take]; omega
    generalize s1.drop (Tg.Ur.upto [58] s1 + 1) = r at *
    generalize s1.take (Tg.Ur.upto [58] s1) = sch at *
    rw [show (58 :: r).take 3 = 58 :: r.take 2 from rfl] at h
    by_cases hp : r.take 2 = [47, 47]
    · rw [hp, if_pos rfl] at h
      rw [decide_eq_true hp] at hpre
      have h2len : 2 ≤ r.length := by
        have := congrArg List.length hp
        rw [List.length_take] at this; simp at this; omega
      have q2 := eq_true (show (2 : Int) ≤ (r.length : Int) by omega)
      have hl4 : (r.drop 2).length ≤ 20000 := by rw [List.length_drop]; omega
      have h3 := fun H : LH => until_cl (H := H) (s := r.drop 2) (p := [58, 47, 63]) (by omega) (by decide) (asc3 (by decide) (by decide) (by decide))
      generalize hr1 : r.drop 2 = r1 at *
      have hl5 : (r1.take (Tg.Ur.upto [58, 47, 63] r1)).length ≤ 20000 := by rw [List.length_take]; omega
      have hl6 : (r1.drop (Tg.Ur.upto [58, 47, 63] r1)).length ≤ 20000 := by rw [List.length_drop]; omega
      generalize r1.take (Tg.Ur.upto [58, 47, 63] r1) = hst at *
      generalize r1.drop (Tg.Ur.upto [58, 47, 63] r1) = r2 at *
      have g1 := fun H : LH => Lower_cl (H := H) (s := sch) (by omega)
      have g2 := fun H : LH => Lower_cl (H := H) (s := hst) (by omega)
      have hpre2 := prefix1 (s := r2) (c := 58)
      -- the port's text, what stands behind it
      generalize hx : Tg.Ur.cutPort r2 = x at h
      have hxl : x.2.length ≤ 20000 := by
        rw [← hx]
        unfold Tg.Ur.cutPort
        split
        · rw [List.length_drop]; simp at hl6; omega
        · exact hl6
      refine runs_cut 6 (fun fr' H' => fr' 2 = ptr H.n 0 ∧ fr' 3 = str x.1 ∧ fr' 5 = str sch ∧ fr' 6 = str x.2 ∧ fr' 7 = str hst ∧ H' = H.new (ub Tg.Ur.none)) ?_ (fun K6 hK6 => ?_) rfl
      · rintro fr' H' ⟨f2, f3, f5, f6, f7, rfl⟩
        obtain ⟨pt, rs⟩ := x
        simp only at h hxl f3 f6
        have h4 := fun H : LH => until_cl (H := H) (s := rs) (p := [63]) (by omega) (by decide) (asc1 (by decide))
        have hl7 : (rs.take (Tg.Ur.upto [63] rs)).length ≤ 20000 := by rw [List.length_take]; omega
        have hl8 : (rs.drop (Tg.Ur.upto [63] rs)).length ≤ 20000 := by rw [List.length_drop]; omega
        generalize rs.take (Tg.Ur.upto [63] rs) = p0 at *
        generalize rs.drop (Tg.Ur.upto [63] rs) = q0 at *
        have hl9 : (if p0 = [] then [47] else p0).length ≤ 20000 := by
          split
          · simp
          · exact hl7
        injection h with h
        injection h with h1 h2
        subst h2
        have ha := fun H : LH => quote_cl (H := H) (s := if p0 = [] then [47] else p0) (by omega)
        have hb := fun H : LH => quote_cl (H := H) (s := q0) (by omega)
        have hq := Tg.Ur.qt_len _ (if p0 = [] then [47] else p0) (Nat.le_refl _)
        have hc := fun (H2 : LH) (hm2 : MaxL H2) => dots_cl (H := H2) (s := Tg.Ur.qt (if p0 = [] then [47] else p0)) (by omega) hm2
        subst h1
        by_cases hp0 : p0 = []
        · subst hp0
          rw [if_pos rfl] at *
          have hc1 := hc ((H.new ⟨[str (Tg.Lo.lower sch), str (Tg.Lo.lower hst), .int .i64 0, str [47], str q0], 55, true⟩).ro) hm
          simp [f2, f3, f5, f6, f7, g1, g2, h4, ha, hb, hc1, le_refl.new]
        · rw [if_neg hp0] at *
          have hc1 := hc ((H.new ⟨[str (Tg.Lo.lower sch), str (Tg.Lo.lower hst), .int .i64 0, str p0, str q0], 55, true⟩).ro) hm
          simp [f2, f3, f5, f6, f7, g1, g2, h4, hp0, ha, hb, hc1, le_refl.new]
      cases r2 with
      | nil =>
        have hx2 : x = ([], []) := hx.symm.trans rfl
        rw [hx2] at hK6
        have e : Lib.hasPrefix [] [58] = false := rfl
        simp [h1, h2, hpre, q2, hr1, h3, e]
        exact hK6 _ _ ⟨by simp, by simp, by simp, by simp, by simp, rfl⟩
      | cons c r3 =>
        by_cases hc : c = 58
        · subst hc
          have hx2 : x = (r3.take (Tg.Ur.upto [47, 63] r3), r3.drop (Tg.Ur.upto [47, 63] r3)) := hx.symm.trans rfl
          rw [hx2] at hK6
          have q3 := eq_true (show (1 : Int) ≤ (r3.length : Int) + 1 by omega)
          have h5 := fun H : LH => until_cl (H := H) (s := r3) (p := [47, 63]) (by simp at hl6; omega) (by decide) (asc2 (by decide) (by decide))
          have hpre2 : Lib.hasPrefix (58 :: r3) [58] = true := by rw [hpre2]; simp
          simp [h1, h2, hpre, q2, hr1, h3, hpre2, q3, h5]
          exact hK6 _ _ ⟨by simp, by simp, by simp, by simp, by simp, rfl⟩
        · have hx2 : x = ([], c :: r3) := by
            rw [← hx]
            unfold Tg.Ur.cutPort
            split
            · rename_i e; injection e with e; exact absurd e hc
            · rfl
          rw [hx2] at hK6
          rw [decide_eq_false (by simpa using hc)] at hpre2
          simp [h1, h2, hpre, q2, hr1, h3, hpre2]
          exact hK6 _ _ ⟨by simp, by simp, by simp, by simp, by simp, rfl⟩
    · rw [if_neg (by simp [hp])] at h
      cases h
theorem parts_lens {u : Tg.Ur.Url} {pl : List UInt8} (h : Tg.Ur.parts s = some (u, pl)) : u.host.length ≤ s.length ∧ u.scheme.length ≤ s.length ∧ u.path.length ≤ 3 * s.length + 3 ∧ u.query.length ≤ 3 * s.length ∧ pl.length ≤ s.length ∧ u.port = 0 := by
  have low_len : ∀ l : List UInt8, (Tg.Lo.lower l).length = l.length := fun l => by simp [Tg.Lo.lower]
  unfold Tg.Ur.parts at h
  simp only at h
  generalize h1 : s.take (Tg.Ur.upto [35] s) = s1 at h
  generalize h2 : Tg.Ur.upto [58] s1 = k at h
  split at h
  · generalize h3 : s1.drop (k + 3) = r at h
    generalize h4 : Tg.Ur.upto [58, 47, 63] r = j at h
    generalize h5 : Tg.Ur.cutPort (r.drop j) = x at h
    generalize h6 : Tg.Ur.upto [63] x.2 = q at h
    have l1 : s1.length ≤ s.length := by rw [← h1, List.length_take]; omega
    have l2 : r.length ≤ s1.length := by rw [← h3, List.length_drop]; omega
    have l3 : x.1.length ≤ r.length ∧ x.2.length ≤ r.length := by
      rw [← h5]
      unfold Tg.Ur.cutPort
      split
      · rename_i r3 e
        have := congrArg List.length e
        rw [List.length_drop] at this
        simp at this
        constructor
        · rw [List.length_take]; omega
        · rw [List.length_drop]; omega
      · constructor
        · simp
        · rw [List.length_drop]; omega
    injection h with h
    injection h with e1 e2
    subst e1 e2
    simp only
    have hd := Tg.Ur.dots_len (Tg.Ur.qt (if x.2.take q = [] then [47] else x.2.take q))
    have hq := Tg.Ur.qt_len _ (if x.2.take q = [] then [47] else x.2.take q) (Nat.le_refl _)
    have hq2 := Tg.Ur.qt_len _ (x.2.drop q) (Nat.le_refl _)
    have hl : (if x.2.take q = [] then [47] else x.2.take q).length ≤ s.length + 1 := by
      split
      · simp
      · rw [List.length_take]; omega
    rw [List.length_drop] at hq2
    refine ⟨?_, ?_, by omega, by omega, by omega, ?_⟩
    · rw [low_len, List.length_take]; omega
    · rw [low_len, List.length_take]; omega
    · trivial
  · cases h
theorem parse_cl (hs : s.length ≤ 20000) (hm : MaxL H) : LC Tryd.prog EJ 58 [str s] H = some (.tuple #[uv (Tg.Ur.parse s).1, .int .i64 (Tg.Ur.parse s).2], H) := by
  refine LC_pure rfl Tryd.func58 rfl (Nat.le_of_ble_eq_true rfl) (by decide) (by kernel_rfl) rfl ?_
  have ht := fun H : LH => trim_cl (H := H) (s := s) (by omega)
  have htl : (Tg.Ur.trim s).length ≤ s.length := by
    unfold Tg.Ur.trim Tg.Ur.trimL
    rw [List.length_reverse]
    refine Nat.le_trans (dw_le _) ?_
    rw [List.length_reverse]
    exact dw_le _
  unfold Tg.Ur.parse
  simp only
  generalize Tg.Ur.trim s = t at *
  by_cases h8 : 8192 < t.length
  · have q := eq_true (show (8192 : Int) < (t.length : Int) by omega)
    rw [if_pos h8]
    simp [ht, q, le_refl.new]
    exact ⟨rfl, rfl, rfl, rfl, rfl⟩
  · have q := eq_false (show ¬ (8192 : Int) < (t.length : Int) by omega)
    rw [if_neg h8]
    cases hp : Tg.Ur.parts t with
    | none =>
      have h1 := fun H : LH => parts_none (H := H) hp (by omega)
      simp [ht, q, h1, le_refl.new]
      exact ⟨rfl, rfl, rfl, rfl, rfl⟩
    | some x =>
      obtain ⟨u, pl⟩ := x
      have h1 := parts_some (H := H.new ⟨[str [], str [], .int .i64 0, str [], str []], 55, true⟩) hp (by omega) hm
      obtain ⟨l1, l2, l3, l4, l5, l6⟩ := parts_lens hp
      have h2 := good_cl (H := (H.new ⟨[str [], str [], .int .i64 0, str [], str []], 55, true⟩).new (ub u)) (u := u) (by omega) (by omega) (by omega) hm
      have h3 := fun H : LH => number_cl (H := H) (s := pl) (t := u.scheme) (by omega)
      simp only
      cases hg : Tg.Ur.good u with
      | false =>
        rw [hg] at h2
        simp [ht, q, h1, h2, le_refl.new]
        exact ⟨rfl, rfl, rfl, rfl, rfl⟩
      | true =>
        rw [hg] at h2
        generalize Tg.Ur.number pl u.scheme = n at *
        by_cases hn : n.2 = 0
        · simp [ht, q, h1, h2, h3, hn, le_refl.new]
        · simp [ht, q, h1, h2, h3, hn, le_refl.new]
          exact ⟨rfl, rfl, rfl, rfl, rfl⟩
end
end Go.Proofs.YteckofomnhminaaDoor
/-
  Layer 22 (header): what the code's judges of bytes, texts and headers come to.
-/
set_option linter.unusedSimpArgs false
set_option linter.unusedVariables false
set_option maxRecDepth 100000
namespace Go.Proofs.YteckofomnhminaaDoor
open Go.Lg Go.Tg
section
variable {H : LH} {b : UInt8} {s t : List UInt8}
theorem white_cl : LC Tryd.prog EJ 67 [.int .u8 b.toNat] H = some (.bool (Tg.Hd.white b), H) := by
  refine LC_pure rfl Tryd.func67 rfl (Nat.le_of_ble_eq_true rfl) (by decide) (by kernel_rfl) rfl ?_
  by_cases h1 : b = 9
  · subst h1; simp [Tg.Hd.white]
  by_cases h2 : b = 10
  · subst h2; simp [Tg.Hd.white]
  by_cases h3 : b = 13
  · subst h3; simp [Tg.Hd.white]
  by_cases h4 : b = 32
  · subst h4; simp [Tg.Hd.white]
  simp [Tg.Hd.white, h1, h2, h3, h4]
theorem end_cl {g : FuncId} {q : UInt8 → Bool} (hg : ∀ (b : UInt8) (H : LH), LC Tryd.prog EJ g [.int .u8 b.toNat] H = some (.bool (q b), H)) (hs : s.length ≤ 9223372036854775806) :
    LC Tryd.prog EJ 66 [str s, .func (.func g) #[] #[]] H = some (.int .i64 ((s.reverse.dropWhile q).length : Nat), H) := by
  refine LC_pure rfl Tryd.func66 rfl (Nat.le_of_ble_eq_true rfl) (by decide) (by kernel_rfl) rfl ?_
  obtain ⟨x, hx⟩ : ∃ x, x = (s.reverse.dropWhile q).length := ⟨_, rfl⟩
  rw [← hx]
  simp
  refine loop_ind (fun (i : Nat) fr' H' => fr' 0 = str s ∧ fr' 1 = .func (.func g) #[] #[] ∧ fr' 5 = .int .i64 i ∧ i ≤ s.length ∧ x = ((s.take i).reverse.dropWhile q).length ∧ H' = H) (fun i => i) s.length ⟨by simp, by simp, by simp, Nat.le_refl _, by rw [List.take_length]; exact hx, rfl⟩ ?_
  rintro i fr' H' ⟨h0, h1, h5, hi, hc, rfl⟩ ih
  by_cases hz : 0 < i
  · have q0 := eq_true (show (0 : Int) < (i : Int) by omega)
    have hlt : i - 1 < s.length := by omega
    have hw : IntKind.i64.wrap ((i : Int) - 1) = ((i - 1 : Nat) : Int) := by rw [wrapI (by omega) (by omega)]; omega
    have hat : at_ s ((i - 1 : Nat) : Int) = s[i - 1] := at_in hlt
    have q1 := eq_true (show ((i - 1 : Nat) : Int) < (s.length : Int) by omega)
    have e : s.take i = s.take (i - 1) ++ [s[i - 1]] := by
      have := List.take_succ_eq_append_getElem hlt
      rw [show i - 1 + 1 = i by omega] at this
      exact this
    rw [e, List.reverse_append, List.reverse_singleton, List.singleton_append, List.dropWhile_cons] at hc
    have hgc := hg s[i - 1]
    generalize s[i - 1] = c at *
    generalize hk : i - 1 = k at *
    cases hq : q c with
    | true =>
      rw [hq] at hc hgc
      rw [if_pos rfl] at hc
      simp [h0, h1, h5, q0, hz, hw, hat, q1, hlt, hgc]
      refine ih k _ _ (by omega) ⟨?_, ?_, ?_, by omega, hc, rfl⟩
      all_goals simp [h0, h1, hw]
    | false =>
      rw [hq] at hc hgc
      rw [if_neg (by decide)] at hc
      have hxi : x = i := by rw [hc]; simp; omega
      subst hxi
      simp [h0, h1, h5, q0, hz, hw, hat, q1, hlt, hgc]
  · have q0 := eq_false (show ¬ (0 : Int) < (i : Int) by omega)
    have hi0 : i = 0 := by omega
    subst hi0
    have hx0 : x = 0 := by rw [hc]; rfl
    subst hx0
    simp [h0, h1, h5]
theorem trimE_take : Tg.Hd.trimE s = s.take (s.reverse.dropWhile Tg.Hd.white).length := by
  have h2 : Tg.Hd.trimE s <+: s := List.reverse_suffix.mp (by unfold Tg.Hd.trimE; rw [List.reverse_reverse]; exact List.dropWhile_suffix _)
  have := List.prefix_iff_eq_take.mp h2
  rw [this]
  congr 1
  unfold Tg.Hd.trimE
  rw [List.length_reverse]
theorem dw_drop {q : UInt8 → Bool} : ∀ {s : List UInt8}, s.dropWhile q = s.drop (s.takeWhile q).length
  | [] => rfl
  | b :: r => by
    rw [List.dropWhile_cons, List.takeWhile_cons]
    cases q b with
    | true => simp only [if_true, List.length_cons, List.drop_succ_cons]; exact dw_drop
    | false => simp
theorem Trim_cl (hs : s.length ≤ 9223372036854775806) : LC Tryd.prog EJ 40 [str s] H = some (str (Tg.Hd.trim s), H) := by
  refine LC_pure rfl Tryd.func40 rfl (Nat.le_of_ble_eq_true rfl) (by decide) (by kernel_rfl) rfl ?_
  have he := fun H : LH => end_cl (H := H) (s := s) (g := 67) (q := Tg.Hd.white) (fun b H => white_cl) hs
  have hw := fun (H : LH) (b : UInt8) => white_cl (H := H) (b := b)
  obtain ⟨x, hx⟩ : ∃ x, x = Tg.Hd.trim s := ⟨_, rfl⟩
  rw [← hx]
  unfold Tg.Hd.trim at hx
  rw [trimE_take] at hx
  have hle : (s.reverse.dropWhile Tg.Hd.white).length ≤ s.length := by
    have := (List.dropWhile_suffix (l := s.reverse) Tg.Hd.white).length_le
    rwa [List.length_reverse] at this
  generalize (s.reverse.dropWhile Tg.Hd.white).length = n at *
  have q1 := eq_true (show (n : Int) ≤ (s.length : Int) by omega)
  have htl : (s.take n).length ≤ 9223372036854775806 := by rw [List.length_take]; omega
  simp [he, q1, hle]
  generalize s.take n = t at *
  refine loop_ind (fun (i : Nat) fr' H' => fr' 0 = str t ∧ fr' 3 = .int .i64 i ∧ i ≤ t.length ∧ x = (t.drop i).dropWhile Tg.Hd.white ∧ H' = H) (fun i => t.length - i) 0 ⟨by simp, by simp, Nat.zero_le _, hx, rfl⟩ ?_
  rintro i fr' H' ⟨h0, h3, hi, hc, rfl⟩ ih
  by_cases hlt : i < t.length
  · have q := eq_true (show (i : Int) < (t.length : Int) by omega)
    have hat : at_ t (i : Int) = t[i] := at_in hlt
    have hw1 : IntKind.i64.wrap ((i : Int) + 1) = ((i + 1 : Nat) : Int) := by rw [wrapI (by omega) (by omega)]; omega
    have qi := eq_true (show (i : Int) ≤ (t.length : Int) by omega)
    rw [List.drop_eq_getElem_cons hlt, List.dropWhile_cons] at hc
    have hwc := fun H => hw H t[i]
    have hdr : t.drop i = t[i] :: t.drop (i + 1) := List.drop_eq_getElem_cons hlt
    generalize t[i] = c at *
    cases hq : Tg.Hd.white c with
    | true =>
      rw [hq] at hc hwc
      rw [if_pos rfl] at hc
      simp [h0, h3, q, hlt, hat, hwc]
      refine ih (i + 1) _ _ (by omega) ⟨?_, ?_, by omega, hc, rfl⟩
      all_goals simp [h0, hw1]
    | false =>
      rw [hq] at hc hwc
      rw [if_neg (by decide), ← hdr] at hc
      simp [h0, h3, q, hlt, hat, hwc, qi, hi, hc]
  · have q := eq_false (show ¬ (i : Int) < (t.length : Int) by omega)
    have qi := eq_true (show (i : Int) ≤ (t.length : Int) by omega)
    have hil : i = t.length := by omega
    rw [List.drop_of_length_le (by omega)] at hc
    subst hil
    simp [h0, h3, hc]
theorem small_cl : LC Tryd.prog EJ 138 [.int .u8 b.toNat] H = some (.bool (decide ((97 : Int) ≤ b.toNat) && decide ((b.toNat : Int) ≤ 122)), H) := by
  refine LC_pure rfl Tryd.func138 rfl (Nat.le_of_ble_eq_true rfl) (by decide) (by kernel_rfl) rfl ?_
  by_cases h1 : (97 : Int) ≤ b.toNat <;> by_cases h2 : (b.toNat : Int) ≤ 122 <;> simp [h1, h2]
theorem letter_cl : LC Tryd.prog EJ 104 [.int .u8 b.toNat] H = some (.bool (Tg.Hd.isL b), H) := by
  refine LC_pure rfl Tryd.func104 rfl (Nat.le_of_ble_eq_true rfl) (by decide) (by kernel_rfl) rfl ?_
  have h1 := fun H : LH => small_cl (H := H) (b := b)
  have h2 := fun H : LH => great_cl (H := H) (b := b)
  unfold Tg.Hd.isL
  cases e1 : (decide ((97 : Int) ≤ b.toNat) && decide ((b.toNat : Int) ≤ 122)) <;> rw [e1] at h1 <;>
  cases e2 : (decide ((65 : Int) ≤ b.toNat) && decide ((b.toNat : Int) ≤ 90)) <;> rw [e2] at h2 <;> simp [h1, h2]
theorem Token_cl : LC Tryd.prog EJ 71 [.int .u8 b.toNat] H = some (.bool (Tg.Hd.tok b), H) := by
  refine LC_pure rfl Tryd.func71 rfl (Nat.le_of_ble_eq_true rfl) (by decide) (by kernel_rfl) rfl ?_
  have h1 := fun H : LH => letter_cl (H := H) (b := b)
  have h2 : ∀ H : LH, LC Tryd.prog EJ 105 [.int .u8 b.toNat] H = some (.bool (Tg.Hd.isD b), H) := fun H => digit_cl (H := H) (b := b)
  have h3 := idx_lt Tg.Hd.signs b
  unfold Tg.Hd.tok
  cases e1 : Tg.Hd.isL b with
  | true => rw [e1] at h1; simp [h1]
  | false =>
    rw [e1] at h1
    cases e2 : Tg.Hd.isD b with
    | true => rw [e2] at h2; simp [h1, h2]
    | false =>
      rw [e2] at h2
      rw [h3]
      unfold Tg.Hd.signs
      simp [h1, h2]
      generalize Lib.indexByte _ b = x
      rw [Bool.eq_iff_iff]
      simp
abbrev hv (h : Tg.Hd.Hdr) : Value := .agg #[str h.1, str h.2]
abbrev hb (h : Tg.Hd.Hdr) : LB := ⟨[str h.1, str h.2], 60, true⟩
theorem fine_cl {h : Tg.Hd.Hdr} (h1 : h.1.length ≤ 1048576) (h2 : h.2.length ≤ 1048576) : LC Tryd.prog EJ 42 [hv h] H = some (.bool (Tg.Hd.fine h), H) := by
  refine LC_pure rfl Tryd.func42 rfl (Nat.le_of_ble_eq_true rfl) (by decide) (by kernel_rfl) rfl ?_
  have hle : H.le (H.new (hb h)) := le_refl.new
  obtain ⟨x, hx⟩ : ∃ x, x = Tg.Hd.fine h := ⟨_, rfl⟩
  rw [← hx]
  unfold Tg.Hd.fine at hx
  have ha := fun H : LH => all_cl (H := H) (s := h.1) (g := 71) (q := Tg.Hd.tok) (fun b H => Token_cl) (by omega)
  have ht := fun H : LH => Trim_cl (H := H) (s := h.2) (by omega)
  have hc : ∀ H : LH, LC Tryd.prog EJ 72 [str h.2, str [0, 13, 10]] H = some (.bool (!Tg.Hd.free [0, 13, 10] h.2), H) := fun H => anyOf_cl (H := H) (s := h.2) (p := [0, 13, 10]) (by omega) (by decide) (by intro b hb; simp at hb; rcases hb with rfl | rfl | rfl <;> decide)
  obtain ⟨n, v⟩ := h
  simp only at *
  by_cases e1 : n = []
  · have : x = false := by rw [hx]; simp [e1]
    subst this
    simp [e1, hle]
  · cases e2 : n.all Tg.Hd.tok with
    | false =>
      have : x = false := by rw [hx, e2]; simp
      subst this
      rw [e2] at ha
      simp [e1, ha, hle]
    | true =>
      rw [e2] at ha hx
      by_cases e3 : Tg.Hd.trim v = v
      · cases e4 : Tg.Hd.free [0, 13, 10] v with
        | false =>
          have : x = false := by rw [hx, e4]; simp
          subst this
          rw [e4] at hc
          simp [e1, ha, ht, e3, hc, hle]
        | true =>
          rw [e4] at hc hx
          by_cases e5 : v.length ≤ 8192
          · have : x = true := by rw [hx]; simp [e1, e3, e5]
            subst this
            have q5 := eq_true (show (v.length : Int) ≤ 8192 by omega)
            simp [e1, ha, ht, e3, hc, q5, hle]
          · have : x = false := by rw [hx]; simp [e5]
            subst this
            have q5 := eq_false (show ¬ (v.length : Int) ≤ 8192 by omega)
            simp [e1, ha, ht, e3, hc, q5, hle]
      · have : x = false := by rw [hx]; simp [e3]
        subst this
        simp [e1, ha, ht, e3, hle]
theorem idx_upto (c : UInt8) : ∀ s : List UInt8, (Lib.indexByte s c = -1 ∧ s.contains c = false) ∨ (Lib.indexByte s c = (Tg.Hd.upto c s : Nat) ∧ s.contains c = true)
  | [] => .inl ⟨rfl, rfl⟩
  | b :: r => by
    have hge := Lib.indexByte_ge r c
    unfold Lib.indexByte Tg.Hd.upto
    by_cases hb : b = c
    · subst hb
      right
      simp
    · have hb2 : ¬ c = b := fun e => hb e.symm
      have ih := idx_upto c r
      unfold Tg.Hd.upto at ih
      rcases ih with ⟨h1, h2⟩ | ⟨h1, h2⟩
      · left
        simp [hb, hb2, h1] at h2 ⊢
        exact h2
      · right
        rw [List.takeWhile_cons]
        simp [hb, hb2, h1] at h2 ⊢
        exact h2
theorem le2H {a b : LB} : H.le ((H.new a).new b) := le_refl.new.new
theorem trimH_len (s : List UInt8) : (Tg.Hd.trim s).length ≤ s.length := by
  unfold Tg.Hd.trim Tg.Hd.trimE
  refine Nat.le_trans (dw_le _) ?_
  rw [List.length_reverse]
  refine Nat.le_trans (dw_le _) ?_
  rw [List.length_reverse]
  exact Nat.le_refl _
theorem line_cl (hs : s.length ≤ 1048576) : ∃ h, LC Tryd.prog EJ 38 [str s] H = some (.tuple #[hv h, .bool (Tg.Hd.lineP s).isSome], H) ∧ ∀ h', Tg.Hd.lineP s = some h' → h = h' := by
  rcases idx_upto 58 s with ⟨h1, h2⟩ | ⟨h1, h2⟩
  · have hp : Tg.Hd.lineP s = none := by unfold Tg.Hd.lineP; rw [if_neg (by rw [h2]; decide)]
    rw [hp]
    refine ⟨(s, Tg.Hd.trim []), ?_, fun h' e => by cases e⟩
    refine LC_pure rfl Tryd.func38 rfl (Nat.le_of_ble_eq_true rfl) (by decide) (by kernel_rfl) rfl ?_
    have hc := fun H : LH => scut_none (H := H) h1
    have ht := fun H : LH => Trim_cl (H := H) (s := []) (by decide)
    generalize Tg.Hd.trim [] = z at *
    simp [hc, ht, le2H]
  · have hc := fun H : LH => scut_some (H := H) h1 (by omega)
    have hp : Tg.Hd.lineP s = if Tg.Hd.fine (s.take (Tg.Hd.upto 58 s), Tg.Hd.trim (s.drop (Tg.Hd.upto 58 s + 1))) then some (s.take (Tg.Hd.upto 58 s), Tg.Hd.trim (s.drop (Tg.Hd.upto 58 s + 1))) else none := by
      unfold Tg.Hd.lineP; rw [if_pos h2]
    have hl1 : (s.take (Tg.Hd.upto 58 s)).length ≤ 1048576 := by rw [List.length_take]; omega
    have hl2 : (s.drop (Tg.Hd.upto 58 s + 1)).length ≤ 1048576 := by rw [List.length_drop]; omega
    generalize s.take (Tg.Hd.upto 58 s) = n at *
    generalize s.drop (Tg.Hd.upto 58 s + 1) = v at *
    have ht := fun H : LH => Trim_cl (H := H) (s := v) (by omega)
    have htl := trimH_len v
    have hf := fun H : LH => fine_cl (H := H) (h := (n, Tg.Hd.trim v)) hl1 (by simp only; omega)
    refine ⟨(n, Tg.Hd.trim v), ?_, fun h' e => ?_⟩
    · refine LC_pure rfl Tryd.func38 rfl (Nat.le_of_ble_eq_true rfl) (by decide) (by kernel_rfl) rfl ?_
      generalize Tg.Hd.trim v = z at *
      rw [hp]
      cases hfi : Tg.Hd.fine (n, z) with
      | true => rw [hfi] at hf; simp [hc, ht, hf, le2H]
      | false => rw [hfi] at hf; simp [hc, ht, hf, le2H]
    · rw [hp] at e
      split at e
      · injection e
      · cases e
end
end Go.Proofs.YteckofomnhminaaDoor
/-
  The iterator of strings.SplitSeq, over the logical run with rounds.
-/
set_option linter.unusedSimpArgs false
set_option linter.unusedVariables false
set_option maxRecDepth 100000
namespace Tg.Hd
theorem lines_other {b : UInt8} {r p : List UInt8} {l : List (List UInt8)} (hb : b ≠ 10) (h : lines r = p :: l) : lines (b :: r) = (b :: p) :: l := by
  conv => lhs; unfold lines
  rw [if_neg hb, h]
theorem lines_idx : ∀ s : List UInt8, (Go.Lib.indexByte s 10 = -1 ∧ lines s = [s]) ∨ ∃ i : Nat, Go.Lib.indexByte s 10 = i ∧ i < s.length ∧ lines s = s.take i :: lines (s.drop (i + 1))
  | [] => .inl ⟨rfl, rfl⟩
  | b :: r => by
    by_cases hb : b = 10
    · subst hb
      right
      exact ⟨0, by simp [Go.Lib.indexByte], by simp, lines_cut [] r (by simp)⟩
    · have hge := Go.Lib.indexByte_ge r 10
      rcases lines_idx r with ⟨h1, h2⟩ | ⟨i, h1, h2, h3⟩
      · left
        exact ⟨by simp [Go.Lib.indexByte, hb, h1], lines_other hb h2⟩
      · right
        refine ⟨i + 1, ?_, by simp; omega, ?_⟩
        · unfold Go.Lib.indexByte
          simp [hb, h1]
        · exact lines_other hb h3
end Tg.Hd
namespace Go.Proofs.YteckofomnhminaaDoor
open Go.Lg Go.Tg
noncomputable def EP : PEnv := { E := EJ, ps := fun f => f == 12 || f == 15, pl := EJ.loud, px := fun _ => none, cat := none, tF := 0 }
@[simp] theorem EP_E : EP.E = EJ := rfl
@[simp] theorem EP_pl : EP.pl = EJ.loud := rfl
theorem EP_ps {f : FuncId} : EP.ps f = (f == 12 || f == 15) := rfl
def It (ps pp pv : Nat) (s : List UInt8) (H : LH) : Prop := H.get ps = some ⟨[str s], 9, true⟩ ∧ H.get pp = some ⟨[str [10]], 9, true⟩ ∧ H.get pv = some ⟨[.int .i64 0], 3, true⟩
section
variable {H : LH} {b : UInt8} {s t : List UInt8}
theorem sindex_cl {c : UInt8} : LC Tryd.prog EJ 98 [str s, str [c]] H = some (.int .i64 (Lib.indexByte s c), H) := by
  refine LC_pure rfl Tryd.func98 rfl (Nat.le_of_ble_eq_true rfl) (by decide) (by kernel_rfl) rfl ?_
  simp
theorem seq_run {yc : YC} {ps pp pv : Nat} {I : List (List UInt8) → LH → Prop} {D : LH → Prop} {Q : PQ} (h1 : ps ≠ pp) (h2 : ps ≠ pv)
    (hround : ∀ t ls H s', I (t :: ls) H → It ps pp pv s' H → t.length ≤ 1048576 → ∃ j H1, R Tryd.prog EP (.run none 1 yc.fn [.code yc.assign, .beginRound, .code yc.body] (setL yc.fr (yc.params.zip [str t])) H none (.jump j) H1 none) ∧ It ps pp pv s' H1 ∧ ((j = none ∧ I ls H1) ∨ (j = some .ret ∧ D H1)))
    (hset : ∀ ls H s' s'', I ls H → It ps pp pv s' H → I ls (H.set ps ⟨[str s''], 9, true⟩))
    (hp1 : yc.params.length = 1) (hpN : ∀ d ∈ yc.params, d < yc.fn.ntmps) (hI : I (Tg.Hd.lines s) H) (hIt : It ps pp pv s H) (hs : s.length ≤ 1048576)
    (hq1 : ∀ H1 v, I [] H1 → Q (.ret v) H1 none) (hq2 : ∀ H1 v, D H1 → Q (.ret v) H1 (some .ret)) :
    ∃ gc, fnOk Tryd.prog EP 96 Tryd.f96 gc [tok yc.l, ptr pp 0, ptr ps 0, ptr pv 0] ∧ PR Tryd.prog EP (some yc) 0 Tryd.f96 [.code gc] (enter [tok yc.l, ptr pp 0, ptr ps 0, ptr pv 0]) H none Q := by
  refine ⟨_, ⟨Tryd.func96, rfl, Nat.le_of_ble_eq_true rfl, by decide, by kernel_rfl⟩, ?_⟩
  have g := hIt
  obtain ⟨g1, g2, g3⟩ := g
  simp [g2]
  refine ploop_ind (fun (s' : List UInt8) fr' H' p' => fr' 0 = tok yc.l ∧ fr' 1 = ptr pp 0 ∧ fr' 2 = ptr ps 0 ∧ fr' 3 = ptr pv 0 ∧ s'.length ≤ 1048576 ∧ It ps pp pv s' H' ∧ I (Tg.Hd.lines s') H' ∧ p' = none) (fun s' => s'.length) s ⟨by simp, by simp, by simp, by simp, hs, hIt, hI, rfl⟩ ?_
  clear g1 g2 g3 hs hIt hI
  rintro s' fr' H' p' ⟨f0, f1, f2, f3, hl, hit, hi, rfl⟩ ih
  have g := hit
  obtain ⟨g1, g2, g3⟩ := g
  have hix := fun H : LH => sindex_cl (H := H) (s := s') (c := 10)
  rcases Tg.Hd.lines_idx s' with ⟨e1, e2⟩ | ⟨i, e1, e2, e3⟩
  · rw [e2] at hi
    rw [e1] at hix
    obtain ⟨j, H1, r1, it1, hj⟩ := hround s' [] H' s' hi hit hl
    simp [f0, f1, f2, f3, g1, g2, hix]
    refine hand_yield (yc := yc) (j := j) (H1 := H1) rfl rfl ?_ ?_ hpN ?_ rfl ?_
    · simp [f0]
    · exact hp1.symm
    · simpa using r1
    · simp
      rcases hj with ⟨rfl, hI1⟩ | ⟨rfl, hD1⟩
      · exact hq1 _ _ hI1
      · exact hq2 _ _ hD1
  · rw [e3] at hi
    rw [e1] at hix
    have htl : (s'.take i).length ≤ 1048576 := by rw [List.length_take]; omega
    obtain ⟨j, H1, r1, it1, hj⟩ := hround (s'.take i) (Tg.Hd.lines (s'.drop (i + 1))) H' s' hi hit htl
    obtain ⟨k1, k2, k3⟩ := it1
    have q1 := eq_false (show ¬ (i : Int) < 0 by omega)
    have q2 := eq_true (show (i : Int) ≤ (s'.length : Int) by omega)
    have q3 := eq_true (show (0 : Int) ≤ (i : Int) by omega)
    have hw0 : IntKind.i64.wrap (i : Int) = (i : Int) := wrapI (by omega) (by omega)
    have hw1 : IntKind.i64.wrap ((i : Int) + 1) = ((i + 1 : Nat) : Int) := by rw [wrapI (by omega) (by omega)]; omega
    have q4 := eq_true (show ((i + 1 : Nat) : Int) ≤ (s'.length : Int) by omega)
    simp [f0, f1, f2, f3, g1, g2, g3, hix, q1, q2, hw0]
    refine hand_yield (yc := yc) (j := j) (H1 := H1) rfl rfl ?_ ?_ hpN ?_ rfl ?_
    · simp [f0]
    · exact hp1.symm
    · simpa using r1
    · rcases hj with ⟨rfl, hI1⟩ | ⟨rfl, hD1⟩
      · have q5 := eq_true (show (i : Int) + 1 ≤ (s'.length : Int) by omega)
        have q6 := eq_true (show (0 : Int) ≤ (i : Int) + 1 by omega)
        have e9 : ((i : Int) + 1).toNat = i + 1 := by omega
        simp [f0, f1, f2, f3, k1, k2, k3, hw1, q4, q5, q6, e9]
        refine ih (s'.drop (i + 1)) _ _ _ ?_ ⟨?_, ?_, ?_, ?_, ?_, ⟨?_, ?_, ?_⟩, hset _ _ s' _ hI1 ⟨k1, k2, k3⟩, rfl⟩
        all_goals simp [f0, f1, f2, f3, k2, k3, h1, h2, h1.symm, h2.symm, get_set_ne]
        all_goals omega
      · simp
        exact hq2 _ _ hD1
end
end Go.Proofs.YteckofomnhminaaDoor
/-
  A logical run of Go code: structs compared, part by part.
-/
set_option linter.unusedSimpArgs false
set_option linter.unusedVariables false
set_option maxRecDepth 100000
namespace Go.Lg
theorem pureVal_map {α β : Type} {P : Program} (s : Sem α) (f : α → β) : pureVal P (f <$> s) = (pureVal P s).map f := by
  show pureVal P (s >>= fun x => pure (f x)) = _
  rw [pureVal_bind]; cases pureVal P s <;> rfl
theorem eqIn_int {P : Program} {d : Nat} {t : TypeId} {k : IntKind} {a b : Int} (hu : P.underlying t = some (.int k)) : pureVal P (Op.equalIn (d + 1) t (.int k a) (.int k b)) = some (a == b) := by
  unfold Op.equalIn
  simp only [pureVal_bind, pureVal_und, hu, Option.bind_some, pureVal_pure, if_true]
theorem eqIn_str {P : Program} {d : Nat} {t : TypeId} {a b : List UInt8} (hu : P.underlying t = some .string) : pureVal P (Op.equalIn (d + 1) t (str a) (str b)) = some (decide (a = b)) := by
  unfold Op.equalIn
  simp only [pureVal_bind, pureVal_und, hu, Option.bind_some, str]
  show some _ = _
  congr 1
  rw [Bool.eq_iff_iff, Go.MapKept.bytes_beq]; simp
theorem eqIn_bool {P : Program} {d : Nat} {t : TypeId} {a b : Bool} (hu : P.underlying t = some .bool) : pureVal P (Op.equalIn (d + 1) t (.bool a) (.bool b)) = some (a == b) := by
  unfold Op.equalIn
  simp only [pureVal_bind, pureVal_und, hu, Option.bind_some, pureVal_pure]
theorem part_cell {P : Program} {t : TypeId} {cs : Array Value} {o : Nat} {v : Value} (ha : aggB P t = some false) (h : cs[o]? = some v) : pureVal P (part t cs o) = some v := by
  unfold part
  have : pureVal P (isAgg t) = some false := by
    unfold aggB at ha
    unfold isAgg
    obtain ⟨d, hd, hf⟩ := Option.map_eq_some_iff.1 ha
    simp only [pureVal_bind, pureVal_und, hd, Option.bind_some]
    cases d <;> first | rfl | (simp [aggD] at hf)
  simp only [pureVal_bind, this, Option.bind_some, h]
  rfl
/-- two aggregates of a type that is guarded by nothing -/
theorem lbin_agg {P : Program} {t : TypeId} {xs ys : List Value} {b : Bool} (hx : flatB (.agg ⟨xs⟩) = true) (hy : flatB (.agg ⟨ys⟩) = true) (hg : P.eqGuardType P.depth t = false)
    (he : pureVal P (Op.equalIn Op.maxDepth t (.agg ⟨xs⟩) (.agg ⟨ys⟩)) = some b) : lbin P .eql t (.agg ⟨xs⟩) (.agg ⟨ys⟩) = some (.bool b) := by
  unfold lbin
  simp only
  rw [if_pos (by rw [hx, hy]; rfl)]
  unfold pureFlat eqGuard
  simp only [binOp, Op.equal, pureVal_bind]
  have e1 : ∀ X Y : Value, pureVal P (if (!true) = true then (pure () : Sem Unit) else do
      let __do_lift ← program
      let __do_lift_1 ← program
      if (!__do_lift.eqGuardType __do_lift_1.depth t) = true then pure ()
      else do
        let __do_lift ← Op.eqGuardIn Op.maxDepth t X Y
        if __do_lift = true then unsupported (Unsupported.noEntry "binop/eql: two nil values of an interface type with methods, in a part of a struct or an array") else pure ()) = some () := by
    intro X Y
    rw [if_neg (by decide)]
    simp only [pureVal_bind, pureVal_program, Option.bind_some, hg, Bool.not_false, if_true, pureVal_pure]
  rw [e1, he]
  rfl
end Go.Lg
/-
  Layer 22 (header): rows of headers.
-/
set_option linter.unusedSimpArgs false
set_option linter.unusedVariables false
set_option maxRecDepth 100000
namespace Go.Proofs.YteckofomnhminaaDoor
open Go.Lg Go.Tg
/-- v holds the headers l, wherever they lie -/
def HRow (H : LH) (v : Value) (l : List Tg.Hd.Hdr) : Prop :=
  (v = .slice none 0 0 ∧ l = []) ∨ ∃ (k o c : Nat), v = .slice (some ⟨k, o, none⟩) l.length c ∧ (l ≠ [] → ∃ b : LB, H.get k = some b ∧ k < H.n ∧ ∀ (i : Nat) (h : i < l.length), o + i * 2 + 2 ≤ b.cells.length ∧ (b.cells.drop (o + i * 2)).take 2 = [str l[i].1, str l[i].2] ∧ b.cells[o + i * 2]? = some (str l[i].1) ∧ b.cells[o + i * 2 + 1]? = some (str l[i].2))
/-- v is a row of headers of our own -/
abbrev HOwn (N : Nat) (H : LH) (v : Value) (l : List Tg.Hd.Hdr) : Prop := RowN N H 60 2 v l.length (Tg.Hd.cells l)
def oddAt : List Tg.Hd.Hdr → Nat → Int
  | [], _ => -1
  | h :: l, i => if Tg.Hd.fine h = true then oddAt l (i + 1) else i
theorem odd_iff : ∀ (l : List Tg.Hd.Hdr) (i : Nat), 0 ≤ oddAt l i ↔ l.all Tg.Hd.fine = false
  | [], i => by simp [oddAt]
  | h :: l, i => by
    unfold oddAt
    rw [List.all_cons]
    cases hf : Tg.Hd.fine h with
    | true => rw [if_pos rfl, odd_iff l (i + 1)]; simp
    | false => rw [if_neg (by decide)]; simp
section
variable {H H' : LH} {v : Value} {l : List Tg.Hd.Hdr} {N : Nat}
theorem HRow.keep (h : HRow H v l) (hn : H.n ≤ H'.n) (hk : ∀ k, k < H.n → H'.get k = H.get k) : HRow H' v l := by
  rcases h with h | ⟨k, o, c, h1, h2⟩
  · exact .inl h
  · refine .inr ⟨k, o, c, h1, fun hne => ?_⟩
    obtain ⟨b, h2, h3, h4⟩ := h2 hne
    exact ⟨b, by rw [hk k h3]; exact h2, by omega, h4⟩
theorem HRow.len (h : HRow H v l) : lbuiltin Tryd.prog .len [22] [v] H' = some (.int .i64 l.length, H') := by
  rcases h with ⟨rfl, rfl⟩ | ⟨k, o, c, rfl, h2⟩
  · simp
  · simp
theorem HRow.at (h : HRow H v l) {i : Nat} (hi : i < l.length) : ∃ k o, (∀ H' : LH, lixa Tryd.prog 22 v (.int .i64 i) H' = some (ptr k o, H')) ∧ k < H.n ∧ ∀ H' : LH, H'.get k = H.get k →
    lld Tryd.prog 60 (ptr k o) H' = some (hv l[i]) ∧ lld Tryd.prog 9 (ptr k o) H' = some (str l[i].1) ∧ lld Tryd.prog 9 (ptr k (o + 1)) H' = some (str l[i].2) := by
  rcases h with ⟨rfl, rfl⟩ | ⟨k, o, c, rfl, h2⟩
  · simp at hi
  · obtain ⟨b, h2, h3, h4⟩ := h2 (fun e => by rw [e] at hi; simp at hi)
    obtain ⟨g1, g2, g3, g4⟩ := h4 i hi
    refine ⟨k, o + i * 2, fun H' => ?_, h3, fun H' e => ?_⟩
    · have q := eq_true (show (i : Int) < (l.length : Int) by omega)
      simp [q]
    · rw [h2] at e
      have hlt : o + i * 2 < b.cells.length := by omega
      have hlt2 : o + i * 2 + 1 < b.cells.length := by omega
      rw [List.getElem?_eq_getElem hlt] at g3
      rw [List.getElem?_eq_getElem hlt2] at g4
      injection g3 with g3
      injection g4 with g4
      simp [e, g1, g2, g3, g4, hlt, hlt2]
theorem HOwn.row (h : HOwn N H v l) : HRow H v l := by
  rcases h.2 with ⟨rfl, h0⟩ | ⟨k, c, rest, rfl, h1, h2, h3, h4, h5⟩
  · exact .inl ⟨rfl, List.eq_nil_of_length_eq_zero h0⟩
  · refine .inr ⟨k, 0, c, rfl, fun _ => ⟨_, h3, h2, fun i hi => ?_⟩⟩
    have g := Tg.Hd.cells_at hi rest
    have hl := Tg.Hd.cells_len l
    simp only [Nat.zero_add]
    refine ⟨?_, g⟩
    rw [List.length_append, hl]; omega
theorem HOwn.nil : HOwn N H (.slice none 0 0) [] := RowN.nil
theorem h_app (h : HOwn N H v l) (hN : N ≤ H.n) (hl : l.length ≤ 100000) (a b : List UInt8) :
    ∃ v' H2, lapp Tryd.prog 22 v (some (1, [str a, str b])) (H.new ⟨[str a, str b], 60, true⟩) = some (v', H2) ∧ HOwn N H2 v' (l ++ [(a, b)]) ∧ H.n < H2.n ∧ (∀ k, k < H.n → offRow v k → H2.get k = H.get k) ∧ (Full v → Full v') ∧ (∀ k, k < H.n → offRow v k → offRow v' k) := by
  have h2 : HOwn N (H.new ⟨[str a, str b], 60, true⟩) v l := h.keep (Nat.le_succ _) (fun k _ _ hk => get_new_ne (by omega))
  obtain ⟨v', H2, ha, hr, hk, hf⟩ := RowN.app (P := Tryd.prog) (t := 22) (new := [str a, str b]) (m := 1) h2 Tryd.underlying22 (by kernel_rfl) (by simp) (by simp) (by unfold maxElems; omega) (by rw [n_new]; omega) (.inl (Nat.le_refl 1))
  refine ⟨v', H2, ha, ?_, ?_, fun k hkn ho => ?_, hf, fun k hkn ho => ?_⟩
  · have e : Tg.Hd.cells (l ++ [(a, b)]) = Tg.Hd.cells l ++ [str a, str b] := by rw [Tg.Hd.cells_app]; rfl
    rw [HOwn, List.length_append, e]; exact hr
  · have := hk.le; rw [n_new] at this; omega
  · rw [hk.get k (by rw [n_new]; omega) ho, get_new_ne (by omega)]
  · exact hk.off k (by rw [n_new]; omega) ho
theorem odd_cl {h : Tg.Hd.Hdr} (h1 : h.1.length ≤ 1048576) (h2 : h.2.length ≤ 1048576) : LC Tryd.prog EJ 68 [hv h] H = some (.bool (!Tg.Hd.fine h), H) := by
  refine LC_pure rfl Tryd.func68 rfl (Nat.le_of_ble_eq_true rfl) (by decide) (by kernel_rfl) rfl ?_
  have hf := fun H : LH => fine_cl (H := H) h1 h2
  simp [hf, le_refl.new]
theorem index_cl (hr : HRow H v l) (hl : l.length ≤ 1000000) (hs : ∀ h ∈ l, h.1.length ≤ 1048576 ∧ h.2.length ≤ 1048576) : LC Tryd.prog EJ 102 [v, .func (.func 68) #[] #[]] H = some (.int .i64 (oddAt l 0), H) := by
  refine LC_pure rfl Tryd.func102 rfl (Nat.le_of_ble_eq_true rfl) (by decide) (by kernel_rfl) rfl ?_
  obtain ⟨x, hx⟩ : ∃ x, x = oddAt l 0 := ⟨_, rfl⟩
  rw [← hx]
  simp [hr.len]
  refine loop_ind (fun (i : Nat) fr' H' => fr' 0 = v ∧ fr' 1 = .func (.func 68) #[] #[] ∧ fr' 7 = .int .i64 l.length ∧ fr' 8 = .int .i64 i ∧ i ≤ l.length ∧ x = oddAt (l.drop i) i ∧ H' = H) (fun i => l.length - i) 0 ⟨by simp, by simp, by simp, by simp, Nat.zero_le _, hx, rfl⟩ ?_
  rintro i fr' H' ⟨h0, h1, h7, h8, hi, hc, rfl⟩ ih
  by_cases hlt : i < l.length
  · have q := eq_true (show (i : Int) < (l.length : Int) by omega)
    have hw : IntKind.i64.wrap ((i : Int) + 1) = ((i + 1 : Nat) : Int) := by rw [wrapI (by omega) (by omega)]; omega
    obtain ⟨k, o, g1, g2, g3⟩ := hr.at hlt
    obtain ⟨g4, _, _⟩ := g3 H' rfl
    have hm := hs l[i] (List.getElem_mem hlt)
    have ho := fun H : LH => odd_cl (H := H) (h := l[i]) hm.1 hm.2
    rw [List.drop_eq_getElem_cons hlt] at hc
    generalize l[i] = a at *
    unfold oddAt at hc
    cases hf : Tg.Hd.fine a with
    | true =>
      rw [hf, if_pos rfl] at hc
      rw [hf] at ho
      simp [h0, h1, h7, h8, q, hlt, g1, g4, ho]
      refine ih (i + 1) _ _ (by omega) ⟨?_, ?_, ?_, ?_, by omega, hc, rfl⟩
      all_goals simp [h0, h1, h7, hw]
    | false =>
      rw [hf, if_neg (by decide)] at hc
      rw [hf] at ho
      subst hc
      simp [h0, h1, h7, h8, q, hlt, g1, g4, ho]
  · have q := eq_false (show ¬ (i : Int) < (l.length : Int) by omega)
    rw [List.drop_of_length_le (by omega)] at hc
    have hc : x = -1 := hc
    subst hc
    simp [h0, h1, h7, h8, q, hlt]
theorem good_hl (hr : HRow H v l) (hl : l.length ≤ 1000000) (hs : ∀ h ∈ l, h.1.length ≤ 1048576 ∧ h.2.length ≤ 1048576) : LC Tryd.prog EJ 41 [v] H = some (.bool (Tg.Hd.good l), H) := by
  have hi : ∀ H', H' = H → LC Tryd.prog EJ 102 [v, .func (.func 68) #[] #[]] H' = some (.int .i64 (oddAt l 0), H') := fun H' e => by subst e; exact index_cl hr hl hs
  have hc : LC Tryd.prog EJ 69 [v, .func (.func 68) #[] #[]] H = some (.bool (decide (0 ≤ oddAt l 0)), H) := by
    refine LC_pure rfl Tryd.func69 rfl (Nat.le_of_ble_eq_true rfl) (by decide) (by kernel_rfl) rfl ?_
    simp [hi]
  have hodd := odd_iff l 0
  refine LC_pure rfl Tryd.func41 rfl (Nat.le_of_ble_eq_true rfl) (by decide) (by kernel_rfl) rfl ?_
  unfold Tg.Hd.good
  by_cases h1 : l.length ≤ 100
  · have q := eq_true (show (l.length : Int) ≤ 100 by omega)
    cases hall : l.all Tg.Hd.fine with
    | true =>
      rw [hall] at hodd
      rw [decide_eq_false (by rw [hodd]; decide)] at hc
      simp [hr.len, q, h1, hc]
    | false =>
      rw [hall] at hodd
      rw [decide_eq_true (by rw [hodd])] at hc
      simp [hr.len, q, h1, hc]
  · have q := eq_false (show ¬ (l.length : Int) ≤ 100 by omega)
    simp [hr.len, q, h1]
end
end Go.Proofs.YteckofomnhminaaDoor
/-
  Layer 22 (header): what the reference's functions come to: texts, tokens, good headers.
-/
set_option linter.unusedSimpArgs false
set_option linter.unusedVariables false
set_option maxRecDepth 100000
namespace Tg.Hd
theorem trimE_cons (c : UInt8) (r : List UInt8) : trimE (c :: r) = if trimE r = [] ∧ white c = true then [] else c :: trimE r := by
  unfold trimE
  rw [List.reverse_cons, List.dropWhile_append]
  cases hd : r.reverse.dropWhile white with
  | nil =>
    simp only [List.isEmpty_nil, if_true, List.reverse_nil, true_and]
    cases hw : white c with
    | true => simp [hw]
    | false => simp [hw]
  | cons x l => simp
theorem trim_front : ∀ s : List UInt8, trimE (s.dropWhile white) = trim s
  | [] => rfl
  | c :: r => by
    have ih := trim_front r
    unfold trim at ih ⊢
    rw [trimE_cons, List.dropWhile_cons]
    cases hw : white c with
    | true =>
      simp only [if_true, and_true]
      split
      · rename_i h; rw [ih, h]
      · rw [List.dropWhile_cons, if_pos hw]; exact ih
    | false =>
      simp only [Bool.false_eq_true, if_false, and_false]
      rw [trimE_cons, hw]
      simp only [Bool.false_eq_true, and_false, if_false]
      rw [List.dropWhile_cons, if_neg (by rw [hw]; decide)]
end Tg.Hd
namespace Go.Proofs.YteckofomnhminaaDoor
open Go.Lg Go.Tg
section
variable {H : LH} {b : UInt8} {s p : List UInt8}
theorem htn_ne {c b : UInt8} (h : ¬ c = b) : ((c.toNat : Int) = (b.toNat : Int)) = False := eq_false (fun e => h (UInt8.toNat_inj.mp (by omega)))
theorem hhas_cl (hs : s.length ≤ 1048576) : LC Tryd.prog EJ 64 [str s, .int .u8 b.toNat] H = some (.bool (s.contains b), H) := by
  refine LC_pure rfl Tryd.func64 rfl (Nat.le_of_ble_eq_true rfl) (by decide) (by kernel_rfl) rfl ?_
  obtain ⟨x, hx⟩ : ∃ x, x = s.contains b := ⟨_, rfl⟩
  rw [← hx]
  simp
  refine loop_ind (fun (i : Nat) fr' H' => fr' 0 = str s ∧ fr' 1 = .int .u8 b.toNat ∧ fr' 5 = .int .i64 i ∧ i ≤ s.length ∧ x = (s.drop i).contains b ∧ H' = H) (fun i => s.length - i) 0 ⟨by simp, by simp, by simp, Nat.zero_le _, hx, rfl⟩ ?_
  rintro i fr' H' ⟨h0, h1, h5, hi, hc, rfl⟩ ih
  by_cases hlt : i < s.length
  · have q := eq_true (show (i : Int) < (s.length : Int) by omega)
    have hat : at_ s (i : Int) = s[i] := at_in hlt
    have hw : IntKind.i64.wrap ((i : Int) + 1) = ((i + 1 : Nat) : Int) := by rw [wrapI (by omega) (by omega)]; omega
    rw [List.drop_eq_getElem_cons hlt, List.contains_cons] at hc
    generalize s[i] = c at *
    by_cases hcb : c = b
    · subst hcb
      have hc : x = true := by rw [hc]; simp
      subst hc
      simp [h0, h1, h5, q, hat]
    · have hbc : (b == c) = false := by simp; exact fun e => hcb e.symm
      rw [hbc, Bool.false_or] at hc
      have hcb := htn_ne hcb
      simp [h0, h1, h5, q, hat, hcb]
      refine ih (i + 1) _ _ (by omega) ⟨?_, ?_, ?_, by omega, hc, rfl⟩
      all_goals simp [h0, h1, hw]
  · have q := eq_false (show ¬ (i : Int) < (s.length : Int) by omega)
    rw [List.drop_of_length_le (by omega)] at hc
    have hc : x = false := hc
    subst hc
    simp [h0, h1, h5, q]
theorem hwhite_cl : LC Tryd.prog EJ 75 [.int .u8 b.toNat] H = some (.bool (Tg.Hd.white b), H) := by
  refine LC_pure rfl Tryd.func75 rfl (Nat.le_of_ble_eq_true rfl) (by decide) (by kernel_rfl) rfl ?_
  have hh := fun H : LH => hhas_cl (H := H) (s := [9, 10, 13, 32]) (b := b) (by decide)
  have e : ([9, 10, 13, 32] : List UInt8).contains b = Tg.Hd.white b := rfl
  rw [e] at hh
  simp [hh]
theorem htrim_cl (hs : s.length ≤ 1048576) : LC Tryd.prog EJ 44 [str s] H = some (str (Tg.Hd.trim s), H) := by
  refine LC_pure rfl Tryd.func44 rfl (Nat.le_of_ble_eq_true rfl) (by decide) (by kernel_rfl) rfl ?_
  have hw := fun (H : LH) (b : UInt8) => hwhite_cl (H := H) (b := b)
  rw [← Tg.Hd.trim_front]
  refine runs_cut 2 (fun fr' H' => fr' 0 = str (s.dropWhile Tg.Hd.white) ∧ H' = H) ?_ (fun K2 hK2 => ?_) rfl
  · rintro fr' H' ⟨f0, rfl⟩
    have hll : (s.dropWhile Tg.Hd.white).length ≤ 1048576 := Nat.le_trans (dw_le _) hs
    generalize s.dropWhile Tg.Hd.white = t at *
    obtain ⟨y, hy⟩ : ∃ y, y = Tg.Hd.trimE t := ⟨_, rfl⟩
    rw [← hy]
    unfold Tg.Hd.trimE at hy
    simp
    refine loop_ind (fun (t' : List UInt8) fr'' H'' => fr'' 0 = str t' ∧ t'.length ≤ 1048576 ∧ y = (t'.reverse.dropWhile Tg.Hd.white).reverse ∧ H'' = H') (fun t' => t'.length) t ⟨by simp [f0], hll, hy, rfl⟩ ?_
    rintro t' fr' H' ⟨h0, hl, hc, rfl⟩ ih
    rcases List.eq_nil_or_concat t' with rfl | ⟨r, c, rfl⟩
    · have hc : y = [] := hc
      subst hc
      simp [h0]
    · rw [List.concat_eq_append] at *
      rw [List.reverse_append, List.reverse_singleton, List.singleton_append, List.dropWhile_cons] at hc
      have hlen : (r ++ [c]).length = r.length + 1 := by simp
      have hat : at_ (r ++ [c]) (r.length : Int) = c := by
        rw [at_in (by simp)]; simp
      have hw2 : IntKind.i64.wrap (((r.length : Int) + 1) - 1) = (r.length : Int) := by rw [wrapI (by omega) (by omega)]; omega
      have hw4 : IntKind.i64.wrap (r.length : Int) = (r.length : Int) := wrapI (by omega) (by omega)
      have q1 := eq_true (show (0 : Int) < (r.length : Int) + 1 by omega)
      have q2 := eq_true (show (r.length : Int) < (r.length : Int) + 1 by omega)
      have q3 := eq_true (show (r.length : Int) ≤ (r.length : Int) + 1 by omega)
      have hwc := fun H => hw H c
      cases h32 : Tg.Hd.white c with
      | true =>
        rw [h32] at hc hwc
        rw [if_pos rfl] at hc
        simp [h0, hw2, hw4, q1, q2, q3, hat, hwc]
        refine ih r _ _ (by simp) ⟨?_, by omega, hc, rfl⟩
        simp
      | false =>
        rw [h32] at hc hwc
        rw [if_neg (by decide)] at hc
        have hc : y = r ++ [c] := by rw [hc]; simp
        subst hc
        simp [h0, hw2, hw4, q1, q2, q3, hat, hwc]
  have hfin := fun fr' (g0 : fr' 0 = str (s.dropWhile Tg.Hd.white)) => hK2 fr' _ ⟨g0, rfl⟩
  clear hK2
  obtain ⟨y, hy⟩ : ∃ y, y = s.dropWhile Tg.Hd.white := ⟨_, rfl⟩
  rw [← hy] at hfin ⊢
  simp
  refine loop_ind (fun (t' : List UInt8) fr' H' => fr' 0 = str t' ∧ t'.length ≤ 1048576 ∧ y = t'.dropWhile Tg.Hd.white ∧ H' = H) (fun t' => t'.length) s ⟨by simp, hs, hy, rfl⟩ ?_
  rintro t' fr' H' ⟨h0, hl, hc, rfl⟩ ih
  cases t' with
  | nil =>
    have hc : y = [] := hc
    subst hc
    simp [h0]
    refine hfin _ ?_
    all_goals simp [h0]
  | cons c r =>
    rw [List.dropWhile_cons] at hc
    have a0 : at_ (c :: r) 0 = c := rfl
    have q1 := eq_true (show (0 : Int) < (r.length : Int) + 1 by omega)
    have q2 := eq_true (show (1 : Int) ≤ (r.length : Int) + 1 by omega)
    have hwc := fun H => hw H c
    cases h32 : Tg.Hd.white c with
    | true =>
      rw [h32] at hc hwc
      rw [if_pos rfl] at hc
      simp [h0, a0, q1, q2, hwc]
      refine ih r _ _ (by simp) ⟨?_, by simp at hl; omega, hc, rfl⟩
      all_goals simp
    | false =>
      rw [h32] at hc hwc
      rw [if_neg (by decide)] at hc
      subst hc
      simp [h0, a0, q1, q2, hwc]
      refine hfin _ ?_
      all_goals simp [h0]
theorem hdigit_cl : LC Tryd.prog EJ 83 [.int .u8 b.toNat] H = some (.bool (Tg.Hd.isD b), H) := by
  refine LC_pure rfl Tryd.func83 rfl (Nat.le_of_ble_eq_true rfl) (by decide) (by kernel_rfl) rfl ?_
  unfold Tg.Hd.isD
  by_cases h1 : (48 : Int) ≤ b.toNat <;> by_cases h2 : (b.toNat : Int) ≤ 57 <;> simp [h1, h2]
theorem hletter_cl : LC Tryd.prog EJ 137 [.int .u8 b.toNat] H = some (.bool (Tg.Hd.isL b), H) := by
  refine LC_pure rfl Tryd.func137 rfl (Nat.le_of_ble_eq_true rfl) (by decide) (by kernel_rfl) rfl ?_
  unfold Tg.Hd.isL
  by_cases h1 : (97 : Int) ≤ b.toNat <;> by_cases h2 : (b.toNat : Int) ≤ 122 <;> by_cases h3 : (65 : Int) ≤ b.toNat <;> by_cases h4 : (b.toNat : Int) ≤ 90 <;> simp [h1, h2, h3, h4]
theorem htoken_cl : LC Tryd.prog EJ 101 [.int .u8 b.toNat] H = some (.bool (Tg.Hd.tok b), H) := by
  refine LC_pure rfl Tryd.func101 rfl (Nat.le_of_ble_eq_true rfl) (by decide) (by kernel_rfl) rfl ?_
  have h1 := fun H : LH => hletter_cl (H := H) (b := b)
  have h2 := fun H : LH => hdigit_cl (H := H) (b := b)
  have h3 := fun H : LH => hhas_cl (H := H) (s := [33, 35, 36, 37, 38, 39, 42, 43, 45, 46, 94, 95, 96, 124, 126]) (b := b) (by decide)
  have e : ([33, 35, 36, 37, 38, 39, 42, 43, 45, 46, 94, 95, 96, 124, 126] : List UInt8).contains b = Tg.Hd.signs.contains b := by
    unfold Tg.Hd.signs
    rw [Bool.eq_iff_iff]
    simp only [List.contains_eq_mem, List.mem_cons, List.not_mem_nil, or_false, decide_eq_true_eq]
    constructor <;> intro h <;> rcases h with h | h | h | h | h | h | h | h | h | h | h | h | h | h | h <;> simp [h]
  rw [e] at h3
  unfold Tg.Hd.tok
  cases e1 : Tg.Hd.isL b with
  | true => rw [e1] at h1; simp [h1]
  | false =>
    rw [e1] at h1
    cases e2 : Tg.Hd.isD b with
    | true => rw [e2] at h2; simp [h1, h2]
    | false =>
      rw [e2] at h2
      simp [h1, h2, h3]
theorem htokens_cl (hs : s.length ≤ 1048576) : LC Tryd.prog EJ 65 [str s] H = some (.bool (s.all Tg.Hd.tok && decide (s ≠ [])), H) := by
  refine LC_pure rfl Tryd.func65 rfl (Nat.le_of_ble_eq_true rfl) (by decide) (by kernel_rfl) rfl ?_
  have hh := fun (H : LH) (b : UInt8) => htoken_cl (H := H) (b := b)
  obtain ⟨x, hx⟩ : ∃ x, x = (s.all Tg.Hd.tok && decide (s ≠ [])) := ⟨_, rfl⟩
  rw [← hx]
  simp
  refine loop_ind (fun (i : Nat) fr' H' => fr' 0 = str s ∧ fr' 3 = .int .i64 i ∧ i ≤ s.length ∧ x = ((s.drop i).all Tg.Hd.tok && decide (s ≠ [])) ∧ H' = H) (fun i => s.length - i) 0 ⟨by simp, by simp, Nat.zero_le _, hx, rfl⟩ ?_
  rintro i fr' H' ⟨h0, h3, hi, hc, rfl⟩ ih
  by_cases hlt : i < s.length
  · have q := eq_true (show (i : Int) < (s.length : Int) by omega)
    have hat : at_ s (i : Int) = s[i] := at_in hlt
    have hw : IntKind.i64.wrap ((i : Int) + 1) = ((i + 1 : Nat) : Int) := by rw [wrapI (by omega) (by omega)]; omega
    rw [List.drop_eq_getElem_cons hlt, List.all_cons] at hc
    have hhc := fun H => hh H s[i]
    generalize s[i] = c at *
    cases hcb : Tg.Hd.tok c with
    | false =>
      rw [hcb] at hc hhc
      have hc : x = false := by rw [hc]; simp
      subst hc
      simp [h0, h3, q, hat, hhc]
    | true =>
      rw [hcb, Bool.true_and] at hc
      rw [hcb] at hhc
      simp [h0, h3, q, hat, hhc]
      refine ih (i + 1) _ _ (by omega) ⟨?_, ?_, by omega, hc, rfl⟩
      all_goals simp [h0, hw]
  · have q := eq_false (show ¬ (i : Int) < (s.length : Int) by omega)
    rw [List.drop_of_length_le (by omega)] at hc
    have hc : x = decide (s ≠ []) := by rw [hc]; simp
    subst hc
    by_cases hn : s = []
    · subst hn
      have qn := eq_false (show ¬ (i : Int) < 0 by omega)
      simp [h0, h3, qn]
    · simp [h0, h3, q, hn]
theorem hfine_cl {h : Tg.Hd.Hdr} (h1 : h.1.length ≤ 1048576) (h2 : h.2.length ≤ 1048576) : LC Tryd.prog EJ 39 [hv h] H = some (.bool (Tg.Hd.fine h), H) := by
  refine LC_pure rfl Tryd.func39 rfl (Nat.le_of_ble_eq_true rfl) (by decide) (by kernel_rfl) rfl ?_
  have hle : H.le (H.new (hb h)) := le_refl.new
  obtain ⟨x, hx⟩ : ∃ x, x = Tg.Hd.fine h := ⟨_, rfl⟩
  rw [← hx]
  unfold Tg.Hd.fine at hx
  have ha := fun H : LH => htokens_cl (H := H) (s := h.1) (by omega)
  have ht := fun H : LH => htrim_cl (H := H) (s := h.2) (by omega)
  have hh := fun (H : LH) (b : UInt8) => hhas_cl (H := H) (s := [0, 13, 10]) (b := b) (by decide)
  obtain ⟨n, v⟩ := h
  simp only at *
  refine runs_cut 2 (fun fr' H' => fr' 1 = ptr H.n 0 ∧ H' = H.new (hb (n, v)) ∧ Tg.Hd.free [0, 13, 10] v = true) ?_ (fun K3 hK3 => ?_) rfl
  · rintro fr' H' ⟨f1, rfl, hfr⟩
    rw [hfr] at hx
    by_cases e1 : n = []
    · have : x = false := by rw [hx]; simp [e1]
      subst this
      subst e1
      simp [f1, ha, hle]
    · cases e2 : n.all Tg.Hd.tok with
      | false =>
        have : x = false := by rw [hx, e2]; simp
        subst this
        rw [e2] at ha
        simp [f1, ha, hle]
      | true =>
        rw [e2] at ha hx
        by_cases e3 : Tg.Hd.trim v = v
        · by_cases e5 : v.length ≤ 8192
          · have : x = true := by rw [hx]; simp [e1, e3, e5]
            subst this
            have q5 := eq_true (show (v.length : Int) < 8193 by omega)
            simp [f1, e1, ha, ht, e3, q5, hle]
          · have : x = false := by rw [hx]; simp [e5]
            subst this
            have q5 := eq_false (show ¬ (v.length : Int) < 8193 by omega)
            simp [f1, e1, ha, ht, e3, q5, hle]
        · have : x = false := by rw [hx]; simp [e3]
          subst this
          simp [f1, e1, ha, ht, e3, hle]
  have hfin := fun fr' (g1 : fr' 1 = ptr H.n 0) (g : Tg.Hd.free [0, 13, 10] v = true) => hK3 fr' _ ⟨g1, rfl, g⟩
  have hno : Tg.Hd.free [0, 13, 10] v = false → x = false := fun e => by rw [hx, e]; simp
  clear hK3 hx ha ht
  obtain ⟨y, hy⟩ : ∃ y, y = Tg.Hd.free [0, 13, 10] v := ⟨_, rfl⟩
  rw [← hy] at hfin hno
  unfold Tg.Hd.free at hy
  simp
  refine loop_ind (fun (i : Nat) fr' H' => fr' 1 = ptr H.n 0 ∧ fr' 3 = .int .i64 i ∧ i ≤ v.length ∧ y = (v.drop i).all (fun b => !([0, 13, 10] : List UInt8).contains b) ∧ H' = H.new (hb (n, v))) (fun i => v.length - i) 0 ⟨by simp, by simp, Nat.zero_le _, hy, rfl⟩ ?_
  rintro i fr' H' ⟨h0, h3, hi, hc, rfl⟩ ih
  by_cases hlt : i < v.length
  · have q := eq_true (show (i : Int) < (v.length : Int) by omega)
    have hat : at_ v (i : Int) = v[i] := at_in hlt
    have hw : IntKind.i64.wrap ((i : Int) + 1) = ((i + 1 : Nat) : Int) := by rw [wrapI (by omega) (by omega)]; omega
    rw [List.drop_eq_getElem_cons hlt, List.all_cons] at hc
    have hhc := fun H => hh H v[i]
    generalize v[i] = c at *
    cases hcb : ([0, 13, 10] : List UInt8).contains c with
    | true =>
      rw [hcb] at hc hhc
      have hc : y = false := by rw [hc]; simp
      have := hno hc
      subst this
      simp [h0, h3, q, hlt, hat, hhc, hle]
    | false =>
      rw [hcb] at hc hhc
      have hc : y = (v.drop (i + 1)).all (fun b => !([0, 13, 10] : List UInt8).contains b) := by rw [hc]; simp
      simp [h0, h3, q, hlt, hat, hhc]
      refine ih (i + 1) _ _ (by omega) ⟨?_, ?_, by omega, hc, rfl⟩
      all_goals simp [h0, hw]
  · have q := eq_false (show ¬ (i : Int) < (v.length : Int) by omega)
    rw [List.drop_of_length_le (by omega)] at hc
    have hc : y = true := hc
    simp [h0, h3, q, hlt]
    refine hfin _ ?_ hc
    all_goals simp [h0]
end
end Go.Proofs.YteckofomnhminaaDoor
/-
  Layer 22 (header): lists of headers: good ones, the same ones, their text, the first ones cut.
-/
set_option linter.unusedSimpArgs false
set_option linter.unusedVariables false
set_option maxRecDepth 100000
namespace Tg.Hd
theorem text_app (a b : List Hdr) : text (a ++ b) = text a ++ text b := List.flatMap_append
theorem text_one (h : Hdr) : text [h] = h.1 ++ [58, 32] ++ h.2 ++ [13, 10] := by unfold text; simp
theorem text_len {m : Nat} : ∀ {l : List Hdr}, (∀ h ∈ l, h.1.length ≤ m ∧ h.2.length ≤ m) → (text l).length ≤ l.length * (2 * m + 4)
  | [], _ => by simp [text]
  | h :: l, hs => by
    have ih := text_len (l := l) (fun x hx => hs x (by simp [hx]))
    have := hs h (by simp)
    have e : text (h :: l) = (h.1 ++ [58, 32] ++ h.2 ++ [13, 10]) ++ text l := by unfold text; rw [List.flatMap_cons]
    rw [e, List.length_append, List.length_cons, Nat.add_mul]
    simp
    omega
end Tg.Hd
namespace Go.Proofs.YteckofomnhminaaDoor
open Go.Lg Go.Tg
section
variable {H : LH} {v w : Value} {l m : List Tg.Hd.Hdr} {N : Nat}
theorem hgood_cl (hr : HRow H v l) (hl : l.length ≤ 1000000) (hs : ∀ h ∈ l, h.1.length ≤ 1048576 ∧ h.2.length ≤ 1048576) : LC Tryd.prog EJ 13 [v] H = some (.bool (Tg.Hd.good l), H) := by
  refine LC_pure rfl Tryd.func13 rfl (Nat.le_of_ble_eq_true rfl) (by decide) (by kernel_rfl) rfl ?_
  obtain ⟨x, hx⟩ : ∃ x, x = Tg.Hd.good l := ⟨_, rfl⟩
  rw [← hx]
  unfold Tg.Hd.good at hx
  have hx : x = (decide (l.length ≤ 100) && (l.drop 0).all Tg.Hd.fine) := hx
  simp
  refine loop_ind (fun (i : Nat) fr' H' => fr' 0 = v ∧ fr' 3 = .int .i64 i ∧ i ≤ l.length ∧ x = (decide (l.length ≤ 100) && (l.drop i).all Tg.Hd.fine) ∧ H' = H) (fun i => l.length - i) 0 ⟨by simp, by simp, Nat.zero_le _, hx, rfl⟩ ?_
  rintro i fr' H' ⟨h0, h3, hi, hc, rfl⟩ ih
  by_cases hlt : i < l.length
  · have q := eq_true (show (i : Int) < (l.length : Int) by omega)
    have hw : IntKind.i64.wrap ((i : Int) + 1) = ((i + 1 : Nat) : Int) := by rw [wrapI (by omega) (by omega)]; omega
    obtain ⟨k, o, g1, g2, g3⟩ := hr.at hlt
    obtain ⟨g4, _, _⟩ := g3 H' rfl
    have hm := hs l[i] (List.getElem_mem hlt)
    have ho := fun H : LH => hfine_cl (H := H) (h := l[i]) hm.1 hm.2
    rw [List.drop_eq_getElem_cons hlt, List.all_cons] at hc
    generalize l[i] = a at *
    cases hf : Tg.Hd.fine a with
    | true =>
      rw [hf] at hc ho
      simp [h0, h3, q, hlt, g1, g4, ho, hr.len]
      refine ih (i + 1) _ _ (by omega) ⟨?_, ?_, by omega, by rw [hc]; rfl, rfl⟩
      all_goals simp [h0, hw]
    | false =>
      rw [hf] at hc ho
      have hc : x = false := by rw [hc]; simp
      subst hc
      simp [h0, h3, q, hlt, g1, g4, ho, hr.len]
  · have q := eq_false (show ¬ (i : Int) < (l.length : Int) by omega)
    rw [List.drop_of_length_le (by omega)] at hc
    have hc : x = decide (l.length ≤ 100) := by rw [hc]; simp
    by_cases h1 : l.length ≤ 100
    · have q1 := eq_true (show (l.length : Int) < 101 by omega)
      rw [decide_eq_true h1] at hc
      subst hc
      simp [h0, h3, q, q1, hr.len]
    · have q1 := eq_false (show ¬ (l.length : Int) < 101 by omega)
      rw [decide_eq_false h1] at hc
      subst hc
      simp [h0, h3, q, q1, hr.len]
theorem hbin_neq {P : Program} {t : TypeId} {xs ys : List Value} {b : Bool} (hx : flatB (.agg ⟨xs⟩) = true) (hy : flatB (.agg ⟨ys⟩) = true) (hg : P.eqGuardType P.depth t = false)
    (he : pureVal P (Op.equalIn Op.maxDepth t (.agg ⟨xs⟩) (.agg ⟨ys⟩)) = some b) : lbin P .neq t (.agg ⟨xs⟩) (.agg ⟨ys⟩) = some (.bool (!b)) := by
  unfold lbin
  simp only
  rw [if_pos (by rw [hx, hy]; rfl)]
  unfold pureFlat eqGuard
  simp only [binOp, Op.equal, pureVal_bind]
  have e1 : ∀ X Y : Value, pureVal P (if (!true) = true then (pure () : Sem Unit) else do
      let __do_lift ← program
      let __do_lift_1 ← program
      if (!__do_lift.eqGuardType __do_lift_1.depth t) = true then pure ()
      else do
        let __do_lift ← Op.eqGuardIn Op.maxDepth t X Y
        if __do_lift = true then unsupported (Unsupported.noEntry "binop/eql: two nil values of an interface type with methods, in a part of a struct or an array") else pure ()) = some () := by
    intro X Y
    rw [if_neg (by decide)]
    simp only [pureVal_bind, pureVal_program, Option.bind_some, hg, Bool.not_false, if_true, pureVal_pure]
  rw [e1, he]
  rfl
theorem hdr_in {a b : Tg.Hd.Hdr} : pureVal Tryd.prog (Op.equalIn Op.maxDepth 60 (hv a) (hv b)) = some (decide (a = b)) := by
  show pureVal Tryd.prog (Op.equalIn ((9998 + 1) + 1) _ _ _) = _
  have hs : Tryd.prog.stoodInHeld 60 = false := by kernel_rfl
  obtain ⟨a1, a2⟩ := a
  obtain ⟨b1, b2⟩ := b
  unfold Op.equalIn
  simp only [pureVal_bind, pureVal_und, Tryd.underlying60, Option.bind_some, pureVal_program, hs, Bool.false_eq_true, if_false, pureVal_pure]
  by_cases h1 : a1 = b1 <;> by_cases h2 : a2 = b2 <;>
    simp [← Array.forIn_toList, pureVal_bind, part_cell, eqIn_int, eqIn_str, eqIn_bool, h1, h2, Tryd.underlying3, Tryd.underlying9, Tryd.underlying4]
theorem hdr_eq {a b : Tg.Hd.Hdr} : lbin Tryd.prog .eql 60 (hv a) (hv b) = some (.bool (decide (a = b))) := lbin_agg rfl rfl (by kernel_rfl) hdr_in
theorem hdr_ne {a b : Tg.Hd.Hdr} : lbin Tryd.prog .neq 60 (hv a) (hv b) = some (.bool (!decide (a = b))) := hbin_neq rfl rfl (by kernel_rfl) hdr_in
theorem hsame_cl (hr : HRow H v l) (hw : HRow H w m) (hl : l.length ≤ 1000000) : LC Tryd.prog EJ 14 [v, w] H = some (.bool (decide (l = m)), H) := by
  refine LC_pure rfl Tryd.func14 rfl (Nat.le_of_ble_eq_true rfl) (by decide) (by kernel_rfl) rfl ?_
  by_cases hlm : l.length = m.length
  · obtain ⟨x, hx⟩ : ∃ x, x = decide (l.drop 0 = m.drop 0) := ⟨_, rfl⟩
    have e : decide (l = m) = x := hx.symm
    rw [e]
    have q0 := eq_true (show (l.length : Int) = (m.length : Int) by omega)
    simp [hr.len, hw.len, q0, hlm]
    refine loop_ind (fun (i : Nat) fr' H' => fr' 0 = v ∧ fr' 1 = w ∧ fr' 5 = .int .i64 i ∧ i ≤ l.length ∧ x = decide (l.drop i = m.drop i) ∧ H' = H) (fun i => l.length - i) 0 ⟨by simp, by simp, by simp, Nat.zero_le _, hx, rfl⟩ ?_
    rintro i fr' H' ⟨h0, h1, h5, hi, hc, rfl⟩ ih
    by_cases hlt : i < l.length
    · have q := eq_true (show (i : Int) < (m.length : Int) by omega)
      have q' := eq_true (show (i : Int) < (l.length : Int) by omega)
      have hlt2 : i < m.length := by omega
      have hw1 : IntKind.i64.wrap ((i : Int) + 1) = ((i + 1 : Nat) : Int) := by rw [wrapI (by omega) (by omega)]; omega
      obtain ⟨k, o, g1, g2, g3⟩ := hr.at hlt
      obtain ⟨k', o', g1', g2', g3'⟩ := hw.at hlt2
      obtain ⟨g4, _, _⟩ := g3 H' rfl
      obtain ⟨g4', _, _⟩ := g3' H' rfl
      have hne := fun a b => hdr_ne (a := a) (b := b)
      rw [List.drop_eq_getElem_cons hlt, List.drop_eq_getElem_cons hlt2] at hc
      generalize l[i] = a at *
      generalize m[i] = b at *
      by_cases hab : a = b
      · subst hab
        have hc : x = decide (l.drop (i + 1) = m.drop (i + 1)) := by rw [hc]; simp
        simp [h0, h1, h5, q, q', hlt, hlt2, g1, g4, g1', g4', hne, hr.len]
        refine ih (i + 1) _ _ (by omega) ⟨?_, ?_, ?_, by omega, hc, rfl⟩
        all_goals simp [h0, h1, hw1]
      · have hc : x = false := by rw [hc]; simp [hab]
        subst hc
        simp [h0, h1, h5, q, q', hlt, hlt2, g1, g4, g1', g4', hne, hab, hr.len]
    · have q := eq_false (show ¬ (i : Int) < (m.length : Int) by omega)
      have q' := eq_false (show ¬ (i : Int) < (l.length : Int) by omega)
      rw [List.drop_of_length_le (by omega), List.drop_of_length_le (by omega)] at hc
      have hc : x = true := hc
      subst hc
      simp [h0, h1, h5, q, q', hlt, hr.len]
  · have e : decide (l = m) = false := decide_eq_false (fun e => hlm (by rw [e]))
    have q0 := eq_false (show ¬ (l.length : Int) = (m.length : Int) by omega)
    rw [e]
    simp [hr.len, hw.len, q0, hlm]
theorem htext_cl (hr : HRow H v l) (hl : l.length ≤ 1000) (hs : ∀ h ∈ l, h.1.length ≤ 1000 ∧ h.2.length ≤ 1000) : LC Tryd.prog EJ 11 [v] H = some (str (Tg.Hd.text l), H) := by
  refine LC_pure rfl Tryd.func11 rfl (Nat.le_of_ble_eq_true rfl) (by decide) (by kernel_rfl) rfl ?_
  simp
  refine loop_ind (fun (i : Nat) fr' H' => fr' 0 = v ∧ fr' 3 = str (Tg.Hd.text (l.take i)) ∧ fr' 4 = .int .i64 i ∧ i ≤ l.length ∧ H' = H) (fun i => l.length - i) 0 ⟨by simp, by simp [Tg.Hd.text], by simp, Nat.zero_le _, rfl⟩ ?_
  rintro i fr' H' ⟨h0, h3, h4, hi, rfl⟩ ih
  by_cases hlt : i < l.length
  · have q := eq_true (show (i : Int) < (l.length : Int) by omega)
    have hw1 : IntKind.i64.wrap ((i : Int) + 1) = ((i + 1 : Nat) : Int) := by rw [wrapI (by omega) (by omega)]; omega
    obtain ⟨k, o, g1, g2, g3⟩ := hr.at hlt
    obtain ⟨_, g4, g5⟩ := g3 H' rfl
    have hm := hs l[i] (List.getElem_mem hlt)
    have htl := Tg.Hd.text_len (m := 1000) (l := l.take i) (fun h hh => hs h (List.mem_of_mem_take hh))
    rw [List.length_take] at htl
    have hnew : Tg.Hd.text (l.take (i + 1)) = Tg.Hd.text (l.take i) ++ (l[i].1 ++ [58, 32] ++ l[i].2 ++ [13, 10]) := by
      rw [List.take_succ_eq_append_getElem hlt, Tg.Hd.text_app, Tg.Hd.text_one]
    have htb : (Tg.Hd.text (l.take i)).length ≤ 2004000 := by
      refine Nat.le_trans htl ?_
      have : min i l.length ≤ 1000 := by omega
      have := Nat.mul_le_mul_right 2004 this
      omega
    generalize ht' : Tg.Hd.text (l.take (i + 1)) = t' at *
    generalize Tg.Hd.text (l.take i) = t at *
    generalize l[i] = a at *
    have cat := fun (x y : List UInt8) (hh : x.length + y.length ≤ 9000000) => lbin_cat (P := Tryd.prog) (t := 9) (x := x) (y := y) (by omega)
    have c1 := cat t a.1 (by omega)
    have c2 := cat (t ++ a.1) [58, 32] (by simp; omega)
    have c3 := cat (t ++ a.1 ++ [58, 32]) a.2 (by simp; omega)
    have c4 := cat (t ++ a.1 ++ [58, 32] ++ a.2) [13, 10] (by simp; omega)
    have e : t ++ a.1 ++ [58, 32] ++ a.2 ++ [13, 10] = t' := by rw [hnew]; simp
    rw [e] at c4
    simp only [List.append_assoc, List.cons_append, List.nil_append] at c1 c2 c3 c4
    simp [h0, h3, h4, q, hlt, g1, g4, g5, c1, c2, c3, c4, hr.len]
    refine ih (i + 1) _ _ (by omega) ⟨?_, ?_, ?_, by omega, rfl⟩
    all_goals simp [h0, hw1, ht']
  · have q := eq_false (show ¬ (i : Int) < (l.length : Int) by omega)
    rw [List.take_of_length_le (by omega)] at h3
    simp [h0, h3, h4, q, hr.len]
end
end Go.Proofs.YteckofomnhminaaDoor
/-
  Layer 22 (header): the text of headers by the code; the first headers, cut.
-/
set_option linter.unusedSimpArgs false
set_option linter.unusedVariables false
set_option maxRecDepth 100000
namespace Go.Proofs.YteckofomnhminaaDoor
open Go.Lg Go.Tg
section
variable {H : LH} {v w : Value} {l m : List Tg.Hd.Hdr} {N : Nat} {s : List UInt8}
theorem ctext_cl (hr : HRow H v l) (hl : l.length ≤ 400) (hs : ∀ h ∈ l, h.1.length ≤ 1000 ∧ h.2.length ≤ 1000) : LC Tryd.prog EJ 10 [v] H = some (str (Tg.Hd.text l), H) := by
  refine LC_pure rfl Tryd.func10 rfl (Nat.le_of_ble_eq_true rfl) (by decide) (by kernel_rfl) rfl ?_
  simp [hr.len]
  have hN : H.n ≤ H.n := Nat.le_refl _
  refine loop_ind (fun (i : Nat) fr' H' => fr' 3 = ptr H.n 0 ∧ fr' 6 = v ∧ fr' 7 = .int .i64 l.length ∧ fr' 8 = .int .i64 i ∧ i ≤ l.length ∧ (∃ bv, Bld H.n H' H.n (Tg.Hd.text (l.take i)) bv) ∧ ∀ k, k < H.n → H'.get k = H.get k) (fun i => l.length - i) 0 ⟨by simp, by simp, by simp, by simp, Nat.zero_le _, ⟨_, Bld.first⟩, fun k hk => get_new_ne (by omega)⟩ ?_
  rintro i fr' H' ⟨h3, h6, h7, h8, hi, ⟨bw, hb⟩, hle⟩ ih
  have hHn := hb.lt
  by_cases hlt : i < l.length
  · have q := eq_true (show (i : Int) < (l.length : Int) by omega)
    have hw1 : IntKind.i64.wrap ((i : Int) + 1) = ((i + 1 : Nat) : Int) := by rw [wrapI (by omega) (by omega)]; omega
    obtain ⟨k, o, g1, g2, g3⟩ := hr.at hlt
    obtain ⟨g4, _, _⟩ := g3 H' (hle k g2)
    have hm := hs l[i] (List.getElem_mem hlt)
    have htl := Tg.Hd.text_len (m := 1000) (l := l.take i) (fun h hh => hs h (List.mem_of_mem_take hh))
    rw [List.length_take] at htl
    have hnew : Tg.Hd.text (l.take (i + 1)) = Tg.Hd.text (l.take i) ++ (l[i].1 ++ [58, 32] ++ l[i].2 ++ [13, 10]) := by
      rw [List.take_succ_eq_append_getElem hlt, Tg.Hd.text_app, Tg.Hd.text_one]
    have htb : (Tg.Hd.text (l.take i)).length ≤ 801600 := by
      refine Nat.le_trans htl ?_
      have : min i l.length ≤ 400 := by omega
      have := Nat.mul_le_mul_right 2004 this
      omega
    have ihx := fun fr2 H2 => ih (i + 1) fr2 H2 (by omega)
    clear ih
    generalize Tg.Hd.text (l.take (i + 1)) = t' at *
    generalize Tg.Hd.text (l.take i) = t at *
    generalize l[i] = a at *
    have cat := fun (x y : List UInt8) (hh : x.length + y.length ≤ 9000000) => lbin_cat (P := Tryd.prog) (t := 9) (x := x) (y := y) (by omega)
    have c1 := cat a.1 [58] (by simp; omega)
    have c2 := cat (a.1 ++ [58]) [32] (by simp; omega)
    have c3 := cat (a.1 ++ [58] ++ [32]) a.2 (by simp; omega)
    have c4 := cat (a.1 ++ [58] ++ [32] ++ a.2) [13] (by simp; omega)
    have c5 := cat (a.1 ++ [58] ++ [32] ++ a.2 ++ [13]) [10] (by simp; omega)
    obtain ⟨v', H2, w1, w2, w3⟩ := wstr_k (s := a.1 ++ [58] ++ [32] ++ a.2 ++ [13] ++ [10]) (hb.new (x := ⟨[str a.1, str a.2], 60, true⟩)) hN (by simp; unfold maxElems; omega)
    have e : t ++ (a.1 ++ [58] ++ [32] ++ a.2 ++ [13] ++ [10]) = t' := by rw [hnew]; simp
    rw [e] at w2
    simp only [List.append_assoc, List.cons_append, List.nil_append] at c1 c2 c3 c4 c5 w1
    simp [h3, h6, h7, h8, q, hlt, g1, g4, c1, c2, c3, c4, c5, w1]
    refine ihx _ _ ⟨?_, ?_, ?_, ?_, by omega, ⟨v', w2⟩, fun k hk => by rw [w3 k hk, get_new_ne (by omega), hle k hk]⟩
    all_goals simp [h3, h6, h7, hw1]
  · have q := eq_false (show ¬ (i : Int) < (l.length : Int) by omega)
    rw [List.take_of_length_le (by omega)] at hb
    have htl := Tg.Hd.text_len (m := 1000) hs
    have hmul := Nat.mul_le_mul_right 2004 hl
    obtain ⟨H2, b1, b2, b3⟩ := bstr_ex hb (by unfold maxLen; omega)
    simp [h3, h6, h7, h8, q, b1]
    exact ⟨by omega, fun k hk => by rw [b3 k hk, hle k hk]⟩
theorem hcut_cl {k : Int} (h0 : 0 ≤ k) : LC Tryd.prog EJ 16 [str s, .int .i64 k] H = some (str (s.take k.toNat), H) := by
  refine LC_pure rfl Tryd.func16 rfl (Nat.le_of_ble_eq_true rfl) (by decide) (by kernel_rfl) (by simp) ?_
  by_cases hc : k < s.length
  · have f := eq_true hc
    have f2 := eq_true (show k ≤ s.length by omega)
    have f3 := eq_true h0
    simp [f, f2, f3]
  · have f := eq_false hc
    have e : s.take k.toNat = s := List.take_of_length_le (by omega)
    simp [f, e]
theorem bs0h : lbuildSlice Tryd.prog 22 0 [] H = some (sl H.n 0 0, H.new ⟨[], 60, true⟩) := by
  unfold lbuildSlice
  simp [Instr.fill, Value.cells]
  rfl
theorem bs1h {a b : List UInt8} : lbuildSlice Tryd.prog 22 1 [(0, .agg #[str a, str b])] H = some (sl H.n 1 1, H.new ⟨[str a, str b], 60, true⟩) := by
  unfold lbuildSlice
  simp [Instr.fill, Value.cells, Array.range]
  rfl
/-- a row of our own is handed back -/
structure OutRow (H : LH) (v : Value) (H' : LH) (l : List Tg.Hd.Hdr) : Prop where
  row : HOwn H.n H' v l
  full : Full v
  le : H.n ≤ H'.n
  old : ∀ k, k < H.n → H'.get k = H.get k
theorem OutRow.trunc {H' : LH} (h : OutRow H v H' l) : ∃ H2, Lg.trunc H (v, H') = (v, H2) ∧ OutRow H v H2 l := by
  rcases trunc_or v H H' with e | ⟨e, hf, _⟩
  · exact ⟨H', e, h⟩
  · refine ⟨H, e, ⟨?_, h.full, Nat.le_refl _, fun _ _ => rfl⟩⟩
    refine ⟨h.row.1, ?_⟩
    rcases h.row.2 with h2 | ⟨k, c, rest, rfl, _⟩
    · exact .inl h2
    · simp [flatB, flat1B, atomB] at hf
theorem few_hl (hr : HRow H v l) (hl : l.length ≤ 9223372036854775807) {c : Nat} (hc : c ≤ 1000) : ∃ v' H', LC Tryd.prog EJ 9 [v, .int .i64 c] H = some (v', H') ∧ OutRow H v' H' (Tg.Hd.few l c) := by
  have key : ∃ r, LC Tryd.prog EJ 9 [v, .int .i64 c] H = some (Lg.trunc H r) ∧ OutRow H r.1 r.2 (Tg.Hd.few l c) := by
    refine LC_runs (P := Tryd.prog) (E := EJ) (f := 9) rfl Tryd.func9 rfl (Nat.le_of_ble_eq_true rfl) (by decide) (by kernel_rfl) ?_
    simp [bs0h]
    refine loop_ind (fun (i : Nat) fr' H' => fr' 0 = v ∧ fr' 1 = .int .i64 c ∧ fr' 6 = .int .i64 i ∧ i ≤ l.length ∧ i ≤ c ∧ ∃ w, fr' 5 = w ∧ OutRow H w H' ((l.take i).map fun h => (h.1.take 30, h.2.take 100))) (fun i => l.length - i) 0 ⟨by simp, by simp, by simp, Nat.zero_le _, Nat.zero_le _, sl H.n 0 0, by simp, ⟨?_, full_new, by simp, fun k hk => get_new_ne (by omega)⟩⟩ ?_
    · exact ⟨by simp [Tg.Hd.cells], .inr ⟨H.n, 0, [], by simp, Nat.le_refl _, by simp, by simp [Tg.Hd.cells], by simp, by simp [Tg.Hd.cells]⟩⟩
    rintro i fr' H' ⟨h0, h1, h6, hi, hic, w, h5, hrow, hfull, hn, hk⟩ ih
    have hr' := hr.keep hn hk
    by_cases hlt : i < l.length
    · have q := eq_true (show (i : Int) < (l.length : Int) by omega)
      by_cases hlc : i < c
      · have qc := eq_true (show (i : Int) < (c : Int) by omega)
        have hw1 : IntKind.i64.wrap ((i : Int) + 1) = ((i + 1 : Nat) : Int) := by rw [wrapI (by omega) (by omega)]; omega
        obtain ⟨k, o, g1, g2, g3⟩ := hr'.at hlt
        obtain ⟨_, g4, g5⟩ := g3 H' rfl
        have hc1 := fun H : LH => hcut_cl (H := H) (s := l[i].1) (k := 30) (by decide)
        have hc2 := fun H : LH => hcut_cl (H := H) (s := l[i].2) (k := 100) (by decide)
        simp only [show ((30 : Int).toNat) = 30 from rfl, show ((100 : Int).toNat) = 100 from rfl] at hc1 hc2
        have hnew : (l.take (i + 1)).map (fun h : Tg.Hd.Hdr => ((h.1.take 30, h.2.take 100) : Tg.Hd.Hdr)) = (l.take i).map (fun h : Tg.Hd.Hdr => ((h.1.take 30, h.2.take 100) : Tg.Hd.Hdr)) ++ [(l[i].1.take 30, l[i].2.take 100)] := by
          rw [List.take_succ_eq_append_getElem hlt, List.map_append]; rfl
        obtain ⟨v', H2, a1, a2, a3, a4, a5, a6⟩ := h_app hrow hn (by rw [List.length_map, List.length_take]; omega) (l[i].1.take 30) (l[i].2.take 100)
        rw [← hnew] at a2
        have hfin := fun fr2 (f0 : fr2 0 = v) (f1 : fr2 1 = .int .i64 c) (f6 : fr2 6 = .int .i64 ((i + 1 : Nat) : Int)) (f5 : fr2 5 = v') => ih (i + 1) fr2 H2 (by omega) ⟨f0, f1, f6, by omega, by omega, v', f5, ⟨a2, a5 hfull, by omega, fun k hk2 => by rw [a4 k (by omega) (hrow.off_lt hk2), hk k hk2]⟩⟩
        clear ih
        generalize l[i].1.take 30 = x1 at *
        generalize l[i].2.take 100 = x2 at *
        generalize l[i] = a at *
        simp [h0, h1, h5, h6, q, qc, hlt, hlc, g1, g4, g5, hc1, hc2, bs1h, a1, hr.len]
        refine hfin _ ?_ ?_ ?_ ?_
        all_goals simp [h0, h1, hw1]
      · have qc := eq_false (show ¬ (i : Int) < (c : Int) by omega)
        have hic : i = c := by omega
        subst hic
        simp [h0, h1, h5, h6, q, hlt, hr.len]
        exact ⟨hrow, hfull, hn, hk⟩
    · have q := eq_false (show ¬ (i : Int) < (l.length : Int) by omega)
      have e : l.take i = l.take c := by rw [List.take_of_length_le (by omega), List.take_of_length_le (by omega)]
      rw [e] at hrow
      simp [h0, h1, h5, h6, q, hr.len]
      exact ⟨hrow, hfull, hn, hk⟩
  obtain ⟨r, e, ho⟩ := key
  obtain ⟨H2, e2, ho2⟩ := ho.trunc
  exact ⟨r.1, H2, by rw [e, ← e2], ho2⟩
end
end Go.Proofs.YteckofomnhminaaDoor
/-
  Layer 22 (header): what header.Parse comes to: a range over a function.
-/
set_option linter.unusedSimpArgs false
set_option linter.unusedVariables false
set_option maxRecDepth 100000
namespace Go.Proofs.YteckofomnhminaaDoor
open Go.Lg Go.Tg
section
variable {H : LH} {s t : List UInt8}
theorem strip_eq (t : List UInt8) : Lib.trimSuffix t [13] = Tg.Hd.stripR t := by
  rcases List.eq_nil_or_concat t with rfl | ⟨r, c, rfl⟩
  · rfl
  · rw [List.concat_eq_append]
    unfold Lib.trimSuffix Tg.Hd.stripR
    rw [List.getLast?_concat, List.dropLast_concat]
    by_cases hc : c = 13
    · subst hc
      simp [Lib.hasSuffix, List.isSuffixOf]
    · have hc2 : ¬ (13 : UInt8) = c := fun e => hc e.symm
      simp [Lib.hasSuffix, List.isSuffixOf, hc, hc2]
theorem strip_len (t : List UInt8) : (Tg.Hd.stripR t).length ≤ t.length := by
  unfold Tg.Hd.stripR
  split
  · simp
  · exact Nat.le_refl _
theorem split0_l : LC Tryd.prog EJ 61 [str s, str [10], .int .i64 0] H = some (.func (.func 96) #[] #[ptr (H.n + 1) 0, ptr H.n 0, ptr (H.n + 2) 0], ((H.new ⟨[str s], 9, true⟩).new ⟨[str [10]], 9, true⟩).new ⟨[.int .i64 0], 3, true⟩) := by
  obtain ⟨r, h, e⟩ : ∃ r, LC Tryd.prog EJ 61 [str s, str [10], .int .i64 0] H = some (Lg.trunc H r) ∧ r = (.func (.func 96) #[] #[ptr (H.n + 1) 0, ptr H.n 0, ptr (H.n + 2) 0], ((H.new ⟨[str s], 9, true⟩).new ⟨[str [10]], 9, true⟩).new ⟨[.int .i64 0], 3, true⟩) := by
    refine LC_runs (P := Tryd.prog) (E := EJ) (f := 61) rfl Tryd.func61 rfl (Nat.le_of_ble_eq_true rfl) (by decide) (by kernel_rfl) ?_
    simp
  rw [h, e, trunc_no (by simp [flatB, flat1B, atomB])]
theorem splitSeq_l : LC Tryd.prog EJ 36 [str s, str [10]] H = some (.func (.func 96) #[] #[ptr (H.n + 1) 0, ptr H.n 0, ptr (H.n + 2) 0], ((H.new ⟨[str s], 9, true⟩).new ⟨[str [10]], 9, true⟩).new ⟨[.int .i64 0], 3, true⟩) := by
  obtain ⟨r, h, e⟩ : ∃ r, LC Tryd.prog EJ 36 [str s, str [10]] H = some (Lg.trunc H r) ∧ r = (.func (.func 96) #[] #[ptr (H.n + 1) 0, ptr H.n 0, ptr (H.n + 2) 0], ((H.new ⟨[str s], 9, true⟩).new ⟨[str [10]], 9, true⟩).new ⟨[.int .i64 0], 3, true⟩) := by
    refine LC_runs (P := Tryd.prog) (E := EJ) (f := 36) rfl Tryd.func36 rfl (Nat.le_of_ble_eq_true rfl) (by decide) (by kernel_rfl) ?_
    simp [split0_l]
  rw [h, e, trunc_no (by simp [flatB, flat1B, atomB])]
/-- what a round of header.Parse finds -/
structure PSt (H0 : LH) (n : Int) (acc : List Tg.Hd.Hdr) (v : Value) (H : LH) : Prop where
  le : H0.n + 8 ≤ H.n
  old : ∀ k, k < H0.n → H.get k = H0.get k
  b2 : H.get H0.n = some ⟨[.slice none 0 0], 22, true⟩
  b3 : H.get (H0.n + 1) = some ⟨[.int .i64 0], 3, true⟩
  b4 : H.get (H0.n + 2) = some ⟨[.int .i64 0], 26, true⟩
  b5 : H.get (H0.n + 3) = some ⟨[v], 22, true⟩
  b6 : H.get (H0.n + 4) = some ⟨[.int .i64 n], 3, true⟩
  row : HOwn (H0.n + 8) H v acc
  full : Full v
theorem PSt.set {H0 : LH} {n : Int} {acc : List Tg.Hd.Hdr} {v : Value} {k : Nat} {b : LB} (h : PSt H0 n acc v H) (h1 : H0.n + 5 ≤ k) (h2 : k < H0.n + 8) : PSt H0 n acc v (H.set k b) :=
  ⟨h.le, fun j hj => by rw [get_set_ne (by omega)]; exact h.old j hj, by rw [get_set_ne (by omega)]; exact h.b2, by rw [get_set_ne (by omega)]; exact h.b3, by rw [get_set_ne (by omega)]; exact h.b4, by rw [get_set_ne (by omega)]; exact h.b5, by rw [get_set_ne (by omega)]; exact h.b6, h.row.keep (Nat.le_refl _) (fun j hj _ _ => get_set_ne (by omega)), h.full⟩
theorem PSt.count {H0 : LH} {n : Int} {acc : List Tg.Hd.Hdr} {v : Value} (h : PSt H0 n acc v H) (m : Int) : PSt H0 m acc v (H.set (H0.n + 4) ⟨[.int .i64 m], 3, true⟩) :=
  ⟨h.le, fun j hj => by rw [get_set_ne (by omega)]; exact h.old j hj, by rw [get_set_ne (by omega)]; exact h.b2, by rw [get_set_ne (by omega)]; exact h.b3, by rw [get_set_ne (by omega)]; exact h.b4, by rw [get_set_ne (by omega)]; exact h.b5, get_set, h.row.keep (Nat.le_refl _) (fun j hj _ _ => get_set_ne (by omega)), h.full⟩
theorem get8 {a0 a1 a2 a3 a4 a5 a6 a7 : LB} : (((((((((H.new a0).new a1).new a2).new a3).new a4).new a5).new a6).new a7).get H.n = some a0 ∧ ((((((((H.new a0).new a1).new a2).new a3).new a4).new a5).new a6).new a7).get (H.n + 1) = some a1 ∧ ((((((((H.new a0).new a1).new a2).new a3).new a4).new a5).new a6).new a7).get (H.n + 2) = some a2 ∧ ((((((((H.new a0).new a1).new a2).new a3).new a4).new a5).new a6).new a7).get (H.n + 3) = some a3 ∧ ((((((((H.new a0).new a1).new a2).new a3).new a4).new a5).new a6).new a7).get (H.n + 4) = some a4 ∧ ((((((((H.new a0).new a1).new a2).new a3).new a4).new a5).new a6).new a7).get (H.n + 5) = some a5 ∧ ((((((((H.new a0).new a1).new a2).new a3).new a4).new a5).new a6).new a7).get (H.n + 6) = some a6 ∧ ((((((((H.new a0).new a1).new a2).new a3).new a4).new a5).new a6).new a7).get (H.n + 7) = some a7 ∧ ((((((((H.new a0).new a1).new a2).new a3).new a4).new a5).new a6).new a7).n = H.n + 8 ∧ ∀ k, k < H.n → ((((((((H.new a0).new a1).new a2).new a3).new a4).new a5).new a6).new a7).get k = H.get k) := by
  refine ⟨?_, ?_, ?_, ?_, ?_, ?_, ?_, ?_, ?_, fun k hk => ?_⟩
  all_goals simp only [get_new', n_new]
  all_goals repeat (first | rw [if_pos trivial] | rw [if_pos (by omega)] | rw [if_neg (by omega)])
def PI (H0 : LH) (s : List UInt8) (ls : List (List UInt8)) (H : LH) : Prop := ∃ (n : Nat) (acc : List Tg.Hd.Hdr) (v : Value), PSt H0 (n : Int) acc v H ∧ Tg.Hd.rows ls n acc = Tg.Hd.parse s ∧ acc.length + ls.length ≤ 100001 ∧ n + ls.length ≤ 100001
def PD (H0 : LH) (s : List UInt8) (H : LH) : Prop := ∃ n : Nat, Tg.Hd.parse s = ([], (n : Int), 2) ∧ H0.n ≤ H.n ∧ (∀ k, k < H0.n → H.get k = H0.get k) ∧ H.get H0.n = some ⟨[.slice none 0 0], 22, true⟩ ∧ H.get (H0.n + 1) = some ⟨[.int .i64 n], 3, true⟩ ∧ H.get (H0.n + 2) = some ⟨[.int .i64 2], 26, true⟩
theorem lines_len : ∀ s : List UInt8, (Tg.Hd.lines s).length ≤ s.length + 1
  | [] => by simp [Tg.Hd.lines]
  | b :: r => by
    have ih := lines_len r
    by_cases hb : b = 10
    · subst hb
      have e : Tg.Hd.lines (10 :: r) = [] :: Tg.Hd.lines r := Tg.Hd.lines_cut [] r (by simp)
      rw [e]; simp; omega
    · cases h : Tg.Hd.lines r with
      | nil => exact absurd h (Tg.Hd.lines_ne r)
      | cons p l => rw [Tg.Hd.lines_other hb h]; rw [h] at ih; simp at ih ⊢; omega
theorem parse_ex (hs : s.length ≤ 100000) : ∃ v H', R Tryd.prog EP (.call 12 [str s] H (.ret (.tuple #[v, .int .i64 (Tg.Hd.parse s).2.1, .int .i64 (Tg.Hd.parse s).2.2])) H') ∧ OutRow H v H' (Tg.Hd.parse s).1 := by
  have key : ∃ r H', R Tryd.prog EP (.call 12 [str s] H r H') ∧ ∃ v, r = .ret (.tuple #[v, .int .i64 (Tg.Hd.parse s).2.1, .int .i64 (Tg.Hd.parse s).2.2]) ∧ OutRow H v H' (Tg.Hd.parse s).1 := by
    refine pcall Tryd.func12 rfl (Nat.le_of_ble_eq_true rfl) (by decide) (by kernel_rfl) (Q := fun r H' => ∃ v, r = .ret (.tuple #[v, .int .i64 (Tg.Hd.parse s).2.1, .int .i64 (Tg.Hd.parse s).2.2]) ∧ OutRow H v H' (Tg.Hd.parse s).1) ?_
    simp [splitSeq_l, EP_ps]
    refine pr_rangeE (g := 96) (gfn := Tryd.f96) rfl ?_
    refine seq_run (ps := H.n + 5) (pp := H.n + 6) (pv := H.n + 7) (I := PI H s) (D := PD H s) (s := s) (by omega) (by omega) ?_ ?_ rfl ?_ ?_ ?_ (by omega) ?_ ?_
    · intro t ls Hc s' hI hIt ht
      obtain ⟨n, acc, v, st, e1, e2, e3⟩ := hI
      obtain ⟨it1, it2, it3⟩ := hIt
      have hlen := st.le
      have hts := fun H : LH => trimSuffix_l (H := H) (s := t) (p := [13]) (by omega)
      simp only [strip_eq] at hts
      have hsl := strip_len t
      have hw : IntKind.i64.wrap ((n : Int) + 1) = ((n + 1 : Nat) : Int) := by rw [wrapI (by simp at e3; omega) (by simp at e3; omega)]; omega
      have sA := st.count ((n : Int) + 1)
      have ec : ((n + 1 : Nat) : Int) = (n : Int) + 1 := by omega
      have iA : It (H.n + 5) (H.n + 6) (H.n + 7) s' (Hc.set (H.n + 4) ⟨[.int .i64 ((n : Int) + 1)], 3, true⟩) := ⟨by rw [get_set_ne (by omega)]; exact it1, by rw [get_set_ne (by omega)]; exact it2, by rw [get_set_ne (by omega)]; exact it3⟩
      refine round_of ?_
      simp only [Nat.add_assoc, Nat.reduceAdd]
      simp [setL]
      refine pr_begin ?_
      unfold Tg.Hd.rows at e1
      by_cases h0 : Tg.Hd.stripR t = []
      · rw [if_pos h0] at e1
        rw [h0] at hts
        simp [st.b6, st.b5, hts, hw, EP_ps]
        exact ⟨iA, n + 1, acc, v, by rw [ec]; exact sA, e1, by simp at e2; omega, by simp at e3; omega⟩
      · rw [if_neg h0] at e1
        obtain ⟨h, l1, l2⟩ := line_cl (H := Hc.set (H.n + 4) ⟨[.int .i64 ((n : Int) + 1)], 3, true⟩) (s := Tg.Hd.stripR t) (by omega)
        generalize Tg.Hd.stripR t = t2 at *
        generalize hp : Tg.Hd.lineP t2 = o at *
        cases o with
        | none =>
          simp only at e1
          have d0 : (H.n = Hc.n) = False := eq_false (by omega)
          have d1 : (H.n + 1 = Hc.n) = False := eq_false (by omega)
          have d2 : (H.n + 2 = Hc.n) = False := eq_false (by omega)
          have d4 : (H.n + 4 = Hc.n) = False := eq_false (by omega)
          simp [st.b6, st.b5, st.b2, st.b3, st.b4, hts, hw, h0, l1, EP_ps, d0, d1, d2, d4]
          have hgo : ∀ k, k < H.n + 8 → k ≠ H.n → k ≠ H.n + 1 → k ≠ H.n + 2 → (((((Hc.set (H.n + 4) ⟨[.int .i64 ((n : Int) + 1)], 3, true⟩).new ⟨[str h.1, str h.2], 60, true⟩).set H.n ⟨[.slice none 0 0], 22, true⟩).set (H.n + 1) ⟨[.int .i64 ((n : Int) + 1)], 3, true⟩).set (H.n + 2) ⟨[.int .i64 2], 26, true⟩).get k = (Hc.set (H.n + 4) ⟨[.int .i64 ((n : Int) + 1)], 3, true⟩).get k := fun k hk n0 n1 n2 => by
            rw [get_set_ne n2, get_set_ne n1, get_set_ne n0, get_new_ne (by rw [n_set]; omega)]
          refine ⟨⟨?_, ?_, ?_⟩, n + 1, ?_, ?_, fun k hk => ?_, ?_, ?_, ?_⟩
          · rw [hgo _ (by omega) (by omega) (by omega) (by omega)]; exact iA.1
          · rw [hgo _ (by omega) (by omega) (by omega) (by omega)]; exact iA.2.1
          · rw [hgo _ (by omega) (by omega) (by omega) (by omega)]; exact iA.2.2
          · exact e1.symm
          · simp; omega
          · rw [hgo _ (by omega) (by omega) (by omega) (by omega)]; exact sA.old k hk
          · rw [get_set_ne (by omega), get_set_ne (by omega), get_set]
          · rw [get_set_ne (by omega), get_set, ec]
          · rw [get_set]
        | some h' =>
          simp only at e1
          have := l2 h' rfl
          subst this
          have d3 : (H.n + 3 = Hc.n) = False := eq_false (by omega)
          have hown : HOwn (H.n + 8) ((Hc.set (H.n + 4) ⟨[.int .i64 ((n : Int) + 1)], 3, true⟩).new ⟨[str h.1, str h.2], 60, true⟩) v acc := sA.row.keep (Nat.le_succ _) (fun j hj _ hjn => get_new_ne (by omega))
          obtain ⟨v', H2, a1, a2, a3, a4, a5, a6⟩ := h_app hown (by rw [n_new, n_set]; omega) (by simp at e2; omega) h.1 h.2
          have hg : ∀ k, k < H.n + 8 → H2.get k = (Hc.set (H.n + 4) ⟨[.int .i64 ((n : Int) + 1)], 3, true⟩).get k := fun k hk => by rw [a4 k (by rw [n_new, n_set]; omega) (hown.off_lt hk), get_new_ne (by rw [n_set]; omega)]
          have g3 : H2.get (H.n + 3) = some ⟨[v], 22, true⟩ := by rw [hg _ (by omega)]; exact sA.b5
          have hcv := a2.cell
          simp [st.b6, st.b5, hts, hw, h0, l1, EP_ps, d3, bs1h, a1, g3, hcv]
          have hgo : ∀ k, k < H.n + 8 → k ≠ H.n + 3 → (H2.set (H.n + 3) ⟨[v'], 22, true⟩).get k = (Hc.set (H.n + 4) ⟨[.int .i64 ((n : Int) + 1)], 3, true⟩).get k := fun k hk n3 => by
            rw [get_set_ne n3, hg k hk]
          have hn2 := a3
          rw [n_new, n_set] at hn2
          refine ⟨⟨?_, ?_, ?_⟩, n + 1, acc ++ [h], v', ⟨?_, fun k hk => ?_, ?_, ?_, ?_, ?_, ?_, ?_, a5 st.full⟩, e1, ?_, ?_⟩
          · rw [hgo _ (by omega) (by omega)]; exact iA.1
          · rw [hgo _ (by omega) (by omega)]; exact iA.2.1
          · rw [hgo _ (by omega) (by omega)]; exact iA.2.2
          · rw [n_set]; omega
          · rw [hgo _ (by omega) (by omega)]; exact sA.old k hk
          · rw [hgo _ (by omega) (by omega)]; exact sA.b2
          · rw [hgo _ (by omega) (by omega)]; exact sA.b3
          · rw [hgo _ (by omega) (by omega)]; exact sA.b4
          · rw [get_set]
          · rw [hgo _ (by omega) (by omega), ec]; exact sA.b6
          · exact a2.keep (Nat.le_refl _) (fun j hj _ _ => get_set_ne (by omega))
          · simp at e2 ⊢; omega
          · simp at e3 ⊢; omega
    · intro ls Hc s' s'' ⟨n, acc, v, st, e1, e2, e3⟩ _
      exact ⟨n, acc, v, st.set (by omega) (by omega), e1, e2, e3⟩
    · intro d hd
      simp at hd
      subst hd
      exact of_decide_eq_true rfl
    · have hll := lines_len s
      obtain ⟨k0, k1, k2, k3, k4, k5, k6, k7, kn, ko⟩ := get8 (H := H) (a0 := ⟨[.slice none 0 0], 22, true⟩) (a1 := ⟨[.int .i64 0], 3, true⟩) (a2 := ⟨[.int .i64 0], 26, true⟩) (a3 := ⟨[.slice none 0 0], 22, true⟩) (a4 := ⟨[.int .i64 0], 3, true⟩) (a5 := ⟨[str s], 9, true⟩) (a6 := ⟨[str [10]], 9, true⟩) (a7 := ⟨[.int .i64 0], 3, true⟩)
      exact ⟨0, [], .slice none 0 0, ⟨by show _ ≤ _ + 1; rw [kn]; omega, ko, k0, k1, k2, k3, k4, RowN.nil, full_nil⟩, rfl, by simp; omega, by omega⟩
    · obtain ⟨k0, k1, k2, k3, k4, k5, k6, k7, kn, ko⟩ := get8 (H := H) (a0 := ⟨[.slice none 0 0], 22, true⟩) (a1 := ⟨[.int .i64 0], 3, true⟩) (a2 := ⟨[.int .i64 0], 26, true⟩) (a3 := ⟨[.slice none 0 0], 22, true⟩) (a4 := ⟨[.int .i64 0], 3, true⟩) (a5 := ⟨[str s], 9, true⟩) (a6 := ⟨[str [10]], 9, true⟩) (a7 := ⟨[.int .i64 0], 3, true⟩)
      exact ⟨k5, k6, k7⟩
    · intro H1 u ⟨n, acc, v, st, e1, e2, e3⟩
      refine ⟨⟨u, rfl⟩, ?_⟩
      unfold Tg.Hd.rows at e1
      have hrow := st.row.row
      have hle := st.le
      simp only [Nat.add_assoc, Nat.reduceAdd]
      by_cases h1 : 100 < acc.length
      · rw [if_pos h1] at e1
        rw [← e1]
        have q := eq_true (show (100 : Int) < (acc.length : Int) by omega)
        simp [st.b2, st.b3, st.b4, st.b5, hrow.len, q, h1, EP_ps]
        exact ⟨RowN.nil, full_nil, by rw [n_set, n_set, n_set]; omega, fun k hk => by rw [get_set_ne (by omega), get_set_ne (by omega), get_set_ne (by omega)]; exact st.old k hk⟩
      · rw [if_neg h1] at e1
        rw [← e1]
        have q := eq_false (show ¬ (100 : Int) < (acc.length : Int) by omega)
        have hcv := st.row.cell
        simp [st.b2, st.b3, st.b4, st.b5, hrow.len, q, h1, hcv, EP_ps]
        refine ⟨?_, st.full, by rw [n_set, n_set, n_set]; omega, fun k hk => by rw [get_set_ne (by omega), get_set_ne (by omega), get_set_ne (by omega)]; exact st.old k hk⟩
        refine ⟨st.row.1, ?_⟩
        rcases st.row.2 with h2 | ⟨k, c, rest, rfl, g1, g2, g3, g4, g5⟩
        · exact .inl h2
        · exact .inr ⟨k, c, rest, rfl, by omega, by rw [n_set, n_set, n_set]; omega, by rw [get_set_ne (by omega), get_set_ne (by omega), get_set_ne (by omega)]; exact g3, g4, g5⟩
    · intro H1 u ⟨n, e1, e2, e3, e4, e5, e6⟩
      refine ⟨⟨u, rfl⟩, ?_⟩
      rw [e1]
      simp only [Nat.add_assoc, Nat.reduceAdd]
      simp [e4, e5, e6]
      exact ⟨RowN.nil, full_nil, e2, e3⟩
  obtain ⟨r, H', h1, v, rfl, h2⟩ := key
  exact ⟨v, H', h1, h2⟩
end
end Go.Proofs.YteckofomnhminaaDoor
/-
  Layer 22 (header): the living call, and the law HeaderBack, as the run answers them.
-/
set_option linter.unusedSimpArgs false
set_option linter.unusedVariables false
set_option maxRecDepth 100000
namespace Tg.Hd
theorem few_len (l : List Hdr) (n : Nat) : (few l n).length ≤ n := by
  unfold few; rw [List.length_map, List.length_take]; omega
theorem few_mem {l : List Hdr} {n : Nat} : ∀ h ∈ few l n, h.1.length ≤ 30 ∧ h.2.length ≤ 100 := by
  intro h hh
  unfold few at hh
  obtain ⟨a, _, rfl⟩ := List.mem_map.mp hh
  simp only [List.length_take]
  omega
theorem few_few (l : List Hdr) (n : Nat) : few (few l n) n = few l n := by
  unfold few
  rw [← List.map_take, List.take_take, Nat.min_self, List.map_map]
  congr 1
  funext h
  simp only [Function.comp, List.take_take, Nat.min_self]
end Tg.Hd
namespace Go.Proofs.YteckofomnhminaaDoor
open Go.Lg Go.Tg
section
variable {H : LH} {v : Value} {l : List Tg.Hd.Hdr}
theorem lives_r : R Tryd.prog EP (.call 15 [] H (.ret (.bool true)) H) := by
  refine pcall_flat Tryd.func15 rfl (Nat.le_of_ble_eq_true rfl) (by decide) (by kernel_rfl) rfl ?_
  obtain ⟨v, H', hR, ho⟩ := parse_ex (H := H) (s := [65, 58, 32, 98]) (by decide)
  rw [Tg.Hd.live1] at hR ho
  simp only at hR ho
  have hrow := ho.row.row
  obtain ⟨k, o, g1, g2, g3⟩ := hrow.at (i := 0) (by decide)
  obtain ⟨g4, _, _⟩ := g3 H' rfl
  have g1 := g1
  simp at g1 g4
  have he := hdr_eq (a := ([65], [98])) (b := ([65], [98]))
  have hlen := fun H2 : LH => hrow.len (H' := H2)
  simp at he hlen
  simp [EP_ps]
  refine hand_call_ret (g := 12) (first := #[]) (caps := #[]) (H1 := H') rfl rfl rfl rfl (by simpa using hR) rfl ?_
  simp [hlen, g1, g4, he]
  exact ⟨ho.le, fun k hk => ho.old k hk⟩
theorem back_r (hr : HRow H v l) (hl : l.length ≤ 9223372036854775807) : ∃ H', R Tryd.prog EP (.call 3 [v] H (.ret (.bool true)) H') := by
  have key : ∃ r H', R Tryd.prog EP (.call 3 [v] H r H') ∧ r = .ret (.bool true) := by
    refine pcall Tryd.func3 rfl (Nat.le_of_ble_eq_true rfl) (by decide) (by kernel_rfl) (Q := fun r _ => r = .ret (.bool true)) ?_
    obtain ⟨v1, H1, e1, o1⟩ := few_hl (H := H) hr hl (c := 102) (by decide)
    have hm := Tg.Hd.few_mem (l := l) (n := 102)
    have hn := Tg.Hd.few_len l 102
    obtain ⟨v2, H2, e2, o2⟩ := few_hl (H := H1) o1.row.row (by omega) (c := 102) (by decide)
    rw [Tg.Hd.few_few] at o2
    have hb := @Tg.Hd.parse_text (Tg.Hd.few l 102)
    generalize Tg.Hd.few l 102 = f at *
    have r1 : HRow H2 v1 f := o1.row.row.keep o2.le o2.old
    have hm2 : ∀ h ∈ f, h.1.length ≤ 1000 ∧ h.2.length ≤ 1000 := fun h hh => by have := hm h hh; omega
    have c1 := ctext_cl (H := H2) o2.row.row (by omega) hm2
    have c2 := htext_cl (H := H2) r1 (by omega) hm2
    have htl := Tg.Hd.text_len (m := 100) (l := f) (fun h hh => by have := hm h hh; omega)
    have hmul := Nat.mul_le_mul_right (2 * 100 + 4) hn
    obtain ⟨v3, H3, hR, o3⟩ := parse_ex (H := H2) (s := Tg.Hd.text f) (by omega)
    have r1' : HRow H3 v1 f := r1.keep o3.le o3.old
    have c3 := hgood_cl (H := H3) r1' (by omega) (fun h hh => by have := hm h hh; omega)
    have hL := lives_r (H := H3)
    have e1 : LC Tryd.prog EJ 9 [v, .int .i64 102] H = some (v1, H1) := e1
    have e2 : LC Tryd.prog EJ 9 [v1, .int .i64 102] H1 = some (v2, H2) := e2
    cases hg : Tg.Hd.good f with
    | true =>
      rw [hb hg] at hR o3
      rw [hg] at c3
      simp only at hR o3
      have c4 := hsame_cl (H := H3) o3.row.row r1' (by omega)
      rw [decide_eq_true rfl] at c4
      generalize Tg.Hd.text f = s at *
      simp [e1, e2, c1, c2, EP_ps]
      refine hand_call_ret (g := 12) (first := #[]) (caps := #[]) (H1 := H3) rfl rfl rfl rfl (by simpa using hR) rfl ?_
      simp [c3, c4, EP_ps]
      refine hand_call_ret (g := 15) (first := #[]) (caps := #[]) (H1 := H3) ?_ rfl rfl rfl (by simpa using hL) rfl ?_
      · rw [lwant_x]; simp
      · simp
    | false =>
      rw [hg] at c3
      generalize Tg.Hd.text f = s at *
      simp [e1, e2, c1, c2, EP_ps]
      refine hand_call_ret (g := 12) (first := #[]) (caps := #[]) (H1 := H3) rfl rfl rfl rfl (by simpa using hR) rfl ?_
      simp [c3, EP_ps]
      refine hand_call_ret (g := 15) (first := #[]) (caps := #[]) (H1 := H3) ?_ rfl rfl rfl (by simpa using hL) rfl ?_
      · rw [lwant_x]; simp
      · simp
  obtain ⟨r, H', h1, rfl⟩ := key
  exact ⟨H', h1⟩
end
end Go.Proofs.YteckofomnhminaaDoor
/-
  What the world's shape gives: a heap that is not empty; a list of headers among the arguments; what a run with throws asserts.
-/
set_option linter.unusedSimpArgs false
set_option linter.unusedVariables false
set_option maxRecDepth 100000
namespace Go.Proofs.YteckofomnhminaaDoor
open Go.ChangeShapes Go.WideShapes Go.ChangeAt Go.RowKit Go.Tg Go.Lg

theorem liftVs {n : Nat} {l : List UInt8} : liftV n (str l) = str l := rfl
theorem liftVl {n : Nat} {a : Option Addr} {k c : Nat} : liftV n (.slice a k c) = lift1 n (.slice a k c) := rfl
theorem sizeH {W : World} (h : W.ShapedOpen Tryd.prog) : 1 ≤ W.heap.size := by
  obtain ⟨m, h2⟩ := Go.Proofs.cell_of_shapedOpen_int (P := Tryd.prog) (w := W) (zero := #[.int .i64 0]) (t := 3) (g := 3) h (of_decide_eq_true (by kernel_rfl)) (by kernel_rfl) rfl (by kernel_rfl) (by kernel_rfl) Tryd.underlying3
  have h2' : W.cell? ⟨3, 0, none⟩ = some (.int .i64 m) := h2
  rcases Nat.lt_or_ge 3 W.heap.size with h3 | h3
  · omega
  · simp [World.cell?, Array.getElem?_eq_none h3] at h2'
theorem soundP {j : J} (h : R Tryd.prog EP j) : Sound Tryd.prog EP j := sound tOk mixed (fun _ _ h => by cases h) (fun _ h => by cases h) h
theorem cells_hdr : Tryd.prog.cellsOf 60 = 2 := by kernel_rfl
theorem cells_hstr : Tryd.prog.cellsOf 9 = 1 := by kernel_rfl
theorem hdr_of_trod {HH : Type} {enc : TypeId × Value → HH} {W : World} {base fuel : Nat} {sp : Nat → Bool} {held : Bool} {cs : List Value} {x : DataW HH × List MemPlace} (n : Nat) (hf : DataW.trod enc Tryd.prog W base sp held fuel 60 cs = some x) : ∃ a : Tg.Hd.Hdr, cs.map (lift1 n) = [str a.1, str a.2] := by
  cases fuel with
  | zero => simp [DataW.trod] at hf
  | succ m =>
    rw [DataW.trod_step] at hf
    unfold DataW.trodStep at hf
    simp only [Tryd.underlying60, Value.cells] at hf
    split at hf
    · rename_i hs
      rw [cells_hdr] at hs
      match cs, hs with
      | [c0, c1], _ =>
      simp only [Option.map_eq_some_iff] at hf
      obtain ⟨xs, hx, e1⟩ := hf
      simp only [List.mapM_cons, List.mapM_nil, bind, Option.bind_eq_some_iff, pure, Option.some.injEq, cells_hstr] at hx
      obtain ⟨y0, h0, _, ⟨y1, h1, _, rfl, rfl⟩, rfl⟩ := hx
      obtain ⟨s0, q0, _, _⟩ := DataW.trod_string Tryd.underlying9 h0
      obtain ⟨s1, q1, _, _⟩ := DataW.trod_string Tryd.underlying9 h1
      simp at q0 q1
      subst q0; subst q1
      exact ⟨(s0.data.toList, s1.data.toList), by simp only [str_ba]; rfl⟩
    · cases hf
theorem hrow_of {W : World} {g : Nat} {v : Value} {xs : List Tg.Hd.Hdr} (h : RowOf (LH.lift W g) 2 (fun (a : Tg.Hd.Hdr) cs => cs = [str a.1, str a.2]) v xs) : HRow (LH.lift W g) v xs := by
  rcases h with h | ⟨l, o, c, h1, _, h2, h3⟩
  · exact .inl h
  · refine .inr ⟨l, o, c, h1, fun hne => ?_⟩
    obtain ⟨b, h4, h5, h6⟩ := h3 hne
    refine ⟨b, h4, h2, fun i hi => ?_⟩
    have h7 := h6 i xs[i] (List.getElem?_eq_getElem hi)
    have hle : o + i * 2 + 2 ≤ b.cells.length := by
      have := Nat.mul_le_mul_right 2 (show i + 1 ≤ xs.length by omega)
      omega
    have e1 : b.cells[o + i * 2]? = ((b.cells.drop (o + i * 2)).take 2)[0]? := by rw [List.getElem?_take, if_pos (by decide), List.getElem?_drop]; rfl
    have e2 : b.cells[o + i * 2 + 1]? = ((b.cells.drop (o + i * 2)).take 2)[1]? := by rw [List.getElem?_take, if_pos (by decide), List.getElem?_drop]
    exact ⟨hle, h7, by rw [e1, h7]; rfl, by rw [e2, h7]; rfl⟩
theorem returns_and_shaped {H : Type} {enc : TypeId × Value → H} {a : Assume} {C : Checked} {os : Os} {f : FuncId} {fn : Func} {s : ChangeSpec} {conds : List PathCond} {apart fresh handsOn again : Bool} {X : World → Array Value → Prop}
    (hX : ∀ (w w' : World) (args : Array Value), w.heap = w'.heap → X w args → X w' args)
    (own : Go.ownKnob C.prog.godebug = none) (started : os.Started) (noInit : C.prog.inits.idxOf? f = none) (hfn : C.prog.funcs[f]? = some fn)
    (witness : ∃ (w : World) (tape : Tape) (i : Input), w.os = os ∧ (w.forCall tape i).Shaped C.prog ∧ i.vars = [] ∧ Input.okWide C.prog (w.forCall tape i) .any w.heap.size f i ∧
      ((s.pre enc C.prog fn conds apart (w.forCall tape i).memory i.args ∧ X (w.forCall tape i).memory i.args) ∧ sizedMet enc C.prog fn (OpenSpec.ofChange s) apart (w.forCall tape i).memory i.args) ∧ a.holds C.prog (lone (Frame.enter C.prog f i.args .normal) [] (w.forCall tape i)))
    (contract : ∀ (W : World) (base : Nat) (args : Array Value) (ds gs : List (DataW H)) (before : List MemPlace),
      (∀ (j : Nat) t v, fn.params[j]? = some t → args[j]? = some v → Value.okWide C.prog W .any base t v) →
      DataW.Whole enc C.prog fn.params.toList s.vars apart W args.toList ds gs before →
      X W args → W.ShapedOpen C.prog →
      Calls C.prog f args W fun e W' => ∃ v, e = .returned v ∧ s.post enc C.prog fn apart fresh handsOn again W args v W') :
    ReturnsInHanded a C os f .any (fun w args => (s.pre enc C.prog fn conds apart w args ∧ X w args) ∧ sizedMet enc C.prog fn (OpenSpec.ofChange s) apart w args) (s.post enc C.prog fn apart fresh handsOn again) := by
  refine returnsInHanded_of_calls own started noInit witness ?_
  intro w tape i _ hsh _ hok hpre hholds
  obtain ⟨_, _, _, fn', hfn', _, _, _, _, hval⟩ := hok
  have e : fn' = fn := Option.some.inj (hfn'.symm.trans hfn)
  subst e
  obtain ⟨⟨⟨ds, gs, before, hw, hc⟩, hx⟩, hz⟩ := hpre
  have hw' := DataW.Whole.of_heap (w' := w.forCall tape i) (by rfl) hw
  refine (contract (w.forCall tape i) w.heap.size i.args ds gs before hval hw' (hX _ _ _ (by rfl) hx) hsh).mono fun e W' ⟨v, he, hp⟩ => ?_
  subst he
  exact ChangeSpec.post_blind hp
end Go.Proofs.YteckofomnhminaaDoor
/-
  Layer 22 (header): a header set: plain, and what the code's function comes to.
-/
set_option linter.unusedSimpArgs false
set_option linter.unusedVariables false
set_option maxRecDepth 100000
namespace Tg.Hd
def isP (name : List UInt8) (h : Hdr) : Bool := decide (Tg.Lo.lower h.1 = Tg.Lo.lower name)
/-- the headers with a value in the first one's place -/
def goS (name val : List UInt8) : List Hdr → Bool → List Hdr
  | [], _ => []
  | x :: r, d => if isP name x = false then x :: goS name val r d else if d = true then goS name val r d else (x.1, val) :: goS name val r true
theorem goS_cons {name val : List UInt8} {x : Hdr} {r : List Hdr} {d : Bool} : goS name val (x :: r) d = if isP name x = false then x :: goS name val r d else if d = true then goS name val r d else (x.1, val) :: goS name val r true := rfl
def setP (name value : List UInt8) (l : List Hdr) : List Hdr × Int :=
  if good l = true ∧ fine (name, trim value) = true then
    if l.any (isP name) = true then (goS name (trim value) l false, 0)
    else if l.length = 100 then ([], 3) else (l ++ [(name, trim value)], 0)
  else ([], 2)
theorem goS_len (name val : List UInt8) : ∀ (l : List Hdr) (d : Bool), (goS name val l d).length ≤ l.length
  | [], _ => by simp [goS]
  | x :: r, d => by
    unfold goS
    split
    · have := goS_len name val r d; simp; omega
    · split
      · have := goS_len name val r d; simp; omega
      · have := goS_len name val r true; simp; omega
theorem goS_no {name val : List UInt8} : ∀ {l : List Hdr} {d : Bool}, l.any (isP name) = false → goS name val l d = l
  | [], _, _ => rfl
  | x :: r, d, h => by
    rw [List.any_cons, Bool.or_eq_false_iff] at h
    unfold goS
    rw [if_pos h.1, goS_no h.2]
theorem goS_true {name val : List UInt8} : ∀ {l : List Hdr}, goS name val l true = l.filter (fun h => !isP name h)
  | [] => rfl
  | x :: r => by
    unfold goS
    rw [List.filter_cons, goS_true]
    cases isP name x <;> simp
end Tg.Hd
namespace Go.Proofs.YteckofomnhminaaDoor
open Go.Lg Go.Tg
section
variable {H : LH} {v w : Value} {l m : List Tg.Hd.Hdr} {N : Nat} {s name value : List UInt8} {h : Tg.Hd.Hdr} {p : Nat}
theorem csame_cl (hs : s.length ≤ 9223372036854775806) {t : List UInt8} : LC Tryd.prog EJ 74 [str s, str t] H = some (.bool (decide (Tg.Lo.lower s = Tg.Lo.lower t)), H) := by
  refine LC_pure rfl Tryd.func74 rfl (Nat.le_of_ble_eq_true rfl) (by decide) (by kernel_rfl) rfl ?_
  have hh := fun H : LH => same_cl (H := H) (s := s) (p := t) hs
  simp [hh]
theorem named1_cl (hg : H.get p = some ⟨[str name], 9, true⟩) (hp : p < H.n) (hs : h.1.length ≤ 1048576) : LC Tryd.prog EJ 73 [hv h, ptr p 0] H = some (.bool (Tg.Hd.isP name h), H) := by
  refine LC_pure rfl Tryd.func73 rfl (Nat.le_of_ble_eq_true rfl) (by decide) (by kernel_rfl) (by simp) ?_
  have hh := fun H : LH => csame_cl (H := H) (s := h.1) (t := name) (by omega)
  have hne : (p = H.n) = False := eq_false (by omega)
  unfold Tg.Hd.isP
  simp [hh, hg, hne, le_refl.new]
theorem named_l : LC Tryd.prog EJ 43 [str name] H = some (.func (.func 73) #[] #[ptr H.n 0], H.new ⟨[str name], 9, true⟩) := by
  obtain ⟨r, h, e⟩ : ∃ r, LC Tryd.prog EJ 43 [str name] H = some (Lg.trunc H r) ∧ r = (.func (.func 73) #[] #[ptr H.n 0], H.new ⟨[str name], 9, true⟩) := by
    refine LC_runs (P := Tryd.prog) (E := EJ) (f := 43) rfl Tryd.func43 rfl (Nat.le_of_ble_eq_true rfl) (by decide) (by kernel_rfl) ?_
    simp
  rw [h, e, trunc_no (by simp [flatB, flat1B, atomB])]
theorem HOwn.weak {N' : Nat} (h : HOwn N H v l) (hn : N' ≤ N) : HOwn N' H v l := by
  refine ⟨h.1, ?_⟩
  rcases h.2 with h2 | ⟨k, c, rest, rfl, g1, g2, g3, g4, g5⟩
  · exact .inl h2
  · exact .inr ⟨k, c, rest, rfl, by omega, g2, g3, g4, g5⟩
theorem OutRow.truncT {H' : LH} {x : Value} (h : OutRow H v H' l) : ∃ H2, Lg.trunc H (.tuple #[v, x], H') = (.tuple #[v, x], H2) ∧ OutRow H v H2 l := by
  rcases trunc_or (.tuple #[v, x]) H H' with e | ⟨e, hf, _⟩
  · exact ⟨H', e, h⟩
  · refine ⟨H, e, ⟨?_, h.full, Nat.le_refl _, fun _ _ => rfl⟩⟩
    refine ⟨h.row.1, ?_⟩
    rcases h.row.2 with h2 | ⟨k, c, rest, rfl, _⟩
    · exact .inl h2
    · simp [flatB, flat1B, atomB] at hf
theorem cset_ex (hr : HRow H v l) (hl : l.length ≤ 90000) (hs : ∀ h ∈ l, h.1.length ≤ 1048576 ∧ h.2.length ≤ 1048576) (hn : name.length ≤ 1048576) (hvl : value.length ≤ 1048576) :
    ∃ v' H', LC Tryd.prog EJ 17 [str name, str value, v] H = some (.tuple #[v', .int .i64 (Tg.Hd.setP name value l).2], H') ∧ OutRow H v' H' (Tg.Hd.setP name value l).1 := by
  have key : ∃ r, LC Tryd.prog EJ 17 [str name, str value, v] H = some (Lg.trunc H r) ∧ ∃ w, r.1 = .tuple #[w, .int .i64 (Tg.Hd.setP name value l).2] ∧ OutRow H w r.2 (Tg.Hd.setP name value l).1 := by
    refine LC_runs (P := Tryd.prog) (E := EJ) (f := 17) rfl Tryd.func17 rfl (Nat.le_of_ble_eq_true rfl) (by decide) (by kernel_rfl) ?_
    have ht := fun H : LH => Trim_cl (H := H) (s := value) (by omega)
    have htl := trimH_len value
    obtain ⟨res, hres⟩ : ∃ res, res = Tg.Hd.setP name value l := ⟨_, rfl⟩
    rw [← hres]
    unfold Tg.Hd.setP at hres
    generalize Tg.Hd.trim value = val at *
    have hle1 : H.n ≤ (H.new (hb (name, val))).n := by rw [n_new]; omega
    have hk1 : ∀ k, k < H.n → (H.new (hb (name, val))).get k = H.get k := fun k hk => get_new_ne (by omega)
    have hr1 := hr.keep hle1 hk1
    have hgd := good_hl hr1 (by omega) hs
    have hfn := fine_cl (H := H.new (hb (name, val))) (h := (name, val)) hn (by simp only; omega)
    refine runs_cut 8 (fun fr' H' => Tg.Hd.good l = true ∧ Tg.Hd.fine (name, val) = true ∧ fr' 6 = .slice none 0 0 ∧ fr' 7 = .int .i64 0 ∧ ∃ w, fr' 10 = w ∧ OutRow H w H' (if l.any (Tg.Hd.isP name) = true then Tg.Hd.goS name val l false else l ++ [(name, val)])) ?_ (fun K8 hK8 => ?_) rfl
    · rintro fr' H' ⟨hg, hf, f6, f7, w, f10, ho⟩
      rw [if_pos ⟨hg, hf⟩] at hres
      have hll : l.length ≤ 100 := by
        unfold Tg.Hd.good at hg; rw [Bool.and_eq_true, decide_eq_true_eq] at hg; exact hg.1
      have hlen := ho.row.row.len (H' := H')
      by_cases hany : l.any (Tg.Hd.isP name) = true
      · rw [if_pos hany] at hres ho hlen
        have hgl := Tg.Hd.goS_len name val l false
        generalize Tg.Hd.goS name val l false = out at *
        subst hres
        have q := eq_false (show ¬ (100 : Int) < (out.length : Int) by omega)
        simp [f10, hlen, q]
        exact ho
      · rw [if_neg hany] at hres ho hlen
        by_cases h100 : l.length = 100
        · rw [if_pos h100] at hres
          subst hres
          have q := eq_true (show (100 : Int) < (((l ++ [(name, val)]).length : Nat) : Int) by simp; omega)
          generalize l ++ [(name, val)] = out at *
          simp [f10, hlen, q]
          exact ⟨RowN.nil, full_nil, ho.le, ho.old⟩
        · rw [if_neg h100] at hres
          subst hres
          have q := eq_false (show ¬ (100 : Int) < (((l ++ [(name, val)]).length : Nat) : Int) by simp; omega)
          simp only
          generalize l ++ [(name, val)] = out at *
          simp [f10, hlen, q]
          exact ho
    refine runs_cut 7 (fun fr' H' => Tg.Hd.good l = true ∧ Tg.Hd.fine (name, val) = true ∧ fr' 6 = .slice none 0 0 ∧ fr' 7 = .int .i64 0 ∧ fr' 8 = ptr H.n 0 ∧ fr' 11 = .bool (l.any (Tg.Hd.isP name)) ∧ ∃ w, fr' 10 = w ∧ HOwn (H.n + 2) H' w (Tg.Hd.goS name val l false) ∧ Full w ∧ H.n + 2 ≤ H'.n ∧ H'.get H.n = some (hb (name, val)) ∧ ∀ k, k < H.n → H'.get k = H.get k) ?_ (fun K7 hK7 => ?_) rfl
    · rintro fr' H' ⟨hg, hf, f6, f7, f8, f11, w, f10, ho, hfull, hn2, hbk, hold⟩
      have hfin := fun fr2 H2 (g6 : fr2 6 = .slice none 0 0) (g7 : fr2 7 = .int .i64 0) w (g10 : fr2 10 = w) (g : OutRow H w H2 (if l.any (Tg.Hd.isP name) = true then Tg.Hd.goS name val l false else l ++ [(name, val)])) => hK8 fr2 H2 ⟨hg, hf, g6, g7, w, g10, g⟩
      clear hK8
      cases hany : l.any (Tg.Hd.isP name) with
      | true =>
        rw [hany] at f11 hfin
        rw [if_pos rfl] at hfin
        simp [f11]
        refine hfin _ _ ?_ ?_ w ?_ ⟨ho.weak (by omega), hfull, by omega, hold⟩
        all_goals simp [f6, f7, f10]
      | false =>
        rw [hany] at f11 hfin
        rw [if_neg (by decide)] at hfin
        rw [Tg.Hd.goS_no hany] at ho
        obtain ⟨v', H2, a1, a2, a3, a4, a5, a6⟩ := h_app ho hn2 (by omega) name val
        simp [f11, f10, f8, hbk, bs1h, a1]
        refine hfin _ _ ?_ ?_ v' ?_ ⟨a2.weak (by omega), a5 hfull, by omega, fun k hk => by rw [a4 k (by omega) (ho.off_lt (by omega)), hold k hk]⟩
        all_goals simp [f6, f7]
    clear hK8
    cases hg : Tg.Hd.good l with
    | false =>
      rw [hg] at hgd hres
      rw [if_neg (by simp)] at hres
      subst hres
      simp [ht, hgd]
      exact ⟨RowN.nil, full_nil, by omega, hk1⟩
    | true =>
      cases hf : Tg.Hd.fine (name, val) with
      | false =>
        rw [hf] at hfn hres
        rw [hg] at hgd
        rw [if_neg (by simp)] at hres
        subst hres
        simp [ht, hgd, hfn]
        exact ⟨RowN.nil, full_nil, by omega, hk1⟩
      | true =>
        rw [hf] at hfn
        rw [hg] at hgd
        have hll : l.length ≤ 100 := by
          unfold Tg.Hd.good at hg; rw [Bool.and_eq_true, decide_eq_true_eq] at hg; exact hg.1
        have hfin := fun fr2 H2 g6 g7 g8 g11 w g10 g => hK7 fr2 H2 ⟨hg, hf, g6, g7, g8, g11, w, g10, g⟩
        clear hK7 hres
        simp [ht, hgd, hfn, named_l, hr.len]
        refine loop_ind (fun (i : Nat) fr' H' => fr' 6 = .slice none 0 0 ∧ fr' 7 = .int .i64 0 ∧ fr' 8 = ptr H.n 0 ∧ fr' 9 = .func (.func 73) #[] #[ptr (H.n + 1) 0] ∧ fr' 28 = v ∧ fr' 29 = .int .i64 l.length ∧ fr' 30 = .int .i64 i ∧ i ≤ l.length ∧ ∃ d w out, fr' 11 = .bool d ∧ fr' 10 = w ∧ HOwn (H.n + 2) H' w out ∧ Full w ∧ out.length ≤ i ∧ Tg.Hd.goS name val l false = out ++ Tg.Hd.goS name val (l.drop i) d ∧ l.any (Tg.Hd.isP name) = (d || (l.drop i).any (Tg.Hd.isP name)) ∧ H.n + 2 ≤ H'.n ∧ H'.get H.n = some (hb (name, val)) ∧ H'.get (H.n + 1) = some ⟨[str name], 9, true⟩ ∧ ∀ k, k < H.n → H'.get k = H.get k) (fun i => l.length - i) 0 ⟨by simp, by simp, by simp, by simp, by simp, by simp, by simp, Nat.zero_le _, false, .slice none 0 0, [], by simp, by simp, RowN.nil, full_nil, by simp, by simp, by simp, by simp, by simp, by simp, fun k hk => by rw [get_new_ne (by rw [n_new]; omega), get_new_ne (by omega)]⟩ ?_
        rintro i fr' H' ⟨f6, f7, f8, f9, f28, f29, f30, hi, d, w, out, f11, f10, ho, hfull, hol, hgo, han, hn2, hb0, hb1, hold⟩ ih
        have hr' := hr.keep (by omega) hold
        by_cases hlt : i < l.length
        · have q := eq_true (show (i : Int) < (l.length : Int) by omega)
          have hw1 : IntKind.i64.wrap ((i : Int) + 1) = ((i + 1 : Nat) : Int) := by rw [wrapI (by omega) (by omega)]; omega
          obtain ⟨k, o, g1, g2, g3⟩ := hr'.at hlt
          obtain ⟨g4, _, _⟩ := g3 H' rfl
          have hm := hs l[i] (List.getElem_mem hlt)
          rw [List.drop_eq_getElem_cons hlt] at hgo han
          rw [List.any_cons] at han
          rw [Tg.Hd.goS_cons] at hgo
          generalize l[i] = x at *
          have hnm := named1_cl (H := H'.new (hb x)) (p := H.n + 1) (name := name) (h := x) (by rw [get_new_ne (by omega)]; exact hb1) (by rw [n_new]; omega) hm.1
          have d0 : (H.n = H'.n) = False := eq_false (by omega)
          have ho1 : HOwn (H.n + 2) (H'.new (hb x)) w out := ho.keep (Nat.le_succ _) (fun j hj _ hjn => get_new_ne (by omega))
          have hnew : ∀ k, k < H.n + 2 → (H'.new (hb x)).get k = H'.get k := fun k hk => get_new_ne (by omega)
          cases hx : Tg.Hd.isP name x with
          | false =>
            rw [hx] at hnm hgo han
            rw [if_pos rfl] at hgo
            obtain ⟨v', H2, a1, a2, a3, a4, a5, a6⟩ := h_app ho1 (by rw [n_new]; omega) (by omega) x.1 x.2
            have hg2 : ∀ k, k < H.n + 2 → H2.get k = H'.get k := fun k hk => by rw [a4 k (by rw [n_new]; omega) (ho1.off_lt hk), hnew k hk]
            rw [n_new] at a3
            simp [f6, f7, f8, f9, f28, f29, f30, f10, f11, q, hlt, g1, g4, hnm, bs1h, a1]
            refine ih (i + 1) _ _ (by omega) ⟨?_, ?_, ?_, ?_, ?_, ?_, ?_, by omega, d, v', out ++ [x], ?_, ?_, a2, a5 hfull, by simp; omega, by rw [hgo]; simp, by rw [han]; simp, by omega, by rw [hg2 _ (by omega)]; exact hb0, by rw [hg2 _ (by omega)]; exact hb1, fun k hk => by rw [hg2 k (by omega)]; exact hold k hk⟩
            all_goals simp [f6, f7, f8, f9, f28, f29, f11, hw1]
          | true =>
            rw [hx] at hnm hgo han
            rw [if_neg (by decide)] at hgo
            cases d with
            | true =>
              rw [if_pos rfl] at hgo
              simp [f6, f7, f8, f9, f28, f29, f30, f10, f11, q, hlt, g1, g4, hnm]
              refine ih (i + 1) _ _ (by omega) ⟨?_, ?_, ?_, ?_, ?_, ?_, ?_, by omega, true, w, out, ?_, ?_, ho1, hfull, by omega, hgo, by rw [han]; simp, by rw [n_new]; omega, by rw [hnew _ (by omega)]; exact hb0, by rw [hnew _ (by omega)]; exact hb1, fun k hk => by rw [hnew k (by omega)]; exact hold k hk⟩
              all_goals simp [f6, f7, f8, f9, f28, f29, f11, f10, hw1]
            | false =>
              rw [if_neg (by decide)] at hgo
              obtain ⟨v', H2, a1, a2, a3, a4, a5, a6⟩ := h_app ho1 (by rw [n_new]; omega) (by omega) x.1 val
              have hg2 : ∀ k, k < H.n + 2 → H2.get k = H'.get k := fun k hk => by rw [a4 k (by rw [n_new]; omega) (ho1.off_lt hk), hnew k hk]
              rw [n_new] at a3
              simp [f6, f7, f8, f9, f28, f29, f30, f10, f11, q, hlt, g1, g4, hnm, d0, hb0, bs1h, a1]
              refine ih (i + 1) _ _ (by omega) ⟨?_, ?_, ?_, ?_, ?_, ?_, ?_, by omega, true, v', out ++ [(x.1, val)], ?_, ?_, a2, a5 hfull, by simp; omega, by rw [hgo]; simp, by rw [han]; simp, by omega, by rw [hg2 _ (by omega)]; exact hb0, by rw [hg2 _ (by omega)]; exact hb1, fun k hk => by rw [hg2 k (by omega)]; exact hold k hk⟩
              all_goals simp [f6, f7, f8, f9, f28, f29, f11, hw1]
        · have q := eq_false (show ¬ (i : Int) < (l.length : Int) by omega)
          rw [List.drop_of_length_le (by omega)] at hgo han
          have hgo : Tg.Hd.goS name val l false = out := by rw [hgo]; simp [Tg.Hd.goS]
          have han : l.any (Tg.Hd.isP name) = d := by rw [han]; simp
          rw [hgo, han] at hfin
          simp [f29, f30, q]
          refine hfin _ _ ?_ ?_ ?_ ?_ w ?_ ⟨ho, hfull, hn2, hb0, hold⟩
          all_goals simp [f6, f7, f8, f11, f10]
  obtain ⟨⟨r, H'⟩, e, w, rfl, ho⟩ := key
  obtain ⟨H2, e2, ho2⟩ := ho.truncT (x := .int .i64 (Tg.Hd.setP name value l).2)
  exact ⟨w, H2, by rw [e, ← e2], ho2⟩
end
end Go.Proofs.YteckofomnhminaaDoor
/-
  Layer 22 (header): a header set: what the reference's functions come to.
-/
set_option linter.unusedSimpArgs false
set_option linter.unusedVariables false
set_option maxRecDepth 100000
namespace Tg.Hd
def cutP (name : List UInt8) (l : List Hdr) : List Hdr := l.filter fun h => !isP name h
theorem goS_first {name val : List UInt8} : ∀ {l : List Hdr} {i : Nat} (h : i < l.length), (∀ j (hj : j < i), isP name (l[j]'(by omega)) = false) → isP name l[i] = true → goS name val l false = l.take i ++ (l[i].1, val) :: cutP name (l.drop (i + 1)) ∧ l.any (isP name) = true
  | [], i, h, _, _ => by simp at h
  | x :: r, 0, h, _, h1 => by
    rw [goS_cons]
    simp only [List.getElem_cons_zero] at h1
    rw [if_neg (by rw [h1]; decide), if_neg (by decide), goS_true]
    refine ⟨by simp [cutP], ?_⟩
    rw [List.any_cons, h1]; rfl
  | x :: r, i + 1, h, h0, h1 => by
    have hx := h0 0 (by omega)
    simp only [List.getElem_cons_zero] at hx
    simp only [List.getElem_cons_succ] at h1
    obtain ⟨e1, e2⟩ := goS_first (val := val) (l := r) (i := i) (by simpa using h) (fun j hj => by have := h0 (j + 1) (by omega); simpa using this) h1
    rw [goS_cons, if_pos hx, e1]
    refine ⟨by simp, ?_⟩
    rw [List.any_cons, e2, Bool.or_true]
theorem any_no {name : List UInt8} {l : List Hdr} (h : ∀ j (hj : j < l.length), isP name l[j] = false) : l.any (isP name) = false := by
  rw [List.any_eq_false]
  intro x hx
  obtain ⟨j, hj, rfl⟩ := List.getElem_of_mem hx
  rw [h j hj]; decide
end Tg.Hd
namespace Go.Proofs.YteckofomnhminaaDoor
open Go.Lg Go.Tg
section
variable {H : LH} {b : UInt8} {s p : List UInt8}
theorem hrow_str {N : Nat} {v : Value} {l : List UInt8} (h : RowN N H 5 1 v l.length (l.map bv)) (hv : v ≠ .slice none 0 0) : ∃ k c, v = sl k l.length c ∧ lconv Tryd.prog 53 9 (sl k l.length c) H = some (str l) := by
  rcases h.2 with ⟨e, h0⟩ | ⟨k, c, rest, e, g1, g2, g3, g4, g5⟩
  · exact absurd e hv
  · refine ⟨k, c, e, lconv_bs (e := 5) Tryd.underlying53 Tryd.underlying9 Tryd.underlying5 g3 (by simp) ?_⟩
    have : ((l.map bv ++ rest).drop 0).take l.length = l.map bv := by simp
    rw [this]; exact lbs_map l
theorem hbyte_app {v : Value} {N : Nat} {l : List UInt8} {x : UInt8} (h : RowN N H 5 1 v l.length (l.map bv)) (hN : N ≤ H.n) (hl : l.length ≤ 1000000) :
    ∃ v' H2, lapp Tryd.prog 53 v (some (1, [.int .u8 x.toNat])) (H.new ⟨[.int .u8 x.toNat], 5, true⟩) = some (v', H2) ∧ RowN N H2 5 1 v' (l ++ [x]).length ((l ++ [x]).map bv) ∧ N ≤ H2.n ∧ ∀ k, k < N → H2.get k = H.get k := by
  have h2 : RowN N (H.new ⟨[.int .u8 x.toNat], 5, true⟩) 5 1 v l.length (l.map bv) := h.keep (Nat.le_succ _) (fun k _ _ hk => get_new_ne (by omega))
  obtain ⟨v', H2, ha, hr, hk, _⟩ := h2.app (t := 53) (new := [x].map bv) (m := 1) Tryd.underlying53 (by kernel_rfl) (bv_cells [x]) (by simp) (by unfold maxElems; omega) (by rw [n_new]; omega) (.inl (Nat.le_refl 1))
  refine ⟨v', H2, ha, by rw [List.length_append, List.map_append]; exact hr, Nat.le_trans (by rw [n_new]; omega) hk.le, fun k hkn => ?_⟩
  rw [hk.get k (by rw [n_new]; omega) (h.off_lt hkn), get_new_ne (by omega)]
theorem hbs0 : lbuildSlice Tryd.prog 53 0 [] H = some (sl H.n 0 0, H.new ⟨[], 5, true⟩) := lbs_dense (z := .int .u8 0) Tryd.underlying53 (by kernel_rfl) (by kernel_rfl) rfl rfl rfl (by decide) rfl
theorem hlower_cl (hs : s.length ≤ 1000000) : LC Tryd.prog EJ 76 [str s] H = some (str (Tg.Lo.lower s), H) := by
  refine LC_pure rfl Tryd.func76 rfl (Nat.le_of_ble_eq_true rfl) (by decide) (by kernel_rfl) rfl ?_
  simp [hbs0]
  refine loop_ind (fun (i : Nat) fr' H' => fr' 0 = str s ∧ fr' 4 = .int .i64 i ∧ i ≤ s.length ∧ (∃ v, fr' 3 = v ∧ v ≠ .slice none 0 0 ∧ RowN H.n H' 5 1 v (Tg.Lo.lower (s.take i)).length ((Tg.Lo.lower (s.take i)).map bv)) ∧ H.n ≤ H'.n ∧ ∀ k, k < H.n → H'.get k = H.get k) (fun i => s.length - i) 0 ⟨by simp, by simp, Nat.zero_le _, ⟨sl H.n 0 0, by simp, (by intro e; cases e), ?_⟩, by simp, fun k hk => get_new_ne (by omega)⟩ ?_
  · exact ⟨by simp [Tg.Lo.lower], .inr ⟨H.n, 0, [], by simp [Tg.Lo.lower], Nat.le_refl _, by simp, by simp [Tg.Lo.lower], by simp [Tg.Lo.lower], by simp [Tg.Lo.lower]⟩⟩
  rintro i fr' H' ⟨h0, h4, hi, ⟨v, h3, hne, hr⟩, hn, hk⟩ ih
  by_cases hlt : i < s.length
  · have q := eq_true (show (i : Int) < (s.length : Int) by omega)
    have hat : at_ s (i : Int) = s[i] := at_in hlt
    have hw : IntKind.i64.wrap ((i : Int) + 1) = ((i + 1 : Nat) : Int) := by rw [wrapI (by omega) (by omega)]; omega
    have hll : (Tg.Lo.lower (s.take i)).length ≤ 1000000 := by simp [Tg.Lo.lower]; omega
    have hnew : Tg.Lo.lower (s.take (i + 1)) = Tg.Lo.lower (s.take i) ++ [Tg.Lo.low s[i]] := by
      have e : s.take (i + 1) = s.take i ++ [s[i]] := List.take_succ_eq_append_getElem hlt
      unfold Tg.Lo.lower; rw [e, List.map_append]; rfl
    generalize s[i] = c at *
    have hlt8 := c.toNat_lt
    have e8 : (c + 32).toNat = (c.toNat + 32) % 256 := by rw [UInt8.toNat_add]; rfl
    have hw8 : IntKind.u8.wrap ((c.toNat : Int) + 32) = ((c + 32).toNat : Int) := by rw [wrap8, e8]; omega
    obtain ⟨v2, H2, a1, a2, a3, a4⟩ := hbyte_app (x := Tg.Lo.low c) hr hn hll
    have hne2 : v2 ≠ .slice none 0 0 := by
      rcases a2.2 with ⟨_, e⟩ | ⟨k, c2, rest, e, _⟩
      · simp at e
      · rw [e]; intro e2; cases e2
    rw [← hnew] at a2
    have hfin := fun fr2 (g0 : fr2 0 = str s) (g4 : fr2 4 = .int .i64 ((i + 1 : Nat) : Int)) (g3 : fr2 3 = v2) => ih (i + 1) fr2 H2 (by omega) ⟨g0, g4, by omega, ⟨v2, g3, hne2, a2⟩, a3, fun k hk2 => by rw [a4 k hk2, hk k hk2]⟩
    clear ih
    unfold Tg.Lo.low at a1
    by_cases h1 : (65 : Int) ≤ c.toNat
    · by_cases h2 : (c.toNat : Int) ≤ 90
      · rw [if_pos ⟨h1, h2⟩] at a1
        clear e8
        generalize c + 32 = c2 at *
        have q1 := eq_true h1
        have q2 := eq_true h2
        simp [h0, h3, h4, q, hat, q1, q2, hw8, a1]
        refine hfin _ ?_ ?_ ?_
        all_goals simp [h0, hw]
      · rw [if_neg (fun h => h2 h.2)] at a1
        have q1 := eq_true h1
        have q2 := eq_false h2
        simp [h0, h3, h4, q, hat, q1, q2, a1]
        refine hfin _ ?_ ?_ ?_
        all_goals simp [h0, hw]
    · rw [if_neg (fun h => h1 h.1)] at a1
      have q1 := eq_false h1
      simp [h0, h3, h4, q, hat, q1, a1]
      refine hfin _ ?_ ?_ ?_
      all_goals simp [h0, hw]
  · have q := eq_false (show ¬ (i : Int) < (s.length : Int) by omega)
    rw [List.take_of_length_le (by omega)] at hr
    obtain ⟨k, c, hv, hc⟩ := hrow_str hr hne
    subst hv
    simp [h0, h3, h4, q, hc]
    exact ⟨hn, hk⟩
end
section
variable {H : LH} {v w : Value} {l m : List Tg.Hd.Hdr} {N : Nat} {s name value : List UInt8} {h : Tg.Hd.Hdr} {p : Nat}
theorem his_cl (h1 : h.1.length ≤ 1000000) (h2 : name.length ≤ 1000000) : LC Tryd.prog EJ 45 [hv h, str name] H = some (.bool (Tg.Hd.isP name h), H) := by
  refine LC_pure rfl Tryd.func45 rfl (Nat.le_of_ble_eq_true rfl) (by decide) (by kernel_rfl) rfl ?_
  have e1 := fun H : LH => hlower_cl (H := H) (s := h.1) h1
  have e2 := fun H : LH => hlower_cl (H := H) (s := name) h2
  unfold Tg.Hd.isP
  generalize Tg.Lo.lower h.1 = a at *
  generalize Tg.Lo.lower name = c at *
  simp [e1, e2, le_refl.new]
theorem hcut_ex (hr : HRow H v l) (hl : l.length ≤ 90000) (hs : ∀ h ∈ l, h.1.length ≤ 1000000) (hn : name.length ≤ 1000000) : ∃ v' H', LC Tryd.prog EJ 46 [str name, v] H = some (v', H') ∧ OutRow H v' H' (Tg.Hd.cutP name l) := by
  have key : ∃ r, LC Tryd.prog EJ 46 [str name, v] H = some (Lg.trunc H r) ∧ OutRow H r.1 r.2 (Tg.Hd.cutP name l) := by
    refine LC_runs (P := Tryd.prog) (E := EJ) (f := 46) rfl Tryd.func46 rfl (Nat.le_of_ble_eq_true rfl) (by decide) (by kernel_rfl) ?_
    simp [bs0h]
    refine loop_ind (fun (i : Nat) fr' H' => fr' 0 = str name ∧ fr' 1 = v ∧ fr' 6 = .int .i64 i ∧ i ≤ l.length ∧ ∃ w, fr' 5 = w ∧ OutRow H w H' (Tg.Hd.cutP name (l.take i))) (fun i => l.length - i) 0 ⟨by simp, by simp, by simp, Nat.zero_le _, sl H.n 0 0, by simp, ⟨?_, full_new, by simp, fun k hk => get_new_ne (by omega)⟩⟩ ?_
    · exact ⟨by simp [Tg.Hd.cells, Tg.Hd.cutP], .inr ⟨H.n, 0, [], by simp [Tg.Hd.cutP], Nat.le_refl _, by simp, by simp [Tg.Hd.cells, Tg.Hd.cutP], by simp [Tg.Hd.cutP], by simp [Tg.Hd.cells, Tg.Hd.cutP]⟩⟩
    rintro i fr' H' ⟨h0, h1, h6, hi, w, h5, hrow, hfull, hn2, hk⟩ ih
    have hr' := hr.keep hn2 hk
    by_cases hlt : i < l.length
    · have q := eq_true (show (i : Int) < (l.length : Int) by omega)
      have hw1 : IntKind.i64.wrap ((i : Int) + 1) = ((i + 1 : Nat) : Int) := by rw [wrapI (by omega) (by omega)]; omega
      obtain ⟨k, o, g1, g2, g3⟩ := hr'.at hlt
      obtain ⟨g4, _, _⟩ := g3 H' rfl
      have his := fun H : LH => his_cl (H := H) (h := l[i]) (name := name) (hs l[i] (List.getElem_mem hlt)) hn
      have hcl : (Tg.Hd.cutP name (l.take i)).length ≤ i := by
        refine Nat.le_trans (List.length_filter_le _ _) ?_
        rw [List.length_take]; omega
      have hnew : Tg.Hd.cutP name (l.take (i + 1)) = Tg.Hd.cutP name (l.take i) ++ (if Tg.Hd.isP name l[i] = true then [] else [l[i]]) := by
        rw [List.take_succ_eq_append_getElem hlt]
        unfold Tg.Hd.cutP
        rw [List.filter_append]
        congr 1
        cases hx : Tg.Hd.isP name l[i] <;> simp [hx]
      have ihx := fun fr2 H2 => ih (i + 1) fr2 H2 (by omega)
      clear ih
      generalize Tg.Hd.cutP name (l.take (i + 1)) = c' at *
      generalize Tg.Hd.cutP name (l.take i) = c at *
      generalize l[i] = x at *
      cases hx : Tg.Hd.isP name x with
      | true =>
        rw [hx] at his hnew
        rw [if_pos rfl, List.append_nil] at hnew
        subst hnew
        simp [h0, h1, h5, h6, q, hlt, g1, g4, his, hr.len]
        refine ihx _ _ ⟨?_, ?_, ?_, by omega, w, ?_, ⟨hrow, hfull, hn2, hk⟩⟩
        all_goals simp [h0, h1, h5, hw1]
      | false =>
        rw [hx] at his hnew
        rw [if_neg (by decide)] at hnew
        obtain ⟨v', H2, a1, a2, a3, a4, a5, a6⟩ := h_app hrow hn2 (by omega) x.1 x.2
        have a2 : HOwn H.n H2 v' c' := by rw [hnew]; exact a2
        simp [h0, h1, h5, h6, q, hlt, g1, g4, his, bs1h, a1, hr.len]
        refine ihx _ _ ⟨?_, ?_, ?_, by omega, v', ?_, ⟨a2, a5 hfull, by omega, fun k hk2 => by rw [a4 k (by omega) (hrow.off_lt hk2), hk k hk2]⟩⟩
        all_goals simp [h0, h1, hw1]
    · have q := eq_false (show ¬ (i : Int) < (l.length : Int) by omega)
      rw [List.take_of_length_le (by omega)] at hrow
      simp [h0, h1, h5, h6, q, hr.len]
      exact ⟨hrow, hfull, hn2, hk⟩
  obtain ⟨r, e, ho⟩ := key
  obtain ⟨H2, e2, ho2⟩ := ho.trunc
  exact ⟨r.1, H2, by rw [e, ← e2], ho2⟩
end
end Go.Proofs.YteckofomnhminaaDoor
/-
  Layer 22 (header): a header set: what the reference's Set comes to; the law HeaderSets.
-/
set_option linter.unusedSimpArgs false
set_option linter.unusedVariables false
set_option maxRecDepth 100000
namespace Tg.Hd
theorem cells_cell : ∀ l : List Hdr, (cells l).all Go.Lg.cellB = true
  | [] => rfl
  | h :: l => by rw [cells_cons]; simp [cells_cell l]
theorem cells_take : ∀ (l : List Hdr) (i : Nat), (cells l).take (i * 2) = cells (l.take i)
  | [], i => by simp [cells]
  | h :: l, 0 => by simp [cells]
  | h :: l, i + 1 => by
    rw [cells_cons, List.take_succ_cons, cells_cons, show (i + 1) * 2 = i * 2 + 1 + 1 by omega, List.take_succ_cons, List.take_succ_cons, cells_take l i]
theorem cells_drop : ∀ (l : List Hdr) (i : Nat), (cells l).drop (i * 2) = cells (l.drop i)
  | [], i => by simp [cells]
  | h :: l, 0 => by simp [cells]
  | h :: l, i + 1 => by
    rw [cells_cons, List.drop_succ_cons, show (i + 1) * 2 = i * 2 + 1 + 1 by omega, List.drop_succ_cons, List.drop_succ_cons, cells_drop l i]
end Tg.Hd
namespace Go.Proofs.YteckofomnhminaaDoor
open Go.Lg Go.Tg
section
variable {H H' : LH} {v w : Value} {l m : List Tg.Hd.Hdr} {N : Nat} {s name value : List UInt8} {h : Tg.Hd.Hdr} {p : Nat}
theorem h_cat (h : HOwn N H v l) (hf : Full v) (hN : N ≤ H.n) (hl : l.length + m.length ≤ 100000) :
    ∃ v' H2, lapp Tryd.prog 22 v (some (m.length, Tg.Hd.cells m)) H = some (v', H2) ∧ HOwn N H2 v' (l ++ m) ∧ H.n ≤ H2.n ∧ (∀ k, k < H.n → offRow v k → H2.get k = H.get k) ∧ Full v' ∧ (∀ k, k < H.n → offRow v k → offRow v' k) := by
  obtain ⟨v', H2, ha, hr, hk, hf2⟩ := RowN.app (P := Tryd.prog) (t := 22) (new := Tg.Hd.cells m) (m := m.length) h Tryd.underlying22 (by kernel_rfl) (Tg.Hd.cells_cell m) (Tg.Hd.cells_len m) (by unfold maxElems; omega) hN (.inr hf)
  refine ⟨v', H2, ha, ?_, hk.le, hk.get, hf2 hf, hk.off⟩
  rw [HOwn, List.length_append, Tg.Hd.cells_app]; exact hr
theorem HOwn.src (h : HOwn N H v l) (hk : ∀ k, N ≤ k → k < H.n → H'.get k = H.get k) : lesrc Tryd.prog 22 v H' = some (l.length, Tg.Hd.cells l) := by
  rcases h.2 with ⟨rfl, h0⟩ | ⟨k, c, rest, rfl, g1, g2, g3, g4, g5⟩
  · have : l = [] := List.eq_nil_of_length_eq_zero h0
    subst this
    simp [Tg.Hd.cells]
  · have hl := Tg.Hd.cells_len l
    rw [lesrc_row (s := 2) Tryd.underlying22 (by kernel_rfl) (by rw [hk k g1 g2]; exact g3) (by rw [List.length_append, hl]; omega)]
    rw [List.drop_zero, List.take_left' hl]
theorem HOwn.takeP (h : HOwn N H v l) {i : Nat} (hi : i ≤ l.length) : ∃ v', lpart Tryd.prog 22 v none (some (.int .i64 i)) = some v' ∧ HOwn N H v' (l.take i) := by
  have hl := Tg.Hd.cells_len l
  rcases h.2 with ⟨rfl, h0⟩ | ⟨k, c, rest, rfl, g1, g2, g3, g4, g5⟩
  · have : l = [] := List.eq_nil_of_length_eq_zero h0
    subst this
    have : i = 0 := by simpa using hi
    subst this
    have hu := Tryd.underlying22
    have hs : sz Tryd.prog 60 = some 2 := by kernel_rfl
    exact ⟨.slice none 0 0, by simp [lpart, lbd], RowN.nil⟩
  · refine ⟨_, lpart_row_ns (s := 2) Tryd.underlying22 (by kernel_rfl) (by omega) (by omega), ?_⟩
    have e : (l.take i).length = i := by rw [List.length_take]; omega
    refine ⟨by rw [Tg.Hd.cells_len], .inr ⟨k, c, Tg.Hd.cells (l.drop i) ++ rest, by rw [Int.toNat_natCast, e], g1, g2, ?_, by omega, ?_⟩⟩
    · rw [← List.append_assoc, ← Tg.Hd.cells_app, List.take_append_drop]; exact g3
    · rw [← List.append_assoc, ← Tg.Hd.cells_app, List.take_append_drop]; exact g5
theorem HOwn.dropP (h : HOwn N H v l) {i : Nat} (hi : i < l.length) : ∃ v', lpart Tryd.prog 22 v (some (.int .i64 ((i : Int) + 1))) none = some v' ∧ HRow H v' (l.drop (i + 1)) := by
  have hl := Tg.Hd.cells_len l
  rcases h.2 with ⟨rfl, h0⟩ | ⟨k, c, rest, rfl, g1, g2, g3, g4, g5⟩
  · omega
  · refine ⟨_, lpart_row_sn (s := 2) Tryd.underlying22 (by kernel_rfl) (by omega) (by omega), ?_⟩
    have e : ((i : Int) + 1).toNat = i + 1 := by omega
    refine .inr ⟨k, 0 + (i + 1) * 2, c - (i + 1), by rw [e, List.length_drop], fun _ => ⟨_, g3, g2, fun j hj => ?_⟩⟩
    rw [List.length_drop] at hj
    have g := Tg.Hd.cells_at (l := l) (i := i + 1 + j) (by omega) rest
    have e2 : 0 + (i + 1) * 2 + j * 2 = (i + 1 + j) * 2 := by omega
    rw [e2]
    simp only [List.getElem_drop]
    refine ⟨?_, g⟩
    rw [List.length_append, hl]; omega
theorem own0 {x : LB} : HOwn H.n (H.new ⟨[], 60, true⟩) (sl H.n 0 0) [] := ⟨by simp [Tg.Hd.cells], .inr ⟨H.n, 0, [], by simp, Nat.le_refl _, by simp, by simp [Tg.Hd.cells], by simp, by simp [Tg.Hd.cells]⟩⟩
theorem hset_ex (hv : HOwn N H v l) (hl : l.length ≤ 40000) (hs : ∀ h ∈ l, h.1.length ≤ 1000000 ∧ h.2.length ≤ 1000000) (hn : name.length ≤ 1000000) (hvl : value.length ≤ 1000000) :
    ∃ v' H', LC Tryd.prog EJ 18 [str name, str value, v] H = some (.tuple #[v', .int .i64 (Tg.Hd.setP name value l).2], H') ∧ OutRow H v' H' (Tg.Hd.setP name value l).1 := by
  have hr : HRow H v l := hv.row
  have key : ∃ r, LC Tryd.prog EJ 18 [str name, str value, v] H = some (Lg.trunc H r) ∧ ∃ w, r.1 = .tuple #[w, .int .i64 (Tg.Hd.setP name value l).2] ∧ OutRow H w r.2 (Tg.Hd.setP name value l).1 := by
    refine LC_runs (P := Tryd.prog) (E := EJ) (f := 18) rfl Tryd.func18 rfl (Nat.le_of_ble_eq_true rfl) (by decide) (by kernel_rfl) ?_
    have ht := fun H : LH => htrim_cl (H := H) (s := value) (by omega)
    have htl := trimH_len value
    obtain ⟨res, hres⟩ : ∃ res, res = Tg.Hd.setP name value l := ⟨_, rfl⟩
    rw [← hres]
    unfold Tg.Hd.setP at hres
    generalize Tg.Hd.trim value = val at *
    have hle1 : H.n ≤ (H.new (hb (name, val))).n := by rw [n_new]; omega
    have hk1 : ∀ k, k < H.n → (H.new (hb (name, val))).get k = H.get k := fun k hk => get_new_ne (by omega)
    have hr1 := hr.keep hle1 hk1
    have hgd := hgood_cl hr1 (by omega) (fun h hh => by have := hs h hh; omega)
    have hfn := hfine_cl (H := H.new (hb (name, val))) (h := (name, val)) (by simp only; omega) (by simp only; omega)
    have hv1 : HOwn N (H.new (hb (name, val))) v l := hv.keep hle1 (fun k _ _ hk => hk1 k hk)
    refine runs_cut 3 (fun fr' H' => Tg.Hd.good l = true ∧ Tg.Hd.fine (name, val) = true ∧ fr' 0 = str name ∧ fr' 2 = v ∧ fr' 6 = .slice none 0 0 ∧ fr' 7 = .int .i64 0 ∧ fr' 8 = ptr H.n 0 ∧ H' = H.new (hb (name, val))) ?_ (fun K3 hK3 => ?_) rfl
    · rintro fr' H' ⟨hg, hf, f0, f2, f6, f7, f8, rfl⟩
      rw [if_pos ⟨hg, hf⟩] at hres
      have hll : l.length ≤ 100 := by
        unfold Tg.Hd.good at hg; rw [Bool.and_eq_true, decide_eq_true_eq] at hg; exact hg.1
      clear hgd hfn
      simp
      refine loop_ind (fun (i : Nat) fr' H' => fr' 0 = str name ∧ fr' 2 = v ∧ fr' 6 = .slice none 0 0 ∧ fr' 7 = .int .i64 0 ∧ fr' 8 = ptr H.n 0 ∧ fr' 9 = .int .i64 i ∧ i ≤ l.length ∧ (∀ j (hj : j < l.length), j < i → Tg.Hd.isP name l[j] = false) ∧ H' = H.new (hb (name, val))) (fun i => l.length - i) 0 ⟨by simp [f0], by simp [f2], by simp [f6], by simp [f7], by simp [f8], by simp, Nat.zero_le _, fun j _ hj => by omega, rfl⟩ ?_
      clear f0 f2 f6 f7 f8
      rintro i fr' H' ⟨f0, f2, f6, f7, f8, f9, hi, hno, rfl⟩ ih
      by_cases hlt : i < l.length
      · have q := eq_true (show (i : Int) < (l.length : Int) by omega)
        have qi := eq_true (show (i : Int) ≤ (l.length : Int) by omega)
        have hw1 : IntKind.i64.wrap ((i : Int) + 1) = (i : Int) + 1 := wrapI (by omega) (by omega)
        obtain ⟨k, o, g1, g2, g3⟩ := hr1.at hlt
        obtain ⟨g4, g5, _⟩ := g3 _ rfl
        have hm := hs l[i] (List.getElem_mem hlt)
        have his := fun H : LH => his_cl (H := H) (h := l[i]) (name := name) hm.1 hn
        cases hx : Tg.Hd.isP name l[i] with
        | false =>
          rw [hx] at his
          simp [f0, f2, f9, q, hlt, g1, g4, his, hr.len]
          refine ih (i + 1) _ _ (by omega) ⟨?_, ?_, ?_, ?_, ?_, ?_, by omega, fun j hj hji => ?_, rfl⟩
          · simp [f0]
          · simp [f2]
          · simp [f6]
          · simp [f7]
          · simp [f8]
          · simp [hw1]
          · by_cases e : j = i
            · subst e; exact hx
            · exact hno j hj (by omega)
        | true =>
          rw [hx] at his
          obtain ⟨e1, e2⟩ := Tg.Hd.goS_first (val := val) hlt (fun j hj => hno j (by omega) hj) hx
          rw [if_pos e2, e1] at hres
          clear ih e1 e2 hno
          subst hres
          -- region 8
          obtain ⟨vi, p1, p2⟩ := hv1.takeP hi
          have hsrc := p2.src (H' := (H.new (hb (name, val))).new ⟨[], 60, true⟩) (fun k _ hk => get_new_ne (by omega))
          have etk : (l.take i).length = i := by rw [List.length_take]; omega
          obtain ⟨va, Ha, b1, b2, b3, b4, b5, b6⟩ := h_cat (m := l.take i) (own0 (H := H.new (hb (name, val))) (x := hb (name, val))) full_new (Nat.le_succ _) (by rw [etk]; simp; omega)
          have hn1 : (H.new (hb (name, val))).n = H.n + 1 := n_new
          have offA : ∀ k, k < H.n + 1 → offRow (sl (H.new (hb (name, val))).n 0 0) k := fun k hk n c e => by injection e with e; injection e with e; injection e with e; omega
          have hga : ∀ k, k < H.n + 1 → Ha.get k = (H.new (hb (name, val))).get k := fun k hk => by rw [b4 k (by rw [n_new]; omega) (offA k hk), get_new_ne (by omega)]
          obtain ⟨_, g6, _⟩ := g3 Ha (hga k (by omega))
          obtain ⟨_, g7, _⟩ := g3 ((H.new (hb (name, val))).new ⟨[], 60, true⟩) (get_new_ne (by omega))
          have hb0 : Ha.get H.n = some (hb (name, val)) := by rw [hga _ (by omega), get_new]
          have b3' := b3
          rw [n_new, n_new] at b3'
          obtain ⟨vb, Hb, c1, c2, c3, c4, c5, c6⟩ := h_app b2 (by omega) (by rw [List.nil_append, etk]; omega) l[i].1 val
          have hgb : ∀ k, k < H.n + 1 → Hb.get k = (H.new (hb (name, val))).get k := fun k hk => by rw [c4 k (by omega) (b6 k (by rw [n_new]; omega) (offA k hk)), hga k hk]
          -- region 9
          obtain ⟨vd, d1, d2⟩ := hv1.dropP hlt
          have d3 : HRow Hb vd (l.drop (i + 1)) := d2.keep (by omega) (fun k hk => hgb k (by omega))
          obtain ⟨vc, Hc, e1, e2⟩ := hcut_ex (name := name) d3 (by rw [List.length_drop]; omega) (fun h hh => (hs h (List.mem_of_mem_drop hh)).1) hn
          have hcl : (Tg.Hd.cutP name (l.drop (i + 1))).length ≤ l.length := by
            refine Nat.le_trans (List.length_filter_le _ _) ?_
            rw [List.length_drop]; omega
          have hsrc2 := e2.row.src (H' := Hc) (fun k _ _ => rfl)
          have c2' : HOwn (H.n + 1) Hc vb ([] ++ l.take i ++ [(l[i].1, val)]) := by
            rw [hn1] at c2
            exact c2.keep e2.le (fun k _ _ hk => e2.old k hk)
          obtain ⟨vf, Hf, k1, k2, k3, k4, k5, k6⟩ := h_cat (m := Tg.Hd.cutP name (l.drop (i + 1))) c2' (c5 b5) (by have := e2.le; omega) (by simp [etk]; omega)
          have hgf : ∀ k, k < H.n → Hf.get k = H.get k := fun k hk => by
            rw [k4 k (by have := e2.le; omega) (c2'.off_lt (by omega)), e2.old k (by omega), hgb k (by omega), hk1 k hk]
          have q1 := eq_true (show (i : Int) + 1 ≤ (l.length : Int) by omega)
          have etl : [] ++ l.take i ++ [(l[i].1, val)] ++ Tg.Hd.cutP name (l.drop (i + 1)) = l.take i ++ (l[i].1, val) :: Tg.Hd.cutP name (l.drop (i + 1)) := by simp
          rw [etl] at k2
          rw [etk] at hsrc b1
          rw [hn1] at b1
          generalize Tg.Hd.cutP name (l.drop (i + 1)) = cut at *
          generalize l[i] = x at *
          simp [f0, f2, f6, f7, f8, f9, q, qi, hlt, g1, g4, g5, g6, g7, his, hr.len, bs0h, bs1h, p1, hsrc, b1, hb0, c1, hw1, d1, e1, hsrc2, k1]
          exact ⟨k2.weak (by omega), k5, by have := e2.le; omega, hgf⟩
      · have q := eq_false (show ¬ (i : Int) < (l.length : Int) by omega)
        have hany := Tg.Hd.any_no (name := name) (l := l) (fun j hj => hno j hj (by omega))
        rw [hany, if_neg (by decide)] at hres
        clear ih hno
        by_cases h100 : l.length = 100
        · rw [if_pos h100] at hres
          subst hres
          have q1 := eq_true (show (l.length : Int) = 100 by omega)
          simp [f2, f9, q, q1, hr.len]
          exact ⟨RowN.nil, full_nil, by omega, hk1⟩
        · rw [if_neg h100] at hres
          subst hres
          have q1 := eq_false (show ¬ (l.length : Int) = 100 by omega)
          have hsrc := hv1.src (H' := (H.new (hb (name, val))).new ⟨[], 60, true⟩) (fun k _ hk => get_new_ne (by omega))
          have hn1 : (H.new (hb (name, val))).n = H.n + 1 := n_new
          have offA : ∀ k, k < H.n + 1 → offRow (sl (H.new (hb (name, val))).n 0 0) k := fun k hk n c e => by injection e with e; injection e with e; injection e with e; omega
          obtain ⟨va, Ha, b1, b2, b3, b4, b5, b6⟩ := h_cat (m := l) (own0 (H := H.new (hb (name, val))) (x := hb (name, val))) full_new (Nat.le_succ _) (by simp; omega)
          have b3' := b3
          rw [n_new, n_new] at b3'
          have hga : ∀ k, k < H.n + 1 → Ha.get k = (H.new (hb (name, val))).get k := fun k hk => by rw [b4 k (by rw [n_new]; omega) (offA k hk), get_new_ne (by omega)]
          have hb0 : Ha.get H.n = some (hb (name, val)) := by rw [hga _ (by omega), get_new]
          obtain ⟨vb, Hb, c1, c2, c3, c4, c5, c6⟩ := h_app b2 (by omega) (by simp; omega) name val
          have hgb : ∀ k, k < H.n → Hb.get k = H.get k := fun k hk => by rw [c4 k (by omega) (b6 k (by rw [n_new]; omega) (offA k (by omega))), hga k (by omega), hk1 k hk]
          rw [hn1] at b1
          simp [f2, f6, f7, f8, f9, q, q1, hr.len, bs0h, bs1h, hsrc, b1, hb0, c1]
          exact ⟨(show HOwn (H.new (hb (name, val))).n Hb vb (l ++ [(name, val)]) from c2).weak (by rw [n_new]; omega), c5 b5, by omega, hgb⟩
    clear hv1
    cases hg : Tg.Hd.good l with
    | false =>
      rw [hg] at hgd hres
      rw [if_neg (by simp)] at hres
      subst hres
      simp [ht, hgd]
      exact ⟨RowN.nil, full_nil, by omega, hk1⟩
    | true =>
      cases hf : Tg.Hd.fine (name, val) with
      | false =>
        rw [hf] at hfn hres
        rw [hg] at hgd
        rw [if_neg (by simp)] at hres
        subst hres
        simp [ht, hgd, hfn]
        exact ⟨RowN.nil, full_nil, by omega, hk1⟩
      | true =>
        rw [hf] at hfn
        rw [hg] at hgd
        simp [ht, hgd, hfn]
        refine hK3 _ _ ⟨hg, hf, ?_, ?_, ?_, ?_, ?_, rfl⟩
        all_goals simp
  obtain ⟨⟨r, H'⟩, e, w, rfl, ho⟩ := key
  obtain ⟨H2, e2, ho2⟩ := ho.truncT (x := .int .i64 (Tg.Hd.setP name value l).2)
  exact ⟨w, H2, by rw [e, ← e2], ho2⟩
theorem sets_r (hr : HRow H v l) (hl : l.length ≤ 9223372036854775807) : ∃ H', R Tryd.prog EP (.call 4 [str name, str value, v] H (.ret (.bool true)) H') := by
  have key : ∃ r H', R Tryd.prog EP (.call 4 [str name, str value, v] H r H') ∧ r = .ret (.bool true) := by
    refine pcall Tryd.func4 rfl (Nat.le_of_ble_eq_true rfl) (by decide) (by kernel_rfl) (Q := fun r _ => r = .ret (.bool true)) ?_
    have hc1 := fun H : LH => hcut_cl (H := H) (s := name) (k := 30) (by decide)
    have hc2 := fun H : LH => hcut_cl (H := H) (s := value) (k := 100) (by decide)
    simp only [show ((30 : Int).toNat) = 30 from rfl, show ((100 : Int).toNat) = 100 from rfl] at hc1 hc2
    have hl1 : (name.take 30).length ≤ 30 := by rw [List.length_take]; omega
    have hl2 : (value.take 100).length ≤ 100 := by rw [List.length_take]; omega
    generalize name.take 30 = nm at *
    generalize value.take 100 = vl at *
    obtain ⟨v1, H1, e1, o1⟩ := few_hl (H := H) hr hl (c := 102) (by decide)
    have hm := Tg.Hd.few_mem (l := l) (n := 102)
    have hn := Tg.Hd.few_len l 102
    obtain ⟨v2, H2, e2, o2⟩ := few_hl (H := H1) o1.row.row (by omega) (c := 102) (by decide)
    rw [Tg.Hd.few_few] at o2
    generalize Tg.Hd.few l 102 = f at *
    have r1 : HOwn H.n H2 v1 f := o1.row.keep o2.le (fun k _ _ hk => o2.old k hk)
    obtain ⟨v3, H3, e3, o3⟩ := cset_ex (H := H2) (name := nm) (value := vl) o2.row.row (by omega) (fun h hh => by have := hm h hh; omega) (by omega) (by omega)
    have r2 : HOwn H.n H3 v1 f := r1.keep o3.le (fun k _ _ hk => o3.old k hk)
    obtain ⟨v4, H4, e4, o4⟩ := hset_ex (H := H3) (name := nm) (value := vl) r2 (by omega) (fun h hh => by have := hm h hh; omega) (by omega) (by omega)
    have hsl : (Tg.Hd.setP nm vl f).1.length ≤ 1000 := by
      unfold Tg.Hd.setP
      split
      · split
        · have := Tg.Hd.goS_len nm (Tg.Hd.trim vl) f false
          simp only; omega
        · split
          · simp
          · simp; omega
      · simp
    have hsm := hsame_cl (H := H4) (o3.row.row.keep o4.le o4.old) o4.row.row (by omega)
    rw [decide_eq_true rfl] at hsm
    have hL := lives_r (H := H4)
    have e1 : LC Tryd.prog EJ 9 [v, .int .i64 102] H = some (v1, H1) := e1
    have e2 : LC Tryd.prog EJ 9 [v1, .int .i64 102] H1 = some (v2, H2) := e2
    generalize Tg.Hd.setP nm vl f = res at *
    simp [hc1, hc2, e1, e2, e3, e4, hsm, EP_ps]
    refine hand_call_ret (g := 15) (first := #[]) (caps := #[]) (H1 := H4) ?_ rfl rfl rfl (by simpa using hL) rfl ?_
    · rw [lwant_x]; simp
    · simp
  obtain ⟨r, H', h1, rfl⟩ := key
  exact ⟨H', h1⟩
end
end Go.Proofs.YteckofomnhminaaDoor
