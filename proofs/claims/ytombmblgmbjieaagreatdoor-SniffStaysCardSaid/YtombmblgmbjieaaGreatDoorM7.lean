/-
  Texts joined, part 7: UnMp3, UnRefF, UnMed, UnKind, UnWebm, UnTop, UnRefG, SnBug, SnLive, SnTop, SnFld, SnRule, UnSame, UnLawPl, UnLaws, SnEnv, SnGrp, SnGrpB, SnGrpC, SnType, SnPar, SnFew, SnLaw, DoorN, DoorS.
-/
import Derived.Test.YtombmblgmbjieaaGreatDoorM6
import Derived.Test.YtombmblgmbjieaaGreatDoorM1
import Derived.Test.YtombmblgmbjieaaGreatDoorM5
import Derived.Test.YtombmblgmbjieaaGreatDoorRows
import Derived.ProofKit
import Derived.WideShapes
import Derived.RowKit
import Derived.ChangeArms
import Derived.LaidMore
import Derived.LaidSub
import Derived.Lib.LaidTab
import Derived.Stop.Joined
import Derived.Shelf.Vars
import Derived.HandedShaped
import Derived.Lay
/-
  Layer 20 (unknown): sounds of frames, by the code.
-/
set_option linter.unusedSimpArgs false
set_option linter.unusedVariables false
set_option maxRecDepth 100000
namespace Tg.Un
open Go
theorem fdivn (n m : Nat) : ((n : Int).fdiv (m : Int)) = ((n / m : Nat) : Int) := by
  rw [Int.fdiv_eq_ediv_of_nonneg _ (Int.natCast_nonneg m)]; rfl
theorem and3 {n : Nat} (h : n < 256) : Go.Lg.bAnd .u8 (n : Int) 3 = ((n % 4 : Nat) : Int) := by
  have : ∀ k : Fin 256, Go.Lg.bAnd .u8 (k.1 : Int) 3 = ((k.1 % 4 : Nat) : Int) := by decide +kernel
  exact this ⟨n, h⟩
theorem and1 {n : Nat} (h : n < 256) : Go.Lg.bAnd .u8 (n : Int) 1 = ((n % 2 : Nat) : Int) := by
  have : ∀ k : Fin 256, Go.Lg.bAnd .u8 (k.1 : Int) 1 = ((k.1 % 2 : Nat) : Int) := by decide +kernel
  exact this ⟨n, h⟩
theorem and1i {n : Nat} (h : n < 4) : Go.Lg.bAnd .i64 (n : Int) 1 = ((n % 2 : Nat) : Int) := by
  have : ∀ k : Fin 4, Go.Lg.bAnd .i64 (k.1 : Int) 1 = ((k.1 % 2 : Nat) : Int) := by decide +kernel
  exact this ⟨n, h⟩
def ratesL (o : Bool) : List Nat := if o = true then rateO else rateE
theorem ratesL_len (o : Bool) : (ratesL o).length = 15 := by cases o <;> rfl
theorem ratesL_le (o : Bool) : ∀ x ∈ ratesL o, x ≤ 320 := by cases o <;> decide
structure FrmOk (f : Frm) : Prop where
  v : f.v < 4
  r : ∃ x ∈ ratesL (decide (f.v % 2 = 1)), f.r = 1000 * x
  f : f.f ∈ freqs
end Tg.Un
namespace Go.Proofs.YtombmblgmbjieaaGreatDoor
open Go.Lg Go.Tg
def icells (l : List Nat) : List Value := l.map fun (n : Nat) => Value.int .i64 (n : Int)
abbrev fvF (f : Tg.Un.Frm) : Value := .agg #[.int .i64 f.v, .int .i64 3, .int .i64 f.r, .int .i64 f.f, .bool f.p]
abbrev fv0 : Value := .agg #[.int .i64 0, .int .i64 0, .int .i64 0, .int .i64 0, .bool false]
def fvO : Option Tg.Un.Frm → Value
  | some f => fvF f
  | none => fv0
section
variable {H : LH} {s t : List UInt8} {v : Value} {l : List Nat}
theorem odd3_g {V : Nat} (h : V < 4) {b r f : Int} {p : Bool} : LC Tryz.prog EJ 190 [.agg #[.int .i64 V, .int .i64 b, .int .i64 r, .int .i64 f, .bool p]] H = some (.bool (decide (V % 2 = 1)), H) := by
  refine LC_pure rfl Tryz.func190 rfl (Nat.le_of_ble_eq_true rfl) (by decide) (by kernel_rfl) rfl ?_
  have h1 := Tg.Un.and1i h
  have h2 : V % 2 < 2 := Nat.mod_lt _ (by decide)
  generalize V % 2 = y at *
  by_cases hy : y = 1
  · subst hy; simp [h1]
  · have q := eq_false (show ¬ (y : Int) = 1 by omega)
    simp [h1, hy, q]
theorem odd3_cl {a : Tg.Un.Frm} (h : a.v < 4) : LC Tryz.prog EJ 190 [fvF a] H = some (.bool (decide (a.v % 2 = 1)), H) := odd3_g h
theorem rates_l {o : Bool} : LC Tryz.prog EJ 189 [.bool o] H = some (sl H.n 15 15, H.new ⟨icells (Tg.Un.ratesL o), 3, true⟩) := by
  obtain ⟨r, h, e⟩ : ∃ r, LC Tryz.prog EJ 189 [.bool o] H = some (Lg.trunc H r) ∧ r = (sl H.n 15 15, H.new ⟨icells (Tg.Un.ratesL o), 3, true⟩) := by
    refine LC_runs (P := Tryz.prog) (E := EJ) (f := 189) rfl Tryz.func189 rfl (Nat.le_of_ble_eq_true rfl) (by decide) (by kernel_rfl) ?_
    have b1 : ∀ {ps : List (Nat × Value)} {H : LH}, ps.length = 15 → denseB ps 0 = true → lbuildSlice Tryz.prog 135 15 ps H = some (sl H.n 15 15, H.new ⟨ps.map Prod.snd, 3, true⟩) := fun h1 h2 => lbs_dense (z := .int .i64 0) Tryz.underlying135 (by kernel_rfl) (by kernel_rfl) rfl rfl h1.symm (by decide) h2
    cases o
    · simp [b1, denseB]; rfl
    · simp [b1, denseB]; rfl
  rw [h, e, trunc_no (by simp [flatB, flat1B, atomB])]
theorem freqs_l : LC Tryz.prog EJ 191 [] H = some (sl H.n 3 3, H.new ⟨icells Tg.Un.freqs, 3, true⟩) := by
  obtain ⟨r, h, e⟩ : ∃ r, LC Tryz.prog EJ 191 [] H = some (Lg.trunc H r) ∧ r = (sl H.n 3 3, H.new ⟨icells Tg.Un.freqs, 3, true⟩) := by
    refine LC_runs (P := Tryz.prog) (E := EJ) (f := 191) rfl Tryz.func191 rfl (Nat.le_of_ble_eq_true rfl) (by decide) (by kernel_rfl) ?_
    have b1 : ∀ {ps : List (Nat × Value)} {H : LH}, ps.length = 3 → denseB ps 0 = true → lbuildSlice Tryz.prog 135 3 ps H = some (sl H.n 3 3, H.new ⟨ps.map Prod.snd, 3, true⟩) := fun h1 h2 => lbs_dense (z := .int .i64 0) Tryz.underlying135 (by kernel_rfl) (by kernel_rfl) rfl rfl h1.symm (by decide) h2
    simp [b1, denseB]; rfl
  rw [h, e, trunc_no (by simp [flatB, flat1B, atomB])]
theorem lld_i {k i : Nat} {e : TypeId} {r : Bool} (hk : H.get k = some ⟨icells l, e, r⟩) (hi : i < l.length) : lld Tryz.prog 3 (ptr k i) H = some (.int .i64 l[i]) := by
  rw [lld_ptr hk, show aggB Tryz.prog 3 = some false by kernel_rfl, lldb_cell]
  simp [icells, hi]
theorem cont_cl {k c : Nat} {e : TypeId} {r : Bool} {x : Nat} (hk : H.get k = some ⟨icells l, e, r⟩) (hl : l.length ≤ 1000) : LC Tryz.prog EJ 266 [.slice (some ⟨k, 0, none⟩) l.length c, .int .i64 x] H = some (.bool (decide (x ∈ l)), H) := by
  have hix : ∃ i : Int, LC Tryz.prog EJ 291 [.slice (some ⟨k, 0, none⟩) l.length c, .int .i64 x] H = some (.int .i64 i, H) ∧ (0 ≤ i ↔ x ∈ l) := by
    obtain ⟨i, hi⟩ : ∃ i : Int, i = Tg.Un.idx (fun y => decide (x = y)) l 0 := ⟨_, rfl⟩
    refine ⟨i, ?_, ?_⟩
    · refine LC_pure rfl Tryz.func291 rfl (Nat.le_of_ble_eq_true rfl) (by decide) (by kernel_rfl) rfl ?_
      simp
      refine loop_ind (fun (j : Nat) fr' H' => fr' 0 = .slice (some ⟨k, 0, none⟩) l.length c ∧ fr' 1 = .int .i64 x ∧ fr' 7 = .int .i64 l.length ∧ fr' 8 = .int .i64 j ∧ j ≤ l.length ∧ i = Tg.Un.idx (fun y => decide (x = y)) (l.drop j) j ∧ H' = H) (fun j => l.length - j) 0 ⟨by simp, by simp, by simp, by simp, Nat.zero_le _, hi, rfl⟩ ?_
      rintro j fr' H' ⟨h0, h1, h7, h8, hj, hc, rfl⟩ ih
      by_cases hlt : j < l.length
      · have q := eq_true (show (j : Int) < (l.length : Int) by omega)
        have hw : IntKind.i64.wrap ((j : Int) + 1) = ((j + 1 : Nat) : Int) := by rw [wrapI (by omega) (by omega)]; omega
        have g := lld_i (i := j) hk hlt
        rw [List.drop_eq_getElem_cons hlt] at hc
        generalize l[j] = a at *
        unfold Tg.Un.idx at hc
        by_cases hf : x = a
        · rw [if_pos (decide_eq_true hf)] at hc
          have q2 := eq_true (show (x : Int) = (a : Int) by omega)
          subst hc
          simp [h0, h1, h7, h8, q, g, q2]
        · rw [if_neg (by simp [hf])] at hc
          have q2 := eq_false (show ¬ (x : Int) = (a : Int) by omega)
          simp [h0, h1, h7, h8, q, g, q2]
          refine ih (j + 1) _ _ (by omega) ⟨?_, ?_, ?_, ?_, by omega, hc, rfl⟩
          all_goals simp [h0, h1, h7, hw]
      · have q := eq_false (show ¬ (j : Int) < (l.length : Int) by omega)
        rw [List.drop_of_length_le (by omega)] at hc
        have hc : i = -1 := hc
        subst hc
        simp [h0, h1, h7, h8, q]
    · have := Tg.Un.idx_any (fun y => decide (x = y)) l 0
      rw [← hi] at this
      constructor
      · intro h
        rw [decide_eq_true h] at this
        obtain ⟨y, hy, e⟩ := List.any_eq_true.1 this.symm
        rw [of_decide_eq_true e]; exact hy
      · intro h
        have h2 : l.any (fun y => decide (x = y)) = true := List.any_eq_true.2 ⟨x, h, by simp⟩
        rw [h2] at this
        exact of_decide_eq_true this
  obtain ⟨i, h1, h2⟩ := hix
  refine LC_pure rfl Tryz.func266 rfl (Nat.le_of_ble_eq_true rfl) (by decide) (by kernel_rfl) rfl ?_
  by_cases h : x ∈ l
  · have q := eq_true (h2.2 h)
    simp [h1, q, h]
  · have q := eq_false (fun e => h (h2.1 e))
    simp [h1, q, h]
theorem good3_cl {a : Tg.Un.Frm} (h : Tg.Un.FrmOk a) : LC Tryz.prog EJ 231 [fvF a] H = some (.bool true, H) := by
  refine LC_pure rfl Tryz.func231 rfl (Nat.le_of_ble_eq_true rfl) (by decide) (by kernel_rfl) rfl ?_
  obtain ⟨hv, ⟨x, hx, hr⟩, hf⟩ := h
  have h1 := fun H : LH => odd3_cl (H := H) hv
  have h2 := fun H : LH => rates_l (H := H) (o := decide (a.v % 2 = 1))
  have h3 := fun H : LH => freqs_l (H := H)
  generalize decide (a.v % 2 = 1) = o at *
  have hxl := Tg.Un.ratesL_le o x hx
  have hrl := Tg.Un.ratesL_len o
  have c1 := cont_cl (H := (H.new ⟨[.int .i64 a.v, .int .i64 3, .int .i64 a.r, .int .i64 a.f, .bool a.p], 84, true⟩).new ⟨icells (Tg.Un.ratesL o), 3, true⟩) (k := H.n + 1) (c := 15) (l := Tg.Un.ratesL o) (x := x) (e := 3) (r := true) (by rw [show H.n + 1 = (H.new ⟨[.int .i64 a.v, .int .i64 3, .int .i64 a.r, .int .i64 a.f, .bool a.p], 84, true⟩).n from rfl, get_new]) (by omega)
  rw [decide_eq_true hx, hrl] at c1
  have q1 : ((a.r : Nat) : Int).tmod 1000 = 0 := by rw [hr, Int.tmod_eq_emod_of_nonneg (by omega)]; omega
  have q2 : ((a.r : Nat) : Int).tdiv 1000 = (x : Int) := by rw [hr, Int.tdiv_eq_ediv_of_nonneg (by omega)]; omega
  have hwx : IntKind.i64.wrap (x : Int) = (x : Int) := wrapI (by omega) (by omega)
  have c2 := cont_cl (H := ((H.new ⟨[.int .i64 a.v, .int .i64 3, .int .i64 a.r, .int .i64 a.f, .bool a.p], 84, true⟩).new ⟨icells (Tg.Un.ratesL o), 3, true⟩).new ⟨icells Tg.Un.freqs, 3, true⟩) (k := H.n + 1 + 1) (c := 3) (l := Tg.Un.freqs) (x := a.f) (e := 3) (r := true) (by rw [show H.n + 1 + 1 = ((H.new ⟨[.int .i64 a.v, .int .i64 3, .int .i64 a.r, .int .i64 a.f, .bool a.p], 84, true⟩).new ⟨icells (Tg.Un.ratesL o), 3, true⟩).n from rfl, get_new]) (by decide)
  rw [decide_eq_true hf, show Tg.Un.freqs.length = 3 from rfl] at c2
  have q3 := eq_true (show (a.v : Int) ≤ 3 by omega)
  have q4 := eq_true (show (0 : Int) ≤ (a.v : Int) by omega)
  have hg : (((H.new ⟨[.int .i64 a.v, .int .i64 3, .int .i64 a.r, .int .i64 a.f, .bool a.p], 84, true⟩).new ⟨icells (Tg.Un.ratesL o), 3, true⟩).new ⟨icells Tg.Un.freqs, 3, true⟩).get H.n = some ⟨[.int .i64 a.v, .int .i64 3, .int .i64 a.r, .int .i64 a.f, .bool a.p], 84, true⟩ := by
    rw [get_new_ne (by simp only [n_new]; omega), get_new_ne (by simp only [n_new]; omega), get_new]
  simp [h1, h2, h3, c1, c2, q1, q2, q3, q4, hwx, hg]
  exact le_refl.new.new.new
theorem size3_cl {a : Tg.Un.Frm} (h : Tg.Un.FrmOk a) : LC Tryz.prog EJ 188 [fvF a] H = some (.int .i64 (Tg.Un.flen a), H) := by
  have h1 := fun H : LH => good3_cl (H := H) h
  have h2 : ∀ H : LH, LC Tryz.prog EJ 232 [fvF a, .int .i64 72] H = some (.int .i64 ((if a.v % 2 = 1 then 144 else 72 : Nat) : Int), H) := fun H => by
    have h2 := fun H : LH => odd3_cl (H := H) h.v
    refine LC_pure rfl Tryz.func232 rfl (Nat.le_of_ble_eq_true rfl) (by decide) (by kernel_rfl) rfl ?_
    by_cases ho : a.v % 2 = 1
    · rw [decide_eq_true ho] at h2
      rw [if_pos ho]
      simp [h2]
    · rw [decide_eq_false ho] at h2
      rw [if_neg ho]
      simp [h2]
  obtain ⟨hv, ⟨x, hx, hr⟩, hf⟩ := h
  have hxl := Tg.Un.ratesL_le _ x hx
  have hf0 : 32000 ≤ a.f ∧ a.f ≤ 48000 := by
    have : ∀ y ∈ Tg.Un.freqs, 32000 ≤ y ∧ y ≤ 48000 := by decide
    exact this _ hf
  refine LC_pure rfl Tryz.func188 rfl (Nat.le_of_ble_eq_true rfl) (by decide) (by kernel_rfl) rfl ?_
  unfold Tg.Un.flen
  obtain ⟨k, hk⟩ : ∃ k : Nat, k = if a.v % 2 = 1 then 144 else 72 := ⟨_, rfl⟩
  have hk2 : k ≤ 144 := by rw [hk]; split <;> omega
  rw [← hk] at h2 ⊢
  have hm : a.r * k ≤ 320000 * 144 := Nat.mul_le_mul (by omega) hk2
  have hw1 : IntKind.i64.wrap ((a.r : Int) * (k : Int)) = ((a.r * k : Nat) : Int) := by rw [wrapI (by rw [← Int.natCast_mul]; omega) (by rw [← Int.natCast_mul]; omega), Int.natCast_mul]
  obtain ⟨m, hm0⟩ : ∃ m, m = a.r * k := ⟨_, rfl⟩
  rw [← hm0] at hw1 hm ⊢
  obtain ⟨d, hd⟩ : ∃ d, d = m / a.f := ⟨_, rfl⟩
  have hdl : d ≤ m := by rw [hd]; exact Nat.div_le_self _ _
  have hq : (m : Int).tdiv (a.f : Int) = (d : Int) := by rw [hd, Int.tdiv_eq_ediv_of_nonneg (by omega)]; rfl
  have hw2 : IntKind.i64.wrap (d : Int) = (d : Int) := wrapI (by omega) (by omega)
  have hw3 : IntKind.i64.wrap ((d : Int) + 1) = (d : Int) + 1 := wrapI (by omega) (by omega)
  have hne := eq_false (show ¬ (a.f : Int) = 0 by omega)
  have hne2 := eq_false (show ¬ a.f = 0 by omega)
  rw [← hd]
  clear hk hd hm0 hv hr hx hf
  obtain ⟨av, ar, af, ap⟩ := a
  simp only at *
  cases ap with
  | false => simp [h1, h2, hw1, hq, hw2, hne, hne2]
  | true => simp [h1, h2, hw1, hq, hw2, hw3, hne, hne2]
@[simp] theorem flat1_fvO {o : Option Tg.Un.Frm} : flat1B (fvO o) = true := by cases o <;> rfl
theorem flat_hd {o : Option Tg.Un.Frm} {b : Bool} : flatB (.tuple #[fvO o, .bool b]) = true := by cases o <;> rfl
theorem lfill_f3 {a b : Int} {c : Bool} : lfill Tryz.prog 84 [.int .i64 0, .int .i64 0, .int .i64 0, .int .i64 0, .bool false] [(0, .int .i64 a), (1, .int .i64 b), (4, .bool c)] = some [.int .i64 a, .int .i64 b, .int .i64 0, .int .i64 0, .bool c] := by
  rw [lfill_cell (o := 0) (n := 1) (g := false) (by simp) rfl (by simp) (by simp), lfill_cell (o := 1) (n := 1) (g := false) (by simp) rfl (by simp) (by simp), lfill_cell (o := 4) (n := 1) (g := false) (by simp) rfl (by simp) (by simp)]
  simp
theorem head3_cl (hs : s.length ≤ 1048576) : LC Tryz.prog EJ 147 [str s] H = some (.tuple #[fvO (Tg.Un.head3 s), .bool (Tg.Un.head3 s).isSome], H) := by
  refine LC_pure rfl Tryz.func147 rfl (Nat.le_of_ble_eq_true rfl) (by decide) (by kernel_rfl) flat_hd ?_
  by_cases hlen : s.length < 4
  · have q := eq_true (show (s.length : Int) < 4 by omega)
    have e : Tg.Un.head3 s = none := by
      match s, hlen with
      | [], _ => rfl
      | [_], _ => rfl
      | [_, _], _ => rfl
      | [_, _, _], _ => rfl
    rw [e]
    simp [q, fvO]
  · obtain ⟨A, B, C, D, r, rfl⟩ : ∃ A B C D r, s = A :: B :: C :: D :: r := by
      match s, hlen with
      | A :: B :: C :: D :: r, _ => exact ⟨A, B, C, D, r, rfl⟩
      | [], h => exact absurd (by simp) h
      | [_], h => exact absurd (by simp) h
      | [_, _], h => exact absurd (by simp) h
      | [_, _, _], h => exact absurd (by simp) h
    have q := eq_false (show ¬ (r.length : Int) + 1 + 1 + 1 + 1 < 4 by omega)
    have a0 : at_ (A :: B :: C :: D :: r) 0 = A := rfl
    have a1 : at_ (A :: B :: C :: D :: r) 1 = B := rfl
    have a2 : at_ (A :: B :: C :: D :: r) 2 = C := rfl
    have h4 : Tg.Un.head3 (A :: B :: C :: D :: r) = if A.toNat = 255 ∧ 224 ≤ B.toNat ∧ B.toNat / 2 % 4 = 1 ∧ C.toNat / 16 < 15 ∧ C.toNat / 4 % 4 < 3 then
      some ⟨B.toNat / 8 % 4, 1000 * (if B.toNat / 8 % 2 = 1 then Tg.Un.rateO else Tg.Un.rateE).getD (C.toNat / 16) 0, Tg.Un.freqs.getD (C.toNat / 4 % 4) 0, C.toNat / 2 % 2 == 1⟩ else none := rfl
    have p0 := eq_true (show (0 : Int) < (r.length : Int) + 1 + 1 + 1 + 1 by omega)
    have p1 := eq_true (show (1 : Int) < (r.length : Int) + 1 + 1 + 1 + 1 by omega)
    have p2 := eq_true (show (2 : Int) < (r.length : Int) + 1 + 1 + 1 + 1 by omega)
    have hB := B.toNat_lt
    have hC := C.toNat_lt
    have hB := B.toNat_lt
    have hC := C.toNat_lt
    by_cases hA : A.toNat = 255
    · have qA := eq_true (show (A.toNat : Int) = 255 by omega)
      have f32 : (B.toNat : Int).fdiv (2 ^ min 5 IntKind.u8.bits) = ((B.toNat / 32 : Nat) : Int) := by rw [show (2 : Int) ^ min 5 IntKind.u8.bits = ((32 : Nat) : Int) from rfl]; exact Tg.Un.fdivn _ 32
      by_cases hB2 : 224 ≤ B.toNat
      · rw [show B.toNat / 32 = 7 by omega] at f32
        have f8 : (B.toNat : Int).fdiv (2 ^ min 3 IntKind.u8.bits) = ((B.toNat / 8 : Nat) : Int) := by rw [show (2 : Int) ^ min 3 IntKind.u8.bits = ((8 : Nat) : Int) from rfl]; exact Tg.Un.fdivn _ 8
        have f2 : (B.toNat : Int).fdiv (2 ^ min 1 IntKind.u8.bits) = ((B.toNat / 2 : Nat) : Int) := by rw [show (2 : Int) ^ min 1 IntKind.u8.bits = ((2 : Nat) : Int) from rfl]; exact Tg.Un.fdivn _ 2
        have g2 : (C.toNat : Int).fdiv (2 ^ min 1 IntKind.u8.bits) = ((C.toNat / 2 : Nat) : Int) := by rw [show (2 : Int) ^ min 1 IntKind.u8.bits = ((2 : Nat) : Int) from rfl]; exact Tg.Un.fdivn _ 2
        have g4 : (C.toNat : Int).fdiv (2 ^ min 2 IntKind.u8.bits) = ((C.toNat / 4 : Nat) : Int) := by rw [show (2 : Int) ^ min 2 IntKind.u8.bits = ((4 : Nat) : Int) from rfl]; exact Tg.Un.fdivn _ 4
        have g16 : (C.toNat : Int).fdiv (2 ^ min 4 IntKind.u8.bits) = ((C.toNat / 16 : Nat) : Int) := by rw [show (2 : Int) ^ min 4 IntKind.u8.bits = ((16 : Nat) : Int) from rfl]; exact Tg.Un.fdivn _ 16
        have n8 := Tg.Un.and3 (n := B.toNat / 8) (by omega)
        have n2 := Tg.Un.and3 (n := B.toNat / 2) (by omega)
        have m2 := Tg.Un.and1 (n := C.toNat / 2) (by omega)
        have m4 := Tg.Un.and3 (n := C.toNat / 4) (by omega)
        have e8 : B.toNat / 8 % 4 < 4 := Nat.mod_lt _ (by decide)
        have e2 : B.toNat / 2 % 4 < 4 := Nat.mod_lt _ (by decide)
        have k2 : C.toNat / 2 % 2 < 2 := Nat.mod_lt _ (by decide)
        have k4 : C.toNat / 4 % 4 < 4 := Nat.mod_lt _ (by decide)
        have k16 : C.toNat / 16 < 16 := by omega
        have ho : B.toNat / 8 % 2 = B.toNat / 8 % 4 % 2 := by omega
        have hh : Tg.Un.head3 (A :: B :: C :: D :: r) = if B.toNat / 2 % 4 = 1 ∧ C.toNat / 16 < 15 ∧ C.toNat / 4 % 4 < 3 then some ⟨B.toNat / 8 % 4, 1000 * (if B.toNat / 8 % 4 % 2 = 1 then Tg.Un.rateO else Tg.Un.rateE).getD (C.toNat / 16) 0, Tg.Un.freqs.getD (C.toNat / 4 % 4) 0, C.toNat / 2 % 2 == 1⟩ else none := by
          rw [h4, ho]
          simp only [hA, hB2, true_and]
        rw [hh]
        clear hh ho hB hC
        generalize B.toNat / 8 % 4 = V at *
        generalize B.toNat / 2 % 4 = Y at *
        generalize C.toNat / 2 % 2 = Pd at *
        generalize C.toNat / 4 % 4 = Fi at *
        generalize B.toNat / 8 = B8 at *
        generalize B.toNat / 2 = B2 at *
        generalize C.toNat / 2 = C2 at *
        generalize C.toNat / 4 = C4 at *
        generalize C.toNat / 16 = Ri at *
        have w1 : IntKind.i64.wrap (V : Int) = (V : Int) := wrapI (by omega) (by omega)
        have w2 : IntKind.i64.wrap (Y : Int) = (Y : Int) := wrapI (by omega) (by omega)
        have w3 : IntKind.i64.wrap (Ri : Int) = (Ri : Int) := wrapI (by omega) (by omega)
        have w4 : IntKind.i64.wrap (Fi : Int) = (Fi : Int) := wrapI (by omega) (by omega)
        have w5 : IntKind.i64.wrap (4 - (Y : Int)) = 4 - (Y : Int) := wrapI (by omega) (by omega)
        have hod : bAnd .i64 (V : Int) 1 = ((V % 2 : Nat) : Int) := Tg.Un.and1i e8
        have ha := fun (H : LH) (b r f : Int) (p : Bool) => odd3_g (H := H) e8 (b := b) (r := r) (f := f) (p := p)
        have hr := fun H : LH => rates_l (H := H) (o := decide (V % 2 = 1))
        have hf := fun H : LH => freqs_l (H := H)
        have z1 : (H.n = H.n + 1 + 1) = False := eq_false (by omega)
        have z2 : (H.n = H.n + 1 + 1 + 1) = False := eq_false (by omega)
        have z3 : (H.n + 1 = H.n + 1 + 1 + 1) = False := eq_false (by omega)
        have z4 : (H.n = H.n + 1 + 1 + 1 + 1) = False := eq_false (by omega)
        have z5 : (H.n + 1 = H.n + 1 + 1 + 1 + 1) = False := eq_false (by omega)
        have z6 : (H.n + 1 + 1 = H.n + 1 + 1 + 1 + 1) = False := eq_false (by omega)
        by_cases hY : Y = 1
        · subst hY
          have qY : (4 : Int) - ((1 : Nat) : Int) = 3 := by decide
          by_cases hR : Ri < 15
          · have qR := eq_false (show ¬ (15 : Int) ≤ (Ri : Int) by omega)
            have qR2 := eq_true (show (Ri : Int) < 15 by omega)
            by_cases hF : Fi < 3
            · have qF := eq_false (show ¬ (3 : Int) ≤ (Fi : Int) by omega)
              have qF2 := eq_true (show (Fi : Int) < 3 by omega)
              rw [if_pos ⟨rfl, hR, hF⟩]
              have r1 := fun (H : LH) (k : Nat) (h : H.get k = some ⟨icells (Tg.Un.ratesL (decide (V % 2 = 1))), 3, true⟩) => lld_i (i := Ri) h (by rw [Tg.Un.ratesL_len]; exact hR)
              have r2 := fun (H : LH) (k : Nat) (h : H.get k = some ⟨icells Tg.Un.freqs, 3, true⟩) => lld_i (i := Fi) h hF
              have hRl : Ri < (Tg.Un.ratesL (decide (V % 2 = 1))).length := by rw [Tg.Un.ratesL_len]; exact hR
              have eR : (if V % 2 = 1 then Tg.Un.rateO else Tg.Un.rateE).getD Ri 0 = (Tg.Un.ratesL (decide (V % 2 = 1)))[Ri] := by
                have : (if V % 2 = 1 then Tg.Un.rateO else Tg.Un.rateE) = Tg.Un.ratesL (decide (V % 2 = 1)) := by unfold Tg.Un.ratesL; by_cases h : V % 2 = 1 <;> simp [h]
                rw [this, List.getD_eq_getElem?_getD, List.getElem?_eq_getElem hRl]; rfl
              have eF : Tg.Un.freqs.getD Fi 0 = Tg.Un.freqs[Fi]'hF := by rw [List.getD_eq_getElem?_getD, List.getElem?_eq_getElem hF]; rfl
              have hx := Tg.Un.ratesL_le _ _ (List.getElem_mem hRl)
              rw [eR, eF]
              generalize (Tg.Un.ratesL (decide (V % 2 = 1)))[Ri] = x at *
              generalize Tg.Un.freqs[Fi] = y at *
              have hwr : IntKind.i64.wrap (1000 * (x : Int)) = 1000 * (x : Int) := wrapI (by omega) (by omega)
              have z7 : (H.n + 1 + 1 + 1 + 1 = H.n + 1) = False := eq_false (by omega)
              have z8 : (H.n = H.n + 1) = False := eq_false (by omega)
              have hpd : (decide ((Pd : Int) = 1)) = (Pd == 1) := by
                by_cases h : Pd = 1
                · subst h; rfl
                · have h2 : ¬ (Pd : Int) = 1 := by omega
                  simp [h, h2]
              have r3 : ∀ (Hx : LH) (b : LB), Hx.get (H.n + 1 + 1 + 1 + 1) = some ⟨icells Tg.Un.freqs, 3, true⟩ → lld Tryz.prog 3 (ptr (H.n + 1 + 1 + 1 + 1) Fi) (Hx.set (H.n + 1) b) = some (.int .i64 y) := fun Hx b h => r2 _ _ (by rw [get_set_ne (by omega)]; exact h)
              simp [q, a0, a1, a2, p0, p1, p2, qA, f32, f8, f2, g2, g4, g16, n8, n2, m2, m4, w1, w2, w3, w4, w5, ha, hr, hf, lfill_f3, qR, qR2, qF, qF2, z1, z2, z3, z4, z5, z6, z7, z8, hwr, r1, r2, r3, fvO]
              exact ⟨hpd, le_refl.new.new.new.new.new⟩
            · have qF := eq_true (show (3 : Int) ≤ (Fi : Int) by omega)
              have qF2 := eq_false (show ¬ (Fi : Int) < 3 by omega)
              rw [if_neg (by omega)]
              simp [q, a0, a1, a2, p0, p1, p2, qA, f32, f8, f2, g2, g4, g16, n8, n2, m2, m4, w1, w2, w3, w4, w5, ha, hr, hf, lfill_f3, qR, qR2, qF, qF2, z1, z2, z3, z4, z5, z6, fvO]
              exact le_refl.new.new.new.new
          · have qR := eq_true (show (15 : Int) ≤ (Ri : Int) by omega)
            have qR2 := eq_false (show ¬ (Ri : Int) < 15 by omega)
            rw [if_neg (by omega)]
            simp [q, a0, a1, a2, p0, p1, p2, qA, f32, f8, f2, g2, g4, g16, n8, n2, m2, m4, w1, w2, w3, w4, w5, ha, hr, hf, lfill_f3, qR, qR2, z1, z2, z3, z4, z5, z6, fvO]
            exact le_refl.new.new.new
        · have qY := eq_false (show ¬ (4 : Int) - (Y : Int) = 3 by omega)
          rw [if_neg (by omega)]
          simp [q, a0, a1, a2, p0, p1, p2, qA, f32, f8, f2, g2, g4, g16, n8, n2, m2, m4, w1, w2, w3, w4, w5, ha, hr, hf, lfill_f3, qY, z1, z2, z3, z4, z5, z6, fvO]
          exact le_refl.new.new.new
      · have e : Tg.Un.head3 (A :: B :: C :: D :: r) = none := by
          rw [h4, if_neg (by omega)]
        obtain ⟨u, hu⟩ : ∃ u, u = B.toNat / 32 := ⟨_, rfl⟩
        rw [← hu] at f32
        have qu := eq_false (show ¬ (u : Int) = 7 by omega)
        have qu2 := eq_false (show ¬ u = 7 by omega)
        rw [e]
        simp [q, a0, a1, p0, p1, qA, f32, qu, qu2, fvO]
    · have qA := eq_false (show ¬ (A.toNat : Int) = 255 by omega)
      have e : Tg.Un.head3 (A :: B :: C :: D :: r) = none := by
        rw [h4, if_neg (by omega)]
      rw [e]
      simp [q, a0, p0, qA, fvO]
theorem head3_ok {f : Tg.Un.Frm} (h : Tg.Un.head3 s = some f) : Tg.Un.FrmOk f := by
  match s, h with
  | A :: B :: C :: D :: r, h =>
    have h4 : Tg.Un.head3 (A :: B :: C :: D :: r) = if A.toNat = 255 ∧ 224 ≤ B.toNat ∧ B.toNat / 2 % 4 = 1 ∧ C.toNat / 16 < 15 ∧ C.toNat / 4 % 4 < 3 then
      some ⟨B.toNat / 8 % 4, 1000 * (if B.toNat / 8 % 2 = 1 then Tg.Un.rateO else Tg.Un.rateE).getD (C.toNat / 16) 0, Tg.Un.freqs.getD (C.toNat / 4 % 4) 0, C.toNat / 2 % 2 == 1⟩ else none := rfl
    rw [h4] at h
    split at h
    · rename_i hc
      obtain ⟨_, _, _, hR, hF⟩ := hc
      injection h with h
      subst h
      refine ⟨Nat.mod_lt _ (by decide), ?_, ?_⟩
      · have ho : B.toNat / 8 % 2 = B.toNat / 8 % 4 % 2 := by omega
        have : (if B.toNat / 8 % 2 = 1 then Tg.Un.rateO else Tg.Un.rateE) = Tg.Un.ratesL (decide (B.toNat / 8 % 4 % 2 = 1)) := by
          unfold Tg.Un.ratesL; rw [ho]; by_cases h : B.toNat / 8 % 4 % 2 = 1 <;> simp [h]
        simp only [this]
        have hl : C.toNat / 16 < (Tg.Un.ratesL (decide (B.toNat / 8 % 4 % 2 = 1))).length := by rw [Tg.Un.ratesL_len]; exact hR
        exact ⟨_, List.getElem_mem hl, by rw [List.getD_eq_getElem?_getD, List.getElem?_eq_getElem hl]; rfl⟩
      · show Tg.Un.freqs.getD (C.toNat / 4 % 4) 0 ∈ Tg.Un.freqs
        have hl : C.toNat / 4 % 4 < Tg.Un.freqs.length := hF
        rw [List.getD_eq_getElem?_getD, List.getElem?_eq_getElem hl]
        exact List.getElem_mem hl
    · cases h
  | [], h => cases h
  | [_], h => cases h
  | [_, _], h => cases h
  | [_, _, _], h => cases h
theorem next3_none (hs : s.length ≤ 1048576) (h : Tg.Un.head3 s = none) : LC Tryz.prog EJ 146 [str s] H = some (.tuple #[fv0, .int .i64 0, .bool false], H) := by
  refine LC_pure rfl Tryz.func146 rfl (Nat.le_of_ble_eq_true rfl) (by decide) (by kernel_rfl) rfl ?_
  have h1 := fun H : LH => head3_cl (H := H) (s := s) hs
  rw [h] at h1
  simp [h1, fvO]
theorem next3_some {f : Tg.Un.Frm} (hs : s.length ≤ 1048576) (h : Tg.Un.head3 s = some f) : LC Tryz.prog EJ 146 [str s] H = some (.tuple #[fvF f, .int .i64 (Tg.Un.flen f), .bool (decide (4 ≤ Tg.Un.flen f) && decide (Tg.Un.flen f ≤ s.length))], H) := by
  refine LC_pure rfl Tryz.func146 rfl (Nat.le_of_ble_eq_true rfl) (by decide) (by kernel_rfl) rfl ?_
  have h1 := fun H : LH => head3_cl (H := H) (s := s) hs
  have h2 := fun H : LH => size3_cl (H := H) (head3_ok h)
  rw [h] at h1
  generalize Tg.Un.flen f = n at *
  by_cases a1 : 4 ≤ n
  · have q1 := eq_true (show (4 : Int) ≤ (n : Int) by omega)
    by_cases a2 : n ≤ s.length
    · have q2 := eq_true (show (n : Int) ≤ (s.length : Int) by omega)
      simp [h1, h2, fvO, q1, q2, a1, a2]
    · have q2 := eq_false (show ¬ (n : Int) ≤ (s.length : Int) by omega)
      simp [h1, h2, fvO, q1, q2, a1, a2]
  · have q1 := eq_false (show ¬ (4 : Int) ≤ (n : Int) by omega)
    simp [h1, h2, fvO, q1, a1]
theorem mp3_cl (hs : s.length ≤ 1048576) : LC Tryz.prog EJ 103 [str s] H = some (.bool (Tg.Un.mp3 s), H) := by
  refine LC_pure rfl Tryz.func103 rfl (Nat.le_of_ble_eq_true rfl) (by decide) (by kernel_rfl) rfl ?_
  unfold Tg.Un.mp3
  cases h : Tg.Un.head3 s with
  | none =>
    have h1 := fun H : LH => next3_none (H := H) hs h
    simp [h1]
  | some f =>
    dsimp only
    have h1 := fun H : LH => next3_some (H := H) hs h
    by_cases a1 : 4 ≤ Tg.Un.flen f
    · by_cases a2 : Tg.Un.flen f ≤ s.length
      · have h2 := fun H : LH => head3_cl (H := H) (s := s.drop (Tg.Un.flen f)) (by rw [List.length_drop]; omega)
        have q2 := eq_true (show (Tg.Un.flen f : Int) ≤ (s.length : Int) by omega)
        rw [decide_eq_true a1, decide_eq_true a2] at h1
        generalize Tg.Un.flen f = n at *
        simp [h1, h2, a1, a2, q2]
      · rw [decide_eq_true a1, decide_eq_false a2] at h1
        generalize Tg.Un.flen f = n at *
        simp [h1, a1, a2]
    · rw [decide_eq_false a1] at h1
      generalize Tg.Un.flen f = n at *
      simp [h1, a1]
end
end Go.Proofs.YtombmblgmbjieaaGreatDoor
/-
  Layer 20 (unknown): what the reference's sounds of frames come to.
-/
set_option linter.unusedSimpArgs false
set_option linter.unusedVariables false
set_option maxRecDepth 100000
namespace Tg.Un
def rO : List Nat := [0, 32000, 40000, 48000, 56000, 64000, 80000, 96000, 112000, 128000, 160000, 192000, 224000, 256000, 320000]
def rE : List Nat := [0, 8000, 16000, 24000, 32000, 40000, 48000, 56000, 64000, 80000, 96000, 112000, 128000, 144000, 160000]
theorem rO_at : ∀ i, i < 15 → rO.getD i 0 = 1000 * rateO.getD i 0 := by decide
theorem rE_at : ∀ i, i < 15 → rE.getD i 0 = 1000 * rateE.getD i 0 := by decide
def rateN (V i : Nat) : Nat := 1000 * (if V % 2 = 1 then rateO else rateE).getD i 0
def freqN (k : Nat) : Nat := if k = 0 then 44100 else if k = 1 then 48000 else 32000
theorem freqN_at : ∀ k, k < 3 → freqN k = freqs.getD k 0 := by decide
end Tg.Un
namespace Go.Proofs.YtombmblgmbjieaaGreatDoor
open Go.Lg Go.Tg
section
variable {H : LH} {s t : List UInt8}
theorem rrate_cl {V i : Nat} (hV : V < 4) (hi : i < 15) : LC Tryz.prog EJ 151 [.int .i64 V, .int .i64 i] H = some (.int .i64 (Tg.Un.rateN V i), H) := by
  refine LC_pure rfl Tryz.func151 rfl (Nat.le_of_ble_eq_true rfl) (by decide) (by kernel_rfl) rfl ?_
  have hlo : i < Tg.Un.rO.length := hi
  have hle : i < Tg.Un.rE.length := hi
  have hO : ([.int .i64 0, .int .i64 32000, .int .i64 40000, .int .i64 48000, .int .i64 56000, .int .i64 64000, .int .i64 80000, .int .i64 96000, .int .i64 112000, .int .i64 128000, .int .i64 160000, .int .i64 192000, .int .i64 224000, .int .i64 256000, .int .i64 320000] : List Value)[i]? = some (.int .i64 ((1000 * Tg.Un.rateO.getD i 0 : Nat) : Int)) := by
    show (icells Tg.Un.rO)[i]? = _
    rw [← Tg.Un.rO_at i hi, List.getD_eq_getElem?_getD, List.getElem?_eq_getElem hlo]
    unfold icells
    rw [List.getElem?_map, List.getElem?_eq_getElem hlo]; rfl
  have hE : ([.int .i64 0, .int .i64 8000, .int .i64 16000, .int .i64 24000, .int .i64 32000, .int .i64 40000, .int .i64 48000, .int .i64 56000, .int .i64 64000, .int .i64 80000, .int .i64 96000, .int .i64 112000, .int .i64 128000, .int .i64 144000, .int .i64 160000] : List Value)[i]? = some (.int .i64 ((1000 * Tg.Un.rateE.getD i 0 : Nat) : Int)) := by
    show (icells Tg.Un.rE)[i]? = _
    rw [← Tg.Un.rE_at i hi, List.getD_eq_getElem?_getD, List.getElem?_eq_getElem hle]
    unfold icells
    rw [List.getElem?_map, List.getElem?_eq_getElem hle]; rfl
  have tm : (V : Int).tmod 2 = ((V % 2 : Nat) : Int) := tmodn V 2
  have hl : V % 2 < 2 := Nat.mod_lt _ (by decide)
  have q := eq_true (show (i : Int) < 15 by omega)
  unfold Tg.Un.rateN
  generalize V % 2 = y at *
  by_cases hy : y = 1
  · rw [if_pos hy]
    have p1 := eq_true (show (y : Int) = 1 by omega)
    generalize 1000 * Tg.Un.rateO.getD i 0 = z at *
    simp [tm, p1, q, hO]
  · rw [if_neg hy]
    have p1 := eq_false (show ¬ (y : Int) = 1 by omega)
    generalize 1000 * Tg.Un.rateE.getD i 0 = z at *
    simp [tm, p1, q, hE]
theorem rfreq_cl {k : Nat} : LC Tryz.prog EJ 152 [.int .i64 k] H = some (.int .i64 (Tg.Un.freqN k), H) := by
  refine LC_pure rfl Tryz.func152 rfl (Nat.le_of_ble_eq_true rfl) (by decide) (by kernel_rfl) rfl ?_
  unfold Tg.Un.freqN
  by_cases h0 : k = 0
  · subst h0; simp
  · have q0 := eq_false (show ¬ (k : Int) = 0 by omega)
    by_cases h1 : k = 1
    · subst h1; simp
    · have q1 := eq_false (show ¬ (k : Int) = 1 by omega)
      simp [h0, h1, q0, q1]
theorem lfill_f5 {a b c d : Int} {e : Bool} : lfill Tryz.prog 84 [.int .i64 0, .int .i64 0, .int .i64 0, .int .i64 0, .bool false] [(0, .int .i64 a), (1, .int .i64 b), (2, .int .i64 c), (3, .int .i64 d), (4, .bool e)] = some [.int .i64 a, .int .i64 b, .int .i64 c, .int .i64 d, .bool e] := by
  rw [lfill_cell (o := 0) (n := 1) (g := false) (by simp) rfl (by simp) (by simp), lfill_cell (o := 1) (n := 1) (g := false) (by simp) rfl (by simp) (by simp), lfill_cell (o := 2) (n := 1) (g := false) (by simp) rfl (by simp) (by simp), lfill_cell (o := 3) (n := 1) (g := false) (by simp) rfl (by simp) (by simp), lfill_cell (o := 4) (n := 1) (g := false) (by simp) rfl (by simp) (by simp)]
  simp
theorem rhead18_cl (hs : s.length ≤ 1048576) : LC Tryz.prog EJ 109 [str s] H = some (fvO (Tg.Un.head3 s), H) := by
  refine LC_pure rfl Tryz.func109 rfl (Nat.le_of_ble_eq_true rfl) (by decide) (by kernel_rfl) (by cases Tg.Un.head3 s <;> rfl) ?_
  by_cases hlen : s.length < 4
  · have q := eq_true (show (s.length : Int) < 4 by omega)
    have e : Tg.Un.head3 s = none := by
      match s, hlen with
      | [], _ => rfl
      | [_], _ => rfl
      | [_, _], _ => rfl
      | [_, _, _], _ => rfl
    rw [e]
    simp [q, fvO]
  · obtain ⟨A, B, C, D, r, rfl⟩ : ∃ A B C D r, s = A :: B :: C :: D :: r := by
      match s, hlen with
      | A :: B :: C :: D :: r, _ => exact ⟨A, B, C, D, r, rfl⟩
      | [], h => exact absurd (by simp) h
      | [_], h => exact absurd (by simp) h
      | [_, _], h => exact absurd (by simp) h
      | [_, _, _], h => exact absurd (by simp) h
    have q := eq_false (show ¬ (r.length : Int) + 1 + 1 + 1 + 1 < 4 by omega)
    have a0 : at_ (A :: B :: C :: D :: r) 0 = A := rfl
    have a1 : at_ (A :: B :: C :: D :: r) 1 = B := rfl
    have a2 : at_ (A :: B :: C :: D :: r) 2 = C := rfl
    have h4 : Tg.Un.head3 (A :: B :: C :: D :: r) = if A.toNat = 255 ∧ 224 ≤ B.toNat ∧ B.toNat / 2 % 4 = 1 ∧ C.toNat / 16 < 15 ∧ C.toNat / 4 % 4 < 3 then
      some ⟨B.toNat / 8 % 4, 1000 * (if B.toNat / 8 % 2 = 1 then Tg.Un.rateO else Tg.Un.rateE).getD (C.toNat / 16) 0, Tg.Un.freqs.getD (C.toNat / 4 % 4) 0, C.toNat / 2 % 2 == 1⟩ else none := rfl
    have p0 := eq_true (show (0 : Int) < (r.length : Int) + 1 + 1 + 1 + 1 by omega)
    have p1 := eq_true (show (1 : Int) < (r.length : Int) + 1 + 1 + 1 + 1 by omega)
    have p2 := eq_true (show (2 : Int) < (r.length : Int) + 1 + 1 + 1 + 1 by omega)
    have hB := B.toNat_lt
    have hC := C.toNat_lt
    by_cases hA : A.toNat = 255
    · have qA := eq_true (show (A.toNat : Int) = 255 by omega)
      by_cases hB2 : 224 ≤ B.toNat
      · have qB := eq_false (show ¬ (B.toNat : Int) < 224 by omega)
        have ho : B.toNat / 8 % 2 = B.toNat / 8 % 4 % 2 := by omega
        have hh : Tg.Un.head3 (A :: B :: C :: D :: r) = if B.toNat / 2 % 4 = 1 ∧ C.toNat / 16 < 15 ∧ C.toNat / 4 % 4 < 3 then some ⟨B.toNat / 8 % 4, Tg.Un.rateN (B.toNat / 8 % 4) (C.toNat / 16), Tg.Un.freqs.getD (C.toNat / 4 % 4) 0, C.toNat / 2 % 2 == 1⟩ else none := by
          rw [h4, ho]
          simp only [hA, hB2, true_and]
          rfl
        rw [hh]
        clear hh h4 ho
        have wb : IntKind.i64.wrap (B.toNat : Int) = (B.toNat : Int) := wrapI (by omega) (by omega)
        have wc : IntKind.i64.wrap (C.toNat : Int) = (C.toNat : Int) := wrapI (by omega) (by omega)
        have f8 : (B.toNat : Int).tdiv 8 = ((B.toNat / 8 : Nat) : Int) := tdivn _ 8
        have f2 : (B.toNat : Int).tdiv 2 = ((B.toNat / 2 : Nat) : Int) := tdivn _ 2
        have g2 : (C.toNat : Int).tdiv 2 = ((C.toNat / 2 : Nat) : Int) := tdivn _ 2
        have g4 : (C.toNat : Int).tdiv 4 = ((C.toNat / 4 : Nat) : Int) := tdivn _ 4
        have g16 : (C.toNat : Int).tdiv 16 = ((C.toNat / 16 : Nat) : Int) := tdivn _ 16
        have n8 : ((B.toNat / 8 : Nat) : Int).tmod 4 = ((B.toNat / 8 % 4 : Nat) : Int) := tmodn _ 4
        have n2 : ((B.toNat / 2 : Nat) : Int).tmod 4 = ((B.toNat / 2 % 4 : Nat) : Int) := tmodn _ 4
        have m2 : ((C.toNat / 2 : Nat) : Int).tmod 2 = ((C.toNat / 2 % 2 : Nat) : Int) := tmodn _ 2
        have m4 : ((C.toNat / 4 : Nat) : Int).tmod 4 = ((C.toNat / 4 % 4 : Nat) : Int) := tmodn _ 4
        have e8 : B.toNat / 8 % 4 < 4 := Nat.mod_lt _ (by decide)
        have e2 : B.toNat / 2 % 4 < 4 := Nat.mod_lt _ (by decide)
        have k2 : C.toNat / 2 % 2 < 2 := Nat.mod_lt _ (by decide)
        have k4 : C.toNat / 4 % 4 < 4 := Nat.mod_lt _ (by decide)
        have k16 : C.toNat / 16 < 16 := by omega
        have l8 : B.toNat / 8 < 256 := by omega
        have l2 : B.toNat / 2 < 256 := by omega
        have j2 : C.toNat / 2 < 256 := by omega
        have j4 : C.toNat / 4 < 256 := by omega
        clear hB hC
        generalize B.toNat / 8 % 4 = V at *
        generalize B.toNat / 2 % 4 = Y at *
        generalize C.toNat / 2 % 2 = Pd at *
        generalize C.toNat / 4 % 4 = Fi at *
        generalize B.toNat / 8 = B8 at *
        generalize B.toNat / 2 = B2 at *
        generalize C.toNat / 2 = C2 at *
        generalize C.toNat / 4 = C4 at *
        generalize C.toNat / 16 = Ri at *
        have u1 : IntKind.i64.wrap (B8 : Int) = (B8 : Int) := wrapI (by omega) (by omega)
        have u2 : IntKind.i64.wrap (B2 : Int) = (B2 : Int) := wrapI (by omega) (by omega)
        have u3 : IntKind.i64.wrap (C2 : Int) = (C2 : Int) := wrapI (by omega) (by omega)
        have u4 : IntKind.i64.wrap (C4 : Int) = (C4 : Int) := wrapI (by omega) (by omega)
        have u5 : IntKind.i64.wrap (Ri : Int) = (Ri : Int) := wrapI (by omega) (by omega)
        have w5 : IntKind.i64.wrap (4 - (Y : Int)) = 4 - (Y : Int) := wrapI (by omega) (by omega)
        by_cases hY : Y = 1
        · subst hY
          have qY : (4 : Int) - ((1 : Nat) : Int) = 3 := by decide
          by_cases hR : Ri < 15
          · have qR := eq_false (show ¬ (Ri : Int) = 15 by omega)
            have qR2 := eq_false (show ¬ Ri = 15 by omega)
            by_cases hF : Fi < 3
            · have qF := eq_false (show ¬ (Fi : Int) = 3 by omega)
              have qF2 := eq_false (show ¬ Fi = 3 by omega)
              rw [if_pos ⟨rfl, hR, hF⟩]
              have hr := fun H : LH => rrate_cl (H := H) (V := V) (i := Ri) e8 hR
              have hf := fun H : LH => rfreq_cl (H := H) (k := Fi)
              rw [Tg.Un.freqN_at Fi hF] at hf
              have hpd : (decide ((Pd : Int) = 1)) = (Pd == 1) := by
                by_cases h : Pd = 1
                · subst h; rfl
                · have h2 : ¬ (Pd : Int) = 1 := by omega
                  simp [h, h2]
              generalize Tg.Un.freqs.getD Fi 0 = y at *
              generalize Tg.Un.rateN V Ri = x at *
              simp [q, a0, a1, a2, p0, p1, p2, qA, qB, wb, wc, f8, f2, g2, g4, g16, n8, n2, m2, m4, u1, u2, u3, u4, u5, w5, hr, hf, lfill_f5, qR, qR2, qF, qF2, fvO]
              exact hpd
            · have hF3 : Fi = 3 := by omega
              subst hF3
              rw [if_neg (by omega)]
              simp [q, a0, a1, a2, p0, p1, p2, qA, qB, wb, wc, f8, f2, g2, g4, g16, n8, n2, m2, m4, u1, u2, u3, u4, u5, w5, qR, qR2, fvO]
          · have hR3 : Ri = 15 := by omega
            subst hR3
            rw [if_neg (by omega)]
            simp [q, a0, a1, a2, p0, p1, p2, qA, qB, wb, wc, f8, f2, g2, g4, g16, n8, n2, m2, m4, u1, u2, u3, u4, u5, w5, fvO]
        · have qY := eq_false (show ¬ (4 : Int) - (Y : Int) = 3 by omega)
          rw [if_neg (by omega)]
          simp [q, a0, a1, a2, p0, p1, p2, qA, qB, wb, wc, f8, f2, g2, g4, g16, n8, n2, m2, m4, u1, u2, u3, u4, u5, w5, qY, fvO]
      · have e : Tg.Un.head3 (A :: B :: C :: D :: r) = none := by
          rw [h4, if_neg (by omega)]
        have qB := eq_true (show (B.toNat : Int) < 224 by omega)
        rw [e]
        simp [q, a0, a1, p0, p1, qA, qB, fvO]
    · have qA := eq_false (show ¬ (A.toNat : Int) = 255 by omega)
      have e : Tg.Un.head3 (A :: B :: C :: D :: r) = none := by
        rw [h4, if_neg (by omega)]
      rw [e]
      simp [q, a0, p0, qA, fvO]
theorem rgood18_cl {a : Tg.Un.Frm} (h : Tg.Un.FrmOk a) : LC Tryz.prog EJ 192 [fvF a] H = some (.bool true, H) := by
  refine LC_pure rfl Tryz.func192 rfl (Nat.le_of_ble_eq_true rfl) (by decide) (by kernel_rfl) rfl ?_
  obtain ⟨hv, ⟨x, hx, hr⟩, hf⟩ := h
  obtain ⟨i0, hi0, hi1⟩ : ∃ i0, i0 < 15 ∧ a.r = Tg.Un.rateN a.v i0 := by
    obtain ⟨i0, hl, e⟩ := List.getElem_of_mem hx
    have hl2 : i0 < 15 := by rw [Tg.Un.ratesL_len] at hl; exact hl
    refine ⟨i0, hl2, ?_⟩
    have : (if a.v % 2 = 1 then Tg.Un.rateO else Tg.Un.rateE) = Tg.Un.ratesL (decide (a.v % 2 = 1)) := by unfold Tg.Un.ratesL; by_cases h : a.v % 2 = 1 <;> simp [h]
    unfold Tg.Un.rateN
    rw [hr, this, List.getD_eq_getElem?_getD, List.getElem?_eq_getElem hl, ← e]; rfl
  obtain ⟨k0, hk0, hk1⟩ : ∃ k0, k0 < 3 ∧ a.f = Tg.Un.freqN k0 := by
    obtain ⟨k0, hl, e⟩ := List.getElem_of_mem hf
    have hl2 : k0 < 3 := hl
    refine ⟨k0, hl2, ?_⟩
    rw [Tg.Un.freqN_at k0 hl2, List.getD_eq_getElem?_getD, List.getElem?_eq_getElem hl, ← e]; rfl
  clear hr hx hf
  have q1 := eq_true (show (0 : Int) ≤ (a.v : Int) by omega)
  have q1' := eq_false (show ¬ (a.v : Int) < 0 by omega)
  have q2 := eq_true (show (a.v : Int) ≤ 3 by omega)
  have q2' := eq_false (show ¬ (3 : Int) < (a.v : Int) by omega)
  have hR := fun (H : LH) (i : Nat) (h : i < 15) => rrate_cl (H := H) (V := a.v) (i := i) hv h
  have hF := fun (H : LH) (k : Nat) => rfreq_cl (H := H) (k := k)
  simp [q1, q1', q2, q2']
  refine loop_ind (fun (i : Nat) fr' H' => fr' 1 = ptr H.n 0 ∧ fr' 3 = .int .i64 i ∧ i ≤ i0 ∧ H' = H.new ⟨[.int .i64 a.v, .int .i64 3, .int .i64 a.r, .int .i64 a.f, .bool a.p], 84, true⟩) (fun i => i0 - i) 0 ⟨by simp, by simp, Nat.zero_le _, by simp⟩ ?_
  rintro i fr' H' ⟨g1, g3, hi, rfl⟩ ih
  have q3 := eq_true (show (i : Int) < 15 by omega)
  have hRi := fun H : LH => hR H i (by omega)
  have wi : IntKind.i64.wrap ((i : Int) + 1) = ((i + 1 : Nat) : Int) := by rw [wrapI (by omega) (by omega)]; omega
  simp [g1, g3, q3]
  refine loop_ind (fun (k : Nat) fr' H' => fr' 1 = ptr H.n 0 ∧ fr' 3 = .int .i64 i ∧ fr' 4 = .int .i64 k ∧ k ≤ 3 ∧ (i = i0 → k ≤ k0) ∧ H' = H.new ⟨[.int .i64 a.v, .int .i64 3, .int .i64 a.r, .int .i64 a.f, .bool a.p], 84, true⟩) (fun k => 3 - k) 0 ⟨by simp [g1], by simp [g3], by simp, by decide, fun _ => Nat.zero_le _, by simp⟩ ?_
  clear g1 g3
  rintro k fr' H' ⟨g1, g3, g4, hk, hki, rfl⟩ ih2
  by_cases hk3 : k < 3
  · have q4 := eq_true (show (k : Int) < 3 by omega)
    have wk : IntKind.i64.wrap ((k : Int) + 1) = ((k + 1 : Nat) : Int) := by rw [wrapI (by omega) (by omega)]; omega
    have hFk := fun H : LH => hF H k
    have hne : ¬ (a.r = Tg.Un.rateN a.v i ∧ a.f = Tg.Un.freqN k) → i = i0 → k + 1 ≤ k0 := fun hn hii => by
      have := hki hii
      rcases Nat.lt_or_ge k k0 with h | h
      · omega
      · obtain rfl : k = k0 := by omega
        subst hii
        exact absurd ⟨hi1, hk1⟩ hn
    generalize Tg.Un.rateN a.v i = X at *
    generalize Tg.Un.freqN k = Y at *
    by_cases c1 : a.r = X
    · have p1 := eq_true (show (a.r : Int) = (X : Int) by omega)
      by_cases c2 : a.f = Y
      · have p2 := eq_true (show (a.f : Int) = (Y : Int) by omega)
        simp [g1, g3, g4, q4, hRi, hFk, p1, p2, c1, c2]
      · have p2 := eq_false (show ¬ (a.f : Int) = (Y : Int) by omega)
        have c1' := eq_true c1
        simp [g1, g3, g4, q4, hRi, hFk, p1, p2, c1', c2]
        refine ih2 (k + 1) _ _ (by omega) ⟨?_, ?_, ?_, by omega, hne (fun h => c2 h.2), rfl⟩
        all_goals simp [g1, g3, wk]
    · have p1 := eq_false (show ¬ (a.r : Int) = (X : Int) by omega)
      simp [g1, g3, g4, q4, hRi, hFk, p1, c1]
      refine ih2 (k + 1) _ _ (by omega) ⟨?_, ?_, ?_, by omega, hne (fun h => c1 h.1), rfl⟩
      all_goals simp [g1, g3, wk]
  · have q4 := eq_false (show ¬ (k : Int) < 3 by omega)
    have hii : i ≠ i0 := fun e => by have := hki e; omega
    simp [g1, g3, g4, q4]
    refine ih (i + 1) _ _ (by omega) ⟨?_, ?_, by omega, rfl⟩
    all_goals simp [g1, wi]
theorem rgood18_no : LC Tryz.prog EJ 192 [fv0] H = some (.bool false, H) := by
  refine LC_pure rfl Tryz.func192 rfl (Nat.le_of_ble_eq_true rfl) (by decide) (by kernel_rfl) rfl ?_
  simp
theorem rsize18_no : LC Tryz.prog EJ 150 [fv0] H = some (.int .i64 0, H) := by
  refine LC_pure rfl Tryz.func150 rfl (Nat.le_of_ble_eq_true rfl) (by decide) (by kernel_rfl) rfl ?_
  have h1 := fun H : LH => rgood18_no (H := H)
  simp [h1]
theorem rsize18_cl {a : Tg.Un.Frm} (h : Tg.Un.FrmOk a) : LC Tryz.prog EJ 150 [fvF a] H = some (.int .i64 (Tg.Un.flen a), H) := by
  have h1 := fun H : LH => rgood18_cl (H := H) h
  obtain ⟨hv, ⟨x, hx, hr⟩, hf⟩ := h
  have hxl := Tg.Un.ratesL_le _ x hx
  have hf0 : 32000 ≤ a.f ∧ a.f ≤ 48000 := by
    have : ∀ y ∈ Tg.Un.freqs, 32000 ≤ y ∧ y ≤ 48000 := by decide
    exact this _ hf
  refine LC_pure rfl Tryz.func150 rfl (Nat.le_of_ble_eq_true rfl) (by decide) (by kernel_rfl) rfl ?_
  unfold Tg.Un.flen
  have tm : (a.v : Int).tmod 2 = ((a.v % 2 : Nat) : Int) := tmodn a.v 2
  obtain ⟨k, hk⟩ : ∃ k : Nat, k = if a.v % 2 = 1 then 144 else 72 := ⟨_, rfl⟩
  have hk2 : k ≤ 144 := by rw [hk]; split <;> omega
  rw [← hk]
  have hm : a.r * k ≤ 320000 * 144 := Nat.mul_le_mul (by omega) hk2
  have hw1 : IntKind.i64.wrap ((a.r : Int) * (k : Int)) = ((a.r * k : Nat) : Int) := by rw [wrapI (by rw [← Int.natCast_mul]; omega) (by rw [← Int.natCast_mul]; omega), Int.natCast_mul]
  obtain ⟨m, hm0⟩ : ∃ m, m = a.r * k := ⟨_, rfl⟩
  rw [← hm0] at hw1 hm ⊢
  obtain ⟨d, hd⟩ : ∃ d, d = m / a.f := ⟨_, rfl⟩
  have hdl : d ≤ m := by rw [hd]; exact Nat.div_le_self _ _
  have hq : (m : Int).tdiv (a.f : Int) = (d : Int) := by rw [hd, Int.tdiv_eq_ediv_of_nonneg (by omega)]; rfl
  have hw2 : IntKind.i64.wrap (d : Int) = (d : Int) := wrapI (by omega) (by omega)
  have hw3 : IntKind.i64.wrap ((d : Int) + 1) = (d : Int) + 1 := wrapI (by omega) (by omega)
  have hne := eq_false (show ¬ (a.f : Int) = 0 by omega)
  have hne2 := eq_false (show ¬ a.f = 0 by omega)
  rw [← hd]
  have hy2 : a.v % 2 < 2 := Nat.mod_lt _ (by decide)
  clear hd hm0 hv hr hx hf
  obtain ⟨av, ar, af, ap⟩ := a
  simp only at *
  generalize av % 2 = y at *
  by_cases hy : y = 1
  · rw [if_pos hy] at hk
    subst hk
    have p1 := eq_true (show (y : Int) = 1 by omega)
    have hw1 : IntKind.i64.wrap ((ar : Int) * 144) = (m : Int) := hw1
    cases ap with
    | false => simp [h1, tm, p1, hw1, hq, hw2, hne, hne2]
    | true => simp [h1, tm, p1, hw1, hq, hw2, hw3, hne, hne2]
  · rw [if_neg hy] at hk
    subst hk
    have p1 := eq_false (show ¬ (y : Int) = 1 by omega)
    have hw1 : IntKind.i64.wrap ((ar : Int) * 72) = (m : Int) := hw1
    cases ap with
    | false => simp [h1, tm, p1, hw1, hq, hw2, hne, hne2]
    | true => simp [h1, tm, p1, hw1, hq, hw2, hw3, hne, hne2]
def nxt3 (s : List UInt8) : Nat := match Tg.Un.head3 s with
  | some f => if 4 ≤ Tg.Un.flen f ∧ Tg.Un.flen f ≤ s.length then Tg.Un.flen f else 0
  | none => 0
theorem rnext18_cl (hs : s.length ≤ 1048576) : LC Tryz.prog EJ 108 [str s] H = some (.int .i64 (nxt3 s), H) := by
  refine LC_pure rfl Tryz.func108 rfl (Nat.le_of_ble_eq_true rfl) (by decide) (by kernel_rfl) rfl ?_
  have h1 := fun H : LH => rhead18_cl (H := H) (s := s) hs
  unfold nxt3
  cases h : Tg.Un.head3 s with
  | none =>
    dsimp only
    rw [h] at h1
    have h2 := fun H : LH => rsize18_no (H := H)
    simp [h1, fvO, h2]
  | some f =>
    dsimp only
    rw [h] at h1
    have h2 := fun H : LH => rsize18_cl (H := H) (head3_ok h)
    generalize Tg.Un.flen f = n at *
    by_cases a1 : 4 ≤ n
    · have p1 := eq_false (show ¬ (n : Int) < 4 by omega)
      by_cases a2 : n ≤ s.length
      · have p2 := eq_false (show ¬ (s.length : Int) < (n : Int) by omega)
        have p3 := eq_false (show ¬ s.length < n by omega)
        rw [if_pos ⟨a1, a2⟩]
        simp [h1, fvO, h2, p1, p2, p3]
      · have p2 := eq_true (show (s.length : Int) < (n : Int) by omega)
        have p3 := eq_true (show s.length < n by omega)
        rw [if_neg (fun h => a2 h.2)]
        simp [h1, fvO, h2, p1, p2, p3]
    · have p1 := eq_true (show (n : Int) < 4 by omega)
      rw [if_neg (fun h => a1 h.1)]
      simp [h1, fvO, h2, p1]
theorem ris18_cl (hs : s.length ≤ 1048576) : LC Tryz.prog EJ 68 [str s] H = some (.bool (Tg.Un.mp3 s), H) := by
  refine LC_pure rfl Tryz.func68 rfl (Nat.le_of_ble_eq_true rfl) (by decide) (by kernel_rfl) rfl ?_
  have h1 := fun H : LH => rnext18_cl (H := H) (s := s) hs
  have hm : Tg.Un.mp3 s = (decide (0 < nxt3 s) && (Tg.Un.head3 (s.drop (nxt3 s))).isSome) ∧ nxt3 s ≤ s.length := by
    cases h : Tg.Un.head3 s with
    | none =>
      have e : nxt3 s = 0 := by unfold nxt3; rw [h]
      rw [e]
      unfold Tg.Un.mp3
      rw [h]
      exact ⟨rfl, Nat.zero_le _⟩
    | some f =>
      have e0 : Tg.Un.mp3 s = (decide (4 ≤ Tg.Un.flen f) && (decide (Tg.Un.flen f ≤ s.length) && (Tg.Un.head3 (s.drop (Tg.Un.flen f))).isSome)) := by unfold Tg.Un.mp3; rw [h]
      rw [e0]
      by_cases a : 4 ≤ Tg.Un.flen f ∧ Tg.Un.flen f ≤ s.length
      · have e : nxt3 s = Tg.Un.flen f := by unfold nxt3; rw [h]; exact if_pos a
        rw [e, decide_eq_true a.1, decide_eq_true a.2, decide_eq_true (by omega : 0 < Tg.Un.flen f)]
        exact ⟨by simp, a.2⟩
      · have e : nxt3 s = 0 := by unfold nxt3; rw [h]; exact if_neg a
        rw [e]
        refine ⟨?_, Nat.zero_le _⟩
        by_cases a1 : 4 ≤ Tg.Un.flen f
        · rw [decide_eq_false (fun h => a ⟨a1, h⟩)]; simp
        · rw [decide_eq_false a1]; simp
  obtain ⟨hm, hnl⟩ := hm
  rw [hm]
  clear hm
  have h2 := fun H : LH => rhead18_cl (H := H) (s := s.drop (nxt3 s)) (by rw [List.length_drop]; omega)
  have hok := fun f => head3_ok (s := s.drop (nxt3 s)) (f := f)
  generalize nxt3 s = n at *
  by_cases hn : 0 < n
  · have p1 := eq_true (show (0 : Int) < (n : Int) by omega)
    have p2 := eq_true (show (n : Int) ≤ (s.length : Int) by omega)
    cases h : Tg.Un.head3 (s.drop n) with
    | none =>
      rw [h] at h2
      simp [h1, h2, p1, p2, hn, fvO]
    | some f =>
      rw [h] at h2
      have hf0 : 32000 ≤ f.f := by
        have : ∀ y ∈ Tg.Un.freqs, 32000 ≤ y := by decide
        exact this _ (hok f h).f
      have p3 := eq_true (show (0 : Int) < (f.f : Int) by omega)
      have p4 := eq_true (show 0 < f.f by omega)
      simp [h1, h2, p1, p2, p3, p4, hn, fvO]
  · have p1 := eq_false (show ¬ (0 : Int) < (n : Int) by omega)
    have p2 := eq_false hn
    simp [h1, p1, p2, hn]
end
end Go.Proofs.YtombmblgmbjieaaGreatDoor
/-
  Layer 20 (unknown): patterns of sounds and films, by the code.
-/
set_option linter.unusedSimpArgs false
set_option linter.unusedVariables false
set_option maxRecDepth 100000
namespace Tg.Un
def mk1 (gap : Bool) (i : Nat) : UInt8 := if gap = true ∧ 4 ≤ i ∧ i < 8 then 0 else 255
def maskL (gap : Bool) (n : Nat) : List UInt8 := (List.range n).map (mk1 gap)
theorem maskL_at {gap : Bool} {n i : Nat} (h : i < (maskL gap n).length) : (maskL gap n)[i] = mk1 gap i := by simp [maskL]
theorem maskL_len {gap : Bool} {n : Nat} : (maskL gap n).length = n := by simp [maskL]
theorem part_id {M R : List UInt8} {i : Nat} (hr : R.length = M.length) (hi : i < M.length) : (M.take i ++ R.drop i).set i M[i] = M.take (i + 1) ++ R.drop (i + 1) := by
  have h1 : (M.take i).length = i := by simp; omega
  rw [List.set_append_right _ _ (by omega), h1, Nat.sub_self, List.drop_eq_getElem_cons (by omega : i < R.length), List.set_cons_zero, List.take_add_one, List.getElem?_eq_getElem hi, List.append_assoc]
  rfl
theorem part_same {M R : List UInt8} {i : Nat} (hr : R.length = M.length) (hi : i < M.length) (he : M[i] = R[i]) : M.take i ++ R.drop i = M.take (i + 1) ++ R.drop (i + 1) := by
  have hi2 : i < R.length := by omega
  rw [List.drop_eq_getElem_cons hi2, List.take_add_one, List.getElem?_eq_getElem hi, he, List.append_assoc]
  rfl
end Tg.Un
namespace Go.Proofs.YtombmblgmbjieaaGreatDoor
open Go.Lg Go.Tg
section
variable {H : LH} {s t : List UInt8}
theorem masked_cl {n : Nat} {gap : Bool} (hn : n ≤ 1000) : LC Tryz.prog EJ 262 [.int .i64 n, .bool gap] H = some (str (Tg.Un.maskL gap n), H) := by
  refine LC_pure rfl Tryz.func262 rfl (Nat.le_of_ble_eq_true rfl) (by decide) (by kernel_rfl) rfl ?_
  have q0 := eq_true (show (0 : Int) ≤ (n : Int) by omega)
  have q1 := eq_true (show n ≤ 1048576 by omega)
  have q2 := eq_true (show (n : Int) ≤ 1048576 by omega)
  simp [q0, q1, q2]
  refine loop_ind (fun (i : Nat) fr' H' => fr' 1 = .bool gap ∧ fr' 5 = sl H.n n n ∧ fr' 10 = .int .i64 n ∧ fr' 11 = .int .i64 i ∧ i ≤ n ∧ H'.n = H.n + 1 ∧ H'.get H.n = some ⟨u8c ((Tg.Un.maskL gap n).take i ++ (List.replicate n 0).drop i), 5, true⟩ ∧ ∀ l, l < H.n → H'.get l = H.get l) (fun i => n - i) 0 ⟨by simp, by simp, by simp, by simp, Nat.zero_le _, by simp, ?_, fun l hl => ?_⟩ ?_
  · rw [get_new]; simp [u8c]
  · rw [get_new_ne (by omega)]
  rintro i fr' H' ⟨g1, g5, g10, g11, hi, hn', hg, ho⟩ ih
  by_cases hlt : i < n
  · have q := eq_true (show (i : Int) < (n : Int) by omega)
    have hw : IntKind.i64.wrap ((i : Int) + 1) = ((i + 1 : Nat) : Int) := by rw [wrapI (by omega) (by omega)]; omega
    have hl : i < (Tg.Un.maskL gap n).length := by rw [Tg.Un.maskL_len]; exact hlt
    have hr : (List.replicate n (0 : UInt8)).length = (Tg.Un.maskL gap n).length := by rw [Tg.Un.maskL_len]; simp
    have lm : i < ((Tg.Un.maskL gap n).take i ++ (List.replicate n (0 : UInt8)).drop i).length := by simp [Tg.Un.maskL_len]; omega
    have s1 : lst Tryz.prog 5 (ptr H.n i) (.int .u8 255) H' = some (undef, _) := lst_u8 (H := H') hg lm 255
    have p1 := Tg.Un.part_id hr hl
    have p2 := Tg.Un.part_same hr hl
    rw [Tg.Un.maskL_at, List.getElem_replicate] at p2
    rw [Tg.Un.maskL_at] at p1
    unfold Tg.Un.mk1 at p1 p2
    have go := fun (fr2 : Fr) (H2 : LH) (a1 : fr2 1 = .bool gap) (a5 : fr2 5 = sl H.n n n) (a10 : fr2 10 = .int .i64 n) (a11 : fr2 11 = .int .i64 ((i + 1 : Nat) : Int)) (b1 : H2.n = H'.n) (b2 : H2.get H.n = some ⟨u8c ((Tg.Un.maskL gap n).take (i + 1) ++ (List.replicate n 0).drop (i + 1)), 5, true⟩) (b3 : ∀ l, l < H.n → H2.get l = H'.get l) => ih (i + 1) fr2 H2 (by omega) ⟨a1, a5, a10, a11, by omega, by omega, b2, fun l hl => by rw [b3 l hl, ho l hl]⟩
    clear ih
    cases gap with
    | false =>
      rw [if_neg (by simp)] at p1
      rw [p1] at s1
      generalize hB : (Tg.Un.maskL false n).take (i + 1) ++ (List.replicate n (0 : UInt8)).drop (i + 1) = M' at *
      simp [g1, g5, g10, g11, q, s1]
      refine go _ _ ?_ ?_ ?_ ?_ rfl ?_ (fun l hl => get_set_ne (by omega))
      · simp [g1]
      · simp [g5]
      · simp [g10]
      · simp [hw]
      · rw [get_set]
    | true =>
      by_cases h4 : i < 4
      · have e4 := eq_true (show (i : Int) < 4 by omega)
        rw [if_neg (by omega)] at p1
        rw [p1] at s1
        generalize hB : (Tg.Un.maskL true n).take (i + 1) ++ (List.replicate n (0 : UInt8)).drop (i + 1) = M' at *
        simp [g1, g5, g10, g11, q, s1, e4]
        refine go _ _ ?_ ?_ ?_ ?_ rfl ?_ (fun l hl => get_set_ne (by omega))
        · simp [g1]
        · simp [g5]
        · simp [g10]
        · simp [hw]
        · rw [get_set]
      · have e4 := eq_false (show ¬ (i : Int) < 4 by omega)
        by_cases h8 : 8 ≤ i
        · have e8 := eq_true (show (8 : Int) ≤ (i : Int) by omega)
          rw [if_neg (by omega)] at p1
          rw [p1] at s1
          generalize hB : (Tg.Un.maskL true n).take (i + 1) ++ (List.replicate n (0 : UInt8)).drop (i + 1) = M' at *
          simp [g1, g5, g10, g11, q, s1, e4, e8]
          refine go _ _ ?_ ?_ ?_ ?_ rfl ?_ (fun l hl => get_set_ne (by omega))
          · simp [g1]
          · simp [g5]
          · simp [g10]
          · simp [hw]
          · rw [get_set]
        · have e8 := eq_false (show ¬ (8 : Int) ≤ (i : Int) by omega)
          have p3 := p2 (by rw [if_pos ⟨rfl, by omega, by omega⟩])
          rw [p3] at hg
          simp [g1, g5, g10, g11, q, e4, e8]
          refine go _ _ ?_ ?_ ?_ ?_ rfl hg (fun l hl => rfl)
          · simp [g1]
          · simp [g5]
          · simp [g10]
          · simp [hw]
  · have q := eq_false (show ¬ (i : Int) < (n : Int) by omega)
    obtain rfl : i = n := by omega
    rw [List.take_of_length_le (by rw [Tg.Un.maskL_len]; exact Nat.le_refl _), List.drop_of_length_le (by simp), List.append_nil] at hg
    have c1 := fun (c : Nat) => lconv_u8 (c := c) hg
    rw [Tg.Un.maskL_len] at c1
    simp [g1, g5, g10, g11, q, c1]
    exact ⟨by omega, fun l hl => ho l hl⟩
theorem plain_cl (hs : s.length ≤ 1000) : LC Tryz.prog EJ 226 [str s, str t] H = some (pv ⟨s, Tg.Un.maskL false s.length, [], t⟩, H) := by
  refine LC_pure rfl Tryz.func226 rfl (Nat.le_of_ble_eq_true rfl) (by decide) (by kernel_rfl) rfl ?_
  have h1 := fun H : LH => masked_cl (H := H) (n := s.length) (gap := false) hs
  simp [h1, lfill_p3]
theorem boxed_cl {h n : List UInt8} (h1 : h.length ≤ 100) (h2 : n.length ≤ 100) : LC Tryz.prog EJ 225 [str h, str n, str t] H = some (pv ⟨h ++ [0, 0, 0, 0] ++ n, Tg.Un.maskL true (h.length + 4 + n.length), [], t⟩, H) := by
  refine LC_pure rfl Tryz.func225 rfl (Nat.le_of_ble_eq_true rfl) (by decide) (by kernel_rfl) rfl ?_
  have h3 := fun H : LH => masked_cl (H := H) (n := (h ++ [0, 0, 0, 0] ++ n).length) (gap := true) (by simp; omega)
  have q1 := eq_true (show h.length + 4 ≤ 9223372036854775807 by omega)
  have q2 := eq_true (show (h ++ [0, 0, 0, 0] ++ n).length ≤ 9223372036854775807 by simp; omega)
  have q3 := eq_true (show (h ++ [(0 : UInt8), 0, 0, 0]).length + n.length ≤ 9223372036854775807 by simp; omega)
  have q4 := eq_true (show h.length + 4 + n.length ≤ 9223372036854775807 by omega)
  have q5 := eq_true (show h.length + (4 + n.length) ≤ 9223372036854775807 by omega)
  have q6 := eq_true (show h.length + (n.length + 4) ≤ 9223372036854775807 by omega)
  have e : (h ++ [(0 : UInt8), 0, 0, 0] ++ n).length = h.length + 4 + n.length := by simp; omega
  rw [← e]
  generalize hm : Tg.Un.maskL true (h ++ [(0 : UInt8), 0, 0, 0] ++ n).length = M at *
  have h5 : ∀ H : LH, LC Tryz.prog EJ 262 [.int .i64 (h ++ [(0 : UInt8), 0, 0, 0] ++ n).length, .bool true] H = some (str M, H) := h3
  simp at h5
  simp [h5, q1, q2, q3, q4, q5, q6, lfill_p3]
end
end Go.Proofs.YtombmblgmbjieaaGreatDoor
/-
  Layer 20 (unknown): which sound or film a text is by the patterns: a range over a function. Printed by gen_kind.py.
-/
set_option linter.unusedSimpArgs false
set_option linter.unusedVariables false
set_option maxRecDepth 100000
namespace Tg.Un
def med0 : Pat := ⟨[70, 79, 82, 77, 0, 0, 0, 0, 65, 73, 70, 70], [255, 255, 255, 255, 0, 0, 0, 0, 255, 255, 255, 255], [], [97, 117, 100, 105, 111, 47, 97, 105, 102, 102]⟩
def med1 : Pat := ⟨[73, 68, 51], [255, 255, 255], [], [97, 117, 100, 105, 111, 47, 109, 112, 101, 103]⟩
def med2 : Pat := ⟨[79, 103, 103, 83, 0], [255, 255, 255, 255, 255], [], [97, 112, 112, 108, 105, 99, 97, 116, 105, 111, 110, 47, 111, 103, 103]⟩
def med3 : Pat := ⟨[77, 84, 104, 100, 0, 0, 0, 6], [255, 255, 255, 255, 255, 255, 255, 255], [], [97, 117, 100, 105, 111, 47, 109, 105, 100, 105]⟩
def med4 : Pat := ⟨[82, 73, 70, 70, 0, 0, 0, 0, 65, 86, 73, 32], [255, 255, 255, 255, 0, 0, 0, 0, 255, 255, 255, 255], [], [118, 105, 100, 101, 111, 47, 97, 118, 105]⟩
def med5 : Pat := ⟨[82, 73, 70, 70, 0, 0, 0, 0, 87, 65, 86, 69], [255, 255, 255, 255, 0, 0, 0, 0, 255, 255, 255, 255], [], [97, 117, 100, 105, 111, 47, 119, 97, 118, 101]⟩
theorem mediaL_is : mediaL = [med0, med1, med2, med3, med4, med5] := rfl
end Tg.Un
namespace Go.Proofs.YtombmblgmbjieaaGreatDoor
open Go.Lg Go.Tg
section
variable {H : LH} {s : List UInt8}
theorem pats_run {yc : YC} {I : LH → Prop} {D : List UInt8 → LH → Prop} {Q : PQ}
    (hround : ∀ p Hc, I Hc → ∃ j H1, R Tryz.prog EPu (.run none 1 yc.fn [.code yc.assign, .beginRound, .code yc.body] (setL yc.fr (yc.params.zip [pv p])) Hc none (.jump j) H1 none) ∧ ((Tg.Un.hits p s = false ∧ j = none ∧ I H1) ∨ (Tg.Un.hits p s = true ∧ j = some .ret ∧ D p.t H1)))
    (hp1 : yc.params.length = 1) (hpN : ∀ d ∈ yc.params, d < yc.fn.ntmps) (hI : I H) (hq1 : ∀ H1 v, Tg.Un.typeOf s Tg.Un.mediaL = [] → I H1 → Q (.ret v) H1 none) (hq2 : ∀ H1 v, D (Tg.Un.typeOf s Tg.Un.mediaL) H1 → Q (.ret v) H1 (some .ret)) :
    ∃ gc, fnOk Tryz.prog EPu 224 Tryz.f224 gc [tok yc.l] ∧ PR Tryz.prog EPu (some yc) 0 Tryz.f224 [.code gc] (enter [tok yc.l]) H none Q := by
  refine ⟨_, ⟨Tryz.func224, rfl, Nat.le_of_ble_eq_true rfl, by decide, by kernel_rfl⟩, ?_⟩
  rw [Tg.Un.mediaL_is] at hq1 hq2
  have b0 : ∀ H : LH, LC Tryz.prog EJ 225 [str [70, 79, 82, 77], str [65, 73, 70, 70], str [97, 117, 100, 105, 111, 47, 97, 105, 102, 102]] H = some (pv Tg.Un.med0, H) := fun H => boxed_cl (by decide) (by decide)
  have b1 : ∀ H : LH, LC Tryz.prog EJ 226 [str [73, 68, 51], str [97, 117, 100, 105, 111, 47, 109, 112, 101, 103]] H = some (pv Tg.Un.med1, H) := fun H => plain_cl (by decide)
  have b2 : ∀ H : LH, LC Tryz.prog EJ 226 [str [79, 103, 103, 83, 0], str [97, 112, 112, 108, 105, 99, 97, 116, 105, 111, 110, 47, 111, 103, 103]] H = some (pv Tg.Un.med2, H) := fun H => plain_cl (by decide)
  have b3 : ∀ H : LH, LC Tryz.prog EJ 226 [str [77, 84, 104, 100, 0, 0, 0, 6], str [97, 117, 100, 105, 111, 47, 109, 105, 100, 105]] H = some (pv Tg.Un.med3, H) := fun H => plain_cl (by decide)
  have b4 : ∀ H : LH, LC Tryz.prog EJ 225 [str [82, 73, 70, 70], str [65, 86, 73, 32], str [118, 105, 100, 101, 111, 47, 97, 118, 105]] H = some (pv Tg.Un.med4, H) := fun H => boxed_cl (by decide) (by decide)
  have b5 : ∀ H : LH, LC Tryz.prog EJ 225 [str [82, 73, 70, 70], str [87, 65, 86, 69], str [97, 117, 100, 105, 111, 47, 119, 97, 118, 101]] H = some (pv Tg.Un.med5, H) := fun H => boxed_cl (by decide) (by decide)
  simp [b0]
  obtain ⟨j0, H0, r0, c0⟩ := hround Tg.Un.med0 H hI
  refine hand_yield (yc := yc) (j := j0) (H1 := H0) ?_ rfl ?_ ?_ hpN (by simpa using r0) rfl ?_
  · first | rfl | (rw [lwant_x]; simp)
  · simp
  · exact hp1.symm
  rcases c0 with ⟨h0, rfl, I0⟩ | ⟨h0, rfl, D0⟩
  rotate_left
  · simp
    have e : Tg.Un.typeOf s [Tg.Un.med0, Tg.Un.med1, Tg.Un.med2, Tg.Un.med3, Tg.Un.med4, Tg.Un.med5] = Tg.Un.med0.t := by simp only [Tg.Un.typeOf, h0, Bool.false_eq_true, if_true, if_false]
    exact hq2 _ _ (by rw [e]; exact D0)
  simp [b1]
  obtain ⟨j1, H1, r1, c1⟩ := hround Tg.Un.med1 H0 I0
  refine hand_yield (yc := yc) (j := j1) (H1 := H1) ?_ rfl ?_ ?_ hpN (by simpa using r1) rfl ?_
  · first | rfl | (rw [lwant_x]; simp)
  · simp
  · exact hp1.symm
  rcases c1 with ⟨h1, rfl, I1⟩ | ⟨h1, rfl, D1⟩
  rotate_left
  · simp
    have e : Tg.Un.typeOf s [Tg.Un.med0, Tg.Un.med1, Tg.Un.med2, Tg.Un.med3, Tg.Un.med4, Tg.Un.med5] = Tg.Un.med1.t := by simp only [Tg.Un.typeOf, h0, h1, Bool.false_eq_true, if_true, if_false]
    exact hq2 _ _ (by rw [e]; exact D1)
  simp [b2]
  obtain ⟨j2, H2, r2, c2⟩ := hround Tg.Un.med2 H1 I1
  refine hand_yield (yc := yc) (j := j2) (H1 := H2) ?_ rfl ?_ ?_ hpN (by simpa using r2) rfl ?_
  · first | rfl | (rw [lwant_x]; simp)
  · simp
  · exact hp1.symm
  rcases c2 with ⟨h2, rfl, I2⟩ | ⟨h2, rfl, D2⟩
  rotate_left
  · simp
    have e : Tg.Un.typeOf s [Tg.Un.med0, Tg.Un.med1, Tg.Un.med2, Tg.Un.med3, Tg.Un.med4, Tg.Un.med5] = Tg.Un.med2.t := by simp only [Tg.Un.typeOf, h0, h1, h2, Bool.false_eq_true, if_true, if_false]
    exact hq2 _ _ (by rw [e]; exact D2)
  simp [b3]
  obtain ⟨j3, H3, r3, c3⟩ := hround Tg.Un.med3 H2 I2
  refine hand_yield (yc := yc) (j := j3) (H1 := H3) ?_ rfl ?_ ?_ hpN (by simpa using r3) rfl ?_
  · first | rfl | (rw [lwant_x]; simp)
  · simp
  · exact hp1.symm
  rcases c3 with ⟨h3, rfl, I3⟩ | ⟨h3, rfl, D3⟩
  rotate_left
  · simp
    have e : Tg.Un.typeOf s [Tg.Un.med0, Tg.Un.med1, Tg.Un.med2, Tg.Un.med3, Tg.Un.med4, Tg.Un.med5] = Tg.Un.med3.t := by simp only [Tg.Un.typeOf, h0, h1, h2, h3, Bool.false_eq_true, if_true, if_false]
    exact hq2 _ _ (by rw [e]; exact D3)
  simp [b4]
  obtain ⟨j4, H4, r4, c4⟩ := hround Tg.Un.med4 H3 I3
  refine hand_yield (yc := yc) (j := j4) (H1 := H4) ?_ rfl ?_ ?_ hpN (by simpa using r4) rfl ?_
  · first | rfl | (rw [lwant_x]; simp)
  · simp
  · exact hp1.symm
  rcases c4 with ⟨h4, rfl, I4⟩ | ⟨h4, rfl, D4⟩
  rotate_left
  · simp
    have e : Tg.Un.typeOf s [Tg.Un.med0, Tg.Un.med1, Tg.Un.med2, Tg.Un.med3, Tg.Un.med4, Tg.Un.med5] = Tg.Un.med4.t := by simp only [Tg.Un.typeOf, h0, h1, h2, h3, h4, Bool.false_eq_true, if_true, if_false]
    exact hq2 _ _ (by rw [e]; exact D4)
  simp [b5]
  obtain ⟨j5, H5, r5, c5⟩ := hround Tg.Un.med5 H4 I4
  refine hand_yield (yc := yc) (j := j5) (H1 := H5) ?_ rfl ?_ ?_ hpN (by simpa using r5) rfl ?_
  · first | rfl | (rw [lwant_x]; simp)
  · simp
  · exact hp1.symm
  rcases c5 with ⟨h5, rfl, I5⟩ | ⟨h5, rfl, D5⟩
  rotate_left
  · simp
    have e : Tg.Un.typeOf s [Tg.Un.med0, Tg.Un.med1, Tg.Un.med2, Tg.Un.med3, Tg.Un.med4, Tg.Un.med5] = Tg.Un.med5.t := by simp only [Tg.Un.typeOf, h0, h1, h2, h3, h4, h5, Bool.false_eq_true, if_true, if_false]
    exact hq2 _ _ (by rw [e]; exact D5)
  simp
  exact hq1 _ _ (by simp only [Tg.Un.typeOf, h0, h1, h2, h3, h4, h5, Bool.false_eq_true, if_false]) I5
theorem patterns_l : LC Tryz.prog EJ 184 [] H = some (.func (.func 224) #[] #[], H) := by
  refine LC_pure rfl Tryz.func184 rfl (Nat.le_of_ble_eq_true rfl) (by decide) (by kernel_rfl) rfl ?_
  simp
end
end Go.Proofs.YtombmblgmbjieaaGreatDoor
/-
  Layer 20 (unknown): films of elements, by the run with throws (it goes by goto).
-/
set_option linter.unusedSimpArgs false
set_option linter.unusedVariables false
set_option maxRecDepth 100000
namespace Go.Proofs.YtombmblgmbjieaaGreatDoor
open Go.Lg Go.Tg
section
variable {H : LH} {s : List UInt8} {l : Nat}
theorem pr_again {P : Program} {E : PEnv} {Y : Option YC} {rd : Nat} {fn : Func} {k : List Item} {fr : Fr} {H : LH} {p : Option Code} {Q : PQ} {St : Type} (Rl : St → Fr → LH → Prop) (μ : St → Nat) (st : St) (h : Rl st fr H)
    (step : ∀ st fr H, Rl st fr H → (∀ st' fr' H', μ st' < μ st → Rl st' fr' H' → PR P E Y rd fn k fr' H' p Q) → PR P E Y rd fn k fr H p Q) : PR P E Y rd fn k fr H p Q := by
  have key : ∀ m st fr H, μ st < m → Rl st fr H → PR P E Y rd fn k fr H p Q := by
    intro m
    induction m with
    | zero => intro st fr H hm; omega
    | succ m ih => intro st fr H hm hR; exact step st fr H hR (fun st' fr' H' hlt hR' => ih st' fr' H' (by omega) hR')
  exact key (μ st + 1) st fr H (Nat.lt_succ_self _) h
theorem webm_r (hs : s.length ≤ 1000000) : R Tryz.prog EPu (.call 102 [str s] H (.ret (.bool (Tg.Un.webm s))) H) := by
  have hb := fun H : LH => wbegins_cl (H := H) (s := s)
  refine pcall_flat Tryz.func102 rfl (Nat.le_of_ble_eq_true rfl) (by decide) (by kernel_rfl) rfl ?_
  unfold Tg.Un.webm
  cases h : Tg.Un.pre s Tg.Un.mark with
  | false => rw [h] at hb; simp [hb]
  | true =>
    rw [h] at hb
    obtain ⟨x, hx⟩ : ∃ x, x = Tg.Un.webmAt s 38 4 := ⟨_, rfl⟩
    rw [← hx]
    simp [hb, -pr_label]
    rw [pr_label]
    simp only [pr_seq]
    refine pr_again (St := Nat × Nat) (fun st fr' H' => fr' 0 = str s ∧ fr' 3 = .int .i64 st.1 ∧ H' = H ∧ x = Tg.Un.webmAt s st.2 st.1 ∧ 38 ≤ st.1 + st.2) (fun st => 38 - st.1) (4, 38) ⟨by simp, by simp, rfl, hx, by decide⟩ ?_
    rintro ⟨a, n⟩ fr' H' ⟨g0, g3, rfl, he, hf⟩ ih
    simp only at g3 he hf ih
    by_cases c1 : s.length ≤ a ∨ 38 ≤ a
    · have he : x = false := by
        rw [he]
        cases n with
        | zero => rfl
        | succ n => unfold Tg.Un.webmAt; rw [if_pos c1]
      subst he
      by_cases c2 : s.length ≤ a
      · have q1 := eq_true (show (s.length : Int) ≤ (a : Int) by omega)
        simp [g0, g3, q1, c2, -pr_goto]
      · have q1 := eq_false (show ¬ (s.length : Int) ≤ (a : Int) by omega)
        have q2 := eq_true (show (38 : Int) ≤ (a : Int) by omega)
        simp [g0, g3, q1, q2, c2, -pr_goto]
    · obtain ⟨n, rfl⟩ : ∃ m, n = m + 1 := ⟨n - 1, by omega⟩
      unfold Tg.Un.webmAt at he
      rw [if_neg c1] at he
      have q1 := eq_false (show ¬ (s.length : Int) ≤ (a : Int) by omega)
      have q2 := eq_false (show ¬ (38 : Int) ≤ (a : Int) by omega)
      have q3 := eq_true (show (a : Int) ≤ (s.length : Int) by omega)
      have q4 := eq_true (show (0 : Int) ≤ (a : Int) by omega)
      have hp := Tg.Un.pre_eq (s.drop a) [66, 130]
      have w1 : IntKind.i64.wrap ((a : Int) + 1) = ((a + 1 : Nat) : Int) := by rw [wrapI (by omega) (by omega)]; omega
      cases hpre : Tg.Un.pre (s.drop a) [66, 130] with
      | false =>
        rw [hpre] at hp he
        rw [if_neg (by simp)] at he
        simp [g0, g3, q1, q2, q3, q4, hp, -pr_goto]
        rw [pr_goto]
        simp only [gotoIn, findLabel, beq_self_eq_true, if_true, pgoto_some, pr_seq, pr_skip]
        refine ih (a + 1, n) _ _ (by simp only; omega) ⟨?_, ?_, rfl, he, by simp only; omega⟩
        · simp [g0]
        · simp [w1]
      | true =>
        rw [hpre] at hp he
        rw [if_pos rfl] at he
        have w2 : IntKind.i64.wrap ((a : Int) + 2) = ((a + 2 : Nat) : Int) := by rw [wrapI (by omega) (by omega)]; omega
        by_cases c3 : s.length ≤ a + 2
        · rw [if_pos c3] at he
          have q5 := eq_true (show (s.length : Int) ≤ ((a + 2 : Nat) : Int) by omega)
          generalize ((a + 2 : Nat) : Int) = A2 at *
          simp [g0, g3, q1, q2, q3, q4, hp, w2, q5, he, -pr_goto]
        · rw [if_neg c3] at he
          have hlt : a + 2 < s.length := by omega
          have hat : at_ s ((a + 2 : Nat) : Int) = s[a + 2] := at_in hlt
          have hgd : s.getD (a + 2) 0 = s[a + 2] := by rw [List.getD_eq_getElem?_getD, List.getElem?_eq_getElem hlt]; rfl
          rw [hgd] at he
          have hW := fun H : LH => width_cl (H := H) (c := s[a + 2])
          have hw8 : Tg.Un.width s[a + 2] ≤ 8 := by
            unfold Tg.Un.width
            repeat (first | omega | split)
          generalize s[a + 2] = c at *
          generalize Tg.Un.width c = w at *
          have q5 := eq_false (show ¬ (s.length : Int) ≤ ((a + 2 : Nat) : Int) by omega)
          have q6 := eq_true (show ((a + 2 : Nat) : Int) < (s.length : Int) by omega)
          have q7 := eq_true (show (0 : Int) ≤ ((a + 2 : Nat) : Int) by omega)
          have w3 : IntKind.i64.wrap (((a + 2 : Nat) : Int) + (w : Int)) = ((a + 2 + w : Nat) : Int) := by rw [wrapI (by omega) (by omega)]; omega
          have w4 : IntKind.i64.wrap ((s.length : Int) - 4) = (s.length : Int) - 4 := wrapI (by omega) (by omega)
          by_cases c4 : s.length ≤ a + 2 + w + 4
          · rw [if_pos c4] at he
            have q8 := eq_true (show (s.length : Int) - 4 ≤ ((a + 2 + w : Nat) : Int) by omega)
            generalize ((a + 2 + w : Nat) : Int) = A3 at *
            generalize ((a + 2 : Nat) : Int) = A2 at *
            simp [g0, g3, q1, q2, q3, q4, hp, w2, q5, q6, q7, hat, hW, w3, w4, q8, he, -pr_goto]
          · rw [if_neg c4] at he
            have q8 := eq_false (show ¬ (s.length : Int) - 4 ≤ ((a + 2 + w : Nat) : Int) by omega)
            have q9 := eq_true (show ((a + 2 + w : Nat) : Int) ≤ (s.length : Int) by omega)
            have q10 := eq_true (show (0 : Int) ≤ ((a + 2 + w : Nat) : Int) by omega)
            have hd : s.drop (((a + 2 + w : Nat) : Int)).toNat = s.drop (a + 2 + w) := by rw [Int.toNat_natCast]
            have hP := fun H : LH => pad_cl (H := H) (s := s.drop (a + 2 + w)) (by rw [List.length_drop]; omega)
            have w5 : IntKind.i64.wrap (((a + 2 + w : Nat) : Int) + 1) = ((a + 2 + w + 1 : Nat) : Int) := by rw [wrapI (by omega) (by omega)]; omega
            cases hpd : Tg.Un.padded (s.drop (a + 2 + w)) with
            | true =>
              rw [hpd] at hP he
              rw [if_pos rfl] at he
              generalize ((a + 2 + w : Nat) : Int) = A3 at *
              generalize ((a + 2 : Nat) : Int) = A2 at *
              simp [g0, g3, q1, q2, q3, q4, hp, w2, q5, q6, q7, hat, hW, w3, w4, q8, q9, q10, hd, hP, he, -pr_goto]
            | false =>
              rw [hpd] at hP he
              rw [if_neg (by simp)] at he
              generalize ((a + 2 + w : Nat) : Int) = A3 at *
              generalize ((a + 2 : Nat) : Int) = A2 at *
              simp [g0, g3, q1, q2, q3, q4, hp, w2, q5, q6, q7, hat, hW, w3, w4, q8, q9, q10, hd, hP, -pr_goto]
              rw [pr_goto]
              simp only [gotoIn, findLabel, beq_self_eq_true, if_true, pgoto_some, pr_seq, pr_skip]
              refine ih (a + 2 + w + 1, n) _ _ (by simp only; omega) ⟨?_, ?_, rfl, he, by simp only; omega⟩
              · simp [g0]
              · simp [w5]
end
end Go.Proofs.YtombmblgmbjieaaGreatDoor
/-
  Layer 20 (unknown): what a body is, by the run with throws.
-/
set_option linter.unusedSimpArgs false
set_option linter.unusedVariables false
set_option maxRecDepth 100000
namespace Tg.Un
theorem orS_eq : ∀ l : List (List UInt8), orS l = or_ l
  | [] => rfl
  | s :: l => by unfold orS or_; rw [orS_eq l]
end Tg.Un
namespace Go.Proofs.YtombmblgmbjieaaGreatDoor
open Go.Lg Go.Tg
section
variable {H : LH} {s : List UInt8}
theorem mkind_r (hs : s.length ≤ 1000000) : R Tryz.prog EPu (.call 140 [str s] H (.ret (str (Tg.Un.typeOf s Tg.Un.mediaL))) H) := by
  have hp := fun H : LH => patterns_l (H := H)
  refine pcall_flat Tryz.func140 rfl (Nat.le_of_ble_eq_true rfl) (by decide) (by kernel_rfl) rfl ?_
  simp [hp]
  refine pr_rangeE (g := 224) (gfn := Tryz.f224) (caps := #[]) ?_ ?_
  · simp
  refine pats_run (s := s) (I := fun Hc => Hc.get H.n = some ⟨[str s], 9, true⟩ ∧ Hc.get (H.n + 1) = some ⟨[str []], 9, true⟩ ∧ H.n + 2 ≤ Hc.n ∧ ∀ k, k < H.n → Hc.get k = H.get k) (D := fun t Hc => Hc.get (H.n + 1) = some ⟨[str t], 9, true⟩ ∧ H.n ≤ Hc.n ∧ ∀ k, k < H.n → Hc.get k = H.get k) ?_ rfl ?_ ?_ ?_ ?_
  · rintro p Hc ⟨i1, i2, i3, i4⟩
    have hM := fun H : LH => Match_cl (H := H) (s := s) (p := p) (by omega)
    have d1 : (H.n = Hc.n) = False := eq_false (by omega)
    have d2 : (H.n + 1 = Hc.n) = False := eq_false (by omega)
    refine round_of ?_
    simp [setL]
    refine pr_begin ?_
    cases hh : Tg.Un.hits p s with
    | false =>
      rw [hh] at hM
      simp [i1, i2, d1, d2, hM]
      exact ⟨by omega, fun k hk => by rw [get_new_ne (by omega)]; exact i4 k hk⟩
    | true =>
      rw [hh] at hM
      simp [i1, i2, d1, d2, hM]
      exact ⟨by omega, fun k hk => by rw [get_set_ne (by omega), get_new_ne (by omega)]; exact i4 k hk⟩
  · intro d hd
    simp at hd
    subst hd
    exact of_decide_eq_true rfl
  · refine ⟨?_, ?_, ?_, fun k hk => ?_⟩
    · show ((H.new _).new _).get H.n = _
      rw [get_new_ne (by simp), get_new]
    · show ((H.new _).new _).get (H.n + 1) = _
      rw [show H.n + 1 = (H.new ⟨[str s], 9, true⟩).n from rfl, get_new]
    · show H.n + 2 ≤ ((H.new _).new _).n + 1
      simp only [n_new]; omega
    · show ((H.new _).new _).get k = _
      rw [get_new_ne (by simp only [n_new]; omega), get_new_ne (by omega)]
  · rintro H1 v e ⟨i1, i2, i3, i4⟩
    refine ⟨⟨v, rfl⟩, ?_⟩
    rw [e]
    simp [i2]
    exact ⟨by omega, fun k hk => i4 k hk⟩
  · rintro H1 v ⟨i1, i2, i3⟩
    refine ⟨⟨v, rfl⟩, ?_⟩
    simp [i1]
    exact ⟨i2, fun k hk => i3 k hk⟩
theorem mtype_r (hs : s.length ≤ 1000000) : R Tryz.prog EPu (.call 100 [str s] H (.ret (str (Tg.Un.typeOf s Tg.Un.mediaL))) H) := by
  have h1 := mkind_r (H := H) hs
  refine pcall_flat Tryz.func100 rfl (Nat.le_of_ble_eq_true rfl) (by decide) (by kernel_rfl) rfl ?_
  simp
  refine hand_call_ret (g := 140) (first := #[]) (caps := #[]) (H1 := H) rfl rfl rfl (by simp) (by simpa using h1) rfl ?_
  simp
theorem bsS {n : Nat} {ps : List (Nat × Value)} (h1 : n = ps.length) (h2 : n ≤ 65536) (h3 : denseB ps 0 = true) : lbuildSlice Tryz.prog 27 n ps H = some (sl H.n n n, H.new ⟨ps.map Prod.snd, 9, true⟩) := lbs_dense (z := str []) Tryz.underlying27 (by kernel_rfl) (by kernel_rfl) rfl rfl h1 h2 h3
theorem or_at {xs : List (List UInt8)} {n : Nat} (hn : n = xs.length) (hl : n ≤ 1000) : LC Tryz.prog EJ 92 [sl H.n n n] (H.new ⟨xs.map str, 9, true⟩) = some (str (Tg.Un.orS xs), H.new ⟨xs.map str, 9, true⟩) := by
  subst hn
  rw [Tg.Un.orS_eq]
  exact or_cl (SRow.of (k := H.n) (c := xs.length) (rest := []) (by rw [get_new, List.append_nil]) (Nat.lt_succ_self _)) (by omega)
theorem film_r (hs : s.length ≤ 1000000) : R Tryz.prog EPu (.call 64 [str s] H (.ret (str (Tg.Un.film s))) H) := by
  have h1 := mtype_r (H := H) hs
  have h2 := mp4_r (H := H) hs
  have h3 := webm_r (H := H) hs
  have h4 := fun H : LH => mp3_cl (H := H) (s := s) (by omega)
  have h5 := fun (H : LH) (s : List UInt8) (b : Bool) => named_cl (H := H) (s := s) (b := b)
  have h6 := or_at (H := H) (n := 4) (xs := [Tg.Un.typeOf s Tg.Un.mediaL, if Tg.Un.mp4 s = true then [118, 105, 100, 101, 111, 47, 109, 112, 52] else [], if Tg.Un.webm s = true then [118, 105, 100, 101, 111, 47, 119, 101, 98, 109] else [], if Tg.Un.mp3 s = true then [97, 117, 100, 105, 111, 47, 109, 112, 101, 103] else []]) rfl (by decide)
  have e : Tg.Un.orS [Tg.Un.typeOf s Tg.Un.mediaL, if Tg.Un.mp4 s = true then [118, 105, 100, 101, 111, 47, 109, 112, 52] else [], if Tg.Un.webm s = true then [118, 105, 100, 101, 111, 47, 119, 101, 98, 109] else [], if Tg.Un.mp3 s = true then [97, 117, 100, 105, 111, 47, 109, 112, 101, 103] else []] = Tg.Un.film s := rfl
  rw [e] at h6
  clear e
  generalize Tg.Un.film s = res at *
  generalize hx1 : (if Tg.Un.mp4 s = true then [118, 105, 100, 101, 111, 47, 109, 112, 52] else ([] : List UInt8)) = x1 at *
  generalize hx2 : (if Tg.Un.webm s = true then [118, 105, 100, 101, 111, 47, 119, 101, 98, 109] else ([] : List UInt8)) = x2 at *
  generalize hx3 : (if Tg.Un.mp3 s = true then [97, 117, 100, 105, 111, 47, 109, 112, 101, 103] else ([] : List UInt8)) = x3 at *
  simp only [List.map_cons, List.map_nil] at h6
  refine pcall_flat Tryz.func64 rfl (Nat.le_of_ble_eq_true rfl) (by decide) (by kernel_rfl) rfl ?_
  simp
  refine hand_call_ret (g := 100) (first := #[]) (caps := #[]) (H1 := H) rfl rfl rfl (by simp) (by simpa using h1) rfl ?_
  simp
  refine hand_call_ret (g := 101) (first := #[]) (caps := #[]) (H1 := H) rfl rfl rfl (by simp) (by simpa using h2) rfl ?_
  simp [h5, hx1]
  refine hand_call_ret (g := 102) (first := #[]) (caps := #[]) (H1 := H) rfl rfl rfl (by simp) (by simpa using h3) rfl ?_
  simp [h5, hx2, h4, hx3, bsS, denseB, h6]
theorem kind_r {b : Bool} (hs : s.length ≤ 1000000) (hm : MaxL H) : R Tryz.prog EPu (.call 56 [str s, .bool b] H (.ret (str (Tg.Un.kind s b))) H) := by
  have h5 := fun (H : LH) (s : List UInt8) (b : Bool) => named_cl (H := H) (s := s) (b := b)
  have f0 := fun H : LH => First_cl (H := H) (s := s) (by omega)
  have f1 := fun H : LH => signs_l (H := H)
  have f2 := fun H : LH => mtype_cl (s := s) (prow_l (H := H) (l := Tg.Un.signsL) (n := 4) rfl) (by decide) (by omega)
  have f3 := fun H : LH => itype_cl (H := H) (s := s) hs
  have f4 := fun H : LH => film_r (H := H) (s := s) hs
  have f5 := fun H : LH => Archive_cl (H := H) (s := s) hs
  have hfin : Tg.Un.rest_ s = Tg.Un.orS [Tg.Un.typeOf s Tg.Un.signsL, Tg.Un.typeOf s Tg.Un.imageL, Tg.Un.film s, Tg.Un.typeOf s Tg.Un.archL, if (!decide (0 ≤ Tg.Un.seek s 0)) = true then [116, 101, 120, 116, 47, 112, 108, 97, 105, 110] else [], [97, 112, 112, 108, 105, 99, 97, 116, 105, 111, 110, 47, 111, 99, 116, 101, 116, 45, 115, 116, 114, 101, 97, 109]] := by
    unfold Tg.Un.rest_ Tg.Un.binary
    cases decide (0 ≤ Tg.Un.seek s 0) <;> rfl
  have f6 := fun H : LH => or_at (H := H) (n := 6) (xs := [Tg.Un.typeOf s Tg.Un.signsL, Tg.Un.typeOf s Tg.Un.imageL, Tg.Un.film s, Tg.Un.typeOf s Tg.Un.archL, if (!decide (0 ≤ Tg.Un.seek s 0)) = true then [116, 101, 120, 116, 47, 112, 108, 97, 105, 110] else [], [97, 112, 112, 108, 105, 99, 97, 116, 105, 111, 110, 47, 111, 99, 116, 101, 116, 45, 115, 116, 114, 101, 97, 109]]) rfl (by decide)
  simp only [List.map_cons, List.map_nil, ← hfin] at f6
  generalize hsk : Tg.Un.seek s 0 = sk at *
  generalize hpx : (if (!decide (0 ≤ sk)) = true then [116, 101, 120, 116, 47, 112, 108, 97, 105, 110] else ([] : List UInt8)) = px at *
  have hnm : ∀ H : LH, LC Tryz.prog EJ 93 [str [116, 101, 120, 116, 47, 112, 108, 97, 105, 110], .bool (!decide (0 ≤ sk))] H = some (str px, H) := fun H => by rw [← hpx]; exact named_cl
  have g1 := isHtml_cl (H := H) hs hm
  have g2 := fun H : LH => isXml_cl (H := H) hs
  have g3 := fun H : LH => isPdf_cl (H := H) (s := s)
  refine pcall_flat Tryz.func56 rfl (Nat.le_of_ble_eq_true rfl) (by decide) (by kernel_rfl) rfl ?_
  unfold Tg.Un.kind
  cases b with
  | false =>
    rw [if_neg (by simp)]
    generalize Tg.Un.rest_ s = res at *
    have f4' := f4 (H.new ⟨Tg.Un.pcells Tg.Un.signsL, 66, true⟩)
    simp [f0, f1, f2, f3]
    refine hand_call_ret (g := 64) (first := #[]) (caps := #[]) (H1 := H.new ⟨Tg.Un.pcells Tg.Un.signsL, 66, true⟩) rfl rfl rfl (by simp) (by simpa using f4') rfl ?_
    have f6' := f6 (H.new ⟨Tg.Un.pcells Tg.Un.signsL, 66, true⟩)
    simp only [n_new] at f6'
    simp [f5, hnm, bsS, denseB, f6']
  | true =>
    have e3 : Tg.Un.orS [if Tg.Un.html s = true then Tg.Un.htmlT else [], if Tg.Un.xml s = true then Tg.Un.xmlT else [], if Tg.Un.pdf s = true then Tg.Un.pdfT else []] = Tg.Un.orS [if Tg.Un.html s = true then [116, 101, 120, 116, 47, 104, 116, 109, 108] else [], if Tg.Un.xml s = true then [116, 101, 120, 116, 47, 120, 109, 108] else [], if Tg.Un.pdf s = true then [97, 112, 112, 108, 105, 99, 97, 116, 105, 111, 110, 47, 112, 100, 102] else []] := rfl
    rw [e3]
    have n1 : ∀ H : LH, LC Tryz.prog EJ 93 [str [116, 101, 120, 116, 47, 104, 116, 109, 108], .bool (Tg.Un.html s)] H = some (str (if Tg.Un.html s = true then [116, 101, 120, 116, 47, 104, 116, 109, 108] else []), H) := fun H => named_cl
    have n2 : ∀ H : LH, LC Tryz.prog EJ 93 [str [116, 101, 120, 116, 47, 120, 109, 108], .bool (Tg.Un.xml s)] H = some (str (if Tg.Un.xml s = true then [116, 101, 120, 116, 47, 120, 109, 108] else []), H) := fun H => named_cl
    have n3 : ∀ H : LH, LC Tryz.prog EJ 93 [str [97, 112, 112, 108, 105, 99, 97, 116, 105, 111, 110, 47, 112, 100, 102], .bool (Tg.Un.pdf s)] H = some (str (if Tg.Un.pdf s = true then [97, 112, 112, 108, 105, 99, 97, 116, 105, 111, 110, 47, 112, 100, 102] else []), H) := fun H => named_cl
    generalize (if Tg.Un.html s = true then [116, 101, 120, 116, 47, 104, 116, 109, 108] else ([] : List UInt8)) = a1 at *
    generalize (if Tg.Un.xml s = true then [116, 101, 120, 116, 47, 120, 109, 108] else ([] : List UInt8)) = a2 at *
    generalize (if Tg.Un.pdf s = true then [97, 112, 112, 108, 105, 99, 97, 116, 105, 111, 110, 47, 112, 100, 102] else ([] : List UInt8)) = a3 at *
    have f7 := or_at (H := H) (n := 3) (xs := [a1, a2, a3]) rfl (by decide)
    simp only [List.map_cons, List.map_nil] at f7
    by_cases h0 : Tg.Un.orS [a1, a2, a3] = []
    · rw [if_neg (by simp [h0])]
      rw [h0] at f7
      generalize Tg.Un.rest_ s = res at *
      have f4' := f4 ((H.new ⟨[str a1, str a2, str a3], 9, true⟩).new ⟨Tg.Un.pcells Tg.Un.signsL, 66, true⟩)
      have f1' := f1 (H.new ⟨[str a1, str a2, str a3], 9, true⟩)
      have f2' := f2 (H.new ⟨[str a1, str a2, str a3], 9, true⟩)
      have f6' := f6 ((H.new ⟨[str a1, str a2, str a3], 9, true⟩).new ⟨Tg.Un.pcells Tg.Un.signsL, 66, true⟩)
      simp only [n_new] at f1' f2' f6'
      simp [g1, g2, g3, n1, n2, n3, bsS, denseB, f7, f0, f1', f2', f3]
      refine hand_call_ret (g := 64) (first := #[]) (caps := #[]) (H1 := (H.new ⟨[str a1, str a2, str a3], 9, true⟩).new ⟨Tg.Un.pcells Tg.Un.signsL, 66, true⟩) rfl rfl rfl (by simp) (by simpa using f4') rfl ?_
      simp [f5, hnm, bsS, denseB, f6']
      exact le_refl.new.new.new
    · rw [if_pos ⟨rfl, h0⟩]
      generalize Tg.Un.orS [a1, a2, a3] = o at *
      simp [g1, g2, g3, n1, n2, n3, bsS, denseB, f7, h0]
theorem Type_r {b : Bool} (hm : MaxL H) : R Tryz.prog EPu (.call 14 [str s, .bool b] H (.ret (str (Tg.Un.type s b))) H) := by
  have h1 := fun H : LH => bcut_cl (H := H) (s := s)
  have h2 := kind_r (H := H) (s := s.take 1445) (b := b) (by rw [List.length_take]; omega) hm
  refine pcall_flat Tryz.func14 rfl (Nat.le_of_ble_eq_true rfl) (by decide) (by kernel_rfl) rfl ?_
  unfold Tg.Un.type
  generalize s.take 1445 = t at *
  simp [h1]
  refine hand_call_ret (g := 56) (first := #[]) (caps := #[]) (H1 := H) rfl rfl rfl (by simp) (by simpa using h2) rfl ?_
  simp
theorem Media_r (hs : s.length ≤ 1000000) : R Tryz.prog EPu (.call 17 [str s] H (.ret (str (Tg.Un.film s))) H) := by
  have h1 := film_r (H := H) hs
  refine pcall_flat Tryz.func17 rfl (Nat.le_of_ble_eq_true rfl) (by decide) (by kernel_rfl) rfl ?_
  simp
  refine hand_call_ret (g := 64) (first := #[]) (caps := #[]) (H1 := H) rfl rfl rfl (by simp) (by simpa using h1) rfl ?_
  simp
theorem lives20_r (hm : MaxL H) : R Tryz.prog EPu (.call 16 [] H (.ret (.bool true)) H) := by
  have h1 := Type_r (H := H) (s := [60, 112, 62]) (b := true) hm
  have h2 := Type_r (H := H) (s := [60, 112, 62]) (b := false) hm
  have e1 : Tg.Un.type [60, 112, 62] true = [116, 101, 120, 116, 47, 104, 116, 109, 108] := by decide +kernel
  have e2 : Tg.Un.type [60, 112, 62] false = [116, 101, 120, 116, 47, 112, 108, 97, 105, 110] := by decide +kernel
  rw [e1] at h1
  rw [e2] at h2
  refine pcall_flat Tryz.func16 rfl (Nat.le_of_ble_eq_true rfl) (by decide) (by kernel_rfl) rfl ?_
  simp
  refine hand_call_ret (g := 14) (first := #[]) (caps := #[]) (H1 := H) rfl rfl rfl (by simp) (by simpa using h1) rfl ?_
  simp
  refine hand_call_ret (g := 14) (first := #[]) (caps := #[]) (H1 := H) ?_ rfl rfl (by simp) (by simpa using h2) rfl ?_
  · rw [lwant_x]; simp
  · simp
end
end Go.Proofs.YtombmblgmbjieaaGreatDoor
/-
  Layer 20 (unknown): what the reference says a body is.
-/
set_option linter.unusedSimpArgs false
set_option linter.unusedVariables false
set_option maxRecDepth 100000
namespace Go.Proofs.YtombmblgmbjieaaGreatDoor
open Go.Lg Go.Tg
section
variable {H : LH} {s t l : List UInt8}
theorem rlower_cl (hs : s.length ≤ 1000000) : LC Tryz.prog EJ 71 [str s] H = some (str (Tg.Un.lower s), H) := by
  refine LC_pure rfl Tryz.func71 rfl (Nat.le_of_ble_eq_true rfl) (by decide) (by kernel_rfl) rfl ?_
  simp [ubs0]
  refine loop_ind (fun (i : Nat) fr' H' => fr' 0 = str s ∧ fr' 4 = .int .i64 i ∧ i ≤ s.length ∧ (∃ v, fr' 3 = v ∧ v ≠ .slice none 0 0 ∧ RowN H.n H' 5 1 v (Tg.Un.lower (s.take i)).length ((Tg.Un.lower (s.take i)).map bv)) ∧ H.n ≤ H'.n ∧ ∀ k, k < H.n → H'.get k = H.get k) (fun i => s.length - i) 0 ⟨by simp, by simp, Nat.zero_le _, ⟨sl H.n 0 0, by simp, (by intro e; cases e), ?_⟩, by simp, fun k hk => get_new_ne (by omega)⟩ ?_
  · exact ⟨by simp [Tg.Un.lower], .inr ⟨H.n, 0, [], by simp [Tg.Un.lower], Nat.le_refl _, by simp, by simp [Tg.Un.lower], by simp [Tg.Un.lower], by simp [Tg.Un.lower]⟩⟩
  rintro i fr' H' ⟨h0, h4, hi, ⟨v, h3, hne, hr⟩, hn, hk⟩ ih
  by_cases hlt : i < s.length
  · have q := eq_true (show (i : Int) < (s.length : Int) by omega)
    have hat : at_ s (i : Int) = s[i] := at_in hlt
    have hw : IntKind.i64.wrap ((i : Int) + 1) = ((i + 1 : Nat) : Int) := by rw [wrapI (by omega) (by omega)]; omega
    have hll : (Tg.Un.lower (s.take i)).length ≤ 1000000 := by simp [Tg.Un.lower]; omega
    have hnew : Tg.Un.lower (s.take (i + 1)) = Tg.Un.lower (s.take i) ++ [Tg.Un.low s[i]] := by
      have e : s.take (i + 1) = s.take i ++ [s[i]] := List.take_succ_eq_append_getElem hlt
      unfold Tg.Un.lower; rw [e, List.map_append]; rfl
    generalize s[i] = c at *
    have hlt8 := c.toNat_lt
    have e8 : (c + 32).toNat = (c.toNat + 32) % 256 := by rw [UInt8.toNat_add]; rfl
    have hw8 : IntKind.u8.wrap ((c.toNat : Int) + 32) = ((c + 32).toNat : Int) := by rw [IntKind.wrap_u8, e8]; omega
    obtain ⟨v2, H2, a1, a2, a3, a4⟩ := ubyte_app (x := Tg.Un.low c) hr hn hll
    have hne2 := urow_ne a2
    rw [← hnew] at a2
    have hfin := fun fr2 (g0 : fr2 0 = str s) (g4 : fr2 4 = .int .i64 ((i + 1 : Nat) : Int)) (g3 : fr2 3 = v2) => ih (i + 1) fr2 H2 (by omega) ⟨g0, g4, by omega, ⟨v2, g3, hne2, a2⟩, a3, fun k hk2 => by rw [a4 k hk2, hk k hk2]⟩
    clear ih
    unfold Tg.Un.low at a1
    by_cases h1 : (65 : Int) ≤ c.toNat
    · by_cases h2 : (c.toNat : Int) ≤ 90
      · rw [if_pos ⟨h1, h2⟩] at a1
        clear e8
        generalize c + 32 = c2 at *
        have q1 := eq_true h1
        have q2 := eq_true h2
        simp [h0, h3, h4, q, hat, q1, q2, hw8, a1]
        refine hfin _ ?_ ?_ ?_
        all_goals simp [h0, hw]
      · rw [if_neg (fun h => h2 h.2)] at a1
        have q1 := eq_true h1
        have q2 := eq_false h2
        simp [h0, h3, h4, q, hat, q1, q2, a1]
        refine hfin _ ?_ ?_ ?_
        all_goals simp [h0, hw]
    · rw [if_neg (fun h => h1 h.1)] at a1
      have q1 := eq_false h1
      simp [h0, h3, h4, q, hat, q1, a1]
      refine hfin _ ?_ ?_ ?_
      all_goals simp [h0, hw]
  · have q := eq_false (show ¬ (i : Int) < (s.length : Int) by omega)
    rw [List.take_of_length_le (by omega)] at hr
    obtain ⟨k, c, hv, hc⟩ := urow_str hr hne
    subst hv
    simp [h0, h3, h4, q, hc]
    exact ⟨hn, hk⟩
theorem rtags_l : LC Tryz.prog EJ 26 [] H = some (sl H.n 16 16, H.new ⟨Tg.Un.tagsL.map str, 9, true⟩) := by
  obtain ⟨r, h, e⟩ : ∃ r, LC Tryz.prog EJ 26 [] H = some (Lg.trunc H r) ∧ r = (sl H.n 16 16, H.new ⟨Tg.Un.tagsL.map str, 9, true⟩) := by
    refine LC_runs (P := Tryz.prog) (E := EJ) (f := 26) rfl Tryz.func26 rfl (Nat.le_of_ble_eq_true rfl) (by decide) (by kernel_rfl) ?_
    simp [bsS, denseB]
    rfl
  rw [h, e, trunc_no (by simp [flatB, flat1B, atomB])]
theorem rxml_cl (hs : s.length ≤ 1000000) : LC Tryz.prog EJ 22 [str s] H = some (.bool (Tg.Un.xml s), H) := by
  refine LC_pure rfl Tryz.func22 rfl (Nat.le_of_ble_eq_true rfl) (by decide) (by kernel_rfl) rfl ?_
  have h1 := fun H : LH => rskip_cl (H := H) (s := s) (by omega)
  rw [Tg.Un.xml_eq]
  generalize s.drop (Tg.Un.begins Tg.Un.white s) = r at *
  have h2 := fun (H : LH) (p : List UInt8) => rprefix_cl (H := H) (s := r) (p := p)
  simp [h1, h2]
theorem rhtml_cl (hs : s.length ≤ 1000000) : LC Tryz.prog EJ 20 [str s] H = some (.bool (Tg.Un.html s), H) := by
  refine LC_pure rfl Tryz.func20 rfl (Nat.le_of_ble_eq_true rfl) (by decide) (by kernel_rfl) rfl ?_
  have h1 := fun H : LH => rskip_cl (H := H) (s := s) (by omega)
  rw [Tg.Un.html_eq]
  unfold Tg.Un.rhtml
  have hrl : (s.drop (Tg.Un.begins Tg.Un.white s)).length ≤ 1000000 := by rw [List.length_drop]; omega
  generalize s.drop (Tg.Un.begins Tg.Un.white s) = r at *
  have h2 := fun (H : LH) (p : List UInt8) => rprefix_cl (H := H) (s := r) (p := p)
  have h3 := fun H : LH => rtags_l (H := H)
  cases hp : Tg.Un.pre r [60, 33, 45, 45] with
  | true =>
    simp [h1, h2, h3, hp]
  | false =>
    obtain ⟨x, hx⟩ : ∃ x, x = Tg.Un.tagsL.any (Tg.Un.rtag r) := ⟨_, rfl⟩
    rw [← hx, Bool.false_or]
    have hr : SRow (H.new ⟨Tg.Un.tagsL.map str, 9, true⟩) (sl H.n 16 16) Tg.Un.tagsL := SRow.of (k := H.n) (c := 16) (rest := []) (by rw [get_new, List.append_nil]) (Nat.lt_succ_self _)
    have hl : ∀ x ∈ Tg.Un.tagsL, x.length ≤ 100 := by decide
    simp [h1, h2, h3, hp]
    refine loop_ind (fun (i : Nat) fr' H' => fr' 0 = str r ∧ fr' 3 = sl H.n 16 16 ∧ fr' 4 = .int .i64 i ∧ i ≤ 16 ∧ x = (Tg.Un.tagsL.drop i).any (Tg.Un.rtag r) ∧ H' = H.new ⟨Tg.Un.tagsL.map str, 9, true⟩) (fun i => 16 - i) 0 ⟨by simp, by simp, by simp, Nat.zero_le _, hx, rfl⟩ ?_
    rintro i fr' H' ⟨g0, g3, g4, hi, hc, rfl⟩ ih
    by_cases hlt : i < 16
    · have q := eq_true (show (i : Int) < 16 by omega)
      have hw : IntKind.i64.wrap ((i : Int) + 1) = ((i + 1 : Nat) : Int) := by rw [wrapI (by omega) (by omega)]; omega
      have hlt2 : i < Tg.Un.tagsL.length := hlt
      obtain ⟨k2, o, e1, e2, e3⟩ := hr.at hlt2
      have e4 := e3 _ rfl
      have hal := hl Tg.Un.tagsL[i] (List.getElem_mem hlt2)
      rw [List.drop_eq_getElem_cons hlt2, List.any_cons] at hc
      generalize Tg.Un.tagsL[i] = a at *
      have wn : IntKind.i64.wrap ((a.length : Int) + 1) = ((a.length + 1 : Nat) : Int) := by rw [wrapI (by omega) (by omega)]; omega
      have la := fun H : LH => rlower_cl (H := H) (s := a) (by omega)
      have lr := fun H : LH => rlower_cl (H := H) (s := r.take (a.length + 1)) (by rw [List.length_take]; omega)
      have hgo := fun (fr2 : Fr) (g0 : fr2 0 = str r) (g3 : fr2 3 = sl H.n 16 16) (g4 : fr2 4 = .int .i64 ((i + 1 : Nat) : Int)) (hx2 : Tg.Un.rtag r a = false) => ih (i + 1) fr2 (H.new ⟨Tg.Un.tagsL.map str, 9, true⟩) (by omega) ⟨g0, g3, g4, by omega, by rw [hc, hx2]; rfl, rfl⟩
      clear ih
      have hyl : (Tg.Un.lower a).length ≤ 100 := by simp [Tg.Un.lower]; exact hal
      by_cases c1 : a.length + 1 < r.length
      · have q1 := eq_true (show ((a.length + 1 : Nat) : Int) < (r.length : Int) by omega)
        have q2 := eq_true (show ((a.length + 1 : Nat) : Int) ≤ (r.length : Int) by omega)
        have q3 := eq_true (show (0 : Int) ≤ ((a.length + 1 : Nat) : Int) by omega)
        have hat : at_ r ((a.length + 1 : Nat) : Int) = r[a.length + 1] := at_in c1
        have ht : r.take (((a.length + 1 : Nat) : Int)).toNat = r.take (a.length + 1) := by rw [Int.toNat_natCast]
        have hv : Tg.Un.rtag r a = ((Tg.Un.lower (r.take (a.length + 1)) == 60 :: Tg.Un.lower a) && (decide (r[a.length + 1].toNat = 32) || decide (r[a.length + 1].toNat = 62))) := by
          unfold Tg.Un.rtag
          rw [decide_eq_true c1, Bool.true_and, List.drop_eq_getElem_cons c1]; rfl
        generalize r[a.length + 1] = e at *
        generalize Tg.Un.lower (r.take (a.length + 1)) = X at *
        generalize Tg.Un.lower a = Y at *
        generalize ((a.length + 1 : Nat) : Int) = A at *
        have qc := eq_true (show 1 + Y.length ≤ 9223372036854775807 by omega)
        have qc2 := eq_true (show Y.length + 1 ≤ 9223372036854775807 by omega)
        by_cases c2 : X = 60 :: Y
        · by_cases c3 : e.toNat = 32
          · have p3 := eq_true (show (e.toNat : Int) = 32 by omega)
            have hc2 : x = true := by rw [hc, hv, beq_iff_eq.2 c2, decide_eq_true c3]; rfl
            clear hc hgo
            simp [g0, g3, g4, q, e1, e4, wn, q1, q2, q3, ht, la, lr, qc, qc2, c2, hat, p3, hc2]
          · have p3 := eq_false (show ¬ (e.toNat : Int) = 32 by omega)
            by_cases c4 : e.toNat = 62
            · have p4 := eq_true (show (e.toNat : Int) = 62 by omega)
              have hc2 : x = true := by rw [hc, hv, beq_iff_eq.2 c2, decide_eq_false c3, decide_eq_true c4]; rfl
              clear hc hgo
              simp [g0, g3, g4, q, e1, e4, wn, q1, q2, q3, ht, la, lr, qc, qc2, c2, hat, p3, p4, hc2]
            · have p4 := eq_false (show ¬ (e.toNat : Int) = 62 by omega)
              simp [g0, g3, g4, q, e1, e4, wn, q1, q2, q3, ht, la, lr, qc, qc2, c2, hat, p3, p4]
              refine hgo _ ?_ ?_ ?_ (by rw [hv, beq_iff_eq.2 c2, decide_eq_false c3, decide_eq_false c4]; rfl)
              all_goals simp [g0, g3, hw]
        · simp [g0, g3, g4, q, e1, e4, wn, q1, q2, q3, ht, la, lr, qc, qc2, c2]
          refine hgo _ ?_ ?_ ?_ (by rw [hv, beq_eq_false_iff_ne.2 c2]; rfl)
          all_goals simp [g0, g3, hw]
      · have q1 := eq_false (show ¬ ((a.length + 1 : Nat) : Int) < (r.length : Int) by omega)
        have hv : Tg.Un.rtag r a = false := by unfold Tg.Un.rtag; rw [decide_eq_false c1]; rfl
        generalize ((a.length + 1 : Nat) : Int) = A at *
        simp [g0, g3, g4, q, e1, e4, wn, q1]
        refine hgo _ ?_ ?_ ?_ hv
        all_goals simp [g0, g3, hw]
    · have q := eq_false (show ¬ (i : Int) < 16 by omega)
      have hc : x = false := by rw [hc, List.drop_of_length_le (by show 16 ≤ i; omega)]; rfl
      subst hc
      simp [g0, g3, g4, q]
theorem no_skip : ∀ p ∈ Tg.Un.imageL ++ Tg.Un.mediaL ++ Tg.Un.archL ++ Tg.Un.signsL, p.s.length ≤ 1048576 := by decide
theorem rmedia_cl (hs : s.length ≤ 1000000) : LC Tryz.prog EJ 18 [str s] H = some (str (Tg.Un.film s), H) := by
  refine LC_pure rfl Tryz.func18 rfl (Nat.le_of_ble_eq_true rfl) (by decide) (by kernel_rfl) rfl ?_
  have h1 := fun H : LH => rmedia_l (H := H)
  have h2 := rtype_cl (s := s) (prow_l (H := H) (l := Tg.Un.mediaL) (n := 6) rfl) (by decide) (by omega) (by decide)
  have h3 := fun H : LH => ris16_cl (H := H) (s := s) hs
  have h4 := fun H : LH => ris17_cl (H := H) (s := s) hs
  have h5 := fun H : LH => ris18_cl (H := H) (s := s) (by omega)
  have ef : Tg.Un.film s = if Tg.Un.typeOf s Tg.Un.mediaL = [] then (if Tg.Un.mp4 s = true then Tg.Un.vmp4 else if Tg.Un.webm s = true then Tg.Un.vwebm else if Tg.Un.mp3 s = true then Tg.Un.ampeg else []) else Tg.Un.typeOf s Tg.Un.mediaL := by
    unfold Tg.Un.film
    cases Tg.Un.mp4 s <;> cases Tg.Un.webm s <;> cases Tg.Un.mp3 s <;> simp [Tg.Un.orS, Tg.Un.vmp4, Tg.Un.vwebm, Tg.Un.ampeg]
  rw [ef]
  generalize Tg.Un.typeOf s Tg.Un.mediaL = T at *
  by_cases hT : T = []
  · subst hT
    rw [if_pos rfl]
    cases a1 : Tg.Un.mp4 s with
    | true => rw [a1] at h3; simp [h1, h2, h3, Tg.Un.vmp4]
    | false =>
      rw [a1] at h3
      cases a2 : Tg.Un.webm s with
      | true => rw [a2] at h4; simp [h1, h2, h3, h4, Tg.Un.vwebm]
      | false =>
        rw [a2] at h4
        cases a3 : Tg.Un.mp3 s with
        | true => rw [a3] at h5; simp [h1, h2, h3, h4, h5, Tg.Un.ampeg]
        | false => rw [a3] at h5; simp [h1, h2, h3, h4, h5]
  · rw [if_neg hT]
    simp [h1, h2, hT]
theorem rtype20_cl {b : Bool} : LC Tryz.prog EJ 15 [str s, .bool b] H = some (str (Tg.Un.type s b), H) := by
  refine LC_pure rfl Tryz.func15 rfl (Nat.le_of_ble_eq_true rfl) (by decide) (by kernel_rfl) rfl ?_
  have h0 := fun H : LH => rcut19_cl (H := H) (s := s)
  unfold Tg.Un.type
  have hl : (s.take 1445).length ≤ 1445 := by rw [List.length_take]; omega
  generalize s.take 1445 = u at *
  have h1 := fun H : LH => rhtml_cl (H := H) (s := u) (by omega)
  have h2 := fun H : LH => rxml_cl (H := H) (s := u) (by omega)
  have h3 : ∀ H : LH, LC Tryz.prog EJ 59 [str u, str [37, 80, 68, 70, 45]] H = some (.bool (Tg.Un.pdf u), H) := fun H => rprefix_cl
  have t1 := fun H : LH => rsigns_l (H := H)
  have t2 := fun H : LH => rimage_l (H := H)
  have t3 := fun H : LH => rmedia_cl (H := H) (s := u) (by omega)
  have t4 := fun H : LH => rarch_l (H := H)
  have y1 := fun H : LH => rtype_cl (s := u) (prow_l (H := H) (l := Tg.Un.signsL) (n := 4) rfl) (by decide) (by omega) (by decide)
  have y2 := fun H : LH => rtype_cl (s := u) (prow_l (H := H) (l := Tg.Un.imageL) (n := 8) rfl) (by decide) (by omega) (by decide)
  have y4 := fun H : LH => rtype_cl (s := u) (prow_l (H := H) (l := Tg.Un.archL) (n := 3) rfl) (by decide) (by omega) (by decide)
  have h5 := fun H : LH => rfirst19_cl (H := H) (s := u) (by omega)
  refine runs_cut 5 (fun fr' H' => fr' 0 = str u ∧ H' = H ∧ Tg.Un.kind u b = Tg.Un.rest_ u) ?_ (fun K hK => ?_) rfl
  · rintro fr' H' ⟨g0, rfl, hk⟩
    rw [hk]
    have e1 : Tg.Un.rest_ u = if Tg.Un.orS [Tg.Un.typeOf u Tg.Un.signsL, Tg.Un.typeOf u Tg.Un.imageL, Tg.Un.film u, Tg.Un.typeOf u Tg.Un.archL] = [] then (if Tg.Un.seek u 0 < 0 then [116, 101, 120, 116, 47, 112, 108, 97, 105, 110] else [97, 112, 112, 108, 105, 99, 97, 116, 105, 111, 110, 47, 111, 99, 116, 101, 116, 45, 115, 116, 114, 101, 97, 109]) else Tg.Un.orS [Tg.Un.typeOf u Tg.Un.signsL, Tg.Un.typeOf u Tg.Un.imageL, Tg.Un.film u, Tg.Un.typeOf u Tg.Un.archL] := by
      unfold Tg.Un.rest_ Tg.Un.binary
      generalize Tg.Un.typeOf u Tg.Un.signsL = x1
      generalize Tg.Un.typeOf u Tg.Un.imageL = x2
      generalize Tg.Un.film u = x3
      generalize Tg.Un.typeOf u Tg.Un.archL = x4
      by_cases hs : Tg.Un.seek u 0 < 0
      · rw [if_pos hs, decide_eq_false (by omega)]
        simp only [Tg.Un.orS]
        by_cases z1 : x1 = [] <;> by_cases z2 : x2 = [] <;> by_cases z3 : x3 = [] <;> by_cases z4 : x4 = [] <;> simp [z1, z2, z3, z4, Tg.Un.plainT]
      · rw [if_neg hs, decide_eq_true (by omega)]
        simp only [Tg.Un.orS]
        by_cases z1 : x1 = [] <;> by_cases z2 : x2 = [] <;> by_cases z3 : x3 = [] <;> by_cases z4 : x4 = [] <;> simp [z1, z2, z3, z4, Tg.Un.streamT]
    rw [e1]
    clear e1 hk h1 h2 h3
    have y1' := y1 H'
    have y2' := y2 (H'.new ⟨Tg.Un.pcells Tg.Un.signsL, 66, true⟩)
    have t2' := t2 (H'.new ⟨Tg.Un.pcells Tg.Un.signsL, 66, true⟩)
    have y4' := y4 ((H'.new ⟨Tg.Un.pcells Tg.Un.signsL, 66, true⟩).new ⟨Tg.Un.pcells Tg.Un.imageL, 66, true⟩)
    have t4' := t4 ((H'.new ⟨Tg.Un.pcells Tg.Un.signsL, 66, true⟩).new ⟨Tg.Un.pcells Tg.Un.imageL, 66, true⟩)
    simp only [n_new] at y2' t2' y4' t4'
    generalize Tg.Un.typeOf u Tg.Un.signsL = x1 at *
    generalize Tg.Un.typeOf u Tg.Un.imageL = x2 at *
    generalize Tg.Un.film u = x3 at *
    generalize Tg.Un.typeOf u Tg.Un.archL = x4 at *
    obtain ⟨l, hl⟩ : ∃ l, l = [x1, x2, x3, x4] := ⟨_, rfl⟩
    obtain ⟨H4, hH4⟩ : ∃ H4, H4 = (((H'.new ⟨Tg.Un.pcells Tg.Un.signsL, 66, true⟩).new ⟨Tg.Un.pcells Tg.Un.imageL, 66, true⟩).new ⟨Tg.Un.pcells Tg.Un.archL, 66, true⟩).new ⟨[str x1, str x2, str x3, str x4], 9, true⟩ := ⟨_, rfl⟩
    have hsr : SRow H4 (sl (H'.n + 1 + 1 + 1) 4 4) l := by
      rw [hH4, hl]
      exact SRow.of (xs := [x1, x2, x3, x4]) (k := (((H'.new ⟨Tg.Un.pcells Tg.Un.signsL, 66, true⟩).new ⟨Tg.Un.pcells Tg.Un.imageL, 66, true⟩).new ⟨Tg.Un.pcells Tg.Un.archL, 66, true⟩).n) (c := 4) (rest := []) (by rw [get_new]; rfl) (Nat.lt_succ_self _)
    have hll : l.length = 4 := by rw [hl]; rfl
    have hle4 : H'.le H4 := by rw [hH4]; exact le_refl.new.new.new.new
    simp [g0, t1, y1', t2', y2', t3, t4', y4', bsS, denseB]
    rw [← hH4, ← hl]
    obtain ⟨x, hx⟩ : ∃ x, x = Tg.Un.orS l := ⟨_, rfl⟩
    rw [← hx]
    obtain ⟨R0, hR0⟩ : ∃ R0, R0 = sl (H'.n + 1 + 1 + 1) 4 4 := ⟨_, rfl⟩
    rw [← hR0] at hsr
    refine loop_ind (fun (i : Nat) fr2 H2 => fr2 0 = str u ∧ fr2 5 = R0 ∧ fr2 6 = .int .i64 i ∧ i ≤ 4 ∧ x = Tg.Un.orS (l.drop i) ∧ H2 = H4) (fun i => 4 - i) 0 ⟨by simp [g0], by simp [hR0], by simp, Nat.zero_le _, hx, rfl⟩ ?_
    rintro i fr2 H2 ⟨f0, f5, f6, hi, hc, rfl⟩ ih
    have hlenR := fun H : LH => hsr.len (H' := H)
    rw [hll] at hlenR
    by_cases hlt : i < 4
    · have q := eq_true (show (i : Int) < 4 by omega)
      have hw : IntKind.i64.wrap ((i : Int) + 1) = ((i + 1 : Nat) : Int) := by rw [wrapI (by omega) (by omega)]; omega
      have hlt2 : i < l.length := by omega
      obtain ⟨k2, o, e1, e2, e3⟩ := hsr.at hlt2
      have e4 := e3 _ rfl
      rw [List.drop_eq_getElem_cons hlt2] at hc
      generalize l[i] = a at *
      unfold Tg.Un.orS at hc
      by_cases ha : a = []
      · rw [if_pos ha] at hc
        subst ha
        simp [f0, f5, f6, q, hlt, hlenR, e1, e4]
        refine ih (i + 1) _ _ (by omega) ⟨?_, ?_, ?_, by omega, hc, rfl⟩
        all_goals simp [f0, f5, hw]
      · rw [if_neg ha] at hc
        subst hc
        rw [if_neg ha]
        simp [f0, f5, f6, q, hlt, hlenR, e1, e4, ha]
        exact hle4
    · have q := eq_false (show ¬ (i : Int) < 4 by omega)
      have hc : x = [] := by rw [hc, List.drop_of_length_le (by omega)]; rfl
      rw [if_pos hc]
      by_cases hs : Tg.Un.seek u 0 < 0
      · rw [if_pos hs]
        simp [f0, f5, f6, q, hlt, hlenR, h5, hs]
        exact hle4
      · rw [if_neg hs]
        have hs2 := eq_false hs
        simp [f0, f5, f6, q, hlt, hlenR, h5, hs2]
        exact hle4
  · cases b with
    | false =>
      have e : Tg.Un.kind u false = Tg.Un.rest_ u := by unfold Tg.Un.kind; rw [if_neg (by simp)]
      simp [h0]
      exact hK _ _ ⟨by simp, rfl, e⟩
    | true =>
      have e : Tg.Un.kind u true = if Tg.Un.html u = true then [116, 101, 120, 116, 47, 104, 116, 109, 108] else if Tg.Un.xml u = true then [116, 101, 120, 116, 47, 120, 109, 108] else if Tg.Un.pdf u = true then [97, 112, 112, 108, 105, 99, 97, 116, 105, 111, 110, 47, 112, 100, 102] else Tg.Un.rest_ u := by
        unfold Tg.Un.kind
        cases Tg.Un.html u <;> cases Tg.Un.xml u <;> cases Tg.Un.pdf u <;> simp [Tg.Un.orS, Tg.Un.htmlT, Tg.Un.xmlT, Tg.Un.pdfT]
      rw [e]
      cases a1 : Tg.Un.html u with
      | true => rw [a1] at h1; simp [h0, h1]
      | false =>
        rw [a1] at h1
        cases a2 : Tg.Un.xml u with
        | true => rw [a2] at h2; simp [h0, h1, h2]
        | false =>
          rw [a2] at h2
          cases a3 : Tg.Un.pdf u with
          | true => rw [a3] at h3; simp [h0, h1, h2, h3]
          | false =>
            rw [a3] at h3
            rw [a1, a2, a3] at e
            simp only [Bool.false_eq_true, if_false] at e ⊢
            rw [← e]
            simp [h0, h1, h2, h3]
            exact hK _ _ ⟨by simp, rfl, e⟩
end
end Go.Proofs.YtombmblgmbjieaaGreatDoor
/-
  Layer 21 (sniff): which texts a server may err of; pictures.
-/
set_option linter.unusedSimpArgs false
set_option linter.unusedVariables false
set_option maxRecDepth 100000
namespace Tg.Sn
def plainT : List UInt8 := [116, 101, 120, 116, 47, 112, 108, 97, 105, 110]
def setT : List UInt8 := [116, 101, 120, 116, 47, 112, 108, 97, 105, 110, 59, 32, 99, 104, 97, 114, 115, 101, 116, 61]
def setsL : List (List UInt8) := [[73, 83, 79, 45, 56, 56, 53, 57, 45, 49], [105, 115, 111, 45, 56, 56, 53, 57, 45, 49], [85, 84, 70, 45, 56]]
def bug (s : List UInt8) : Bool := decide (s = plainT) || setsL.any fun t => decide (s = setT ++ t)
end Tg.Sn
namespace Go.Proofs.YtombmblgmbjieaaGreatDoor
open Go.Lg Go.Tg
section
variable {H : LH} {s : List UInt8}
theorem rbug_cl : LC Tryz.prog EJ 41 [str s] H = some (.bool (Tg.Sn.bug s), H) := by
  refine LC_pure rfl Tryz.func41 rfl (Nat.le_of_ble_eq_true rfl) (by decide) (by kernel_rfl) rfl ?_
  have e : Tg.Sn.bug s = (decide (s = [116, 101, 120, 116, 47, 112, 108, 97, 105, 110]) || (decide (s = [116, 101, 120, 116, 47, 112, 108, 97, 105, 110, 59, 32, 99, 104, 97, 114, 115, 101, 116, 61, 73, 83, 79, 45, 56, 56, 53, 57, 45, 49]) || (decide (s = [116, 101, 120, 116, 47, 112, 108, 97, 105, 110, 59, 32, 99, 104, 97, 114, 115, 101, 116, 61, 105, 115, 111, 45, 56, 56, 53, 57, 45, 49]) || (decide (s = [116, 101, 120, 116, 47, 112, 108, 97, 105, 110, 59, 32, 99, 104, 97, 114, 115, 101, 116, 61, 85, 84, 70, 45, 56]) || false)))) := rfl
  rw [e, Bool.or_false]
  by_cases h1 : s = [116, 101, 120, 116, 47, 112, 108, 97, 105, 110]
  · simp [h1]
  · by_cases h2 : s = [116, 101, 120, 116, 47, 112, 108, 97, 105, 110, 59, 32, 99, 104, 97, 114, 115, 101, 116, 61, 73, 83, 79, 45, 56, 56, 53, 57, 45, 49]
    · simp [h2]
    · by_cases h3 : s = [116, 101, 120, 116, 47, 112, 108, 97, 105, 110, 59, 32, 99, 104, 97, 114, 115, 101, 116, 61, 105, 115, 111, 45, 56, 56, 53, 57, 45, 49]
      · simp [h3]
      · simp [h1, h2, h3]
theorem bug_cl : LC Tryz.prog EJ 40 [str s] H = some (.bool (Tg.Sn.bug s), H) := by
  refine LC_pure rfl Tryz.func40 rfl (Nat.le_of_ble_eq_true rfl) (by decide) (by kernel_rfl) rfl ?_
  unfold Tg.Sn.bug
  by_cases h0 : s = [116, 101, 120, 116, 47, 112, 108, 97, 105, 110]
  · have e : decide (s = Tg.Sn.plainT) = true := decide_eq_true h0
    rw [e, Bool.true_or]
    simp [h0]
  · have e : decide (s = Tg.Sn.plainT) = false := decide_eq_false h0
    rw [e, Bool.false_or]
    obtain ⟨x, hx⟩ : ∃ x, x = Tg.Sn.setsL.any fun t => decide (s = Tg.Sn.setT ++ t) := ⟨_, rfl⟩
    rw [← hx]
    have hr : SRow (H.new ⟨Tg.Sn.setsL.map str, 9, true⟩) (sl H.n 3 3) Tg.Sn.setsL := SRow.of (k := H.n) (c := 3) (rest := []) (by rw [get_new, List.append_nil]) (Nat.lt_succ_self _)
    have hl : ∀ x ∈ Tg.Sn.setsL, x.length ≤ 100 := by decide
    have hm : Tg.Sn.setsL.map str = [str [73, 83, 79, 45, 56, 56, 53, 57, 45, 49], str [105, 115, 111, 45, 56, 56, 53, 57, 45, 49], str [85, 84, 70, 45, 56]] := rfl
    rw [hm] at hr
    simp [h0, bsS, denseB]
    refine loop_ind (fun (i : Nat) fr' H' => fr' 0 = str s ∧ fr' 7 = sl H.n 3 3 ∧ fr' 8 = .int .i64 3 ∧ fr' 9 = .int .i64 i ∧ i ≤ 3 ∧ x = ((Tg.Sn.setsL.drop i).any fun t => decide (s = Tg.Sn.setT ++ t)) ∧ H' = H.new ⟨[str [73, 83, 79, 45, 56, 56, 53, 57, 45, 49], str [105, 115, 111, 45, 56, 56, 53, 57, 45, 49], str [85, 84, 70, 45, 56]], 9, true⟩) (fun i => 3 - i) 0 ⟨by simp, by simp, by simp, by simp, Nat.zero_le _, hx, rfl⟩ ?_
    rintro i fr' H' ⟨g0, g7, g8, g9, hi, hc, rfl⟩ ih
    by_cases hlt : i < 3
    · have q := eq_true (show (i : Int) < 3 by omega)
      have hw : IntKind.i64.wrap ((i : Int) + 1) = ((i + 1 : Nat) : Int) := by rw [wrapI (by omega) (by omega)]; omega
      have hlt2 : i < Tg.Sn.setsL.length := hlt
      obtain ⟨k2, o, e1, e2, e3⟩ := hr.at hlt2
      have e4 := e3 _ rfl
      have hal := hl Tg.Sn.setsL[i] (List.getElem_mem hlt2)
      rw [List.drop_eq_getElem_cons hlt2, List.any_cons] at hc
      generalize Tg.Sn.setsL[i] = a at *
      have ha : Tg.Sn.setT ++ a = [116, 101, 120, 116, 47, 112, 108, 97, 105, 110, 59, 32, 99, 104, 97, 114, 115, 101, 116, 61] ++ a := rfl
      rw [ha] at hc
      have q1 := eq_true (show 20 + a.length ≤ 9223372036854775807 by omega)
      by_cases c1 : s = [116, 101, 120, 116, 47, 112, 108, 97, 105, 110, 59, 32, 99, 104, 97, 114, 115, 101, 116, 61] ++ a
      · have hc : x = true := by rw [hc, decide_eq_true c1]; rfl
        have c2 := eq_true c1
        simp at c2
        clear ih
        subst hc
        simp [g0, g7, g8, g9, q, e1, e4, q1, c2]
      · have hc : x = (Tg.Sn.setsL.drop (i + 1)).any fun t => decide (s = Tg.Sn.setT ++ t) := by rw [hc, decide_eq_false c1]; rfl
        have c2 := eq_false c1
        simp at c2
        simp [g0, g7, g8, g9, q, e1, e4, q1, c2]
        refine ih (i + 1) _ _ (by omega) ⟨?_, ?_, ?_, ?_, by omega, hc, rfl⟩
        all_goals simp [g0, g7, g8, hw]
    · have q := eq_false (show ¬ (i : Int) < 3 by omega)
      have hc : x = false := by rw [hc, List.drop_of_length_le (by show 3 ≤ i; omega)]; rfl
      subst hc
      simp [g0, g7, g8, g9, q]
theorem picture_cl : LC Tryz.prog EJ 85 [str s] H = some (str (Tg.Un.typeOf (s.take 1445) Tg.Un.imageL), H) := by
  refine LC_pure rfl Tryz.func85 rfl (Nat.le_of_ble_eq_true rfl) (by decide) (by kernel_rfl) rfl ?_
  have h1 := fun H : LH => bcut_cl (H := H) (s := s)
  have h2 := fun H : LH => itype_cl (H := H) (s := s.take 1445) (by rw [List.length_take]; omega)
  generalize s.take 1445 = u at *
  simp [h1, h2]
theorem simage_cl : LC Tryz.prog EJ 42 [str s] H = some (str (Tg.Un.typeOf (s.take 1445) Tg.Un.imageL), H) := by
  refine LC_pure rfl Tryz.func42 rfl (Nat.le_of_ble_eq_true rfl) (by decide) (by kernel_rfl) rfl ?_
  have h1 := fun H : LH => picture_cl (H := H) (s := s)
  simp [h1]
theorem rimage21_cl : LC Tryz.prog EJ 43 [str s] H = some (str (Tg.Un.typeOf (s.take 1445) Tg.Un.imageL), H) := by
  refine LC_pure rfl Tryz.func43 rfl (Nat.le_of_ble_eq_true rfl) (by decide) (by kernel_rfl) rfl ?_
  have h1 := fun H : LH => rcut19_cl (H := H) (s := s)
  have h2 := fun H : LH => rimage_l (H := H)
  have hl : (s.take 1445).length ≤ 1048576 := by rw [List.length_take]; omega
  generalize s.take 1445 = u at *
  have h3 := rtype_cl (s := u) (prow_l (H := H) (l := Tg.Un.imageL) (n := 8) rfl) (by decide) hl (by decide)
  simp [h1, h2, h3]
theorem rmedia21_cl : LC Tryz.prog EJ 45 [str s] H = some (str (Tg.Un.film (s.take 1445)), H) := by
  refine LC_pure rfl Tryz.func45 rfl (Nat.le_of_ble_eq_true rfl) (by decide) (by kernel_rfl) rfl ?_
  have h1 := fun H : LH => rcut19_cl (H := H) (s := s)
  have h2 := fun H : LH => rmedia_cl (H := H) (s := s.take 1445) (by rw [List.length_take]; omega)
  generalize s.take 1445 = u at *
  simp [h1, h2]
end
end Go.Proofs.YtombmblgmbjieaaGreatDoor
/-
  Layer 21 (sniff): groups of types, and a living picture.
-/
set_option linter.unusedSimpArgs false
set_option linter.unusedVariables false
set_option maxRecDepth 100000
namespace Go.Proofs.YtombmblgmbjieaaGreatDoor
open Go.Lg Go.Tg
abbrev mv (a b : List UInt8) : Value := .agg #[str a, str b, .slice none 0 0]
abbrev sv (a b : List UInt8) (h n g : Bool) : Value := .agg #[str a, str b, .slice none 0 0, .bool h, .bool n, .bool g]
section
variable {H : LH} {s t : List UInt8}
theorem ess_cl (h : s.length + t.length ≤ 1000000) : LC Tryz.prog EJ 81 [mv s t] H = some (str (s ++ 47 :: t), H) := by
  have h1 : ∀ H : LH, LC Tryz.prog EJ 124 [mv s t] H = some (str (s ++ 47 :: t), H) := fun H => by
    refine LC_pure rfl Tryz.func124 rfl (Nat.le_of_ble_eq_true rfl) (by decide) (by kernel_rfl) rfl ?_
    have q1 := eq_true (show s.length + 1 ≤ 9223372036854775807 by omega)
    have q2 := eq_true (show s.length + 1 + t.length ≤ 9223372036854775807 by omega)
    simp [q1, q2]
  refine LC_pure rfl Tryz.func81 rfl (Nat.le_of_ble_eq_true rfl) (by decide) (by kernel_rfl) rfl ?_
  simp [h1]
theorem under_no {k u : List UInt8} (h : s ≠ k) : LC Tryz.prog EJ 160 [mv s t, str k, str u] H = some (.bool false, H) := by
  refine LC_pure rfl Tryz.func160 rfl (Nat.le_of_ble_eq_true rfl) (by decide) (by kernel_rfl) rfl ?_
  have q := eq_false h
  simp [q]
theorem ghtml_no (h : s ≠ [116, 101, 120, 116]) : LC Tryz.prog EJ 119 [mv s t] H = some (.bool false, H) := by
  refine LC_pure rfl Tryz.func119 rfl (Nat.le_of_ble_eq_true rfl) (by decide) (by kernel_rfl) rfl ?_
  have h1 := fun (H : LH) (u : List UInt8) => under_no (H := H) (t := t) (u := u) h
  simp [h1]
theorem gimage_cl : LC Tryz.prog EJ 122 [mv s t] H = some (.bool (decide (s = [105, 109, 97, 103, 101])), H) := by
  refine LC_pure rfl Tryz.func122 rfl (Nat.le_of_ble_eq_true rfl) (by decide) (by kernel_rfl) rfl ?_
  simp
theorem gmedia_no (h1 : s ≠ [97, 117, 100, 105, 111]) (h2 : s ≠ [118, 105, 100, 101, 111]) (h3 : s ≠ [97, 112, 112, 108, 105, 99, 97, 116, 105, 111, 110]) : LC Tryz.prog EJ 163 [mv s t] H = some (.bool false, H) := by
  refine LC_pure rfl Tryz.func163 rfl (Nat.le_of_ble_eq_true rfl) (by decide) (by kernel_rfl) rfl ?_
  have h4 := fun (H : LH) (u : List UInt8) => under_no (H := H) (t := t) (u := u) h3
  simp [h1, h2, h4]
theorem suffix_no {p q : List UInt8} (h : p.length < q.length) : LC Tryz.prog EJ 161 [str p, str q] H = some (.bool false, H) := by
  refine LC_pure rfl Tryz.func161 rfl (Nat.le_of_ble_eq_true rfl) (by decide) (by kernel_rfl) rfl ?_
  have h1 : ∀ H : LH, LC Tryz.prog EJ 203 [str p, str q] H = some (.bool false, H) := fun H => by
    refine LC_pure rfl Tryz.func203 rfl (Nat.le_of_ble_eq_true rfl) (by decide) (by kernel_rfl) rfl ?_
    have q := eq_false (show ¬ (q.length : Int) ≤ (p.length : Int) by omega)
    simp [q]
  simp [h1]
theorem gxml_no (h : s ≠ [116, 101, 120, 116]) (h2 : s ≠ [97, 112, 112, 108, 105, 99, 97, 116, 105, 111, 110]) (h3 : t.length < 4) : LC Tryz.prog EJ 120 [mv s t] H = some (.bool false, H) := by
  refine LC_pure rfl Tryz.func120 rfl (Nat.le_of_ble_eq_true rfl) (by decide) (by kernel_rfl) rfl ?_
  have h4 := fun (H : LH) (u : List UInt8) => under_no (H := H) (t := t) (u := u) h
  have h5 := fun (H : LH) (u : List UInt8) => under_no (H := H) (t := t) (u := u) h2
  have h6 := fun H : LH => suffix_no (H := H) (p := t) (q := [43, 120, 109, 108]) h3
  simp [h4, h5, h6]
theorem mediaOr_no {h n g : Bool} {u own : List UInt8} (h1 : s ≠ [97, 117, 100, 105, 111]) (h2 : s ≠ [118, 105, 100, 101, 111]) (h3 : s ≠ [97, 112, 112, 108, 105, 99, 97, 116, 105, 111, 110]) : LC Tryz.prog EJ 123 [sv s t h n g, str u, str own] H = some (str own, H) := by
  refine LC_pure rfl Tryz.func123 rfl (Nat.le_of_ble_eq_true rfl) (by decide) (by kernel_rfl) rfl ?_
  have h4 := fun (H : LH) => gmedia_no (H := H) (t := t) h1 h2 h3
  simp [h4]
abbrev imT : List UInt8 := [105, 109, 97, 103, 101]
abbrev pngT : List UInt8 := [112, 110, 103]
theorem contS_cl {v : Value} {xs : List (List UInt8)} {x : List UInt8} (hr : SRow H v xs) (hl : xs.length ≤ 1000) : LC Tryz.prog EJ 125 [v, str x] H = some (.bool (decide (x ∈ xs)), H) := by
  have hix : ∃ i : Int, LC Tryz.prog EJ 164 [v, str x] H = some (.int .i64 i, H) ∧ (0 ≤ i ↔ x ∈ xs) := by
    obtain ⟨i, hi⟩ : ∃ i : Int, i = Tg.Un.idx (fun y => decide (x = y)) xs 0 := ⟨_, rfl⟩
    refine ⟨i, ?_, ?_⟩
    · refine LC_pure rfl Tryz.func164 rfl (Nat.le_of_ble_eq_true rfl) (by decide) (by kernel_rfl) rfl ?_
      simp [hr.len]
      refine loop_ind (fun (j : Nat) fr' H' => fr' 0 = v ∧ fr' 1 = str x ∧ fr' 7 = .int .i64 xs.length ∧ fr' 8 = .int .i64 j ∧ j ≤ xs.length ∧ i = Tg.Un.idx (fun y => decide (x = y)) (xs.drop j) j ∧ H' = H) (fun j => xs.length - j) 0 ⟨by simp, by simp, by simp, by simp, Nat.zero_le _, hi, rfl⟩ ?_
      rintro j fr' H' ⟨h0, h1, h7, h8, hj, hc, rfl⟩ ih
      by_cases hlt : j < xs.length
      · have q := eq_true (show (j : Int) < (xs.length : Int) by omega)
        have hw : IntKind.i64.wrap ((j : Int) + 1) = ((j + 1 : Nat) : Int) := by rw [wrapI (by omega) (by omega)]; omega
        obtain ⟨k2, o, g1, g2, g3⟩ := hr.at hlt
        have g4 := g3 H' rfl
        rw [List.drop_eq_getElem_cons hlt] at hc
        generalize xs[j] = a at *
        unfold Tg.Un.idx at hc
        by_cases hf : x = a
        · rw [if_pos (decide_eq_true hf)] at hc
          subst hc
          simp [h0, h1, h7, h8, q, g1, g4, hf]
        · rw [if_neg (by simp [hf])] at hc
          simp [h0, h1, h7, h8, q, g1, g4, hf]
          refine ih (j + 1) _ _ (by omega) ⟨?_, ?_, ?_, ?_, by omega, hc, rfl⟩
          all_goals simp [h0, h1, h7, hw]
      · have q := eq_false (show ¬ (j : Int) < (xs.length : Int) by omega)
        rw [List.drop_of_length_le (by omega)] at hc
        have hc : i = -1 := hc
        subst hc
        simp [h0, h1, h7, h8, q]
    · have := Tg.Un.idx_any (fun y => decide (x = y)) xs 0
      rw [← hi] at this
      constructor
      · intro h
        rw [decide_eq_true h] at this
        obtain ⟨y, hy, e⟩ := List.any_eq_true.1 this.symm
        rw [of_decide_eq_true e]; exact hy
      · intro h
        have h2 : xs.any (fun y => decide (x = y)) = true := List.any_eq_true.2 ⟨x, h, by simp⟩
        rw [h2] at this
        exact of_decide_eq_true this
  obtain ⟨i, h1, h2⟩ := hix
  refine LC_pure rfl Tryz.func125 rfl (Nat.le_of_ble_eq_true rfl) (by decide) (by kernel_rfl) rfl ?_
  by_cases h : x ∈ xs
  · have q := eq_true (h2.2 h)
    simp [h1, q, h]
  · have q := eq_false (fun e => h (h2.1 e))
    simp [h1, q, h]
def opensL : List (List UInt8) := [[117, 110, 107, 110, 111, 119, 110, 47, 117, 110, 107, 110, 111, 119, 110], [97, 112, 112, 108, 105, 99, 97, 116, 105, 111, 110, 47, 117, 110, 107, 110, 111, 119, 110], [42, 47, 42]]
def opens (s t : List UInt8) (h : Bool) : Bool := !h || decide (s ++ 47 :: t ∈ opensL)
theorem open_cl {h n g : Bool} (hl : s.length + t.length ≤ 1000000) : LC Tryz.prog EJ 82 [sv s t h n g] H = some (.bool (opens s t h), H) := by
  refine LC_pure rfl Tryz.func82 rfl (Nat.le_of_ble_eq_true rfl) (by decide) (by kernel_rfl) rfl ?_
  have h1 := fun H : LH => ess_cl (H := H) hl
  unfold opens
  cases h with
  | false => simp
  | true =>
    have h2 := fun H2 : LH => contS_cl (H := H2.new ⟨opensL.map str, 9, true⟩) (v := sl H2.n 3 3) (xs := opensL) (x := s ++ 47 :: t) (SRow.of (k := H2.n) (c := 3) (rest := []) (by rw [get_new, List.append_nil]) (Nat.lt_succ_self _)) (by decide)
    have hm : opensL.map str = [str [117, 110, 107, 110, 111, 119, 110, 47, 117, 110, 107, 110, 111, 119, 110], str [97, 112, 112, 108, 105, 99, 97, 116, 105, 111, 110, 47, 117, 110, 107, 110, 111, 119, 110], str [42, 47, 42]] := rfl
    have h3 := h2 (H.new ⟨[str s, str t, .slice none 0 0, .bool true, .bool n, .bool g], 38, true⟩)
    rw [hm] at h3
    simp only [n_new] at h3
    generalize decide (s ++ 47 :: t ∈ opensL) = b at *
    generalize s ++ 47 :: t = e at *
    simp [h1, bsS, denseB, h3]
end
end Go.Proofs.YtombmblgmbjieaaGreatDoor
/-
  Layer 21 (sniff): a living picture; the law of its parts.
-/
set_option linter.unusedSimpArgs false
set_option linter.unusedVariables false
set_option maxRecDepth 100000
namespace Go.Proofs.YtombmblgmbjieaaGreatDoor
open Go.Lg Go.Tg
section
variable {H : LH} {u : List UInt8}
theorem skind_im : LC Tryz.prog EJ 80 [sv [105, 109, 97, 103, 101] [112, 110, 103] true false false, str u] H = some (str (Tg.Un.orS [Tg.Un.typeOf (u.take 1445) Tg.Un.imageL, [105, 109, 97, 103, 101, 47, 112, 110, 103]]), H) := by
  refine LC_pure rfl Tryz.func80 rfl (Nat.le_of_ble_eq_true rfl) (by decide) (by kernel_rfl) rfl ?_
  have h1 := fun H : LH => ess_cl (H := H) (s := [105, 109, 97, 103, 101]) (t := [112, 110, 103]) (by decide)
  have h2 := fun H : LH => open_cl (H := H) (s := [105, 109, 97, 103, 101]) (t := [112, 110, 103]) (h := true) (n := false) (g := false) (by decide)
  rw [show opens [105, 109, 97, 103, 101] [112, 110, 103] true = false by decide] at h2
  have h3 := fun H : LH => ghtml_no (H := H) (s := [105, 109, 97, 103, 101]) (t := [112, 110, 103]) (by decide)
  have h4 := fun H : LH => gxml_no (H := H) (s := [105, 109, 97, 103, 101]) (t := [112, 110, 103]) (by decide) (by decide) (by decide)
  have h5 := fun H : LH => gimage_cl (H := H) (s := [105, 109, 97, 103, 101]) (t := [112, 110, 103])
  have h6 := fun (H : LH) (own : List UInt8) => mediaOr_no (H := H) (s := [105, 109, 97, 103, 101]) (t := [112, 110, 103]) (h := true) (n := false) (g := false) (u := u) (own := own) (by decide) (by decide) (by decide)
  have h7 := fun H : LH => picture_cl (H := H) (s := u)
  generalize Tg.Un.typeOf (u.take 1445) Tg.Un.imageL = x at *
  have h8 := fun H : LH => or_at (H := H) (n := 2) (xs := [x, [105, 109, 97, 103, 101, 47, 112, 110, 103]]) rfl (by decide)
  simp only [List.map_cons, List.map_nil] at h8
  have h9 := h8 (H.new ⟨[str [105, 109, 97, 103, 101], str [112, 110, 103], .slice none 0 0, .bool true, .bool false, .bool false], 38, true⟩)
  simp only [n_new] at h9
  generalize Tg.Un.orS [x, [105, 109, 97, 103, 101, 47, 112, 110, 103]] = r at *
  clear h8
  simp [h1, h2, h3, h4, h5, h6, h7, bsS, denseB, h9]
theorem stype_im : LC Tryz.prog EJ 32 [sv [105, 109, 97, 103, 101] [112, 110, 103] true false false, str u] H = some (str (Tg.Un.orS [Tg.Un.typeOf (u.take 1445) Tg.Un.imageL, [105, 109, 97, 103, 101, 47, 112, 110, 103]]), H) := by
  refine LC_pure rfl Tryz.func32 rfl (Nat.le_of_ble_eq_true rfl) (by decide) (by kernel_rfl) rfl ?_
  have h1 := fun H : LH => skind_im (H := H) (u := u)
  generalize Tg.Un.orS _ = r at *
  simp [h1]
theorem sagrees_im : LC Tryz.prog EJ 33 [sv [105, 109, 97, 103, 101] [112, 110, 103] true false false, str u] H = some (.bool (decide (Tg.Un.orS [Tg.Un.typeOf (u.take 1445) Tg.Un.imageL, [105, 109, 97, 103, 101, 47, 112, 110, 103]] = [105, 109, 97, 103, 101, 47, 112, 110, 103])), H) := by
  refine LC_pure rfl Tryz.func33 rfl (Nat.le_of_ble_eq_true rfl) (by decide) (by kernel_rfl) rfl ?_
  have h1 := fun H : LH => skind_im (H := H) (u := u)
  have h2 := fun H : LH => ess_cl (H := H) (s := [105, 109, 97, 103, 101]) (t := [112, 110, 103]) (by decide)
  generalize Tg.Un.orS _ = r at *
  simp [h1, h2]
theorem lfill_m2 {a b : List UInt8} : lfill Tryz.prog 36 [str [], str [], .slice none 0 0] [(0, str a), (1, str b)] = some [str a, str b, .slice none 0 0] := by
  rw [lfill_cell (o := 0) (n := 1) (g := false) (by simp) rfl (by simp) (by simp), lfill_cell (o := 1) (n := 1) (g := false) (by simp) rfl (by simp) (by simp)]
  simp
theorem lfill_s2 {a b : List UInt8} : lfill Tryz.prog 38 [str [], str [], .slice none 0 0, .bool false, .bool false, .bool false] [(0, mv a b), (1, .bool true)] = some [str a, str b, .slice none 0 0, .bool true, .bool false, .bool false] := by
  rw [lfill_agg (o := 0) (n := 3) (g := true) (by simp) rfl (by simp)]
  show lfill _ _ [str a, str b, .slice none 0 0, .bool false, .bool false, .bool false] [(1, .bool true)] = _
  rw [lfill_cell (o := 3) (n := 1) (g := false) (by simp) rfl (by simp) (by simp)]
  simp
theorem lives21_cl : LC Tryz.prog EJ 37 [] H = some (.bool true, H) := by
  refine LC_pure rfl Tryz.func37 rfl (Nat.le_of_ble_eq_true rfl) (by decide) (by kernel_rfl) rfl ?_
  have h1 := fun H : LH => stype_im (H := H) (u := [71, 73, 70, 56, 57, 97])
  have h2 := fun H : LH => sagrees_im (H := H) (u := [71, 73, 70, 56, 57, 97])
  have h3 := fun H : LH => sagrees_im (H := H) (u := [120])
  have e1 : Tg.Un.orS [Tg.Un.typeOf (List.take 1445 [71, 73, 70, 56, 57, 97]) Tg.Un.imageL, [105, 109, 97, 103, 101, 47, 112, 110, 103]] = [105, 109, 97, 103, 101, 47, 103, 105, 102] := by decide +kernel
  have e2 : Tg.Un.orS [Tg.Un.typeOf (List.take 1445 [120]) Tg.Un.imageL, [105, 109, 97, 103, 101, 47, 112, 110, 103]] = [105, 109, 97, 103, 101, 47, 112, 110, 103] := by decide +kernel
  rw [e1] at h1 h2
  rw [e2] at h3
  rw [decide_eq_false (by decide)] at h2
  rw [decide_eq_true rfl] at h3
  simp [lfill_m2, lfill_s2, h1, h2, h3]
end
end Go.Proofs.YtombmblgmbjieaaGreatDoor
/-
  strings.Fields of plain letters, as a library function.
-/
set_option linter.unusedSimpArgs false
set_option linter.unusedVariables false
set_option maxRecDepth 100000
namespace Go.Proofs.YtombmblgmbjieaaGreatDoor
open Go.Lg Go.Tg
/-- the table of blanks lies in the package's variable -/
def Tab (H : LH) : Prop := 0 < H.ng ∧ Lib.TabIs Tryz.prog H.base "strings.asciiSpace" .u8 Lib.asciiSpaceTab
theorem tab_at {P : Program} {H : LH} {ι : Ren} {w : World} (hrel : Rel P H ι w) (h : Tab H) : Lib.TabIs Tryz.prog w "strings.asciiSpace" .u8 Lib.asciiSpaceTab := by
  have h2 := h.2
  unfold Lib.TabIs World.var? at h2 ⊢
  rw [show Tryz.prog.globalNamed "strings.asciiSpace" = some 0 by kernel_rfl] at h2 ⊢
  simp only [Option.bind_some] at h2 ⊢
  rw [pin_block hrel h.1]
  exact h2
open Classical in
noncomputable def specFields : Lg.Spec := fun args H => match args with
  | [.string s] => if s.size < 4294967281 ∧ (∀ (j : Nat) b, s.data.toList[j]? = some b → b.toNat < 128) ∧ Tab H ∧ (Lib.fields s.data.toList).length ≤ maxLen then
      some (sl H.n (Lib.fields s.data.toList).length (Lib.fields s.data.toList).length, H.new ⟨(Lib.fields s.data.toList).map (fun l => .string ⟨l.toArray⟩), 9, true⟩)
    else none
  | _ => none
theorem ok_Fields : SpecOk Tryz.prog 202 specFields := by
  intro args H v H' h
  refine .inl ⟨⟨_, Tryz.func202, rfl, by decide⟩, ?_⟩
  unfold specFields at h
  split at h
  · rename_i s
    split at h
    · rename_i hc
      obtain ⟨h1, h2, h3, h4⟩ := hc
      simp only [Option.some.injEq, Prod.mk.injEq] at h
      obtain ⟨rfl, rfl⟩ := h
      exact callOk_row (flat1 rfl) (fun x hx => by
        obtain ⟨l, _, rfl⟩ := List.mem_map.1 hx
        rfl) (by kernel_rfl) (by simp) h4 (fun ι w hrel => Tryz.strings_Fields s w h1 h2 (tab_at hrel h3))
    · cases h
  · cases h
end Go.Proofs.YtombmblgmbjieaaGreatDoor
/-
  Layer 21 (sniff): a body of which a server may err: text, or bytes.
-/
set_option linter.unusedSimpArgs false
set_option linter.unusedVariables false
set_option maxRecDepth 100000
namespace Tg.Sn
open Tg.Un
def marksL : List (List UInt8) := [[239, 187, 191], [254, 255], [255, 254]]
def markOf (s : List UInt8) : List (List UInt8) → Int
  | [] => 0
  | p :: l => if pre s p = true then p.length else markOf s l
def mark (s : List UInt8) : Int := markOf s marksL
theorem nat_beq (a : UInt8) (k : UInt8) : (a == k) = decide ((a.toNat : Int) = (k.toNat : Int)) := by
  rw [Bool.eq_iff_iff, beq_iff_eq, decide_eq_true_iff]
  constructor
  · rintro rfl; rfl
  · intro h
    exact UInt8.toNat_inj.1 (by omega)
def rule (s : List UInt8) : List UInt8 := if 0 < mark s ∨ seek s 0 < 0 then [116, 101, 120, 116, 47, 112, 108, 97, 105, 110] else [97, 112, 112, 108, 105, 99, 97, 116, 105, 111, 110, 47, 111, 99, 116, 101, 116, 45, 115, 116, 114, 101, 97, 109]
end Tg.Sn
namespace Go.Proofs.YtombmblgmbjieaaGreatDoor
open Go.Lg Go.Tg
section
variable {H : LH} {s t : List UInt8}
theorem mark_cl : LC Tryz.prog EJ 162 [str s] H = some (.int .i64 (Tg.Sn.mark s), H) := by
  refine LC_pure rfl Tryz.func162 rfl (Nat.le_of_ble_eq_true rfl) (by decide) (by kernel_rfl) rfl ?_
  obtain ⟨x, hx⟩ : ∃ x, x = Tg.Sn.markOf s (Tg.Sn.marksL.drop 0) := ⟨_, rfl⟩
  have e : Tg.Sn.mark s = x := hx.symm
  rw [e]
  have hr : SRow (H.new ⟨Tg.Sn.marksL.map str, 9, true⟩) (sl H.n 3 3) Tg.Sn.marksL := SRow.of (k := H.n) (c := 3) (rest := []) (by rw [get_new, List.append_nil]) (Nat.lt_succ_self _)
  have hm : Tg.Sn.marksL.map str = [str [239, 187, 191], str [254, 255], str [255, 254]] := rfl
  rw [hm] at hr
  simp [bsS, denseB]
  refine loop_ind (fun (i : Nat) fr' H' => fr' 0 = str s ∧ fr' 5 = sl H.n 3 3 ∧ fr' 6 = .int .i64 3 ∧ fr' 7 = .int .i64 i ∧ i ≤ 3 ∧ x = Tg.Sn.markOf s (Tg.Sn.marksL.drop i) ∧ H' = H.new ⟨[str [239, 187, 191], str [254, 255], str [255, 254]], 9, true⟩) (fun i => 3 - i) 0 ⟨by simp, by simp, by simp, by simp, Nat.zero_le _, hx, rfl⟩ ?_
  rintro i fr' H' ⟨g0, g7, g8, g9, hi, hc, rfl⟩ ih
  by_cases hlt : i < 3
  · have q := eq_true (show (i : Int) < 3 by omega)
    have hw : IntKind.i64.wrap ((i : Int) + 1) = ((i + 1 : Nat) : Int) := by rw [wrapI (by omega) (by omega)]; omega
    have hlt2 : i < Tg.Sn.marksL.length := hlt
    obtain ⟨k2, o, e1, e2, e3⟩ := hr.at hlt2
    have e4 := e3 _ rfl
    rw [List.drop_eq_getElem_cons hlt2] at hc
    generalize Tg.Sn.marksL[i] = a at *
    have hp := Tg.Un.pre_eq s a
    unfold Tg.Sn.markOf at hc
    cases c1 : Tg.Un.pre s a with
    | true =>
      rw [c1] at hp
      rw [if_pos c1] at hc
      clear ih
      subst hc
      simp [g0, g7, g8, g9, q, e1, e4, hp]
    | false =>
      rw [c1] at hp
      rw [if_neg (by rw [c1]; decide)] at hc
      simp [g0, g7, g8, g9, q, e1, e4, hp]
      refine ih (i + 1) _ _ (by omega) ⟨?_, ?_, ?_, ?_, by omega, hc, rfl⟩
      all_goals simp [g0, g7, g8, hw]
  · have q := eq_false (show ¬ (i : Int) < 3 by omega)
    have hc : x = 0 := by rw [hc, List.drop_of_length_le (by show 3 ≤ i; omega)]; rfl
    subst hc
    simp [g0, g7, g8, g9, q]
theorem rmark_cl : LC Tryz.prog EJ 118 [str s] H = some (.int .i64 (Tg.Sn.mark s), H) := by
  refine LC_pure rfl Tryz.func118 rfl (Nat.le_of_ble_eq_true rfl) (by decide) (by kernel_rfl) rfl ?_
  have e : Tg.Sn.mark s = if Tg.Un.pre s [239, 187, 191] = true then 3 else if Tg.Un.pre s [254, 255] = true then 2 else if Tg.Un.pre s [255, 254] = true then 2 else 0 := rfl
  rw [e]
  clear e
  match s with
  | [] => simp [Tg.Un.pre]
  | [a] => simp [Tg.Un.pre]
  | [a, b] =>
    have n1 := Tg.Sn.nat_beq a
    have n2 := Tg.Sn.nat_beq b
    have a0 : at_ [a, b] 0 = a := rfl
    have a1 : at_ [a, b] 1 = b := rfl
    have e : (if Tg.Un.pre [a, b] [239, 187, 191] = true then (3 : Int) else if Tg.Un.pre [a, b] [254, 255] = true then 2 else if Tg.Un.pre [a, b] [255, 254] = true then 2 else 0) = if (a == 254 && b == 255) = true then 2 else if (a == 255 && b == 254) = true then 2 else 0 := by simp [Tg.Un.pre]
    rw [e, n1, n1, n2, n2]
    clear e n1 n2
    by_cases c1 : (a.toNat : Int) = 254 <;> by_cases c2 : (a.toNat : Int) = 255 <;> by_cases c3 : (b.toNat : Int) = 254 <;> by_cases c4 : (b.toNat : Int) = 255
    all_goals simp [a0, a1, c1, c2, c3, c4]
  | a :: b :: c :: r =>
    have n1 := Tg.Sn.nat_beq a
    have n2 := Tg.Sn.nat_beq b
    have n3 := Tg.Sn.nat_beq c
    have a0 : at_ (a :: b :: c :: r) 0 = a := rfl
    have a1 : at_ (a :: b :: c :: r) 1 = b := rfl
    have a2 : at_ (a :: b :: c :: r) 2 = c := rfl
    have e : (if Tg.Un.pre (a :: b :: c :: r) [239, 187, 191] = true then (3 : Int) else if Tg.Un.pre (a :: b :: c :: r) [254, 255] = true then 2 else if Tg.Un.pre (a :: b :: c :: r) [255, 254] = true then 2 else 0) = if (a == 239 && (b == 187 && c == 191)) = true then 3 else if (a == 254 && b == 255) = true then 2 else if (a == 255 && b == 254) = true then 2 else 0 := by simp [Tg.Un.pre]
    rw [e, n1, n1, n1, n2, n2, n2, n3]
    clear e n1 n2 n3
    obtain ⟨L, hL⟩ : ∃ L : Nat, L = (a :: b :: c :: r).length := ⟨_, rfl⟩
    have hL3 : 3 ≤ L := by rw [hL]; simp
    obtain ⟨w, hw⟩ : ∃ w, w = a :: b :: c :: r := ⟨_, rfl⟩
    rw [← hw] at a0 a1 a2 hL ⊢
    clear hw
    have l0 := eq_true (show (0 : Int) < (w.length : Int) by omega)
    have l1 := eq_true (show (1 : Int) < (w.length : Int) by omega)
    have l2 := eq_true (show (2 : Int) < (w.length : Int) by omega)
    have m0 := eq_true (show 0 < w.length by omega)
    have m1 := eq_true (show 1 < w.length by omega)
    have m2 := eq_true (show 2 < w.length by omega)
    have w0 := eq_false (show ¬ w = [] by intro h; rw [h] at hL; simp at hL; omega)
    by_cases c1 : (a.toNat : Int) = 239
    · have d2 : ((239 : Int) = 254) = False := eq_false (by decide)
      by_cases c2 : (b.toNat : Int) = 187 <;> by_cases c3 : (c.toNat : Int) = 191
      all_goals simp [a0, a1, a2, l0, l1, l2, m0, m1, m2, w0, c1, c2, c3]
    · by_cases c2 : (a.toNat : Int) = 254 <;> by_cases c3 : (a.toNat : Int) = 255 <;> by_cases c4 : (b.toNat : Int) = 254 <;> by_cases c5 : (b.toNat : Int) = 255
      all_goals simp [a0, a1, a2, l0, l1, l2, m0, m1, m2, w0, c1, c2, c3, c4, c5]
theorem brule_cl (hs : s.length ≤ 1048576) : LC Tryz.prog EJ 121 [str s] H = some (str (Tg.Sn.rule s), H) := by
  refine LC_pure rfl Tryz.func121 rfl (Nat.le_of_ble_eq_true rfl) (by decide) (by kernel_rfl) rfl ?_
  have h1 := fun H : LH => mark_cl (H := H) (s := s)
  have h2 := fun H : LH => seek_cl (H := H) hs
  unfold Tg.Sn.rule
  generalize Tg.Sn.mark s = m at *
  generalize Tg.Un.seek s 0 = k at *
  by_cases c1 : 0 < m
  · have q := eq_true c1
    rw [if_pos (.inl c1)]
    simp [h1, h2, q]
  · have q := eq_false c1
    by_cases c2 : k < 0
    · have q2 := eq_true c2
      rw [if_pos (.inr c2)]
      simp [h1, h2, q, q2]
    · have q2 := eq_false c2
      rw [if_neg (by rintro (h | h); exact c1 h; exact c2 h)]
      simp [h1, h2, q, q2]
theorem rrule_cl (hs : s.length ≤ 1048576) : LC Tryz.prog EJ 78 [str s] H = some (str (Tg.Sn.rule s), H) := by
  refine LC_pure rfl Tryz.func78 rfl (Nat.le_of_ble_eq_true rfl) (by decide) (by kernel_rfl) rfl ?_
  have h1 := fun H : LH => rmark_cl (H := H) (s := s)
  have h2 := fun H : LH => rfirst19_cl (H := H) hs
  unfold Tg.Sn.rule
  generalize Tg.Sn.mark s = m at *
  generalize Tg.Un.seek s 0 = k at *
  by_cases c1 : 0 < m
  · have q := eq_true c1
    rw [if_pos (.inl c1)]
    simp [h1, h2, q]
  · have q := eq_false c1
    by_cases c2 : k < 0
    · have q2 := eq_true c2
      rw [if_pos (.inr c2)]
      simp [h1, h2, q, q2]
    · have q2 := eq_false c2
      rw [if_neg (by rintro (h | h); exact c1 h; exact c2 h)]
      simp [h1, h2, q, q2]
end
end Go.Proofs.YtombmblgmbjieaaGreatDoor
/-
  Layer 20 (unknown): two tables of patterns are one; two lists of texts are one.
-/
set_option linter.unusedSimpArgs false
set_option linter.unusedVariables false
set_option maxRecDepth 100000
namespace Go.Proofs.YtombmblgmbjieaaGreatDoor
open Go.Lg Go.Tg
section
variable {H : LH} {v w : Value}
theorem ubin_neq {P : Program} {t : TypeId} {xs ys : List Value} {b : Bool} (hx : flatB (.agg ⟨xs⟩) = true) (hy : flatB (.agg ⟨ys⟩) = true) (hg : P.eqGuardType P.depth t = false)
    (he : pureVal P (Op.equalIn Op.maxDepth t (.agg ⟨xs⟩) (.agg ⟨ys⟩)) = some b) : lbin P .neq t (.agg ⟨xs⟩) (.agg ⟨ys⟩) = some (.bool (!b)) := by
  unfold lbin
  simp only
  rw [if_pos (by rw [hx, hy]; rfl)]
  unfold pureFlat eqGuard
  simp only [binOp, Op.equal, pureVal_bind]
  have e1 : ∀ X Y : Value, pureVal P (if (!true) = true then (pure () : Sem Unit) else do
      let __do_lift ← program
      let __do_lift_1 ← program
      if (!__do_lift.eqGuardType __do_lift_1.depth t) = true then pure ()
      else do
        let __do_lift ← Op.eqGuardIn Op.maxDepth t X Y
        if __do_lift = true then unsupported (Unsupported.noEntry "binop/eql: two nil values of an interface type with methods, in a part of a struct or an array") else pure ()) = some () := by
    intro X Y
    rw [if_neg (by decide)]
    simp only [pureVal_bind, pureVal_program, Option.bind_some, hg, Bool.not_false, if_true, pureVal_pure]
  rw [e1, he]
  rfl
theorem pat_in {a b : Tg.Un.Pat} : pureVal Tryz.prog (Op.equalIn Op.maxDepth 66 (pv a) (pv b)) = some (decide (a = b)) := by
  show pureVal Tryz.prog (Op.equalIn ((9998 + 1) + 1) _ _ _) = _
  have hs : Tryz.prog.stoodInHeld 66 = false := by kernel_rfl
  obtain ⟨a1, a2, a3, a4⟩ := a
  obtain ⟨b1, b2, b3, b4⟩ := b
  unfold Op.equalIn
  simp only [pureVal_bind, pureVal_und, Tryz.underlying66, Option.bind_some, pureVal_program, hs, Bool.false_eq_true, if_false, pureVal_pure]
  by_cases h1 : a1 = b1 <;> by_cases h2 : a2 = b2 <;> by_cases h3 : a3 = b3 <;> by_cases h4 : a4 = b4 <;>
    simp [← Array.forIn_toList, pureVal_bind, part_cell, eqIn_int, eqIn_str, eqIn_bool, h1, h2, h3, h4, Tryz.underlying3, Tryz.underlying9, Tryz.underlying4]
theorem pat_ne {a b : Tg.Un.Pat} : lbin Tryz.prog .neq 66 (pv a) (pv b) = some (.bool (!decide (a = b))) := ubin_neq rfl rfl (by kernel_rfl) pat_in
theorem psame_cl {l : List Tg.Un.Pat} (hr : PRow H v l) (hw : PRow H w l) (hl : l.length ≤ 1000) : LC Tryz.prog EJ 27 [v, w] H = some (.bool true, H) := by
  refine LC_pure rfl Tryz.func27 rfl (Nat.le_of_ble_eq_true rfl) (by decide) (by kernel_rfl) rfl ?_
  simp [hr.len, hw.len]
  refine loop_ind (fun (i : Nat) fr' H' => fr' 0 = v ∧ fr' 1 = w ∧ fr' 5 = .int .i64 i ∧ i ≤ l.length ∧ H' = H) (fun i => l.length - i) 0 ⟨by simp, by simp, by simp, Nat.zero_le _, rfl⟩ ?_
  rintro i fr' H' ⟨h0, h1, h5, hi, rfl⟩ ih
  by_cases hlt : i < l.length
  · have q := eq_true (show (i : Int) < (l.length : Int) by omega)
    have hw1 : IntKind.i64.wrap ((i : Int) + 1) = ((i + 1 : Nat) : Int) := by rw [wrapI (by omega) (by omega)]; omega
    obtain ⟨k, o, g1, g2, g3⟩ := hr.at hlt
    obtain ⟨g4, _⟩ := g3 _ rfl
    obtain ⟨k', o', g1', g2', g3'⟩ := hw.at hlt
    obtain ⟨g4', _⟩ := g3' _ rfl
    have hne := fun a b => pat_ne (a := a) (b := b)
    generalize l[i] = a at *
    simp [h0, h1, h5, q, hlt, g1, g4, g1', g4', hne, hr.len]
    refine ih (i + 1) _ _ (by omega) ⟨?_, ?_, ?_, by omega, rfl⟩
    all_goals simp [h0, h1, hw1]
  · have q := eq_false (show ¬ (i : Int) < (l.length : Int) by omega)
    simp [h0, h1, h5, q, hlt, hr.len]
theorem ssame_cl {l : List (List UInt8)} (hr : SRow H v l) (hw : SRow H w l) (hl : l.length ≤ 1000) : LC Tryz.prog EJ 25 [v, w] H = some (.bool true, H) := by
  refine LC_pure rfl Tryz.func25 rfl (Nat.le_of_ble_eq_true rfl) (by decide) (by kernel_rfl) rfl ?_
  simp [hr.len, hw.len]
  refine loop_ind (fun (i : Nat) fr' H' => fr' 0 = v ∧ fr' 1 = w ∧ fr' 5 = .int .i64 i ∧ i ≤ l.length ∧ H' = H) (fun i => l.length - i) 0 ⟨by simp, by simp, by simp, Nat.zero_le _, rfl⟩ ?_
  rintro i fr' H' ⟨h0, h1, h5, hi, rfl⟩ ih
  by_cases hlt : i < l.length
  · have q := eq_true (show (i : Int) < (l.length : Int) by omega)
    have hw1 : IntKind.i64.wrap ((i : Int) + 1) = ((i + 1 : Nat) : Int) := by rw [wrapI (by omega) (by omega)]; omega
    obtain ⟨k, o, g1, g2, g3⟩ := hr.at hlt
    have g4 := g3 _ rfl
    obtain ⟨k', o', g1', g2', g3'⟩ := hw.at hlt
    have g4' := g3' _ rfl
    generalize l[i] = a at *
    simp [h0, h1, h5, q, hlt, g1, g4, g1', g4', hr.len]
    refine ih (i + 1) _ _ (by omega) ⟨?_, ?_, ?_, by omega, rfl⟩
    all_goals simp [h0, h1, hw1]
  · have q := eq_false (show ¬ (i : Int) < (l.length : Int) by omega)
    simp [h0, h1, h5, q, hlt, hr.len]
end
end Go.Proofs.YtombmblgmbjieaaGreatDoor
/-
  Layer 20 (unknown), in plain: a tag with its end is HTML, without it is not; what PDF is.
-/
set_option linter.unusedSimpArgs false
set_option linter.unusedVariables false
set_option maxRecDepth 100000
namespace Tg.Un
theorem tag_end : ∀ t ∈ tagsL, ∀ x : List UInt8, html (((32 :: 10 :: 60 :: t) ++ [62]) ++ x) = true := by
  intro t ht x
  rw [html_eq]
  unfold rhtml
  have e : (((32 :: 10 :: 60 :: t) ++ [62]) ++ x).drop (begins white (((32 :: 10 :: 60 :: t) ++ [62]) ++ x)) = (60 :: t) ++ (62 :: x) := by
    have : begins white (((32 :: 10 :: 60 :: t) ++ [62]) ++ x) = 2 := rfl
    rw [this]
    show ((60 :: t) ++ [62]) ++ x = _
    rw [List.append_assoc]; rfl
  rw [e, Bool.or_eq_true]
  refine .inr (List.any_eq_true.2 ⟨t, ht, ?_⟩)
  unfold rtag
  have e1 : ((60 :: t) ++ (62 :: x)).take (t.length + 1) = 60 :: t := by
    rw [show t.length + 1 = (60 :: t).length from rfl, List.take_left']; rfl
  have e2 : ((60 :: t) ++ (62 :: x)).drop (t.length + 1) = 62 :: x := by
    rw [show t.length + 1 = (60 :: t).length from rfl, List.drop_left']; rfl
  rw [e1, e2]
  have e3 : lower (60 :: t) = 60 :: lower t := rfl
  rw [e3]
  have e4 : decide (t.length + 1 < ((60 :: t) ++ (62 :: x)).length) = true := by simp
  rw [e4]
  simp [ends]
theorem tag_sp : ∀ t ∈ tagsL, html ((60 :: t) ++ [32]) = true := by decide +kernel
theorem tag_no : ∀ t ∈ tagsL, html (60 :: t) = false := by decide +kernel
theorem tag_len : ∀ t ∈ tagsL, t.length ≤ 20 := by decide
theorem pdf_cut (s : List UInt8) (h : 4 < s.length) : pdf s = decide (s.take 5 = [37, 80, 68, 70, 45]) := by
  unfold pdf
  rw [pre_take]; rfl
theorem pdf_short (s : List UInt8) (h : s.length ≤ 4) : pdf s = false := by
  unfold pdf
  rw [pre_take]
  refine decide_eq_false fun e => ?_
  have := congrArg List.length e
  rw [List.length_take] at this
  simp at this; omega
theorem noScr_ne {x : List UInt8} (h : noScr x = true) : x ≠ htmlT ∧ x ≠ xmlT ∧ x ≠ pdfT := by
  unfold noScr at h
  rw [Bool.and_eq_true, Bool.and_eq_true] at h
  exact ⟨of_decide_eq_true h.1, of_decide_eq_true h.2.1, of_decide_eq_true h.2.2⟩
end Tg.Un
/-
  Layer 20 (unknown): its laws, by the run with throws.
-/
set_option linter.unusedSimpArgs false
set_option linter.unusedVariables false
set_option maxRecDepth 100000
namespace Go.Proofs.YtombmblgmbjieaaGreatDoor
open Go.Lg Go.Tg
section
variable {H : LH} {s : List UInt8}
theorem media20 (hm : MaxL H) : R Tryz.prog EPu (.call 4 [str s] H (.ret (.bool true)) H) := by
  have h1 := tcut_cl (H := H) (s := s) (k := 2000) (by decide)
  simp only [show ((2000 : Int).toNat) = 2000 from rfl] at h1
  have hl : (s.take 2000).length ≤ 1000000 := by rw [List.length_take]; omega
  generalize s.take 2000 = u at *
  have h2 := Media_r (H := H) hl
  have h3 := fun H : LH => rmedia_cl (H := H) hl
  have hL := lives20_r hm
  generalize Tg.Un.film u = x at *
  refine pcall_flat Tryz.func4 rfl (Nat.le_of_ble_eq_true rfl) (by decide) (by kernel_rfl) rfl ?_
  simp [h1]
  refine hand_call_ret (g := 17) (first := #[]) (caps := #[]) (H1 := H) rfl rfl rfl (by simp) (by simpa using h2) rfl ?_
  simp [h3]
  refine hand_call_ret (g := 16) (first := #[]) (caps := #[]) (H1 := H) ?_ rfl rfl (by simp) (by simpa using hL) rfl ?_
  · rw [lwant_x]; simp
  · simp
theorem types20 (hm : MaxL H) : R Tryz.prog EPu (.call 3 [str s] H (.ret (.bool true)) H) := by
  have h1 := tcut_cl (H := H) (s := s) (k := 2000) (by decide)
  simp only [show ((2000 : Int).toNat) = 2000 from rfl] at h1
  generalize s.take 2000 = u at *
  have h2 := Type_r (H := H) (s := u) (b := true) hm
  have h3 := Type_r (H := H) (s := u) (b := false) hm
  have h4 := fun (H : LH) (b : Bool) => rtype20_cl (H := H) (s := u) (b := b)
  have n1 := Tg.Un.type_ne u true
  have n2 := Tg.Un.type_ne u false
  obtain ⟨n3, n4, n5⟩ := Tg.Un.noScr_ne (Tg.Un.type_false u)
  unfold Tg.Un.htmlT at n3
  unfold Tg.Un.xmlT at n4
  unfold Tg.Un.pdfT at n5
  have hL := lives20_r hm
  have h5 := fun H => h4 H true
  have h6 := fun H => h4 H false
  clear h4
  generalize Tg.Un.type u true = x at *
  generalize Tg.Un.type u false = y at *
  refine pcall_flat Tryz.func3 rfl (Nat.le_of_ble_eq_true rfl) (by decide) (by kernel_rfl) rfl ?_
  simp [h1]
  refine hand_call_ret (g := 14) (first := #[]) (caps := #[]) (H1 := H) rfl rfl rfl (by simp) (by simpa using h2) rfl ?_
  simp
  refine hand_call_ret (g := 14) (first := #[]) (caps := #[]) (H1 := H) rfl rfl rfl (by simp) (by simpa using h3) rfl ?_
  simp [h5, h6, n1, n2, n3, n4, n5]
  refine hand_call_ret (g := 16) (first := #[]) (caps := #[]) (H1 := H) ?_ rfl rfl (by simp) (by simpa using hL) rfl ?_
  · rw [lwant_x]; simp
  · simp
theorem texts20 (hm : MaxL H) : R Tryz.prog EPu (.call 5 [str s] H (.ret (.bool true)) H) := by
  have h1 := tcut_cl (H := H) (s := s) (k := 200) (by decide)
  simp only [show ((200 : Int).toNat) = 200 from rfl] at h1
  have hl : (s.take 200).length ≤ 1000000 := by rw [List.length_take]; omega
  generalize s.take 200 = u at *
  have h2 := Html_cl (H := H) hl hm
  have h3 := fun H : LH => rhtml_cl (H := H) hl
  have h4 := fun H : LH => Xml_cl (H := H) hl
  have h5 := fun H : LH => rxml_cl (H := H) hl
  have h6 := fun H : LH => Pdf_cl (H := H) (s := u)
  have p1 := Tg.Un.pdf_cut u
  have p2 := Tg.Un.pdf_short u
  have hL := lives20_r hm
  generalize Tg.Un.html u = x at *
  generalize Tg.Un.xml u = y at *
  generalize Tg.Un.pdf u = z at *
  refine pcall_flat Tryz.func5 rfl (Nat.le_of_ble_eq_true rfl) (by decide) (by kernel_rfl) rfl ?_
  by_cases hc : 4 < u.length
  · have q := eq_true (show (4 : Int) < (u.length : Int) by omega)
    have q2 := eq_true (show (5 : Int) ≤ (u.length : Int) by omega)
    have p1 := p1 hc
    subst p1
    simp [h1, h2, h3, h4, h5, h6, q, q2, hc]
    refine hand_call_ret (g := 16) (first := #[]) (caps := #[]) (H1 := H) ?_ rfl rfl (by simp) (by simpa using hL) rfl ?_
    · rw [lwant_x]; simp
    · simp
  · have q := eq_false (show ¬ (4 : Int) < (u.length : Int) by omega)
    have p2 := p2 (by omega)
    subst p2
    simp [h1, h2, h3, h4, h5, h6, q, hc]
    refine hand_call_ret (g := 16) (first := #[]) (caps := #[]) (H1 := H) ?_ rfl rfl (by simp) (by simpa using hL) rfl ?_
    · rw [lwant_x]; simp
    · simp
theorem tags20 {i : UInt8} (hm : MaxL H) : R Tryz.prog EPu (.call 6 [.int .u8 (i.toNat : Int), str s] H (.ret (.bool true)) H) := by
  have hi := i.toNat_lt
  have e0 := rtags_l (H := H)
  have e1 := fun H : LH => rtags_l (H := H)
  have e2 := Tags_l hm
  have e3 := fun H : LH => Signs_l (H := H)
  have e4 := fun H : LH => rsigns_l (H := H)
  obtain ⟨k, hk, hk16⟩ : ∃ k : Nat, k = i.toNat % 16 ∧ k < 16 := ⟨_, rfl, Nat.mod_lt _ (by decide)⟩
  obtain ⟨L, hL, hl16⟩ : ∃ L, L = Tg.Un.tagsL ∧ L.length = 16 := ⟨_, rfl, rfl⟩
  obtain ⟨P, hP, hp4⟩ : ∃ P, P = Tg.Un.signsL ∧ P.length = 4 := ⟨_, rfl, rfl⟩
  have hkl : k < L.length := by omega
  have hmod : (IntKind.i64.wrap (i.toNat : Int)).tmod 16 = (k : Int) := by rw [hk, wrapI (by omega) (by omega), Int.tmod_eq_emod_of_nonneg (by omega)]; omega
  have hmem : L[k] ∈ Tg.Un.tagsL := hL ▸ List.getElem_mem hkl
  have t1 := Tg.Un.tag_end L[k] hmem (s.take 50)
  have t2 := Tg.Un.tag_sp L[k] hmem
  have t3 := Tg.Un.tag_no L[k] hmem
  have t4 := Tg.Un.tag_len L[k] hmem
  have h1 := fun H : LH => tcut_cl (H := H) (s := s) (k := 50) (by decide)
  simp only [show ((50 : Int).toNat) = 50 from rfl] at h1
  have hl : (s.take 50).length ≤ 50 := by rw [List.length_take]; omega
  generalize s.take 50 = u at *
  rw [← hL] at e0 e1 e2
  rw [← hP] at e3 e4
  obtain ⟨H1, hH1⟩ : ∃ H1, H1 = H.new ⟨L.map str, 9, true⟩ := ⟨_, rfl⟩
  obtain ⟨H2, hH2⟩ : ∃ H2, H2 = H1.new ⟨L.map str, 9, true⟩ := ⟨_, rfl⟩
  obtain ⟨H3, hH3⟩ : ∃ H3, H3 = H2.new ⟨Tg.Un.pcells P, 66, true⟩ := ⟨_, rfl⟩
  obtain ⟨H4, hH4⟩ : ∃ H4, H4 = H3.new ⟨Tg.Un.pcells P, 66, true⟩ := ⟨_, rfl⟩
  obtain ⟨H5, hH5⟩ : ∃ H5, H5 = H4.new ⟨L.map str, 9, true⟩ := ⟨_, rfl⟩
  have hm5 : MaxL H5 := by
    subst hH5; subst hH4; subst hH3; subst hH2; subst hH1
    exact hm
  have le5 : H.le H5 := by
    subst hH5; subst hH4; subst hH3; subst hH2; subst hH1
    exact le_refl.new.new.new.new.new
  have r1 : SRow H2 (sl H.n 16 16) L := by
    refine SRow.keep (H := H1) ?_ (by rw [hH2]; simp) (fun k hk => by rw [hH2, get_new_ne (by omega)])
    rw [hH1, ← hl16]
    exact SRow.of (k := H.n) (rest := []) (by rw [get_new, List.append_nil]) (Nat.lt_succ_self _)
  have r2 : SRow H2 (sl H1.n 16 16) L := by
    rw [hH2, ← hl16]
    exact SRow.of (k := H1.n) (rest := []) (by rw [get_new, List.append_nil]) (Nat.lt_succ_self _)
  have r3 : PRow H4 (sl H2.n 4 4) P := by
    refine PRow.keep (H := H3) ?_ (by rw [hH4]; simp) (fun k hk => by rw [hH4, get_new_ne (by omega)])
    rw [hH3]
    exact prow_l hp4.symm
  have r4 : PRow H4 (sl H3.n 4 4) P := by
    rw [hH4]
    exact prow_l hp4.symm
  have r5 : SRow H5 (sl H4.n 16 16) L := by
    rw [hH5, ← hl16]
    exact SRow.of (k := H4.n) (rest := []) (by rw [get_new, List.append_nil]) (Nat.lt_succ_self _)
  have s1 := ssame_cl r1 r2 (by omega)
  have s2 := psame_cl r3 r4 (by omega)
  obtain ⟨k2, o, a1, a2, a3⟩ := r5.at hkl
  have a4 := a3 _ rfl
  have e1a := e1 H1
  have e3a := e3 H2
  have e4a := e4 H3
  have e1b := e1 H4
  rw [← hH1] at e2
  rw [← hH2] at e1a
  rw [← hH3] at e3a
  rw [← hH4] at e4a
  rw [← hH5] at e1b
  generalize L[k] = t at *
  have g1 := Html_cl (H := H5) (s := ((32 :: 10 :: 60 :: t) ++ [62]) ++ u) (by simp; omega) hm5
  have g2 := Html_cl (H := H5) (s := (60 :: t) ++ [32]) (by simp; omega) hm5
  have g3 := Html_cl (H := H5) (s := 60 :: t) (by simp; omega) hm5
  rw [t1] at g1
  rw [t2] at g2
  rw [t3] at g3
  have hlv := lives20_r hm5
  have hn1 : H1.n = H.n + 1 := by rw [hH1]; rfl
  have hn2 : H2.n = H.n + 2 := by rw [hH2, n_new, hn1]
  have hn3 : H3.n = H.n + 3 := by rw [hH3, n_new, hn2]
  have hn4 : H4.n = H.n + 4 := by rw [hH4, n_new, hn3]
  clear e0 e1 e3 e4 r1 r2 r3 r4 r5 a3 hH1 hH2 hH3 hH4 hH5 hL hP t1 t2 t3 hmem
  have c1 := eq_true (show 1 + t.length ≤ 9223372036854775807 by omega)
  have c2 := eq_true (show 2 + (t.length + 1) ≤ 9223372036854775807 by omega)
  have c3 := eq_true (show t.length + 1 + 1 + 1 + 1 ≤ 9223372036854775807 by omega)
  have c4 := eq_true (show t.length + 1 + 1 + 1 + 1 + u.length ≤ 9223372036854775807 by omega)
  have c5 := eq_true (show t.length + 1 + 1 ≤ 9223372036854775807 by omega)
  have c6 := eq_true (show t.length + 1 + 1 + 1 + u.length ≤ 9223372036854775807 by omega)
  refine pcall_flat Tryz.func6 rfl (Nat.le_of_ble_eq_true rfl) (by decide) (by kernel_rfl) rfl ?_
  simp at g1 g2
  simp [e2, e1a, s1, e3a, e4a, s2, e1b, hmod, a1, a4, g1, g2, g3, h1, c1, c2, c3, c4, c5, c6]
  refine hand_call_ret (g := 16) (first := #[]) (caps := #[]) (H1 := H5) ?_ rfl rfl (by simp) (by simpa using hlv) rfl ?_
  · rw [lwant_x]; simp
  · simp
    exact le5
end
end Go.Proofs.YtombmblgmbjieaaGreatDoor
/-
  Layers 21, 31 (sniff, orbsniff): all that stands below as functions of the library: what they come to is known; films by the run with throws.
-/
set_option linter.unusedSimpArgs false
set_option linter.unusedVariables false
set_option maxRecDepth 100000
namespace Go.Proofs.YtombmblgmbjieaaGreatDoor
open Go.Lg Go.Tg
/-- what a call without a throw comes to -/
theorem ran_of_sound {P : Program} {E : PEnv} {f : FuncId} {args : List Value} {H H' : LH} {v : Value} (h : Sound P E (.call f args H (.ret v) H')) : Ran P f args H v H' := by
  obtain ⟨he, hc⟩ := h
  refine .inl ⟨he, fun ι w args' h1 h2 h3 => (hc ι w args' h1 h2 h3).mono ?_⟩
  rintro e w' ⟨ι', ⟨v', rfl, hv⟩, ho⟩
  exact ⟨ι', v', rfl, ho, hv⟩
/-- as below -/
noncomputable def asEJ (f : FuncId) : FuncId × Lg.Spec := (f, fun args H => LC Tryz.prog EJ f args H)
theorem asEJ_ok {f : FuncId} : SpecOk Tryz.prog (asEJ f).1 (asEJ f).2 := fun args H v H' h => tOk _ _ _ _ _ h
def specFilm : Lg.Spec := fun args H => match args with
  | [.string s] => if s.size ≤ 1000000 then some (str (Tg.Un.film s.data.toList), H) else none
  | _ => none
theorem ok_Film : SpecOk Tryz.prog 17 specFilm := by
  intro args H v H' h
  unfold specFilm at h
  split at h
  · rename_i s
    split at h
    · rename_i hs
      simp only [Option.some.injEq, Prod.mk.injEq] at h
      obtain ⟨rfl, rfl⟩ := h
      have hl : s.data.toList.length ≤ 1000000 := by simpa using hs
      have := ran_of_sound (soundU (Media_r (H := H) (s := s.data.toList) hl))
      rw [str_ba]
      exact this
    · cases h
  · cases h
open Classical in
noncomputable def specType : Lg.Spec := fun args H => match args with
  | [.string s, .bool b] => if MaxL H then some (str (Tg.Un.type s.data.toList b), H) else none
  | _ => none
theorem ok_Type : SpecOk Tryz.prog 14 specType := by
  intro args H v H' h
  unfold specType at h
  split at h
  · rename_i s b
    split at h
    · rename_i hm
      simp only [Option.some.injEq, Prod.mk.injEq] at h
      obtain ⟨rfl, rfl⟩ := h
      have := ran_of_sound (soundU (Type_r (H := H) (s := s.data.toList) (b := b) hm))
      rw [str_ba]
      exact this
    · cases h
  · cases h
noncomputable def specsSn : List (FuncId × Lg.Spec) := [(202, specFields), (17, specFilm), (14, specType), asEJ 13, asEJ 57, asEJ 96, asEJ 40, asEJ 41, asEJ 85, asEJ 42, asEJ 43, asEJ 45, asEJ 37, asEJ 15, asEJ 25,
  asEJ 121, asEJ 78, asEJ 58, asEJ 92, asEJ 125, asEJ 91]
namespace Sn
noncomputable def EJ : Ext := extLL specsSn []
@[simp] theorem EJ_ch {n id k : Nat} : EJ.loud.ch n id k = chT n id k := rfl
@[simp] theorem EJ_loud {g : FuncId} : EJ.loud g = false := rfl
theorem specs_ok : ∀ p ∈ specsSn, SpecOk Tryz.prog p.1 p.2 := by
  intro p hp
  unfold specsSn at hp
  rcases List.mem_cons.1 hp with rfl | hp
  · exact ok_Fields
  rcases List.mem_cons.1 hp with rfl | hp
  · exact ok_Film
  rcases List.mem_cons.1 hp with rfl | hp
  · exact ok_Type
  simp only [List.mem_cons, List.not_mem_nil, or_false] at hp
  rcases hp with rfl | rfl | rfl | rfl | rfl | rfl | rfl | rfl | rfl | rfl | rfl | rfl | rfl | rfl | rfl | rfl | rfl | rfl <;> exact asEJ_ok
theorem extOk : ExtOk Tryz.prog EJ := extL_ok specs_ok
theorem tOk : TOk Tryz.prog (LC Tryz.prog EJ) := LC_ok extOk mixed
section
variable {H : LH} {s t : List UInt8} {v w : Value}
theorem up {f : FuncId} {args : List Value} {r : Value × LH} (hf : EJ f = some (asEJ f).2) (h : LC Tryz.prog Go.Proofs.YtombmblgmbjieaaGreatDoor.EJ f args H = some r) : LC Tryz.prog EJ f args H = some r := LC_ext hf h
theorem film_k (hs : s.length ≤ 1000000) : LC Tryz.prog EJ 17 [str s] H = some (str (Tg.Un.film s), H) := LC_ext (s := specFilm) rfl (by
  unfold specFilm str
  dsimp only
  rw [if_pos (by rw [ba_size]; exact hs)])
theorem type_k {b : Bool} (hm : MaxL H) : LC Tryz.prog EJ 14 [str s, .bool b] H = some (str (Tg.Un.type s b), H) := LC_ext (s := specType) rfl (by
  unfold specType str
  dsimp only
  rw [if_pos hm])
theorem cut_k {k : Int} (h0 : 0 ≤ k) : LC Tryz.prog EJ 13 [str s, .int .i64 k] H = some (str (s.take k.toNat), H) := up rfl (tcut_cl h0)
theorem bcut_k : LC Tryz.prog EJ 57 [str s] H = some (str (s.take 1445), H) := up rfl bcut_cl
theorem image_k : LC Tryz.prog EJ 42 [str s] H = some (str (Tg.Un.typeOf (s.take 1445) Tg.Un.imageL), H) := up rfl simage_cl
theorem rimage_k : LC Tryz.prog EJ 43 [str s] H = some (str (Tg.Un.typeOf (s.take 1445) Tg.Un.imageL), H) := up rfl rimage21_cl
theorem rmedia_k : LC Tryz.prog EJ 45 [str s] H = some (str (Tg.Un.film (s.take 1445)), H) := up rfl rmedia21_cl
theorem bug_k : LC Tryz.prog EJ 40 [str s] H = some (.bool (Tg.Sn.bug s), H) := up rfl bug_cl
theorem rbug_k : LC Tryz.prog EJ 41 [str s] H = some (.bool (Tg.Sn.bug s), H) := up rfl rbug_cl
theorem lives21_k : LC Tryz.prog EJ 37 [] H = some (.bool true, H) := up rfl lives21_cl
theorem film21_k : LC Tryz.prog EJ 86 [str s] H = some (str (Tg.Un.film (s.take 1445)), H) := by
  refine LC_pure rfl Tryz.func86 rfl (Nat.le_of_ble_eq_true rfl) (by decide) (by kernel_rfl) rfl ?_
  have h1 := fun H : LH => bcut_k (H := H) (s := s)
  have h2 := fun H : LH => film_k (H := H) (s := s.take 1445) (by rw [List.length_take]; omega)
  generalize s.take 1445 = u at *
  simp [h1, h2]
theorem media_k : LC Tryz.prog EJ 44 [str s] H = some (str (Tg.Un.film (s.take 1445)), H) := by
  have h0 := fun H : LH => film21_k (H := H) (s := s)
  refine LC_pure rfl Tryz.func44 rfl (Nat.le_of_ble_eq_true rfl) (by decide) (by kernel_rfl) rfl ?_
  simp [h0]
theorem parts21 : LC Tryz.prog EJ 9 [str s, str t] H = some (.bool true, H) := by
  refine LC_pure rfl Tryz.func9 rfl (Nat.le_of_ble_eq_true rfl) (by decide) (by kernel_rfl) rfl ?_
  have h1 := fun H : LH => cut_k (H := H) (s := s) (k := 60) (by decide)
  have h2 := fun H : LH => cut_k (H := H) (s := t) (k := 2000) (by decide)
  simp only [show ((60 : Int).toNat) = 60 from rfl, show ((2000 : Int).toNat) = 2000 from rfl] at h1 h2
  generalize s.take 60 = a at *
  generalize t.take 2000 = b at *
  have g1 := fun H : LH => bug_k (H := H) (s := a)
  have g2 := fun H : LH => rbug_k (H := H) (s := a)
  have g3 := fun H : LH => image_k (H := H) (s := b)
  have g4 := fun H : LH => rimage_k (H := H) (s := b)
  have g5 := fun H : LH => media_k (H := H) (s := b)
  have g6 := fun H : LH => rmedia_k (H := H) (s := b)
  have g7 := fun H : LH => lives21_k (H := H)
  generalize Tg.Un.film (b.take 1445) = x at *
  generalize Tg.Un.typeOf (b.take 1445) Tg.Un.imageL = y at *
  generalize Tg.Sn.bug a = z at *
  simp [h1, h2, g1, g2, g3, g4, g5, g6, g7]
end
end Sn
end Go.Proofs.YtombmblgmbjieaaGreatDoor
/-
  Layer 21 (sniff): groups of types, whatever the parameters.
-/
set_option linter.unusedSimpArgs false
set_option linter.unusedVariables false
set_option maxRecDepth 100000
namespace Go.Proofs.YtombmblgmbjieaaGreatDoor.Sn
open Go.Lg Go.Tg
/-- a type, and what is said of a body, as values: p holds the parameters -/
abbrev mvp (a b : List UInt8) (p : Value) : Value := .agg #[str a, str b, p]
abbrev svp (a b : List UInt8) (p : Value) (h n g : Bool) : Value := .agg #[str a, str b, p, .bool h, .bool n, .bool g]
section
variable {H : LH} {s t : List UInt8} {pa : Option Addr} {pl pc : Nat}
theorem suffix_cl {p q : List UInt8} (hp : p.length ≤ 1000000) : LC Tryz.prog EJ 161 [str p, str q] H = some (.bool (decide (q.length ≤ p.length) && decide (p.drop (p.length - q.length) = q)), H) := by
  refine LC_pure rfl Tryz.func161 rfl (Nat.le_of_ble_eq_true rfl) (by decide) (by kernel_rfl) rfl ?_
  have h1 : ∀ H : LH, LC Tryz.prog EJ 203 [str p, str q] H = some (.bool (decide (q.length ≤ p.length) && decide (p.drop (p.length - q.length) = q)), H) := fun H => by
    refine LC_pure rfl Tryz.func203 rfl (Nat.le_of_ble_eq_true rfl) (by decide) (by kernel_rfl) rfl ?_
    by_cases h : q.length ≤ p.length
    · have e := eq_true (show (q.length : Int) ≤ (p.length : Int) by omega)
      have hw : IntKind.i64.wrap ((p.length : Int) - (q.length : Int)) = ((p.length - q.length : Nat) : Int) := by rw [wrapI (by omega) (by omega)]; omega
      have e2 := eq_true (show ((p.length - q.length : Nat) : Int) ≤ (p.length : Int) by omega)
      have e3 := eq_true (show (0 : Int) ≤ ((p.length - q.length : Nat) : Int) by omega)
      have e4 : (((p.length - q.length : Nat) : Int)).toNat = p.length - q.length := Int.toNat_natCast _
      rw [decide_eq_true h, Bool.true_and]
      generalize ((p.length - q.length : Nat) : Int) = d at *
      generalize p.length - q.length = d' at *
      simp [e, hw, e2, e3, e4]
    · have e := eq_false (show ¬ (q.length : Int) ≤ (p.length : Int) by omega)
      rw [decide_eq_false h, Bool.false_and]
      simp [e]
  simp [h1]
theorem ends_cl {p q : List UInt8} (hp : p.length ≤ 1000000) : LC Tryz.prog EJ 83 [str p, str q] H = some (.bool (decide (q.length ≤ p.length) && decide (p.drop (p.length - q.length) = q)), H) := by
  refine LC_pure rfl Tryz.func83 rfl (Nat.le_of_ble_eq_true rfl) (by decide) (by kernel_rfl) rfl ?_
  by_cases h : q.length ≤ p.length
  · have e := eq_true (show (q.length : Int) ≤ (p.length : Int) by omega)
    have hw : IntKind.i64.wrap ((p.length : Int) - (q.length : Int)) = ((p.length - q.length : Nat) : Int) := by rw [wrapI (by omega) (by omega)]; omega
    have e2 := eq_true (show ((p.length - q.length : Nat) : Int) ≤ (p.length : Int) by omega)
    have e3 := eq_true (show (0 : Int) ≤ ((p.length - q.length : Nat) : Int) by omega)
    have e4 : (((p.length - q.length : Nat) : Int)).toNat = p.length - q.length := Int.toNat_natCast _
    rw [decide_eq_true h, Bool.true_and]
    generalize ((p.length - q.length : Nat) : Int) = d at *
    generalize p.length - q.length = d' at *
    simp [e, hw, e2, e3, e4]
  · have e := eq_false (show ¬ (q.length : Int) ≤ (p.length : Int) by omega)
    rw [decide_eq_false h, Bool.false_and]
    simp [e]
theorem ress_cl (h : s.length + t.length ≤ 1000000) : LC Tryz.prog EJ 34 [mvp s t (.slice pa pl pc)] H = some (str (s ++ 47 :: t), H) := by
  refine LC_pure rfl Tryz.func34 rfl (Nat.le_of_ble_eq_true rfl) (by decide) (by kernel_rfl) rfl ?_
  have q1 := eq_true (show s.length + 1 ≤ 9223372036854775807 by omega)
  have q2 := eq_true (show s.length + 1 + t.length ≤ 9223372036854775807 by omega)
  simp [q1, q2]
theorem rhtml12_cl (h : s.length + t.length ≤ 1000000) : LC Tryz.prog EJ 38 [mvp s t (.slice pa pl pc)] H = some (.bool (decide (s ++ 47 :: t = [116, 101, 120, 116, 47, 104, 116, 109, 108])), H) := by
  refine LC_pure rfl Tryz.func38 rfl (Nat.le_of_ble_eq_true rfl) (by decide) (by kernel_rfl) rfl ?_
  have h1 := fun H : LH => ress_cl (H := H) (pa := pa) (pl := pl) (pc := pc) h
  generalize s ++ 47 :: t = e at *
  simp [h1]
theorem fields_k {u : List UInt8} {ws : List (List UInt8)} {n : Nat} (hl : u.length ≤ 1000000) (ha : (u.all fun b => decide (b.toNat < 128)) = true) (hf : Lib.fields u = ws) (hn : ws.length = n) (hw : n ≤ 1000) (ht : Tab H) : LC Tryz.prog EJ 202 [str u] H = some (sl H.n n n, H.new ⟨ws.map str, 9, true⟩) := by
  refine LC_ext (s := specFields) rfl ?_
  have e : (⟨u.toArray⟩ : ByteArray).data.toList = u := by simp
  simp only [specFields, str, e, hf, hn]
  have ha' : ∀ (j : Nat) b, u[j]? = some b → b.toNat < 128 := fun j b hb => by
    have := List.all_eq_true.1 ha b (List.mem_of_getElem? hb)
    simpa using this
  rw [if_pos ⟨by rw [ba_size]; omega, ha', ht, by simp [maxLen, hf, hn]; omega⟩]
  rfl
theorem under_k {k u : List UInt8} {ws : List (List UInt8)} {n : Nat} (hl : u.length ≤ 1000000) (ha : (u.all fun b => decide (b.toNat < 128)) = true) (hf : Lib.fields u = ws) (hn : ws.length = n) (hw : n ≤ 1000) (ht : Tab H) : LC Tryz.prog EJ 160 [mvp s t (.slice pa pl pc), str k, str u] H = some (.bool (decide (s = k) && decide (t ∈ ws)), H) := by
  refine LC_pure rfl Tryz.func160 rfl (Nat.le_of_ble_eq_true rfl) (by decide) (by kernel_rfl) rfl ?_
  by_cases h : s = k
  · have h1 := fields_k (H := H.new ⟨[str s, str t, .slice pa pl pc], 36, true⟩) hl ha hf hn hw (show Tab (H.new _) from ht)
    have h2 : LC Tryz.prog EJ 125 [sl (H.n + 1) n n, str t] ((H.new ⟨[str s, str t, .slice pa pl pc], 36, true⟩).new ⟨ws.map str, 9, true⟩) = some (.bool (decide (t ∈ ws)), (H.new ⟨[str s, str t, .slice pa pl pc], 36, true⟩).new ⟨ws.map str, 9, true⟩) := by
      refine up rfl (contS_cl ?_ (by omega))
      rw [← hn]
      exact SRow.of (k := (H.new ⟨[str s, str t, .slice pa pl pc], 36, true⟩).n) (c := ws.length) (rest := []) (by rw [get_new, List.append_nil]) (Nat.lt_succ_self _)
    rw [decide_eq_true h, Bool.true_and]
    generalize decide (t ∈ ws) = b at *
    subst h
    simp only [n_new] at h1
    simp [h1, h2]
  · rw [decide_eq_false h, Bool.false_and]
    have q := eq_false h
    simp [q]
end
end Go.Proofs.YtombmblgmbjieaaGreatDoor.Sn
/-
  Layer 21 (sniff): HTML, XML, media, and what nobody says, by the program and by the reference.
-/
set_option linter.unusedSimpArgs false
set_option linter.unusedVariables false
set_option maxRecDepth 100000
namespace Tg.Sn
theorem slash_eq : ∀ (a s : List UInt8) {b t : List UInt8}, (47 : UInt8) ∉ a → (47 : UInt8) ∉ b → (s ++ 47 :: t = a ++ 47 :: b ↔ s = a ∧ t = b)
  | [], [], b, t, _, _ => by simp
  | [], c :: s, b, t, _, hb => by
    constructor
    · intro h
      injection h with h1 h2
      exact absurd (h2 ▸ List.mem_append_right s (List.mem_cons_self ..)) hb
    · rintro ⟨h, _⟩; cases h
  | d :: a, [], b, t, ha, _ => by
    constructor
    · intro h
      injection h with h1 h2
      exact absurd (h1 ▸ List.mem_cons_self ..) ha
    · rintro ⟨h, _⟩; cases h
  | d :: a, c :: s, b, t, ha, hb => by
    have ih := slash_eq a s (b := b) (t := t) (fun h => ha (List.mem_cons_of_mem _ h)) hb
    constructor
    · intro h
      injection h with h1 h2
      obtain ⟨e1, e2⟩ := ih.1 h2
      exact ⟨by rw [h1, e1], e2⟩
    · rintro ⟨h, e⟩
      injection h with h1 h2
      rw [h1, h2, e]
def textT : List UInt8 := [116, 101, 120, 116]
def appT : List UInt8 := [97, 112, 112, 108, 105, 99, 97, 116, 105, 111, 110]
def isHtml (s t : List UInt8) : Bool := decide (s = [116, 101, 120, 116]) && decide (t = [104, 116, 109, 108])
def isXml (s t : List UInt8) : Bool := (decide (4 ≤ t.length) && decide (t.drop (t.length - 4) = [43, 120, 109, 108])) || ((decide (s = [116, 101, 120, 116]) && decide (t = [120, 109, 108])) || (decide (s = [97, 112, 112, 108, 105, 99, 97, 116, 105, 111, 110]) && decide (t = [120, 109, 108])))
def isMedia (s t : List UInt8) : Bool := decide (s = [97, 117, 100, 105, 111]) || (decide (s = [118, 105, 100, 101, 111]) || (decide (s = [97, 112, 112, 108, 105, 99, 97, 116, 105, 111, 110]) && decide (t = [111, 103, 103])))
theorem ess_dec {s t a b c : List UInt8} (ha : (47 : UInt8) ∉ a) (hb : (47 : UInt8) ∉ b) (hc : c = a ++ 47 :: b) : decide (s ++ 47 :: t = c) = (decide (s = a) && decide (t = b)) := by
  subst hc
  rw [Bool.eq_iff_iff, Bool.and_eq_true, decide_eq_true_iff, decide_eq_true_iff, decide_eq_true_iff]
  exact slash_eq a s ha hb
end Tg.Sn
namespace Go.Proofs.YtombmblgmbjieaaGreatDoor.Sn
open Go.Lg Go.Tg
section
variable {H : LH} {s t : List UInt8} {pa : Option Addr} {pl pc : Nat}
theorem rhtml12_k (h : s.length + t.length ≤ 1000000) : LC Tryz.prog EJ 38 [mvp s t (.slice pa pl pc)] H = some (.bool (Tg.Sn.isHtml s t), H) := by
  have e := Tg.Sn.ess_dec (s := s) (t := t) (a := [116, 101, 120, 116]) (b := [104, 116, 109, 108]) (c := [116, 101, 120, 116, 47, 104, 116, 109, 108]) (by decide) (by decide) rfl
  rw [rhtml12_cl h, e]
  rfl
theorem ghtml_k (ht : Tab H) : LC Tryz.prog EJ 119 [mvp s t (.slice pa pl pc)] H = some (.bool (Tg.Sn.isHtml s t), H) := by
  refine LC_pure rfl Tryz.func119 rfl (Nat.le_of_ble_eq_true rfl) (by decide) (by kernel_rfl) rfl ?_
  have h1 := under_k (H := H.new ⟨[str s, str t, .slice pa pl pc], 36, true⟩) (s := s) (t := t) (pa := pa) (pl := pl) (pc := pc) (k := [116, 101, 120, 116]) (u := [104, 116, 109, 108]) (ws := [[104, 116, 109, 108]]) (n := 1) (by decide) (by decide) (by decide +kernel) rfl (by decide) (show Tab (H.new _) from ht)
  have e : (decide (s = [116, 101, 120, 116]) && decide (t ∈ [[104, 116, 109, 108]])) = Tg.Sn.isHtml s t := by unfold Tg.Sn.isHtml; simp
  rw [e] at h1
  simp [h1]
theorem one_cl {v : Value} {xs : List (List UInt8)} {x : List UInt8} (hr : SRow H v xs) (hl : xs.length ≤ 1000) : LC Tryz.prog EJ 84 [str x, v] H = some (.bool (decide (x ∈ xs)), H) := by
  refine LC_pure rfl Tryz.func84 rfl (Nat.le_of_ble_eq_true rfl) (by decide) (by kernel_rfl) rfl ?_
  obtain ⟨b, hb⟩ : ∃ b, b = decide (x ∈ xs.drop 0) := ⟨_, rfl⟩
  have e : decide (x ∈ xs) = b := hb.symm
  rw [e]
  have hlen := fun H' : LH => hr.len (H' := H')
  simp
  refine loop_ind (fun (j : Nat) fr' H' => fr' 0 = str x ∧ fr' 1 = v ∧ fr' 5 = .int .i64 j ∧ j ≤ xs.length ∧ b = decide (x ∈ xs.drop j) ∧ H' = H) (fun j => xs.length - j) 0 ⟨by simp, by simp, by simp, Nat.zero_le _, hb, rfl⟩ ?_
  rintro j fr' H' ⟨h0, h1, h5, hj, hc, rfl⟩ ih
  by_cases hlt : j < xs.length
  · have q := eq_true (show (j : Int) < (xs.length : Int) by omega)
    have hw : IntKind.i64.wrap ((j : Int) + 1) = ((j + 1 : Nat) : Int) := by rw [wrapI (by omega) (by omega)]; omega
    obtain ⟨k2, o, g1, g2, g3⟩ := hr.at hlt
    have g4 := g3 H' rfl
    rw [List.drop_eq_getElem_cons hlt] at hc
    generalize xs[j] = a at *
    by_cases hf : a = x
    · have hc : b = true := by rw [hc]; simp [hf]
      subst hc
      simp [h0, h1, h5, hlen, q, hlt, g1, g4, hf]
    · have hc : b = decide (x ∈ xs.drop (j + 1)) := by rw [hc]; simp [Ne.symm hf]
      simp [h0, h1, h5, hlen, q, hlt, g1, g4, hf]
      refine ih (j + 1) _ _ (by omega) ⟨?_, ?_, ?_, by omega, hc, rfl⟩
      all_goals simp [h0, h1, hw]
  · have q := eq_false (show ¬ (j : Int) < (xs.length : Int) by omega)
    have hc : b = false := by rw [hc, List.drop_of_length_le (by omega)]; simp
    subst hc
    simp [h0, h1, h5, hlen, q, hlt]
theorem gxml_k (hl : t.length ≤ 1000000) (ht : Tab H) : LC Tryz.prog EJ 120 [mvp s t (.slice pa pl pc)] H = some (.bool (Tg.Sn.isXml s t), H) := by
  refine LC_pure rfl Tryz.func120 rfl (Nat.le_of_ble_eq_true rfl) (by decide) (by kernel_rfl) rfl ?_
  have h0 := fun H : LH => suffix_cl (H := H) (q := [43, 120, 109, 108]) hl
  simp only [List.length_cons, List.length_nil] at h0
  have h1 := under_k (H := H.new ⟨[str s, str t, .slice pa pl pc], 36, true⟩) (s := s) (t := t) (pa := pa) (pl := pl) (pc := pc) (k := [116, 101, 120, 116]) (u := [120, 109, 108]) (ws := [[120, 109, 108]]) (n := 1) (by decide) (by decide) (by decide +kernel) rfl (by decide) (show Tab (H.new _) from ht)
  have h2 := under_k (H := H.new ⟨[str s, str t, .slice pa pl pc], 36, true⟩) (s := s) (t := t) (pa := pa) (pl := pl) (pc := pc) (k := [97, 112, 112, 108, 105, 99, 97, 116, 105, 111, 110]) (u := [120, 109, 108]) (ws := [[120, 109, 108]]) (n := 1) (by decide) (by decide) (by decide +kernel) rfl (by decide) (show Tab (H.new _) from ht)
  have e : ∀ k : List UInt8, (decide (s = k) && decide (t ∈ [[120, 109, 108]])) = (decide (s = k) && decide (t = [120, 109, 108])) := fun k => by simp
  rw [e] at h1 h2
  unfold Tg.Sn.isXml
  generalize (decide (s = [116, 101, 120, 116]) && decide (t = [120, 109, 108])) = b1 at *
  generalize (decide (s = [97, 112, 112, 108, 105, 99, 97, 116, 105, 111, 110]) && decide (t = [120, 109, 108])) = b2 at *
  generalize (decide (0 + 1 + 1 + 1 + 1 ≤ t.length) && decide (t.drop (t.length - (0 + 1 + 1 + 1 + 1)) = [43, 120, 109, 108])) = b3 at *
  cases b3 <;> cases b1 <;> cases b2 <;> simp [h0, h1, h2]
theorem gmedia_k (ht : Tab H) : LC Tryz.prog EJ 163 [mvp s t (.slice pa pl pc)] H = some (.bool (Tg.Sn.isMedia s t), H) := by
  refine LC_pure rfl Tryz.func163 rfl (Nat.le_of_ble_eq_true rfl) (by decide) (by kernel_rfl) rfl ?_
  have h2 := under_k (H := H.new ⟨[str s, str t, .slice pa pl pc], 36, true⟩) (s := s) (t := t) (pa := pa) (pl := pl) (pc := pc) (k := [97, 112, 112, 108, 105, 99, 97, 116, 105, 111, 110]) (u := [111, 103, 103]) (ws := [[111, 103, 103]]) (n := 1) (by decide) (by decide) (by decide +kernel) rfl (by decide) (show Tab (H.new _) from ht)
  have e : (decide (s = [97, 112, 112, 108, 105, 99, 97, 116, 105, 111, 110]) && decide (t ∈ [[111, 103, 103]])) = (decide (s = [97, 112, 112, 108, 105, 99, 97, 116, 105, 111, 110]) && decide (t = [111, 103, 103])) := by simp
  rw [e] at h2
  unfold Tg.Sn.isMedia
  generalize (decide (s = [97, 112, 112, 108, 105, 99, 97, 116, 105, 111, 110]) && decide (t = [111, 103, 103])) = b2 at *
  by_cases h1 : s = [97, 117, 100, 105, 111]
  · simp [h1]
  · by_cases h3 : s = [118, 105, 100, 101, 111]
    · simp [h3]
    · cases b2 <;> simp [h1, h3, h2]
end
end Go.Proofs.YtombmblgmbjieaaGreatDoor.Sn
/-
  Layer 21 (sniff): HTML, XML, media, and what nobody says, by the reference; the essence.
-/
set_option linter.unusedSimpArgs false
set_option linter.unusedVariables false
set_option maxRecDepth 100000
namespace Go.Proofs.YtombmblgmbjieaaGreatDoor.Sn
open Go.Lg Go.Tg
section
variable {H : LH} {s t : List UInt8} {pa : Option Addr} {pl pc : Nat} {h n g : Bool}
theorem ess_k (h : s.length + t.length ≤ 1000000) : LC Tryz.prog EJ 81 [mvp s t (.slice pa pl pc)] H = some (str (s ++ 47 :: t), H) := by
  have h1 : ∀ H : LH, LC Tryz.prog EJ 124 [mvp s t (.slice pa pl pc)] H = some (str (s ++ 47 :: t), H) := fun H => by
    refine LC_pure rfl Tryz.func124 rfl (Nat.le_of_ble_eq_true rfl) (by decide) (by kernel_rfl) rfl ?_
    have q1 := eq_true (show s.length + 1 ≤ 9223372036854775807 by omega)
    have q2 := eq_true (show s.length + 1 + t.length ≤ 9223372036854775807 by omega)
    simp [q1, q2]
  refine LC_pure rfl Tryz.func81 rfl (Nat.le_of_ble_eq_true rfl) (by decide) (by kernel_rfl) rfl ?_
  generalize s ++ 47 :: t = e at *
  simp [h1]
theorem gimage_k : LC Tryz.prog EJ 122 [mvp s t (.slice pa pl pc)] H = some (.bool (decide (s = [105, 109, 97, 103, 101])), H) := by
  refine LC_pure rfl Tryz.func122 rfl (Nat.le_of_ble_eq_true rfl) (by decide) (by kernel_rfl) rfl ?_
  simp
theorem open_k (hl : s.length + t.length ≤ 1000000) : LC Tryz.prog EJ 82 [svp s t (.slice pa pl pc) h n g] H = some (.bool (opens s t h), H) := by
  refine LC_pure rfl Tryz.func82 rfl (Nat.le_of_ble_eq_true rfl) (by decide) (by kernel_rfl) rfl ?_
  have h1 := fun H : LH => ess_k (H := H) (pa := pa) (pl := pl) (pc := pc) hl
  unfold opens
  cases h with
  | false => simp
  | true =>
    have hm : opensL.map str = [str [117, 110, 107, 110, 111, 119, 110, 47, 117, 110, 107, 110, 111, 119, 110], str [97, 112, 112, 108, 105, 99, 97, 116, 105, 111, 110, 47, 117, 110, 107, 110, 111, 119, 110], str [42, 47, 42]] := rfl
    have h3 : LC Tryz.prog EJ 125 [sl (H.n + 1) 3 3, str (s ++ 47 :: t)] ((H.new ⟨[str s, str t, .slice pa pl pc, .bool true, .bool n, .bool g], 38, true⟩).new ⟨opensL.map str, 9, true⟩) = some (.bool (decide (s ++ 47 :: t ∈ opensL)), (H.new ⟨[str s, str t, .slice pa pl pc, .bool true, .bool n, .bool g], 38, true⟩).new ⟨opensL.map str, 9, true⟩) :=
      up rfl (contS_cl (xs := opensL) (SRow.of (k := (H.new ⟨[str s, str t, .slice pa pl pc, .bool true, .bool n, .bool g], 38, true⟩).n) (c := 3) (rest := []) (by rw [get_new, List.append_nil]) (Nat.lt_succ_self _)) (by decide))
    rw [hm] at h3
    generalize decide (s ++ 47 :: t ∈ opensL) = b at *
    generalize s ++ 47 :: t = e at *
    simp [h1, bsS, denseB, h3]
theorem unknown_k (hl : s.length + t.length ≤ 1000000) : LC Tryz.prog EJ 35 [svp s t (.slice pa pl pc) h n g] H = some (.bool (opens s t h), H) := by
  refine LC_pure rfl Tryz.func35 rfl (Nat.le_of_ble_eq_true rfl) (by decide) (by kernel_rfl) rfl ?_
  have h1 := fun H : LH => open_k (H := H) (pa := pa) (pl := pl) (pc := pc) (h := h) (n := n) (g := g) hl
  simp [h1]
theorem runknown_k (hl : s.length + t.length ≤ 1000000) : LC Tryz.prog EJ 36 [svp s t (.slice pa pl pc) h n g] H = some (.bool (opens s t h), H) := by
  refine LC_pure rfl Tryz.func36 rfl (Nat.le_of_ble_eq_true rfl) (by decide) (by kernel_rfl) rfl ?_
  have h1 := fun H : LH => ress_cl (H := H) (pa := pa) (pl := pl) (pc := pc) hl
  unfold opens
  generalize s ++ 47 :: t = e at *
  cases h with
  | false => simp [h1]
  | true =>
    have e1 : decide (e ∈ opensL) = (decide (e = [117, 110, 107, 110, 111, 119, 110, 47, 117, 110, 107, 110, 111, 119, 110]) || (decide (e = [97, 112, 112, 108, 105, 99, 97, 116, 105, 111, 110, 47, 117, 110, 107, 110, 111, 119, 110]) || decide (e = [42, 47, 42]))) := by
      unfold opensL
      simp
    rw [e1]
    by_cases c1 : e = [117, 110, 107, 110, 111, 119, 110, 47, 117, 110, 107, 110, 111, 119, 110]
    · simp [h1, c1]
    · by_cases c2 : e = [97, 112, 112, 108, 105, 99, 97, 116, 105, 111, 110, 47, 117, 110, 107, 110, 111, 119, 110]
      · simp [h1, c2]
      · simp [h1, c1, c2]
theorem rmedia12_k (hl : s.length + t.length ≤ 1000000) : LC Tryz.prog EJ 79 [mvp s t (.slice pa pl pc)] H = some (.bool (Tg.Sn.isMedia s t), H) := by
  refine LC_pure rfl Tryz.func79 rfl (Nat.le_of_ble_eq_true rfl) (by decide) (by kernel_rfl) rfl ?_
  have h1 := fun H : LH => ress_cl (H := H) (pa := pa) (pl := pl) (pc := pc) hl
  have e := Tg.Sn.ess_dec (s := s) (t := t) (a := [97, 112, 112, 108, 105, 99, 97, 116, 105, 111, 110]) (b := [111, 103, 103]) (c := [97, 112, 112, 108, 105, 99, 97, 116, 105, 111, 110, 47, 111, 103, 103]) (by decide) (by decide) rfl
  unfold Tg.Sn.isMedia
  rw [← e]
  generalize s ++ 47 :: t = x at *
  by_cases c1 : s = [97, 117, 100, 105, 111]
  · simp [c1]
  · by_cases c3 : s = [118, 105, 100, 101, 111]
    · simp [c3]
    · simp [c1, c3, h1]
theorem mem2 {x a b : List UInt8} : decide (x ∈ [a, b]) = (decide (x = b) || decide (x = a)) := by
  rw [Bool.eq_iff_iff, Bool.or_eq_true, decide_eq_true_iff, decide_eq_true_iff, decide_eq_true_iff]
  simp only [List.mem_cons, List.not_mem_nil, or_false]
  exact Or.comm
theorem rxml12_k (hl : s.length + t.length ≤ 1000000) : LC Tryz.prog EJ 39 [mvp s t (.slice pa pl pc)] H = some (.bool (Tg.Sn.isXml s t), H) := by
  refine LC_pure rfl Tryz.func39 rfl (Nat.le_of_ble_eq_true rfl) (by decide) (by kernel_rfl) rfl ?_
  have h0 := fun H : LH => ends_cl (H := H) (p := t) (q := [43, 120, 109, 108]) (by omega)
  simp only [List.length_cons, List.length_nil] at h0
  have h1 := fun H : LH => ress_cl (H := H) (pa := pa) (pl := pl) (pc := pc) hl
  have e1 := Tg.Sn.ess_dec (s := s) (t := t) (a := [97, 112, 112, 108, 105, 99, 97, 116, 105, 111, 110]) (b := [120, 109, 108]) (c := [97, 112, 112, 108, 105, 99, 97, 116, 105, 111, 110, 47, 120, 109, 108]) (by decide) (by decide) rfl
  have e2 := Tg.Sn.ess_dec (s := s) (t := t) (a := [116, 101, 120, 116]) (b := [120, 109, 108]) (c := [116, 101, 120, 116, 47, 120, 109, 108]) (by decide) (by decide) rfl
  unfold Tg.Sn.isXml
  rw [← e1, ← e2]
  generalize s ++ 47 :: t = x at *
  have h3 : LC Tryz.prog EJ 84 [str x, sl (H.n + 1) 2 2] ((H.new ⟨[str s, str t, .slice pa pl pc], 36, true⟩).new ⟨[str [97, 112, 112, 108, 105, 99, 97, 116, 105, 111, 110, 47, 120, 109, 108], str [116, 101, 120, 116, 47, 120, 109, 108]], 9, true⟩) = some (.bool (decide (x = [116, 101, 120, 116, 47, 120, 109, 108]) || decide (x = [97, 112, 112, 108, 105, 99, 97, 116, 105, 111, 110, 47, 120, 109, 108])), (H.new ⟨[str s, str t, .slice pa pl pc], 36, true⟩).new ⟨[str [97, 112, 112, 108, 105, 99, 97, 116, 105, 111, 110, 47, 120, 109, 108], str [116, 101, 120, 116, 47, 120, 109, 108]], 9, true⟩) := by
    have := one_cl (x := x) (xs := [[97, 112, 112, 108, 105, 99, 97, 116, 105, 111, 110, 47, 120, 109, 108], [116, 101, 120, 116, 47, 120, 109, 108]]) (SRow.of (H := (H.new ⟨[str s, str t, .slice pa pl pc], 36, true⟩).new ⟨[str [97, 112, 112, 108, 105, 99, 97, 116, 105, 111, 110, 47, 120, 109, 108], str [116, 101, 120, 116, 47, 120, 109, 108]], 9, true⟩) (k := (H.new ⟨[str s, str t, .slice pa pl pc], 36, true⟩).n) (c := 2) (rest := []) (by rw [get_new]; rfl) (Nat.lt_succ_self _)) (by decide)
    rw [mem2] at this
    exact this
  generalize (decide (x = [116, 101, 120, 116, 47, 120, 109, 108]) || decide (x = [97, 112, 112, 108, 105, 99, 97, 116, 105, 111, 110, 47, 120, 109, 108])) = b2 at *
  generalize (decide (0 + 1 + 1 + 1 + 1 ≤ t.length) && decide (t.drop (t.length - (0 + 1 + 1 + 1 + 1)) = [43, 120, 109, 108])) = b3 at *
  cases b3 <;> cases b2 <;> simp [h0, h1, h3, bsS, denseB]
end
end Go.Proofs.YtombmblgmbjieaaGreatDoor.Sn
/-
  Layer 21 (sniff): what any body is, whatever is said of it.
-/
set_option linter.unusedSimpArgs false
set_option linter.unusedVariables false
set_option maxRecDepth 100000
namespace Tg.Sn
open Tg.Un
/-- what a body is of which this is said -/
def told (s t : List UInt8) (g n : Bool) (u : List UInt8) : List UInt8 :=
  if (isHtml s t || (isXml s t || n)) = true then s ++ 47 :: t
  else if g = true then rule (u.take 1445)
  else if s = [105, 109, 97, 103, 101] ∧ typeOf (u.take 1445) imageL ≠ [] then typeOf (u.take 1445) imageL
  else if isMedia s t = true ∧ film (u.take 1445) ≠ [] then film (u.take 1445)
  else s ++ 47 :: t
end Tg.Sn
namespace Go.Proofs.YtombmblgmbjieaaGreatDoor.Sn
open Go.Lg Go.Tg
/-- what a body is -/
def ty21 (s t : List UInt8) (h n g : Bool) (u : List UInt8) : List UInt8 := if opens s t h = true then Tg.Un.type u (!n) else Tg.Sn.told s t g n u
section
variable {H : LH} {s t u : List UInt8} {pa : Option Addr} {pl pc : Nat} {h n g : Bool}
theorem rtype21_k (hl : s.length + t.length ≤ 1000000) : LC Tryz.prog EJ 31 [svp s t (.slice pa pl pc) h n g, str u] H = some (str (ty21 s t h n g u), H) := by
  refine LC_pure rfl Tryz.func31 rfl (Nat.le_of_ble_eq_true rfl) (by decide) (by kernel_rfl) rfl ?_
  have h1 := fun H : LH => ress_cl (H := H) (pa := pa) (pl := pl) (pc := pc) hl
  have h2 := fun H : LH => runknown_k (H := H) (pa := pa) (pl := pl) (pc := pc) (h := h) (n := n) (g := g) hl
  have h3 : ∀ H : LH, LC Tryz.prog EJ 15 [str u, .bool (!n)] H = some (str (Tg.Un.type u (!n)), H) := fun H => up rfl rtype20_cl
  have h4 := fun H : LH => rhtml12_k (H := H) (pa := pa) (pl := pl) (pc := pc) hl
  have h5 := fun H : LH => rxml12_k (H := H) (pa := pa) (pl := pl) (pc := pc) hl
  have h6 : ∀ H : LH, LC Tryz.prog EJ 58 [str u] H = some (str (u.take 1445), H) := fun H => up rfl rcut19_cl
  have h7 : ∀ H : LH, LC Tryz.prog EJ 78 [str (u.take 1445)] H = some (str (Tg.Sn.rule (u.take 1445)), H) := fun H => up rfl (rrule_cl (by rw [List.length_take]; omega))
  have h8 := fun H : LH => rimage_k (H := H) (s := u)
  have h9 := fun H : LH => rmedia_k (H := H) (s := u)
  have ha := fun H : LH => rmedia12_k (H := H) (pa := pa) (pl := pl) (pc := pc) hl
  unfold ty21 Tg.Sn.told
  generalize Tg.Sn.rule (u.take 1445) = x1 at *
  generalize Tg.Un.typeOf (u.take 1445) Tg.Un.imageL = x2 at *
  generalize Tg.Un.film (u.take 1445) = x3 at *
  generalize u.take 1445 = w at *
  generalize Tg.Un.type u (!n) = y at *
  generalize opens s t h = b1 at *
  generalize Tg.Sn.isHtml s t = b2 at *
  generalize Tg.Sn.isXml s t = b3 at *
  generalize Tg.Sn.isMedia s t = b4 at *
  generalize s ++ 47 :: t = e at *
  cases b1 with
  | true => simp [h1, h2, h3]
  | false =>
    rw [if_neg (by decide)]
    cases b2 with
    | true => simp [h1, h2, h4]
    | false =>
      cases b3 with
      | true => simp [h1, h2, h4, h5]
      | false =>
        cases n with
        | true => simp [h1, h2, h4, h5]
        | false =>
          cases g with
          | true => simp [h1, h2, h4, h5, h6, h7]
          | false =>
            by_cases c1 : s = [105, 109, 97, 103, 101]
            · have c1 := eq_true c1
              by_cases c2 : x2 = []
              · cases b4 with
                | false => simp [h1, h2, h4, h5, h8, h9, ha, c1, c2]
                | true => by_cases c3 : x3 = [] <;> simp [h1, h2, h4, h5, h8, h9, ha, c1, c2, c3]
              · simp [h1, h2, h4, h5, h8, c1, c2]
            · have c1 := eq_false c1
              cases b4 with
              | false => simp [h1, h2, h4, h5, h8, h9, ha, c1]
              | true => by_cases c3 : x3 = [] <;> simp [h1, h2, h4, h5, h8, h9, ha, c1, c3]
theorem mediaOr_k {own : List UInt8} (ht : Tab H) : LC Tryz.prog EJ 123 [svp s t (.slice pa pl pc) h n g, str u, str own] H = some (str (if Tg.Sn.isMedia s t = true ∧ Tg.Un.film (u.take 1445) ≠ [] then Tg.Un.film (u.take 1445) else own), H) := by
  refine LC_pure rfl Tryz.func123 rfl (Nat.le_of_ble_eq_true rfl) (by decide) (by kernel_rfl) rfl ?_
  have h1 := gmedia_k (H := H.new ⟨[str s, str t, .slice pa pl pc, .bool h, .bool n, .bool g], 38, true⟩) (s := s) (t := t) (pa := pa) (pl := pl) (pc := pc) (show Tab (H.new _) from ht)
  have h2 : ∀ H : LH, LC Tryz.prog EJ 86 [str u] H = some (str (Tg.Un.film (u.take 1445)), H) := fun H => film21_k
  generalize Tg.Un.film (u.take 1445) = x3 at *
  generalize Tg.Sn.isMedia s t = b4 at *
  cases b4 with
  | false => simp [h1]
  | true =>
    have h3 : LC Tryz.prog EJ 92 [sl (H.n + 1) 2 2] ((H.new ⟨[str s, str t, .slice pa pl pc, .bool h, .bool n, .bool g], 38, true⟩).new ⟨[str x3, str own], 9, true⟩) = some (str (Tg.Un.orS [x3, own]), (H.new ⟨[str s, str t, .slice pa pl pc, .bool h, .bool n, .bool g], 38, true⟩).new ⟨[str x3, str own], 9, true⟩) := up rfl (or_at (H := H.new ⟨[str s, str t, .slice pa pl pc, .bool h, .bool n, .bool g], 38, true⟩) (n := 2) (xs := [x3, own]) rfl (by decide))
    have e : (if true = true ∧ x3 ≠ [] then x3 else own) = Tg.Un.orS [x3, own] := by
      unfold Tg.Un.orS Tg.Un.orS Tg.Un.orS
      by_cases c : x3 = []
      · subst c
        by_cases c2 : own = [] <;> simp [c2]
      · simp [c]
    rw [e]
    generalize Tg.Un.orS [x3, own] = r at *
    simp [h1, h2, bsS, denseB, h3]
theorem skind_k (hl : s.length + t.length ≤ 1000000) (hm : MaxL H) (ht : Tab H) : LC Tryz.prog EJ 80 [svp s t (.slice pa pl pc) h n g, str u] H = some (str (ty21 s t h n g u), H) := by
  refine LC_pure rfl Tryz.func80 rfl (Nat.le_of_ble_eq_true rfl) (by decide) (by kernel_rfl) rfl ?_
  obtain ⟨H1, hH1⟩ : ∃ H1, H1 = H.new ⟨[str s, str t, .slice pa pl pc, .bool h, .bool n, .bool g], 38, true⟩ := ⟨_, rfl⟩
  have hm1 : MaxL H1 := by rw [hH1]; exact hm
  have ht1 : Tab H1 := by rw [hH1]; exact ht
  have h1 := fun H : LH => ess_k (H := H) (pa := pa) (pl := pl) (pc := pc) hl
  have h2 := fun H : LH => open_k (H := H) (pa := pa) (pl := pl) (pc := pc) (h := h) (n := n) (g := g) hl
  have h3 := type_k (H := H1) (s := u) (b := !n) hm1
  have h4 := ghtml_k (H := H1) (s := s) (t := t) (pa := pa) (pl := pl) (pc := pc) ht1
  have h5 := gxml_k (H := H1) (s := s) (t := t) (pa := pa) (pl := pl) (pc := pc) (by omega) ht1
  have h6 := fun H : LH => bcut_k (H := H) (s := u)
  have h7 : ∀ H : LH, LC Tryz.prog EJ 121 [str (u.take 1445)] H = some (str (Tg.Sn.rule (u.take 1445)), H) := fun H => up rfl (brule_cl (by rw [List.length_take]; omega))
  have h8 : ∀ H : LH, LC Tryz.prog EJ 85 [str u] H = some (str (Tg.Un.typeOf (u.take 1445) Tg.Un.imageL), H) := fun H => up rfl picture_cl
  have h9 := fun H : LH => gimage_k (H := H) (s := s) (t := t) (pa := pa) (pl := pl) (pc := pc)
  have ha := mediaOr_k (H := H1) (s := s) (t := t) (pa := pa) (pl := pl) (pc := pc) (h := h) (n := n) (g := g) (u := u) (own := s ++ 47 :: t) ht1
  have hb := fun xs : List (List UInt8) => fun hn => or_at (H := H1) (n := 2) (xs := xs) hn (by decide)
  have him : s = [105, 109, 97, 103, 101] → Tg.Sn.isMedia s t = false := by rintro rfl; unfold Tg.Sn.isMedia; simp
  rw [hH1] at h3 h4 h5 ha
  unfold ty21 Tg.Sn.told
  generalize Tg.Sn.rule (u.take 1445) = x1 at *
  generalize Tg.Un.typeOf (u.take 1445) Tg.Un.imageL = x2 at *
  generalize Tg.Un.film (u.take 1445) = x3 at *
  generalize u.take 1445 = w at *
  generalize Tg.Un.type u (!n) = y at *
  generalize opens s t h = b1 at *
  generalize Tg.Sn.isHtml s t = b2 at *
  generalize Tg.Sn.isXml s t = b3 at *
  generalize Tg.Sn.isMedia s t = b4 at *
  generalize s ++ 47 :: t = e at *
  cases b1 with
  | true => simp [h1, h2, h3]
  | false =>
    rw [if_neg (by decide)]
    cases b2 with
    | true => simp [h1, h2, h4]
    | false =>
      cases b3 with
      | true => simp [h1, h2, h4, h5]
      | false =>
        cases n with
        | true => simp [h1, h2, h4, h5]
        | false =>
          cases g with
          | true => simp [h1, h2, h4, h5, h6, h7]
          | false =>
            by_cases c1 : s = [105, 109, 97, 103, 101]
            · have hb4 := him c1
              subst hb4
              have hor : LC Tryz.prog EJ 92 [sl (H.n + 1) 2 2] (H1.new ⟨[str x2, str e], 9, true⟩) = some (str (Tg.Un.orS [x2, e]), H1.new ⟨[str x2, str e], 9, true⟩) := by
                have := hb [x2, e] rfl
                rw [show H1.n = H.n + 1 by rw [hH1]; rfl] at this
                exact up rfl this
              have eo : (if s = [105, 109, 97, 103, 101] ∧ x2 ≠ [] then x2 else if false = true ∧ x3 ≠ [] then x3 else e) = Tg.Un.orS [x2, e] := by
                unfold Tg.Un.orS Tg.Un.orS Tg.Un.orS
                by_cases c : x2 = []
                · subst c
                  by_cases c2 : e = [] <;> simp [c2]
                · simp [c, c1]
              have c1 := eq_true c1
              rw [if_neg (by decide), if_neg (by decide), eo]
              rw [if_neg (by rintro ⟨h, _⟩; cases h)] at ha
              rw [hH1] at hor
              generalize Tg.Un.orS [x2, e] = r at *
              simp [h1, h2, h4, h5, h8, h9, ha, c1, bsS, denseB, hor]
            · have c1' := eq_false c1
              rw [if_neg (by decide), if_neg (by decide), if_neg (by rintro ⟨h, _⟩; exact c1 h)]
              generalize (if b4 = true ∧ x3 ≠ [] then x3 else e) = r at *
              simp [h1, h2, h4, h5, h9, ha, c1']
end
end Go.Proofs.YtombmblgmbjieaaGreatDoor.Sn
/-
  Layer 21 (sniff): rows of parameters; a type that is cut.
-/
set_option linter.unusedSimpArgs false
set_option linter.unusedVariables false
set_option maxRecDepth 100000
namespace Tg.Sn
open Go.Lg
abbrev Par := List UInt8 × List UInt8
def pcell (l : List Par) : List Go.Value := l.flatMap fun h => [str h.1, str h.2]
theorem pcell_cons (h : Par) (l : List Par) : pcell (h :: l) = str h.1 :: str h.2 :: pcell l := rfl
theorem pcell_app (a b : List Par) : pcell (a ++ b) = pcell a ++ pcell b := List.flatMap_append
theorem pcell_len : ∀ l : List Par, (pcell l).length = l.length * 2
  | [] => rfl
  | h :: l => by rw [pcell_cons]; simp [pcell_len l]; omega
theorem pcell_at : ∀ {l : List Par} {i : Nat} (h : i < l.length) (r : List Go.Value), ((pcell l ++ r).drop (i * 2)).take 2 = [str l[i].1, str l[i].2] ∧ (pcell l ++ r)[i * 2]? = some (str l[i].1) ∧ (pcell l ++ r)[i * 2 + 1]? = some (str l[i].2)
  | [], i, h, _ => by simp at h
  | x :: l, 0, h, r => by rw [pcell_cons]; exact ⟨rfl, rfl, rfl⟩
  | x :: l, i + 1, h, r => by
    have ih := pcell_at (l := l) (i := i) (by simpa using h) r
    rw [pcell_cons, show (i + 1) * 2 = i * 2 + 2 by omega]
    exact ih
end Tg.Sn
namespace Go.Proofs.YtombmblgmbjieaaGreatDoor.Sn
open Go.Lg Go.Tg
/-- v holds the parameters l, wherever they lie -/
def QRow (H : LH) (v : Value) (l : List Tg.Sn.Par) : Prop :=
  (v = .slice none 0 0 ∧ l = []) ∨ ∃ (k o c : Nat), v = .slice (some ⟨k, o, none⟩) l.length c ∧ (l ≠ [] → ∃ b : LB, H.get k = some b ∧ k < H.n ∧ ∀ (i : Nat) (h : i < l.length), o + i * 2 + 2 ≤ b.cells.length ∧ (b.cells.drop (o + i * 2)).take 2 = [str l[i].1, str l[i].2] ∧ b.cells[o + i * 2]? = some (str l[i].1) ∧ b.cells[o + i * 2 + 1]? = some (str l[i].2))
abbrev QOwn (N : Nat) (H : LH) (v : Value) (l : List Tg.Sn.Par) : Prop := RowN N H 92 2 v l.length (Tg.Sn.pcell l)
section
variable {H H' : LH} {v : Value} {l : List Tg.Sn.Par} {N : Nat}
theorem QRow.keep (h : QRow H v l) (hn : H.n ≤ H'.n) (hk : ∀ k, k < H.n → H'.get k = H.get k) : QRow H' v l := by
  rcases h with h | ⟨k, o, c, h1, h2⟩
  · exact .inl h
  · refine .inr ⟨k, o, c, h1, fun hne => ?_⟩
    obtain ⟨b, h2, h3, h4⟩ := h2 hne
    exact ⟨b, by rw [hk k h3]; exact h2, by omega, h4⟩
theorem QRow.len (h : QRow H v l) : lbuiltin Tryz.prog .len [34] [v] H' = some (.int .i64 l.length, H') := by
  rcases h with ⟨rfl, rfl⟩ | ⟨k, o, c, rfl, h2⟩
  · simp
  · simp
theorem QRow.at (h : QRow H v l) {i : Nat} (hi : i < l.length) : ∃ k o, (∀ H' : LH, lixa Tryz.prog 34 v (.int .i64 i) H' = some (ptr k o, H')) ∧ k < H.n ∧ ∀ H' : LH, H'.get k = H.get k →
    lld Tryz.prog 9 (ptr k o) H' = some (str l[i].1) ∧ lld Tryz.prog 9 (ptr k (o + 1)) H' = some (str l[i].2) := by
  rcases h with ⟨rfl, rfl⟩ | ⟨k, o, c, rfl, h2⟩
  · simp at hi
  · obtain ⟨b, h2, h3, h4⟩ := h2 (fun e => by rw [e] at hi; simp at hi)
    obtain ⟨g1, g2, g3, g4⟩ := h4 i hi
    refine ⟨k, o + i * 2, fun H' => ?_, h3, fun H' e => ?_⟩
    · have q := eq_true (show (i : Int) < (l.length : Int) by omega)
      simp [q]
    · rw [h2] at e
      have hlt : o + i * 2 < b.cells.length := by omega
      have hlt2 : o + i * 2 + 1 < b.cells.length := by omega
      rw [List.getElem?_eq_getElem hlt] at g3
      rw [List.getElem?_eq_getElem hlt2] at g4
      injection g3 with g3
      injection g4 with g4
      simp [e, g3, g4, hlt, hlt2]
theorem QOwn.row (h : QOwn N H v l) : QRow H v l := by
  rcases h.2 with ⟨rfl, h0⟩ | ⟨k, c, rest, rfl, h1, h2, h3, h4, h5⟩
  · exact .inl ⟨rfl, List.eq_nil_of_length_eq_zero h0⟩
  · refine .inr ⟨k, 0, c, rfl, fun _ => ⟨_, h3, h2, fun i hi => ?_⟩⟩
    have g := Tg.Sn.pcell_at hi rest
    have hl := Tg.Sn.pcell_len l
    simp only [Nat.zero_add]
    refine ⟨?_, g⟩
    rw [List.length_append, hl]; omega
theorem q_app (h : QOwn N H v l) (hN : N ≤ H.n) (hl : l.length ≤ 100000) (a b : List UInt8) :
    ∃ v' H2, lapp Tryz.prog 34 v (some (1, [str a, str b])) (H.new ⟨[str a, str b], 92, true⟩) = some (v', H2) ∧ QOwn N H2 v' (l ++ [(a, b)]) ∧ H.n < H2.n ∧ (∀ k, k < H.n → offRow v k → H2.get k = H.get k) ∧ H2.base = H.base ∧ H2.ng = H.ng := by
  have h2 : QOwn N (H.new ⟨[str a, str b], 92, true⟩) v l := h.keep (Nat.le_succ _) (fun k _ _ hk => get_new_ne (by omega))
  obtain ⟨v', H2, ha, hr, hk, hf⟩ := RowN.app (P := Tryz.prog) (t := 34) (new := [str a, str b]) (m := 1) h2 Tryz.underlying34 (by kernel_rfl) (by simp) (by simp) (by unfold maxElems; omega) (by rw [n_new]; omega) (.inl (Nat.le_refl 1))
  refine ⟨v', H2, ha, ?_, ?_, fun k hkn ho => ?_, hk.base, hk.ng⟩
  · have e : Tg.Sn.pcell (l ++ [(a, b)]) = Tg.Sn.pcell l ++ [str a, str b] := by rw [Tg.Sn.pcell_app]; rfl
    rw [QOwn, List.length_append, e]; exact hr
  · have := hk.le; rw [n_new] at this; omega
  · rw [hk.get k (by rw [n_new]; omega) ho, get_new_ne (by omega)]
theorem bs1q {a b : List UInt8} : lbuildSlice Tryz.prog 34 1 [(0, .agg #[str a, str b])] H = some (sl H.n 1 1, H.new ⟨[str a, str b], 92, true⟩) := by
  unfold lbuildSlice
  simp [Instr.fill, Value.cells, Array.range]
  rfl
theorem QOwn.slice (h : QOwn N H v l) : ∃ a n c, v = .slice a n c := by
  rcases h.2 with ⟨rfl, _⟩ | ⟨k, c, rest, rfl, _⟩
  · exact ⟨_, _, _, rfl⟩
  · exact ⟨_, _, _, rfl⟩
theorem lfill_q2 {a b : List UInt8} : lfill Tryz.prog 92 [str [], str []] [(0, str a), (1, str b)] = some [str a, str b] := by
  rw [lfill_cell (o := 0) (n := 1) (g := false) (by simp) rfl (by simp) (by simp), lfill_cell (o := 1) (n := 1) (g := false) (by simp) rfl (by simp) (by simp)]
  simp
def fewP (l : List Tg.Sn.Par) : List Tg.Sn.Par := (l.take 6).map fun h => (h.1.take 20, h.2.take 30)
/-- a type is handed back -/
def OutM (H : LH) (s t : List UInt8) (l : List Tg.Sn.Par) (r : Value × LH) : Prop := ∃ pa pl pc, r.1 = mvp s t (.slice pa pl pc) ∧ QOwn (H.n + 1 + 1 + 1) r.2 (.slice pa pl pc) l ∧ H.le r.2 ∧ r.2.base = H.base ∧ r.2.ng = H.ng
theorem mfew_k {s t : List UInt8} {pa : Option Addr} {pl pc : Nat} (hr : QRow H (.slice pa pl pc) l) (hl : l.length ≤ 9223372036854775807) : ∃ r, LC Tryz.prog EJ 77 [mvp s t (.slice pa pl pc)] H = some (Lg.trunc H r) ∧ OutM H (s.take 30) (t.take 30) (fewP l) r := by
  refine LC_runs (P := Tryz.prog) (E := EJ) (f := 77) rfl Tryz.func77 rfl (Nat.le_of_ble_eq_true rfl) (by decide) (by kernel_rfl) ?_
  have hc1 := fun H : LH => cut_k (H := H) (s := s) (k := 30) (by decide)
  have hc2 := fun H : LH => cut_k (H := H) (s := t) (k := 30) (by decide)
  simp only [show ((30 : Int).toNat) = 30 from rfl] at hc1 hc2
  generalize s.take 30 = s1 at *
  generalize t.take 30 = t1 at *
  have d1 : (H.n = H.n + 1) = False := eq_false (by omega)
  have d2 : (H.n = H.n + 1 + 1) = False := eq_false (by omega)
  have d3 : (H.n + 1 = H.n + 1 + 1) = False := eq_false (by omega)
  simp [hc1, hc2, lfill_m2, d1, d2, d3]
  have q0 : QOwn (H.n + 1 + 1 + 1) (((H.new ⟨[str s, str t, .slice pa pl pc], 36, true⟩).new ⟨[str [], str [], .slice none 0 0], 36, true⟩).new ⟨[str s1, str t1, .slice none 0 0], 36, true⟩) (.slice none 0 0) [] := RowN.nil
  refine loop_ind (fun (i : Nat) fr' H' => fr' 1 = ptr H.n 0 ∧ fr' 2 = ptr (H.n + 1) 0 ∧ fr' 3 = ptr (H.n + 1 + 1) 0 ∧ fr' 4 = .int .i64 i ∧ i ≤ l.length ∧ i ≤ 6 ∧ ∃ wa wl wc, H'.get H.n = some ⟨[str s, str t, .slice pa pl pc], 36, true⟩ ∧ H'.get (H.n + 1) = some ⟨[str [], str [], .slice none 0 0], 36, true⟩ ∧ H'.get (H.n + 1 + 1) = some ⟨[str s1, str t1, .slice wa wl wc], 36, true⟩ ∧ QOwn (H.n + 1 + 1 + 1) H' (.slice wa wl wc) ((l.take i).map fun h => (h.1.take 20, h.2.take 30)) ∧ H.n + 3 ≤ H'.n ∧ (H'.base = H.base ∧ H'.ng = H.ng) ∧ ∀ k, k < H.n → H'.get k = H.get k) (fun i => l.length - i) 0 ⟨by simp, by simp, by simp, by simp, Nat.zero_le _, Nat.zero_le _, none, 0, 0, ?_, ?_, ?_, q0, by simp only [n_new]; omega, ⟨rfl, rfl⟩, fun k hk => ?_⟩ ?_
  · rw [get_new_ne (by simp only [n_new]; omega), get_new_ne (by simp only [n_new]; omega), get_new]
  · rw [get_new_ne (by simp only [n_new]; omega)]
    exact get_new
  · exact get_new
  · rw [get_new_ne (by simp only [n_new]; omega), get_new_ne (by simp only [n_new]; omega), get_new_ne (by omega)]
  rintro i fr' H' ⟨f1, f2, f3, f4, hi, hi6, wa, wl, wc, b1, b2, b3, hrow, hn, hbs, hk⟩ ih
  have hr' := hr.keep (H' := H') (by omega) hk
  have hlen := fun H' : LH => hr'.len (H' := H')
  by_cases hlt : i < l.length
  · have q := eq_true (show (i : Int) < (l.length : Int) by omega)
    by_cases hlc : i < 6
    · have qc := eq_true (show (i : Int) < 6 by omega)
      have hw1 : IntKind.i64.wrap ((i : Int) + 1) = ((i + 1 : Nat) : Int) := by rw [wrapI (by omega) (by omega)]; omega
      obtain ⟨k, o, g1, g2, g3⟩ := hr'.at hlt
      obtain ⟨g4, g5⟩ := g3 H' rfl
      have hp1 := fun H : LH => cut_k (H := H) (s := l[i].1) (k := 20) (by decide)
      have hp2 := fun H : LH => cut_k (H := H) (s := l[i].2) (k := 30) (by decide)
      simp only [show ((30 : Int).toNat) = 30 from rfl, show ((20 : Int).toNat) = 20 from rfl] at hp1 hp2
      have hnew : (l.take (i + 1)).map (fun h : Tg.Sn.Par => ((h.1.take 20, h.2.take 30) : Tg.Sn.Par)) = (l.take i).map (fun h : Tg.Sn.Par => ((h.1.take 20, h.2.take 30) : Tg.Sn.Par)) ++ [(l[i].1.take 20, l[i].2.take 30)] := by
        rw [List.take_succ_eq_append_getElem hlt, List.map_append]; rfl
      obtain ⟨v', H2, a1, a2, a3, a4, a5, a6⟩ := q_app hrow (by omega) (by rw [List.length_map, List.length_take]; omega) (l[i].1.take 20) (l[i].2.take 30)
      rw [← hnew] at a2
      obtain ⟨xa, xl, xc, rfl⟩ := a2.slice
      have c1 := (a4 H.n (by omega) (hrow.off_lt (by omega))).trans b1
      have c2 := (a4 (H.n + 1) (by omega) (hrow.off_lt (by omega))).trans b2
      have c3 := (a4 (H.n + 1 + 1) (by omega) (hrow.off_lt (by omega))).trans b3
      have hfin := fun fr2 (e1 : fr2 1 = ptr H.n 0) (e2 : fr2 2 = ptr (H.n + 1) 0) (e3 : fr2 3 = ptr (H.n + 1 + 1) 0) (e4 : fr2 4 = .int .i64 ((i + 1 : Nat) : Int)) => ih (i + 1) fr2 (H2.set (H.n + 1 + 1) ⟨[str s1, str t1, .slice xa xl xc], 36, true⟩) (by omega) ⟨e1, e2, e3, e4, by omega, by omega, xa, xl, xc, by rw [get_set_ne (by omega)]; exact c1, by rw [get_set_ne (by omega)]; exact c2, by rw [get_set], a2.keep (Nat.le_refl _) (fun k h1 _ _ => get_set_ne (by omega)), by show _ ≤ H2.n; omega, ⟨a5.trans hbs.1, a6.trans hbs.2⟩, fun k hk2 => by rw [get_set_ne (by omega), a4 k (by omega) (hrow.off_lt (by omega)), hk k hk2]⟩
      have m1 := eq_false (show ¬ H.n = H'.n by omega)
      have m2 := eq_false (show ¬ H.n + 1 = H'.n by omega)
      have m3 := eq_false (show ¬ H.n + 1 + 1 = H'.n by omega)
      clear ih hnew hrow a2 a4
      generalize l[i].1.take 20 = x1 at *
      generalize l[i].2.take 30 = x2 at *
      generalize l[i] = a at *
      simp [f1, f2, f3, f4, b1, b2, b3, q, qc, hlt, hlc, g1, g4, g5, hp1, hp2, bs1q, lfill_q2, a1, hlen, c1, c2, c3, m1, m2, m3]
      refine hfin _ ?_ ?_ ?_ ?_
      all_goals simp [f1, f2, f3, hw1]
    · have qc := eq_false (show ¬ (i : Int) < 6 by omega)
      have hic : i = 6 := by omega
      subst hic
      have q6 := eq_true (show (6 : Int) < (l.length : Int) by omega)
      simp [f1, f2, f3, f4, b1, b2, b3, q6, hlen]
      have hh : QOwn (H.n + 1 + 1 + 1) (H'.set (H.n + 1) ⟨[str s1, str t1, .slice wa wl wc], 36, true⟩) (.slice wa wl wc) _ := hrow.keep (Nat.le_refl _) (fun k h1 _ _ => get_set_ne (by omega))
      exact ⟨wa, wl, wc, rfl, hh, ⟨by show H.n ≤ H'.n; omega, fun k hk2 => by rw [get_set_ne (by omega)]; exact hk k hk2⟩, hbs⟩
  · have q := eq_false (show ¬ (i : Int) < (l.length : Int) by omega)
    have e : l.take i = l.take 6 := by rw [List.take_of_length_le (by omega), List.take_of_length_le (by omega)]
    rw [e] at hrow
    simp [f1, f2, f3, f4, b1, b2, b3, q, hlen]
    have hh : QOwn (H.n + 1 + 1 + 1) (H'.set (H.n + 1) ⟨[str s1, str t1, .slice wa wl wc], 36, true⟩) (.slice wa wl wc) _ := hrow.keep (Nat.le_refl _) (fun k h1 _ _ => get_set_ne (by omega))
    exact ⟨wa, wl, wc, rfl, hh, ⟨by show H.n ≤ H'.n; omega, fun k hk2 => by rw [get_set_ne (by omega)]; exact hk k hk2⟩, hbs⟩
theorem mfew_ex {s t : List UInt8} {pa : Option Addr} {pl pc : Nat} (hr : QRow H (.slice pa pl pc) l) (hl : l.length ≤ 9223372036854775807) : ∃ qa ql qc H', LC Tryz.prog EJ 77 [mvp s t (.slice pa pl pc)] H = some (mvp (s.take 30) (t.take 30) (.slice qa ql qc), H') ∧ QOwn (H.n + 1 + 1 + 1) H' (.slice qa ql qc) (fewP l) ∧ H.le H' ∧ H'.base = H.base ∧ H'.ng = H.ng := by
  obtain ⟨⟨v, H2⟩, e, qa, ql, qc, e1, hq, hle, hb⟩ := mfew_k (s := s) (t := t) hr hl
  simp only at e1
  subst e1
  rcases trunc_or (mvp (s.take 30) (t.take 30) (.slice qa ql qc)) H H2 with e2 | ⟨e2, hf, _⟩
  · exact ⟨qa, ql, qc, H2, by rw [e, e2], hq, hle, hb⟩
  · refine ⟨qa, ql, qc, H, by rw [e, e2], ?_, le_refl, rfl, rfl⟩
    refine ⟨hq.1, ?_⟩
    rcases hq.2 with h2 | ⟨k, c, rest, h1, _⟩
    · exact .inl h2
    · rw [h1] at hf
      simp [flatB, flat1B, atomB] at hf
end
end Go.Proofs.YtombmblgmbjieaaGreatDoor.Sn
/-
  Layer 21 (sniff): what is said, cut; what a body is; whether that agrees.
-/
set_option linter.unusedSimpArgs false
set_option linter.unusedVariables false
set_option maxRecDepth 100000
namespace Go.Proofs.YtombmblgmbjieaaGreatDoor.Sn
open Go.Lg Go.Tg
section
variable {H : LH} {s t u : List UInt8} {pa : Option Addr} {pl pc : Nat} {h n g : Bool} {l : List Tg.Sn.Par}
theorem stype_k (hl : s.length + t.length ≤ 1000000) (hm : MaxL H) (ht : Tab H) : LC Tryz.prog EJ 32 [svp s t (.slice pa pl pc) h n g, str u] H = some (str (ty21 s t h n g u), H) := by
  refine LC_pure rfl Tryz.func32 rfl (Nat.le_of_ble_eq_true rfl) (by decide) (by kernel_rfl) rfl ?_
  have h1 := skind_k (H := H.new ⟨[str s, str t, .slice pa pl pc, .bool h, .bool n, .bool g], 38, true⟩) (pa := pa) (pl := pl) (pc := pc) (h := h) (n := n) (g := g) (u := u) hl (show MaxL (H.new _) from hm) (show Tab (H.new _) from ht)
  generalize ty21 s t h n g u = r at *
  simp [h1]
theorem sagrees_k (hl : s.length + t.length ≤ 1000000) (hm : MaxL H) (ht : Tab H) : LC Tryz.prog EJ 33 [svp s t (.slice pa pl pc) h n g, str u] H = some (.bool (decide (ty21 s t h n g u = s ++ 47 :: t)), H) := by
  refine LC_pure rfl Tryz.func33 rfl (Nat.le_of_ble_eq_true rfl) (by decide) (by kernel_rfl) rfl ?_
  have h1 := skind_k (H := H.new ⟨[str s, str t, .slice pa pl pc, .bool h, .bool n, .bool g], 38, true⟩) (pa := pa) (pl := pl) (pc := pc) (h := h) (n := n) (g := g) (u := u) hl (show MaxL (H.new _) from hm) (show Tab (H.new _) from ht)
  have h2 := fun H : LH => ess_k (H := H) (pa := pa) (pl := pl) (pc := pc) hl
  generalize ty21 s t h n g u = r at *
  generalize s ++ 47 :: t = e at *
  simp [h1, h2]
theorem few21_k (hr : QRow H (.slice pa pl pc) l) (hl : l.length ≤ 9223372036854775807) : ∃ r, LC Tryz.prog EJ 30 [svp s t (.slice pa pl pc) h n g] H = some (Lg.trunc H r) ∧ ∃ qa ql qc, r.1 = svp (s.take 30) (t.take 30) (.slice qa ql qc) h n g ∧ QOwn (H.n + 2) r.2 (.slice qa ql qc) (fewP l) ∧ H.le r.2 ∧ r.2.base = H.base ∧ r.2.ng = H.ng := by
  refine LC_runs (P := Tryz.prog) (E := EJ) (f := 30) rfl Tryz.func30 rfl (Nat.le_of_ble_eq_true rfl) (by decide) (by kernel_rfl) ?_
  obtain ⟨H2, hH2⟩ : ∃ H2, H2 = (H.new ⟨[str s, str t, .slice pa pl pc, .bool h, .bool n, .bool g], 38, true⟩).new ⟨[str [], str [], .slice none 0 0, .bool false, .bool false, .bool false], 38, true⟩ := ⟨_, rfl⟩
  have hn2 : H2.n = H.n + 2 := by rw [hH2]; rfl
  have hr2 : QRow H2 (.slice pa pl pc) l := hr.keep (by omega) (fun k hk => by rw [hH2, get_new_ne (by simp only [n_new]; omega), get_new_ne (by omega)])
  obtain ⟨qa, ql, qc, H3, e1, hq, hle, hbb, hbn⟩ := mfew_ex (s := s) (t := t) hr2 hl
  have b1 : H3.get H.n = some ⟨[str s, str t, .slice pa pl pc, .bool h, .bool n, .bool g], 38, true⟩ := by
    rw [hle.2 H.n (by omega), hH2, get_new_ne (by simp only [n_new]; omega), get_new]
  have b2 : H3.get (H.n + 1) = some ⟨[str [], str [], .slice none 0 0, .bool false, .bool false, .bool false], 38, true⟩ := by
    rw [hle.2 (H.n + 1) (by omega), hH2]
    exact get_new
  rw [hH2] at e1
  have hn3 := hle.1
  have d1 : (H.n = H.n + 1) = False := eq_false (by omega)
  generalize s.take 30 = s1 at *
  generalize t.take 30 = t1 at *
  have hsp : splice [str s, str t, .slice pa pl pc, .bool h, .bool n, .bool g] 0 [str s1, str t1, .slice qa ql qc] = [str s1, str t1, .slice qa ql qc, .bool h, .bool n, .bool g] := rfl
  simp [e1, b1, b2, d1, hsp]
  refine ⟨qa, ql, qc, ⟨rfl, rfl, rfl⟩, ⟨hq.1, ?_⟩, ⟨by show H.n ≤ H3.n; omega, fun k hk => by rw [hle.2 k (by omega), hH2, get_new_ne (by simp only [n_new]; omega), get_new_ne (by omega)]⟩, ?_, ?_⟩
  · rcases hq.2 with h2 | ⟨k, c, rest, g1, g2, g3, g4, g5⟩
    · exact .inl h2
    · exact .inr ⟨k, c, rest, g1, by omega, g3, by rw [get_set_ne (by omega), get_set_ne (by omega)]; exact g4, g5⟩
  · rw [hbb, hH2]; rfl
  · rw [hbn, hH2]; rfl
theorem few21_ex (hr : QRow H (.slice pa pl pc) l) (hl : l.length ≤ 9223372036854775807) : ∃ qa ql qc H', LC Tryz.prog EJ 30 [svp s t (.slice pa pl pc) h n g] H = some (svp (s.take 30) (t.take 30) (.slice qa ql qc) h n g, H') ∧ QOwn (H.n + 2) H' (.slice qa ql qc) (fewP l) ∧ H.le H' ∧ H'.base = H.base ∧ H'.ng = H.ng := by
  obtain ⟨⟨v, H2⟩, e, qa, ql, qc, e1, hq, hle, hb⟩ := few21_k (s := s) (t := t) (h := h) (n := n) (g := g) hr hl
  simp only at e1
  subst e1
  rcases trunc_or (svp (s.take 30) (t.take 30) (.slice qa ql qc) h n g) H H2 with e2 | ⟨e2, hf, _⟩
  · exact ⟨qa, ql, qc, H2, by rw [e, e2], hq, hle, hb⟩
  · refine ⟨qa, ql, qc, H, by rw [e, e2], ?_, le_refl, rfl, rfl⟩
    refine ⟨hq.1, ?_⟩
    rcases hq.2 with h1 | ⟨k, c, rest, h1, _⟩
    · exact .inl h1
    · rw [h1] at hf
      simp [flatB, flat1B, atomB] at hf
end
end Go.Proofs.YtombmblgmbjieaaGreatDoor.Sn
/-
  Layer 21 (sniff): the law SniffTypes, run.
-/
set_option linter.unusedSimpArgs false
set_option linter.unusedVariables false
set_option maxRecDepth 100000
namespace Go.Proofs.YtombmblgmbjieaaGreatDoor.Sn
open Go.Lg Go.Tg
section
variable {H : LH} {s t u : List UInt8} {pa : Option Addr} {pl pc : Nat} {h n g : Bool} {l : List Tg.Sn.Par}
theorem types21 (hr : QRow H (.slice pa pl pc) l) (hl : l.length ≤ 9223372036854775807) (hm : MaxL H) (ht : Tab H) : LC Tryz.prog EJ 7 [svp s t (.slice pa pl pc) h n g, str u] H = some (.bool true, H) := by
  refine LC_pure rfl Tryz.func7 rfl (Nat.le_of_ble_eq_true rfl) (by decide) (by kernel_rfl) rfl ?_
  obtain ⟨H0, hH0⟩ : ∃ H0, H0 = H.new ⟨[str s, str t, .slice pa pl pc, .bool h, .bool n, .bool g], 38, true⟩ := ⟨_, rfl⟩
  have n0 : H0.n = H.n + 1 := by rw [hH0]; rfl
  have hr0 : QRow H0 (.slice pa pl pc) l := hr.keep (by omega) (fun k hk => by rw [hH0, get_new_ne (by omega)])
  obtain ⟨qa, ql, qc, H1, e1, o1, le1, bs1, ng1⟩ := few21_ex (s := s) (t := t) (h := h) (n := n) (g := g) hr0 hl
  have hu := fun H : LH => cut_k (H := H) (s := u) (k := 2000) (by decide)
  simp only [show ((2000 : Int).toNat) = 2000 from rfl] at hu
  have hs30 : (s.take 30).length ≤ 30 := by rw [List.length_take]; omega
  have ht30 : (t.take 30).length ≤ 30 := by rw [List.length_take]; omega
  have hst : (s.take 30).take 30 = s.take 30 := by rw [List.take_take]; rfl
  have htt : (t.take 30).take 30 = t.take 30 := by rw [List.take_take]; rfl
  generalize s.take 30 = s1 at *
  generalize t.take 30 = t1 at *
  generalize u.take 2000 = u1 at *
  obtain ⟨Ha, hHa⟩ : ∃ Ha, Ha = H1.set H.n ⟨[str s1, str t1, .slice qa ql qc, .bool h, .bool n, .bool g], 38, true⟩ := ⟨_, rfl⟩
  have na : Ha.n = H1.n := by rw [hHa]; rfl
  have nle := le1.1
  have g1 : H1.get H.n = some ⟨[str s, str t, .slice pa pl pc, .bool h, .bool n, .bool g], 38, true⟩ := by rw [le1.2 H.n (by omega), hH0, get_new]
  have ga : Ha.get H.n = some ⟨[str s1, str t1, .slice qa ql qc, .bool h, .bool n, .bool g], 38, true⟩ := by rw [hHa, get_set]
  have oa : QOwn (H0.n + 2) Ha (.slice qa ql qc) (fewP l) := o1.keep (by omega) (fun k k1 _ _ => by rw [hHa, get_set_ne (by omega)])
  have hlf : (fewP l).length ≤ 9223372036854775807 := by unfold fewP; rw [List.length_map, List.length_take]; omega
  have hma : MaxL Ha := by
    rw [hHa]; show _ ∧ _
    exact ⟨by show _ < H1.ng; rw [ng1, hH0]; exact hm.1, by show ∃ m, H1.base.cell? _ = _; rw [bs1, hH0]; exact hm.2⟩
  have hta : Tab Ha := by
    rw [hHa]; show _ ∧ _
    exact ⟨by show _ < H1.ng; rw [ng1, hH0]; exact ht.1, by show Lib.TabIs _ H1.base _ _ _; rw [bs1, hH0]; exact ht.2⟩
  have hty := fun H : LH => rtype21_k (H := H) (s := s1) (t := t1) (pa := qa) (pl := ql) (pc := qc) (h := h) (n := n) (g := g) (u := u1) (by omega)
  have hes := fun H : LH => ress_cl (H := H) (s := s1) (t := t1) (pa := qa) (pl := ql) (pc := qc) (by omega)
  have hru := fun H : LH => runknown_k (H := H) (s := s1) (t := t1) (pa := qa) (pl := ql) (pc := qc) (h := h) (n := n) (g := g) (by omega)
  have hlv := fun H : LH => lives21_k (H := H)
  have step : ∀ Hx : LH, Ha.le Hx → Hx.base = Ha.base → Hx.ng = Ha.ng → ∃ ra rl rc Hy, LC Tryz.prog EJ 30 [svp s1 t1 (.slice qa ql qc) h n g] Hx = some (svp s1 t1 (.slice ra rl rc) h n g, Hy) ∧ Ha.le Hy ∧ Hy.base = Ha.base ∧ Hy.ng = Ha.ng ∧ MaxL Hy ∧ Tab Hy ∧ Hy.get H.n = some ⟨[str s1, str t1, .slice qa ql qc, .bool h, .bool n, .bool g], 38, true⟩ := by
    intro Hx hle hb hn
    obtain ⟨ra, rl, rc, Hy, e, _, le2, bs2, ng2⟩ := few21_ex (s := s1) (t := t1) (h := h) (n := n) (g := g) (oa.row.keep hle.1 hle.2) hlf
    rw [hst, htt] at e
    have hle3 : Ha.le Hy := ⟨Nat.le_trans hle.1 le2.1, fun k hk => by rw [le2.2 k (Nat.lt_of_lt_of_le hk hle.1), hle.2 k hk]⟩
    exact ⟨ra, rl, rc, Hy, e, hle3, bs2.trans hb, ng2.trans hn, ⟨by rw [ng2, hn]; exact hma.1, by rw [bs2, hb]; exact hma.2⟩, ⟨by rw [ng2, hn]; exact hta.1, by rw [bs2, hb]; exact hta.2⟩, (hle3.2 H.n (by omega)).trans ga⟩
  obtain ⟨ra, rl, rc, H2, e2, le2, bb2, nn2, m2, t2, ga2⟩ := step Ha le_refl rfl rfl
  obtain ⟨xa, xl, xc, H3, e3, le3, bb3, nn3, m3, t3, ga3⟩ := step H2 le2 bb2 nn2
  obtain ⟨ya, yl, yc, H4, e4, le4, bb4, nn4, m4, t4, ga4⟩ := step H3 le3 bb3 nn3
  have k2 := stype_k (H := H2) (s := s1) (t := t1) (pa := ra) (pl := rl) (pc := rc) (h := h) (n := n) (g := g) (u := u1) (by omega) m2 t2
  have k3 := sagrees_k (H := H3) (s := s1) (t := t1) (pa := xa) (pl := xl) (pc := xc) (h := h) (n := n) (g := g) (u := u1) (by omega) m3 t3
  have k4 := unknown_k (H := H4) (s := s1) (t := t1) (pa := ya) (pl := yl) (pc := yc) (h := h) (n := n) (g := g) (by omega)
  have g0 : H0.get H.n = some ⟨[str s, str t, .slice pa pl pc, .bool h, .bool n, .bool g], 38, true⟩ := by rw [hH0, get_new]
  generalize ty21 s1 t1 h n g u1 = ty at *
  generalize opens s1 t1 h = op at *
  generalize s1 ++ 47 :: t1 = es at *
  clear step
  simp [← hH0, g0, e1, hu, g1, ← hHa, ga, hty, e2, k2, ga2, e3, k3, ga3, e4, k4, ga4, hes, hru, hlv]
  exact ⟨by have := le4.1; omega, fun k hk => by rw [le4.2 k (by omega), hHa, get_set_ne (by omega), le1.2 k (by omega), hH0, get_new_ne (by omega)]⟩
theorem stays21 (hr : QRow H (.slice pa pl pc) l) (hl : l.length ≤ 9223372036854775807) (hm : MaxL H) (ht : Tab H) : LC Tryz.prog EJ 8 [svp s t (.slice pa pl pc) h n g, str u] H = some (.bool true, H) := by
  refine LC_pure rfl Tryz.func8 rfl (Nat.le_of_ble_eq_true rfl) (by decide) (by kernel_rfl) rfl ?_
  obtain ⟨H0, hH0⟩ : ∃ H0, H0 = H.new ⟨[str s, str t, .slice pa pl pc, .bool h, .bool n, .bool g], 38, true⟩ := ⟨_, rfl⟩
  have n0 : H0.n = H.n + 1 := by rw [hH0]; rfl
  have hr0 : QRow H0 (.slice pa pl pc) l := hr.keep (by omega) (fun k hk => by rw [hH0, get_new_ne (by omega)])
  obtain ⟨qa, ql, qc, H1, e1, o1, le1, bs1, ng1⟩ := few21_ex (s := s) (t := t) (h := h) (n := n) (g := g) hr0 hl
  have hu := fun H : LH => cut_k (H := H) (s := u) (k := 2000) (by decide)
  simp only [show ((2000 : Int).toNat) = 2000 from rfl] at hu
  have hs30 : (s.take 30).length ≤ 30 := by rw [List.length_take]; omega
  have ht30 : (t.take 30).length ≤ 30 := by rw [List.length_take]; omega
  have hst : (s.take 30).take 30 = s.take 30 := by rw [List.take_take]; rfl
  have htt : (t.take 30).take 30 = t.take 30 := by rw [List.take_take]; rfl
  generalize s.take 30 = s1 at *
  generalize t.take 30 = t1 at *
  generalize u.take 2000 = u1 at *
  obtain ⟨Ha, hHa⟩ : ∃ Ha, Ha = H1.set H.n ⟨[str s1, str t1, .slice qa ql qc, .bool h, .bool n, .bool g], 38, true⟩ := ⟨_, rfl⟩
  have na : Ha.n = H1.n := by rw [hHa]; rfl
  have nle := le1.1
  have g1 : H1.get H.n = some ⟨[str s, str t, .slice pa pl pc, .bool h, .bool n, .bool g], 38, true⟩ := by rw [le1.2 H.n (by omega), hH0, get_new]
  have ga : Ha.get H.n = some ⟨[str s1, str t1, .slice qa ql qc, .bool h, .bool n, .bool g], 38, true⟩ := by rw [hHa, get_set]
  have oa : QOwn (H0.n + 2) Ha (.slice qa ql qc) (fewP l) := o1.keep (by omega) (fun k k1 _ _ => by rw [hHa, get_set_ne (by omega)])
  have hlf : (fewP l).length ≤ 9223372036854775807 := by unfold fewP; rw [List.length_map, List.length_take]; omega
  have hma : MaxL Ha := by
    rw [hHa]; show _ ∧ _
    exact ⟨by show _ < H1.ng; rw [ng1, hH0]; exact hm.1, by show ∃ m, H1.base.cell? _ = _; rw [bs1, hH0]; exact hm.2⟩
  have hta : Tab Ha := by
    rw [hHa]; show _ ∧ _
    exact ⟨by show _ < H1.ng; rw [ng1, hH0]; exact ht.1, by show Lib.TabIs _ H1.base _ _ _; rw [bs1, hH0]; exact ht.2⟩
  have hes := fun H : LH => ress_cl (H := H) (s := s1) (t := t1) (pa := qa) (pl := ql) (pc := qc) (by omega)
  have hht := fun H : LH => rhtml12_k (H := H) (s := s1) (t := t1) (pa := qa) (pl := ql) (pc := qc) (by omega)
  have hxm := fun H : LH => rxml12_k (H := H) (s := s1) (t := t1) (pa := qa) (pl := ql) (pc := qc) (by omega)
  have hlv := fun H : LH => lives21_k (H := H)
  have step : ∀ Hx : LH, Ha.le Hx → Hx.base = Ha.base → Hx.ng = Ha.ng → ∃ ra rl rc Hy, LC Tryz.prog EJ 30 [svp s1 t1 (.slice qa ql qc) h n g] Hx = some (svp s1 t1 (.slice ra rl rc) h n g, Hy) ∧ Ha.le Hy ∧ Hy.base = Ha.base ∧ Hy.ng = Ha.ng ∧ MaxL Hy ∧ Tab Hy ∧ Hy.get H.n = some ⟨[str s1, str t1, .slice qa ql qc, .bool h, .bool n, .bool g], 38, true⟩ := by
    intro Hx hle hb hn
    obtain ⟨ra, rl, rc, Hy, e, _, le2, bs2, ng2⟩ := few21_ex (s := s1) (t := t1) (h := h) (n := n) (g := g) (oa.row.keep hle.1 hle.2) hlf
    rw [hst, htt] at e
    have hle3 : Ha.le Hy := ⟨Nat.le_trans hle.1 le2.1, fun k hk => by rw [le2.2 k (Nat.lt_of_lt_of_le hk hle.1), hle.2 k hk]⟩
    exact ⟨ra, rl, rc, Hy, e, hle3, bs2.trans hb, ng2.trans hn, ⟨by rw [ng2, hn]; exact hma.1, by rw [bs2, hb]; exact hma.2⟩, ⟨by rw [ng2, hn]; exact hta.1, by rw [bs2, hb]; exact hta.2⟩, (hle3.2 H.n (by omega)).trans ga⟩
  obtain ⟨ra, rl, rc, H2, e2, le2, bb2, nn2, m2, t2, ga2⟩ := step Ha le_refl rfl rfl
  obtain ⟨xa, xl, xc, H3, e3, le3, bb3, nn3, m3, t3, ga3⟩ := step H2 le2 bb2 nn2
  have k2 := unknown_k (H := H2) (s := s1) (t := t1) (pa := ra) (pl := rl) (pc := rc) (h := h) (n := n) (g := g) (by omega)
  have k3 := stype_k (H := H3) (s := s1) (t := t1) (pa := xa) (pl := xl) (pc := xc) (h := h) (n := n) (g := g) (u := u1) (by omega) m3 t3
  have g0 : H0.get H.n = some ⟨[str s, str t, .slice pa pl pc, .bool h, .bool n, .bool g], 38, true⟩ := by rw [hH0, get_new]
  have f2 : H.le H2 := ⟨by have := le2.1; omega, fun k hk => by rw [le2.2 k (by omega), hHa, get_set_ne (by omega), le1.2 k (by omega), hH0, get_new_ne (by omega)]⟩
  have f3 : H.le H3 := ⟨by have := le3.1; omega, fun k hk => by rw [le3.2 k (by omega), hHa, get_set_ne (by omega), le1.2 k (by omega), hH0, get_new_ne (by omega)]⟩
  have hst2 : opens s1 t1 h = false → (Tg.Sn.isHtml s1 t1 || (Tg.Sn.isXml s1 t1 || n)) = true → ty21 s1 t1 h n g u1 = s1 ++ 47 :: t1 := fun a b => by
    unfold ty21 Tg.Sn.told
    rw [if_neg (by rw [a]; decide), if_pos b]
  generalize ty21 s1 t1 h n g u1 = ty at *
  generalize opens s1 t1 h = op at *
  generalize Tg.Sn.isHtml s1 t1 = b1 at *
  generalize Tg.Sn.isXml s1 t1 = b2 at *
  generalize s1 ++ 47 :: t1 = es at *
  clear step
  cases op with
  | true =>
    simp [← hH0, g0, e1, hu, g1, ← hHa, ga, e2, k2, ga2, hlv]
    exact f2
  | false =>
    cases b1 with
    | true =>
      have := hst2 rfl rfl
      subst this
      simp [← hH0, g0, e1, hu, g1, ← hHa, ga, e2, k2, ga2, hht, e3, k3, ga3, hes, hlv]
      exact f3
    | false =>
      cases b2 with
      | true =>
        have := hst2 rfl rfl
        subst this
        simp [← hH0, g0, e1, hu, g1, ← hHa, ga, e2, k2, ga2, hht, hxm, e3, k3, ga3, hes, hlv]
        exact f3
      | false =>
        cases n with
        | true =>
          have := hst2 rfl rfl
          subst this
          simp [← hH0, g0, e1, hu, g1, ← hHa, ga, e2, k2, ga2, hht, hxm, e3, k3, ga3, hes, hlv]
          exact f3
        | false =>
          simp [← hH0, g0, e1, hu, g1, ← hHa, ga, e2, k2, ga2, hht, hxm, hlv]
          exact f2
end
end Go.Proofs.YtombmblgmbjieaaGreatDoor.Sn
/-
  What the world's shape gives for the laws of what a body is: the machine's number that the search in strings reads; what a run with throws asserts.
-/
set_option linter.unusedSimpArgs false
set_option linter.unusedVariables false
set_option maxRecDepth 100000
namespace Go.Proofs.YtombmblgmbjieaaGreatDoor
open Go.ChangeShapes Go.WideShapes Go.ChangeAt Go.RowKit Go.Tg Go.Lg

theorem maxN {W : World} (h : W.ShapedOpen Tryz.prog) : MaxL (LH.empty W 2) := by
  refine ⟨by show 1 < 2; decide, ?_⟩
  exact Go.Proofs.cell_of_shapedOpen_int (P := Tryz.prog) (w := W) (zero := #[.int .i64 0]) (t := 3) (g := 1) h (of_decide_eq_true (by kernel_rfl)) (by kernel_rfl) rfl (by kernel_rfl) (by kernel_rfl) Tryz.underlying3
theorem sizeN {W : World} (h : W.ShapedOpen Tryz.prog) : 2 ≤ W.heap.size := by
  obtain ⟨m, h2⟩ := Go.Proofs.cell_of_shapedOpen_int (P := Tryz.prog) (w := W) (zero := #[.int .i64 0]) (t := 3) (g := 1) h (of_decide_eq_true (by kernel_rfl)) (by kernel_rfl) rfl (by kernel_rfl) (by kernel_rfl) Tryz.underlying3
  have h2' : W.cell? ⟨1, 0, none⟩ = some (.int .i64 m) := h2
  rcases Nat.lt_or_ge 1 W.heap.size with h3 | h3
  · have : 1 = 1 := rfl
    omega
  · simp [World.cell?, Array.getElem?_eq_none h3] at h2'
/-- a law of flat arguments, by a run with throws -/
theorem law_flatR {P : Program} {E : PEnv} {w : World} {H' : LH} {f : FuncId} {args : List Value} {ng : Nat} (hf : ∀ x ∈ args, flatB x = true) (hng : ng ≤ w.heap.size) (h : Sound P E (.call f args (LH.empty w ng) (.ret (.bool true)) H')) :
    Calls P f args.toArray w fun e w' => e = .returned (.bool true) ∧ Change (fun _ => False) w w' := by
  obtain ⟨he, hc⟩ := h
  obtain ⟨h1, h2⟩ := flats_rel (D := (LH.empty w ng).D) (ι := ren0) hf
  refine (hc ren0 w args.toArray (rel_empty hng) h1 h2).mono ?_
  rintro e w' ⟨ι', ⟨v', rfl, hv⟩, ho⟩
  rw [flat_eq hv rfl]
  exact ⟨rfl, ho.chg.mono (fun _ _ ⟨_, _, h, _⟩ => by cases h)⟩
theorem returns_and_shaped {H : Type} {enc : TypeId × Value → H} {a : Assume} {C : Checked} {os : Os} {f : FuncId} {fn : Func} {s : ChangeSpec} {conds : List PathCond} {apart fresh handsOn again : Bool} {X : World → Array Value → Prop}
    (hX : ∀ (w w' : World) (args : Array Value), w.heap = w'.heap → X w args → X w' args)
    (own : Go.ownKnob C.prog.godebug = none) (started : os.Started) (noInit : C.prog.inits.idxOf? f = none) (hfn : C.prog.funcs[f]? = some fn)
    (witness : ∃ (w : World) (tape : Tape) (i : Input), w.os = os ∧ (w.forCall tape i).Shaped C.prog ∧ i.vars = [] ∧ Input.okWide C.prog (w.forCall tape i) .any w.heap.size f i ∧
      ((s.pre enc C.prog fn conds apart (w.forCall tape i).memory i.args ∧ X (w.forCall tape i).memory i.args) ∧ sizedMet enc C.prog fn (OpenSpec.ofChange s) apart (w.forCall tape i).memory i.args) ∧ a.holds C.prog (lone (Frame.enter C.prog f i.args .normal) [] (w.forCall tape i)))
    (contract : ∀ (W : World) (base : Nat) (args : Array Value) (ds gs : List (DataW H)) (before : List MemPlace),
      (∀ (j : Nat) t v, fn.params[j]? = some t → args[j]? = some v → Value.okWide C.prog W .any base t v) →
      DataW.Whole enc C.prog fn.params.toList s.vars apart W args.toList ds gs before →
      X W args → W.ShapedOpen C.prog →
      Calls C.prog f args W fun e W' => ∃ v, e = .returned v ∧ s.post enc C.prog fn apart fresh handsOn again W args v W') :
    ReturnsInHanded a C os f .any (fun w args => (s.pre enc C.prog fn conds apart w args ∧ X w args) ∧ sizedMet enc C.prog fn (OpenSpec.ofChange s) apart w args) (s.post enc C.prog fn apart fresh handsOn again) := by
  refine returnsInHanded_of_calls own started noInit witness ?_
  intro w tape i _ hsh _ hok hpre hholds
  obtain ⟨_, _, _, fn', hfn', _, _, _, _, hval⟩ := hok
  have e : fn' = fn := Option.some.inj (hfn'.symm.trans hfn)
  subst e
  obtain ⟨⟨⟨ds, gs, before, hw, hc⟩, hx⟩, hz⟩ := hpre
  have hw' := DataW.Whole.of_heap (w' := w.forCall tape i) (by rfl) hw
  refine (contract (w.forCall tape i) w.heap.size i.args ds gs before hval hw' (hX _ _ _ (by rfl) hx) hsh).mono fun e W' ⟨v, he, hp⟩ => ?_
  subst he
  exact ChangeSpec.post_blind hp
end Go.Proofs.YtombmblgmbjieaaGreatDoor
/-
  Doors of the laws of layer 21 and 31 that take flat arguments.
-/
set_option linter.unusedSimpArgs false
set_option linter.unusedVariables false
set_option maxRecDepth 100000
namespace Go.Proofs.YtombmblgmbjieaaGreatDoor.Sn
open Go.ChangeShapes Go.WideShapes Go.ChangeAt Go.RowKit Go.Tg Go.Lg
theorem law_flatS {w : World} {H' : LH} {f : FuncId} {args : List Value} {ng : Nat} (hf : ∀ x ∈ args, flatB x = true) (hng : ng ≤ w.heap.size) (h : LC Tryz.prog EJ f args (LH.empty w ng) = some (.bool true, H')) (he : Entered Tryz.prog f := by exact ⟨_, rfl, rfl, by decide⟩) :
    Calls Tryz.prog f args.toArray w fun e w' => e = .returned (.bool true) ∧ Change (fun _ => False) w w' := law_flat tOk hf hng h he
end Go.Proofs.YtombmblgmbjieaaGreatDoor.Sn
