/-
  Texts joined, part 7: ScRef, ScRefB, ScRefC, ScFew, ScGoodR, ScTold, ScToldR, ScLaw5, ScPrint, ScLaw7, ScLaw8, DoorC, DoorO, DoorP.
-/
import Derived.Test.YthgcgjpbhbikaaaGreatDoorM6
import Derived.Test.YthgcgjpbhbikaaaGreatDoorRows
import Derived.Test.YthgcgjpbhbikaaaGreatDoorM1
import Derived.ProofKit
import Derived.WideShapes
import Derived.RowKit
import Derived.ChangeArms
import Derived.LaidMore
import Derived.LaidSub
import Derived.Lib.LaidTab
import Derived.Stop.Joined
import Derived.Shelf.Vars
import Derived.HandedShaped
import Derived.Lay
import Derived.DataShut
set_option linter.unusedSimpArgs false
set_option linter.unusedVariables false
set_option maxRecDepth 100000
namespace Go.Proofs.YthgcgjpbhbikaaaGreatDoor.Sc
open Go.Lg Go.Tg
section
variable {H H' : LH} {s : List UInt8} {v p : Value} {xs : List (List UInt8)} {c : Tg.Sc.Setup} {l : List Tg.Hd.Hdr} {e : Tg.Sc.Ev}
theorem rlines_cl (hv : TRow H v xs) (hl : (Tg.Sc.feeds xs).length ≤ 90000000) : LC Tryz.prog EJ 24 [v] H = some (str (Tg.Sc.feeds xs), H) := by
  refine LC_pure rfl Tryz.func24 rfl (Nat.le_of_ble_eq_true rfl) (by decide) (by kernel_rfl) rfl ?_
  have hxl := Tg.Sc.feeds_len xs
  obtain ⟨R, hR⟩ : ∃ R, R = Tg.Sc.feeds xs := ⟨_, rfl⟩
  rw [← hR] at hl hxl ⊢
  simp
  refine loop_ind (fun (i : Nat) fr' H' => ∃ l, fr' 0 = v ∧ fr' 3 = str l ∧ fr' 4 = .int .i64 i ∧ i ≤ xs.length ∧ l ++ Tg.Sc.feeds (xs.drop i) = R ∧ H' = H) (fun i => xs.length - i) 0 ⟨[], by simp, by simp, by simp, Nat.zero_le _, by simpa using hR.symm, rfl⟩ ?_
  rintro i fr' H' ⟨l, f0, f3, f4, hi, hq, rfl⟩ ih
  by_cases hlt : i < xs.length
  · have q0 := eq_true (show (i : Int) < (xs.length : Int) by omega)
    have hw1 : IntKind.i64.wrap ((i : Int) + 1) = ((i + 1 : Nat) : Int) := by rw [wrapI (by omega) (by omega)]; omega
    obtain ⟨k, o, g1, _, g3⟩ := hv.at hlt
    have g4 := g3 H' rfl
    rw [List.drop_eq_getElem_cons hlt, Tg.Sc.feeds_cons] at hq
    generalize xs[i] = a at *
    have hll : l.length + a.length + 1 ≤ R.length := by rw [← hq]; simp; omega
    have c1 : ∀ t, lbin Tryz.prog .add t (str l) (str a) = some (str (l ++ a)) := fun t => lbin_cat (by omega)
    have c2 : ∀ t, lbin Tryz.prog .add t (str (l ++ a)) (str [10]) = some (str (l ++ (a ++ [10]))) := fun t => by rw [lbin_cat (by simp; omega)]; simp
    have hfin := fun fr2 (g0 : fr2 0 = v) (g3 : fr2 3 = str (l ++ (a ++ [10]))) (g4 : fr2 4 = .int .i64 ((i + 1 : Nat) : Int)) => ih (i + 1) fr2 H' (by omega) ⟨l ++ (a ++ [10]), g0, g3, g4, by omega, by rw [← hq]; simp, rfl⟩
    clear ih hq
    simp [f0, f3, f4, q0, hv.len, g1, g4, c1, c2]
    refine hfin _ ?_ ?_ ?_
    all_goals simp [f0, hw1]
  · have q0 := eq_false (show ¬ (i : Int) < (xs.length : Int) by omega)
    rw [List.drop_of_length_le (by omega)] at hq
    have hq : l = R := by rw [← hq]; simp [Tg.Sc.feeds]
    simp [f0, f3, f4, q0, hv.len, hq]
theorem set_cat {P x1 x2 x3 x4 : List UInt8} (h : P.length ≤ 100) (n1 : x1.length ≤ 30) (n2 : x2.length ≤ 30) (n3 : x3.length ≤ 30) (n4 : x4.length ≤ 30) :
    (∀ t, lbin Tryz.prog .add t (str P) (str x1) = some (str (P ++ x1))) ∧ (∀ t, lbin Tryz.prog .add t (str (P ++ x1)) (str [32]) = some (str (P ++ x1 ++ [32]))) ∧ (∀ t, lbin Tryz.prog .add t (str (P ++ x1 ++ [32])) (str x2) = some (str (P ++ x1 ++ [32] ++ x2))) ∧ (∀ t, lbin Tryz.prog .add t (str (P ++ x1 ++ [32] ++ x2)) (str [32]) = some (str (P ++ x1 ++ [32] ++ x2 ++ [32]))) ∧ (∀ t, lbin Tryz.prog .add t (str (P ++ x1 ++ [32] ++ x2 ++ [32])) (str x3) = some (str (P ++ x1 ++ [32] ++ x2 ++ [32] ++ x3))) ∧ (∀ t, lbin Tryz.prog .add t (str (P ++ x1 ++ [32] ++ x2 ++ [32] ++ x3)) (str [32]) = some (str (P ++ x1 ++ [32] ++ x2 ++ [32] ++ x3 ++ [32]))) ∧ ∀ t, lbin Tryz.prog .add t (str (P ++ x1 ++ [32] ++ x2 ++ [32] ++ x3 ++ [32])) (str x4) = some (str (P ++ x1 ++ [32] ++ x2 ++ [32] ++ x3 ++ [32] ++ x4)) := by
  refine ⟨cc ?_, cc ?_, cc ?_, cc ?_, cc ?_, cc ?_, cc ?_⟩
  all_goals (try simp only [List.length_append, List.length_cons, List.length_nil])
  all_goals omega
theorem rsetup_cl (hf : Tg.Sc.fineS c = true) : LC Tryz.prog EJ 32 [suv c] H = some (str (Tg.Sc.setupT c), H) := by
  refine LC_pure rfl Tryz.func32 rfl (Nat.le_of_ble_eq_true rfl) (by decide) (by kernel_rfl) rfl ?_
  rw [fineS_b] at hf
  simp only [Bool.and_eq_true, decide_eq_true_eq] at hf
  obtain ⟨⟨⟨⟨⟨⟨⟨a1, a2⟩, a3⟩, a4⟩, a5⟩, a6⟩, a7⟩, a8⟩ := hf
  obtain ⟨legacy, look, depth, table, valid⟩ := c
  simp only at a1 a2 a3 a4 a5 a6 a7 a8
  have t1 := fun H : LH => rtext_num (H := H) (n := look) (by omega) (by omega)
  have t2 := fun H : LH => rtext_num (H := H) (n := depth) (by omega) (by omega)
  have t3 := fun H : LH => rtext_num (H := H) (n := table) (by omega) (by omega)
  have t4 := fun H : LH => rtext_num (H := H) (n := valid) (by omega) (by omega)
  have n1 := Tg.Sc.itoa_short (n := look) (by omega) (by omega)
  have n2 := Tg.Sc.itoa_short (n := depth) (by omega) (by omega)
  have n3 := Tg.Sc.itoa_short (n := table) (by omega) (by omega)
  have n4 := Tg.Sc.itoa_short (n := valid) (by omega) (by omega)
  unfold Tg.Sc.setupT
  simp only
  generalize Lib.itoa look = x1 at *
  generalize Lib.itoa depth = x2 at *
  generalize Lib.itoa table = x3 at *
  generalize Lib.itoa valid = x4 at *
  obtain ⟨Hb, hHb⟩ : ∃ Hb, Hb = H.new ⟨[.bool legacy, .int .i64 look, .int .i64 depth, .int .i64 table, .int .i64 valid], 26, true⟩ := ⟨_, rfl⟩
  have gb : Hb.get H.n = some ⟨[.bool legacy, .int .i64 look, .int .i64 depth, .int .i64 table, .int .i64 valid], 26, true⟩ := by rw [hHb]; exact get_new
  have hle : H.le Hb := by rw [hHb]; exact le_refl.new
  cases legacy with
  | false =>
    have hx : Tg.Sc.wl [Tg.Sc.kwSetup, Tg.Sc.kwOrb, x1, x2, x3, x4] = 115 :: 101 :: 116 :: 117 :: 112 :: 32 :: 111 :: 114 :: 98 :: 32 :: (x1 ++ 32 :: (x2 ++ 32 :: (x3 ++ 32 :: x4))) := by simp [Tg.Sc.wl, Tg.Sc.kwSetup, Tg.Sc.kwOrb]
    simp only [Bool.false_eq_true, if_false, if_true]
    rw [hx]
    obtain ⟨c1, c2, c3, c4, c5, c6, c7⟩ := set_cat (P := [115, 101, 116, 117, 112, 32, 111, 114, 98, 32]) (by decide) n1 n2 n3 n4
    simp only [List.cons_append, List.nil_append, List.append_assoc] at c1 c2 c3 c4 c5 c6 c7
    simp [← hHb, gb, t1, t2, t3, t4, c1, c2, c3, c4, c5, c6, c7]
    exact hle
  | true =>
    have hx : Tg.Sc.wl [Tg.Sc.kwSetup, Tg.Sc.kwLegacy, x1, x2, x3, x4] = 115 :: 101 :: 116 :: 117 :: 112 :: 32 :: 108 :: 101 :: 103 :: 97 :: 99 :: 121 :: 32 :: (x1 ++ 32 :: (x2 ++ 32 :: (x3 ++ 32 :: x4))) := by simp [Tg.Sc.wl, Tg.Sc.kwSetup, Tg.Sc.kwLegacy]
    simp only [Bool.false_eq_true, if_false, if_true]
    rw [hx]
    obtain ⟨c1, c2, c3, c4, c5, c6, c7⟩ := set_cat (P := [115, 101, 116, 117, 112, 32, 108, 101, 103, 97, 99, 121, 32]) (by decide) n1 n2 n3 n4
    simp only [List.cons_append, List.nil_append, List.append_assoc] at c1 c2 c3 c4 c5 c6 c7
    simp [← hHb, gb, t1, t2, t3, t4, c1, c2, c3, c4, c5, c6, c7]
    exact hle
theorem rnum_big {n : Nat} (hn : n ≤ 9223372036854775808) (H : LH) : LC Tryz.prog EJ 70 [.int .u64 n] H = some (str (Lib.decDigits n), H) := by
  by_cases h : n < 10
  · exact rnum_cl n (by omega) H
  · refine LC_pure rfl Tryz.func70 rfl (Nat.le_of_ble_eq_true rfl) (by decide) (by kernel_rfl) rfl ?_
    have q := eq_false (show ¬ (n : Int) < 10 by omega)
    have h1 := rnum_cl (n / 10) (by omega)
    have h2 := rnum_cl (n % 10) (by omega)
    have v1 : (n : Int).tdiv 10 = ((n / 10 : Nat) : Int) := rfl
    have v2 : (n : Int).tmod 10 = ((n % 10 : Nat) : Int) := rfl
    have w1 : IntKind.u64.wrap ((n / 10 : Nat) : Int) = ((n / 10 : Nat) : Int) := by rw [IntKind.wrap_u64]; omega
    have w2 : IntKind.u64.wrap ((n % 10 : Nat) : Int) = ((n % 10 : Nat) : Int) := by rw [IntKind.wrap_u64]; omega
    have l1 := Go.Proofs.YthgcgjpbhbikaaaGreatDoor.dd_len (n / 10)
    have l2 := Go.Proofs.YthgcgjpbhbikaaaGreatDoor.dd_len (n % 10)
    have c1 := lbin_cat (P := Tryz.prog) (t := 9) (x := Lib.decDigits (n / 10)) (y := Lib.decDigits (n % 10)) (by omega)
    rw [← Go.Proofs.YthgcgjpbhbikaaaGreatDoor.dd_big h] at c1
    generalize Lib.decDigits n = d at *
    generalize hm1 : n / 10 = m1 at *
    generalize hm2 : n % 10 = m2 at *
    simp [q, v1, v2, w1, w2, h1, h2, c1]
theorem ritoa {n : Int} (h0 : -9223372036854775808 ≤ n) (h1 : n ≤ 9223372036854775807) (H : LH) : LC Tryz.prog EJ 45 [.int .i64 n] H = some (str (Lib.itoa n), H) := by
  by_cases h : 0 ≤ n
  · exact rtext_num h h1
  · refine LC_pure rfl Tryz.func45 rfl (Nat.le_of_ble_eq_true rfl) (by decide) (by kernel_rfl) rfl ?_
    obtain ⟨k, rfl⟩ : ∃ k : Nat, n = -((k : Int) + 1) := ⟨(-n - 1).toNat, by omega⟩
    have hn := fun H : LH => rnum_big (n := k + 1) (by omega) H
    have hi : Lib.itoa (-((k : Int) + 1)) = 45 :: Lib.decDigits (k + 1) := by
      unfold Lib.itoa
      rw [if_pos (by omega)]
      congr 1
    have hdl : (Lib.decDigits (k + 1)).length ≤ 30 := by
      have := Tg.Sc.itoa_short h0 h1
      rw [hi, List.length_cons] at this
      omega
    rw [hi]
    generalize hN : -((k : Int) + 1) = n at *
    have q := eq_true (show n < 0 by omega)
    have w1 : IntKind.i64.wrap (n + 1) = -(k : Int) := by rw [wrapI (by omega) (by omega)]; omega
    have w2 : IntKind.i64.wrap (k : Int) = (k : Int) := wrapI (by omega) (by omega)
    have w3 : IntKind.u64.wrap (k : Int) = (k : Int) := by rw [IntKind.wrap_u64]; omega
    have w4 : IntKind.u64.wrap ((k : Int) + 1) = (k : Int) + 1 := by rw [IntKind.wrap_u64]; omega
    have hn : ∀ H : LH, LC Tryz.prog EJ 70 [.int .u64 ((k : Int) + 1)] H = some (str (Lib.decDigits (k + 1)), H) := hn
    have hc := lbin_cat (P := Tryz.prog) (t := 9) (x := [45]) (y := Lib.decDigits (k + 1)) (by simp; omega)
    clear hi
    generalize Lib.decDigits (k + 1) = d at *
    have hc : lbin Tryz.prog .add 9 (str [45]) (str d) = some (str (45 :: d)) := hc
    simp [q, w1, w2, w3, w4, hn, hc]
theorem rheads_ex {id st : Int} (hr : HRow H p l) (hl : l.length ≤ 90000) (hs : ∀ h ∈ l, h.1.length ≤ 300000 ∧ h.2.length ≤ 300000) (i0 : -9223372036854775808 ≤ id) (i1 : id ≤ 9223372036854775807) (t0 : -9223372036854775808 ≤ st) (t1 : st ≤ 9223372036854775807) :
    ∃ v H', LC Tryz.prog EJ 46 [.int .i64 id, .int .i64 st, p] H = some (v, H') ∧ OutT H v H' (Tg.Sc.headsL Tg.Sc.kwHead id st l) := by
  have key : ∃ r, LC Tryz.prog EJ 46 [.int .i64 id, .int .i64 st, p] H = some (Lg.trunc H r) ∧ OutT H r.1 r.2 (Tg.Sc.headsL Tg.Sc.kwHead id st l) := by
    refine LC_runs (P := Tryz.prog) (E := EJ) (f := 46) rfl Tryz.func46 rfl (Nat.le_of_ble_eq_true rfl) (by decide) (by kernel_rfl) ?_
    have e1 := ritoa i0 i1
    have e2 := ritoa t0 t1
    have e3 := ritoa (n := (l.length : Int)) (by omega) (by omega)
    have n1 := Tg.Sc.itoa_short (n := id) (by omega) i1
    have n2 := Tg.Sc.itoa_short (n := st) (by omega) t1
    have n3 := Tg.Sc.itoa_short (n := (l.length : Int)) (by omega) (by omega)
    unfold Tg.Sc.headsL
    generalize Lib.itoa id = x1 at *
    generalize Lib.itoa st = x2 at *
    generalize Lib.itoa (l.length : Int) = x3 at *
    obtain ⟨c1, c2, c3, c4, c5, _, _⟩ := set_cat (P := [104, 101, 97, 100, 32]) (by decide) n1 n2 n3 n3
    simp only [List.cons_append, List.nil_append, List.append_assoc] at c1 c2 c3 c4 c5
    have hx : Tg.Sc.wl [Tg.Sc.kwHead, x1, x2, x3] = 104 :: 101 :: 97 :: 100 :: 32 :: (x1 ++ 32 :: (x2 ++ 32 :: x3)) := by simp [Tg.Sc.wl, Tg.Sc.kwHead]
    have bs1s := fun (H : LH) (s : List UInt8) => bs1s (H := H) (s := s)
    rw [← hx] at c5
    generalize Tg.Sc.wl [Tg.Sc.kwHead, x1, x2, x3] = f at *
    simp [e1, e2, e3, hr.len, c1, c2, c3, c4, c5, bs1s]
    refine loop_ind (fun (i : Nat) fr' H' => ∃ w, fr' 2 = p ∧ fr' 7 = w ∧ fr' 8 = .int .i64 i ∧ i ≤ l.length ∧ RowN H.n H' 9 1 w (f :: (l.take i).map Tg.Sc.hline).length ((f :: (l.take i).map Tg.Sc.hline).map str) ∧ H.n ≤ H'.n ∧ ∀ k, k < H.n → H'.get k = H.get k) (fun i => l.length - i) 0 ⟨sl H.n 1 1, by simp, by simp, by simp, Nat.zero_le _, ?_, by simp, fun k hk => by rw [get_new_ne (by omega)]⟩ ?_
    · exact ⟨by simp, .inr ⟨H.n, 1, [], by simp, by omega, by simp, by rw [get_new]; simp, by simp, by simp⟩⟩
    rintro i fr' H' ⟨w, f2, f7, f8, hi, hrow, hn, hk⟩ ih
    subst f7
    have hr' := hr.keep hn hk
    by_cases hlt : i < l.length
    · have q := eq_true (show (i : Int) < (l.length : Int) by omega)
      have hw1 : IntKind.i64.wrap ((i : Int) + 1) = ((i + 1 : Nat) : Int) := by rw [wrapI (by omega) (by omega)]; omega
      obtain ⟨k, o, g1, g2, g3⟩ := hr'.at hlt
      obtain ⟨g0, g4, g5⟩ := g3 H' rfl
      have hm := hs l[i] (List.getElem_mem hlt)
      have hes := fun H : LH => rescape_cl (H := H) (s := l[i].2) hm.2
      have hnew : f :: (l.take (i + 1)).map Tg.Sc.hline = (f :: (l.take i).map Tg.Sc.hline) ++ [Tg.Sc.hline l[i]] := by
        rw [List.take_succ_eq_append_getElem hlt, List.map_append]; rfl
      obtain ⟨v', H2, a1, a2, a3, a4⟩ := out_app (x := Tg.Sc.hline l[i]) hrow hn (by simp; omega)
      rw [← hnew] at a2
      have hfin := fun fr2 (g2 : fr2 2 = p) (g7 : fr2 7 = v') (g8 : fr2 8 = .int .i64 ((i + 1 : Nat) : Int)) => ih (i + 1) fr2 H2 (by omega) ⟨v', g2, g7, g8, by omega, a2, a3, fun k hk2 => by rw [a4 k hk2, hk k hk2]⟩
      unfold Tg.Sc.hline at a1
      have hel := Tg.Sc.esc_len l[i].2
      clear ih hrow a2 hnew
      generalize l[i] = a at *
      have d1 := cc (a := [124]) (b := a.1) (by simp; omega)
      have d2 := cc (a := [124] ++ a.1) (b := [58, 32]) (by simp; omega)
      have d3 := cc (a := [124] ++ a.1 ++ [58, 32]) (b := Tg.Sc.esc a.2) (by simp; omega)
      simp only [List.cons_append, List.nil_append, List.append_assoc] at d1 d2 d3
      simp [f2, f8, q, g1, g4, g5, hr.len, hes, bs1s, d1, d2, d3, a1]
      refine hfin _ ?_ ?_ ?_
      all_goals simp [f2, hw1]
    · have q := eq_false (show ¬ (i : Int) < (l.length : Int) by omega)
      rw [List.take_of_length_le (by omega)] at hrow
      simp [f2, f8, q, hr.len]
      exact ⟨TRow.of_own hrow, hn, hk⟩
  obtain ⟨r, e, ho⟩ := key
  obtain ⟨H2, e2, ho2⟩ := ho.trunc
  exact ⟨r.1, H2, by rw [e, ← e2], ho2⟩
end
end Go.Proofs.YthgcgjpbhbikaaaGreatDoor.Sc

set_option linter.unusedSimpArgs false
set_option linter.unusedVariables false
set_option maxRecDepth 100000
namespace Go.Proofs.YthgcgjpbhbikaaaGreatDoor.Sc
open Go.Lg Go.Tg
section
variable {H H' : LH} {s : List UInt8} {v p : Value} {xs : List (List UInt8)} {c : Tg.Sc.Setup} {l : List Tg.Sc.Ev} {e : Tg.Sc.Ev} {N : Nat}
theorem good_kind (hg : Tg.Sc.good e = true) : (e.kind = 1 ∨ e.kind = 2 ∨ e.kind = 3 ∨ e.kind = 4 ∨ e.kind = 5 ∨ e.kind = 6) ∧ 0 ≤ e.id ∧ e.id ≤ 1000000 ∧ (e.kind = 6 → e.id = 0) ∧ (e.kind ≠ 6 → 1 ≤ e.id) ∧
    (e.kind = 1 → e.url.length ≤ 1000 ∧ e.src.length ≤ 1000 ∧ 0 ≤ e.media ∧ e.media ≤ 2 ∧ Tg.Sc.modes.contains e.mode = true) ∧ (e.kind ≠ 1 → e.url = [] ∧ e.src = [] ∧ e.mode = [] ∧ e.media = 0) ∧
    (e.kind = 2 → 0 ≤ e.status ∧ e.status ≤ 9999 ∧ Tg.Hd.good e.hdrs = true) ∧ (e.kind ≠ 2 → e.status = 0 ∧ e.hdrs = []) ∧ (e.kind = 3 → e.body.length ≤ 10000) ∧ (e.kind ≠ 3 → e.body = []) := by
  unfold Tg.Sc.good at hg
  simp only [Bool.and_eq_true, decide_eq_true_eq] at hg
  obtain ⟨⟨⟨⟨⟨h1, h2⟩, h3⟩, h4⟩, h5⟩, h6⟩ := hg
  refine ⟨by omega, ?_, ?_, ?_, ?_, ?_, ?_, ?_, ?_, ?_, ?_⟩
  · split at h3
    · simp only [decide_eq_true_eq] at h3; omega
    · simp only [Bool.and_eq_true, decide_eq_true_eq] at h3; omega
  · split at h3
    · simp only [decide_eq_true_eq] at h3; omega
    · simp only [Bool.and_eq_true, decide_eq_true_eq] at h3; omega
  · intro h; rw [if_pos h] at h3; simpa using h3
  · intro h; rw [if_neg h] at h3; simp only [Bool.and_eq_true, decide_eq_true_eq] at h3; exact h3.1
  · intro h; rw [if_pos h] at h4; simp only [Bool.and_eq_true, decide_eq_true_eq] at h4; exact ⟨h4.1.1.1, h4.1.1.2, h4.1.2.1, h4.1.2.2, h4.2⟩
  · intro h; rw [if_neg h] at h4; simp only [Bool.and_eq_true, decide_eq_true_eq] at h4; exact ⟨h4.1.1.1, h4.1.1.2, h4.1.2, h4.2⟩
  · intro h; rw [if_pos h] at h5; simp only [Bool.and_eq_true, decide_eq_true_eq] at h5; exact ⟨h5.1.1, h5.1.2, h5.2⟩
  · intro h; rw [if_neg h] at h5; simp only [Bool.and_eq_true, decide_eq_true_eq] at h5; exact h5
  · intro h; rw [if_pos h] at h6; simpa using h6
  · intro h; rw [if_neg h] at h6; simpa using h6
theorem rshow_ex (hg : Tg.Sc.good e = true) (hr : HRow H p e.hdrs) (hz : EvZ e) : ∃ v H', LC Tryz.prog EJ 25 [evv e p] H = some (v, H') ∧ OutT H v H' (Tg.Sc.shown e) := by
  obtain ⟨pa, pn, pc, rfl⟩ := hr.slice
  have key : ∃ r, LC Tryz.prog EJ 25 [evv e (.slice pa pn pc)] H = some (Lg.trunc H r) ∧ OutT H r.1 r.2 (Tg.Sc.shown e) := by
    refine LC_runs (P := Tryz.prog) (E := EJ) (f := 25) rfl Tryz.func25 rfl (Nat.le_of_ble_eq_true rfl) (by decide) (by kernel_rfl) ?_
    obtain ⟨gk, g0, g1, _, _, ga, _, gs, _, _, _⟩ := good_kind hg
    obtain ⟨kind, id, url, src, mode, media, status, hdrs, body⟩ := e
    obtain ⟨z1, z2, z3, z4, z5, z6, z7, z8, z9, z10, z11, z12⟩ := hz
    simp only at gk g0 g1 ga gs z1 z2 z3 z4 z5 z6 z7 z8 z9 z10 z11 z12 hr
    clear hg
    have n1 := Tg.Sc.itoa_short z7 z8
    have n2 := Tg.Sc.itoa_short z9 z10
    have hes1 := fun H : LH => rescape_cl (H := H) (s := url) z1
    have hes2 := fun H : LH => rescape_cl (H := H) (s := src) z2
    have hes3 := fun H : LH => rescape_cl (H := H) (s := body) z4
    have l1 := Tg.Sc.esc_len url
    have l2 := Tg.Sc.esc_len src
    have l3 := Tg.Sc.esc_len body
    obtain ⟨Hb, hHb⟩ : ∃ Hb, Hb = H.new ⟨[.int .i64 kind, .int .i64 id, str url, str src, str mode, .int .i64 media, .int .i64 status, .slice pa pn pc, str body], 36, true⟩ := ⟨_, rfl⟩
    have hble : H.le Hb := by rw [hHb]; exact le_refl.new
    have gb : Hb.get H.n = some ⟨[.int .i64 kind, .int .i64 id, str url, str src, str mode, .int .i64 media, .int .i64 status, .slice pa pn pc, str body], 36, true⟩ := by rw [hHb]; exact get_new
    have hrb : HRow Hb (.slice pa pn pc) hdrs := by rw [hHb]; exact hr.new1
    have hne : (H.n = Hb.n) = False := eq_false (by rw [hHb, n_new]; omega)
    have t1 := ritoa (n := id) (by omega) (by omega)
    have bs1s := fun (H : LH) (s : List UInt8) => bs1s (H := H) (s := s)
    have fin : ∀ (s : List UInt8) (G : LH), H.le G → OutT H (sl G.n 1 1) (G.new ⟨[str s], 9, true⟩) [s] := fun s G hG => ⟨TRow.new (H := G) (xs := [s]) (c := 1) (Nat.le_refl _), hG.new⟩
    unfold Tg.Sc.shown
    simp only
    rcases gk with rfl | rfl | rfl | rfl | rfl | rfl
    · obtain ⟨_, _, m0, m1, _⟩ := ga rfl
      have t2 := ritoa (n := media) (by omega) z10
      generalize Lib.itoa id = x1 at *
      generalize Lib.itoa media = x2 at *
      generalize Tg.Sc.esc url = eu at *
      generalize Tg.Sc.esc src = es at *
      have hx : Tg.Sc.wl [Tg.Sc.kwAsk, x1, x2, mode, eu, es] = 97 :: 115 :: 107 :: 32 :: (x1 ++ 32 :: (x2 ++ 32 :: (mode ++ 32 :: (eu ++ 32 :: es)))) := by simp [Tg.Sc.wl, Tg.Sc.kwAsk]
      have d1 := cc (a := [97, 115, 107, 32]) (b := x1) (by simp; omega)
      have d2 := cc (a := [97, 115, 107, 32] ++ x1) (b := [32]) (by simp; omega)
      have d3 := cc (a := [97, 115, 107, 32] ++ x1 ++ [32]) (b := x2) (by simp; omega)
      have d4 := cc (a := [97, 115, 107, 32] ++ x1 ++ [32] ++ x2) (b := [32]) (by simp; omega)
      have d5 := cc (a := [97, 115, 107, 32] ++ x1 ++ [32] ++ x2 ++ [32]) (b := mode) (by simp; omega)
      have d6 := cc (a := [97, 115, 107, 32] ++ x1 ++ [32] ++ x2 ++ [32] ++ mode) (b := [32]) (by simp; omega)
      have d7 := cc (a := [97, 115, 107, 32] ++ x1 ++ [32] ++ x2 ++ [32] ++ mode ++ [32]) (b := eu) (by simp; omega)
      have d8 := cc (a := [97, 115, 107, 32] ++ x1 ++ [32] ++ x2 ++ [32] ++ mode ++ [32] ++ eu) (b := [32]) (by simp; omega)
      have d9 := cc (a := [97, 115, 107, 32] ++ x1 ++ [32] ++ x2 ++ [32] ++ mode ++ [32] ++ eu ++ [32]) (b := es) (by simp; omega)
      simp only [List.cons_append, List.nil_append, List.append_assoc] at d1 d2 d3 d4 d5 d6 d7 d8 d9
      rw [← hx] at d9
      rw [if_pos rfl]
      generalize Tg.Sc.wl [Tg.Sc.kwAsk, x1, x2, mode, eu, es] = f at *
      simp [← hHb, gb, t1, t2, hes1, hes2, d1, d2, d3, d4, d5, d6, d7, d8, d9, bs1s]
      exact fin _ Hb hble
    · obtain ⟨s0, s1, _⟩ := gs rfl
      obtain ⟨v2, H2, e2, o2⟩ := rheads_ex (id := id) (st := status) hrb z5 z6 (by omega) z8 (by omega) z12
      simp [← hHb, gb, t1, e2]
      exact ⟨o2.row, le_trans hble o2.le⟩
    · generalize Lib.itoa id = x1 at *
      generalize Tg.Sc.esc body = eb at *
      have hx : Tg.Sc.wl [Tg.Sc.kwChunk, x1, eb] = 99 :: 104 :: 117 :: 110 :: 107 :: 32 :: (x1 ++ 32 :: eb) := by simp [Tg.Sc.wl, Tg.Sc.kwChunk]
      have d1 := cc (a := [99, 104, 117, 110, 107, 32]) (b := x1) (by simp; omega)
      have d2 := cc (a := [99, 104, 117, 110, 107, 32] ++ x1) (b := [32]) (by simp; omega)
      have d3 := cc (a := [99, 104, 117, 110, 107, 32] ++ x1 ++ [32]) (b := eb) (by simp; omega)
      simp only [List.cons_append, List.nil_append, List.append_assoc] at d1 d2 d3
      rw [← hx] at d3
      generalize Tg.Sc.wl [Tg.Sc.kwChunk, x1, eb] = f at *
      simp [← hHb, gb, t1, hes3, d1, d2, d3, bs1s]
      exact fin _ Hb hble
    · generalize Lib.itoa id = x1 at *
      have hx : Tg.Sc.wl [Tg.Sc.kwEnd, x1] = 101 :: 110 :: 100 :: 32 :: x1 := by simp [Tg.Sc.wl, Tg.Sc.kwEnd]
      have d1 := cc (a := [101, 110, 100, 32]) (b := x1) (by simp; omega)
      simp only [List.cons_append, List.nil_append, List.append_assoc] at d1
      rw [← hx] at d1
      generalize Tg.Sc.wl [Tg.Sc.kwEnd, x1] = f at *
      simp [← hHb, gb, hne, t1, d1, bs1s]
      exact fin _ (Hb.new _) hble.new
    · generalize Lib.itoa id = x1 at *
      have hx : Tg.Sc.wl [Tg.Sc.kwAbort, x1] = 97 :: 98 :: 111 :: 114 :: 116 :: 32 :: x1 := by simp [Tg.Sc.wl, Tg.Sc.kwAbort]
      have d1 := cc (a := [97, 98, 111, 114, 116, 32]) (b := x1) (by simp; omega)
      simp only [List.cons_append, List.nil_append, List.append_assoc] at d1
      rw [← hx] at d1
      generalize Tg.Sc.wl [Tg.Sc.kwAbort, x1] = f at *
      simp [← hHb, gb, hne, t1, d1, bs1s]
      exact fin _ (Hb.new _) hble.new
    · simp [← hHb, gb, t1, bs1s]
      exact fin _ Hb hble
  obtain ⟨r, e, ho⟩ := key
  obtain ⟨H2, e2, ho2⟩ := ho.trunc
  exact ⟨r.1, H2, by rw [e, ← e2], ho2⟩
theorem rprint_cl (hf : Tg.Sc.fineS c = true) (hr : ERow N H v l) (hg : ∀ e ∈ l, Tg.Sc.good e = true) (hz : ∀ e ∈ l, EvZ e) (hl : (Tg.Sc.printT c l).length ≤ 90000000) : LC Tryz.prog EJ 13 [suv c, v] H = some (str (Tg.Sc.printT c l), H) := by
  obtain ⟨pa, pn, pc, rfl⟩ := hr.slice
  refine LC_pure rfl Tryz.func13 rfl (Nat.le_of_ble_eq_true rfl) (by decide) (by kernel_rfl) rfl ?_
  have hll := Tg.Sc.flat_len l hg
  have hfl := Tg.Sc.feeds_len (l.flatMap Tg.Sc.shown)
  obtain ⟨R, hR⟩ : ∃ R, R = Tg.Sc.printT c l := ⟨_, rfl⟩
  rw [← hR] at hl ⊢
  have hR2 : Tg.Sc.setupT c ++ [10] ++ Tg.Sc.feeds ((l.drop 0).flatMap Tg.Sc.shown) = R := by rw [hR]; unfold Tg.Sc.printT; simp
  have hs := fun H : LH => rsetup_cl (H := H) hf
  generalize Tg.Sc.setupT c = st at *
  have hRl : st.length + 1 + (Tg.Sc.feeds (l.flatMap Tg.Sc.shown)).length = R.length := by rw [← hR2]; simp; omega
  have c0 := cc (a := st) (b := [10]) (by simp; omega)
  obtain ⟨legacy, look, depth, table, valid⟩ := c
  obtain ⟨Hb, hHb⟩ : ∃ Hb, Hb = H.new ⟨[.bool legacy, .int .i64 look, .int .i64 depth, .int .i64 table, .int .i64 valid], 26, true⟩ := ⟨_, rfl⟩
  have gb : Hb.get H.n = some ⟨[.bool legacy, .int .i64 look, .int .i64 depth, .int .i64 table, .int .i64 valid], 26, true⟩ := by rw [hHb]; exact get_new
  have hle : H.le Hb := by rw [hHb]; exact le_refl.new
  simp [← hHb, gb, hs, c0]
  refine loop_ind (fun (i : Nat) fr' H' => ∃ acc, fr' 1 = .slice pa pn pc ∧ fr' 5 = str acc ∧ fr' 6 = .int .i64 i ∧ i ≤ l.length ∧ acc ++ Tg.Sc.feeds ((l.drop i).flatMap Tg.Sc.shown) = R ∧ H.le H') (fun i => l.length - i) 0 ⟨st ++ [10], by simp, by simp, by simp, Nat.zero_le _, hR2, hle⟩ ?_
  rintro i fr' H' ⟨acc, f1, f5, f6, hi, hq, hk⟩ ih
  have hr' := hr.keep hk.1 hk.2
  have hlen := fun G : LH => hr.len (H' := G)
  by_cases hlt : i < l.length
  · have q0 := eq_true (show (i : Int) < (l.length : Int) by omega)
    have hw1 : IntKind.i64.wrap ((i : Int) + 1) = ((i + 1 : Nat) : Int) := by rw [wrapI (by omega) (by omega)]; omega
    obtain ⟨k, o, q, a1, a2, a3, a4⟩ := hr'.at hlt
    have a5 := (a4 H' rfl).1
    have hmem : l[i] ∈ l := List.getElem_mem hlt
    have hge := hg _ hmem
    have hze := hz _ hmem
    rw [List.drop_eq_getElem_cons hlt, List.flatMap_cons, Tg.Sc.feeds_app] at hq
    generalize l[i] = e at *
    obtain ⟨w, H2, e1, o1⟩ := rshow_ex hge (HOwn.row a3) hze
    have hfe : acc.length + (Tg.Sc.feeds (Tg.Sc.shown e)).length ≤ R.length := by rw [← hq]; simp
    have e2 := rlines_cl o1.row (by omega)
    have c1 := cc (a := acc) (b := Tg.Sc.feeds (Tg.Sc.shown e)) (by omega)
    have hfin := fun fr2 (g1 : fr2 1 = .slice pa pn pc) (g5 : fr2 5 = str (acc ++ Tg.Sc.feeds (Tg.Sc.shown e))) (g6 : fr2 6 = .int .i64 ((i + 1 : Nat) : Int)) => ih (i + 1) fr2 H2 (by omega) ⟨acc ++ Tg.Sc.feeds (Tg.Sc.shown e), g1, g5, g6, by omega, by rw [← hq]; simp, le_trans hk o1.le⟩
    clear ih hq
    simp [f1, f5, f6, q0, hlen, a1, a5, e1, e2, c1]
    refine hfin _ ?_ ?_ ?_
    all_goals simp [f1, hw1]
  · have q0 := eq_false (show ¬ (i : Int) < (l.length : Int) by omega)
    rw [List.drop_of_length_le (by omega)] at hq
    have hq : acc = R := by rw [← hq]; simp [Tg.Sc.feeds]
    simp [f1, f5, f6, q0, hlen, hq]
    exact hk
end
end Go.Proofs.YthgcgjpbhbikaaaGreatDoor.Sc

set_option linter.unusedSimpArgs false
set_option linter.unusedVariables false
set_option maxRecDepth 100000
namespace Go.Proofs.YthgcgjpbhbikaaaGreatDoor.Sc
open Go.Lg Go.Tg
section
variable {H H' : LH} {s : List UInt8} {v p : Value} {xs : List (List UInt8)} {c : Tg.Sc.Setup} {l : List Tg.Sc.Ev} {e : Tg.Sc.Ev} {N : Nat}
theorem mode_four {m : List UInt8} (h : Tg.Sc.modes.contains m = true) : m = [110, 111, 45, 99, 111, 114, 115] ∨ m = [99, 111, 114, 115] ∨ m = [115, 97, 109, 101, 45, 111, 114, 105, 103, 105, 110] ∨ m = [110, 97, 118, 105, 103, 97, 116, 101] := by
  unfold Tg.Sc.modes at h
  simpa only [List.contains_cons, List.contains_nil, Bool.or_false, Bool.or_eq_true, beq_iff_eq] using h
theorem rgood_t (hg : Tg.Sc.good e = true) (hr : HRow H p e.hdrs) (hz : EvZ e) : LC Tryz.prog EJ 11 [evv e p] H = some (.bool true, H) := by
  obtain ⟨pa, pn, pc, rfl⟩ := hr.slice
  refine LC_pure rfl Tryz.func11 rfl (Nat.le_of_ble_eq_true rfl) (by decide) (by kernel_rfl) rfl ?_
  obtain ⟨gk, g0, g1, g6, g7, ga, gb, gs, gt, gc, gd⟩ := good_kind hg
  obtain ⟨kind, id, url, src, mode, media, status, hdrs, body⟩ := e
  obtain ⟨z1, z2, z3, z4, z5, z6, z7, z8, z9, z10, z11, z12⟩ := hz
  simp only at gk g0 g1 g6 g7 ga gb gs gt gc gd z1 z2 z3 z4 z5 z6 z7 z8 z9 z10 z11 z12 hr
  clear hg
  obtain ⟨Hb, hHb⟩ : ∃ Hb, Hb = H.new ⟨[.int .i64 kind, .int .i64 id, str url, str src, str mode, .int .i64 media, .int .i64 status, .slice pa pn pc, str body], 36, true⟩ := ⟨_, rfl⟩
  have hble : H.le Hb := by rw [hHb]; exact le_refl.new
  have gb2 : Hb.get H.n = some ⟨[.int .i64 kind, .int .i64 id, str url, str src, str mode, .int .i64 media, .int .i64 status, .slice pa pn pc, str body], 36, true⟩ := by rw [hHb]; exact get_new
  have hrb : HRow Hb (.slice pa pn pc) hdrs := by rw [hHb]; exact hr.new1
  have i1 := eq_false (show ¬ (1000000 : Int) < id by omega)
  have i2 := eq_false (show ¬ id < 0 by omega)
  have hlen := fun G : LH => hr.len (H' := G)
  rcases gk with rfl | rfl | rfl | rfl | rfl | rfl
  · obtain ⟨a1, a2, a3, a4, a5⟩ := ga rfl
    obtain ⟨rfl, rfl⟩ := gt (by decide)
    obtain rfl := gd (by decide)
    have i3 := eq_false (show ¬ id < 1 by have := g7 (by decide); omega)
    have j1 := eq_false (show ¬ (1000 : Int) < (url.length : Int) by omega)
    have j2 := eq_false (show ¬ (1000 : Int) < (src.length : Int) by omega)
    have j3 := eq_false (show ¬ media < 0 by omega)
    have j4 := eq_false (show ¬ 2 < media by omega)
    obtain rfl : pn = 0 := by simpa using hlen H
    rcases mode_four a5 with rfl | rfl | rfl | rfl
    · simp [← hHb, gb2, hlen, i1, i2, i3, j1, j2, j3, j4, hble]
    · simp [← hHb, gb2, hlen, i1, i2, i3, j1, j2, j3, j4, hble]
    · simp [← hHb, gb2, hlen, i1, i2, i3, j1, j2, j3, j4, hble]
    · simp [← hHb, gb2, hlen, i1, i2, i3, j1, j2, j3, j4, hble]
  · obtain ⟨s1, s2, s3⟩ := gs rfl
    obtain ⟨rfl, rfl, rfl, rfl⟩ := gb (by decide)
    obtain rfl := gd (by decide)
    have i3 := eq_false (show ¬ id < 1 by have := g7 (by decide); omega)
    have hh := hgood_cl hrb (by omega) (fun h hh => by have := z6 h hh; omega)
    rw [s3] at hh
    have j3 := eq_false (show ¬ status < 0 by omega)
    have j4 := eq_false (show ¬ 9999 < status by omega)
    simp [← hHb, gb2, hlen, hh, i1, i2, i3, j3, j4, hble]
  · obtain ⟨rfl, rfl, rfl, rfl⟩ := gb (by decide)
    obtain ⟨rfl, rfl⟩ := gt (by decide)
    have i3 := eq_false (show ¬ id < 1 by have := g7 (by decide); omega)
    have j1 := eq_true (show (body.length : Int) ≤ 10000 by have := gc rfl; omega)
    obtain rfl : pn = 0 := by simpa using hlen H
    simp [← hHb, gb2, hlen, i1, i2, i3, j1, hble]
  · obtain ⟨rfl, rfl, rfl, rfl⟩ := gb (by decide)
    obtain ⟨rfl, rfl⟩ := gt (by decide)
    obtain rfl := gd (by decide)
    have i3 := eq_false (show ¬ id < 1 by have := g7 (by decide); omega)
    obtain rfl : pn = 0 := by simpa using hlen H
    simp [← hHb, gb2, hlen, i1, i2, i3, hble]
  · obtain ⟨rfl, rfl, rfl, rfl⟩ := gb (by decide)
    obtain ⟨rfl, rfl⟩ := gt (by decide)
    obtain rfl := gd (by decide)
    have i3 := eq_false (show ¬ id < 1 by have := g7 (by decide); omega)
    obtain rfl : pn = 0 := by simpa using hlen H
    simp [← hHb, gb2, hlen, i1, i2, i3, hble]
  · obtain ⟨rfl, rfl, rfl, rfl⟩ := gb (by decide)
    obtain ⟨rfl, rfl⟩ := gt (by decide)
    obtain rfl := gd (by decide)
    have i3 : id = 0 := g6 rfl
    subst i3
    obtain rfl : pn = 0 := by simpa using hlen H
    simp [← hHb, gb2, hlen, hble]
end
end Go.Proofs.YthgcgjpbhbikaaaGreatDoor.Sc

set_option linter.unusedSimpArgs false
set_option linter.unusedVariables false
set_option maxRecDepth 100000
namespace Tg.Sc
def fewE (e : Ev) : Ev := { e with url := e.url.take 60, src := e.src.take 60, mode := e.mode.take 20, body := e.body.take 80, hdrs := Tg.Hd.few e.hdrs 8 }
theorem few_le (l : List Tg.Hd.Hdr) (c : Nat) : (Tg.Hd.few l c).length ≤ c ∧ ∀ h ∈ Tg.Hd.few l c, h.1.length ≤ 30 ∧ h.2.length ≤ 100 := by
  unfold Tg.Hd.few
  refine ⟨by rw [List.length_map, List.length_take]; omega, fun h hh => ?_⟩
  obtain ⟨x, _, rfl⟩ := List.mem_map.mp hh
  exact ⟨by rw [List.length_take]; omega, by rw [List.length_take]; omega⟩
end Tg.Sc
namespace Go.Proofs.YthgcgjpbhbikaaaGreatDoor.Sc
open Go.Lg Go.Tg
section
variable {H H' : LH} {v w p q : Value} {e f : Tg.Sc.Ev} {l : List Tg.Hd.Hdr} {N : Nat}
structure OutF (H : LH) (p : Value) (H' : LH) (l : List Tg.Hd.Hdr) : Prop where
  row : HOwn H.n H' p l
  le : H.le H'
theorem OutF.trunc {v : Value} {H' : LH} {xs ys : List Value} (h : OutF H p H' l) : ∃ H2, Lg.trunc H ((.agg ⟨xs ++ p :: ys⟩ : Value), H') = ((.agg ⟨xs ++ p :: ys⟩ : Value), H2) ∧ OutF H p H2 l := by
  rcases trunc_or (.agg ⟨xs ++ p :: ys⟩) H H' with e | ⟨e, hf, _⟩
  · exact ⟨H', e, h⟩
  · refine ⟨H, e, ⟨⟨h.row.1, ?_⟩, le_refl⟩⟩
    rcases h.row.2 with h2 | ⟨k, c, rest, rfl, _⟩
    · exact .inl h2
    · simp [flatB, flat1B, atomB] at hf
theorem fewR_ex {st : Int} (hr : HRow H p l) (hl : l.length ≤ 9223372036854775807) : ∃ p' H', LC Tryz.prog EJ 40 [.agg #[.int .i64 st, p]] H = some (.agg #[.int .i64 st, p'], H') ∧ OutF H p' H' (Tg.Hd.few l 8) := by
  obtain ⟨pa, pn, pc, rfl⟩ := hr.slice
  have key : ∃ r, LC Tryz.prog EJ 40 [.agg #[.int .i64 st, .slice pa pn pc]] H = some (Lg.trunc H r) ∧ ∃ p', r.1 = .agg #[.int .i64 st, p'] ∧ OutF H p' r.2 (Tg.Hd.few l 8) := by
    refine LC_runs (P := Tryz.prog) (E := EJ) (f := 40) rfl Tryz.func40 rfl (Nat.le_of_ble_eq_true rfl) (by decide) (by kernel_rfl) ?_
    obtain ⟨Hb, hHb⟩ : ∃ Hb, Hb = (H.new ⟨[.int .i64 st, .slice pa pn pc], 34, true⟩).new ⟨[.int .i64 0, .slice none 0 0], 34, true⟩ := ⟨_, rfl⟩
    have nb : Hb.n = H.n + 1 + 1 := by rw [hHb]; rfl
    have gb : Hb.get H.n = some ⟨[.int .i64 st, .slice pa pn pc], 34, true⟩ := by rw [hHb, get_new_ne (by simp), get_new]
    have gb2 : Hb.get (H.n + 1) = some ⟨[.int .i64 0, .slice none 0 0], 34, true⟩ := by rw [hHb]; exact get_new
    have hrb : HRow Hb (.slice pa pn pc) l := by rw [hHb]; exact hr.new1.new1
    have leb : H.le Hb := by rw [hHb]; exact le_refl.new.new
    obtain ⟨v', H1, e1, o1⟩ := few_hl (c := 8) hrb hl (by decide)
    have e1 : LC Tryz.prog EJ 27 [.slice pa pn pc, .int .i64 8] Hb = some (v', H1) := e1
    have ole := o1.le
    have g1 : H1.get H.n = some ⟨[.int .i64 st, .slice pa pn pc], 34, true⟩ := by rw [o1.old _ (by omega)]; exact gb
    have g2 : H1.get (H.n + 1) = some ⟨[.int .i64 0, .slice none 0 0], 34, true⟩ := by rw [o1.old _ (by omega)]; exact gb2
    have hrow := o1.row
    generalize Tg.Hd.few l 8 = hd at *
    obtain ⟨qa, qn, qc, rfl⟩ := (HOwn.row hrow).slice
    simp [← hHb, gb, e1, g1, g2]
    refine ⟨hown_weak (hrow.keep (H' := (H1.set H.n _).set (H.n + 1) _) (by simp) (fun k hk _ _ => by rw [get_set_ne (by omega), get_set_ne (by omega)])) (by omega), ?_⟩
    exact ⟨by simp; omega, fun k hk => by rw [get_set_ne (by omega), get_set_ne (by omega), o1.old k (by omega), leb.2 k hk]⟩
  obtain ⟨⟨u, H'⟩, e, p', hu, ho⟩ := key
  simp only at hu ho
  subst hu
  obtain ⟨H2, e2, ho2⟩ := ho.trunc (v := p') (xs := [.int .i64 st]) (ys := [])
  exact ⟨p', H2, by rw [e]; exact congrArg some e2, ho2⟩
theorem few40_ex (hr : HRow H p e.hdrs) (hl : e.hdrs.length ≤ 9223372036854775807) : ∃ p' H', LC Tryz.prog EJ 19 [evv e p] H = some (evv (Tg.Sc.fewE e) p', H') ∧ OutF H p' H' (Tg.Sc.fewE e).hdrs := by
  obtain ⟨pa, pn, pc, rfl⟩ := hr.slice
  obtain ⟨kind, id, url, src, mode, media, status, hdrs, body⟩ := e
  unfold Tg.Sc.fewE
  simp only at hr hl ⊢
  have key : ∃ r, LC Tryz.prog EJ 19 [evv ⟨kind, id, url, src, mode, media, status, hdrs, body⟩ (.slice pa pn pc)] H = some (Lg.trunc H r) ∧ ∃ p', r.1 = evv ⟨kind, id, url.take 60, src.take 60, mode.take 20, media, status, Tg.Hd.few hdrs 8, body.take 80⟩ p' ∧ OutF H p' r.2 (Tg.Hd.few hdrs 8) := by
    refine LC_runs (P := Tryz.prog) (E := EJ) (f := 19) rfl Tryz.func19 rfl (Nat.le_of_ble_eq_true rfl) (by decide) (by kernel_rfl) ?_
    obtain ⟨Hb, hHb⟩ : ∃ Hb, Hb = (H.new ⟨[.int .i64 kind, .int .i64 id, str url, str src, str mode, .int .i64 media, .int .i64 status, .slice pa pn pc, str body], 36, true⟩).new ⟨[.int .i64 0, .int .i64 0, str [], str [], str [], .int .i64 0, .int .i64 0, .slice none 0 0, str []], 36, true⟩ := ⟨_, rfl⟩
    have nb : Hb.n = H.n + 1 + 1 := by rw [hHb]; rfl
    have gb : Hb.get H.n = some ⟨[.int .i64 kind, .int .i64 id, str url, str src, str mode, .int .i64 media, .int .i64 status, .slice pa pn pc, str body], 36, true⟩ := by rw [hHb, get_new_ne (by simp), get_new]
    have gb2 : Hb.get (H.n + 1) = some ⟨[.int .i64 0, .int .i64 0, str [], str [], str [], .int .i64 0, .int .i64 0, .slice none 0 0, str []], 36, true⟩ := by rw [hHb]; exact get_new
    have hrb : HRow Hb (.slice pa pn pc) hdrs := by rw [hHb]; exact hr.new1.new1
    have leb : H.le Hb := by rw [hHb]; exact le_refl.new.new
    have hc1 := fun H : LH => hcut_cl (H := H) (s := url) (k := 60) (by decide)
    have hc2 := fun H : LH => hcut_cl (H := H) (s := src) (k := 60) (by decide)
    have hc3 := fun H : LH => hcut_cl (H := H) (s := mode) (k := 20) (by decide)
    have hc4 := fun H : LH => hcut_cl (H := H) (s := body) (k := 80) (by decide)
    simp only [show ((60 : Int).toNat) = 60 from rfl, show ((20 : Int).toNat) = 20 from rfl, show ((80 : Int).toNat) = 80 from rfl] at hc1 hc2 hc3 hc4
    generalize url.take 60 = url' at *
    generalize src.take 60 = src' at *
    generalize mode.take 20 = mode' at *
    generalize body.take 80 = body' at *
    obtain ⟨v', H1, e1, hrow, ole⟩ := fewR_ex (st := status) hrb hl
    have g1 : H1.get H.n = some ⟨[.int .i64 kind, .int .i64 id, str url, str src, str mode, .int .i64 media, .int .i64 status, .slice pa pn pc, str body], 36, true⟩ := by rw [ole.2 _ (by omega)]; exact gb
    have g2 : H1.get (H.n + 1) = some ⟨[.int .i64 0, .int .i64 0, str [], str [], str [], .int .i64 0, .int .i64 0, .slice none 0 0, str []], 36, true⟩ := by rw [ole.2 _ (by omega)]; exact gb2
    have hn1 := ole.1
    generalize Tg.Hd.few hdrs 8 = hd at *
    obtain ⟨qa, qn, qc, rfl⟩ := (HOwn.row hrow).slice
    simp [← hHb, gb, hc1, hc2, hc3, hc4, e1, g1, g2, splice]
    refine ⟨hown_weak (hrow.keep (H' := (H1.set H.n _).set (H.n + 1) _) (by simp) (fun k hk _ _ => by rw [get_set_ne (by omega), get_set_ne (by omega)])) (by omega), ?_⟩
    exact ⟨by simp; omega, fun k hk => by rw [get_set_ne (by omega), get_set_ne (by omega), ole.2 k (by omega), leb.2 k hk]⟩
  obtain ⟨⟨u, H'⟩, e, p', hu, ho⟩ := key
  simp only at hu ho
  subst hu
  obtain ⟨H2, e2, ho2⟩ := ho.trunc (v := p') (xs := [.int .i64 kind, .int .i64 id, str (url.take 60), str (src.take 60), str (mode.take 20), .int .i64 media, .int .i64 status]) (ys := [str (body.take 80)])
  exact ⟨p', H2, by rw [e]; exact congrArg some e2, ho2⟩
theorem rsame_cl (hp : HRow H p e.hdrs) (hq : HRow H q f.hdrs) (hz : e.hdrs.length ≤ 1000000) : LC Tryz.prog EJ 23 [evv e p, evv f q] H = some (.bool (decide (e = f)), H) := by
  refine LC_pure rfl Tryz.func23 rfl (Nat.le_of_ble_eq_true rfl) (by decide) (by kernel_rfl) rfl ?_
  obtain ⟨pa, pn, pc, rfl⟩ := hp.slice
  obtain ⟨qa, qn, qc, rfl⟩ := hq.slice
  have hp2 : HRow ((H.new (evc e (.slice pa pn pc))).new (evc f (.slice qa qn qc))) _ _ := hp.new1.new1
  have hq2 : HRow ((H.new (evc e (.slice pa pn pc))).new (evc f (.slice qa qn qc))) _ _ := hq.new1.new1
  have heq := hsame_cl hp2 hq2 hz
  obtain ⟨H2, hH2⟩ : ∃ H2, H2 = (H.new (evc e (.slice pa pn pc))).new (evc f (.slice qa qn qc)) := ⟨_, rfl⟩
  have g1 : H2.get H.n = some (evc e (.slice pa pn pc)) := by rw [hH2, get_new_ne (by simp), get_new]
  have g2 : H2.get (H.n + 1) = some (evc f (.slice qa qn qc)) := by rw [hH2]; exact get_new
  have hle : H.le H2 := by rw [hH2]; exact le_refl.new.new
  rw [← hH2] at heq
  clear hp2 hq2 hp hq
  have hd : ∀ b : Bool, decide (e = f) = b → (decide (e.kind = f.kind) && decide (e.id = f.id) && askB e f && repB e f && decide (e.body = f.body)) = b := fun b h => by rw [← same_b]; exact h
  have hd := hd _ rfl
  unfold askB repB at hd
  rw [← hd]
  clear hd
  by_cases h1 : e.kind = f.kind
  · have h1 := eq_true h1
    by_cases h2 : e.id = f.id
    · have h2 := eq_true h2
      by_cases h3 : e.url = f.url
      · have h3 := eq_true h3
        by_cases h4 : e.src = f.src
        · have h4 := eq_true h4
          by_cases h5 : e.mode = f.mode
          · have h5 := eq_true h5
            by_cases h6 : e.media = f.media
            · have h6 := eq_true h6
              by_cases h7 : e.status = f.status
              · have h7 := eq_true h7
                by_cases h8 : e.hdrs = f.hdrs
                · rw [decide_eq_true h8] at heq
                  have h8 := eq_true h8
                  simp [h1, h2, h3, h4, h5, h6, h7, h8, ← hH2, g1, g2, heq, hle]
                · rw [decide_eq_false h8] at heq
                  have h8 := eq_false h8
                  simp [h1, h2, h3, h4, h5, h6, h7, h8, ← hH2, g1, g2, heq, hle]
              · have h7 := eq_false h7
                simp [h1, h2, h3, h4, h5, h6, h7, ← hH2, g1, g2, hle]
            · have h6 := eq_false h6
              simp [h1, h2, h3, h4, h5, h6, ← hH2, g1, g2, hle]
          · have h5 := eq_false h5
            simp [h1, h2, h3, h4, h5, ← hH2, g1, g2, hle]
        · have h4 := eq_false h4
          simp [h1, h2, h3, h4, ← hH2, g1, g2, hle]
      · have h3 := eq_false h3
        simp [h1, h2, h3, ← hH2, g1, g2, hle]
    · have h2 := eq_false h2
      simp [h1, h2, ← hH2, g1, g2, hle]
  · have h1 := eq_false h1
    simp [h1, ← hH2, g1, g2, hle]
end
end Go.Proofs.YthgcgjpbhbikaaaGreatDoor.Sc

set_option linter.unusedSimpArgs false
set_option linter.unusedVariables false
set_option maxRecDepth 100000
set_option maxHeartbeats 4000000
namespace Go.Proofs.YthgcgjpbhbikaaaGreatDoor.Sc
open Go.Lg Go.Tg
section
variable {H H' : LH} {v p : Value} {e : Tg.Sc.Ev}
theorem rgood_cl (hr : HRow H p e.hdrs) (hz : EvZ e) : LC Tryz.prog EJ 11 [evv e p] H = some (.bool (Tg.Sc.good e), H) := by
  by_cases hg : Tg.Sc.good e = true
  · rw [hg]; exact rgood_t hg hr hz
  have hgf : Tg.Sc.good e = false := by cases h : Tg.Sc.good e with | false => rfl | true => exact absurd h hg
  rw [hgf]
  clear hgf
  obtain ⟨pa, pn, pc, rfl⟩ := hr.slice
  refine LC_pure rfl Tryz.func11 rfl (Nat.le_of_ble_eq_true rfl) (by decide) (by kernel_rfl) rfl ?_
  obtain ⟨kind, id, url, src, mode, media, status, hdrs, body⟩ := e
  obtain ⟨z1, z2, z3, z4, z5, z6, z7, z8, z9, z10, z11, z12⟩ := hz
  simp only at z1 z2 z3 z4 z5 z6 z7 z8 z9 z10 z11 z12 hr
  obtain ⟨Hb, hHb⟩ : ∃ Hb, Hb = H.new ⟨[.int .i64 kind, .int .i64 id, str url, str src, str mode, .int .i64 media, .int .i64 status, .slice pa pn pc, str body], 36, true⟩ := ⟨_, rfl⟩
  have hble : H.le Hb := by rw [hHb]; exact le_refl.new
  have gb2 : Hb.get H.n = some ⟨[.int .i64 kind, .int .i64 id, str url, str src, str mode, .int .i64 media, .int .i64 status, .slice pa pn pc, str body], 36, true⟩ := by rw [hHb]; exact get_new
  have hrb : HRow Hb (.slice pa pn pc) hdrs := by rw [hHb]; exact hr.new1
  have hgo := hgood_cl hrb (by omega) (fun h hh => by have := z6 h hh; omega)
  have hpn : pn = hdrs.length := by
    have := hr.len (H' := H)
    simp at this
    omega
  clear hr hrb z1 z2 z3 z4 z5 z6 z7 z8 z9 z10 z11 z12
  by_cases k1 : kind < 1
  · have k1 := eq_true k1
    simp [← hHb, gb2, k1, hble]
  by_cases k2 : 6 < kind
  · have k1 := eq_false k1
    have k2 := eq_true k2
    simp [← hHb, gb2, k1, k2, hble]
  have hk : kind = 1 ∨ kind = 2 ∨ kind = 3 ∨ kind = 4 ∨ kind = 5 ∨ kind = 6 := by omega
  clear k1 k2
  rcases hk with rfl | rfl | rfl | rfl | rfl | rfl
  · skip
    by_cases i1 : id < 1
    · have i1 := eq_true i1
      simp [← hHb, gb2, hble, i1]
    have qi1 := eq_false i1
    by_cases i2 : (1000000 : Int) < id
    · have i2 := eq_true i2
      simp [← hHb, gb2, hble, qi1, i2]
    have qi2 := eq_false i2
    by_cases u1 : (1000 : Int) < (url.length : Int)
    · have u1 := eq_true u1
      simp [← hHb, gb2, hble, qi1, qi2, u1]
    have qu1 := eq_false u1
    by_cases s1 : (1000 : Int) < (src.length : Int)
    · have s1 := eq_true s1
      simp [← hHb, gb2, hble, qi1, qi2, qu1, s1]
    have qs1 := eq_false s1
    by_cases m0 : media < 0
    · have m0 := eq_true m0
      simp [← hHb, gb2, hble, qi1, qi2, qu1, qs1, m0]
    have qm0 := eq_false m0
    by_cases m9 : 2 < media
    · have m9 := eq_true m9
      simp [← hHb, gb2, hble, qi1, qi2, qu1, qs1, qm0, m9]
    have qm9 := eq_false m9
    by_cases hm : Tg.Sc.modes.contains mode = true
    rotate_left
    · have hm2 : ¬ (mode = [110, 111, 45, 99, 111, 114, 115] ∨ mode = [99, 111, 114, 115] ∨ mode = [115, 97, 109, 101, 45, 111, 114, 105, 103, 105, 110] ∨ mode = [110, 97, 118, 105, 103, 97, 116, 101]) := fun h => hm (by rcases h with rfl | rfl | rfl | rfl <;> decide +kernel)
      simp only [not_or] at hm2
      obtain ⟨m1, m2, m3, m4⟩ := hm2
      have m1 := eq_false m1
      have m2 := eq_false m2
      have m3 := eq_false m3
      have m4 := eq_false m4
      simp [← hHb, gb2, hble, qi1, qi2, qu1, qs1, qm0, qm9, m1, m2, m3, m4]
    rcases mode_four hm with rfl | rfl | rfl | rfl
    · skip
      by_cases hstatus : status = 0
      rotate_left
      · have hstatus := eq_false hstatus
        simp [← hHb, gb2, hble, qi1, qi2, qu1, qs1, qm0, qm9, hstatus]
      subst hstatus
      by_cases hh : hdrs = []
      rotate_left
      · have hp := eq_true (show 0 < pn by rw [hpn]; exact List.length_pos_iff.mpr hh)
        simp [← hHb, gb2, hble, qi1, qi2, qu1, qs1, qm0, qm9, hp]
      subst hh
      obtain rfl : pn = 0 := hpn
      by_cases hbody : body = []
      rotate_left
      · have hbody := eq_false hbody
        simp [← hHb, gb2, hble, qi1, qi2, qu1, qs1, qm0, qm9, hbody]
      subst hbody
      exact absurd (by unfold Tg.Sc.good; first | (simp_all; done) | (simp_all; omega)) hg
    · skip
      by_cases hstatus : status = 0
      rotate_left
      · have hstatus := eq_false hstatus
        simp [← hHb, gb2, hble, qi1, qi2, qu1, qs1, qm0, qm9, hstatus]
      subst hstatus
      by_cases hh : hdrs = []
      rotate_left
      · have hp := eq_true (show 0 < pn by rw [hpn]; exact List.length_pos_iff.mpr hh)
        simp [← hHb, gb2, hble, qi1, qi2, qu1, qs1, qm0, qm9, hp]
      subst hh
      obtain rfl : pn = 0 := hpn
      by_cases hbody : body = []
      rotate_left
      · have hbody := eq_false hbody
        simp [← hHb, gb2, hble, qi1, qi2, qu1, qs1, qm0, qm9, hbody]
      subst hbody
      exact absurd (by unfold Tg.Sc.good; first | (simp_all; done) | (simp_all; omega)) hg
    · skip
      by_cases hstatus : status = 0
      rotate_left
      · have hstatus := eq_false hstatus
        simp [← hHb, gb2, hble, qi1, qi2, qu1, qs1, qm0, qm9, hstatus]
      subst hstatus
      by_cases hh : hdrs = []
      rotate_left
      · have hp := eq_true (show 0 < pn by rw [hpn]; exact List.length_pos_iff.mpr hh)
        simp [← hHb, gb2, hble, qi1, qi2, qu1, qs1, qm0, qm9, hp]
      subst hh
      obtain rfl : pn = 0 := hpn
      by_cases hbody : body = []
      rotate_left
      · have hbody := eq_false hbody
        simp [← hHb, gb2, hble, qi1, qi2, qu1, qs1, qm0, qm9, hbody]
      subst hbody
      exact absurd (by unfold Tg.Sc.good; first | (simp_all; done) | (simp_all; omega)) hg
    · skip
      by_cases hstatus : status = 0
      rotate_left
      · have hstatus := eq_false hstatus
        simp [← hHb, gb2, hble, qi1, qi2, qu1, qs1, qm0, qm9, hstatus]
      subst hstatus
      by_cases hh : hdrs = []
      rotate_left
      · have hp := eq_true (show 0 < pn by rw [hpn]; exact List.length_pos_iff.mpr hh)
        simp [← hHb, gb2, hble, qi1, qi2, qu1, qs1, qm0, qm9, hp]
      subst hh
      obtain rfl : pn = 0 := hpn
      by_cases hbody : body = []
      rotate_left
      · have hbody := eq_false hbody
        simp [← hHb, gb2, hble, qi1, qi2, qu1, qs1, qm0, qm9, hbody]
      subst hbody
      exact absurd (by unfold Tg.Sc.good; first | (simp_all; done) | (simp_all; omega)) hg
  · skip
    by_cases i1 : id < 1
    · have i1 := eq_true i1
      simp [← hHb, gb2, hble, i1]
    have qi1 := eq_false i1
    by_cases i2 : (1000000 : Int) < id
    · have i2 := eq_true i2
      simp [← hHb, gb2, hble, qi1, i2]
    have qi2 := eq_false i2
    by_cases hurl : url = []
    rotate_left
    · have hurl := eq_false hurl
      simp [← hHb, gb2, hble, qi1, qi2, hurl]
    subst hurl
    by_cases hsrc : src = []
    rotate_left
    · have hsrc := eq_false hsrc
      simp [← hHb, gb2, hble, qi1, qi2, hsrc]
    subst hsrc
    by_cases hmode : mode = []
    rotate_left
    · have hmode := eq_false hmode
      simp [← hHb, gb2, hble, qi1, qi2, hmode]
    subst hmode
    by_cases hmedia : media = 0
    rotate_left
    · have hmedia := eq_false hmedia
      simp [← hHb, gb2, hble, qi1, qi2, hmedia]
    subst hmedia
    by_cases t0 : status < 0
    · have t0 := eq_true t0
      simp [← hHb, gb2, hble, qi1, qi2, t0]
    have qt0 := eq_false t0
    by_cases t9 : 9999 < status
    · have t9 := eq_true t9
      simp [← hHb, gb2, hble, qi1, qi2, qt0, t9]
    have qt9 := eq_false t9
    cases hd : Tg.Hd.good hdrs with
    | false =>
      rw [hd] at hgo
      simp [← hHb, gb2, hble, hgo, qi1, qi2, qt0, qt9]
    | true =>
      rw [hd] at hgo
      by_cases hbody : body = []
      rotate_left
      · have hbody := eq_false hbody
        simp [← hHb, gb2, hble, qi1, qi2, qt0, qt9, hgo, hbody]
      subst hbody
      exact absurd (by unfold Tg.Sc.good; first | (simp_all; done) | (simp_all; omega)) hg
  · skip
    by_cases i1 : id < 1
    · have i1 := eq_true i1
      simp [← hHb, gb2, hble, i1]
    have qi1 := eq_false i1
    by_cases i2 : (1000000 : Int) < id
    · have i2 := eq_true i2
      simp [← hHb, gb2, hble, qi1, i2]
    have qi2 := eq_false i2
    by_cases hurl : url = []
    rotate_left
    · have hurl := eq_false hurl
      simp [← hHb, gb2, hble, qi1, qi2, hurl]
    subst hurl
    by_cases hsrc : src = []
    rotate_left
    · have hsrc := eq_false hsrc
      simp [← hHb, gb2, hble, qi1, qi2, hsrc]
    subst hsrc
    by_cases hmode : mode = []
    rotate_left
    · have hmode := eq_false hmode
      simp [← hHb, gb2, hble, qi1, qi2, hmode]
    subst hmode
    by_cases hmedia : media = 0
    rotate_left
    · have hmedia := eq_false hmedia
      simp [← hHb, gb2, hble, qi1, qi2, hmedia]
    subst hmedia
    by_cases hstatus : status = 0
    rotate_left
    · have hstatus := eq_false hstatus
      simp [← hHb, gb2, hble, qi1, qi2, hstatus]
    subst hstatus
    by_cases hh : hdrs = []
    rotate_left
    · have hp := eq_true (show 0 < pn by rw [hpn]; exact List.length_pos_iff.mpr hh)
      simp [← hHb, gb2, hble, qi1, qi2, hp]
    subst hh
    obtain rfl : pn = 0 := hpn
    by_cases b0 : (body.length : Int) ≤ 10000
    rotate_left
    · have hbn : (body = []) = False := eq_false (fun e => b0 (by rw [e]; decide))
      have b1 := eq_false b0
      simp [← hHb, gb2, hble, qi1, qi2, hbn, b1]
    exact absurd (by unfold Tg.Sc.good; first | (simp_all; done) | (simp_all; omega)) hg
  · skip
    by_cases i1 : id < 1
    · have i1 := eq_true i1
      simp [← hHb, gb2, hble, i1]
    have qi1 := eq_false i1
    by_cases i2 : (1000000 : Int) < id
    · have i2 := eq_true i2
      simp [← hHb, gb2, hble, qi1, i2]
    have qi2 := eq_false i2
    by_cases hurl : url = []
    rotate_left
    · have hurl := eq_false hurl
      simp [← hHb, gb2, hble, qi1, qi2, hurl]
    subst hurl
    by_cases hsrc : src = []
    rotate_left
    · have hsrc := eq_false hsrc
      simp [← hHb, gb2, hble, qi1, qi2, hsrc]
    subst hsrc
    by_cases hmode : mode = []
    rotate_left
    · have hmode := eq_false hmode
      simp [← hHb, gb2, hble, qi1, qi2, hmode]
    subst hmode
    by_cases hmedia : media = 0
    rotate_left
    · have hmedia := eq_false hmedia
      simp [← hHb, gb2, hble, qi1, qi2, hmedia]
    subst hmedia
    by_cases hstatus : status = 0
    rotate_left
    · have hstatus := eq_false hstatus
      simp [← hHb, gb2, hble, qi1, qi2, hstatus]
    subst hstatus
    by_cases hh : hdrs = []
    rotate_left
    · have hp := eq_true (show 0 < pn by rw [hpn]; exact List.length_pos_iff.mpr hh)
      simp [← hHb, gb2, hble, qi1, qi2, hp]
    subst hh
    obtain rfl : pn = 0 := hpn
    by_cases hbody : body = []
    rotate_left
    · have hbody := eq_false hbody
      simp [← hHb, gb2, hble, qi1, qi2, hbody]
    subst hbody
    exact absurd (by unfold Tg.Sc.good; first | (simp_all; done) | (simp_all; omega)) hg
  · skip
    by_cases i1 : id < 1
    · have i1 := eq_true i1
      simp [← hHb, gb2, hble, i1]
    have qi1 := eq_false i1
    by_cases i2 : (1000000 : Int) < id
    · have i2 := eq_true i2
      simp [← hHb, gb2, hble, qi1, i2]
    have qi2 := eq_false i2
    by_cases hurl : url = []
    rotate_left
    · have hurl := eq_false hurl
      simp [← hHb, gb2, hble, qi1, qi2, hurl]
    subst hurl
    by_cases hsrc : src = []
    rotate_left
    · have hsrc := eq_false hsrc
      simp [← hHb, gb2, hble, qi1, qi2, hsrc]
    subst hsrc
    by_cases hmode : mode = []
    rotate_left
    · have hmode := eq_false hmode
      simp [← hHb, gb2, hble, qi1, qi2, hmode]
    subst hmode
    by_cases hmedia : media = 0
    rotate_left
    · have hmedia := eq_false hmedia
      simp [← hHb, gb2, hble, qi1, qi2, hmedia]
    subst hmedia
    by_cases hstatus : status = 0
    rotate_left
    · have hstatus := eq_false hstatus
      simp [← hHb, gb2, hble, qi1, qi2, hstatus]
    subst hstatus
    by_cases hh : hdrs = []
    rotate_left
    · have hp := eq_true (show 0 < pn by rw [hpn]; exact List.length_pos_iff.mpr hh)
      simp [← hHb, gb2, hble, qi1, qi2, hp]
    subst hh
    obtain rfl : pn = 0 := hpn
    by_cases hbody : body = []
    rotate_left
    · have hbody := eq_false hbody
      simp [← hHb, gb2, hble, qi1, qi2, hbody]
    subst hbody
    exact absurd (by unfold Tg.Sc.good; first | (simp_all; done) | (simp_all; omega)) hg
  · skip
    by_cases i0 : id < 0
    · have i0 := eq_true i0
      simp [← hHb, gb2, hble, i0]
    have qi0 := eq_false i0
    by_cases i2 : (1000000 : Int) < id
    · have i2 := eq_true i2
      simp [← hHb, gb2, hble, qi0, i2]
    have qi2 := eq_false i2
    by_cases hurl : url = []
    rotate_left
    · have hurl := eq_false hurl
      simp [← hHb, gb2, hble, qi0, qi2, hurl]
    subst hurl
    by_cases hsrc : src = []
    rotate_left
    · have hsrc := eq_false hsrc
      simp [← hHb, gb2, hble, qi0, qi2, hsrc]
    subst hsrc
    by_cases hmode : mode = []
    rotate_left
    · have hmode := eq_false hmode
      simp [← hHb, gb2, hble, qi0, qi2, hmode]
    subst hmode
    by_cases hmedia : media = 0
    rotate_left
    · have hmedia := eq_false hmedia
      simp [← hHb, gb2, hble, qi0, qi2, hmedia]
    subst hmedia
    by_cases hstatus : status = 0
    rotate_left
    · have hstatus := eq_false hstatus
      simp [← hHb, gb2, hble, qi0, qi2, hstatus]
    subst hstatus
    by_cases hh : hdrs = []
    rotate_left
    · have hp := eq_true (show 0 < pn by rw [hpn]; exact List.length_pos_iff.mpr hh)
      simp [← hHb, gb2, hble, qi0, qi2, hp]
    subst hh
    obtain rfl : pn = 0 := hpn
    by_cases hid : id = 0
    rotate_left
    · have hid := eq_false hid
      simp [← hHb, gb2, hble, qi0, qi2, hid]
    subst hid
    by_cases hbody : body = []
    rotate_left
    · have hbody := eq_false hbody
      simp [← hHb, gb2, hble, qi0, qi2, hbody]
    subst hbody
    exact absurd (by unfold Tg.Sc.good; first | (simp_all; done) | (simp_all; omega)) hg
end
end Go.Proofs.YthgcgjpbhbikaaaGreatDoor.Sc

set_option linter.unusedSimpArgs false
set_option linter.unusedVariables false
set_option maxRecDepth 100000
namespace Tg.Sc
open Go.Lib (itoa)
structure Out where
  kind : Int
  id : Int
  status : Int
  hdrs : List Tg.Hd.Hdr
  body : List UInt8
  reason : List UInt8
def told (o : Out) : List (List UInt8) :=
  if o.kind < 1 ∨ 6 < o.kind then []
  else if o.kind = 1 then headsL kwHead o.id o.status o.hdrs
  else if o.kind = 2 then [wl [kwBody, itoa o.id, esc o.body]]
  else if o.kind = 3 then [wl [kwEnd, itoa o.id]]
  else [wl [if o.kind = 4 then kwBlock else if o.kind = 5 then kwFail else kwRefused, itoa o.id, esc o.reason]]
end Tg.Sc
namespace Go.Proofs.YthgcgjpbhbikaaaGreatDoor.Sc
open Go.Lg Go.Tg
abbrev outv (o : Tg.Sc.Out) (p : Value) : Value := .agg #[.int .i64 o.kind, .int .i64 o.id, .int .i64 o.status, p, str o.body, str o.reason]
structure OutZ (o : Tg.Sc.Out) : Prop where
  body : o.body.length ≤ 300000
  reason : o.reason.length ≤ 300000
  hn : o.hdrs.length ≤ 90000
  hs : ∀ h ∈ o.hdrs, h.1.length ≤ 300000 ∧ h.2.length ≤ 300000
  k0 : -9223372036854775808 ≤ o.kind
  k1 : o.kind ≤ 9223372036854775807
  id0 : -9223372036854775808 ≤ o.id
  id1 : o.id ≤ 9223372036854775807
  st0 : -9223372036854775808 ≤ o.status
  st1 : o.status ≤ 9223372036854775807
section
variable {H H' : LH} {s : List UInt8} {v w p : Value} {xs ys : List (List UInt8)} {o : Tg.Sc.Out} {l : List Tg.Hd.Hdr}
end
end Go.Proofs.YthgcgjpbhbikaaaGreatDoor.Sc

set_option linter.unusedSimpArgs false
set_option linter.unusedVariables false
set_option maxRecDepth 100000
namespace Go.Proofs.YthgcgjpbhbikaaaGreatDoor.Sc
open Go.Lg Go.Tg
section
variable {H H' : LH} {s : List UInt8} {v w p : Value} {xs ys : List (List UInt8)} {o : Tg.Sc.Out} {l : List Tg.Hd.Hdr}
end
end Go.Proofs.YthgcgjpbhbikaaaGreatDoor.Sc

set_option linter.unusedSimpArgs false
set_option linter.unusedVariables false
set_option maxRecDepth 100000
namespace Tg.Sc
def showC : Setup := ⟨true, 1445, 0, 1, 0⟩
def showT : List UInt8 := [115, 101, 116, 117, 112, 32, 108, 101, 103, 97, 99, 121, 32, 49, 52, 52, 53, 32, 48, 32, 49, 32, 48, 10]
theorem hlines_len : ∀ {l : List Tg.Hd.Hdr}, (∀ h ∈ l, h.1.length ≤ 30 ∧ h.2.length ≤ 100) → (feeds (l.map hline)).length ≤ l.length * 400
  | [], _ => by simp [feeds]
  | h :: l, hs => by
    have ih := hlines_len (l := l) (fun x hx => hs x (by simp [hx]))
    have h1 := hs h (by simp)
    have h2 := esc_len h.2
    have h3 : (hline h).length = 3 + h.1.length + (esc h.2).length := by unfold hline; simp; omega
    rw [List.map_cons, feeds_cons, List.length_append, List.length_cons, h3, List.length_cons]
    omega
end Tg.Sc
namespace Go.Proofs.YthgcgjpbhbikaaaGreatDoor.Sc
open Go.Lg Go.Tg
structure Small (e : Tg.Sc.Ev) : Prop where
  url : e.url.length ≤ 60
  src : e.src.length ≤ 60
  mode : e.mode.length ≤ 20
  body : e.body.length ≤ 80
  hn : e.hdrs.length ≤ 8
  hs : ∀ h ∈ e.hdrs, h.1.length ≤ 30 ∧ h.2.length ≤ 100
structure EvI (e : Tg.Sc.Ev) : Prop where
  k0 : -9223372036854775808 ≤ e.kind
  k1 : e.kind ≤ 9223372036854775807
  id0 : -9223372036854775808 ≤ e.id
  id1 : e.id ≤ 9223372036854775807
  me0 : -9223372036854775808 ≤ e.media
  me1 : e.media ≤ 9223372036854775807
  st0 : -9223372036854775808 ≤ e.status
  st1 : e.status ≤ 9223372036854775807
section
variable {H H' : LH} {v w p q : Value} {e a b : Tg.Sc.Ev}
theorem small_few (e : Tg.Sc.Ev) : Small (Tg.Sc.fewE e) := by
  obtain ⟨h1, h2⟩ := Tg.Sc.few_le e.hdrs 8
  exact ⟨by show (e.url.take 60).length ≤ _; rw [List.length_take]; omega, by show (e.src.take 60).length ≤ _; rw [List.length_take]; omega, by show (e.mode.take 20).length ≤ _; rw [List.length_take]; omega, by show (e.body.take 80).length ≤ _; rw [List.length_take]; omega, h1, h2⟩
theorem evi_few (h : EvI e) : EvI (Tg.Sc.fewE e) := ⟨h.k0, h.k1, h.id0, h.id1, h.me0, h.me1, h.st0, h.st1⟩
theorem evz_small (h : Small e) (hi : EvI e) : EvZ e :=
  ⟨by have := h.url; omega, by have := h.src; omega, by have := h.mode; omega, by have := h.body; omega, by have := h.hn; omega, fun x hx => by have := h.hs x hx; omega, hi.id0, hi.id1, hi.me0, hi.me1, hi.st0, hi.st1⟩
theorem small_len (h : Small e) (hi : EvI e) : (Tg.Sc.feeds (Tg.Sc.shown e)).length ≤ 5000 := by
  have n1 := Tg.Sc.itoa_short hi.id0 hi.id1
  have n2 := Tg.Sc.itoa_short hi.me0 hi.me1
  have n3 := Tg.Sc.itoa_short hi.st0 hi.st1
  have n4 := Tg.Sc.itoa_short (n := (e.hdrs.length : Int)) (by omega) (by have := h.hn; omega)
  have l1 := Tg.Sc.esc_len e.url
  have l2 := Tg.Sc.esc_len e.src
  have l3 := Tg.Sc.esc_len e.body
  have l4 := Tg.Sc.hlines_len h.hs
  obtain ⟨u1, u2, u3, u4, u5, _⟩ := h
  unfold Tg.Sc.shown
  split
  · rw [Tg.Sc.feeds_cons]
    simp [Tg.Sc.wl, Tg.Sc.kwAsk, Tg.Sc.feeds]
    omega
  · split
    · unfold Tg.Sc.headsL
      rw [Tg.Sc.feeds_cons, List.length_append, List.length_cons]
      have : (Tg.Sc.wl [Tg.Sc.kwHead, Lib.itoa e.id, Lib.itoa e.status, Lib.itoa (e.hdrs.length : Int)]).length ≤ 200 := by
        simp [Tg.Sc.wl, Tg.Sc.kwHead]
        omega
      omega
    · split
      · rw [Tg.Sc.feeds_cons]
        simp [Tg.Sc.wl, Tg.Sc.kwChunk, Tg.Sc.feeds]
        omega
      · split
        · rw [Tg.Sc.feeds_cons]
          simp [Tg.Sc.kwReset, Tg.Sc.feeds]
        · split
          · rw [Tg.Sc.feeds_cons]
            simp [Tg.Sc.wl, Tg.Sc.kwEnd, Tg.Sc.feeds]
            omega
          · rw [Tg.Sc.feeds_cons]
            simp [Tg.Sc.wl, Tg.Sc.kwAbort, Tg.Sc.feeds]
            omega
end
end Go.Proofs.YthgcgjpbhbikaaaGreatDoor.Sc

set_option linter.unusedSimpArgs false
set_option linter.unusedVariables false
set_option maxRecDepth 100000
namespace Go.Proofs.YthgcgjpbhbikaaaGreatDoor.Sc
open Go.Lg Go.Tg
section
variable {H H' : LH} {s : List UInt8} {v w p : Value} {xs : List (List UInt8)} {c : Tg.Sc.Setup} {l pre rest : List Tg.Sc.Ev} {e : Tg.Sc.Ev} {N b : Nat}
theorem Bld.old {l : List UInt8} (h : Bld N H b l v) (hle : H.le H') : Bld N H' b l v :=
  ⟨by obtain ⟨p, hg, hp⟩ := h.get; exact ⟨p, by rw [hle.2 b h.lt]; exact hg, hp⟩, h.row.keep hle.1 (fun k _ _ hk => hle.2 k hk), h.full, h.off, Nat.lt_of_lt_of_le h.lt hle.1, Nat.le_trans h.N hle.1, h.nil⟩
theorem TRow.kp {l : List UInt8} {v' : Value} (h : TRow H w xs) (hb : Bld N H b l v) (hk : Kp b v H v' H') : TRow H' w xs := by
  rcases h with h | ⟨k, o, c, B, h1, h2, h3, h4, h5, h6⟩
  · exact .inl h
  · have hkb : k ≠ b := by
      rintro rfl
      obtain ⟨p, hg, _⟩ := hb.get
      rw [h2] at hg
      injection hg with hg
      rw [hg] at h6
      revert h6
      show ¬ (84 = 9)
      decide
    have hoff : offRow v k := RowN.off_of_elem hb.row h2 (by rw [h6]; decide)
    exact .inr ⟨k, o, c, B, h1, by rw [hk.keep k h3 hkb hoff]; exact h2, Nat.lt_of_lt_of_le h3 hk.n, h4, h5, h6⟩
theorem wstr_kp {l s : List UInt8} (h : Bld N H b l v) (hN : N ≤ b) (hlen : l.length + s.length ≤ maxElems) :
    ∃ v' H', LC Tryz.prog EJ 52 [ptr b 0, str s] H = some (.tuple #[.int .i64 s.length, .nilIface], H') ∧ Bld N H' b (l ++ s) v' ∧ (∀ k, k < N → H'.get k = H.get k) ∧ Kp b v H v' H' := by
  obtain ⟨v', H', e, hb, hk⟩ := wstr_ex h hlen
  exact ⟨v', H', e, hb, fun k hk2 => hk.keep k (by have := h.lt; omega) (by omega) (h.off_lt hk2), hk⟩
theorem print_bad (hf : Tg.Sc.fineS c = false) (h10 : Tab10 H) : LC Tryz.prog EJ 30 [suv c, v] H = some (.tuple #[str [], .int .i64 0, .int .i64 2], H) := by
  refine LC_pure rfl Tryz.func30 rfl (Nat.le_of_ble_eq_true rfl) (by decide) (by kernel_rfl) rfl ?_
  obtain ⟨G, hG⟩ : ∃ G, G = H.new ⟨[.bool c.legacy, .int .i64 c.look, .int .i64 c.depth, .int .i64 c.table, .int .i64 c.valid], 26, true⟩ := ⟨_, rfl⟩
  have bG : Bs H G := by rw [hG]; exact ⟨rfl, rfl⟩
  have leG : H.le G := by rw [hG]; exact le_refl.new
  have gG : G.get H.n = some ⟨[.bool c.legacy, .int .i64 c.look, .int .i64 c.depth, .int .i64 c.table, .int .i64 c.valid], 26, true⟩ := by rw [hG]; exact get_new
  have hs := setup_cl (H := G) (c := c) (h10.bs bG)
  rw [hf] at hs
  simp only [Bool.false_eq_true, if_false] at hs
  simp [← hG, gG, hs]
  exact leG
theorem print_go {x : List UInt8} {y z : Int} (hf : Tg.Sc.fineS c = true) (hr : ERow N H v l) (hl : l.length ≤ 5000) (hp : pre ++ rest = l) (hg : ∀ e ∈ pre, Tg.Sc.good e = true) (hb : ∀ e r, rest = e :: r → Tg.Sc.good e = false) (hz : ∀ e ∈ l, EvZ e) (hlen : (Tg.Sc.printT c pre).length ≤ 900000) (ht : Tab H) (h10 : Tab10 H)
    (hx1 : rest = [] → x = Tg.Sc.printT c pre ∧ y = 0 ∧ z = 0) (hx2 : rest ≠ [] → x = [] ∧ y = (pre.length : Int) + 1 ∧ z = 2) : LC Tryz.prog EJ 30 [suv c, v] H = some (.tuple #[str x, .int .i64 y, .int .i64 z], H) := by
  obtain ⟨pa, pn, pc, rfl⟩ := hr.slice
  refine LC_pure rfl Tryz.func30 rfl (Nat.le_of_ble_eq_true rfl) (by decide) (by kernel_rfl) rfl ?_
  obtain ⟨G, hG⟩ : ∃ G, G = H.new ⟨[.bool c.legacy, .int .i64 c.look, .int .i64 c.depth, .int .i64 c.table, .int .i64 c.valid], 26, true⟩ := ⟨_, rfl⟩
  have bG : Bs H G := by rw [hG]; exact ⟨rfl, rfl⟩
  have leG : H.le G := by rw [hG]; exact le_refl.new
  have nG : G.n = H.n + 1 := by rw [hG]; rfl
  have gG : G.get H.n = some ⟨[.bool c.legacy, .int .i64 c.look, .int .i64 c.depth, .int .i64 c.table, .int .i64 c.valid], 26, true⟩ := by rw [hG]; exact get_new
  have hs := setup_cl (H := G) (c := c) (h10.bs bG)
  rw [hf] at hs
  simp only [if_true] at hs
  have hne : (Tg.Sc.setupT c = []) = False := eq_false (fun e => by have := congrArg List.length e; unfold Tg.Sc.setupT Tg.Sc.wl Tg.Sc.kwSetup at this; simp at this)
  obtain ⟨R, hR⟩ : ∃ R, R = Tg.Sc.printT c pre := ⟨_, rfl⟩
  rw [← hR] at hlen hx1
  have hR2 : (Tg.Sc.setupT c ++ [10]) ++ Tg.Sc.feeds ((pre.drop 0).flatMap Tg.Sc.shown) = R := by rw [hR]; unfold Tg.Sc.printT; simp
  generalize Tg.Sc.setupT c = st at *
  have hRl : st.length + 1 ≤ R.length := by rw [← hR2]; simp
  have c0 := cc (a := st) (b := [10]) (by simp; omega)
  have q := eq_false (show ¬ (5000 : Int) < (l.length : Int) by omega)
  have hln := fun G : LH => hr.len (H' := G)
  obtain ⟨b0, H2, w1, w2, w3, w4⟩ := wstr_kp (s := st ++ [10]) (Bld.first (H := G)) (Nat.le_refl _) (by unfold maxElems; simp; omega)
  rw [List.nil_append] at w2
  have bH2 : Bs H H2 := bG.trans (Bs.trans (H1 := G.new ⟨[.pointer none, .slice none 0 0], 84, true⟩) ⟨rfl, rfl⟩ (ext_bs w1))
  have hpl : pre.length + rest.length = l.length := by rw [← hp, List.length_append]
  clear hR
  simp [← hG, gG, hs, hne, hln, q, c0, w1]
  refine loop_ind (fun (i : Nat) fr' H' => ∃ acc bw, fr' 8 = ptr G.n 0 ∧ fr' 25 = .slice pa pn pc ∧ fr' 26 = .int .i64 l.length ∧ fr' 27 = .int .i64 i ∧ i ≤ pre.length ∧ Bld G.n H' G.n acc bw ∧ acc ++ Tg.Sc.feeds ((pre.drop i).flatMap Tg.Sc.shown) = R ∧ (∀ k, k < G.n → H'.get k = G.get k) ∧ Bs H H') (fun i => pre.length - i) 0 ⟨st ++ [10], b0, by simp, by simp, by simp, by simp, Nat.zero_le _, w2, hR2, fun k hk => by rw [w3 k hk, get_new_ne (by omega)], bH2⟩ ?_
  rintro i fr' H' ⟨acc, bw, f8, f25, f26, f27, hi, hbl, hq, hk, hbs⟩ ih
  have hnH : G.n ≤ H'.n := hbl.N
  have hr' : ERow N H' (.slice pa pn pc) l := hr.keep (by omega) (fun k hk2 => by rw [hk k (by omega), leG.2 k hk2])
  by_cases hlt : i < l.length
  · have q0 := eq_true (show (i : Int) < (l.length : Int) by omega)
    have hw1 : IntKind.i64.wrap ((i : Int) + 1) = ((i + 1 : Nat) : Int) := by rw [wrapI (by omega) (by omega)]; omega
    obtain ⟨k, o, qv, a1, a2, a3, a4⟩ := hr'.at hlt
    have a5 := (a4 H' rfl).1
    have hmem : l[i] ∈ l := List.getElem_mem hlt
    have hze := hz _ hmem
    obtain ⟨H3, hH3⟩ : ∃ H3, H3 = H'.new ⟨evl l[i] qv, 36, true⟩ := ⟨_, rfl⟩
    have g3 : H3.get H'.n = some ⟨evl l[i] qv, 36, true⟩ := by rw [hH3]; exact get_new
    have n3 : H3.n = H'.n + 1 := by rw [hH3]; rfl
    have le3 : H'.le H3 := by rw [hH3]; exact le_refl.new
    have b3 : Bs H H3 := by rw [hH3]; exact hbs
    have hr3 : HRow H3 qv l[i].hdrs := by rw [hH3]; exact (HOwn.row a3).new1
    have hgd := good_cl hr3 hze
    obtain ⟨qa, qn, qc, rfl⟩ := hr3.slice
    by_cases hpi : i < pre.length
    · have hei : l[i] = pre[i] := by simp only [← hp]; rw [List.getElem_append_left hpi]
      have hge : Tg.Sc.good l[i] = true := by rw [hei]; exact hg _ (List.getElem_mem hpi)
      rw [List.drop_eq_getElem_cons hpi, ← hei, List.flatMap_cons, Tg.Sc.feeds_app] at hq
      obtain ⟨w, H4, e4, ⟨o4, le4⟩⟩ := shown_ex hge hr3 hze (ht.bs b3) (h10.bs b3)
      have b4 : Bs H H4 := b3.trans (ext_bs e4)
      rw [hge] at hgd
      clear hze hmem hei hge
      generalize l[i] = e at *
      have hlen4 := fun K : LH => o4.len (H' := K)
      have hbl4 : Bld G.n H4 G.n acc bw := Bld.old hbl (le_trans le3 le4)
      have hkk : ∀ k, k < G.n → H4.get k = G.get k := fun k hk2 => by rw [le4.2 k (by omega), le3.2 k (by omega), hk k hk2]
      have hRacc : acc.length + (Tg.Sc.feeds (Tg.Sc.shown e)).length ≤ R.length := by rw [← hq]; simp
      have hxl := Tg.Sc.feeds_len (Tg.Sc.shown e)
      generalize Tg.Sc.shown e = ls at *
      simp [f8, f25, f26, f27, q0, a1, a5, ← hH3, g3, hgd, e4, hlen4]
      refine loop_ind (fun (j : Nat) fr2 H5 => ∃ acc2 bw2, fr2 8 = ptr G.n 0 ∧ fr2 25 = .slice pa pn pc ∧ fr2 26 = .int .i64 l.length ∧ fr2 27 = .int .i64 i ∧ fr2 38 = w ∧ fr2 39 = .int .i64 ls.length ∧ fr2 40 = .int .i64 j ∧ j ≤ ls.length ∧ Bld G.n H5 G.n acc2 bw2 ∧ acc2 ++ Tg.Sc.feeds (ls.drop j) = acc ++ Tg.Sc.feeds ls ∧ TRow H5 w ls ∧ (∀ k, k < G.n → H5.get k = G.get k) ∧ Bs H H5) (fun j => ls.length - j) 0 ⟨acc, bw, by simp [f8], by simp [f25], by simp [f26], by simp [f27], by simp, by simp, by simp, Nat.zero_le _, hbl4, by simp, o4, hkk, b4⟩ ?_
      rintro j fr2 H5 ⟨acc2, bw2, k8, k25, k26, k27, k38, k39, k40, hj, hb5, hq5, ht5, hk5, hbs5⟩ ih2
      by_cases hlt2 : j < ls.length
      · have p0 := eq_true (show (j : Int) < (ls.length : Int) by omega)
        have hw2 : IntKind.i64.wrap ((j : Int) + 1) = ((j + 1 : Nat) : Int) := by rw [wrapI (by omega) (by omega)]; omega
        obtain ⟨k1, o1, g1, _, g3'⟩ := ht5.at hlt2
        have g4 := g3' H5 rfl
        rw [List.drop_eq_getElem_cons hlt2, Tg.Sc.feeds_cons] at hq5
        generalize ls[j] = y at *
        have hly : acc2.length + (y.length + 1) ≤ R.length := by
          have := congrArg List.length hq5
          simp at this
          omega
        obtain ⟨b6, H6, v1, v2, v3, v4⟩ := wstr_kp (s := y ++ [10]) hb5 (Nat.le_refl _) (by unfold maxElems; simp; omega)
        have d1 := cc (a := y) (b := [10]) (by simp; omega)
        have hfin := fun fr3 (g8 : fr3 8 = ptr G.n 0) (g25 : fr3 25 = .slice pa pn pc) (g26 : fr3 26 = .int .i64 l.length) (g27 : fr3 27 = .int .i64 i) (g38 : fr3 38 = w) (g39 : fr3 39 = .int .i64 ls.length) (g40 : fr3 40 = .int .i64 ((j + 1 : Nat) : Int)) => ih2 (j + 1) fr3 H6 (by omega) ⟨acc2 ++ (y ++ [10]), b6, g8, g25, g26, g27, g38, g39, g40, by omega, v2, by rw [← hq5]; simp, ht5.kp hb5 v4, fun k hk2 => by rw [v3 k hk2, hk5 k hk2], hbs5.trans (ext_bs v1)⟩
        clear ih ih2 hq hq5
        simp [k8, k38, k39, k40, p0, g1, g4, d1, v1]
        refine hfin _ ?_ ?_ ?_ ?_ ?_ ?_ ?_
        all_goals simp [k8, k25, k26, k27, k38, k39, hw2]
      · have p0 := eq_false (show ¬ (j : Int) < (ls.length : Int) by omega)
        rw [List.drop_of_length_le (by omega)] at hq5
        have hq6 : acc2 = acc ++ Tg.Sc.feeds ls := by rw [← hq5]; simp [Tg.Sc.feeds]
        have hfin := fun fr3 (g8 : fr3 8 = ptr G.n 0) (g25 : fr3 25 = .slice pa pn pc) (g26 : fr3 26 = .int .i64 l.length) (g27 : fr3 27 = .int .i64 ((i + 1 : Nat) : Int)) => ih (i + 1) fr3 H5 (by omega) ⟨acc2, bw2, g8, g25, g26, g27, by omega, hb5, by rw [← hq, hq6]; simp, hk5, hbs5⟩
        clear ih ih2 hq hq5
        simp [k39, k40, p0, k27]
        refine hfin _ ?_ ?_ ?_ ?_
        all_goals simp [k8, k25, k26, hw1]
    · obtain rfl : i = pre.length := by omega
      cases rest with
      | nil => simp at hp; subst hp; exact absurd hlt hpi
      | cons e r =>
        have hei : l[pre.length] = e := by simp only [← hp]; rw [List.getElem_append_right (Nat.le_refl _)]; simp
        rw [hei] at a5 g3 hgd hH3
        rw [hb e r rfl] at hgd
        obtain ⟨rfl, rfl, rfl⟩ := hx2 (by simp)
        have hw3 : IntKind.i64.wrap ((pre.length : Int) + 1) = (pre.length : Int) + 1 := wrapI (by omega) (by omega)
        have hle : H.le H3 := ⟨by omega, fun k hk2 => by rw [le3.2 k (by omega), hk k (by omega), leG.2 k hk2]⟩
        clear ih hei hq
        simp [f8, f25, f26, f27, q0, a1, a5, ← hH3, g3, hgd, hw3]
        exact hle
  · have q0 := eq_false (show ¬ (i : Int) < (l.length : Int) by omega)
    have hr0 : rest = [] := List.eq_nil_of_length_eq_zero (by omega)
    obtain ⟨rfl, rfl, rfl⟩ := hx1 hr0
    rw [List.drop_of_length_le (by omega)] at hq
    have hq6 : acc = x := by rw [← hq]; simp [Tg.Sc.feeds]
    subst hq6
    obtain ⟨H5, s1, s2, s3⟩ := bstr_ex hbl (by unfold maxLen; omega)
    simp [f8, f26, f27, q0, s1]
    exact ⟨by omega, fun k hk2 => by rw [s3 k (by omega), hk k (by omega), leG.2 k hk2]⟩
end
end Go.Proofs.YthgcgjpbhbikaaaGreatDoor.Sc

set_option linter.unusedSimpArgs false
set_option linter.unusedVariables false
set_option maxRecDepth 100000
namespace Tg.Sc
def badAt : List Ev → Nat
  | [] => 0
  | e :: l => if good e = true then (if badAt l = 0 then 0 else badAt l + 1) else 1
theorem badAt_app (l : List Ev) (e : Ev) : badAt (l ++ [e]) = if badAt l ≠ 0 then badAt l else if good e = true then 0 else l.length + 1 := by
  induction l with
  | nil => simp [badAt]
  | cons x l ih =>
    simp only [List.cons_append, badAt, ih, List.length_cons]
    by_cases h1 : good x = true
    · simp only [h1, if_true]
      by_cases h2 : badAt l = 0
      · simp only [h2, ne_eq, not_true, if_false, if_true]
        by_cases h3 : good e = true
        · simp [h3]
        · simp [h3]
      · simp [h2]
    · simp [h1]
theorem badAt_zero : ∀ {l : List Ev}, badAt l = 0 → ∀ e ∈ l, good e = true
  | [], _, e, he => by cases he
  | x :: l, h, e, he => by
    unfold badAt at h
    split at h
    · rename_i hx
      split at h
      · rename_i hl
        rcases List.mem_cons.mp he with rfl | he
        · exact hx
        · exact badAt_zero hl e he
      · cases h
    · cases h
theorem badAt_pos : ∀ {l : List Ev}, badAt l ≠ 0 → ∃ pre e r, l = pre ++ e :: r ∧ (∀ x ∈ pre, good x = true) ∧ good e = false ∧ badAt l = pre.length + 1
  | [], h => absurd rfl h
  | x :: l, h => by
    by_cases hx : good x = true
    · have hl : badAt l ≠ 0 := fun h0 => h (by unfold badAt; rw [if_pos hx, if_pos h0])
      obtain ⟨pre, e, r, h1, h2, h3, h4⟩ := badAt_pos hl
      refine ⟨x :: pre, e, r, by rw [h1]; rfl, fun y hy => ?_, h3, ?_⟩
      · rcases List.mem_cons.mp hy with rfl | hy
        · exact hx
        · exact h2 y hy
      · conv => lhs; unfold badAt
        rw [if_pos hx, if_neg hl, h4, List.length_cons]
    · refine ⟨[], x, l, rfl, (fun y hy => by cases hy), by cases h : good x with | false => rfl | true => exact absurd h hx, ?_⟩
      conv => lhs; unfold badAt
      rw [if_neg hx]; rfl
theorem flat_small {l : List Ev} {m : Nat} (h : ∀ e ∈ l, (feeds (shown e)).length ≤ m) : (feeds (l.flatMap shown)).length ≤ l.length * m := by
  induction l with
  | nil => simp [feeds]
  | cons x l ih =>
    have := ih (fun e he => h e (by simp [he]))
    have := h x (by simp)
    rw [List.flatMap_cons, feeds_app, List.length_append, List.length_cons, Nat.add_mul]
    omega
end Tg.Sc
namespace Go.Proofs.YthgcgjpbhbikaaaGreatDoor.Sc
open Go.Lg Go.Tg
def IRow (H : LH) (v : Value) (l : List Tg.Sc.Ev) : Prop :=
  (v = .slice none 0 0 ∧ l = []) ∨ ∃ (k o c : Nat), v = .slice (some ⟨k, o, none⟩) l.length c ∧ (l ≠ [] → ∃ b : LB, H.get k = some b ∧ k < H.n ∧ o + l.length * 9 ≤ b.cells.length ∧
    ∀ (i : Nat) (h : i < l.length), ∃ p, (b.cells.drop (o + i * 9)).take 9 = evl l[i] p ∧ HRow H p l[i].hdrs ∧ l[i].hdrs.length ≤ 9223372036854775807 ∧ EvI l[i])
section
variable {H H' : LH} {v w p q : Value} {e a b : Tg.Sc.Ev} {l : List Tg.Sc.Ev} {c d : Tg.Sc.Setup} {s : List UInt8}
theorem IRow.keep (h : IRow H v l) (hn : H.n ≤ H'.n) (hk : ∀ k, k < H.n → H'.get k = H.get k) : IRow H' v l := by
  rcases h with h | ⟨k, o, c, h1, h2⟩
  · exact .inl h
  · refine .inr ⟨k, o, c, h1, fun hne => ?_⟩
    obtain ⟨b, h3, h4, h5, h6⟩ := h2 hne
    exact ⟨b, by rw [hk k h4]; exact h3, by omega, h5, fun i hi => by
      obtain ⟨p, q1, q2, q3⟩ := h6 i hi
      exact ⟨p, q1, q2.keep hn hk, q3⟩⟩
theorem IRow.len (h : IRow H v l) : lbuiltin Tryz.prog .len [27] [v] H' = some (.int .i64 l.length, H') := by
  rcases h with ⟨rfl, rfl⟩ | ⟨k, o, c, rfl, h2⟩
  · simp
  · simp
theorem IRow.slice (h : IRow H v l) : ∃ a n c, v = .slice a n c := by
  rcases h with ⟨rfl, _⟩ | ⟨k, o, c, rfl, _⟩
  · exact ⟨_, _, _, rfl⟩
  · exact ⟨_, _, _, rfl⟩
theorem IRow.at (h : IRow H v l) {i : Nat} (hi : i < l.length) : ∃ k o p, (∀ H' : LH, lixa Tryz.prog 27 v (.int .i64 i) H' = some (ptr k o, H')) ∧ k < H.n ∧ HRow H p l[i].hdrs ∧ l[i].hdrs.length ≤ 9223372036854775807 ∧ EvI l[i] ∧ ∀ H' : LH, H'.get k = H.get k → lld Tryz.prog 36 (ptr k o) H' = some (evv l[i] p) := by
  rcases h with ⟨rfl, rfl⟩ | ⟨k, o, c, rfl, h2⟩
  · simp at hi
  · obtain ⟨b, h2, h3, h5, h4⟩ := h2 (fun e => by rw [e] at hi; simp at hi)
    obtain ⟨p, g1, g2, g3, g4⟩ := h4 i hi
    refine ⟨k, o + i * 9, p, fun H' => ?_, h3, g2, g3, g4, fun H' e => ?_⟩
    · have q := eq_true (show (i : Int) < (l.length : Int) by omega)
      simp [q]
    · rw [h2] at e
      have hle : o + i * 9 + 9 ≤ b.cells.length := by have := Nat.mul_le_mul_right 9 (show i + 1 ≤ l.length by omega); omega
      rw [lld_ptr e, show aggB Tryz.prog 36 = some true by kernel_rfl, show sz Tryz.prog 36 = some 9 by kernel_rfl]
      rw [lldb_agg hle, g1]
theorem part_agg {t : TypeId} {cs : Array Value} {o n : Nat} (ha : pureVal Tryz.prog (isAgg t) = some true) (hs : pureVal Tryz.prog (sizeOf t) = some n) : pureVal Tryz.prog (part t cs o) = some (.agg (cs.extract o (o + n))) := by
  unfold part
  simp only [pureVal_bind, ha, hs, Option.bind_some, if_true, pureVal_pure]
theorem rules_in {n : Nat} {b1 b2 : Bool} {x1 x2 y1 y2 : Int} : pureVal Tryz.prog (Op.equalIn (n + 1 + 1) 24 (.agg #[.bool b1, .int .i64 x1, .int .i64 y1]) (.agg #[.bool b2, .int .i64 x2, .int .i64 y2])) = some (decide (b1 = b2) && decide (x1 = x2) && decide (y1 = y2)) := by
  have hs : Tryz.prog.stoodInHeld 24 = false := by kernel_rfl
  unfold Op.equalIn
  simp only [pureVal_bind, pureVal_und, Tryz.underlying24, Option.bind_some, pureVal_program, hs, Bool.false_eq_true, if_false, pureVal_pure]
  by_cases h1 : b1 = b2 <;> by_cases h2 : x1 = x2 <;> by_cases h3 : y1 = y2 <;>
    simp [← Array.forIn_toList, pureVal_bind, part_cell, eqIn_int, eqIn_str, eqIn_bool, h1, h2, h3, Tryz.underlying3, Tryz.underlying9, Tryz.underlying4]
theorem suv_in : pureVal Tryz.prog (Op.equalIn Op.maxDepth 26 (suv c) (suv c)) = some true := by
  show pureVal Tryz.prog (Op.equalIn (((9997 + 1) + 1) + 1) _ _ _) = _
  have hs : Tryz.prog.stoodInHeld 26 = false := by kernel_rfl
  obtain ⟨c1, c2, c3, c4, c5⟩ := c
  have hp : pureVal Tryz.prog (part 24 #[.bool c1, .int .i64 c2, .int .i64 c3, .int .i64 c4, .int .i64 c5] 0) = some (.agg #[.bool c1, .int .i64 c2, .int .i64 c3]) := part_agg (n := 3) (by kernel_rfl) (by kernel_rfl)
  have hr := rules_in (n := 9997) (b1 := c1) (b2 := c1) (x1 := c2) (x2 := c2) (y1 := c3) (y2 := c3)
  simp only [decide_true, Bool.and_self] at hr
  have hr : pureVal Tryz.prog (Op.equalIn 9999 24 (.agg #[.bool c1, .int .i64 c2, .int .i64 c3]) (.agg #[.bool c1, .int .i64 c2, .int .i64 c3])) = some true := hr
  unfold Op.equalIn
  simp only [pureVal_bind, pureVal_und, Tryz.underlying26, Option.bind_some, pureVal_program, hs, Bool.false_eq_true, if_false, pureVal_pure]
  simp [← Array.forIn_toList, pureVal_bind, part_cell, hp, hr, eqIn_int, eqIn_str, eqIn_bool, Tryz.underlying3, Tryz.underlying9, Tryz.underlying4]
theorem suv_ne : lbin Tryz.prog .neq 26 (suv c) (suv c) = some (.bool false) := hbin_neq rfl rfl (by kernel_rfl) suv_in
end
end Go.Proofs.YthgcgjpbhbikaaaGreatDoor.Sc

set_option linter.unusedSimpArgs false
set_option linter.unusedVariables false
set_option maxRecDepth 100000
namespace Go.Proofs.YthgcgjpbhbikaaaGreatDoor.Sc
open Go.Lg Go.Tg
section
variable {H H' : LH} {v w p q : Value} {e a b : Tg.Sc.Ev} {l : List Tg.Sc.Ev} {c d : Tg.Sc.Setup} {s : List UInt8} {N : Nat}
theorem e_app3 (h : ERow N H v l) (hN : N ≤ H.n) (hl : l.length ≤ 100000) (hp : HOwn 0 H p e.hdrs) :
    ∃ v' H2, lapp Tryz.prog 27 v (some (1, evl e p)) (H.new ⟨evl e p, 36, true⟩) = some (v', H2) ∧ ERow N H2 v' (l ++ [e]) ∧ H.n < H2.n ∧ (∀ k, k < N → H2.get k = H.get k) ∧ (∀ k, k < H.n → offRow v k → H2.get k = H.get k) ∧ HOwn 0 H2 p e.hdrs := by
  obtain ⟨v', H2, a1, a2, a3, a4⟩ := e_app h hN hl hp
  obtain ⟨L, rfl, h2, h3⟩ := h
  have hH : RowN N (H.new ⟨evl e p, 36, true⟩) 36 9 v L.length (ecells L) := h2.keep (Nat.le_succ _) (fun k _ _ hk => get_new_ne (by omega))
  obtain ⟨v'', H2', ha, hr, hkk, hf⟩ := RowN.app (P := Tryz.prog) (t := 27) (new := evl e p) (m := 1) hH Tryz.underlying27 (by kernel_rfl) (evl_cells hp.cell) (by simp) (by unfold maxElems; simp at hl; omega) (by rw [n_new]; omega) (.inl (Nat.le_refl 1))
  rw [a1] at ha
  injection ha with ha
  injection ha with _ ha
  subst ha
  refine ⟨v', H2, a1, a2, a3, a4, fun k hk ho => by rw [hkk.get k (by rw [n_new]; omega) ho, get_new_ne (by omega)], ?_⟩
  exact hp.keep (by omega) (fun k _ hno hkn => by
    obtain ⟨b, g1, g2⟩ := hown_at hp hno
    rw [hkk.get k (by rw [n_new]; omega) (RowN.off_of_elem h2 g1 (by rw [g2]; decide)), get_new_ne (by omega)])
theorem ERow.off_ge (h : ERow N H v l) {k : Nat} (hk : H.n ≤ k) : offRow v k := by
  obtain ⟨L, _, h2, _⟩ := h
  exact RowN.off_ge h2 hk
theorem Setup_cl (h10 : Tab10 H) : LC Tryz.prog EJ 31 [suv c] H = some (.tuple #[str (if Tg.Sc.fineS c = true then Tg.Sc.setupT c else []), .int .i64 (if Tg.Sc.fineS c = true then 0 else 2)], H) := by
  refine LC_pure rfl Tryz.func31 rfl (Nat.le_of_ble_eq_true rfl) (by decide) (by kernel_rfl) rfl ?_
  obtain ⟨G, hG⟩ : ∃ G, G = H.new ⟨[.bool c.legacy, .int .i64 c.look, .int .i64 c.depth, .int .i64 c.table, .int .i64 c.valid], 26, true⟩ := ⟨_, rfl⟩
  have bG : Bs H G := by rw [hG]; exact ⟨rfl, rfl⟩
  have leG : H.le G := by rw [hG]; exact le_refl.new
  have gG : G.get H.n = some ⟨[.bool c.legacy, .int .i64 c.look, .int .i64 c.depth, .int .i64 c.table, .int .i64 c.valid], 26, true⟩ := by rw [hG]; exact get_new
  have hs := setup_cl (H := G) (c := c) (h10.bs bG)
  have hne : (Tg.Sc.setupT c = []) = False := eq_false (fun e => by have := congrArg List.length e; unfold Tg.Sc.setupT Tg.Sc.wl Tg.Sc.kwSetup at this; simp at this)
  generalize Tg.Sc.setupT c = st at *
  cases hf : Tg.Sc.fineS c with
  | false =>
    rw [hf] at hs
    simp only [Bool.false_eq_true, if_false] at hs ⊢
    simp [← hG, gG, hs]
    exact leG
  | true =>
    rw [hf] at hs
    simp only [if_true] at hs ⊢
    simp [← hG, gG, hs, hne]
    exact leG
theorem setupT_len (hf : Tg.Sc.fineS c = true) : (Tg.Sc.setupT c).length ≤ 300 := by
  rw [fineS_b] at hf
  simp only [Bool.and_eq_true, decide_eq_true_eq] at hf
  obtain ⟨⟨⟨⟨⟨⟨⟨a1, a2⟩, a3⟩, a4⟩, a5⟩, a6⟩, a7⟩, a8⟩ := hf
  have n1 := Tg.Sc.itoa_short (n := c.look) (by omega) (by omega)
  have n2 := Tg.Sc.itoa_short (n := c.depth) (by omega) (by omega)
  have n3 := Tg.Sc.itoa_short (n := c.table) (by omega) (by omega)
  have n4 := Tg.Sc.itoa_short (n := c.valid) (by omega) (by omega)
  unfold Tg.Sc.setupT
  have : (if c.legacy = true then Tg.Sc.kwLegacy else Tg.Sc.kwOrb).length ≤ 6 := by split <;> decide
  simp [Tg.Sc.wl, Tg.Sc.kwSetup]
  omega
theorem prints_law (hm : MaxL H) (ht : Tab H) (h10 : Tab10 H) (hv : IRow H v l) (hl : l.length ≤ 9223372036854775807) : LC Tryz.prog EJ 8 [suv c, v] H = some (.bool true, H) := by
  obtain ⟨pa, pn, pc, rfl⟩ := hv.slice
  refine LC_pure rfl Tryz.func8 rfl (Nat.le_of_ble_eq_true rfl) (by decide) (by kernel_rfl) rfl ?_
  obtain ⟨G, hG⟩ : ∃ G, G = H.new ⟨[.bool c.legacy, .int .i64 c.look, .int .i64 c.depth, .int .i64 c.table, .int .i64 c.valid], 26, true⟩ := ⟨_, rfl⟩
  have bG : Bs H G := by rw [hG]; exact ⟨rfl, rfl⟩
  have leG : H.le G := by rw [hG]; exact le_refl.new
  have nG : G.n = H.n + 1 := by rw [hG]; rfl
  have gG : G.get H.n = some ⟨[.bool c.legacy, .int .i64 c.look, .int .i64 c.depth, .int .i64 c.table, .int .i64 c.valid], 26, true⟩ := by rw [hG]; exact get_new
  have bs0e : ∀ H : LH, lbuildSlice Tryz.prog 27 0 [] H = some (sl H.n 0 0, H.new ⟨[], 36, true⟩) := fun H => by
    unfold lbuildSlice
    simp [Instr.fill, Value.cells]
    try rfl
  have hln := fun K : LH => hv.len (H' := K)
  simp [← hG, bs0e]
  refine loop_ind (fun (i : Nat) fr' H' => ∃ w, fr' 1 = .slice pa pn pc ∧ fr' 2 = ptr H.n 0 ∧ fr' 5 = w ∧ fr' 6 = .int .i64 (Tg.Sc.badAt ((l.take i).map Tg.Sc.fewE) : Nat) ∧ fr' 7 = .int .i64 i ∧ i ≤ l.length ∧ i ≤ 10 ∧ ERow G.n H' w ((l.take i).map Tg.Sc.fewE) ∧ G.n ≤ H'.n ∧ (∀ k, k < G.n → H'.get k = G.get k) ∧ Bs H H') (fun i => l.length - i) 0 ⟨sl G.n 0 0, by simp, by simp, by simp, by simp [Tg.Sc.badAt], by simp, Nat.zero_le _, Nat.zero_le _, ?_, by simp, fun k hk => get_new_ne (by omega), ⟨bG.1, bG.2⟩⟩ ?_
  · refine ⟨[], rfl, ?_, fun x hx => by cases hx⟩
    exact ⟨by simp [ecells], .inr ⟨G.n, 0, [], by simp, by omega, by simp, by rw [get_new]; simp [ecells], by simp, by simp [ecells]⟩⟩
  rintro i fr' H' ⟨w, f1, f2, f5, f6, f7, hi, hi10, hrow, hn, hk, hb⟩ ih
  subst f5
  have leH : H.le H' := ⟨by omega, fun k hk2 => by rw [hk k (by omega), leG.2 k hk2]⟩
  have gz : H'.get H.n = some ⟨[.bool c.legacy, .int .i64 c.look, .int .i64 c.depth, .int .i64 c.table, .int .i64 c.valid], 26, true⟩ := by rw [hk _ (by omega)]; exact gG
  by_cases hlt : i < l.length ∧ i < 10
  · obtain ⟨hlt, hlt10⟩ := hlt
    have q0 := eq_true (show (i : Int) < (l.length : Int) by omega)
    have q1 := eq_true (show (i : Int) < 10 by omega)
    have hw1 : IntKind.i64.wrap ((i : Int) + 1) = ((i + 1 : Nat) : Int) := by rw [wrapI (by omega) (by omega)]; omega
    have hv' := hv.keep leH.1 leH.2
    obtain ⟨k, o, p, a1, a2, a3, a4, a5, a6⟩ := hv'.at hlt
    have a7 := a6 H' rfl
    have hln' := fun K : LH => hv'.len (H' := K)
    have hnew : (l.take (i + 1)).map Tg.Sc.fewE = (l.take i).map Tg.Sc.fewE ++ [Tg.Sc.fewE l[i]] := by
      rw [List.take_succ_eq_append_getElem hlt, List.map_append]; rfl
    have hOl : ((l.take i).map Tg.Sc.fewE).length = i := by rw [List.length_map, List.length_take]; omega
    obtain ⟨p1, H1, e1, r1, l1⟩ := few40_ex a3 a4
    have b1 : Bs H H1 := hb.trans (ext_bs e1)
    have sx := small_few l[i]
    have zx := evz_small sx (evi_few a5)
    generalize Tg.Sc.fewE l[i] = x at *
    obtain ⟨H2, hH2⟩ : ∃ H2, H2 = H1.new ⟨evl x p1, 36, true⟩ := ⟨_, rfl⟩
    have n2 : H2.n = H1.n + 1 := by rw [hH2]; rfl
    have b2 : Bs H H2 := by rw [hH2]; exact b1
    have g2 : H2.get H1.n = some ⟨evl x p1, 36, true⟩ := by rw [hH2]; exact get_new
    have le2 : H'.le H2 := by rw [hH2]; exact l1.new
    have hr2 : HOwn 0 H2 p1 x.hdrs := (hown_weak r1 (Nat.zero_le _)).keep (by omega) (fun k _ _ hkn => by rw [hH2, get_new_ne (by omega)])
    have hrow2 : ERow G.n H2 (fr' 5) ((l.take i).map Tg.Sc.fewE) := hrow.keep le2.1 le2.2
    obtain ⟨w', H3, c1, c2, c3, c4, c5, c6⟩ := e_app3 hrow2 (by have := l1.1; omega) (by omega) hr2
    rw [← hnew] at c2
    have b3 : Bs H H3 := b2.trans (Bs.trans (H1 := H2.new ⟨evl x p1, 36, true⟩) ⟨rfl, rfl⟩ (lapp_bs c1))
    have g3 : H3.get H1.n = some ⟨evl x p1, 36, true⟩ := by rw [c5 _ (by omega) (hrow.off_ge l1.1)]; exact g2
    have hgd := rgood_cl (HOwn.row c6) zx
    have hbs := bs1e (H := H2) (e := x) (p := p1)
    have hba := Tg.Sc.badAt_app ((l.take i).map Tg.Sc.fewE) x
    rw [← hnew, hOl] at hba
    have hfin := fun fr2 (g1 : fr2 1 = .slice pa pn pc) (g2 : fr2 2 = ptr H.n 0) (g5 : fr2 5 = w') (g6 : fr2 6 = .int .i64 (Tg.Sc.badAt ((l.take (i + 1)).map Tg.Sc.fewE) : Nat)) (g7 : fr2 7 = .int .i64 ((i + 1 : Nat) : Int)) => ih (i + 1) fr2 H3 (by omega) ⟨w', g1, g2, g5, g6, g7, by omega, by omega, c2, by have := l1.1; omega, fun k hk2 => by rw [c4 k hk2, le2.2 k (by omega), hk k hk2], b3⟩
    rw [hba] at hfin
    obtain ⟨qa, qn, qc, rfl⟩ := (HOwn.row r1).slice
    clear ih hba c2 hrow hrow2 hv hv' r1 hr2 c6 a3 hln
    by_cases hb0 : Tg.Sc.badAt ((l.take i).map Tg.Sc.fewE) = 0
    · rw [hb0] at f6 hfin
      cases hgx : Tg.Sc.good x with
      | true =>
        rw [hgx] at hgd hfin
        simp only [ne_eq, not_true, if_false, if_true] at hfin
        simp [f1, f2, f6, f7, q0, q1, hln', a1, a7, e1, ← hH2, g2, hbs, c1, g3, hgd]
        refine hfin _ ?_ ?_ ?_ ?_ ?_
        all_goals simp [f1, f2, f6, hw1]
      | false =>
        rw [hgx] at hgd hfin
        simp only [ne_eq, not_true, if_false, Bool.false_eq_true] at hfin
        simp [f1, f2, f6, f7, q0, q1, hln', a1, a7, e1, ← hH2, g2, hbs, c1, g3, hgd]
        refine hfin _ ?_ ?_ ?_ ?_ ?_
        all_goals simp [f1, f2, f6, hw1]
    · have qb := eq_false (show ¬ ((Tg.Sc.badAt ((l.take i).map Tg.Sc.fewE) : Nat) : Int) = 0 by omega)
      rw [if_pos hb0] at hfin
      generalize Tg.Sc.badAt ((l.take i).map Tg.Sc.fewE) = m at *
      simp [f1, f2, f6, f7, q0, q1, hln', a1, a7, e1, ← hH2, g2, hbs, c1, g3, qb, hb0]
      refine hfin _ ?_ ?_ ?_ ?_ ?_
      all_goals simp [f1, f2, f6, hw1]
  · have hend : l.take i = l.take 10 := by
      by_cases h : i < l.length
      · have : i = 10 := by omega
        rw [this]
      · rw [List.take_of_length_le (by omega), List.take_of_length_le (by omega)]
    have hex : ((i : Int) < (l.length : Int)) = False ∨ ((i : Int) < (l.length : Int)) = True ∧ ((i : Int) < 10) = False := by
      by_cases h : i < l.length
      · exact .inr ⟨eq_true (by omega), eq_false (by omega)⟩
      · exact .inl (eq_false (by omega))
    have hIev : ∀ e ∈ l, EvI e := fun e he => by
      obtain ⟨j, hj, rfl⟩ := List.getElem_of_mem he
      obtain ⟨_, _, _, _, _, _, _, h5, _⟩ := hv.at hj
      exact h5
    have hsm : ∀ e ∈ (l.take i).map Tg.Sc.fewE, Small e ∧ EvI e := fun e he => by
      obtain ⟨a, ha, rfl⟩ := List.mem_map.mp he
      exact ⟨small_few a, evi_few (hIev a (List.mem_of_mem_take ha))⟩
    have hOl : ((l.take i).map Tg.Sc.fewE).length ≤ 10 := by rw [List.length_map, List.length_take]; omega
    clear ih hend
    generalize (l.take i).map Tg.Sc.fewE = L at *
    have hzL : ∀ e ∈ L, EvZ e := fun e he => evz_small (hsm e he).1 (hsm e he).2
    have hfi := rfine_cl (H := H') (c := c)
    have hst := Setup_cl (H := H') (c := c) (h10.bs hb)
    have go : ∀ Q : Prop, (((i : Int) < (l.length : Int)) = False → Q) → (((i : Int) < (l.length : Int)) = True → ((i : Int) < 10) = False → Q) → Q := fun Q h1 h2 => by
      rcases hex with h | ⟨h, h'⟩
      · exact h1 h
      · exact h2 h h'
    cases hf : Tg.Sc.fineS c with
    | false =>
      rw [hf] at hfi hst
      simp only [Bool.false_eq_true, if_false] at hst
      have hpr := print_bad (H := H') (v := fr' 5) hf (h10.bs hb)
      have lv := lives_cl (hm.bs hb) (ht.bs hb) (h10.bs hb)
      clear hrow hv hzL hsm
      refine go _ (fun q => ?_) (fun q q' => ?_)
      · simp [f1, f2, f6, f7, q, hln, gz, hpr, hst, hfi, lv]
        exact leH
      · simp [f1, f2, f6, f7, q, q', hln, gz, hpr, hst, hfi, lv]
        exact leH
    | true =>
      rw [hf] at hfi hst
      simp only [if_true] at hst
      have hrs := rsetup_cl (H := H') hf
      have hsl := setupT_len hf
      have hLl : ∀ pre : List Tg.Sc.Ev, (∀ e ∈ pre, e ∈ L) → pre.length ≤ 10 → (Tg.Sc.printT c pre).length ≤ 60000 := fun pre hp hpl => by
        have := Tg.Sc.flat_small (l := pre) (m := 5000) (fun e he => small_len (hsm e (hp e he)).1 (hsm e (hp e he)).2)
        unfold Tg.Sc.printT
        rw [List.length_append, List.length_cons]
        omega
      by_cases hb0 : Tg.Sc.badAt L = 0
      · have hgL := Tg.Sc.badAt_zero hb0
        have hpr := print_go (x := Tg.Sc.printT c L) (y := 0) (z := 0) (pre := L) (rest := []) hf hrow (by omega) (List.append_nil _) hgL (fun e r h => by cases h) hzL (by have := hLl L (fun _ h => h) hOl; omega) (ht.bs hb) (h10.bs hb) (fun _ => ⟨rfl, rfl, rfl⟩) (fun h => absurd rfl h)
        have hTl := hLl L (fun _ h => h) hOl
        have hrp := rprint_cl hf hrow hgL hzL (by omega)
        have hrd := Tg.Sc.read_print hf hgL (by omega)
        rw [if_neg (by omega)] at hrd
        obtain ⟨⟨u, H5⟩, e5, p5, hu, l5, r5⟩ := read_ex (H := H') (s := Tg.Sc.printT c L) (by omega) (hm.bs hb) (ht.bs hb) (h10.bs hb)
        rw [hrd] at hu r5
        simp only at hu l5 r5
        subst hu
        obtain ⟨qa, qn, qc, rfl⟩ := r5.slice
        obtain ⟨wa, wn, wc, hw5⟩ := hrow.slice
        rw [hw5] at hrow hpr hrp
        have b5 : Bs H H5 := hb.trans (ext_bs e5)
        obtain ⟨H6, hH6⟩ : ∃ H6, H6 = H5.new ⟨[.bool c.legacy, .int .i64 c.look, .int .i64 c.depth, .int .i64 c.table, .int .i64 c.valid], 26, true⟩ := ⟨_, rfl⟩
        have b6 : Bs H H6 := by rw [hH6]; exact b5
        have l6 : H5.le H6 := by rw [hH6]; exact le_refl.new
        have g6 : H6.get H5.n = some ⟨[.bool c.legacy, .int .i64 c.look, .int .i64 c.depth, .int .i64 c.table, .int .i64 c.valid], 26, true⟩ := by rw [hH6]; exact get_new
        have l56 := le_trans l5 l6
        have gz6 : H6.get H.n = some ⟨[.bool c.legacy, .int .i64 c.look, .int .i64 c.depth, .int .i64 c.table, .int .i64 c.valid], 26, true⟩ := by rw [l56.2 _ (by omega)]; exact gz
        have hrow6 : ERow G.n H6 (.slice wa wn wc) L := hrow.keep l56.1 l56.2
        have r6 : ERow H'.n H6 (.slice qa qn qc) L := r5.keep l6.1 l6.2
        have hrp6 := rprint_cl hf hrow6 hgL hzL (by omega)
        have hne := suv_ne (c := c)
        have lv := lives_cl (hm.bs b6) (ht.bs b6) (h10.bs b6)
        have le6 := le_trans leH l56
        have hlw := fun K : LH => hrow6.len (H' := K)
        have hlq := fun K : LH => r6.len (H' := K)
        clear hv hsm hrd hTl hLl hrow hm ht h10
        have qb : ((Tg.Sc.badAt L : Nat) : Int) = 0 := by omega
        rw [hb0] at f6
        refine go _ (fun q => ?_) (fun q q' => ?_)
        · simp [f1, f2, hw5, f6, f7, q, hln, gz, hpr, hst, hfi, hrs, hrp, e5, ← hH6, gz6, g6, hrp6, hne, hlw, hlq]
          refine loop_ind (fun (j : Nat) fr2 H2 => fr2 5 = .slice wa wn wc ∧ fr2 15 = .slice qa qn qc ∧ fr2 18 = .int .i64 j ∧ j ≤ L.length ∧ H6 = H2) (fun j => L.length - j) 0 ⟨by simp [hw5], by simp, by simp, Nat.zero_le _, rfl⟩ ?_
          rintro j fr2 H2 ⟨k5, k15, k18, hj, rfl⟩ ih
          by_cases hlt2 : j < L.length
          · have p0 := eq_true (show (j : Int) < (L.length : Int) by omega)
            have hw1 : IntKind.i64.wrap ((j : Int) + 1) = ((j + 1 : Nat) : Int) := by rw [wrapI (by omega) (by omega)]; omega
            obtain ⟨ka, oa, pa', u1, _, u3, u4⟩ := hrow6.at hlt2
            obtain ⟨kb, ob, pb', v1, _, v3, v4⟩ := r6.at hlt2
            have u5 := (u4 H6 rfl).1
            have v5 := (v4 H6 rfl).1
            have hzj := hzL L[j] (List.getElem_mem hlt2)
            have hsa := rsame_cl (HOwn.row v3) (HOwn.row u3) (by have := hzj.hn; omega)
            rw [decide_eq_true rfl] at hsa
            have hfin := fun fr3 (m5 : fr3 5 = .slice wa wn wc) (m15 : fr3 15 = .slice qa qn qc) (m18 : fr3 18 = .int .i64 ((j + 1 : Nat) : Int)) => ih (j + 1) fr3 H6 (by omega) ⟨m5, m15, m18, by omega, rfl⟩
            clear ih u3 u4 v3 v4 hzj
            generalize L[j] = x at *
            simp [k5, k15, k18, p0, hlq, u1, v1, u5, v5, hsa]
            refine hfin _ ?_ ?_ ?_
            all_goals simp [k5, k15, hw1]
          · have p0 := eq_false (show ¬ (j : Int) < (L.length : Int) by omega)
            simp [k5, k15, k18, p0, hlq, lv]
            exact le6
        · simp [f1, f2, hw5, f6, f7, q, q', hln, gz, hpr, hst, hfi, hrs, hrp, e5, ← hH6, gz6, g6, hrp6, hne, hlw, hlq]
          refine loop_ind (fun (j : Nat) fr2 H2 => fr2 5 = .slice wa wn wc ∧ fr2 15 = .slice qa qn qc ∧ fr2 18 = .int .i64 j ∧ j ≤ L.length ∧ H6 = H2) (fun j => L.length - j) 0 ⟨by simp [hw5], by simp, by simp, Nat.zero_le _, rfl⟩ ?_
          rintro j fr2 H2 ⟨k5, k15, k18, hj, rfl⟩ ih
          by_cases hlt2 : j < L.length
          · have p0 := eq_true (show (j : Int) < (L.length : Int) by omega)
            have hw1 : IntKind.i64.wrap ((j : Int) + 1) = ((j + 1 : Nat) : Int) := by rw [wrapI (by omega) (by omega)]; omega
            obtain ⟨ka, oa, pa', u1, _, u3, u4⟩ := hrow6.at hlt2
            obtain ⟨kb, ob, pb', v1, _, v3, v4⟩ := r6.at hlt2
            have u5 := (u4 H6 rfl).1
            have v5 := (v4 H6 rfl).1
            have hzj := hzL L[j] (List.getElem_mem hlt2)
            have hsa := rsame_cl (HOwn.row v3) (HOwn.row u3) (by have := hzj.hn; omega)
            rw [decide_eq_true rfl] at hsa
            have hfin := fun fr3 (m5 : fr3 5 = .slice wa wn wc) (m15 : fr3 15 = .slice qa qn qc) (m18 : fr3 18 = .int .i64 ((j + 1 : Nat) : Int)) => ih (j + 1) fr3 H6 (by omega) ⟨m5, m15, m18, by omega, rfl⟩
            clear ih u3 u4 v3 v4 hzj
            generalize L[j] = x at *
            simp [k5, k15, k18, p0, hlq, u1, v1, u5, v5, hsa]
            refine hfin _ ?_ ?_ ?_
            all_goals simp [k5, k15, hw1]
          · have p0 := eq_false (show ¬ (j : Int) < (L.length : Int) by omega)
            simp [k5, k15, k18, p0, hlq, lv]
            exact le6
      · obtain ⟨pre, x, r, h1, h2, h3, h4⟩ := Tg.Sc.badAt_pos hb0
        have hpl : pre.length ≤ 10 := by have := congrArg List.length h1; rw [List.length_append] at this; omega
        have hpr := print_go (x := []) (y := (pre.length : Int) + 1) (z := 2) (pre := pre) (rest := x :: r) hf hrow (by omega) h1.symm h2 (fun e r' h => by injection h with h _; rw [← h]; exact h3) hzL (by have := hLl pre (fun e he => by rw [h1]; simp [he]) hpl; omega) (ht.bs hb) (h10.bs hb) (fun h => by cases h) (fun _ => ⟨rfl, rfl, rfl⟩)
        have lv := lives_cl (hm.bs hb) (ht.bs hb) (h10.bs hb)
        rw [h4] at f6
        have f6 : fr' 6 = .int .i64 ((pre.length : Int) + 1) := f6
        have qp := eq_true (show (0 : Int) < (pre.length : Int) + 1 by omega)
        clear hrow hv hzL hsm hLl
        refine go _ (fun q => ?_) (fun q q' => ?_)
        · simp [f1, f2, f6, f7, q, hln, gz, hpr, hst, hfi, hrs, qp, lv]
          exact leH
        · simp [f1, f2, f6, f7, q, q', hln, gz, hpr, hst, hfi, hrs, qp, lv]
          exact leH
end
end Go.Proofs.YthgcgjpbhbikaaaGreatDoor.Sc

set_option linter.unusedSimpArgs false
set_option linter.unusedVariables false
set_option maxRecDepth 100000
namespace Go.Proofs.YthgcgjpbhbikaaaGreatDoor
open Go.ChangeShapes Go.WideShapes Go.ChangeAt Go.RowKit Go.Tg Go.Lg

noncomputable def laidC : List (String × DataW Unit) := [("math/bits.deBruijn32tab", Rows.laid_math_bits_deBruijn32tab), ("math/bits.deBruijn64tab", Rows.laid_math_bits_deBruijn64tab), ("internal/strconv.uint64pow10", Rows.laid_internal_strconv_uint64pow10), ("unicode/utf8.acceptRanges", Rows.laid_unicode_utf8_acceptRanges), ("unicode.White_Space", Rows.laid_unicode_White_Space), ("strings.asciiSpace", Rows.laid_strings_asciiSpace), ("unicode/utf8.first", Rows.laid_unicode_utf8_first)]
theorem gPowC : Tryz.prog.globalNamed "internal/strconv.uint64pow10" = some 5 := by kernel_rfl
theorem gTabC : Tryz.prog.globalNamed "strings.asciiSpace" = some 0 := by kernel_rfl
theorem laid_plainC {W : World} (h : laidMetH Tryz.prog laidC W) : laidMet Tryz.prog laidC W := by rwa [MakeChecks.laidMetH_plain _ _ _ (by kernel_rfl)] at h
theorem pow_of_laidC {W : World} (h : laidMetH Tryz.prog laidC W) : Lib.TabIs Tryz.prog W "internal/strconv.uint64pow10" .u64 Lib.pow10Tab := by
  have h2 := (laid_plainC h).filter (fun x => x.1 == "internal/strconv.uint64pow10")
  have e : laidC.filter (fun x => x.1 == "internal/strconv.uint64pow10") = [("internal/strconv.uint64pow10", Lib.tabData .u64 Lib.pow10Tab)] := by kernel_rfl
  rw [e] at h2
  exact Lib.tabIs_of_head (g := 5) (t := 166) (e := 108) (n := 20) gPowC (by kernel_rfl) (by kernel_rfl) (by kernel_rfl) (by kernel_rfl) (by kernel_rfl) h2
theorem tab_of_laidC {W : World} (h : laidMetH Tryz.prog laidC W) : Lib.TabIs Tryz.prog W "strings.asciiSpace" .u8 Lib.asciiSpaceTab := by
  have h2 := (laid_plainC h).filter (fun x => x.1 == "strings.asciiSpace")
  have e : laidC.filter (fun x => x.1 == "strings.asciiSpace") = [("strings.asciiSpace", Lib.tabData .u8 Lib.asciiSpaceTab)] := by kernel_rfl
  rw [e] at h2
  exact Lib.tabIs_of_head (g := 0) (t := 118) (e := 5) (n := 256) gTabC (by kernel_rfl) (by kernel_rfl) (by kernel_rfl) (by kernel_rfl) (by kernel_rfl) h2
theorem sizeC {W : World} (h : laidMetH Tryz.prog laidC W) : 5 + 1 ≤ W.heap.size := by
  have h1 := pow_of_laidC h
  have := h1.cell gPowC 0 (by decide)
  rcases Nat.lt_or_ge 5 W.heap.size with h2 | h2
  · exact h2
  · simp [World.cell?, Array.getElem?_eq_none h2] at this
theorem tab10CL {W : World} (h : laidMetH Tryz.prog laidC W) : Tab10 (LH.lift W (5 + 1)) := ⟨by show 5 < 5 + 1; decide, pow_of_laidC h⟩
theorem tabCL {W : World} (h : laidMetH Tryz.prog laidC W) : Tab (LH.lift W (5 + 1)) := ⟨by show 0 < 5 + 1; decide, tab_of_laidC h⟩
theorem maxCL {W : World} (h : W.ShapedOpen Tryz.prog) : MaxL (LH.lift W (5 + 1)) := by
  refine ⟨by show 2 < 5 + 1; decide, ?_⟩
  exact Go.Proofs.cell_of_shapedOpen_int (P := Tryz.prog) (w := W) (zero := #[.int .i64 0]) (t := 3) (g := 2) h (of_decide_eq_true (by kernel_rfl)) (by kernel_rfl) rfl (by kernel_rfl) (by kernel_rfl) Tryz.underlying3
theorem returns_and_shaped {H : Type} {enc : TypeId × Value → H} {a : Assume} {C : Checked} {os : Os} {f : FuncId} {fn : Func} {s : ChangeSpec} {conds : List PathCond} {apart fresh handsOn again : Bool} {X : World → Array Value → Prop}
    (hX : ∀ (w w' : World) (args : Array Value), w.heap = w'.heap → X w args → X w' args)
    (own : Go.ownKnob C.prog.godebug = none) (started : os.Started) (noInit : C.prog.inits.idxOf? f = none) (hfn : C.prog.funcs[f]? = some fn)
    (witness : ∃ (w : World) (tape : Tape) (i : Input), w.os = os ∧ (w.forCall tape i).Shaped C.prog ∧ i.vars = [] ∧ Input.okWide C.prog (w.forCall tape i) .any w.heap.size f i ∧
      ((s.pre enc C.prog fn conds apart (w.forCall tape i).memory i.args ∧ X (w.forCall tape i).memory i.args) ∧ sizedMet enc C.prog fn (OpenSpec.ofChange s) apart (w.forCall tape i).memory i.args) ∧ a.holds C.prog (lone (Frame.enter C.prog f i.args .normal) [] (w.forCall tape i)))
    (contract : ∀ (W : World) (base : Nat) (args : Array Value) (ds gs : List (DataW H)) (before : List MemPlace),
      (∀ (j : Nat) t v, fn.params[j]? = some t → args[j]? = some v → Value.okWide C.prog W .any base t v) →
      DataW.Whole enc C.prog fn.params.toList s.vars apart W args.toList ds gs before →
      X W args → W.ShapedOpen C.prog →
      Calls C.prog f args W fun e W' => ∃ v, e = .returned v ∧ s.post enc C.prog fn apart fresh handsOn again W args v W') :
    ReturnsInHanded a C os f .any (fun w args => (s.pre enc C.prog fn conds apart w args ∧ X w args) ∧ sizedMet enc C.prog fn (OpenSpec.ofChange s) apart w args) (s.post enc C.prog fn apart fresh handsOn again) := by
  refine returnsInHanded_of_calls own started noInit witness ?_
  intro w tape i _ hsh _ hok hpre hholds
  obtain ⟨_, _, _, fn', hfn', _, _, _, _, hval⟩ := hok
  have e : fn' = fn := Option.some.inj (hfn'.symm.trans hfn)
  subst e
  obtain ⟨⟨⟨ds, gs, before, hw, hc⟩, hx⟩, hz⟩ := hpre
  have hw' := DataW.Whole.of_heap (w' := w.forCall tape i) (by rfl) hw
  refine (contract (w.forCall tape i) w.heap.size i.args ds gs before hval hw' (hX _ _ _ (by rfl) hx) hsh).mono fun e W' ⟨v, he, hp⟩ => ?_
  subst he
  exact ChangeSpec.post_blind hp
end Go.Proofs.YthgcgjpbhbikaaaGreatDoor

set_option linter.unusedSimpArgs false
set_option linter.unusedVariables false
set_option maxRecDepth 100000
namespace Go.Proofs.YthgcgjpbhbikaaaGreatDoor.Sc
open Go.ChangeShapes Go.WideShapes Go.ChangeAt Go.RowKit Go.Tg Go.Lg
theorem cells_hdr : Tryz.prog.cellsOf 78 = 2 := by kernel_rfl
theorem cells_hdrs : Tryz.prog.cellsOf 32 = 1 := by kernel_rfl
theorem cells_dstr : Tryz.prog.cellsOf 9 = 1 := by kernel_rfl
theorem cells_dint : Tryz.prog.cellsOf 3 = 1 := by kernel_rfl
theorem hdr_of_trod {HH : Type} {enc : TypeId × Value → HH} {W : World} {base fuel : Nat} {sp : Nat → Bool} {held : Bool} {cs : List Value} {x : DataW HH × List MemPlace} (n : Nat) (hf : DataW.trod enc Tryz.prog W base sp held fuel 78 cs = some x) : ∃ a : Tg.Hd.Hdr, cs.map (lift1 n) = [str a.1, str a.2] := by
  cases fuel with
  | zero => simp [DataW.trod] at hf
  | succ m =>
    rw [DataW.trod_step] at hf
    unfold DataW.trodStep at hf
    simp only [Tryz.underlying78, Value.cells] at hf
    split at hf
    · rename_i hs
      rw [cells_hdr] at hs
      match cs, hs with
      | [c0, c1], _ =>
      simp only [Option.map_eq_some_iff] at hf
      obtain ⟨xs, hx, e1⟩ := hf
      simp only [List.mapM_cons, List.mapM_nil, bind, Option.bind_eq_some_iff, pure, Option.some.injEq, cells_dstr] at hx
      obtain ⟨y0, h0, _, ⟨y1, h1, _, rfl, rfl⟩, rfl⟩ := hx
      obtain ⟨s0, q0, _, _⟩ := DataW.trod_string Tryz.underlying9 h0
      obtain ⟨s1, q1, _, _⟩ := DataW.trod_string Tryz.underlying9 h1
      simp at q0 q1
      subst q0; subst q1
      exact ⟨(s0.data.toList, s1.data.toList), by simp only [str_ba]; rfl⟩
    · cases hf
theorem hrow_of {W : World} {g : Nat} {v : Value} {xs : List Tg.Hd.Hdr} (h : RowOf (LH.lift W g) 2 (fun (a : Tg.Hd.Hdr) cs => cs = [str a.1, str a.2]) v xs) : HRow (LH.lift W g) v xs := by
  rcases h with h | ⟨l, o, c, h1, _, h2, h3⟩
  · exact .inl h
  · refine .inr ⟨l, o, c, h1, fun hne => ?_⟩
    obtain ⟨b, h4, h5, h6⟩ := h3 hne
    refine ⟨b, h4, h2, fun i hi => ?_⟩
    have h7 := h6 i xs[i] (List.getElem?_eq_getElem hi)
    have hle : o + i * 2 + 2 ≤ b.cells.length := by
      have := Nat.mul_le_mul_right 2 (show i + 1 ≤ xs.length by omega)
      omega
    have e1 : b.cells[o + i * 2]? = ((b.cells.drop (o + i * 2)).take 2)[0]? := by rw [List.getElem?_take, if_pos (by decide), List.getElem?_drop]; rfl
    have e2 : b.cells[o + i * 2 + 1]? = ((b.cells.drop (o + i * 2)).take 2)[1]? := by rw [List.getElem?_take, if_pos (by decide), List.getElem?_drop]
    exact ⟨hle, h7, by rw [e1, h7]; rfl, by rw [e2, h7]; rfl⟩
theorem lift_int {n : Nat} {k : IntKind} {x : Int} : lift1 n (.int k x) = .int k x := rfl
theorem lift_bool {n : Nat} {x : Bool} : lift1 n (.bool x) = .bool x := rfl
theorem lift_dstr {n : Nat} (s : ByteArray) : lift1 n (.string s) = str s.data.toList := by rw [← str_ba]; rfl
def I64 (n : Int) : Prop := -9223372036854775808 ≤ n ∧ n ≤ 9223372036854775807
theorem i64_of {n : Int} (h : (Lit.int .i64 n).wf = true) : I64 n := (Lit.wf_int_iff .i64 n).1 h
theorem lift_agg {n : Nat} {cs : Array Value} {l : List Value} (h : cs.toList.map (lift1 n) = l) : liftV n (.agg cs) = .agg ⟨l⟩ := by
  show Value.agg (cs.map (lift1 n)) = _
  congr 1
  rw [← h, ← Array.toList_map]
theorem cells_reply : Tryz.prog.cellsOf 34 = 2 := by kernel_rfl
theorem cells_event : Tryz.prog.cellsOf 36 = 9 := by kernel_rfl
theorem reply_of_trod {HH : Type} {enc : TypeId × Value → HH} {W : World} {g base fuel : Nat} {held : Bool} {cs : List Value} {x : DataW HH × List MemPlace} (hw0 : 0 < W.heap.size) (hf : DataW.trod enc Tryz.prog W base (fun _ => true) held fuel 34 cs = some x) :
    ∃ (n : Int) (p : Value) (l : List Tg.Hd.Hdr), cs = [.int .i64 n, p] ∧ I64 n ∧ HRow (LH.lift W g) (lift1 W.heap.size p) l ∧ l.length ≤ maxLen := by
  cases fuel with
  | zero => simp [DataW.trod] at hf
  | succ m =>
    rw [DataW.trod_step] at hf
    unfold DataW.trodStep at hf
    simp only [Tryz.underlying34, Value.cells] at hf
    split at hf
    · rename_i hs
      rw [cells_reply] at hs
      match cs, hs with
      | [c0, c1], _ =>
      simp only [Option.map_eq_some_iff] at hf
      obtain ⟨xs, hx, e1⟩ := hf
      simp only [List.mapM_cons, List.mapM_nil, bind, Option.bind_eq_some_iff, pure, Option.some.injEq, cells_dint, cells_hdrs] at hx
      obtain ⟨y0, h0, _, ⟨y1, h1, _, rfl, rfl⟩, rfl⟩ := hx
      obtain ⟨k0, e0, rfl, w0⟩ := DataW.trod_int Tryz.underlying3 h0
      obtain ⟨pv, l, hc, hr, hl⟩ := row_of_trod (El := fun (a : Tg.Hd.Hdr) cs => cs = [str a.1, str a.2]) (g := g) Tryz.underlying32 cells_hdr (by decide) hw0 (fun fuel cs y hy => hdr_of_trod W.heap.size hy) h1
      simp at e0 hc
      subst e0; subst hc
      exact ⟨k0, _, l, rfl, i64_of w0, hrow_of hr, hl⟩
    · cases hf
theorem ev_of_trod {HH : Type} {enc : TypeId × Value → HH} {W : World} {g base fuel : Nat} {held : Bool} {cs : List Value} {x : DataW HH × List MemPlace} (hw0 : 0 < W.heap.size) (hf : DataW.trod enc Tryz.prog W base (fun _ => true) held fuel 36 cs = some x) :
    ∃ (e : Tg.Sc.Ev) (p : Value), cs.map (lift1 W.heap.size) = evl e p ∧ HRow (LH.lift W g) p e.hdrs ∧ e.hdrs.length ≤ maxLen ∧ EvI e := by
  cases fuel with
  | zero => simp [DataW.trod] at hf
  | succ m =>
    rw [DataW.trod_step] at hf
    unfold DataW.trodStep at hf
    simp only [Tryz.underlying36, Value.cells] at hf
    split at hf
    · rename_i hs
      rw [cells_event] at hs
      match cs, hs with
      | [c0, c1, c2, c3, c4, c5, c6, c7, c8], _ =>
      simp only [Option.map_eq_some_iff] at hf
      obtain ⟨xs, hx, e1⟩ := hf
      simp only [List.mapM_cons, List.mapM_nil, bind, Option.bind_eq_some_iff, pure, Option.some.injEq, cells_dint, cells_dstr, cells_reply] at hx
      obtain ⟨y0, h0, _, ⟨y1, h1, _, ⟨y2, h2, _, ⟨y3, h3, _, ⟨y4, h4, _, ⟨y5, h5, _, ⟨y6, h6, _, ⟨y7, h7, _, rfl, rfl⟩, rfl⟩, rfl⟩, rfl⟩, rfl⟩, rfl⟩, rfl⟩, rfl⟩ := hx
      obtain ⟨k0, e0, rfl, w0⟩ := DataW.trod_int Tryz.underlying3 h0
      obtain ⟨k1, e1', rfl, w1⟩ := DataW.trod_int Tryz.underlying3 h1
      obtain ⟨s2, q2, _, _⟩ := DataW.trod_string Tryz.underlying9 h2
      obtain ⟨s3, q3, _, _⟩ := DataW.trod_string Tryz.underlying9 h3
      obtain ⟨s4, q4, _, _⟩ := DataW.trod_string Tryz.underlying9 h4
      obtain ⟨k5, e5, rfl, w5⟩ := DataW.trod_int Tryz.underlying3 h5
      obtain ⟨k6, p6, l, hc, w6, hr, hl⟩ := reply_of_trod (g := g) hw0 h6
      obtain ⟨s7, q7, _, _⟩ := DataW.trod_string Tryz.underlying9 h7
      simp at e0 e1' q2 q3 q4 e5 hc q7
      obtain ⟨rfl, rfl⟩ := hc
      subst e0; subst e1'; subst q2; subst q3; subst q4; subst e5; subst q7
      have i0 := i64_of w0
      have i1 := i64_of w1
      have i5 := i64_of w5
      exact ⟨⟨k0, k1, s2.data.toList, s3.data.toList, s4.data.toList, k5, k6, l, s7.data.toList⟩, _, by simp only [List.map_cons, List.map_nil, lift_int, lift_dstr], hr, hl, ⟨i0.1, i0.2, i1.1, i1.2, i5.1, i5.2, w6.1, w6.2⟩⟩
    · cases hf
end Go.Proofs.YthgcgjpbhbikaaaGreatDoor.Sc

set_option linter.unusedSimpArgs false
set_option linter.unusedVariables false
set_option maxRecDepth 100000
namespace Go.Proofs.YthgcgjpbhbikaaaGreatDoor.Sc
open Go.ChangeShapes Go.WideShapes Go.ChangeAt Go.RowKit Go.Tg Go.Lg
theorem cells_rules : Tryz.prog.cellsOf 24 = 3 := by kernel_rfl
theorem cells_setup : Tryz.prog.cellsOf 26 = 5 := by kernel_rfl
theorem cells_pbool : Tryz.prog.cellsOf 4 = 1 := by kernel_rfl
theorem rules_of_trod {HH : Type} {enc : TypeId × Value → HH} {W : World} {base fuel : Nat} {sp : Nat → Bool} {held : Bool} {cs : List Value} {x : DataW HH × List MemPlace} (hf : DataW.trod enc Tryz.prog W base sp held fuel 24 cs = some x) :
    ∃ (b : Bool) (n m : Int), cs = [.bool b, .int .i64 n, .int .i64 m] := by
  cases fuel with
  | zero => simp [DataW.trod] at hf
  | succ m =>
    rw [DataW.trod_step] at hf
    unfold DataW.trodStep at hf
    simp only [Tryz.underlying24, Value.cells] at hf
    split at hf
    · rename_i hs
      rw [cells_rules] at hs
      match cs, hs with
      | [c0, c1, c2], _ =>
      simp only [Option.map_eq_some_iff] at hf
      obtain ⟨xs, hx, e1⟩ := hf
      simp only [List.mapM_cons, List.mapM_nil, bind, Option.bind_eq_some_iff, pure, Option.some.injEq, cells_dint, cells_pbool] at hx
      obtain ⟨y0, h0, _, ⟨y1, h1, _, ⟨y2, h2, _, rfl, rfl⟩, rfl⟩, rfl⟩ := hx
      obtain ⟨k0, q0, _, _⟩ := DataW.trod_bool Tryz.underlying4 h0
      obtain ⟨k1, e1', rfl, w1⟩ := DataW.trod_int Tryz.underlying3 h1
      obtain ⟨k2, e2, rfl, w2⟩ := DataW.trod_int Tryz.underlying3 h2
      simp at q0 e1' e2
      subst q0; subst e1'; subst e2
      exact ⟨k0, k1, k2, rfl⟩
    · cases hf
theorem open_setup {HH : Type} {enc : TypeId × Value → HH} {W : World} {base b0 : Nat} {sp : Nat → Bool} {held : Bool} {r : Reach} {v : Value} {d : DataW HH} {ps : List MemPlace}
    (hval : Value.okWide Tryz.prog W r b0 26 v) (hd : DataW.Trod enc Tryz.prog W base sp held 26 v d ps) :
    ∃ (c : Tg.Sc.Setup), liftV W.heap.size v = suv c ∧ True := by
  obtain ⟨cs, rfl, hs⟩ := okWide_struct Tryz.underlying26 hval
  rw [cells_setup] at hs
  obtain ⟨l⟩ := cs
  match l, hs with
  | [c0, c1, c2, c3, c4], _ =>
  obtain ⟨fuel, hf⟩ := hd
  cases fuel with
  | zero => simp [DataW.trod] at hf
  | succ m =>
    rw [DataW.trod_step] at hf
    unfold DataW.trodStep at hf
    simp only [Tryz.underlying26, Value.cells] at hf
    rw [if_pos (by rw [cells_setup]; rfl)] at hf
    simp only [Option.map_eq_some_iff] at hf
    obtain ⟨xs, hx, e1⟩ := hf
    simp only [List.mapM_cons, List.mapM_nil, bind, Option.bind_eq_some_iff, pure, Option.some.injEq, cells_dint, cells_rules] at hx
    obtain ⟨y0, h0, _, ⟨y1, h1, _, ⟨y2, h2, _, rfl, rfl⟩, rfl⟩, rfl⟩ := hx
    obtain ⟨b, k, m', hc⟩ := rules_of_trod h0
    obtain ⟨k1, e1', rfl, w1⟩ := DataW.trod_int Tryz.underlying3 h1
    obtain ⟨k2, e2, rfl, w2⟩ := DataW.trod_int Tryz.underlying3 h2
    simp at hc e1' e2
    obtain ⟨rfl, rfl, rfl⟩ := hc
    subst e1'; subst e2
    exact ⟨⟨b, k, m', k1, k2⟩, lift_agg (by simp only [List.map_cons, List.map_nil, lift_int, lift_bool]), trivial⟩
theorem irow_of {W : World} {g : Nat} {v : Value} {xs : List Tg.Sc.Ev} (h : RowOf (LH.lift W g) 9 (fun (e : Tg.Sc.Ev) cs => ∃ p, cs = evl e p ∧ HRow (LH.lift W g) p e.hdrs ∧ e.hdrs.length ≤ maxLen ∧ EvI e) v xs) : IRow (LH.lift W g) v xs := by
  rcases h with h | ⟨l, o, c, h1, _, h2, h3⟩
  · exact .inl h
  · refine .inr ⟨l, o, c, h1, fun hne => ?_⟩
    obtain ⟨b, h4, h5, h6⟩ := h3 hne
    refine ⟨b, h4, h2, h5, fun i hi => ?_⟩
    obtain ⟨p, q1, q2, q3, q4⟩ := h6 i xs[i] (List.getElem?_eq_getElem hi)
    exact ⟨p, q1, q2, Nat.le_trans q3 (by decide), q4⟩
theorem open_evs {HH : Type} {enc : TypeId × Value → HH} {W : World} {g base b0 : Nat} {held : Bool} {r : Reach} {v : Value} {d : DataW HH} {ps : List MemPlace} (hw0 : 0 < W.heap.size)
    (hval : Value.okWide Tryz.prog W r b0 27 v) (hd : DataW.Trod enc Tryz.prog W base (fun _ => true) held 27 v d ps) :
    ∃ (l : List Tg.Sc.Ev) (p : Value), liftV W.heap.size v = p ∧ IRow (LH.lift W g) p l ∧ l.length ≤ maxLen := by
  obtain ⟨ad, len, cap, rfl⟩ := okWide_slice Tryz.underlying27 hval
  obtain ⟨fuel, hf⟩ := hd
  obtain ⟨vv, xs, hc, hr, hl⟩ := row_of_trod (El := fun (e : Tg.Sc.Ev) cs => ∃ p, cs = evl e p ∧ HRow (LH.lift W g) p e.hdrs ∧ e.hdrs.length ≤ maxLen ∧ EvI e) (g := g) Tryz.underlying27 cells_event (by decide) hw0 (fun fuel cs y hy => by
    obtain ⟨e, p, h1, h2, h3, h4⟩ := ev_of_trod (g := g) hw0 hy
    exact ⟨e, p, h1, h2, h3, h4⟩) hf
  simp only [Value.cells, List.cons.injEq, and_true] at hc
  subst hc
  exact ⟨xs, _, rfl, irow_of hr, hl⟩
end Go.Proofs.YthgcgjpbhbikaaaGreatDoor.Sc

