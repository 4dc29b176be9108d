/-
  Texts joined, part 7: ScRefB, ScRefC, ScFew, ScGoodR, ScTold, ScToldR, ScLaw5, ScLaw6, DoorC, DoorO.
-/
import Derived.Test.YthgcgjpbhbikaaaGreatDoorM6
import Derived.Test.YthgcgjpbhbikaaaGreatDoorRows
import Derived.Test.YthgcgjpbhbikaaaGreatDoorM1
import Derived.ProofKit
import Derived.WideShapes
import Derived.RowKit
import Derived.ChangeArms
import Derived.LaidMore
import Derived.LaidSub
import Derived.Lib.LaidTab
import Derived.Stop.Joined
import Derived.Shelf.Vars
import Derived.HandedShaped
import Derived.Lay
import Derived.DataShut
set_option linter.unusedSimpArgs false
set_option linter.unusedVariables false
set_option maxRecDepth 100000
namespace Go.Proofs.YthgcgjpbhbikaaaGreatDoor.Sc
open Go.Lg Go.Tg
section
variable {H H' : LH} {s : List UInt8} {v p : Value} {xs : List (List UInt8)} {c : Tg.Sc.Setup} {l : List Tg.Sc.Ev} {e : Tg.Sc.Ev} {N : Nat}
theorem good_kind (hg : Tg.Sc.good e = true) : (e.kind = 1 ∨ e.kind = 2 ∨ e.kind = 3 ∨ e.kind = 4 ∨ e.kind = 5 ∨ e.kind = 6) ∧ 0 ≤ e.id ∧ e.id ≤ 1000000 ∧ (e.kind = 6 → e.id = 0) ∧ (e.kind ≠ 6 → 1 ≤ e.id) ∧
    (e.kind = 1 → e.url.length ≤ 1000 ∧ e.src.length ≤ 1000 ∧ 0 ≤ e.media ∧ e.media ≤ 2 ∧ Tg.Sc.modes.contains e.mode = true) ∧ (e.kind ≠ 1 → e.url = [] ∧ e.src = [] ∧ e.mode = [] ∧ e.media = 0) ∧
    (e.kind = 2 → 0 ≤ e.status ∧ e.status ≤ 9999 ∧ Tg.Hd.good e.hdrs = true) ∧ (e.kind ≠ 2 → e.status = 0 ∧ e.hdrs = []) ∧ (e.kind = 3 → e.body.length ≤ 10000) ∧ (e.kind ≠ 3 → e.body = []) := by
  unfold Tg.Sc.good at hg
  simp only [Bool.and_eq_true, decide_eq_true_eq] at hg
  obtain ⟨⟨⟨⟨⟨h1, h2⟩, h3⟩, h4⟩, h5⟩, h6⟩ := hg
  refine ⟨by omega, ?_, ?_, ?_, ?_, ?_, ?_, ?_, ?_, ?_, ?_⟩
  · split at h3
    · simp only [decide_eq_true_eq] at h3; omega
    · simp only [Bool.and_eq_true, decide_eq_true_eq] at h3; omega
  · split at h3
    · simp only [decide_eq_true_eq] at h3; omega
    · simp only [Bool.and_eq_true, decide_eq_true_eq] at h3; omega
  · intro h; rw [if_pos h] at h3; simpa using h3
  · intro h; rw [if_neg h] at h3; simp only [Bool.and_eq_true, decide_eq_true_eq] at h3; exact h3.1
  · intro h; rw [if_pos h] at h4; simp only [Bool.and_eq_true, decide_eq_true_eq] at h4; exact ⟨h4.1.1.1, h4.1.1.2, h4.1.2.1, h4.1.2.2, h4.2⟩
  · intro h; rw [if_neg h] at h4; simp only [Bool.and_eq_true, decide_eq_true_eq] at h4; exact ⟨h4.1.1.1, h4.1.1.2, h4.1.2, h4.2⟩
  · intro h; rw [if_pos h] at h5; simp only [Bool.and_eq_true, decide_eq_true_eq] at h5; exact ⟨h5.1.1, h5.1.2, h5.2⟩
  · intro h; rw [if_neg h] at h5; simp only [Bool.and_eq_true, decide_eq_true_eq] at h5; exact h5
  · intro h; rw [if_pos h] at h6; simpa using h6
  · intro h; rw [if_neg h] at h6; simpa using h6
theorem rshow_ex (hg : Tg.Sc.good e = true) (hr : HRow H p e.hdrs) (hz : EvZ e) : ∃ v H', LC Tryz.prog EJ 25 [evv e p] H = some (v, H') ∧ OutT H v H' (Tg.Sc.shown e) := by
  obtain ⟨pa, pn, pc, rfl⟩ := hr.slice
  have key : ∃ r, LC Tryz.prog EJ 25 [evv e (.slice pa pn pc)] H = some (Lg.trunc H r) ∧ OutT H r.1 r.2 (Tg.Sc.shown e) := by
    refine LC_runs (P := Tryz.prog) (E := EJ) (f := 25) rfl Tryz.func25 rfl (Nat.le_of_ble_eq_true rfl) (by decide) (by kernel_rfl) ?_
    obtain ⟨gk, g0, g1, _, _, ga, _, gs, _, _, _⟩ := good_kind hg
    obtain ⟨kind, id, url, src, mode, media, status, hdrs, body⟩ := e
    obtain ⟨z1, z2, z3, z4, z5, z6, z7, z8, z9, z10, z11, z12⟩ := hz
    simp only at gk g0 g1 ga gs z1 z2 z3 z4 z5 z6 z7 z8 z9 z10 z11 z12 hr
    clear hg
    have n1 := Tg.Sc.itoa_short z7 z8
    have n2 := Tg.Sc.itoa_short z9 z10
    have hes1 := fun H : LH => rescape_cl (H := H) (s := url) z1
    have hes2 := fun H : LH => rescape_cl (H := H) (s := src) z2
    have hes3 := fun H : LH => rescape_cl (H := H) (s := body) z4
    have l1 := Tg.Sc.esc_len url
    have l2 := Tg.Sc.esc_len src
    have l3 := Tg.Sc.esc_len body
    obtain ⟨Hb, hHb⟩ : ∃ Hb, Hb = H.new ⟨[.int .i64 kind, .int .i64 id, str url, str src, str mode, .int .i64 media, .int .i64 status, .slice pa pn pc, str body], 36, true⟩ := ⟨_, rfl⟩
    have hble : H.le Hb := by rw [hHb]; exact le_refl.new
    have gb : Hb.get H.n = some ⟨[.int .i64 kind, .int .i64 id, str url, str src, str mode, .int .i64 media, .int .i64 status, .slice pa pn pc, str body], 36, true⟩ := by rw [hHb]; exact get_new
    have hrb : HRow Hb (.slice pa pn pc) hdrs := by rw [hHb]; exact hr.new1
    have hne : (H.n = Hb.n) = False := eq_false (by rw [hHb, n_new]; omega)
    have t1 := ritoa (n := id) (by omega) (by omega)
    have bs1s := fun (H : LH) (s : List UInt8) => bs1s (H := H) (s := s)
    have fin : ∀ (s : List UInt8) (G : LH), H.le G → OutT H (sl G.n 1 1) (G.new ⟨[str s], 9, true⟩) [s] := fun s G hG => ⟨TRow.new (H := G) (xs := [s]) (c := 1) (Nat.le_refl _), hG.new⟩
    unfold Tg.Sc.shown
    simp only
    rcases gk with rfl | rfl | rfl | rfl | rfl | rfl
    · obtain ⟨_, _, m0, m1, _⟩ := ga rfl
      have t2 := ritoa (n := media) (by omega) z10
      generalize Lib.itoa id = x1 at *
      generalize Lib.itoa media = x2 at *
      generalize Tg.Sc.esc url = eu at *
      generalize Tg.Sc.esc src = es at *
      have hx : Tg.Sc.wl [Tg.Sc.kwAsk, x1, x2, mode, eu, es] = 97 :: 115 :: 107 :: 32 :: (x1 ++ 32 :: (x2 ++ 32 :: (mode ++ 32 :: (eu ++ 32 :: es)))) := by simp [Tg.Sc.wl, Tg.Sc.kwAsk]
      have d1 := cc (a := [97, 115, 107, 32]) (b := x1) (by simp; omega)
      have d2 := cc (a := [97, 115, 107, 32] ++ x1) (b := [32]) (by simp; omega)
      have d3 := cc (a := [97, 115, 107, 32] ++ x1 ++ [32]) (b := x2) (by simp; omega)
      have d4 := cc (a := [97, 115, 107, 32] ++ x1 ++ [32] ++ x2) (b := [32]) (by simp; omega)
      have d5 := cc (a := [97, 115, 107, 32] ++ x1 ++ [32] ++ x2 ++ [32]) (b := mode) (by simp; omega)
      have d6 := cc (a := [97, 115, 107, 32] ++ x1 ++ [32] ++ x2 ++ [32] ++ mode) (b := [32]) (by simp; omega)
      have d7 := cc (a := [97, 115, 107, 32] ++ x1 ++ [32] ++ x2 ++ [32] ++ mode ++ [32]) (b := eu) (by simp; omega)
      have d8 := cc (a := [97, 115, 107, 32] ++ x1 ++ [32] ++ x2 ++ [32] ++ mode ++ [32] ++ eu) (b := [32]) (by simp; omega)
      have d9 := cc (a := [97, 115, 107, 32] ++ x1 ++ [32] ++ x2 ++ [32] ++ mode ++ [32] ++ eu ++ [32]) (b := es) (by simp; omega)
      simp only [List.cons_append, List.nil_append, List.append_assoc] at d1 d2 d3 d4 d5 d6 d7 d8 d9
      rw [← hx] at d9
      rw [if_pos rfl]
      generalize Tg.Sc.wl [Tg.Sc.kwAsk, x1, x2, mode, eu, es] = f at *
      simp [← hHb, gb, t1, t2, hes1, hes2, d1, d2, d3, d4, d5, d6, d7, d8, d9, bs1s]
      exact fin _ Hb hble
    · obtain ⟨s0, s1, _⟩ := gs rfl
      obtain ⟨v2, H2, e2, o2⟩ := rheads_ex (id := id) (st := status) hrb z5 z6 (by omega) z8 (by omega) z12
      simp [← hHb, gb, t1, e2]
      exact ⟨o2.row, le_trans hble o2.le⟩
    · generalize Lib.itoa id = x1 at *
      generalize Tg.Sc.esc body = eb at *
      have hx : Tg.Sc.wl [Tg.Sc.kwChunk, x1, eb] = 99 :: 104 :: 117 :: 110 :: 107 :: 32 :: (x1 ++ 32 :: eb) := by simp [Tg.Sc.wl, Tg.Sc.kwChunk]
      have d1 := cc (a := [99, 104, 117, 110, 107, 32]) (b := x1) (by simp; omega)
      have d2 := cc (a := [99, 104, 117, 110, 107, 32] ++ x1) (b := [32]) (by simp; omega)
      have d3 := cc (a := [99, 104, 117, 110, 107, 32] ++ x1 ++ [32]) (b := eb) (by simp; omega)
      simp only [List.cons_append, List.nil_append, List.append_assoc] at d1 d2 d3
      rw [← hx] at d3
      generalize Tg.Sc.wl [Tg.Sc.kwChunk, x1, eb] = f at *
      simp [← hHb, gb, t1, hes3, d1, d2, d3, bs1s]
      exact fin _ Hb hble
    · generalize Lib.itoa id = x1 at *
      have hx : Tg.Sc.wl [Tg.Sc.kwEnd, x1] = 101 :: 110 :: 100 :: 32 :: x1 := by simp [Tg.Sc.wl, Tg.Sc.kwEnd]
      have d1 := cc (a := [101, 110, 100, 32]) (b := x1) (by simp; omega)
      simp only [List.cons_append, List.nil_append, List.append_assoc] at d1
      rw [← hx] at d1
      generalize Tg.Sc.wl [Tg.Sc.kwEnd, x1] = f at *
      simp [← hHb, gb, hne, t1, d1, bs1s]
      exact fin _ (Hb.new _) hble.new
    · generalize Lib.itoa id = x1 at *
      have hx : Tg.Sc.wl [Tg.Sc.kwAbort, x1] = 97 :: 98 :: 111 :: 114 :: 116 :: 32 :: x1 := by simp [Tg.Sc.wl, Tg.Sc.kwAbort]
      have d1 := cc (a := [97, 98, 111, 114, 116, 32]) (b := x1) (by simp; omega)
      simp only [List.cons_append, List.nil_append, List.append_assoc] at d1
      rw [← hx] at d1
      generalize Tg.Sc.wl [Tg.Sc.kwAbort, x1] = f at *
      simp [← hHb, gb, hne, t1, d1, bs1s]
      exact fin _ (Hb.new _) hble.new
    · simp [← hHb, gb, t1, bs1s]
      exact fin _ Hb hble
  obtain ⟨r, e, ho⟩ := key
  obtain ⟨H2, e2, ho2⟩ := ho.trunc
  exact ⟨r.1, H2, by rw [e, ← e2], ho2⟩
end
end Go.Proofs.YthgcgjpbhbikaaaGreatDoor.Sc

set_option linter.unusedSimpArgs false
set_option linter.unusedVariables false
set_option maxRecDepth 100000
namespace Go.Proofs.YthgcgjpbhbikaaaGreatDoor.Sc
open Go.Lg Go.Tg
section
variable {H H' : LH} {s : List UInt8} {v p : Value} {xs : List (List UInt8)} {c : Tg.Sc.Setup} {l : List Tg.Sc.Ev} {e : Tg.Sc.Ev} {N : Nat}
theorem mode_four {m : List UInt8} (h : Tg.Sc.modes.contains m = true) : m = [110, 111, 45, 99, 111, 114, 115] ∨ m = [99, 111, 114, 115] ∨ m = [115, 97, 109, 101, 45, 111, 114, 105, 103, 105, 110] ∨ m = [110, 97, 118, 105, 103, 97, 116, 101] := by
  unfold Tg.Sc.modes at h
  simpa only [List.contains_cons, List.contains_nil, Bool.or_false, Bool.or_eq_true, beq_iff_eq] using h
theorem rgood_t (hg : Tg.Sc.good e = true) (hr : HRow H p e.hdrs) (hz : EvZ e) : LC Tryz.prog EJ 11 [evv e p] H = some (.bool true, H) := by
  obtain ⟨pa, pn, pc, rfl⟩ := hr.slice
  refine LC_pure rfl Tryz.func11 rfl (Nat.le_of_ble_eq_true rfl) (by decide) (by kernel_rfl) rfl ?_
  obtain ⟨gk, g0, g1, g6, g7, ga, gb, gs, gt, gc, gd⟩ := good_kind hg
  obtain ⟨kind, id, url, src, mode, media, status, hdrs, body⟩ := e
  obtain ⟨z1, z2, z3, z4, z5, z6, z7, z8, z9, z10, z11, z12⟩ := hz
  simp only at gk g0 g1 g6 g7 ga gb gs gt gc gd z1 z2 z3 z4 z5 z6 z7 z8 z9 z10 z11 z12 hr
  clear hg
  obtain ⟨Hb, hHb⟩ : ∃ Hb, Hb = H.new ⟨[.int .i64 kind, .int .i64 id, str url, str src, str mode, .int .i64 media, .int .i64 status, .slice pa pn pc, str body], 36, true⟩ := ⟨_, rfl⟩
  have hble : H.le Hb := by rw [hHb]; exact le_refl.new
  have gb2 : Hb.get H.n = some ⟨[.int .i64 kind, .int .i64 id, str url, str src, str mode, .int .i64 media, .int .i64 status, .slice pa pn pc, str body], 36, true⟩ := by rw [hHb]; exact get_new
  have hrb : HRow Hb (.slice pa pn pc) hdrs := by rw [hHb]; exact hr.new1
  have i1 := eq_false (show ¬ (1000000 : Int) < id by omega)
  have i2 := eq_false (show ¬ id < 0 by omega)
  have hlen := fun G : LH => hr.len (H' := G)
  rcases gk with rfl | rfl | rfl | rfl | rfl | rfl
  · obtain ⟨a1, a2, a3, a4, a5⟩ := ga rfl
    obtain ⟨rfl, rfl⟩ := gt (by decide)
    obtain rfl := gd (by decide)
    have i3 := eq_false (show ¬ id < 1 by have := g7 (by decide); omega)
    have j1 := eq_false (show ¬ (1000 : Int) < (url.length : Int) by omega)
    have j2 := eq_false (show ¬ (1000 : Int) < (src.length : Int) by omega)
    have j3 := eq_false (show ¬ media < 0 by omega)
    have j4 := eq_false (show ¬ 2 < media by omega)
    obtain rfl : pn = 0 := by simpa using hlen H
    rcases mode_four a5 with rfl | rfl | rfl | rfl
    · simp [← hHb, gb2, hlen, i1, i2, i3, j1, j2, j3, j4, hble]
    · simp [← hHb, gb2, hlen, i1, i2, i3, j1, j2, j3, j4, hble]
    · simp [← hHb, gb2, hlen, i1, i2, i3, j1, j2, j3, j4, hble]
    · simp [← hHb, gb2, hlen, i1, i2, i3, j1, j2, j3, j4, hble]
  · obtain ⟨s1, s2, s3⟩ := gs rfl
    obtain ⟨rfl, rfl, rfl, rfl⟩ := gb (by decide)
    obtain rfl := gd (by decide)
    have i3 := eq_false (show ¬ id < 1 by have := g7 (by decide); omega)
    have hh := hgood_cl hrb (by omega) (fun h hh => by have := z6 h hh; omega)
    rw [s3] at hh
    have j3 := eq_false (show ¬ status < 0 by omega)
    have j4 := eq_false (show ¬ 9999 < status by omega)
    simp [← hHb, gb2, hlen, hh, i1, i2, i3, j3, j4, hble]
  · obtain ⟨rfl, rfl, rfl, rfl⟩ := gb (by decide)
    obtain ⟨rfl, rfl⟩ := gt (by decide)
    have i3 := eq_false (show ¬ id < 1 by have := g7 (by decide); omega)
    have j1 := eq_true (show (body.length : Int) ≤ 10000 by have := gc rfl; omega)
    obtain rfl : pn = 0 := by simpa using hlen H
    simp [← hHb, gb2, hlen, i1, i2, i3, j1, hble]
  · obtain ⟨rfl, rfl, rfl, rfl⟩ := gb (by decide)
    obtain ⟨rfl, rfl⟩ := gt (by decide)
    obtain rfl := gd (by decide)
    have i3 := eq_false (show ¬ id < 1 by have := g7 (by decide); omega)
    obtain rfl : pn = 0 := by simpa using hlen H
    simp [← hHb, gb2, hlen, i1, i2, i3, hble]
  · obtain ⟨rfl, rfl, rfl, rfl⟩ := gb (by decide)
    obtain ⟨rfl, rfl⟩ := gt (by decide)
    obtain rfl := gd (by decide)
    have i3 := eq_false (show ¬ id < 1 by have := g7 (by decide); omega)
    obtain rfl : pn = 0 := by simpa using hlen H
    simp [← hHb, gb2, hlen, i1, i2, i3, hble]
  · obtain ⟨rfl, rfl, rfl, rfl⟩ := gb (by decide)
    obtain ⟨rfl, rfl⟩ := gt (by decide)
    obtain rfl := gd (by decide)
    have i3 : id = 0 := g6 rfl
    subst i3
    obtain rfl : pn = 0 := by simpa using hlen H
    simp [← hHb, gb2, hlen, hble]
end
end Go.Proofs.YthgcgjpbhbikaaaGreatDoor.Sc

set_option linter.unusedSimpArgs false
set_option linter.unusedVariables false
set_option maxRecDepth 100000
namespace Tg.Sc
def fewE (e : Ev) : Ev := { e with url := e.url.take 60, src := e.src.take 60, mode := e.mode.take 20, body := e.body.take 80, hdrs := Tg.Hd.few e.hdrs 8 }
theorem few_few (l : List Tg.Hd.Hdr) (c : Nat) : Tg.Hd.few (Tg.Hd.few l c) c = Tg.Hd.few l c := by
  unfold Tg.Hd.few
  rw [← List.map_take, List.map_map, List.take_take, Nat.min_self]
  congr 1
  funext h
  simp [List.take_take]
theorem fewE_few (e : Ev) : fewE (fewE e) = fewE e := by
  unfold fewE
  simp [List.take_take, few_few]
theorem few_le (l : List Tg.Hd.Hdr) (c : Nat) : (Tg.Hd.few l c).length ≤ c ∧ ∀ h ∈ Tg.Hd.few l c, h.1.length ≤ 30 ∧ h.2.length ≤ 100 := by
  unfold Tg.Hd.few
  refine ⟨by rw [List.length_map, List.length_take]; omega, fun h hh => ?_⟩
  obtain ⟨x, _, rfl⟩ := List.mem_map.mp hh
  exact ⟨by rw [List.length_take]; omega, by rw [List.length_take]; omega⟩
end Tg.Sc
namespace Go.Proofs.YthgcgjpbhbikaaaGreatDoor.Sc
open Go.Lg Go.Tg
section
variable {H H' : LH} {v w p q : Value} {e f : Tg.Sc.Ev} {l : List Tg.Hd.Hdr} {N : Nat}
structure OutF (H : LH) (p : Value) (H' : LH) (l : List Tg.Hd.Hdr) : Prop where
  row : HOwn H.n H' p l
  le : H.le H'
theorem OutF.trunc {v : Value} {H' : LH} {xs ys : List Value} (h : OutF H p H' l) : ∃ H2, Lg.trunc H ((.agg ⟨xs ++ p :: ys⟩ : Value), H') = ((.agg ⟨xs ++ p :: ys⟩ : Value), H2) ∧ OutF H p H2 l := by
  rcases trunc_or (.agg ⟨xs ++ p :: ys⟩) H H' with e | ⟨e, hf, _⟩
  · exact ⟨H', e, h⟩
  · refine ⟨H, e, ⟨⟨h.row.1, ?_⟩, le_refl⟩⟩
    rcases h.row.2 with h2 | ⟨k, c, rest, rfl, _⟩
    · exact .inl h2
    · simp [flatB, flat1B, atomB] at hf
theorem fewR_ex {st : Int} (hr : HRow H p l) (hl : l.length ≤ 9223372036854775807) : ∃ p' H', LC Tryz.prog EJ 40 [.agg #[.int .i64 st, p]] H = some (.agg #[.int .i64 st, p'], H') ∧ OutF H p' H' (Tg.Hd.few l 8) := by
  obtain ⟨pa, pn, pc, rfl⟩ := hr.slice
  have key : ∃ r, LC Tryz.prog EJ 40 [.agg #[.int .i64 st, .slice pa pn pc]] H = some (Lg.trunc H r) ∧ ∃ p', r.1 = .agg #[.int .i64 st, p'] ∧ OutF H p' r.2 (Tg.Hd.few l 8) := by
    refine LC_runs (P := Tryz.prog) (E := EJ) (f := 40) rfl Tryz.func40 rfl (Nat.le_of_ble_eq_true rfl) (by decide) (by kernel_rfl) ?_
    obtain ⟨Hb, hHb⟩ : ∃ Hb, Hb = (H.new ⟨[.int .i64 st, .slice pa pn pc], 34, true⟩).new ⟨[.int .i64 0, .slice none 0 0], 34, true⟩ := ⟨_, rfl⟩
    have nb : Hb.n = H.n + 1 + 1 := by rw [hHb]; rfl
    have gb : Hb.get H.n = some ⟨[.int .i64 st, .slice pa pn pc], 34, true⟩ := by rw [hHb, get_new_ne (by simp), get_new]
    have gb2 : Hb.get (H.n + 1) = some ⟨[.int .i64 0, .slice none 0 0], 34, true⟩ := by rw [hHb]; exact get_new
    have hrb : HRow Hb (.slice pa pn pc) l := by rw [hHb]; exact hr.new1.new1
    have leb : H.le Hb := by rw [hHb]; exact le_refl.new.new
    obtain ⟨v', H1, e1, o1⟩ := few_hl (c := 8) hrb hl (by decide)
    have e1 : LC Tryz.prog EJ 27 [.slice pa pn pc, .int .i64 8] Hb = some (v', H1) := e1
    have ole := o1.le
    have g1 : H1.get H.n = some ⟨[.int .i64 st, .slice pa pn pc], 34, true⟩ := by rw [o1.old _ (by omega)]; exact gb
    have g2 : H1.get (H.n + 1) = some ⟨[.int .i64 0, .slice none 0 0], 34, true⟩ := by rw [o1.old _ (by omega)]; exact gb2
    have hrow := o1.row
    generalize Tg.Hd.few l 8 = hd at *
    obtain ⟨qa, qn, qc, rfl⟩ := (HOwn.row hrow).slice
    simp [← hHb, gb, e1, g1, g2]
    refine ⟨hown_weak (hrow.keep (H' := (H1.set H.n _).set (H.n + 1) _) (by simp) (fun k hk _ _ => by rw [get_set_ne (by omega), get_set_ne (by omega)])) (by omega), ?_⟩
    exact ⟨by simp; omega, fun k hk => by rw [get_set_ne (by omega), get_set_ne (by omega), o1.old k (by omega), leb.2 k hk]⟩
  obtain ⟨⟨u, H'⟩, e, p', hu, ho⟩ := key
  simp only at hu ho
  subst hu
  obtain ⟨H2, e2, ho2⟩ := ho.trunc (v := p') (xs := [.int .i64 st]) (ys := [])
  exact ⟨p', H2, by rw [e]; exact congrArg some e2, ho2⟩
theorem few40_ex (hr : HRow H p e.hdrs) (hl : e.hdrs.length ≤ 9223372036854775807) : ∃ p' H', LC Tryz.prog EJ 19 [evv e p] H = some (evv (Tg.Sc.fewE e) p', H') ∧ OutF H p' H' (Tg.Sc.fewE e).hdrs := by
  obtain ⟨pa, pn, pc, rfl⟩ := hr.slice
  obtain ⟨kind, id, url, src, mode, media, status, hdrs, body⟩ := e
  unfold Tg.Sc.fewE
  simp only at hr hl ⊢
  have key : ∃ r, LC Tryz.prog EJ 19 [evv ⟨kind, id, url, src, mode, media, status, hdrs, body⟩ (.slice pa pn pc)] H = some (Lg.trunc H r) ∧ ∃ p', r.1 = evv ⟨kind, id, url.take 60, src.take 60, mode.take 20, media, status, Tg.Hd.few hdrs 8, body.take 80⟩ p' ∧ OutF H p' r.2 (Tg.Hd.few hdrs 8) := by
    refine LC_runs (P := Tryz.prog) (E := EJ) (f := 19) rfl Tryz.func19 rfl (Nat.le_of_ble_eq_true rfl) (by decide) (by kernel_rfl) ?_
    obtain ⟨Hb, hHb⟩ : ∃ Hb, Hb = (H.new ⟨[.int .i64 kind, .int .i64 id, str url, str src, str mode, .int .i64 media, .int .i64 status, .slice pa pn pc, str body], 36, true⟩).new ⟨[.int .i64 0, .int .i64 0, str [], str [], str [], .int .i64 0, .int .i64 0, .slice none 0 0, str []], 36, true⟩ := ⟨_, rfl⟩
    have nb : Hb.n = H.n + 1 + 1 := by rw [hHb]; rfl
    have gb : Hb.get H.n = some ⟨[.int .i64 kind, .int .i64 id, str url, str src, str mode, .int .i64 media, .int .i64 status, .slice pa pn pc, str body], 36, true⟩ := by rw [hHb, get_new_ne (by simp), get_new]
    have gb2 : Hb.get (H.n + 1) = some ⟨[.int .i64 0, .int .i64 0, str [], str [], str [], .int .i64 0, .int .i64 0, .slice none 0 0, str []], 36, true⟩ := by rw [hHb]; exact get_new
    have hrb : HRow Hb (.slice pa pn pc) hdrs := by rw [hHb]; exact hr.new1.new1
    have leb : H.le Hb := by rw [hHb]; exact le_refl.new.new
    have hc1 := fun H : LH => hcut_cl (H := H) (s := url) (k := 60) (by decide)
    have hc2 := fun H : LH => hcut_cl (H := H) (s := src) (k := 60) (by decide)
    have hc3 := fun H : LH => hcut_cl (H := H) (s := mode) (k := 20) (by decide)
    have hc4 := fun H : LH => hcut_cl (H := H) (s := body) (k := 80) (by decide)
    simp only [show ((60 : Int).toNat) = 60 from rfl, show ((20 : Int).toNat) = 20 from rfl, show ((80 : Int).toNat) = 80 from rfl] at hc1 hc2 hc3 hc4
    generalize url.take 60 = url' at *
    generalize src.take 60 = src' at *
    generalize mode.take 20 = mode' at *
    generalize body.take 80 = body' at *
    obtain ⟨v', H1, e1, hrow, ole⟩ := fewR_ex (st := status) hrb hl
    have g1 : H1.get H.n = some ⟨[.int .i64 kind, .int .i64 id, str url, str src, str mode, .int .i64 media, .int .i64 status, .slice pa pn pc, str body], 36, true⟩ := by rw [ole.2 _ (by omega)]; exact gb
    have g2 : H1.get (H.n + 1) = some ⟨[.int .i64 0, .int .i64 0, str [], str [], str [], .int .i64 0, .int .i64 0, .slice none 0 0, str []], 36, true⟩ := by rw [ole.2 _ (by omega)]; exact gb2
    have hn1 := ole.1
    generalize Tg.Hd.few hdrs 8 = hd at *
    obtain ⟨qa, qn, qc, rfl⟩ := (HOwn.row hrow).slice
    simp [← hHb, gb, hc1, hc2, hc3, hc4, e1, g1, g2, splice]
    refine ⟨hown_weak (hrow.keep (H' := (H1.set H.n _).set (H.n + 1) _) (by simp) (fun k hk _ _ => by rw [get_set_ne (by omega), get_set_ne (by omega)])) (by omega), ?_⟩
    exact ⟨by simp; omega, fun k hk => by rw [get_set_ne (by omega), get_set_ne (by omega), ole.2 k (by omega), leb.2 k hk]⟩
  obtain ⟨⟨u, H'⟩, e, p', hu, ho⟩ := key
  simp only at hu ho
  subst hu
  obtain ⟨H2, e2, ho2⟩ := ho.trunc (v := p') (xs := [.int .i64 kind, .int .i64 id, str (url.take 60), str (src.take 60), str (mode.take 20), .int .i64 media, .int .i64 status]) (ys := [str (body.take 80)])
  exact ⟨p', H2, by rw [e]; exact congrArg some e2, ho2⟩
theorem rsame_cl (hp : HRow H p e.hdrs) (hq : HRow H q f.hdrs) (hz : e.hdrs.length ≤ 1000000) : LC Tryz.prog EJ 23 [evv e p, evv f q] H = some (.bool (decide (e = f)), H) := by
  refine LC_pure rfl Tryz.func23 rfl (Nat.le_of_ble_eq_true rfl) (by decide) (by kernel_rfl) rfl ?_
  obtain ⟨pa, pn, pc, rfl⟩ := hp.slice
  obtain ⟨qa, qn, qc, rfl⟩ := hq.slice
  have hp2 : HRow ((H.new (evc e (.slice pa pn pc))).new (evc f (.slice qa qn qc))) _ _ := hp.new1.new1
  have hq2 : HRow ((H.new (evc e (.slice pa pn pc))).new (evc f (.slice qa qn qc))) _ _ := hq.new1.new1
  have heq := hsame_cl hp2 hq2 hz
  obtain ⟨H2, hH2⟩ : ∃ H2, H2 = (H.new (evc e (.slice pa pn pc))).new (evc f (.slice qa qn qc)) := ⟨_, rfl⟩
  have g1 : H2.get H.n = some (evc e (.slice pa pn pc)) := by rw [hH2, get_new_ne (by simp), get_new]
  have g2 : H2.get (H.n + 1) = some (evc f (.slice qa qn qc)) := by rw [hH2]; exact get_new
  have hle : H.le H2 := by rw [hH2]; exact le_refl.new.new
  rw [← hH2] at heq
  clear hp2 hq2 hp hq
  have hd : ∀ b : Bool, decide (e = f) = b → (decide (e.kind = f.kind) && decide (e.id = f.id) && askB e f && repB e f && decide (e.body = f.body)) = b := fun b h => by rw [← same_b]; exact h
  have hd := hd _ rfl
  unfold askB repB at hd
  rw [← hd]
  clear hd
  by_cases h1 : e.kind = f.kind
  · have h1 := eq_true h1
    by_cases h2 : e.id = f.id
    · have h2 := eq_true h2
      by_cases h3 : e.url = f.url
      · have h3 := eq_true h3
        by_cases h4 : e.src = f.src
        · have h4 := eq_true h4
          by_cases h5 : e.mode = f.mode
          · have h5 := eq_true h5
            by_cases h6 : e.media = f.media
            · have h6 := eq_true h6
              by_cases h7 : e.status = f.status
              · have h7 := eq_true h7
                by_cases h8 : e.hdrs = f.hdrs
                · rw [decide_eq_true h8] at heq
                  have h8 := eq_true h8
                  simp [h1, h2, h3, h4, h5, h6, h7, h8, ← hH2, g1, g2, heq, hle]
                · rw [decide_eq_false h8] at heq
                  have h8 := eq_false h8
                  simp [h1, h2, h3, h4, h5, h6, h7, h8, ← hH2, g1, g2, heq, hle]
              · have h7 := eq_false h7
                simp [h1, h2, h3, h4, h5, h6, h7, ← hH2, g1, g2, hle]
            · have h6 := eq_false h6
              simp [h1, h2, h3, h4, h5, h6, ← hH2, g1, g2, hle]
          · have h5 := eq_false h5
            simp [h1, h2, h3, h4, h5, ← hH2, g1, g2, hle]
        · have h4 := eq_false h4
          simp [h1, h2, h3, h4, ← hH2, g1, g2, hle]
      · have h3 := eq_false h3
        simp [h1, h2, h3, ← hH2, g1, g2, hle]
    · have h2 := eq_false h2
      simp [h1, h2, ← hH2, g1, g2, hle]
  · have h1 := eq_false h1
    simp [h1, ← hH2, g1, g2, hle]
end
end Go.Proofs.YthgcgjpbhbikaaaGreatDoor.Sc

set_option linter.unusedSimpArgs false
set_option linter.unusedVariables false
set_option maxRecDepth 100000
set_option maxHeartbeats 4000000
namespace Go.Proofs.YthgcgjpbhbikaaaGreatDoor.Sc
open Go.Lg Go.Tg
section
variable {H H' : LH} {v p : Value} {e : Tg.Sc.Ev}
theorem rgood_cl (hr : HRow H p e.hdrs) (hz : EvZ e) : LC Tryz.prog EJ 11 [evv e p] H = some (.bool (Tg.Sc.good e), H) := by
  by_cases hg : Tg.Sc.good e = true
  · rw [hg]; exact rgood_t hg hr hz
  have hgf : Tg.Sc.good e = false := by cases h : Tg.Sc.good e with | false => rfl | true => exact absurd h hg
  rw [hgf]
  clear hgf
  obtain ⟨pa, pn, pc, rfl⟩ := hr.slice
  refine LC_pure rfl Tryz.func11 rfl (Nat.le_of_ble_eq_true rfl) (by decide) (by kernel_rfl) rfl ?_
  obtain ⟨kind, id, url, src, mode, media, status, hdrs, body⟩ := e
  obtain ⟨z1, z2, z3, z4, z5, z6, z7, z8, z9, z10, z11, z12⟩ := hz
  simp only at z1 z2 z3 z4 z5 z6 z7 z8 z9 z10 z11 z12 hr
  obtain ⟨Hb, hHb⟩ : ∃ Hb, Hb = H.new ⟨[.int .i64 kind, .int .i64 id, str url, str src, str mode, .int .i64 media, .int .i64 status, .slice pa pn pc, str body], 36, true⟩ := ⟨_, rfl⟩
  have hble : H.le Hb := by rw [hHb]; exact le_refl.new
  have gb2 : Hb.get H.n = some ⟨[.int .i64 kind, .int .i64 id, str url, str src, str mode, .int .i64 media, .int .i64 status, .slice pa pn pc, str body], 36, true⟩ := by rw [hHb]; exact get_new
  have hrb : HRow Hb (.slice pa pn pc) hdrs := by rw [hHb]; exact hr.new1
  have hgo := hgood_cl hrb (by omega) (fun h hh => by have := z6 h hh; omega)
  have hpn : pn = hdrs.length := by
    have := hr.len (H' := H)
    simp at this
    omega
  clear hr hrb z1 z2 z3 z4 z5 z6 z7 z8 z9 z10 z11 z12
  by_cases k1 : kind < 1
  · have k1 := eq_true k1
    simp [← hHb, gb2, k1, hble]
  by_cases k2 : 6 < kind
  · have k1 := eq_false k1
    have k2 := eq_true k2
    simp [← hHb, gb2, k1, k2, hble]
  have hk : kind = 1 ∨ kind = 2 ∨ kind = 3 ∨ kind = 4 ∨ kind = 5 ∨ kind = 6 := by omega
  clear k1 k2
  rcases hk with rfl | rfl | rfl | rfl | rfl | rfl
  · skip
    by_cases i1 : id < 1
    · have i1 := eq_true i1
      simp [← hHb, gb2, hble, i1]
    have qi1 := eq_false i1
    by_cases i2 : (1000000 : Int) < id
    · have i2 := eq_true i2
      simp [← hHb, gb2, hble, qi1, i2]
    have qi2 := eq_false i2
    by_cases u1 : (1000 : Int) < (url.length : Int)
    · have u1 := eq_true u1
      simp [← hHb, gb2, hble, qi1, qi2, u1]
    have qu1 := eq_false u1
    by_cases s1 : (1000 : Int) < (src.length : Int)
    · have s1 := eq_true s1
      simp [← hHb, gb2, hble, qi1, qi2, qu1, s1]
    have qs1 := eq_false s1
    by_cases m0 : media < 0
    · have m0 := eq_true m0
      simp [← hHb, gb2, hble, qi1, qi2, qu1, qs1, m0]
    have qm0 := eq_false m0
    by_cases m9 : 2 < media
    · have m9 := eq_true m9
      simp [← hHb, gb2, hble, qi1, qi2, qu1, qs1, qm0, m9]
    have qm9 := eq_false m9
    by_cases hm : Tg.Sc.modes.contains mode = true
    rotate_left
    · have hm2 : ¬ (mode = [110, 111, 45, 99, 111, 114, 115] ∨ mode = [99, 111, 114, 115] ∨ mode = [115, 97, 109, 101, 45, 111, 114, 105, 103, 105, 110] ∨ mode = [110, 97, 118, 105, 103, 97, 116, 101]) := fun h => hm (by rcases h with rfl | rfl | rfl | rfl <;> decide +kernel)
      simp only [not_or] at hm2
      obtain ⟨m1, m2, m3, m4⟩ := hm2
      have m1 := eq_false m1
      have m2 := eq_false m2
      have m3 := eq_false m3
      have m4 := eq_false m4
      simp [← hHb, gb2, hble, qi1, qi2, qu1, qs1, qm0, qm9, m1, m2, m3, m4]
    rcases mode_four hm with rfl | rfl | rfl | rfl
    · skip
      by_cases hstatus : status = 0
      rotate_left
      · have hstatus := eq_false hstatus
        simp [← hHb, gb2, hble, qi1, qi2, qu1, qs1, qm0, qm9, hstatus]
      subst hstatus
      by_cases hh : hdrs = []
      rotate_left
      · have hp := eq_true (show 0 < pn by rw [hpn]; exact List.length_pos_iff.mpr hh)
        simp [← hHb, gb2, hble, qi1, qi2, qu1, qs1, qm0, qm9, hp]
      subst hh
      obtain rfl : pn = 0 := hpn
      by_cases hbody : body = []
      rotate_left
      · have hbody := eq_false hbody
        simp [← hHb, gb2, hble, qi1, qi2, qu1, qs1, qm0, qm9, hbody]
      subst hbody
      exact absurd (by unfold Tg.Sc.good; first | (simp_all; done) | (simp_all; omega)) hg
    · skip
      by_cases hstatus : status = 0
      rotate_left
      · have hstatus := eq_false hstatus
        simp [← hHb, gb2, hble, qi1, qi2, qu1, qs1, qm0, qm9, hstatus]
      subst hstatus
      by_cases hh : hdrs = []
      rotate_left
      · have hp := eq_true (show 0 < pn by rw [hpn]; exact List.length_pos_iff.mpr hh)
        simp [← hHb, gb2, hble, qi1, qi2, qu1, qs1, qm0, qm9, hp]
      subst hh
      obtain rfl : pn = 0 := hpn
      by_cases hbody : body = []
      rotate_left
      · have hbody := eq_false hbody
        simp [← hHb, gb2, hble, qi1, qi2, qu1, qs1, qm0, qm9, hbody]
      subst hbody
      exact absurd (by unfold Tg.Sc.good; first | (simp_all; done) | (simp_all; omega)) hg
    · skip
      by_cases hstatus : status = 0
      rotate_left
      · have hstatus := eq_false hstatus
        simp [← hHb, gb2, hble, qi1, qi2, qu1, qs1, qm0, qm9, hstatus]
      subst hstatus
      by_cases hh : hdrs = []
      rotate_left
      · have hp := eq_true (show 0 < pn by rw [hpn]; exact List.length_pos_iff.mpr hh)
        simp [← hHb, gb2, hble, qi1, qi2, qu1, qs1, qm0, qm9, hp]
      subst hh
      obtain rfl : pn = 0 := hpn
      by_cases hbody : body = []
      rotate_left
      · have hbody := eq_false hbody
        simp [← hHb, gb2, hble, qi1, qi2, qu1, qs1, qm0, qm9, hbody]
      subst hbody
      exact absurd (by unfold Tg.Sc.good; first | (simp_all; done) | (simp_all; omega)) hg
    · skip
      by_cases hstatus : status = 0
      rotate_left
      · have hstatus := eq_false hstatus
        simp [← hHb, gb2, hble, qi1, qi2, qu1, qs1, qm0, qm9, hstatus]
      subst hstatus
      by_cases hh : hdrs = []
      rotate_left
      · have hp := eq_true (show 0 < pn by rw [hpn]; exact List.length_pos_iff.mpr hh)
        simp [← hHb, gb2, hble, qi1, qi2, qu1, qs1, qm0, qm9, hp]
      subst hh
      obtain rfl : pn = 0 := hpn
      by_cases hbody : body = []
      rotate_left
      · have hbody := eq_false hbody
        simp [← hHb, gb2, hble, qi1, qi2, qu1, qs1, qm0, qm9, hbody]
      subst hbody
      exact absurd (by unfold Tg.Sc.good; first | (simp_all; done) | (simp_all; omega)) hg
  · skip
    by_cases i1 : id < 1
    · have i1 := eq_true i1
      simp [← hHb, gb2, hble, i1]
    have qi1 := eq_false i1
    by_cases i2 : (1000000 : Int) < id
    · have i2 := eq_true i2
      simp [← hHb, gb2, hble, qi1, i2]
    have qi2 := eq_false i2
    by_cases hurl : url = []
    rotate_left
    · have hurl := eq_false hurl
      simp [← hHb, gb2, hble, qi1, qi2, hurl]
    subst hurl
    by_cases hsrc : src = []
    rotate_left
    · have hsrc := eq_false hsrc
      simp [← hHb, gb2, hble, qi1, qi2, hsrc]
    subst hsrc
    by_cases hmode : mode = []
    rotate_left
    · have hmode := eq_false hmode
      simp [← hHb, gb2, hble, qi1, qi2, hmode]
    subst hmode
    by_cases hmedia : media = 0
    rotate_left
    · have hmedia := eq_false hmedia
      simp [← hHb, gb2, hble, qi1, qi2, hmedia]
    subst hmedia
    by_cases t0 : status < 0
    · have t0 := eq_true t0
      simp [← hHb, gb2, hble, qi1, qi2, t0]
    have qt0 := eq_false t0
    by_cases t9 : 9999 < status
    · have t9 := eq_true t9
      simp [← hHb, gb2, hble, qi1, qi2, qt0, t9]
    have qt9 := eq_false t9
    cases hd : Tg.Hd.good hdrs with
    | false =>
      rw [hd] at hgo
      simp [← hHb, gb2, hble, hgo, qi1, qi2, qt0, qt9]
    | true =>
      rw [hd] at hgo
      by_cases hbody : body = []
      rotate_left
      · have hbody := eq_false hbody
        simp [← hHb, gb2, hble, qi1, qi2, qt0, qt9, hgo, hbody]
      subst hbody
      exact absurd (by unfold Tg.Sc.good; first | (simp_all; done) | (simp_all; omega)) hg
  · skip
    by_cases i1 : id < 1
    · have i1 := eq_true i1
      simp [← hHb, gb2, hble, i1]
    have qi1 := eq_false i1
    by_cases i2 : (1000000 : Int) < id
    · have i2 := eq_true i2
      simp [← hHb, gb2, hble, qi1, i2]
    have qi2 := eq_false i2
    by_cases hurl : url = []
    rotate_left
    · have hurl := eq_false hurl
      simp [← hHb, gb2, hble, qi1, qi2, hurl]
    subst hurl
    by_cases hsrc : src = []
    rotate_left
    · have hsrc := eq_false hsrc
      simp [← hHb, gb2, hble, qi1, qi2, hsrc]
    subst hsrc
    by_cases hmode : mode = []
    rotate_left
    · have hmode := eq_false hmode
      simp [← hHb, gb2, hble, qi1, qi2, hmode]
    subst hmode
    by_cases hmedia : media = 0
    rotate_left
    · have hmedia := eq_false hmedia
      simp [← hHb, gb2, hble, qi1, qi2, hmedia]
    subst hmedia
    by_cases hstatus : status = 0
    rotate_left
    · have hstatus := eq_false hstatus
      simp [← hHb, gb2, hble, qi1, qi2, hstatus]
    subst hstatus
    by_cases hh : hdrs = []
    rotate_left
    · have hp := eq_true (show 0 < pn by rw [hpn]; exact List.length_pos_iff.mpr hh)
      simp [← hHb, gb2, hble, qi1, qi2, hp]
    subst hh
    obtain rfl : pn = 0 := hpn
    by_cases b0 : (body.length : Int) ≤ 10000
    rotate_left
    · have hbn : (body = []) = False := eq_false (fun e => b0 (by rw [e]; decide))
      have b1 := eq_false b0
      simp [← hHb, gb2, hble, qi1, qi2, hbn, b1]
    exact absurd (by unfold Tg.Sc.good; first | (simp_all; done) | (simp_all; omega)) hg
  · skip
    by_cases i1 : id < 1
    · have i1 := eq_true i1
      simp [← hHb, gb2, hble, i1]
    have qi1 := eq_false i1
    by_cases i2 : (1000000 : Int) < id
    · have i2 := eq_true i2
      simp [← hHb, gb2, hble, qi1, i2]
    have qi2 := eq_false i2
    by_cases hurl : url = []
    rotate_left
    · have hurl := eq_false hurl
      simp [← hHb, gb2, hble, qi1, qi2, hurl]
    subst hurl
    by_cases hsrc : src = []
    rotate_left
    · have hsrc := eq_false hsrc
      simp [← hHb, gb2, hble, qi1, qi2, hsrc]
    subst hsrc
    by_cases hmode : mode = []
    rotate_left
    · have hmode := eq_false hmode
      simp [← hHb, gb2, hble, qi1, qi2, hmode]
    subst hmode
    by_cases hmedia : media = 0
    rotate_left
    · have hmedia := eq_false hmedia
      simp [← hHb, gb2, hble, qi1, qi2, hmedia]
    subst hmedia
    by_cases hstatus : status = 0
    rotate_left
    · have hstatus := eq_false hstatus
      simp [← hHb, gb2, hble, qi1, qi2, hstatus]
    subst hstatus
    by_cases hh : hdrs = []
    rotate_left
    · have hp := eq_true (show 0 < pn by rw [hpn]; exact List.length_pos_iff.mpr hh)
      simp [← hHb, gb2, hble, qi1, qi2, hp]
    subst hh
    obtain rfl : pn = 0 := hpn
    by_cases hbody : body = []
    rotate_left
    · have hbody := eq_false hbody
      simp [← hHb, gb2, hble, qi1, qi2, hbody]
    subst hbody
    exact absurd (by unfold Tg.Sc.good; first | (simp_all; done) | (simp_all; omega)) hg
  · skip
    by_cases i1 : id < 1
    · have i1 := eq_true i1
      simp [← hHb, gb2, hble, i1]
    have qi1 := eq_false i1
    by_cases i2 : (1000000 : Int) < id
    · have i2 := eq_true i2
      simp [← hHb, gb2, hble, qi1, i2]
    have qi2 := eq_false i2
    by_cases hurl : url = []
    rotate_left
    · have hurl := eq_false hurl
      simp [← hHb, gb2, hble, qi1, qi2, hurl]
    subst hurl
    by_cases hsrc : src = []
    rotate_left
    · have hsrc := eq_false hsrc
      simp [← hHb, gb2, hble, qi1, qi2, hsrc]
    subst hsrc
    by_cases hmode : mode = []
    rotate_left
    · have hmode := eq_false hmode
      simp [← hHb, gb2, hble, qi1, qi2, hmode]
    subst hmode
    by_cases hmedia : media = 0
    rotate_left
    · have hmedia := eq_false hmedia
      simp [← hHb, gb2, hble, qi1, qi2, hmedia]
    subst hmedia
    by_cases hstatus : status = 0
    rotate_left
    · have hstatus := eq_false hstatus
      simp [← hHb, gb2, hble, qi1, qi2, hstatus]
    subst hstatus
    by_cases hh : hdrs = []
    rotate_left
    · have hp := eq_true (show 0 < pn by rw [hpn]; exact List.length_pos_iff.mpr hh)
      simp [← hHb, gb2, hble, qi1, qi2, hp]
    subst hh
    obtain rfl : pn = 0 := hpn
    by_cases hbody : body = []
    rotate_left
    · have hbody := eq_false hbody
      simp [← hHb, gb2, hble, qi1, qi2, hbody]
    subst hbody
    exact absurd (by unfold Tg.Sc.good; first | (simp_all; done) | (simp_all; omega)) hg
  · skip
    by_cases i0 : id < 0
    · have i0 := eq_true i0
      simp [← hHb, gb2, hble, i0]
    have qi0 := eq_false i0
    by_cases i2 : (1000000 : Int) < id
    · have i2 := eq_true i2
      simp [← hHb, gb2, hble, qi0, i2]
    have qi2 := eq_false i2
    by_cases hurl : url = []
    rotate_left
    · have hurl := eq_false hurl
      simp [← hHb, gb2, hble, qi0, qi2, hurl]
    subst hurl
    by_cases hsrc : src = []
    rotate_left
    · have hsrc := eq_false hsrc
      simp [← hHb, gb2, hble, qi0, qi2, hsrc]
    subst hsrc
    by_cases hmode : mode = []
    rotate_left
    · have hmode := eq_false hmode
      simp [← hHb, gb2, hble, qi0, qi2, hmode]
    subst hmode
    by_cases hmedia : media = 0
    rotate_left
    · have hmedia := eq_false hmedia
      simp [← hHb, gb2, hble, qi0, qi2, hmedia]
    subst hmedia
    by_cases hstatus : status = 0
    rotate_left
    · have hstatus := eq_false hstatus
      simp [← hHb, gb2, hble, qi0, qi2, hstatus]
    subst hstatus
    by_cases hh : hdrs = []
    rotate_left
    · have hp := eq_true (show 0 < pn by rw [hpn]; exact List.length_pos_iff.mpr hh)
      simp [← hHb, gb2, hble, qi0, qi2, hp]
    subst hh
    obtain rfl : pn = 0 := hpn
    by_cases hid : id = 0
    rotate_left
    · have hid := eq_false hid
      simp [← hHb, gb2, hble, qi0, qi2, hid]
    subst hid
    by_cases hbody : body = []
    rotate_left
    · have hbody := eq_false hbody
      simp [← hHb, gb2, hble, qi0, qi2, hbody]
    subst hbody
    exact absurd (by unfold Tg.Sc.good; first | (simp_all; done) | (simp_all; omega)) hg
end
end Go.Proofs.YthgcgjpbhbikaaaGreatDoor.Sc

set_option linter.unusedSimpArgs false
set_option linter.unusedVariables false
set_option maxRecDepth 100000
namespace Tg.Sc
open Go.Lib (itoa)
structure Out where
  kind : Int
  id : Int
  status : Int
  hdrs : List Tg.Hd.Hdr
  body : List UInt8
  reason : List UInt8
def told (o : Out) : List (List UInt8) :=
  if o.kind < 1 ∨ 6 < o.kind then []
  else if o.kind = 1 then headsL kwHead o.id o.status o.hdrs
  else if o.kind = 2 then [wl [kwBody, itoa o.id, esc o.body]]
  else if o.kind = 3 then [wl [kwEnd, itoa o.id]]
  else [wl [if o.kind = 4 then kwBlock else if o.kind = 5 then kwFail else kwRefused, itoa o.id, esc o.reason]]
end Tg.Sc
namespace Go.Proofs.YthgcgjpbhbikaaaGreatDoor.Sc
open Go.Lg Go.Tg
abbrev outv (o : Tg.Sc.Out) (p : Value) : Value := .agg #[.int .i64 o.kind, .int .i64 o.id, .int .i64 o.status, p, str o.body, str o.reason]
structure OutZ (o : Tg.Sc.Out) : Prop where
  body : o.body.length ≤ 300000
  reason : o.reason.length ≤ 300000
  hn : o.hdrs.length ≤ 90000
  hs : ∀ h ∈ o.hdrs, h.1.length ≤ 300000 ∧ h.2.length ≤ 300000
  k0 : -9223372036854775808 ≤ o.kind
  k1 : o.kind ≤ 9223372036854775807
  id0 : -9223372036854775808 ≤ o.id
  id1 : o.id ≤ 9223372036854775807
  st0 : -9223372036854775808 ≤ o.status
  st1 : o.status ≤ 9223372036854775807
section
variable {H H' : LH} {s : List UInt8} {v w p : Value} {xs ys : List (List UInt8)} {o : Tg.Sc.Out} {l : List Tg.Hd.Hdr}
end
end Go.Proofs.YthgcgjpbhbikaaaGreatDoor.Sc

set_option linter.unusedSimpArgs false
set_option linter.unusedVariables false
set_option maxRecDepth 100000
namespace Go.Proofs.YthgcgjpbhbikaaaGreatDoor.Sc
open Go.Lg Go.Tg
section
variable {H H' : LH} {s : List UInt8} {v w p : Value} {xs ys : List (List UInt8)} {o : Tg.Sc.Out} {l : List Tg.Hd.Hdr}
theorem rtsame_cl (hv : TRow H v xs) (hw : TRow H w xs) (hl : xs.length ≤ 1000000) : LC Tryz.prog EJ 26 [v, w] H = some (.bool true, H) := by
  refine LC_pure rfl Tryz.func26 rfl (Nat.le_of_ble_eq_true rfl) (by decide) (by kernel_rfl) rfl ?_
  simp [hv.len, hw.len]
  refine loop_ind (fun (i : Nat) fr' H' => fr' 0 = v ∧ fr' 1 = w ∧ fr' 5 = .int .i64 i ∧ i ≤ xs.length ∧ H = H') (fun i => xs.length - i) 0 ⟨by simp, by simp, by simp, Nat.zero_le _, rfl⟩ ?_
  rintro i fr' H' ⟨f0, f1, f5, hi, rfl⟩ ih
  by_cases hlt : i < xs.length
  · have q := eq_true (show (i : Int) < (xs.length : Int) by omega)
    have hw1 : IntKind.i64.wrap ((i : Int) + 1) = ((i + 1 : Nat) : Int) := by rw [wrapI (by omega) (by omega)]; omega
    obtain ⟨k, o, g1, _, g3⟩ := hv.at hlt
    obtain ⟨k', o', g1', _, g3'⟩ := hw.at hlt
    have g4 := g3 H rfl
    have g4' := g3' H rfl
    generalize xs[i] = a at *
    simp [f0, f1, f5, q, hv.len, g1, g4, g1', g4']
    refine ih (i + 1) _ _ (by omega) ⟨?_, ?_, ?_, by omega, rfl⟩
    all_goals simp [f0, f1, hw1]
  · have q := eq_false (show ¬ (i : Int) < (xs.length : Int) by omega)
    simp [f0, f1, f5, q, hv.len]
end
end Go.Proofs.YthgcgjpbhbikaaaGreatDoor.Sc

set_option linter.unusedSimpArgs false
set_option linter.unusedVariables false
set_option maxRecDepth 100000
namespace Tg.Sc
def showC : Setup := ⟨true, 1445, 0, 1, 0⟩
theorem showC_fine : fineS showC = true := by decide +kernel
def showT : List UInt8 := [115, 101, 116, 117, 112, 32, 108, 101, 103, 97, 99, 121, 32, 49, 52, 52, 53, 32, 48, 32, 49, 32, 48, 10]
theorem showT_eq : setupT showC ++ [10] = showT := by decide +kernel
theorem show_print (e : Ev) : printT showC [e] = showT ++ feeds (shown e) := by
  unfold printT
  rw [← showT_eq]
  simp
theorem hlines_len : ∀ {l : List Tg.Hd.Hdr}, (∀ h ∈ l, h.1.length ≤ 30 ∧ h.2.length ≤ 100) → (feeds (l.map hline)).length ≤ l.length * 400
  | [], _ => by simp [feeds]
  | h :: l, hs => by
    have ih := hlines_len (l := l) (fun x hx => hs x (by simp [hx]))
    have h1 := hs h (by simp)
    have h2 := esc_len h.2
    have h3 : (hline h).length = 3 + h.1.length + (esc h.2).length := by unfold hline; simp; omega
    rw [List.map_cons, feeds_cons, List.length_append, List.length_cons, h3, List.length_cons]
    omega
end Tg.Sc
namespace Go.Proofs.YthgcgjpbhbikaaaGreatDoor.Sc
open Go.Lg Go.Tg
structure Small (e : Tg.Sc.Ev) : Prop where
  url : e.url.length ≤ 60
  src : e.src.length ≤ 60
  mode : e.mode.length ≤ 20
  body : e.body.length ≤ 80
  hn : e.hdrs.length ≤ 8
  hs : ∀ h ∈ e.hdrs, h.1.length ≤ 30 ∧ h.2.length ≤ 100
structure EvI (e : Tg.Sc.Ev) : Prop where
  k0 : -9223372036854775808 ≤ e.kind
  k1 : e.kind ≤ 9223372036854775807
  id0 : -9223372036854775808 ≤ e.id
  id1 : e.id ≤ 9223372036854775807
  me0 : -9223372036854775808 ≤ e.media
  me1 : e.media ≤ 9223372036854775807
  st0 : -9223372036854775808 ≤ e.status
  st1 : e.status ≤ 9223372036854775807
section
variable {H H' : LH} {v w p q : Value} {e a b : Tg.Sc.Ev}
theorem small_few (e : Tg.Sc.Ev) : Small (Tg.Sc.fewE e) := by
  obtain ⟨h1, h2⟩ := Tg.Sc.few_le e.hdrs 8
  exact ⟨by show (e.url.take 60).length ≤ _; rw [List.length_take]; omega, by show (e.src.take 60).length ≤ _; rw [List.length_take]; omega, by show (e.mode.take 20).length ≤ _; rw [List.length_take]; omega, by show (e.body.take 80).length ≤ _; rw [List.length_take]; omega, h1, h2⟩
theorem evi_few (h : EvI e) : EvI (Tg.Sc.fewE e) := ⟨h.k0, h.k1, h.id0, h.id1, h.me0, h.me1, h.st0, h.st1⟩
theorem evz_small (h : Small e) (hi : EvI e) : EvZ e :=
  ⟨by have := h.url; omega, by have := h.src; omega, by have := h.mode; omega, by have := h.body; omega, by have := h.hn; omega, fun x hx => by have := h.hs x hx; omega, hi.id0, hi.id1, hi.me0, hi.me1, hi.st0, hi.st1⟩
theorem small_len (h : Small e) (hi : EvI e) : (Tg.Sc.feeds (Tg.Sc.shown e)).length ≤ 5000 := by
  have n1 := Tg.Sc.itoa_short hi.id0 hi.id1
  have n2 := Tg.Sc.itoa_short hi.me0 hi.me1
  have n3 := Tg.Sc.itoa_short hi.st0 hi.st1
  have n4 := Tg.Sc.itoa_short (n := (e.hdrs.length : Int)) (by omega) (by have := h.hn; omega)
  have l1 := Tg.Sc.esc_len e.url
  have l2 := Tg.Sc.esc_len e.src
  have l3 := Tg.Sc.esc_len e.body
  have l4 := Tg.Sc.hlines_len h.hs
  obtain ⟨u1, u2, u3, u4, u5, _⟩ := h
  unfold Tg.Sc.shown
  split
  · rw [Tg.Sc.feeds_cons]
    simp [Tg.Sc.wl, Tg.Sc.kwAsk, Tg.Sc.feeds]
    omega
  · split
    · unfold Tg.Sc.headsL
      rw [Tg.Sc.feeds_cons, List.length_append, List.length_cons]
      have : (Tg.Sc.wl [Tg.Sc.kwHead, Lib.itoa e.id, Lib.itoa e.status, Lib.itoa (e.hdrs.length : Int)]).length ≤ 200 := by
        simp [Tg.Sc.wl, Tg.Sc.kwHead]
        omega
      omega
    · split
      · rw [Tg.Sc.feeds_cons]
        simp [Tg.Sc.wl, Tg.Sc.kwChunk, Tg.Sc.feeds]
        omega
      · split
        · rw [Tg.Sc.feeds_cons]
          simp [Tg.Sc.kwReset, Tg.Sc.feeds]
        · split
          · rw [Tg.Sc.feeds_cons]
            simp [Tg.Sc.wl, Tg.Sc.kwEnd, Tg.Sc.feeds]
            omega
          · rw [Tg.Sc.feeds_cons]
            simp [Tg.Sc.wl, Tg.Sc.kwAbort, Tg.Sc.feeds]
            omega
theorem show_no (hg : Tg.Sc.good e = false) (hr : HRow H p e.hdrs) (hz : EvZ e) : LC Tryz.prog EJ 20 [evv e p] H = some (.tuple #[.slice none 0 0, .int .i64 2], H) := by
  obtain ⟨pa, pn, pc, rfl⟩ := hr.slice
  refine LC_pure rfl Tryz.func20 rfl (Nat.le_of_ble_eq_true rfl) (by decide) (by kernel_rfl) rfl ?_
  obtain ⟨Hb, hHb⟩ : ∃ Hb, Hb = H.new (evc e (.slice pa pn pc)) := ⟨_, rfl⟩
  have gb : Hb.get H.n = some (evc e (.slice pa pn pc)) := by rw [hHb]; exact get_new
  have leb : H.le Hb := by rw [hHb]; exact le_refl.new
  have h1 := good_cl (H := Hb) (p := .slice pa pn pc) (by rw [hHb]; exact hr.new1) hz
  rw [hg] at h1
  simp [← hHb, gb, h1]
  exact leb
theorem show_ok (hg : Tg.Sc.good e = true) (hr : HRow H p e.hdrs) (hz : EvZ e) (ht : Tab H) (h10 : Tab10 H) : ∃ v H', LC Tryz.prog EJ 20 [evv e p] H = some (.tuple #[v, .int .i64 0], H') ∧ OutT H v H' (Tg.Sc.shown e) := by
  obtain ⟨pa, pn, pc, rfl⟩ := hr.slice
  have key : ∃ r, LC Tryz.prog EJ 20 [evv e (.slice pa pn pc)] H = some (Lg.trunc H r) ∧ ∃ v, r.1 = .tuple #[v, .int .i64 0] ∧ OutT H v r.2 (Tg.Sc.shown e) := by
    refine LC_runs (P := Tryz.prog) (E := EJ) (f := 20) rfl Tryz.func20 rfl (Nat.le_of_ble_eq_true rfl) (by decide) (by kernel_rfl) ?_
    obtain ⟨Hb, hHb⟩ : ∃ Hb, Hb = H.new (evc e (.slice pa pn pc)) := ⟨_, rfl⟩
    have gb : Hb.get H.n = some (evc e (.slice pa pn pc)) := by rw [hHb]; exact get_new
    have leb : H.le Hb := by rw [hHb]; exact le_refl.new
    have bb : Bs H Hb := by rw [hHb]; exact ⟨rfl, rfl⟩
    have hrb : HRow Hb (.slice pa pn pc) e.hdrs := by rw [hHb]; exact hr.new1
    have h1 := good_cl hrb hz
    obtain ⟨v, H1, e1, o1⟩ := shown_ex hg hrb hz (ht.bs bb) (h10.bs bb)
    rw [hg] at h1
    simp [← hHb, gb, h1, e1]
    exact ⟨o1.row, le_trans leb o1.le⟩
  obtain ⟨⟨u, H'⟩, e, v, hu, ho⟩ := key
  simp only at hu ho
  subst hu
  rcases trunc_or (.tuple #[v, .int .i64 0]) H H' with e2 | ⟨e2, hf, _⟩
  · exact ⟨v, H', by rw [e, e2], ho⟩
  · refine ⟨v, H, by rw [e, e2], ?_, le_refl⟩
    rcases ho.row with h1 | ⟨k, o, c, B, rfl, _⟩
    · exact .inl h1
    · simp [flatB, flat1B, atomB] at hf
theorem Good_cl (hr : HRow H p e.hdrs) (hz : EvZ e) : LC Tryz.prog EJ 21 [evv e p] H = some (.bool (Tg.Sc.good e), H) := by
  obtain ⟨pa, pn, pc, rfl⟩ := hr.slice
  refine LC_pure rfl Tryz.func21 rfl (Nat.le_of_ble_eq_true rfl) (by decide) (by kernel_rfl) rfl ?_
  obtain ⟨Hb, hHb⟩ : ∃ Hb, Hb = H.new (evc e (.slice pa pn pc)) := ⟨_, rfl⟩
  have gb : Hb.get H.n = some (evc e (.slice pa pn pc)) := by rw [hHb]; exact get_new
  have leb : H.le Hb := by rw [hHb]; exact le_refl.new
  have h1 := good_cl (H := Hb) (p := .slice pa pn pc) (by rw [hHb]; exact hr.new1) hz
  simp [← hHb, gb, h1]
  exact leb
theorem Same_cl (hp : HRow H p a.hdrs) (hq : HRow H q b.hdrs) (hz : a.hdrs.length ≤ 1000000) : LC Tryz.prog EJ 22 [evv a p, evv b q] H = some (.bool (decide (a = b)), H) := by
  obtain ⟨pa, pn, pc, rfl⟩ := hp.slice
  obtain ⟨qa, qn, qc, rfl⟩ := hq.slice
  refine LC_pure rfl Tryz.func22 rfl (Nat.le_of_ble_eq_true rfl) (by decide) (by kernel_rfl) rfl ?_
  obtain ⟨Hb, hHb⟩ : ∃ Hb, Hb = (H.new (evc a (.slice pa pn pc))).new (evc b (.slice qa qn qc)) := ⟨_, rfl⟩
  have gb : Hb.get H.n = some (evc a (.slice pa pn pc)) := by rw [hHb, get_new_ne (by simp), get_new]
  have gb2 : Hb.get (H.n + 1) = some (evc b (.slice qa qn qc)) := by rw [hHb]; exact get_new
  have leb : H.le Hb := by rw [hHb]; exact le_refl.new.new
  have h1 := csame2_cl (H := Hb) (by rw [hHb]; exact hp.new1.new1) (by rw [hHb]; exact hq.new1.new1) hz
  simp [← hHb, gb, gb2, h1]
  exact leb
end
end Go.Proofs.YthgcgjpbhbikaaaGreatDoor.Sc

set_option linter.unusedSimpArgs false
set_option linter.unusedVariables false
set_option maxRecDepth 100000
namespace Go.Proofs.YthgcgjpbhbikaaaGreatDoor.Sc
open Go.Lg Go.Tg
section
variable {H H' : LH} {v w p q : Value} {e a b : Tg.Sc.Ev}
theorem shows_law (hm : MaxL H) (ht : Tab H) (h10 : Tab10 H) (ha : HRow H p a.hdrs) (hb : HRow H q b.hdrs) (la : a.hdrs.length ≤ 9223372036854775807) (lb : b.hdrs.length ≤ 9223372036854775807) (ia : EvI a) (ib : EvI b) :
    LC Tryz.prog EJ 5 [evv a p, evv b q] H = some (.bool true, H) := by
  obtain ⟨pa, pn, pc, rfl⟩ := ha.slice
  obtain ⟨qa, qn, qc, rfl⟩ := hb.slice
  refine LC_pure rfl Tryz.func5 rfl (Nat.le_of_ble_eq_true rfl) (by decide) (by kernel_rfl) rfl ?_
  have sx := small_few a
  have sy := small_few b
  have zx := evz_small sx (evi_few ia)
  have zy := evz_small sy (evi_few ib)
  have xx := Tg.Sc.fewE_few a
  have yy := Tg.Sc.fewE_few b
  have lx := small_len sx (evi_few ia)
  obtain ⟨Hb, hHb⟩ : ∃ Hb, Hb = (H.new (evc a (.slice pa pn pc))).new (evc b (.slice qa qn qc)) := ⟨_, rfl⟩
  have nb : Hb.n = H.n + 1 + 1 := by rw [hHb]; rfl
  have gb1 : Hb.get H.n = some (evc a (.slice pa pn pc)) := by rw [hHb, get_new_ne (by simp), get_new]
  have gb2 : Hb.get (H.n + 1) = some (evc b (.slice qa qn qc)) := by rw [hHb]; exact get_new
  have leb : H.le Hb := by rw [hHb]; exact le_refl.new.new
  have bb : Bs H Hb := by rw [hHb]; exact ⟨rfl, rfl⟩
  have hab : HRow Hb (.slice pa pn pc) a.hdrs := by rw [hHb]; exact ha.new1.new1
  have hbb : HRow Hb (.slice qa qn qc) b.hdrs := by rw [hHb]; exact hb.new1.new1
  obtain ⟨p1, H1, e1, o1⟩ := few40_ex hab la
  have b1 : Bs H H1 := bb.trans (ext_bs e1)
  obtain ⟨q1, H2, e2, o2⟩ := few40_ex (hbb.keep o1.le.1 o1.le.2) lb
  have b2 : Bs H H2 := b1.trans (ext_bs e2)
  have n1 := o1.le.1
  have n2 := o2.le.1
  have g21 : H2.get H.n = some (evc a (.slice pa pn pc)) := by rw [o2.le.2 _ (by omega), o1.le.2 _ (by omega)]; exact gb1
  have g22 : H2.get (H.n + 1) = some (evc b (.slice qa qn qc)) := by rw [o2.le.2 _ (by omega), o1.le.2 _ (by omega)]; exact gb2
  have g12 : H1.get (H.n + 1) = some (evc b (.slice qa qn qc)) := by rw [o1.le.2 _ (by omega)]; exact gb2
  have hp1 := o1.row
  have hq1 := o2.row
  generalize hxd : Tg.Sc.fewE a = x at *
  generalize hyd : Tg.Sc.fewE b = y at *
  obtain ⟨pa1, pn1, pc1, rfl⟩ := (HOwn.row hp1).slice
  obtain ⟨qa1, qn1, qc1, rfl⟩ := (HOwn.row hq1).slice
  obtain ⟨H3, hH3⟩ : ∃ H3, H3 = (H2.set H.n (evc x (.slice pa1 pn1 pc1))).set (H.n + 1) (evc y (.slice qa1 qn1 qc1)) := ⟨_, rfl⟩
  have n3 : H3.n = H2.n := by rw [hH3]; rfl
  have b3 : Bs H H3 := by rw [hH3]; exact b2
  have g31 : H3.get H.n = some (evc x (.slice pa1 pn1 pc1)) := by rw [hH3, get_set_ne (by omega), get_set]
  have g32 : H3.get (H.n + 1) = some (evc y (.slice qa1 qn1 qc1)) := by rw [hH3, get_set]
  have k3 : ∀ k, k ≠ H.n → k ≠ H.n + 1 → H3.get k = H2.get k := fun k h1 h2 => by rw [hH3, get_set_ne h2, get_set_ne h1]
  have le3 : H.le H3 := ⟨by omega, fun k hk => by rw [k3 k (by omega) (by omega), o2.le.2 k (by omega), o1.le.2 k (by omega), leb.2 k hk]⟩
  have hx3 : HRow H3 (.slice pa1 pn1 pc1) x.hdrs := HOwn.row (hp1.keep (by omega) (fun k hk _ hkn => by rw [k3 k (by omega) (by omega), o2.le.2 k hkn]))
  have hy3 : HRow H3 (.slice qa1 qn1 qc1) y.hdrs := HOwn.row (hq1.keep (by omega) (fun k hk _ _ => by rw [k3 k (by omega) (by omega)]))
  have up : ∀ G : LH, H3.le G → G.get H.n = some (evc x (.slice pa1 pn1 pc1)) ∧ G.get (H.n + 1) = some (evc y (.slice qa1 qn1 qc1)) ∧ HRow G (.slice pa1 pn1 pc1) x.hdrs ∧ HRow G (.slice qa1 qn1 qc1) y.hdrs ∧ H.le G := fun G hG =>
    ⟨by rw [hG.2 _ (by omega)]; exact g31, by rw [hG.2 _ (by omega)]; exact g32, hx3.keep hG.1 hG.2, hy3.keep hG.1 hG.2, le_trans le3 hG⟩
  have lhx : x.hdrs.length ≤ 9223372036854775807 := by have := sx.hn; omega
  have lhy : y.hdrs.length ≤ 9223372036854775807 := by have := sy.hn; omega
  have lhx2 : x.hdrs.length ≤ 1000000 := by have := sx.hn; omega
  have hxx : x = Tg.Sc.fewE x := xx.symm
  have few_x : ∀ G : LH, H3.le G → ∃ p' G', LC Tryz.prog EJ 19 [evv x (.slice pa1 pn1 pc1)] G = some (evv x p', G') ∧ HRow G' p' x.hdrs ∧ G.le G' ∧ H3.le G' := fun G hG => by
    obtain ⟨p', G', e, o⟩ := few40_ex (up G hG).2.2.1 lhx
    rw [xx] at e o
    exact ⟨p', G', e, HOwn.row o.row, o.le, le_trans hG o.le⟩
  have few_y : ∀ G : LH, H3.le G → ∃ p' G', LC Tryz.prog EJ 19 [evv y (.slice qa1 qn1 qc1)] G = some (evv y p', G') ∧ HRow G' p' y.hdrs ∧ G.le G' ∧ H3.le G' := fun G hG => by
    obtain ⟨p', G', e, o⟩ := few40_ex (up G hG).2.2.2.1 lhy
    rw [yy] at e o
    exact ⟨p', G', e, HOwn.row o.row, o.le, le_trans hG o.le⟩
  obtain ⟨p3, H4, e3, r3, l34, u4⟩ := few_x H3 le_refl
  have b4 : Bs H H4 := b3.trans (ext_bs e3)
  have rest : ∀ H5 : LH, H3.le H5 → ∃ p4 H6 p5 H7 q6 H8, LC Tryz.prog EJ 19 [evv x (.slice pa1 pn1 pc1)] H5 = some (evv x p4, H6) ∧ LC Tryz.prog EJ 21 [evv x p4] H6 = some (.bool (Tg.Sc.good x), H6) ∧ LC Tryz.prog EJ 11 [evv x (.slice pa1 pn1 pc1)] H6 = some (.bool (Tg.Sc.good x), H6) ∧
      LC Tryz.prog EJ 19 [evv x (.slice pa1 pn1 pc1)] H6 = some (evv x p5, H7) ∧ LC Tryz.prog EJ 19 [evv y (.slice qa1 qn1 qc1)] H7 = some (evv y q6, H8) ∧ LC Tryz.prog EJ 22 [evv x p5, evv y q6] H8 = some (.bool (decide (x = y)), H8) ∧
      LC Tryz.prog EJ 23 [evv x (.slice pa1 pn1 pc1), evv y (.slice qa1 qn1 qc1)] H8 = some (.bool (decide (x = y)), H8) ∧ LC Tryz.prog EJ 11 [evv x (.slice pa1 pn1 pc1)] H8 = some (.bool (Tg.Sc.good x), H8) ∧
      (H6.get H.n = some (evc x (.slice pa1 pn1 pc1)) ∧ H6.get (H.n + 1) = some (evc y (.slice qa1 qn1 qc1))) ∧ (H7.get (H.n + 1) = some (evc y (.slice qa1 qn1 qc1)) ∧ H7.get H.n = some (evc x (.slice pa1 pn1 pc1))) ∧ H5.le H8 := fun H5 h5 => by
    obtain ⟨p4, H6, e4, r4, l6, u6⟩ := few_x H5 h5
    obtain ⟨p5, H7, e5, r5, l7, u7⟩ := few_x H6 u6
    obtain ⟨q6, H8, e6, r6, l8, u8⟩ := few_y H7 u7
    exact ⟨p4, H6, p5, H7, q6, H8, e4, Good_cl r4 zx, rgood_cl (up H6 u6).2.2.1 zx, e5, e6, Same_cl (r5.keep l8.1 l8.2) r6 lhx2, rsame_cl (up H8 u8).2.2.1 (up H8 u8).2.2.2.1 lhx2, rgood_cl (up H8 u8).2.2.1 zx, ⟨(up H6 u6).1, (up H6 u6).2.1⟩, ⟨(up H7 u7).2.1, (up H7 u7).1⟩, le_trans l6 (le_trans l7 l8)⟩
  have hcl := fun k => (k : Nat)
  cases hg : Tg.Sc.good x with
  | false =>
    have hs := show_no hg r3 zx
    obtain ⟨p4, H6, p5, H7, q6, H8, f1, f2, f3, f4, f5, f6, f7, f8, ⟨m1, m2⟩, ⟨m3, m9⟩, l58⟩ := rest H4 u4
    have b8 : Bs H H8 := ((b4.trans (ext_bs f1)).trans (ext_bs f4)).trans (ext_bs f5)
    obtain ⟨m4, m5, _, _, le8⟩ := up H8 (le_trans u4 l58)
    have m6 := (up H4 u4).1
    have lv := lives_cl (hm.bs b8) (ht.bs b8) (h10.bs b8)
    rw [hg] at f2 f3 f8
    clear rest few_x few_y up hm ht h10
    simp [← hHb, gb1, gb2, e1, e2, g12, g21, g22, ← hH3, g31, g32, e3, hs, m6, f1, f2, f3, f4, f5, f6, f7, f8, m1, m2, m3, m9, m4, m5, lv]
    exact le8
  | true =>
    obtain ⟨vs, H5, hs, os⟩ := show_ok hg r3 zx (ht.bs b4) (h10.bs b4)
    have u5 : H3.le H5 := le_trans u4 os.le
    have b5 : Bs H H5 := b4.trans (ext_bs hs)
    obtain ⟨p4, H6, p5, H7, q6, H8, f1, f2, f3, f4, f5, f6, f7, f8, ⟨m1, m2⟩, ⟨m3, m9⟩, l58⟩ := rest H5 u5
    have b8 : Bs H H8 := ((b5.trans (ext_bs f1)).trans (ext_bs f4)).trans (ext_bs f5)
    have u8 := le_trans u5 l58
    obtain ⟨m4, m5, hx8, _, _⟩ := up H8 u8
    have m6 := (up H5 u5).1
    obtain ⟨w7, H9, e9, o9⟩ := rshow_ex hg hx8 zx
    have b9 : Bs H H9 := b8.trans (ext_bs e9)
    have u9 := le_trans u8 o9.le
    have eL := rlines_cl o9.row (by omega)
    have hpr := Tg.Sc.show_print x
    have hct := cc (a := Tg.Sc.showT) (b := Tg.Sc.feeds (Tg.Sc.shown x)) (by have : Tg.Sc.showT.length = 24 := rfl; omega)
    have hTl : (Tg.Sc.printT Tg.Sc.showC [x]).length ≤ 6000 := by rw [hpr, List.length_append]; have : Tg.Sc.showT.length = 24 := rfl; omega
    have hrp := Tg.Sc.read_print Tg.Sc.showC_fine (l := [x]) (by simpa using hg) (by omega)
    rw [← hpr] at hct
    obtain ⟨⟨u, H10⟩, e10, p10, hu, l10, r10⟩ := read_ex (H := H9) (s := Tg.Sc.printT Tg.Sc.showC [x]) (by omega) (hm.bs b9) (ht.bs b9) (h10.bs b9)
    have b10 : Bs H H10 := b9.trans (ext_bs e10)
    rw [hrp, if_neg (by simp)] at hu r10
    simp only at hu l10 r10
    subst hu
    obtain ⟨pa10, pn10, pc10, rfl⟩ := r10.slice
    obtain ⟨H11, hH11⟩ : ∃ H11, H11 = H10.new ⟨[.bool true, .int .i64 1445, .int .i64 0, .int .i64 1, .int .i64 0], 26, true⟩ := ⟨_, rfl⟩
    have b11 : Bs H H11 := by rw [hH11]; exact b10
    have l11 : H10.le H11 := by rw [hH11]; exact le_refl.new
    have u11 := le_trans u9 (le_trans l10 l11)
    obtain ⟨m7, _, hx11, _, _⟩ := up H11 u11
    obtain ⟨w12, H12, e12, o12⟩ := rshow_ex hg hx11 zx
    have b12 : Bs H H12 := b11.trans (ext_bs e12)
    have u12 := le_trans u11 o12.le
    obtain ⟨m8, _, hx12, _, le12⟩ := up H12 u12
    have hvs : TRow H12 vs (Tg.Sc.shown x) := os.row.keep (le_trans l58 (le_trans o9.le (le_trans l10 (le_trans l11 o12.le)))).1 (le_trans l58 (le_trans o9.le (le_trans l10 (le_trans l11 o12.le)))).2
    have hxl := Tg.Sc.feeds_len (Tg.Sc.shown x)
    have es := rtsame_cl hvs o12.row (by omega)
    have r12 := r10.keep (le_trans l11 o12.le).1 (le_trans l11 o12.le).2
    obtain ⟨k, o, q10, a1, a2, a3, a4⟩ := r12.at (i := 0) (by simp)
    have a5 := (a4 H12 rfl).1
    have a1 : ∀ G : LH, lixa Tryz.prog 27 (.slice pa10 pn10 pc10) (.int .i64 0) G = some (ptr k o, G) := a1
    have hsm := rsame_cl (HOwn.row a3) hx12 lhx2
    have hlen := fun G : LH => r10.len (H' := G)
    have lv := lives_cl (hm.bs b12) (ht.bs b12) (h10.bs b12)
    rw [hg] at f2 f3 f8
    simp only [List.getElem_cons_zero] at a5 hsm
    rw [decide_true] at hsm
    simp only [List.length_cons, List.length_nil] at hlen
    unfold Tg.Sc.showC at e10
    simp only [suv] at e10
    unfold Tg.Sc.showT at hct
    have e10 : LC Tryz.prog EJ 10 [str (Tg.Sc.printT Tg.Sc.showC [x])] H9 = some (.tuple #[.agg #[.bool true, .int .i64 1445, .int .i64 0, .int .i64 1, .int .i64 0], .slice pa10 pn10 pc10, .int .i64 0, .int .i64 0], H10) := e10
    clear rest few_x few_y up hm ht h10 hrp hpr hTl
    generalize Tg.Sc.printT Tg.Sc.showC [x] = T at *
    generalize Tg.Sc.feeds (Tg.Sc.shown x) = F at *
    simp [← hHb, gb1, gb2, e1, e2, g12, g21, g22, ← hH3, g31, g32, e3, hs, m6, f1, f2, f3, f4, f5, f6, f7, f8, m1, m2, m3, m9, m4, m5, e9, eL, hct, e10, ← hH11, m7, e12, es, hlen, a1, a5, m8, hsm, lv]
    exact le12
end
end Go.Proofs.YthgcgjpbhbikaaaGreatDoor.Sc

set_option linter.unusedSimpArgs false
set_option linter.unusedVariables false
set_option maxRecDepth 100000
namespace Go.Proofs.YthgcgjpbhbikaaaGreatDoor
open Go.ChangeShapes Go.WideShapes Go.ChangeAt Go.RowKit Go.Tg Go.Lg

noncomputable def laidC : List (String × DataW Unit) := [("math/bits.deBruijn32tab", Rows.laid_math_bits_deBruijn32tab), ("math/bits.deBruijn64tab", Rows.laid_math_bits_deBruijn64tab), ("internal/strconv.uint64pow10", Rows.laid_internal_strconv_uint64pow10), ("unicode/utf8.acceptRanges", Rows.laid_unicode_utf8_acceptRanges), ("unicode.White_Space", Rows.laid_unicode_White_Space), ("strings.asciiSpace", Rows.laid_strings_asciiSpace), ("unicode/utf8.first", Rows.laid_unicode_utf8_first)]
theorem gPowC : Tryz.prog.globalNamed "internal/strconv.uint64pow10" = some 5 := by kernel_rfl
theorem gTabC : Tryz.prog.globalNamed "strings.asciiSpace" = some 0 := by kernel_rfl
theorem laid_plainC {W : World} (h : laidMetH Tryz.prog laidC W) : laidMet Tryz.prog laidC W := by rwa [MakeChecks.laidMetH_plain _ _ _ (by kernel_rfl)] at h
theorem pow_of_laidC {W : World} (h : laidMetH Tryz.prog laidC W) : Lib.TabIs Tryz.prog W "internal/strconv.uint64pow10" .u64 Lib.pow10Tab := by
  have h2 := (laid_plainC h).filter (fun x => x.1 == "internal/strconv.uint64pow10")
  have e : laidC.filter (fun x => x.1 == "internal/strconv.uint64pow10") = [("internal/strconv.uint64pow10", Lib.tabData .u64 Lib.pow10Tab)] := by kernel_rfl
  rw [e] at h2
  exact Lib.tabIs_of_head (g := 5) (t := 166) (e := 108) (n := 20) gPowC (by kernel_rfl) (by kernel_rfl) (by kernel_rfl) (by kernel_rfl) (by kernel_rfl) h2
theorem tab_of_laidC {W : World} (h : laidMetH Tryz.prog laidC W) : Lib.TabIs Tryz.prog W "strings.asciiSpace" .u8 Lib.asciiSpaceTab := by
  have h2 := (laid_plainC h).filter (fun x => x.1 == "strings.asciiSpace")
  have e : laidC.filter (fun x => x.1 == "strings.asciiSpace") = [("strings.asciiSpace", Lib.tabData .u8 Lib.asciiSpaceTab)] := by kernel_rfl
  rw [e] at h2
  exact Lib.tabIs_of_head (g := 0) (t := 118) (e := 5) (n := 256) gTabC (by kernel_rfl) (by kernel_rfl) (by kernel_rfl) (by kernel_rfl) (by kernel_rfl) h2
theorem sizeC {W : World} (h : laidMetH Tryz.prog laidC W) : 5 + 1 ≤ W.heap.size := by
  have h1 := pow_of_laidC h
  have := h1.cell gPowC 0 (by decide)
  rcases Nat.lt_or_ge 5 W.heap.size with h2 | h2
  · exact h2
  · simp [World.cell?, Array.getElem?_eq_none h2] at this
theorem tab10CL {W : World} (h : laidMetH Tryz.prog laidC W) : Tab10 (LH.lift W (5 + 1)) := ⟨by show 5 < 5 + 1; decide, pow_of_laidC h⟩
theorem tabCL {W : World} (h : laidMetH Tryz.prog laidC W) : Tab (LH.lift W (5 + 1)) := ⟨by show 0 < 5 + 1; decide, tab_of_laidC h⟩
theorem maxCL {W : World} (h : W.ShapedOpen Tryz.prog) : MaxL (LH.lift W (5 + 1)) := by
  refine ⟨by show 2 < 5 + 1; decide, ?_⟩
  exact Go.Proofs.cell_of_shapedOpen_int (P := Tryz.prog) (w := W) (zero := #[.int .i64 0]) (t := 3) (g := 2) h (of_decide_eq_true (by kernel_rfl)) (by kernel_rfl) rfl (by kernel_rfl) (by kernel_rfl) Tryz.underlying3
theorem returns_and_shaped {H : Type} {enc : TypeId × Value → H} {a : Assume} {C : Checked} {os : Os} {f : FuncId} {fn : Func} {s : ChangeSpec} {conds : List PathCond} {apart fresh handsOn again : Bool} {X : World → Array Value → Prop}
    (hX : ∀ (w w' : World) (args : Array Value), w.heap = w'.heap → X w args → X w' args)
    (own : Go.ownKnob C.prog.godebug = none) (started : os.Started) (noInit : C.prog.inits.idxOf? f = none) (hfn : C.prog.funcs[f]? = some fn)
    (witness : ∃ (w : World) (tape : Tape) (i : Input), w.os = os ∧ (w.forCall tape i).Shaped C.prog ∧ i.vars = [] ∧ Input.okWide C.prog (w.forCall tape i) .any w.heap.size f i ∧
      ((s.pre enc C.prog fn conds apart (w.forCall tape i).memory i.args ∧ X (w.forCall tape i).memory i.args) ∧ sizedMet enc C.prog fn (OpenSpec.ofChange s) apart (w.forCall tape i).memory i.args) ∧ a.holds C.prog (lone (Frame.enter C.prog f i.args .normal) [] (w.forCall tape i)))
    (contract : ∀ (W : World) (base : Nat) (args : Array Value) (ds gs : List (DataW H)) (before : List MemPlace),
      (∀ (j : Nat) t v, fn.params[j]? = some t → args[j]? = some v → Value.okWide C.prog W .any base t v) →
      DataW.Whole enc C.prog fn.params.toList s.vars apart W args.toList ds gs before →
      X W args → W.ShapedOpen C.prog →
      Calls C.prog f args W fun e W' => ∃ v, e = .returned v ∧ s.post enc C.prog fn apart fresh handsOn again W args v W') :
    ReturnsInHanded a C os f .any (fun w args => (s.pre enc C.prog fn conds apart w args ∧ X w args) ∧ sizedMet enc C.prog fn (OpenSpec.ofChange s) apart w args) (s.post enc C.prog fn apart fresh handsOn again) := by
  refine returnsInHanded_of_calls own started noInit witness ?_
  intro w tape i _ hsh _ hok hpre hholds
  obtain ⟨_, _, _, fn', hfn', _, _, _, _, hval⟩ := hok
  have e : fn' = fn := Option.some.inj (hfn'.symm.trans hfn)
  subst e
  obtain ⟨⟨⟨ds, gs, before, hw, hc⟩, hx⟩, hz⟩ := hpre
  have hw' := DataW.Whole.of_heap (w' := w.forCall tape i) (by rfl) hw
  refine (contract (w.forCall tape i) w.heap.size i.args ds gs before hval hw' (hX _ _ _ (by rfl) hx) hsh).mono fun e W' ⟨v, he, hp⟩ => ?_
  subst he
  exact ChangeSpec.post_blind hp
end Go.Proofs.YthgcgjpbhbikaaaGreatDoor

set_option linter.unusedSimpArgs false
set_option linter.unusedVariables false
set_option maxRecDepth 100000
namespace Go.Proofs.YthgcgjpbhbikaaaGreatDoor.Sc
open Go.ChangeShapes Go.WideShapes Go.ChangeAt Go.RowKit Go.Tg Go.Lg
theorem cells_hdr : Tryz.prog.cellsOf 78 = 2 := by kernel_rfl
theorem cells_hdrs : Tryz.prog.cellsOf 32 = 1 := by kernel_rfl
theorem cells_dstr : Tryz.prog.cellsOf 9 = 1 := by kernel_rfl
theorem cells_dint : Tryz.prog.cellsOf 3 = 1 := by kernel_rfl
theorem hdr_of_trod {HH : Type} {enc : TypeId × Value → HH} {W : World} {base fuel : Nat} {sp : Nat → Bool} {held : Bool} {cs : List Value} {x : DataW HH × List MemPlace} (n : Nat) (hf : DataW.trod enc Tryz.prog W base sp held fuel 78 cs = some x) : ∃ a : Tg.Hd.Hdr, cs.map (lift1 n) = [str a.1, str a.2] := by
  cases fuel with
  | zero => simp [DataW.trod] at hf
  | succ m =>
    rw [DataW.trod_step] at hf
    unfold DataW.trodStep at hf
    simp only [Tryz.underlying78, Value.cells] at hf
    split at hf
    · rename_i hs
      rw [cells_hdr] at hs
      match cs, hs with
      | [c0, c1], _ =>
      simp only [Option.map_eq_some_iff] at hf
      obtain ⟨xs, hx, e1⟩ := hf
      simp only [List.mapM_cons, List.mapM_nil, bind, Option.bind_eq_some_iff, pure, Option.some.injEq, cells_dstr] at hx
      obtain ⟨y0, h0, _, ⟨y1, h1, _, rfl, rfl⟩, rfl⟩ := hx
      obtain ⟨s0, q0, _, _⟩ := DataW.trod_string Tryz.underlying9 h0
      obtain ⟨s1, q1, _, _⟩ := DataW.trod_string Tryz.underlying9 h1
      simp at q0 q1
      subst q0; subst q1
      exact ⟨(s0.data.toList, s1.data.toList), by simp only [str_ba]; rfl⟩
    · cases hf
theorem hrow_of {W : World} {g : Nat} {v : Value} {xs : List Tg.Hd.Hdr} (h : RowOf (LH.lift W g) 2 (fun (a : Tg.Hd.Hdr) cs => cs = [str a.1, str a.2]) v xs) : HRow (LH.lift W g) v xs := by
  rcases h with h | ⟨l, o, c, h1, _, h2, h3⟩
  · exact .inl h
  · refine .inr ⟨l, o, c, h1, fun hne => ?_⟩
    obtain ⟨b, h4, h5, h6⟩ := h3 hne
    refine ⟨b, h4, h2, fun i hi => ?_⟩
    have h7 := h6 i xs[i] (List.getElem?_eq_getElem hi)
    have hle : o + i * 2 + 2 ≤ b.cells.length := by
      have := Nat.mul_le_mul_right 2 (show i + 1 ≤ xs.length by omega)
      omega
    have e1 : b.cells[o + i * 2]? = ((b.cells.drop (o + i * 2)).take 2)[0]? := by rw [List.getElem?_take, if_pos (by decide), List.getElem?_drop]; rfl
    have e2 : b.cells[o + i * 2 + 1]? = ((b.cells.drop (o + i * 2)).take 2)[1]? := by rw [List.getElem?_take, if_pos (by decide), List.getElem?_drop]
    exact ⟨hle, h7, by rw [e1, h7]; rfl, by rw [e2, h7]; rfl⟩
theorem lift_int {n : Nat} {k : IntKind} {x : Int} : lift1 n (.int k x) = .int k x := rfl
theorem lift_bool {n : Nat} {x : Bool} : lift1 n (.bool x) = .bool x := rfl
theorem lift_dstr {n : Nat} (s : ByteArray) : lift1 n (.string s) = str s.data.toList := by rw [← str_ba]; rfl
def I64 (n : Int) : Prop := -9223372036854775808 ≤ n ∧ n ≤ 9223372036854775807
theorem i64_of {n : Int} (h : (Lit.int .i64 n).wf = true) : I64 n := (Lit.wf_int_iff .i64 n).1 h
theorem lift_agg {n : Nat} {cs : Array Value} {l : List Value} (h : cs.toList.map (lift1 n) = l) : liftV n (.agg cs) = .agg ⟨l⟩ := by
  show Value.agg (cs.map (lift1 n)) = _
  congr 1
  rw [← h, ← Array.toList_map]
theorem cells_reply : Tryz.prog.cellsOf 34 = 2 := by kernel_rfl
theorem cells_event : Tryz.prog.cellsOf 36 = 9 := by kernel_rfl
theorem reply_of_trod {HH : Type} {enc : TypeId × Value → HH} {W : World} {g base fuel : Nat} {held : Bool} {cs : List Value} {x : DataW HH × List MemPlace} (hw0 : 0 < W.heap.size) (hf : DataW.trod enc Tryz.prog W base (fun _ => true) held fuel 34 cs = some x) :
    ∃ (n : Int) (p : Value) (l : List Tg.Hd.Hdr), cs = [.int .i64 n, p] ∧ I64 n ∧ HRow (LH.lift W g) (lift1 W.heap.size p) l ∧ l.length ≤ maxLen := by
  cases fuel with
  | zero => simp [DataW.trod] at hf
  | succ m =>
    rw [DataW.trod_step] at hf
    unfold DataW.trodStep at hf
    simp only [Tryz.underlying34, Value.cells] at hf
    split at hf
    · rename_i hs
      rw [cells_reply] at hs
      match cs, hs with
      | [c0, c1], _ =>
      simp only [Option.map_eq_some_iff] at hf
      obtain ⟨xs, hx, e1⟩ := hf
      simp only [List.mapM_cons, List.mapM_nil, bind, Option.bind_eq_some_iff, pure, Option.some.injEq, cells_dint, cells_hdrs] at hx
      obtain ⟨y0, h0, _, ⟨y1, h1, _, rfl, rfl⟩, rfl⟩ := hx
      obtain ⟨k0, e0, rfl, w0⟩ := DataW.trod_int Tryz.underlying3 h0
      obtain ⟨pv, l, hc, hr, hl⟩ := row_of_trod (El := fun (a : Tg.Hd.Hdr) cs => cs = [str a.1, str a.2]) (g := g) Tryz.underlying32 cells_hdr (by decide) hw0 (fun fuel cs y hy => hdr_of_trod W.heap.size hy) h1
      simp at e0 hc
      subst e0; subst hc
      exact ⟨k0, _, l, rfl, i64_of w0, hrow_of hr, hl⟩
    · cases hf
theorem ev_of_trod {HH : Type} {enc : TypeId × Value → HH} {W : World} {g base fuel : Nat} {held : Bool} {cs : List Value} {x : DataW HH × List MemPlace} (hw0 : 0 < W.heap.size) (hf : DataW.trod enc Tryz.prog W base (fun _ => true) held fuel 36 cs = some x) :
    ∃ (e : Tg.Sc.Ev) (p : Value), cs.map (lift1 W.heap.size) = evl e p ∧ HRow (LH.lift W g) p e.hdrs ∧ e.hdrs.length ≤ maxLen ∧ EvI e := by
  cases fuel with
  | zero => simp [DataW.trod] at hf
  | succ m =>
    rw [DataW.trod_step] at hf
    unfold DataW.trodStep at hf
    simp only [Tryz.underlying36, Value.cells] at hf
    split at hf
    · rename_i hs
      rw [cells_event] at hs
      match cs, hs with
      | [c0, c1, c2, c3, c4, c5, c6, c7, c8], _ =>
      simp only [Option.map_eq_some_iff] at hf
      obtain ⟨xs, hx, e1⟩ := hf
      simp only [List.mapM_cons, List.mapM_nil, bind, Option.bind_eq_some_iff, pure, Option.some.injEq, cells_dint, cells_dstr, cells_reply] at hx
      obtain ⟨y0, h0, _, ⟨y1, h1, _, ⟨y2, h2, _, ⟨y3, h3, _, ⟨y4, h4, _, ⟨y5, h5, _, ⟨y6, h6, _, ⟨y7, h7, _, rfl, rfl⟩, rfl⟩, rfl⟩, rfl⟩, rfl⟩, rfl⟩, rfl⟩, rfl⟩ := hx
      obtain ⟨k0, e0, rfl, w0⟩ := DataW.trod_int Tryz.underlying3 h0
      obtain ⟨k1, e1', rfl, w1⟩ := DataW.trod_int Tryz.underlying3 h1
      obtain ⟨s2, q2, _, _⟩ := DataW.trod_string Tryz.underlying9 h2
      obtain ⟨s3, q3, _, _⟩ := DataW.trod_string Tryz.underlying9 h3
      obtain ⟨s4, q4, _, _⟩ := DataW.trod_string Tryz.underlying9 h4
      obtain ⟨k5, e5, rfl, w5⟩ := DataW.trod_int Tryz.underlying3 h5
      obtain ⟨k6, p6, l, hc, w6, hr, hl⟩ := reply_of_trod (g := g) hw0 h6
      obtain ⟨s7, q7, _, _⟩ := DataW.trod_string Tryz.underlying9 h7
      simp at e0 e1' q2 q3 q4 e5 hc q7
      obtain ⟨rfl, rfl⟩ := hc
      subst e0; subst e1'; subst q2; subst q3; subst q4; subst e5; subst q7
      have i0 := i64_of w0
      have i1 := i64_of w1
      have i5 := i64_of w5
      exact ⟨⟨k0, k1, s2.data.toList, s3.data.toList, s4.data.toList, k5, k6, l, s7.data.toList⟩, _, by simp only [List.map_cons, List.map_nil, lift_int, lift_dstr], hr, hl, ⟨i0.1, i0.2, i1.1, i1.2, i5.1, i5.2, w6.1, w6.2⟩⟩
    · cases hf
theorem open_ev {HH : Type} {enc : TypeId × Value → HH} {W : World} {g base b0 : Nat} {held : Bool} {r : Reach} {v : Value} {d : DataW HH} {ps : List MemPlace} (hw0 : 0 < W.heap.size)
    (hval : Value.okWide Tryz.prog W r b0 36 v) (hd : DataW.Trod enc Tryz.prog W base (fun _ => true) held 36 v d ps) :
    ∃ (e : Tg.Sc.Ev) (p : Value), liftV W.heap.size v = evv e p ∧ HRow (LH.lift W g) p e.hdrs ∧ e.hdrs.length ≤ maxLen ∧ EvI e := by
  obtain ⟨cs, rfl, hs⟩ := okWide_struct Tryz.underlying36 hval
  obtain ⟨fuel, hf⟩ := hd
  obtain ⟨e, p, h1, h2, h3, h4⟩ := ev_of_trod (g := g) hw0 hf
  exact ⟨e, p, lift_agg h1, h2, h3, h4⟩
end Go.Proofs.YthgcgjpbhbikaaaGreatDoor.Sc

