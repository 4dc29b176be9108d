/-
  Texts joined, part 6: LgEq, UrEq, UrText, UrLong, DoorU.
-/
import Derived.Test.YthgcgjpbhbikaaaDoorM4
import Derived.MapKept
import Derived.Test.YthgcgjpbhbikaaaDoorM5
import Derived.Test.YthgcgjpbhbikaaaDoorM1
import Derived.Test.YthgcgjpbhbikaaaDoorRows
import Derived.ProofKit
import Derived.WideShapes
import Derived.RowKit
import Derived.ChangeArms
import Derived.LaidMore
import Derived.LaidSub
import Derived.Lib.LaidTab
import Derived.Stop.Joined
import Derived.Shelf.Vars
import Derived.HandedShaped
import Derived.Lay
/-
  A logical run of Go code: structs compared, part by part.
-/
set_option linter.unusedSimpArgs false
set_option linter.unusedVariables false
set_option maxRecDepth 100000
namespace Go.Lg
theorem pureVal_map {α β : Type} {P : Program} (s : Sem α) (f : α → β) : pureVal P (f <$> s) = (pureVal P s).map f := by
  show pureVal P (s >>= fun x => pure (f x)) = _
  rw [pureVal_bind]; cases pureVal P s <;> rfl
theorem eqIn_int {P : Program} {d : Nat} {t : TypeId} {k : IntKind} {a b : Int} (hu : P.underlying t = some (.int k)) : pureVal P (Op.equalIn (d + 1) t (.int k a) (.int k b)) = some (a == b) := by
  unfold Op.equalIn
  simp only [pureVal_bind, pureVal_und, hu, Option.bind_some, pureVal_pure, if_true]
theorem eqIn_str {P : Program} {d : Nat} {t : TypeId} {a b : List UInt8} (hu : P.underlying t = some .string) : pureVal P (Op.equalIn (d + 1) t (str a) (str b)) = some (decide (a = b)) := by
  unfold Op.equalIn
  simp only [pureVal_bind, pureVal_und, hu, Option.bind_some, str]
  show some _ = _
  congr 1
  rw [Bool.eq_iff_iff, Go.MapKept.bytes_beq]; simp
theorem eqIn_bool {P : Program} {d : Nat} {t : TypeId} {a b : Bool} (hu : P.underlying t = some .bool) : pureVal P (Op.equalIn (d + 1) t (.bool a) (.bool b)) = some (a == b) := by
  unfold Op.equalIn
  simp only [pureVal_bind, pureVal_und, hu, Option.bind_some, pureVal_pure]
theorem part_cell {P : Program} {t : TypeId} {cs : Array Value} {o : Nat} {v : Value} (ha : aggB P t = some false) (h : cs[o]? = some v) : pureVal P (part t cs o) = some v := by
  unfold part
  have : pureVal P (isAgg t) = some false := by
    unfold aggB at ha
    unfold isAgg
    obtain ⟨d, hd, hf⟩ := Option.map_eq_some_iff.1 ha
    simp only [pureVal_bind, pureVal_und, hd, Option.bind_some]
    cases d <;> first | rfl | (simp [aggD] at hf)
  simp only [pureVal_bind, this, Option.bind_some, h]
  rfl
/-- two aggregates of a type that is guarded by nothing -/
theorem lbin_agg {P : Program} {t : TypeId} {xs ys : List Value} {b : Bool} (hx : flatB (.agg ⟨xs⟩) = true) (hy : flatB (.agg ⟨ys⟩) = true) (hg : P.eqGuardType P.depth t = false)
    (he : pureVal P (Op.equalIn Op.maxDepth t (.agg ⟨xs⟩) (.agg ⟨ys⟩)) = some b) : lbin P .eql t (.agg ⟨xs⟩) (.agg ⟨ys⟩) = some (.bool b) := by
  unfold lbin
  simp only
  rw [if_pos (by rw [hx, hy]; rfl)]
  unfold pureFlat eqGuard
  simp only [binOp, Op.equal, pureVal_bind]
  have e1 : ∀ X Y : Value, pureVal P (if (!true) = true then (pure () : Sem Unit) else do
      let __do_lift ← program
      let __do_lift_1 ← program
      if (!__do_lift.eqGuardType __do_lift_1.depth t) = true then pure ()
      else do
        let __do_lift ← Op.eqGuardIn Op.maxDepth t X Y
        if __do_lift = true then unsupported (Unsupported.noEntry "binop/eql: two nil values of an interface type with methods, in a part of a struct or an array") else pure ()) = some () := by
    intro X Y
    rw [if_neg (by decide)]
    simp only [pureVal_bind, pureVal_program, Option.bind_some, hg, Bool.not_false, if_true, pureVal_pure]
  rw [e1, he]
  rfl
end Go.Lg
/-
  Layer 26 (url): places compared.
-/
set_option linter.unusedSimpArgs false
set_option linter.unusedVariables false
set_option maxRecDepth 100000
namespace Go.Lg
theorem lbin_aggn {P : Program} {t : TypeId} {xs ys : List Value} {b : Bool} (hx : flatB (.agg ⟨xs⟩) = true) (hy : flatB (.agg ⟨ys⟩) = true) (hg : P.eqGuardType P.depth t = false)
    (he : pureVal P (Op.equalIn Op.maxDepth t (.agg ⟨xs⟩) (.agg ⟨ys⟩)) = some b) : lbin P .neq t (.agg ⟨xs⟩) (.agg ⟨ys⟩) = some (.bool (!b)) := by
  unfold lbin
  simp only
  rw [if_pos (by rw [hx, hy]; rfl)]
  unfold pureFlat eqGuard
  simp only [binOp, Op.equal, pureVal_bind]
  have e1 : ∀ X Y : Value, pureVal P (if (!true) = true then (pure () : Sem Unit) else do
      let __do_lift ← program
      let __do_lift_1 ← program
      if (!__do_lift.eqGuardType __do_lift_1.depth t) = true then pure ()
      else do
        let __do_lift ← Op.eqGuardIn Op.maxDepth t X Y
        if __do_lift = true then unsupported (Unsupported.noEntry "binop/eql: two nil values of an interface type with methods, in a part of a struct or an array") else pure ()) = some () := by
    intro X Y
    rw [if_neg (by decide)]
    simp only [pureVal_bind, pureVal_program, Option.bind_some, hg, Bool.not_false, if_true, pureVal_pure]
  rw [e1, he]
  rfl
end Go.Lg
namespace Go.Proofs.YthgcgjpbhbikaaaDoor
open Go.Lg Go.Tg
section
abbrev p3 (a b : List UInt8) (n : Int) : Value := .agg #[str a, str b, .int .i64 n]
theorem url_in {u v : Tg.Ur.Url} : pureVal Tryd.prog (Op.equalIn Op.maxDepth 25 (uv u) (uv v)) = some (decide (u = v)) := by
  show pureVal Tryd.prog (Op.equalIn ((9998 + 1) + 1) _ _ _) = _
  have hs : Tryd.prog.stoodInHeld 25 = false := by kernel_rfl
  obtain ⟨a, b, n, c, d⟩ := u
  obtain ⟨a', b', n', c', d'⟩ := v
  unfold Op.equalIn
  simp only [pureVal_bind, pureVal_und, Tryd.underlying25, Option.bind_some, pureVal_program, hs, Bool.false_eq_true, if_false, pureVal_pure]
  by_cases h1 : a = a' <;> by_cases h2 : b = b' <;> by_cases h3 : n = n' <;> by_cases h4 : c = c' <;> by_cases h5 : d = d' <;>
    simp [← Array.forIn_toList, pureVal_bind, part_cell, eqIn_int, eqIn_str, eqIn_bool, h1, h2, h3, h4, h5, Tryd.underlying3, Tryd.underlying9, Tryd.underlying4]
theorem url_eq {u v : Tg.Ur.Url} : lbin Tryd.prog .eql 25 (uv u) (uv v) = some (.bool (decide (u = v))) := lbin_agg rfl rfl (by kernel_rfl) url_in
theorem url_ne {u v : Tg.Ur.Url} : lbin Tryd.prog .neq 25 (uv u) (uv v) = some (.bool (!decide (u = v))) := lbin_aggn rfl rfl (by kernel_rfl) url_in
end
end Go.Proofs.YthgcgjpbhbikaaaDoor
/-
  Layer 26 (url): what the code's functions come to: texts, origins, ports, keys.
-/
set_option linter.unusedSimpArgs false
set_option linter.unusedVariables false
set_option maxRecDepth 100000
namespace Go.Proofs.YthgcgjpbhbikaaaDoor
open Go.Lg Go.Tg
section
variable {H : LH} {b : UInt8} {s t : List UInt8} {u v : Tg.Ur.Url}
/-- a place whose parts are not too long -/
structure Small (u : Tg.Ur.Url) : Prop where
  host : u.host.length ≤ 30000
  path : u.path.length ≤ 80000
  query : u.query.length ≤ 80000
  scheme : u.scheme.length ≤ 30000
  lo : -9223372036854775808 ≤ u.port
  hi : u.port ≤ 9223372036854775807
theorem itoa_cl {n : Int} (h1 : -9223372036854775808 ≤ n) (h2 : n ≤ 9223372036854775807) (ht : Tab10 H) : LC Tryd.prog EJ 24 [.int .i64 n] H = some (str (Lib.itoa n), H) := by
  refine LC_pure rfl Tryd.func24 rfl (Nat.le_of_ble_eq_true rfl) (by decide) (by kernel_rfl) rfl ?_
  simp [itoa_l h1 h2 ht]
theorem good_s (hu : Small u) (hm : MaxL H) : LC Tryd.prog EJ 10 [uv u] H = some (.bool (Tg.Ur.good u), H) := good_cl (by have := hu.host; omega) (by have := hu.path; omega) (by have := hu.query; omega) hm
theorem text_cl (hu : Small u) (hm : MaxL H) (ht : Tab10 H) (hi : (Lib.itoa u.port).length ≤ 1000) : LC Tryd.prog EJ 12 [uv u] H = some (str (Tg.Ur.text u), H) := by
  refine LC_pure rfl Tryd.func12 rfl (Nat.le_of_ble_eq_true rfl) (by decide) (by kernel_rfl) rfl ?_
  have hg := good_s (H := H.new (ub u)) hu hm
  have hd := itoa_cl (H := H.new (ub u)) hu.lo hu.hi ht
  have ⟨b1, b2, b3, b4, _, _⟩ := hu
  unfold Tg.Ur.text
  cases hgo : Tg.Ur.good u with
  | false =>
    rw [hgo] at hg
    simp [hg, le_refl.new]
  | true =>
    rw [hgo] at hg
    unfold Tg.Ur.textP
    obtain ⟨sch, hst, prt, pth, q⟩ := u
    simp only at *
    have cat := fun (x y : List UInt8) (hh : x.length + y.length ≤ 9000000) => lbin_cat (P := Tryd.prog) (t := 9) (x := x) (y := y) (by omega)
    have c1 := cat sch [58, 47, 47] (by simp; omega)
    have c2 := cat (sch ++ [58, 47, 47]) hst (by simp; omega)
    simp only [List.append_assoc, List.cons_append, List.nil_append] at c2
    by_cases h0 : prt = 0
    · subst h0
      have c3 := cat (sch ++ 58 :: 47 :: 47 :: hst) pth (by simp; omega)
      have c4 := cat (sch ++ 58 :: 47 :: 47 :: (hst ++ pth)) q (by simp; omega)
      simp [hg, le_refl.new, c1, c2, c3, c4]
    · have c3 := cat [58] (Lib.itoa prt) (by simp; omega)
      have c4 := cat (sch ++ 58 :: 47 :: 47 :: hst) (58 :: Lib.itoa prt) (by simp; omega)
      have c5 := cat (sch ++ 58 :: 47 :: 47 :: (hst ++ 58 :: Lib.itoa prt)) pth (by simp; omega)
      have c6 := cat (sch ++ 58 :: 47 :: 47 :: (hst ++ 58 :: (Lib.itoa prt ++ pth))) q (by simp; omega)
      simp only [List.append_assoc, List.cons_append, List.nil_append] at c3 c4 c5 c6
      simp [hg, h0, hd, le_refl.new, c1, c2, c3, c4, c5, c6]
theorem own_rng (s : List UInt8) : 0 ≤ Tg.Ur.own s ∧ Tg.Ur.own s ≤ 443 := by
  unfold Tg.Ur.own
  split
  · omega
  · split <;> omega
theorem Parse_cl (hs : s.length ≤ 20000) (hm : MaxL H) : LC Tryd.prog EJ 4 [str s] H = some (.tuple #[uv (Tg.Ur.parse s).1, .int .i64 (Tg.Ur.parse s).2], H) := by
  refine LC_pure rfl Tryd.func4 rfl (Nat.le_of_ble_eq_true rfl) (by decide) (by kernel_rfl) rfl ?_
  have h := parse_cl (H := H.new ⟨[str [], str [], .int .i64 0, str [], str []], 25, true⟩) hs hm
  generalize Tg.Ur.parse s = x at *
  simp [h, le_refl.new]
theorem Key_cl (hs : s.length ≤ 20000) (hm : MaxL H) (ht : Tab10 H) (hu : Small (Tg.Ur.parse s).1) (hi : (Lib.itoa (Tg.Ur.parse s).1.port).length ≤ 1000) : LC Tryd.prog EJ 7 [str s] H = some (.tuple #[str (if (Tg.Ur.parse s).2 = 0 then Tg.Ur.text (Tg.Ur.parse s).1 else []), .int .i64 (Tg.Ur.parse s).2], H) := by
  refine LC_pure rfl Tryd.func7 rfl (Nat.le_of_ble_eq_true rfl) (by decide) (by kernel_rfl) rfl ?_
  have h := parse_cl (H := H) hs hm
  have h2 := text_cl (H := H.new (ub (Tg.Ur.parse s).1)) hu hm ht hi
  generalize Tg.Ur.parse s = x at *
  obtain ⟨u, e⟩ := x
  simp only at *
  by_cases he : e = 0
  · subst he
    simp [h, h2, le_refl.new]
  · simp [h, he, le_refl.new]
end
end Go.Proofs.YthgcgjpbhbikaaaDoor
/-
  Layer 26 (url): the law of a text that is too long.
-/
set_option linter.unusedSimpArgs false
set_option linter.unusedVariables false
set_option maxRecDepth 100000
namespace Tg.Ur
def live : List UInt8 := [72, 84, 84, 80, 58, 47, 47, 65, 46, 98, 58, 56, 48, 47, 120, 47, 46, 46, 47, 121, 35, 122]
theorem live1 : parse live = (⟨[104, 116, 116, 112], [97, 46, 98], 0, [47, 121], []⟩, 0) := by decide +kernel
end Tg.Ur
namespace Go.Proofs.YthgcgjpbhbikaaaDoor
open Go.Lg Go.Tg
section
variable {H : LH}
theorem livesL (hm : MaxL H) (ht : Tab10 H) : LC Tryd.prog EJ 5 [] H = some (.bool true, H) := by
  refine LC_pure rfl Tryd.func5 rfl (Nat.le_of_ble_eq_true rfl) (by decide) (by kernel_rfl) rfl ?_
  have hk := Key_cl (H := H) (s := Tg.Ur.live) (by decide) hm ht (by rw [Tg.Ur.live1]; exact ⟨by decide, by decide, by decide, by decide, by decide, by decide⟩) (by rw [Tg.Ur.live1]; decide +kernel)
  rw [Tg.Ur.live1] at hk
  have e : Tg.Ur.text ⟨[104, 116, 116, 112], [97, 46, 98], 0, [47, 121], []⟩ = [104, 116, 116, 112, 58, 47, 47, 97, 46, 98, 47, 121] := by decide +kernel
  simp only [e, if_true] at hk
  unfold Tg.Ur.live at hk
  simp [hk]
theorem mk_ne : MK Tryd.prog 5 ≠ 5 := by
  show Tryd.prog.types.size ≠ _
  decide +kernel
/-- a byte more behind a marked row -/
theorem mk_app {k m : Nat} {l : List UInt8} {x : UInt8} (hk : H.get k = some ⟨l.map bv, MK Tryd.prog 5, true⟩) (hkn : k < H.n) (hl : l.length = m) (h0 : 0 < m) (hM : m + 1 ≤ 1048576) :
    lapp Tryd.prog 23 (sl k m m) (some (1, [.int .u8 x.toNat])) H = some (sl H.n (m + 1) (m + 1), (H.kill k).new ⟨(l ++ [x]).map bv, MK Tryd.prog 5, true⟩) := by
  show lapp _ _ _ (some (1, [x].map bv)) _ = _
  rw [lapp_mk (e := 5) (m := 1) Tryd.underlying23 (by kernel_rfl) (bv_cells [x]) (by decide) h0 (by unfold maxElems; omega) hk rfl rfl mk_ne (by simp [hl])]
  simp [List.map_append, bv]
theorem base9_cells : (Tg.Ur.base9).map bv = [.int .u8 104, .int .u8 116, .int .u8 116, .int .u8 112, .int .u8 58, .int .u8 47, .int .u8 47, .int .u8 97, .int .u8 47] := by rfl
theorem long_law (hm : MaxL H) (ht : Tab10 H) {n : Int} (h0 : 0 ≤ n) (h1 : n ≤ 65535) : LC Tryd.prog EJ 3 [.int .u16 n] H = some (.bool true, H) := by
  refine LC_pure rfl Tryd.func3 rfl (Nat.le_of_ble_eq_true rfl) (by decide) (by kernel_rfl) rfl ?_
  have hmk : ∀ H : LH, lcvB Tryd.prog 23 23 (sl H.n 9 9) (H.new ⟨[.int .u8 104, .int .u8 116, .int .u8 116, .int .u8 112, .int .u8 58, .int .u8 47, .int .u8 47, .int .u8 97, .int .u8 47], 5, true⟩) = some (sl H.n 9 9, H.new ⟨[.int .u8 104, .int .u8 116, .int .u8 116, .int .u8 112, .int .u8 58, .int .u8 47, .int .u8 47, .int .u8 97, .int .u8 47], MK Tryd.prog 5, true⟩) := fun H => by
    rw [lcvB_mark (e := 5) Tryd.underlying23 Tryd.underlying5 (by kernel_rfl) get_new rfl rfl (by decide), new_set]
  obtain ⟨q, hq, hq40⟩ : ∃ q : Nat, (n.tmod 40 = (q : Int)) ∧ q < 40 := ⟨(n.tmod 40).toNat, by
    have := Int.tmod_nonneg 40 h0
    omega, by
    have := Int.tmod_nonneg 40 h0
    have := Int.tmod_lt_of_pos n (show (0 : Int) < 40 by decide)
    omega⟩
  have hqm : n % 40 = (q : Int) := by
    rw [← hq, Int.tmod_eq_emod_of_nonneg h0]
  have hw16 : IntKind.u16.wrap (q : Int) = (q : Int) := by rw [IntKind.wrap_u16]; omega
  have hw64 : IntKind.i64.wrap (q : Int) = (q : Int) := wrapI (by omega) (by omega)
  have hwq : IntKind.i64.wrap (8170 + (q : Int)) = 8170 + (q : Int) := wrapI (by omega) (by omega)
  simp [hmk]
  refine loop_ind (fun (i : Nat) fr' H' => ∃ k, fr' 0 = .int .u16 n ∧ fr' 3 = sl k (9 + i) (9 + i) ∧ fr' 4 = .int .i64 i ∧ i ≤ 8170 + q ∧ H'.get k = some ⟨(Tg.Ur.base9 ++ Tg.Ur.xs i).map bv, MK Tryd.prog 5, true⟩ ∧ H.n ≤ k ∧ k < H'.n ∧ (∀ j, j < H.n → H'.get j = H.get j) ∧ H'.base = H.base ∧ H'.ng = H.ng) (fun i => 8170 + q - i) 0 ⟨H.n, by simp, by simp, by simp, by omega, by simp [Tg.Ur.xs, base9_cells], Nat.le_refl _, by simp, fun j hj => get_new_ne (by omega), rfl, rfl⟩ ?_
  rintro i fr' H' ⟨k, f0, f3, f4, hi, hg, hk1, hk2, hle, hb, hn⟩ ih
  by_cases hlt : i < 8170 + q
  · have q0 := eq_true (show (i : Int) < 8170 + (q : Int) by omega)
    have hw1 : IntKind.i64.wrap ((i : Int) + 1) = ((i + 1 : Nat) : Int) := by rw [wrapI (by omega) (by omega)]; omega
    have happ := mk_app (H := H'.new ⟨[.int .u8 120], 5, true⟩) (k := k) (m := 9 + i) (l := Tg.Ur.base9 ++ Tg.Ur.xs i) (x := 120) (by rw [get_new_ne (by omega)]; exact hg) (by rw [n_new]; omega) (by simp [Tg.Ur.base9, Tg.Ur.xs_len]; omega) (by omega) (by omega)
    have hx1 : (Tg.Ur.base9 ++ Tg.Ur.xs i) ++ [120] = Tg.Ur.base9 ++ Tg.Ur.xs (i + 1) := by
      rw [List.append_assoc]; congr 1
      exact (List.replicate_succ' ..).symm
    rw [hx1] at happ
    have happ : lapp Tryd.prog 23 (sl k (9 + i) (9 + i)) (some (1, [.int .u8 120])) (H'.new ⟨[.int .u8 120], 5, true⟩) = _ := happ
    have hfin := fun fr2 (g0 : fr2 0 = .int .u16 n) (g3 : fr2 3 = sl (H'.n + 1) (9 + (i + 1)) (9 + (i + 1))) (g4 : fr2 4 = .int .i64 ((i + 1 : Nat) : Int)) => ih (i + 1) fr2 (((H'.new ⟨[.int .u8 120], 5, true⟩).kill k).new ⟨(Tg.Ur.base9 ++ Tg.Ur.xs (i + 1)).map bv, MK Tryd.prog 5, true⟩) (by omega) ⟨H'.n + 1, g0, g3, g4, by omega, by
      rw [show H'.n + 1 = ((H'.new ⟨[.int .u8 120], 5, true⟩).kill k).n from rfl, get_new], by omega, by simp, fun j hj => by
      rw [get_new_ne (by simp; omega), get_kill_ne (by omega), get_new_ne (by omega)]; exact hle j hj, hb, hn⟩
    clear ih hg
    generalize (Tg.Ur.base9 ++ Tg.Ur.xs (i + 1)).map bv = cs at *
    simp [f0, f3, f4, hq, hqm, hw16, hw64, hwq, q0, happ]
    refine hfin _ ?_ ?_ ?_
    all_goals simp [f0, hw1, Nat.add_assoc]
  · have hie : i = 8170 + q := by omega
    subst hie
    have q0 := eq_false (show ¬ ((8170 + q : Nat) : Int) < 8170 + (q : Int) by omega)
    obtain ⟨l, hl⟩ : ∃ l, l = Tg.Ur.base9 ++ Tg.Ur.xs (8170 + q) := ⟨_, rfl⟩
    have hlen : l.length = 9 + (8170 + q) := by rw [hl]; simp [Tg.Ur.base9, Tg.Ur.xs_len]; omega
    have hpl := Tg.Ur.parse_long (8170 + q)
    rw [← hl] at hg hpl
    have hcv : lconv Tryd.prog 23 9 (sl k (9 + (8170 + q)) (9 + (8170 + q))) H' = some (str l) :=
      lconv_bs (e := 5) Tryd.underlying23 Tryd.underlying9 Tryd.underlying5 hg (by simp [hlen]) (by
        show lbs (((l.map bv).drop 0).take _) = some l
        rw [List.drop_zero, List.take_of_length_le (by simp [hlen]), lbs_map])
    have hpar := Parse_cl (H := H') (s := 32 :: (l ++ [32])) (by simp [hlen]; omega) ⟨by rw [hn]; exact hm.1, by rw [hb]; exact hm.2⟩
    rw [hpl] at hpar
    have hle : H.le H' := ⟨by omega, hle⟩
    have hlv := fun (G : LH) (h1 : G.base = H.base) (h2 : G.ng = H.ng) => livesL (H := G) ⟨by rw [h2]; exact hm.1, by rw [h1]; exact hm.2⟩ ⟨by rw [h2]; exact ht.1, by rw [h1]; exact ht.2⟩
    clear ih hg hl hpl
    have qa := eq_true (show 1 + l.length ≤ 9223372036854775807 by omega)
    have qb := eq_true (show l.length + 1 + 1 ≤ 9223372036854775807 by omega)
    by_cases hbig : 8192 < 9 + (8170 + q)
    · rw [if_pos hbig] at hpar
      have q1 := eq_true (show (8192 : Int) < 9 + (8170 + (q : Int)) by omega)
      have hue := url_eq (u := Tg.Ur.none) (v := Tg.Ur.none)
      unfold Tg.Ur.none at hue hpar
      have hlv2 := hlv (H'.new ⟨[str [], str [], .int .i64 0, str [], str []], 25, true⟩) hb hn
      simp [f0, f3, f4, hq, hqm, hw16, hw64, hwq, q0, hcv, qa, qb, hpar, q1, hue, hlv2]
      exact hle.new
    · rw [if_neg hbig] at hpar
      have q1 := eq_false (show ¬ (8192 : Int) < 9 + (8170 + (q : Int)) by omega)
      have hlv2 := hlv (H'.new ⟨[str [104, 116, 116, 112], str [97], .int .i64 0, str (47 :: Tg.Ur.xs (8170 + q)), str []], 25, true⟩) hb hn
      have hxl := Tg.Ur.xs_len (8170 + q)
      have hw9 : IntKind.i64.wrap (9 + (8170 + (q : Int)) - 8) = 8170 + (q : Int) + 1 := by rw [wrapI (by omega) (by omega)]; omega
      simp [f0, f3, f4, hq, hqm, hw16, hw64, hwq, q0, hcv, qa, qb, hpar, q1, hlv2, hxl, hw9]
      exact hle.new
end
end Go.Proofs.YthgcgjpbhbikaaaDoor
/-
  What the listed package variables, and the world's shape, give: the table of powers of ten, and the machine's number that the search in strings reads; an argument of the type api.Url.
-/
set_option linter.unusedSimpArgs false
set_option linter.unusedVariables false
set_option maxRecDepth 100000
namespace Go.Proofs.YthgcgjpbhbikaaaDoor
open Go.ChangeShapes Go.WideShapes Go.ChangeAt Go.RowKit Go.Tg Go.Lg

noncomputable def laidU : List (String × DataW Unit) := [("math/bits.deBruijn32tab", Rows.laid_math_bits_deBruijn32tab), ("math/bits.deBruijn64tab", Rows.laid_math_bits_deBruijn64tab), ("internal/strconv.uint64pow10", Rows.laid_internal_strconv_uint64pow10), ("unicode/utf8.acceptRanges", Rows.laid_unicode_utf8_acceptRanges), ("unicode/utf8.first", Rows.laid_unicode_utf8_first)]
theorem gTabU : Tryd.prog.globalNamed "internal/strconv.uint64pow10" = some 1 := by kernel_rfl
theorem tab_of_laidU {W : World} (h : laidMetH Tryd.prog laidU W) : Lib.TabIs Tryd.prog W "internal/strconv.uint64pow10" .u64 Lib.pow10Tab := by
  have h1 : laidMet Tryd.prog laidU W := by rwa [MakeChecks.laidMetH_plain _ _ _ (by kernel_rfl)] at h
  have h2 := h1.filter (fun x => x.1 == "internal/strconv.uint64pow10")
  have e : laidU.filter (fun x => x.1 == "internal/strconv.uint64pow10") = [("internal/strconv.uint64pow10", Lib.tabData .u64 Lib.pow10Tab)] := by kernel_rfl
  rw [e] at h2
  exact Lib.tabIs_of_head (g := 1) (t := 102) (e := 96) (n := 20) gTabU (by kernel_rfl) (by kernel_rfl) (by kernel_rfl) (by kernel_rfl) (by kernel_rfl) h2
theorem sizeU {W : World} (h : laidMetH Tryd.prog laidU W) : 1 + 1 ≤ W.heap.size := by
  have h1 := tab_of_laidU h
  have := h1.cell gTabU 0 (by decide)
  rcases Nat.lt_or_ge 1 W.heap.size with h2 | h2
  · exact h2
  · simp [World.cell?, Array.getElem?_eq_none h2] at this
theorem tab10U {W : World} (h : laidMetH Tryd.prog laidU W) : Tab10 (LH.empty W (1 + 1)) := ⟨by show 1 < 1 + 1; decide, tab_of_laidU h⟩
theorem maxU {W : World} (h : W.ShapedOpen Tryd.prog) : MaxL (LH.empty W (1 + 1)) := by
  refine ⟨by show 0 < 1 + 1; decide, ?_⟩
  exact Go.Proofs.cell_of_shapedOpen_int (P := Tryd.prog) (w := W) (zero := #[.int .i64 0]) (t := 3) (g := 0) h (of_decide_eq_true (by kernel_rfl)) (by kernel_rfl) rfl (by kernel_rfl) (by kernel_rfl) Tryd.underlying3
theorem returns_and_shaped {H : Type} {enc : TypeId × Value → H} {a : Assume} {C : Checked} {os : Os} {f : FuncId} {fn : Func} {s : ChangeSpec} {conds : List PathCond} {apart fresh handsOn again : Bool} {X : World → Array Value → Prop}
    (hX : ∀ (w w' : World) (args : Array Value), w.heap = w'.heap → X w args → X w' args)
    (own : Go.ownKnob C.prog.godebug = none) (started : os.Started) (noInit : C.prog.inits.idxOf? f = none) (hfn : C.prog.funcs[f]? = some fn)
    (witness : ∃ (w : World) (tape : Tape) (i : Input), w.os = os ∧ (w.forCall tape i).Shaped C.prog ∧ i.vars = [] ∧ Input.okWide C.prog (w.forCall tape i) .any w.heap.size f i ∧
      ((s.pre enc C.prog fn conds apart (w.forCall tape i).memory i.args ∧ X (w.forCall tape i).memory i.args) ∧ sizedMet enc C.prog fn (OpenSpec.ofChange s) apart (w.forCall tape i).memory i.args) ∧ a.holds C.prog (lone (Frame.enter C.prog f i.args .normal) [] (w.forCall tape i)))
    (contract : ∀ (W : World) (base : Nat) (args : Array Value) (ds gs : List (DataW H)) (before : List MemPlace),
      (∀ (j : Nat) t v, fn.params[j]? = some t → args[j]? = some v → Value.okWide C.prog W .any base t v) →
      DataW.Whole enc C.prog fn.params.toList s.vars apart W args.toList ds gs before →
      X W args → W.ShapedOpen C.prog →
      Calls C.prog f args W fun e W' => ∃ v, e = .returned v ∧ s.post enc C.prog fn apart fresh handsOn again W args v W') :
    ReturnsInHanded a C os f .any (fun w args => (s.pre enc C.prog fn conds apart w args ∧ X w args) ∧ sizedMet enc C.prog fn (OpenSpec.ofChange s) apart w args) (s.post enc C.prog fn apart fresh handsOn again) := by
  refine returnsInHanded_of_calls own started noInit witness ?_
  intro w tape i _ hsh _ hok hpre hholds
  obtain ⟨_, _, _, fn', hfn', _, _, _, _, hval⟩ := hok
  have e : fn' = fn := Option.some.inj (hfn'.symm.trans hfn)
  subst e
  obtain ⟨⟨⟨ds, gs, before, hw, hc⟩, hx⟩, hz⟩ := hpre
  have hw' := DataW.Whole.of_heap (w' := w.forCall tape i) (by rfl) hw
  refine (contract (w.forCall tape i) w.heap.size i.args ds gs before hval hw' (hX _ _ _ (by rfl) hx) hsh).mono fun e W' ⟨v, he, hp⟩ => ?_
  subst he
  exact ChangeSpec.post_blind hp
theorem cells_url : Tryd.prog.cellsOf 25 = 5 := by kernel_rfl
theorem cells_ustr : Tryd.prog.cellsOf 9 = 1 := by kernel_rfl
theorem cells_uint : Tryd.prog.cellsOf 3 = 1 := by kernel_rfl
theorem open_url {H : Type} {enc : TypeId × Value → H} {W : World} {base b0 : Nat} {sp : Nat → Bool} {held : Bool} {r : Reach} {v : Value} {d : DataW H} {ps : List MemPlace}
    (hval : Value.okWide Tryd.prog W r b0 25 v) (hd : DataW.Trod enc Tryd.prog W base sp held 25 v d ps) :
    ∃ (s h : ByteArray) (n : Int) (p q : ByteArray), v = .agg #[.string s, .string h, .int .i64 n, .string p, .string q] ∧ (Lit.int .i64 n).wf = true := by
  obtain ⟨cs, rfl, hs⟩ := okWide_struct Tryd.underlying25 hval
  rw [cells_url] at hs
  obtain ⟨l⟩ := cs
  match l, hs with
  | [c0, c1, c2, c3, c4], _ =>
  obtain ⟨fuel, hf⟩ := hd
  cases fuel with
  | zero => simp [DataW.trod] at hf
  | succ n =>
    rw [DataW.trod_step] at hf
    unfold DataW.trodStep at hf
    simp only [Tryd.underlying25, Value.cells] at hf
    rw [if_pos (by rw [cells_url]; rfl)] at hf
    simp only [Option.map_eq_some_iff] at hf
    obtain ⟨xs, hx, e1⟩ := hf
    simp only [List.mapM_cons, List.mapM_nil, bind, Option.bind_eq_some_iff, pure, Option.some.injEq, cells_ustr, cells_uint] at hx
    obtain ⟨y0, h0, _, ⟨y1, h1, _, ⟨y2, h2, _, ⟨y3, h3, _, ⟨y4, h4, _, rfl, rfl⟩, rfl⟩, rfl⟩, rfl⟩, rfl⟩ := hx
    obtain ⟨s0, q0, _, _⟩ := DataW.trod_string Tryd.underlying9 h0
    obtain ⟨s1, q1, _, _⟩ := DataW.trod_string Tryd.underlying9 h1
    obtain ⟨k, ek, rfl, wk⟩ := DataW.trod_int Tryd.underlying3 h2
    obtain ⟨s3, q3, _, _⟩ := DataW.trod_string Tryd.underlying9 h3
    obtain ⟨s4, q4, _, _⟩ := DataW.trod_string Tryd.underlying9 h4
    simp at q0 q1 ek q3 q4
    subst q0; subst q1; subst ek; subst q3; subst q4
    exact ⟨s0, s1, k, s3, s4, rfl, wk⟩
end Go.Proofs.YthgcgjpbhbikaaaDoor
