/-
  Texts joined, part 6: LgEq, UrEq, UrText, DoorU, UrRefA, UrRefB, UrRefQ, UrRefN, UrRefD, UrRefG, UrRefT, UrRefP, UrRefR, UrBack, UrLives, UrLaws.
-/
import Derived.Test.YteckofomnhminaaGreatDoorM4
import Derived.MapKept
import Derived.Test.YteckofomnhminaaGreatDoorM5
import Derived.Test.YteckofomnhminaaGreatDoorRows
import Derived.Test.YteckofomnhminaaGreatDoorM1
import Derived.ProofKit
import Derived.WideShapes
import Derived.RowKit
import Derived.ChangeArms
import Derived.LaidMore
import Derived.LaidSub
import Derived.Lib.LaidTab
import Derived.Stop.Joined
import Derived.Shelf.Vars
import Derived.HandedShaped
import Derived.Lay
/-
  A logical run of Go code: structs compared, part by part.
-/
set_option linter.unusedSimpArgs false
set_option linter.unusedVariables false
set_option maxRecDepth 100000
namespace Go.Lg
theorem pureVal_map {α β : Type} {P : Program} (s : Sem α) (f : α → β) : pureVal P (f <$> s) = (pureVal P s).map f := by
  show pureVal P (s >>= fun x => pure (f x)) = _
  rw [pureVal_bind]; cases pureVal P s <;> rfl
theorem eqIn_int {P : Program} {d : Nat} {t : TypeId} {k : IntKind} {a b : Int} (hu : P.underlying t = some (.int k)) : pureVal P (Op.equalIn (d + 1) t (.int k a) (.int k b)) = some (a == b) := by
  unfold Op.equalIn
  simp only [pureVal_bind, pureVal_und, hu, Option.bind_some, pureVal_pure, if_true]
theorem eqIn_str {P : Program} {d : Nat} {t : TypeId} {a b : List UInt8} (hu : P.underlying t = some .string) : pureVal P (Op.equalIn (d + 1) t (str a) (str b)) = some (decide (a = b)) := by
  unfold Op.equalIn
  simp only [pureVal_bind, pureVal_und, hu, Option.bind_some, str]
  show some _ = _
  congr 1
  rw [Bool.eq_iff_iff, Go.MapKept.bytes_beq]; simp
theorem eqIn_bool {P : Program} {d : Nat} {t : TypeId} {a b : Bool} (hu : P.underlying t = some .bool) : pureVal P (Op.equalIn (d + 1) t (.bool a) (.bool b)) = some (a == b) := by
  unfold Op.equalIn
  simp only [pureVal_bind, pureVal_und, hu, Option.bind_some, pureVal_pure]
theorem part_cell {P : Program} {t : TypeId} {cs : Array Value} {o : Nat} {v : Value} (ha : aggB P t = some false) (h : cs[o]? = some v) : pureVal P (part t cs o) = some v := by
  unfold part
  have : pureVal P (isAgg t) = some false := by
    unfold aggB at ha
    unfold isAgg
    obtain ⟨d, hd, hf⟩ := Option.map_eq_some_iff.1 ha
    simp only [pureVal_bind, pureVal_und, hd, Option.bind_some]
    cases d <;> first | rfl | (simp [aggD] at hf)
  simp only [pureVal_bind, this, Option.bind_some, h]
  rfl
/-- two aggregates of a type that is guarded by nothing -/
theorem lbin_agg {P : Program} {t : TypeId} {xs ys : List Value} {b : Bool} (hx : flatB (.agg ⟨xs⟩) = true) (hy : flatB (.agg ⟨ys⟩) = true) (hg : P.eqGuardType P.depth t = false)
    (he : pureVal P (Op.equalIn Op.maxDepth t (.agg ⟨xs⟩) (.agg ⟨ys⟩)) = some b) : lbin P .eql t (.agg ⟨xs⟩) (.agg ⟨ys⟩) = some (.bool b) := by
  unfold lbin
  simp only
  rw [if_pos (by rw [hx, hy]; rfl)]
  unfold pureFlat eqGuard
  simp only [binOp, Op.equal, pureVal_bind]
  have e1 : ∀ X Y : Value, pureVal P (if (!true) = true then (pure () : Sem Unit) else do
      let __do_lift ← program
      let __do_lift_1 ← program
      if (!__do_lift.eqGuardType __do_lift_1.depth t) = true then pure ()
      else do
        let __do_lift ← Op.eqGuardIn Op.maxDepth t X Y
        if __do_lift = true then unsupported (Unsupported.noEntry "binop/eql: two nil values of an interface type with methods, in a part of a struct or an array") else pure ()) = some () := by
    intro X Y
    rw [if_neg (by decide)]
    simp only [pureVal_bind, pureVal_program, Option.bind_some, hg, Bool.not_false, if_true, pureVal_pure]
  rw [e1, he]
  rfl
end Go.Lg
/-
  Layer 26 (url): places compared.
-/
set_option linter.unusedSimpArgs false
set_option linter.unusedVariables false
set_option maxRecDepth 100000
namespace Go.Lg
theorem lbin_aggn {P : Program} {t : TypeId} {xs ys : List Value} {b : Bool} (hx : flatB (.agg ⟨xs⟩) = true) (hy : flatB (.agg ⟨ys⟩) = true) (hg : P.eqGuardType P.depth t = false)
    (he : pureVal P (Op.equalIn Op.maxDepth t (.agg ⟨xs⟩) (.agg ⟨ys⟩)) = some b) : lbin P .neq t (.agg ⟨xs⟩) (.agg ⟨ys⟩) = some (.bool (!b)) := by
  unfold lbin
  simp only
  rw [if_pos (by rw [hx, hy]; rfl)]
  unfold pureFlat eqGuard
  simp only [binOp, Op.equal, pureVal_bind]
  have e1 : ∀ X Y : Value, pureVal P (if (!true) = true then (pure () : Sem Unit) else do
      let __do_lift ← program
      let __do_lift_1 ← program
      if (!__do_lift.eqGuardType __do_lift_1.depth t) = true then pure ()
      else do
        let __do_lift ← Op.eqGuardIn Op.maxDepth t X Y
        if __do_lift = true then unsupported (Unsupported.noEntry "binop/eql: two nil values of an interface type with methods, in a part of a struct or an array") else pure ()) = some () := by
    intro X Y
    rw [if_neg (by decide)]
    simp only [pureVal_bind, pureVal_program, Option.bind_some, hg, Bool.not_false, if_true, pureVal_pure]
  rw [e1, he]
  rfl
end Go.Lg
namespace Go.Proofs.YteckofomnhminaaGreatDoor
open Go.Lg Go.Tg
section
abbrev p3 (a b : List UInt8) (n : Int) : Value := .agg #[str a, str b, .int .i64 n]
theorem p3_eq {a b a' b' : List UInt8} {n n' : Int} : lbin Tryz.prog .eql 76 (p3 a b n) (p3 a' b' n') = some (.bool (decide (a = a') && decide (b = b') && decide (n = n'))) := by
  refine lbin_agg rfl rfl (by kernel_rfl) ?_
  show pureVal Tryz.prog (Op.equalIn ((9998 + 1) + 1) _ _ _) = _
  have hs : Tryz.prog.stoodInHeld 76 = false := by kernel_rfl
  unfold Op.equalIn
  simp only [pureVal_bind, pureVal_und, Tryz.underlying76, Option.bind_some, pureVal_program, hs, Bool.false_eq_true, if_false, pureVal_pure]
  by_cases h1 : a = a' <;> by_cases h2 : b = b' <;> by_cases h3 : n = n' <;>
    simp [← Array.forIn_toList, pureVal_bind, part_cell, eqIn_int, eqIn_str, eqIn_bool, h1, h2, h3, Tryz.underlying3, Tryz.underlying9, Tryz.underlying4]
theorem url_in {u v : Tg.Ur.Url} : pureVal Tryz.prog (Op.equalIn Op.maxDepth 44 (uv u) (uv v)) = some (decide (u = v)) := by
  show pureVal Tryz.prog (Op.equalIn ((9998 + 1) + 1) _ _ _) = _
  have hs : Tryz.prog.stoodInHeld 44 = false := by kernel_rfl
  obtain ⟨a, b, n, c, d⟩ := u
  obtain ⟨a', b', n', c', d'⟩ := v
  unfold Op.equalIn
  simp only [pureVal_bind, pureVal_und, Tryz.underlying44, Option.bind_some, pureVal_program, hs, Bool.false_eq_true, if_false, pureVal_pure]
  by_cases h1 : a = a' <;> by_cases h2 : b = b' <;> by_cases h3 : n = n' <;> by_cases h4 : c = c' <;> by_cases h5 : d = d' <;>
    simp [← Array.forIn_toList, pureVal_bind, part_cell, eqIn_int, eqIn_str, eqIn_bool, h1, h2, h3, h4, h5, Tryz.underlying3, Tryz.underlying9, Tryz.underlying4]
theorem url_eq {u v : Tg.Ur.Url} : lbin Tryz.prog .eql 44 (uv u) (uv v) = some (.bool (decide (u = v))) := lbin_agg rfl rfl (by kernel_rfl) url_in
theorem url_ne {u v : Tg.Ur.Url} : lbin Tryz.prog .neq 44 (uv u) (uv v) = some (.bool (!decide (u = v))) := lbin_aggn rfl rfl (by kernel_rfl) url_in
end
end Go.Proofs.YteckofomnhminaaGreatDoor
/-
  Layer 26 (url): what the code's functions come to: texts, origins, ports, keys.
-/
set_option linter.unusedSimpArgs false
set_option linter.unusedVariables false
set_option maxRecDepth 100000
namespace Go.Proofs.YteckofomnhminaaGreatDoor
open Go.Lg Go.Tg
section
variable {H : LH} {b : UInt8} {s t : List UInt8} {u v : Tg.Ur.Url}
/-- a place whose parts are not too long -/
structure Small (u : Tg.Ur.Url) : Prop where
  host : u.host.length ≤ 30000
  path : u.path.length ≤ 80000
  query : u.query.length ≤ 80000
  scheme : u.scheme.length ≤ 30000
  lo : -9223372036854775808 ≤ u.port
  hi : u.port ≤ 9223372036854775807
theorem port_cl : LC Tryz.prog EJ 68 [uv u] H = some (.int .i64 (Tg.Ur.port u), H) := by
  refine LC_pure rfl Tryz.func68 rfl (Nat.le_of_ble_eq_true rfl) (by decide) (by kernel_rfl) rfl ?_
  have ho := fun H : LH => own_l (H := H) (s := u.scheme)
  unfold Tg.Ur.port
  by_cases h0 : Tg.Ur.own u.scheme = 0
  · simp [ho, h0, le_refl.new]
  · by_cases h1 : u.port = 0
    · simp [ho, h0, h1, le_refl.new]
    · simp [ho, h0, h1, le_refl.new]
theorem itoa_cl {n : Int} (h1 : -9223372036854775808 ≤ n) (h2 : n ≤ 9223372036854775807) (ht : Tab10 H) : LC Tryz.prog EJ 92 [.int .i64 n] H = some (str (Lib.itoa n), H) := by
  refine LC_pure rfl Tryz.func92 rfl (Nat.le_of_ble_eq_true rfl) (by decide) (by kernel_rfl) rfl ?_
  simp [itoa_l h1 h2 ht]
theorem good_s (hu : Small u) (hm : MaxL H) : LC Tryz.prog EJ 64 [uv u] H = some (.bool (Tg.Ur.good u), H) := good_cl (by have := hu.host; omega) (by have := hu.path; omega) (by have := hu.query; omega) hm
theorem text_cl (hu : Small u) (hm : MaxL H) (ht : Tab10 H) (hi : (Lib.itoa u.port).length ≤ 1000) : LC Tryz.prog EJ 62 [uv u] H = some (str (Tg.Ur.text u), H) := by
  refine LC_pure rfl Tryz.func62 rfl (Nat.le_of_ble_eq_true rfl) (by decide) (by kernel_rfl) rfl ?_
  have hg := good_s (H := H.new (ub u)) hu hm
  have hd := itoa_cl (H := H.new (ub u)) hu.lo hu.hi ht
  have ⟨b1, b2, b3, b4, _, _⟩ := hu
  unfold Tg.Ur.text
  cases hgo : Tg.Ur.good u with
  | false =>
    rw [hgo] at hg
    simp [hg, le_refl.new]
  | true =>
    rw [hgo] at hg
    unfold Tg.Ur.textP
    obtain ⟨sch, hst, prt, pth, q⟩ := u
    simp only at *
    have cat := fun (x y : List UInt8) (hh : x.length + y.length ≤ 9000000) => lbin_cat (P := Tryz.prog) (t := 9) (x := x) (y := y) (by omega)
    have c1 := cat sch [58, 47, 47] (by simp; omega)
    have c2 := cat (sch ++ [58, 47, 47]) hst (by simp; omega)
    simp only [List.append_assoc, List.cons_append, List.nil_append] at c2
    by_cases h0 : prt = 0
    · subst h0
      have c3 := cat (sch ++ 58 :: 47 :: 47 :: hst) pth (by simp; omega)
      have c4 := cat (sch ++ 58 :: 47 :: 47 :: (hst ++ pth)) q (by simp; omega)
      simp [hg, le_refl.new, c1, c2, c3, c4]
    · have c3 := cat [58] (Lib.itoa prt) (by simp; omega)
      have c4 := cat (sch ++ 58 :: 47 :: 47 :: hst) (58 :: Lib.itoa prt) (by simp; omega)
      have c5 := cat (sch ++ 58 :: 47 :: 47 :: (hst ++ 58 :: Lib.itoa prt)) pth (by simp; omega)
      have c6 := cat (sch ++ 58 :: 47 :: 47 :: (hst ++ 58 :: (Lib.itoa prt ++ pth))) q (by simp; omega)
      simp only [List.append_assoc, List.cons_append, List.nil_append] at c3 c4 c5 c6
      simp [hg, h0, hd, le_refl.new, c1, c2, c3, c4, c5, c6]
theorem own_rng (s : List UInt8) : 0 ≤ Tg.Ur.own s ∧ Tg.Ur.own s ≤ 443 := by
  unfold Tg.Ur.own
  split
  · omega
  · split <;> omega
theorem origin_cl (hu : Small u) (hm : MaxL H) (ht : Tab10 H) (hi : (Lib.itoa (Tg.Ur.port u)).length ≤ 1000) : LC Tryz.prog EJ 67 [uv u] H = some (str (Tg.Ur.origin u), H) := by
  refine LC_pure rfl Tryz.func67 rfl (Nat.le_of_ble_eq_true rfl) (by decide) (by kernel_rfl) rfl ?_
  have hg := good_s (H := H.new (ub u)) hu hm
  have hpl : -9223372036854775808 ≤ Tg.Ur.port u ∧ Tg.Ur.port u ≤ 9223372036854775807 := by
    have := hu.lo
    have := hu.hi
    have := own_rng u.scheme
    unfold Tg.Ur.port
    split <;> omega
  have hd := itoa_cl (H := (H.new (ub u)).ro) hpl.1 hpl.2 ht
  have hp := fun H : LH => port_cl (H := H) (u := u)
  have ⟨b1, b2, b3, b4, _, _⟩ := hu
  unfold Tg.Ur.origin
  cases hgo : Tg.Ur.good u with
  | false =>
    rw [hgo] at hg
    simp [hg, le_refl.new]
  | true =>
    rw [hgo] at hg
    generalize Tg.Ur.port u = po at *
    obtain ⟨sch, hst, prt, pth, q⟩ := u
    simp only at *
    have cat := fun (x y : List UInt8) (hh : x.length + y.length ≤ 9000000) => lbin_cat (P := Tryz.prog) (t := 9) (x := x) (y := y) (by omega)
    have c1 := cat sch [58, 47, 47] (by simp; omega)
    have c2 := cat (sch ++ [58, 47, 47]) hst (by simp; omega)
    have c3 := cat (sch ++ 58 :: 47 :: 47 :: hst) [58] (by simp; omega)
    have c4 := cat (sch ++ 58 :: 47 :: 47 :: (hst ++ [58])) (Lib.itoa po) (by simp; omega)
    simp only [List.append_assoc, List.cons_append, List.nil_append] at c2 c3 c4
    simp [hg, hd, hp, le_refl.new, c1, c2, c3, c4]
theorem where_cl : LC Tryz.prog EJ 69 [uv u] H = some (.agg #[str u.scheme, str u.host, .int .i64 (Tg.Ur.port u)], H) := by
  refine LC_pure rfl Tryz.func69 rfl (Nat.le_of_ble_eq_true rfl) (by decide) (by kernel_rfl) rfl ?_
  have hp := fun H : LH => port_cl (H := H) (u := u)
  simp [hp, le_refl.new]
theorem same_pl (hu : Small u) (hv : Small v) (hm : MaxL H) : LC Tryz.prog EJ 37 [uv u, uv v] H = some (.bool (Tg.Ur.good u && Tg.Ur.good v && (decide (u.scheme = v.scheme) && decide (u.host = v.host) && decide (Tg.Ur.port u = Tg.Ur.port v))), H) := by
  refine LC_pure rfl Tryz.func37 rfl (Nat.le_of_ble_eq_true rfl) (by decide) (by kernel_rfl) rfl ?_
  have hg := good_s (H := ((H.new (ub u)).new (ub v)).ro) hu hm
  have hg2 := good_s (H := ((H.new (ub u)).new (ub v)).ro) hv hm
  have hw := fun H : LH => where_cl (H := H) (u := u)
  have hw2 := fun H : LH => where_cl (H := H) (u := v)
  cases h1 : Tg.Ur.good u with
  | false =>
    rw [h1] at hg
    simp [hg, le_refl.new]
  | true =>
    cases h2 : Tg.Ur.good v with
    | false =>
      rw [h1] at hg
      rw [h2] at hg2
      simp [hg, hg2, le_refl.new]
    | true =>
      rw [h1] at hg
      rw [h2] at hg2
      have hf1 : flatB (p3 u.scheme u.host (Tg.Ur.port u)) = true := rfl
      have hf2 : flatB (p3 v.scheme v.host (Tg.Ur.port v)) = true := rfl
      have he := p3_eq (a := u.scheme) (b := u.host) (n := Tg.Ur.port u) (a' := v.scheme) (b' := v.host) (n' := Tg.Ur.port v)
      simp [hg, hg2, hw, hw2, hf1, hf2, he, le_refl.new]
theorem Good_cl (hu : Small u) (hm : MaxL H) : LC Tryz.prog EJ 29 [uv u] H = some (.bool (Tg.Ur.good u), H) := by
  refine LC_pure rfl Tryz.func29 rfl (Nat.le_of_ble_eq_true rfl) (by decide) (by kernel_rfl) rfl ?_
  simp [good_s (H := H.new (ub u)) hu hm, le_refl.new]
theorem Text_cl (hu : Small u) (hm : MaxL H) (ht : Tab10 H) (hi : (Lib.itoa u.port).length ≤ 1000) : LC Tryz.prog EJ 32 [uv u] H = some (str (Tg.Ur.text u), H) := by
  refine LC_pure rfl Tryz.func32 rfl (Nat.le_of_ble_eq_true rfl) (by decide) (by kernel_rfl) rfl ?_
  simp [text_cl (H := H.new (ub u)) hu hm ht hi, le_refl.new]
theorem Origin_cl (hu : Small u) (hm : MaxL H) (ht : Tab10 H) (hi : (Lib.itoa (Tg.Ur.port u)).length ≤ 1000) : LC Tryz.prog EJ 33 [uv u] H = some (str (Tg.Ur.origin u), H) := by
  refine LC_pure rfl Tryz.func33 rfl (Nat.le_of_ble_eq_true rfl) (by decide) (by kernel_rfl) rfl ?_
  simp [origin_cl (H := H.new (ub u)) hu hm ht hi, le_refl.new]
theorem Port_cl : LC Tryz.prog EJ 35 [uv u] H = some (.int .i64 (Tg.Ur.port u), H) := by
  refine LC_pure rfl Tryz.func35 rfl (Nat.le_of_ble_eq_true rfl) (by decide) (by kernel_rfl) rfl ?_
  simp [port_cl (H := H.new (ub u)) (u := u), le_refl.new]
theorem Parse_cl (hs : s.length ≤ 20000) (hm : MaxL H) : LC Tryz.prog EJ 24 [str s] H = some (.tuple #[uv (Tg.Ur.parse s).1, .int .i64 (Tg.Ur.parse s).2], H) := by
  refine LC_pure rfl Tryz.func24 rfl (Nat.le_of_ble_eq_true rfl) (by decide) (by kernel_rfl) rfl ?_
  have h := parse_cl (H := H.new ⟨[str [], str [], .int .i64 0, str [], str []], 44, true⟩) hs hm
  generalize Tg.Ur.parse s = x at *
  simp [h, le_refl.new]
theorem Key_cl (hs : s.length ≤ 20000) (hm : MaxL H) (ht : Tab10 H) (hu : Small (Tg.Ur.parse s).1) (hi : (Lib.itoa (Tg.Ur.parse s).1.port).length ≤ 1000) : LC Tryz.prog EJ 26 [str s] H = some (.tuple #[str (if (Tg.Ur.parse s).2 = 0 then Tg.Ur.text (Tg.Ur.parse s).1 else []), .int .i64 (Tg.Ur.parse s).2], H) := by
  refine LC_pure rfl Tryz.func26 rfl (Nat.le_of_ble_eq_true rfl) (by decide) (by kernel_rfl) rfl ?_
  have h := parse_cl (H := H) hs hm
  have h2 := text_cl (H := H.new (ub (Tg.Ur.parse s).1)) hu hm ht hi
  generalize Tg.Ur.parse s = x at *
  obtain ⟨u, e⟩ := x
  simp only at *
  by_cases he : e = 0
  · subst he
    simp [h, h2, le_refl.new]
  · simp [h, he, le_refl.new]
end
end Go.Proofs.YteckofomnhminaaGreatDoor
/-
  What the listed package variables, and the world's shape, give: the table of powers of ten, and the machine's number that the search in strings reads; an argument of the type api.Url.
-/
set_option linter.unusedSimpArgs false
set_option linter.unusedVariables false
set_option maxRecDepth 100000
namespace Go.Proofs.YteckofomnhminaaGreatDoor
open Go.ChangeShapes Go.WideShapes Go.ChangeAt Go.RowKit Go.Tg Go.Lg

noncomputable def laidU : List (String × DataW Unit) := [("math/bits.deBruijn32tab", Rows.laid_math_bits_deBruijn32tab), ("math/bits.deBruijn64tab", Rows.laid_math_bits_deBruijn64tab), ("internal/strconv.uint64pow10", Rows.laid_internal_strconv_uint64pow10), ("unicode/utf8.acceptRanges", Rows.laid_unicode_utf8_acceptRanges), ("unicode/utf8.first", Rows.laid_unicode_utf8_first)]
theorem gTabU : Tryz.prog.globalNamed "internal/strconv.uint64pow10" = some 3 := by kernel_rfl
theorem tab_of_laidU {W : World} (h : laidMetH Tryz.prog laidU W) : Lib.TabIs Tryz.prog W "internal/strconv.uint64pow10" .u64 Lib.pow10Tab := by
  have h1 : laidMet Tryz.prog laidU W := by rwa [MakeChecks.laidMetH_plain _ _ _ (by kernel_rfl)] at h
  have h2 := h1.filter (fun x => x.1 == "internal/strconv.uint64pow10")
  have e : laidU.filter (fun x => x.1 == "internal/strconv.uint64pow10") = [("internal/strconv.uint64pow10", Lib.tabData .u64 Lib.pow10Tab)] := by kernel_rfl
  rw [e] at h2
  exact Lib.tabIs_of_head (g := 3) (t := 153) (e := 94) (n := 20) gTabU (by kernel_rfl) (by kernel_rfl) (by kernel_rfl) (by kernel_rfl) (by kernel_rfl) h2
theorem sizeU {W : World} (h : laidMetH Tryz.prog laidU W) : 4 ≤ W.heap.size := by
  have h1 := tab_of_laidU h
  have := h1.cell gTabU 0 (by decide)
  rcases Nat.lt_or_ge 3 W.heap.size with h2 | h2
  · exact h2
  · simp [World.cell?, Array.getElem?_eq_none h2] at this
theorem tab10U {W : World} (h : laidMetH Tryz.prog laidU W) : Tab10 (LH.empty W 4) := ⟨by show 3 < 4; decide, tab_of_laidU h⟩
theorem maxU {W : World} (h : W.ShapedOpen Tryz.prog) : MaxL (LH.empty W 4) := by
  refine ⟨by show 0 < 4; decide, ?_⟩
  exact Go.Proofs.cell_of_shapedOpen_int (P := Tryz.prog) (w := W) (zero := #[.int .i64 0]) (t := 3) (g := 0) h (of_decide_eq_true (by kernel_rfl)) (by kernel_rfl) rfl (by kernel_rfl) (by kernel_rfl) Tryz.underlying3
theorem returns_and_shaped {H : Type} {enc : TypeId × Value → H} {a : Assume} {C : Checked} {os : Os} {f : FuncId} {fn : Func} {s : ChangeSpec} {conds : List PathCond} {apart fresh handsOn again : Bool} {X : World → Array Value → Prop}
    (hX : ∀ (w w' : World) (args : Array Value), w.heap = w'.heap → X w args → X w' args)
    (own : Go.ownKnob C.prog.godebug = none) (started : os.Started) (noInit : C.prog.inits.idxOf? f = none) (hfn : C.prog.funcs[f]? = some fn)
    (witness : ∃ (w : World) (tape : Tape) (i : Input), w.os = os ∧ (w.forCall tape i).Shaped C.prog ∧ i.vars = [] ∧ Input.okWide C.prog (w.forCall tape i) .any w.heap.size f i ∧
      ((s.pre enc C.prog fn conds apart (w.forCall tape i).memory i.args ∧ X (w.forCall tape i).memory i.args) ∧ sizedMet enc C.prog fn (OpenSpec.ofChange s) apart (w.forCall tape i).memory i.args) ∧ a.holds C.prog (lone (Frame.enter C.prog f i.args .normal) [] (w.forCall tape i)))
    (contract : ∀ (W : World) (base : Nat) (args : Array Value) (ds gs : List (DataW H)) (before : List MemPlace),
      (∀ (j : Nat) t v, fn.params[j]? = some t → args[j]? = some v → Value.okWide C.prog W .any base t v) →
      DataW.Whole enc C.prog fn.params.toList s.vars apart W args.toList ds gs before →
      X W args → W.ShapedOpen C.prog →
      Calls C.prog f args W fun e W' => ∃ v, e = .returned v ∧ s.post enc C.prog fn apart fresh handsOn again W args v W') :
    ReturnsInHanded a C os f .any (fun w args => (s.pre enc C.prog fn conds apart w args ∧ X w args) ∧ sizedMet enc C.prog fn (OpenSpec.ofChange s) apart w args) (s.post enc C.prog fn apart fresh handsOn again) := by
  refine returnsInHanded_of_calls own started noInit witness ?_
  intro w tape i _ hsh _ hok hpre hholds
  obtain ⟨_, _, _, fn', hfn', _, _, _, _, hval⟩ := hok
  have e : fn' = fn := Option.some.inj (hfn'.symm.trans hfn)
  subst e
  obtain ⟨⟨⟨ds, gs, before, hw, hc⟩, hx⟩, hz⟩ := hpre
  have hw' := DataW.Whole.of_heap (w' := w.forCall tape i) (by rfl) hw
  refine (contract (w.forCall tape i) w.heap.size i.args ds gs before hval hw' (hX _ _ _ (by rfl) hx) hsh).mono fun e W' ⟨v, he, hp⟩ => ?_
  subst he
  exact ChangeSpec.post_blind hp
theorem cells_url : Tryz.prog.cellsOf 44 = 5 := by kernel_rfl
theorem cells_ustr : Tryz.prog.cellsOf 9 = 1 := by kernel_rfl
theorem cells_uint : Tryz.prog.cellsOf 3 = 1 := by kernel_rfl
theorem open_url {H : Type} {enc : TypeId × Value → H} {W : World} {base b0 : Nat} {sp : Nat → Bool} {held : Bool} {r : Reach} {v : Value} {d : DataW H} {ps : List MemPlace}
    (hval : Value.okWide Tryz.prog W r b0 44 v) (hd : DataW.Trod enc Tryz.prog W base sp held 44 v d ps) :
    ∃ (s h : ByteArray) (n : Int) (p q : ByteArray), v = .agg #[.string s, .string h, .int .i64 n, .string p, .string q] ∧ (Lit.int .i64 n).wf = true := by
  obtain ⟨cs, rfl, hs⟩ := okWide_struct Tryz.underlying44 hval
  rw [cells_url] at hs
  obtain ⟨l⟩ := cs
  match l, hs with
  | [c0, c1, c2, c3, c4], _ =>
  obtain ⟨fuel, hf⟩ := hd
  cases fuel with
  | zero => simp [DataW.trod] at hf
  | succ n =>
    rw [DataW.trod_step] at hf
    unfold DataW.trodStep at hf
    simp only [Tryz.underlying44, Value.cells] at hf
    rw [if_pos (by rw [cells_url]; rfl)] at hf
    simp only [Option.map_eq_some_iff] at hf
    obtain ⟨xs, hx, e1⟩ := hf
    simp only [List.mapM_cons, List.mapM_nil, bind, Option.bind_eq_some_iff, pure, Option.some.injEq, cells_ustr, cells_uint] at hx
    obtain ⟨y0, h0, _, ⟨y1, h1, _, ⟨y2, h2, _, ⟨y3, h3, _, ⟨y4, h4, _, rfl, rfl⟩, rfl⟩, rfl⟩, rfl⟩, rfl⟩ := hx
    obtain ⟨s0, q0, _, _⟩ := DataW.trod_string Tryz.underlying9 h0
    obtain ⟨s1, q1, _, _⟩ := DataW.trod_string Tryz.underlying9 h1
    obtain ⟨k, ek, rfl, wk⟩ := DataW.trod_int Tryz.underlying3 h2
    obtain ⟨s3, q3, _, _⟩ := DataW.trod_string Tryz.underlying9 h3
    obtain ⟨s4, q4, _, _⟩ := DataW.trod_string Tryz.underlying9 h4
    simp at q0 q1 ek q3 q4
    subst q0; subst q1; subst ek; subst q3; subst q4
    exact ⟨s0, s1, k, s3, s4, rfl, wk⟩
end Go.Proofs.YteckofomnhminaaGreatDoor
/-
  Layer 26 (url): what the reference's small functions come to.
-/
set_option linter.unusedSimpArgs false
set_option linter.unusedVariables false
set_option maxRecDepth 100000
namespace Tg.Ur
def lowd : List UInt8 := [48, 49, 50, 51, 52, 53, 54, 55, 56, 57, 97, 98, 99, 100, 101, 102]
def hexAt (i : Nat) (b : UInt8) : Prop := lowd.getD i 0 = b ∨ hexd.getD i 0 = b
instance (i b) : Decidable (hexAt i b) := by unfold hexAt; infer_instance
theorem hx_lit : ∀ i : Fin 16, hx (lowd.getD i.1 0) = some i.1 ∧ hx (hexd.getD i.1 0) = some i.1 := by decide
theorem hx_of {i : Nat} {b : UInt8} (hi : i < 16) (h : hexAt i b) : hx b = some i := by
  rcases h with rfl | rfl
  · exact (hx_lit ⟨i, hi⟩).1
  · exact (hx_lit ⟨i, hi⟩).2
theorem hx_allF : ∀ k : Fin 256, match hx (UInt8.ofNat k.1) with | some n => hexAt n (UInt8.ofNat k.1) | Option.none => True := by
  have key : ∀ k : Fin 256, (match hx (UInt8.ofNat k.1) with | some n => decide (hexAt n (UInt8.ofNat k.1)) | Option.none => true) = true := by decide +kernel
  intro k
  have := key k
  split at this
  · simpa using this
  · trivial
theorem hx_none {b : UInt8} (h : ∀ j, j < 16 → ¬ hexAt j b) : hx b = Option.none := by
  have := hx_allF ⟨b.toNat, b.toNat_lt⟩
  simp only [UInt8.ofNat_toNat] at this
  cases hb : hx b with
  | none => rfl
  | some n =>
    rw [hb] at this
    exact absurd this (h n (hx_lt hb))
def hexI (b : UInt8) : Int := match hx b with | some n => (n : Int) | Option.none => -1
end Tg.Ur
namespace Go.Proofs.YteckofomnhminaaGreatDoor
open Go.Lg Go.Tg
section
variable {H : LH} {b : UInt8} {s p : List UInt8}
theorem tn_ne {c b : UInt8} (h : ¬ c = b) : ((c.toNat : Int) = (b.toNat : Int)) = False := eq_false (fun e => h (UInt8.toNat_inj.mp (by omega)))
theorem rdigit_cl : LC Tryz.prog EJ 91 [.int .u8 b.toNat] H = some (.bool (Tg.Ur.isD b), H) := by
  refine LC_pure rfl Tryz.func91 rfl (Nat.le_of_ble_eq_true rfl) (by decide) (by kernel_rfl) rfl ?_
  unfold Tg.Ur.isD
  by_cases h1 : (48 : Int) ≤ b.toNat <;> by_cases h2 : (b.toNat : Int) ≤ 57 <;> simp [h1, h2]
theorem rhas_cl (hs : s.length ≤ 1048576) : LC Tryz.prog EJ 76 [str s, .int .u8 b.toNat] H = some (.bool (s.contains b), H) := by
  refine LC_pure rfl Tryz.func76 rfl (Nat.le_of_ble_eq_true rfl) (by decide) (by kernel_rfl) rfl ?_
  obtain ⟨x, hx⟩ : ∃ x, x = s.contains b := ⟨_, rfl⟩
  rw [← hx]
  simp
  refine loop_ind (fun (i : Nat) fr' H' => fr' 0 = str s ∧ fr' 1 = .int .u8 b.toNat ∧ fr' 5 = .int .i64 i ∧ i ≤ s.length ∧ x = (s.drop i).contains b ∧ H' = H) (fun i => s.length - i) 0 ⟨by simp, by simp, by simp, Nat.zero_le _, hx, rfl⟩ ?_
  rintro i fr' H' ⟨h0, h1, h5, hi, hc, rfl⟩ ih
  by_cases hlt : i < s.length
  · have q := eq_true (show (i : Int) < (s.length : Int) by omega)
    have hat : at_ s (i : Int) = s[i] := at_in hlt
    have hw : IntKind.i64.wrap ((i : Int) + 1) = ((i + 1 : Nat) : Int) := by rw [wrapI (by omega) (by omega)]; omega
    rw [List.drop_eq_getElem_cons hlt, List.contains_cons] at hc
    generalize s[i] = c at *
    by_cases hcb : c = b
    · subst hcb
      have hc : x = true := by rw [hc]; simp
      subst hc
      simp [h0, h1, h5, q, hat]
    · have hbc : (b == c) = false := by simp; exact fun e => hcb e.symm
      rw [hbc, Bool.false_or] at hc
      have hcb := tn_ne hcb
      simp [h0, h1, h5, q, hat, hcb]
      refine ih (i + 1) _ _ (by omega) ⟨?_, ?_, ?_, by omega, hc, rfl⟩
      all_goals simp [h0, h1, hw]
  · have q := eq_false (show ¬ (i : Int) < (s.length : Int) by omega)
    rw [List.drop_of_length_le (by omega)] at hc
    have hc : x = false := hc
    subst hc
    simp [h0, h1, h5, q]
theorem rprefix_cl (hs : s.length ≤ 1048576) (hp : p.length ≤ 1048576) : LC Tryz.prog EJ 57 [str s, str p] H = some (.bool (decide (s.take p.length = p)), H) := by
  refine LC_pure rfl Tryz.func57 rfl (Nat.le_of_ble_eq_true rfl) (by decide) (by kernel_rfl) rfl ?_
  by_cases h : p.length ≤ s.length
  · have q := eq_true (show (p.length : Int) ≤ (s.length : Int) by omega)
    simp [q]
  · have q := eq_false (show ¬ (p.length : Int) ≤ (s.length : Int) by omega)
    have hne : ¬ s.take p.length = p := by
      intro e
      have := congrArg List.length e
      rw [List.length_take] at this; omega
    simp [q, hne]
theorem lowd_at {n : Nat} : at_ [48, 49, 50, 51, 52, 53, 54, 55, 56, 57, 97, 98, 99, 100, 101, 102] (n : Int) = Tg.Ur.lowd.getD n 0 := by
  unfold at_; rw [Int.toNat_natCast]; rfl
theorem rhex_cl : LC Tryz.prog EJ 90 [.int .u8 b.toNat] H = some (.int .i64 (Tg.Ur.hexI b), H) := by
  refine LC_pure rfl Tryz.func90 rfl (Nat.le_of_ble_eq_true rfl) (by decide) (by kernel_rfl) rfl ?_
  simp
  refine loop_ind (fun (i : Nat) fr' H' => fr' 0 = .int .u8 b.toNat ∧ fr' 3 = str [48, 49, 50, 51, 52, 53, 54, 55, 56, 57, 97, 98, 99, 100, 101, 102] ∧ fr' 4 = str [48, 49, 50, 51, 52, 53, 54, 55, 56, 57, 65, 66, 67, 68, 69, 70] ∧ fr' 5 = .int .i64 i ∧ i ≤ 16 ∧ (∀ j, j < i → ¬ Tg.Ur.hexAt j b) ∧ H' = H) (fun i => 16 - i) 0 ⟨by simp, by simp, by simp, by simp, by omega, fun j hj => by omega, rfl⟩ ?_
  rintro i fr' H' ⟨h0, h3, h4, h5, hi, hn, rfl⟩ ih
  by_cases hlt : i < 16
  · have q := eq_true (show (i : Int) < 16 by omega)
    have hw : IntKind.i64.wrap ((i : Int) + 1) = ((i + 1 : Nat) : Int) := by rw [wrapI (by omega) (by omega)]; omega
    have g1 := lowd_at (n := i)
    have g2 := hexd_at (n := i)
    by_cases hx : Tg.Ur.hexAt i b
    · have hv : Tg.Ur.hexI b = (i : Int) := by unfold Tg.Ur.hexI; rw [Tg.Ur.hx_of hlt hx]
      rw [hv]
      unfold Tg.Ur.hexAt at hx
      unfold Tg.Ur.hd16 at g2
      generalize Tg.Ur.lowd.getD i 0 = c1 at *
      generalize Tg.Ur.hexd.getD i 0 = c2 at *
      by_cases e1 : c1 = b
      · subst e1
        simp [h0, h3, h4, h5, q, g1]
      · have e2 : c2 = b := by rcases hx with hx | hx; exact absurd hx e1; exact hx
        subst e2
        have e1 := tn_ne e1
        simp [h0, h3, h4, h5, q, g1, g2, e1]
    · have hn2 : ∀ j, j < i + 1 → ¬ Tg.Ur.hexAt j b := by
        intro j hj
        rcases Nat.lt_or_ge j i with hji | hji
        · exact hn j hji
        · have : j = i := by omega
          subst this; exact hx
      unfold Tg.Ur.hexAt at hx
      unfold Tg.Ur.hd16 at g2
      generalize Tg.Ur.lowd.getD i 0 = c1 at *
      generalize Tg.Ur.hexd.getD i 0 = c2 at *
      have e1 : ¬ c1 = b := fun e => hx (.inl e)
      have e2 : ¬ c2 = b := fun e => hx (.inr e)
      have e1 := tn_ne e1
      have e2 := tn_ne e2
      simp [h0, h3, h4, h5, q, g1, g2, e1, e2]
      refine ih (i + 1) _ _ (by omega) ⟨?_, ?_, ?_, ?_, by omega, hn2, rfl⟩
      all_goals simp [h0, h3, h4, hw]
  · have q := eq_false (show ¬ (i : Int) < 16 by omega)
    have hv : Tg.Ur.hexI b = -1 := by unfold Tg.Ur.hexI; rw [Tg.Ur.hx_none (fun j hj => hn j (by omega))]
    rw [hv]
    simp [h0, h3, h4, h5, q]
end
end Go.Proofs.YteckofomnhminaaGreatDoor
/-
  Layer 26 (url): what the reference's functions come to: letters, places of bytes, points, names.
-/
set_option linter.unusedSimpArgs false
set_option linter.unusedVariables false
set_option maxRecDepth 100000
namespace Go.Proofs.YteckofomnhminaaGreatDoor
open Go.Lg Go.Tg
section
variable {H : LH} {b : UInt8} {s p : List UInt8} {u : Tg.Ur.Url}
theorem rown_cl : LC Tryz.prog EJ 61 [str s] H = some (.int .i64 (Tg.Ur.own s), H) := by
  refine LC_pure rfl Tryz.func61 rfl (Nat.le_of_ble_eq_true rfl) (by decide) (by kernel_rfl) rfl ?_
  unfold Tg.Ur.own
  by_cases h1 : s = [104, 116, 116, 112]
  · subst h1; simp
  by_cases h2 : s = [119, 115]
  · subst h2; simp
  by_cases h3 : s = [104, 116, 116, 112, 115]
  · subst h3; simp
  by_cases h4 : s = [119, 115, 115]
  · subst h4; simp
  simp [h1, h2, h3, h4]
theorem rport_cl : LC Tryz.prog EJ 36 [uv u] H = some (.int .i64 (Tg.Ur.port u), H) := by
  refine LC_pure rfl Tryz.func36 rfl (Nat.le_of_ble_eq_true rfl) (by decide) (by kernel_rfl) rfl ?_
  have ho := fun H : LH => rown_cl (H := H) (s := u.scheme)
  unfold Tg.Ur.port
  by_cases h0 : Tg.Ur.own u.scheme = 0
  · simp [ho, h0, le_refl.new]
  · by_cases h1 : u.port = 0
    · simp [ho, h0, h1, le_refl.new]
    · simp [ho, h0, h1, le_refl.new]
theorem rfree_cl (hs : s.length ≤ 1048576) (hp : p.length ≤ 1048576) : LC Tryz.prog EJ 66 [str s, str p] H = some (.bool (Tg.Ur.free p s), H) := by
  refine LC_pure rfl Tryz.func66 rfl (Nat.le_of_ble_eq_true rfl) (by decide) (by kernel_rfl) rfl ?_
  have hh := fun (H : LH) (b : UInt8) => rhas_cl (H := H) (s := p) (b := b) hp
  obtain ⟨x, hx⟩ : ∃ x, x = Tg.Ur.free p s := ⟨_, rfl⟩
  rw [← hx]
  simp
  refine loop_ind (fun (i : Nat) fr' H' => fr' 0 = str s ∧ fr' 1 = str p ∧ fr' 5 = .int .i64 i ∧ i ≤ s.length ∧ x = Tg.Ur.free p (s.drop i) ∧ H' = H) (fun i => s.length - i) 0 ⟨by simp, by simp, by simp, Nat.zero_le _, hx, rfl⟩ ?_
  rintro i fr' H' ⟨h0, h1, h5, hi, hc, rfl⟩ ih
  by_cases hlt : i < s.length
  · have q := eq_true (show (i : Int) < (s.length : Int) by omega)
    have hat : at_ s (i : Int) = s[i] := at_in hlt
    have hw : IntKind.i64.wrap ((i : Int) + 1) = ((i + 1 : Nat) : Int) := by rw [wrapI (by omega) (by omega)]; omega
    rw [List.drop_eq_getElem_cons hlt] at hc
    have hh := fun H => hh H s[i]
    generalize s[i] = c at *
    unfold Tg.Ur.free at hc
    rw [List.all_cons] at hc
    generalize p.contains c = y at *
    cases y with
    | true =>
      have hc : x = false := by rw [hc]; rfl
      subst hc
      simp [h0, h1, h5, q, hat, hh]
    | false =>
      simp [h0, h1, h5, q, hat, hh]
      refine ih (i + 1) _ _ (by omega) ⟨?_, ?_, ?_, by omega, by rw [hc]; rfl, rfl⟩
      all_goals simp [h0, h1, hw]
  · have q := eq_false (show ¬ (i : Int) < (s.length : Int) by omega)
    rw [List.drop_of_length_le (by omega)] at hc
    have hc : x = true := hc
    subst hc
    simp [h0, h1, h5, q]
theorem rupto_cl (hs : s.length ≤ 1048576) (hp : p.length ≤ 1048576) : LC Tryz.prog EJ 56 [str s, str p] H = some (.int .i64 (Tg.Ur.upto p s : Nat), H) := by
  refine LC_pure rfl Tryz.func56 rfl (Nat.le_of_ble_eq_true rfl) (by decide) (by kernel_rfl) rfl ?_
  have hh := fun (H : LH) (b : UInt8) => rhas_cl (H := H) (s := p) (b := b) hp
  obtain ⟨x, hx⟩ : ∃ x, x = Tg.Ur.upto p s := ⟨_, rfl⟩
  rw [← hx]
  simp
  refine loop_ind (fun (i : Nat) fr' H' => fr' 0 = str s ∧ fr' 1 = str p ∧ fr' 5 = .int .i64 i ∧ i ≤ s.length ∧ x = i + Tg.Ur.upto p (s.drop i) ∧ H' = H) (fun i => s.length - i) 0 ⟨by simp, by simp, by simp, Nat.zero_le _, by rw [hx]; simp, rfl⟩ ?_
  rintro i fr' H' ⟨h0, h1, h5, hi, hc, rfl⟩ ih
  by_cases hlt : i < s.length
  · have q := eq_true (show (i : Int) < (s.length : Int) by omega)
    have hat : at_ s (i : Int) = s[i] := at_in hlt
    have hw : IntKind.i64.wrap ((i : Int) + 1) = ((i + 1 : Nat) : Int) := by rw [wrapI (by omega) (by omega)]; omega
    rw [List.drop_eq_getElem_cons hlt] at hc
    have hh := fun H => hh H s[i]
    generalize s[i] = c at *
    unfold Tg.Ur.upto at hc
    rw [List.takeWhile_cons] at hc
    generalize p.contains c = y at *
    cases y with
    | true =>
      have hc : x = i := by rw [hc]; simp
      subst hc
      simp [h0, h1, h5, q, hat, hh]
    | false =>
      simp [h0, h1, h5, q, hat, hh]
      refine ih (i + 1) _ _ (by omega) ⟨?_, ?_, ?_, by omega, by rw [hc]; simp [Tg.Ur.upto]; omega, rfl⟩
      all_goals simp [h0, h1, hw]
  · have q := eq_false (show ¬ (i : Int) < (s.length : Int) by omega)
    rw [List.drop_of_length_le (by omega)] at hc
    have hc : x = i := by rw [hc]; simp [Tg.Ur.upto]
    subst hc
    have hxs : x = s.length := by omega
    simp [h0, h1, h5, q, hxs]
theorem row_str {N : Nat} {v : Value} {l : List UInt8} (h : RowN N H 5 1 v l.length (l.map bv)) (hv : v ≠ .slice none 0 0) : ∃ k c, v = sl k l.length c ∧ lconv Tryz.prog 81 9 (sl k l.length c) H = some (str l) := by
  rcases h.2 with ⟨e, h0⟩ | ⟨k, c, rest, e, g1, g2, g3, g4, g5⟩
  · exact absurd e hv
  · refine ⟨k, c, e, lconv_bs (e := 5) Tryz.underlying81 Tryz.underlying9 Tryz.underlying5 g3 (by simp) ?_⟩
    have : ((l.map bv ++ rest).drop 0).take l.length = l.map bv := by simp
    rw [this]; exact lbs_map l
theorem byte_app {v : Value} {N : Nat} {l : List UInt8} {x : UInt8} (h : RowN N H 5 1 v l.length (l.map bv)) (hN : N ≤ H.n) (hl : l.length ≤ 1000000) :
    ∃ v' H2, lapp Tryz.prog 81 v (some (1, [.int .u8 x.toNat])) (H.new ⟨[.int .u8 x.toNat], 5, true⟩) = some (v', H2) ∧ RowN N H2 5 1 v' (l ++ [x]).length ((l ++ [x]).map bv) ∧ N ≤ H2.n ∧ ∀ k, k < N → H2.get k = H.get k := by
  have h2 : RowN N (H.new ⟨[.int .u8 x.toNat], 5, true⟩) 5 1 v l.length (l.map bv) := h.keep (Nat.le_succ _) (fun k _ _ hk => get_new_ne (by omega))
  obtain ⟨v', H2, ha, hr, hk, _⟩ := h2.app (t := 81) (new := [x].map bv) (m := 1) Tryz.underlying81 (by kernel_rfl) (bv_cells [x]) (by simp) (by unfold maxElems; omega) (by rw [n_new]; omega) (.inl (Nat.le_refl 1))
  refine ⟨v', H2, ha, by rw [List.length_append, List.map_append]; exact hr, Nat.le_trans (by rw [n_new]; omega) hk.le, fun k hkn => ?_⟩
  rw [hk.get k (by rw [n_new]; omega) (h.off_lt hkn), get_new_ne (by omega)]
theorem bs0 : lbuildSlice Tryz.prog 81 0 [] H = some (sl H.n 0 0, H.new ⟨[], 5, true⟩) := lbs_dense (z := .int .u8 0) Tryz.underlying81 (by kernel_rfl) (by kernel_rfl) rfl rfl rfl (by decide) rfl
theorem rlower_cl (hs : s.length ≤ 1000000) : LC Tryz.prog EJ 51 [str s] H = some (str (Tg.Lo.lower s), H) := by
  refine LC_pure rfl Tryz.func51 rfl (Nat.le_of_ble_eq_true rfl) (by decide) (by kernel_rfl) rfl ?_
  simp [bs0]
  refine loop_ind (fun (i : Nat) fr' H' => fr' 0 = str s ∧ fr' 4 = .int .i64 i ∧ i ≤ s.length ∧ (∃ v, fr' 3 = v ∧ v ≠ .slice none 0 0 ∧ RowN H.n H' 5 1 v (Tg.Lo.lower (s.take i)).length ((Tg.Lo.lower (s.take i)).map bv)) ∧ H.n ≤ H'.n ∧ ∀ k, k < H.n → H'.get k = H.get k) (fun i => s.length - i) 0 ⟨by simp, by simp, Nat.zero_le _, ⟨sl H.n 0 0, by simp, (by intro e; cases e), ?_⟩, by simp, fun k hk => get_new_ne (by omega)⟩ ?_
  · exact ⟨by simp [Tg.Lo.lower], .inr ⟨H.n, 0, [], by simp [Tg.Lo.lower], Nat.le_refl _, by simp, by simp [Tg.Lo.lower], by simp [Tg.Lo.lower], by simp [Tg.Lo.lower]⟩⟩
  rintro i fr' H' ⟨h0, h4, hi, ⟨v, h3, hne, hr⟩, hn, hk⟩ ih
  by_cases hlt : i < s.length
  · have q := eq_true (show (i : Int) < (s.length : Int) by omega)
    have hat : at_ s (i : Int) = s[i] := at_in hlt
    have hw : IntKind.i64.wrap ((i : Int) + 1) = ((i + 1 : Nat) : Int) := by rw [wrapI (by omega) (by omega)]; omega
    have hll : (Tg.Lo.lower (s.take i)).length ≤ 1000000 := by simp [Tg.Lo.lower]; omega
    have hnew : Tg.Lo.lower (s.take (i + 1)) = Tg.Lo.lower (s.take i) ++ [Tg.Lo.low s[i]] := by
      have e : s.take (i + 1) = s.take i ++ [s[i]] := List.take_succ_eq_append_getElem hlt
      unfold Tg.Lo.lower; rw [e, List.map_append]; rfl
    generalize s[i] = c at *
    have hlt8 := c.toNat_lt
    have e8 : (c + 32).toNat = (c.toNat + 32) % 256 := by rw [UInt8.toNat_add]; rfl
    have hw8 : IntKind.u8.wrap ((c.toNat : Int) + 32) = ((c + 32).toNat : Int) := by rw [wrap8, e8]; omega
    obtain ⟨v2, H2, a1, a2, a3, a4⟩ := byte_app (x := Tg.Lo.low c) hr hn hll
    have hne2 : v2 ≠ .slice none 0 0 := by
      rcases a2.2 with ⟨_, e⟩ | ⟨k, c2, rest, e, _⟩
      · simp at e
      · rw [e]; intro e2; cases e2
    rw [← hnew] at a2
    have hfin := fun fr2 (g0 : fr2 0 = str s) (g4 : fr2 4 = .int .i64 ((i + 1 : Nat) : Int)) (g3 : fr2 3 = v2) => ih (i + 1) fr2 H2 (by omega) ⟨g0, g4, by omega, ⟨v2, g3, hne2, a2⟩, a3, fun k hk2 => by rw [a4 k hk2, hk k hk2]⟩
    clear ih
    unfold Tg.Lo.low at a1
    by_cases h1 : (65 : Int) ≤ c.toNat
    · by_cases h2 : (c.toNat : Int) ≤ 90
      · rw [if_pos ⟨h1, h2⟩] at a1
        clear e8
        generalize c + 32 = c2 at *
        have q1 := eq_true h1
        have q2 := eq_true h2
        simp [h0, h3, h4, q, hat, q1, q2, hw8, a1]
        refine hfin _ ?_ ?_ ?_
        all_goals simp [h0, hw]
      · rw [if_neg (fun h => h2 h.2)] at a1
        have q1 := eq_true h1
        have q2 := eq_false h2
        simp [h0, h3, h4, q, hat, q1, q2, a1]
        refine hfin _ ?_ ?_ ?_
        all_goals simp [h0, hw]
    · rw [if_neg (fun h => h1 h.1)] at a1
      have q1 := eq_false h1
      simp [h0, h3, h4, q, hat, q1, a1]
      refine hfin _ ?_ ?_ ?_
      all_goals simp [h0, hw]
  · have q := eq_false (show ¬ (i : Int) < (s.length : Int) by omega)
    rw [List.take_of_length_le (by omega)] at hr
    obtain ⟨k, c, hv, hc⟩ := row_str hr hne
    subst hv
    simp [h0, h3, h4, q, hc]
    exact ⟨hn, hk⟩
theorem rpoints_cl (hs : s.length ≤ 1000000) : LC Tryz.prog EJ 89 [str s] H = some (.int .i64 (Tg.Ur.pts s 0 : Nat), H) := by
  refine LC_pure rfl Tryz.func89 rfl (Nat.le_of_ble_eq_true rfl) (by decide) (by kernel_rfl) rfl ?_
  simp
  refine loop_ind (fun (u : List UInt8) fr' H' => fr' 0 = str u ∧ (∃ n : Nat, fr' 3 = .int .i64 n ∧ Tg.Ur.pts s 0 = Tg.Ur.pts u n ∧ n + u.length ≤ 1048576) ∧ H' = H) (fun u => u.length) s ⟨by simp, ⟨0, by simp, rfl, by omega⟩, rfl⟩ ?_
  rintro u fr' H' ⟨h0, ⟨n, h3, hp, hl⟩, rfl⟩ ih
  cases u with
  | nil =>
    rw [Tg.Ur.pts_nil] at hp
    simp [h0, h3, hp]
  | cons c r =>
    have hat : at_ (c :: r) 0 = c := rfl
    have hw : IntKind.i64.wrap ((n : Int) + 1) = ((n + 1 : Nat) : Int) := by rw [wrapI (by simp at hl; omega) (by simp at hl; omega)]; omega
    have hlo : ∀ H : LH, LC Tryz.prog EJ 51 [str (c :: r.take 2)] H = some (str (Tg.Lo.lower ((c :: r).take 3)), H) := fun H => rlower_cl (H := H) (s := (c :: r).take 3) (by rw [List.length_take]; omega)
    have q0 := eq_true (show (0 : Int) < (r.length : Int) + 1 by omega)
    have q1 := eq_true (show (1 : Int) ≤ (r.length : Int) + 1 by omega)
    by_cases h46 : c = 46
    · subst h46
      rw [Tg.Ur.pts_dot] at hp
      have hne : Tg.Lo.lower ((46 :: r).take 3) ≠ [37, 50, 101] := by
        intro e; simp [Tg.Lo.lower, Tg.Lo.low] at e
      have hfin := fun fr2 (g0 : fr2 0 = str r) (g3 : fr2 3 = .int .i64 ((n + 1 : Nat) : Int)) => ih r fr2 H' (by simp) ⟨g0, ⟨n + 1, g3, hp, by simp at hl; omega⟩, rfl⟩
      clear ih
      by_cases h2 : (2 : Int) < (r.length : Int) + 1
      · have q2 := eq_true h2
        have q3 := eq_true (show (3 : Int) ≤ (r.length : Int) + 1 by omega)
        generalize Tg.Lo.lower ((46 :: r).take 3) = x at *
        simp [h0, h3, hat, q0, q1, q2, q3, hlo, hne]
        refine hfin _ ?_ ?_
        all_goals simp [hw]
      · have q2 := eq_false h2
        simp [h0, h3, hat, q0, q1, q2]
        refine hfin _ ?_ ?_
        all_goals simp [hw]
    · rw [Tg.Ur.pts_cons c r n h46] at hp
      by_cases h2 : (2 : Int) < (r.length : Int) + 1
      · have q2 := eq_true h2
        have q3 := eq_true (show (3 : Int) ≤ (r.length : Int) + 1 by omega)
        have hdd : (c :: r).drop 3 = r.drop 2 := rfl
        generalize Tg.Lo.lower ((c :: r).take 3) = x at *
        by_cases hx : x = [37, 50, 101]
        · rw [if_pos hx] at hp
          subst hx
          simp [h0, h3, hat, q0, q1, q2, q3, hlo]
          refine ih (r.drop 2) _ _ (by simp; omega) ⟨?_, ⟨n + 1, ?_, hp, by simp at hl ⊢; omega⟩, rfl⟩
          all_goals simp [hw]
        · rw [if_neg hx] at hp
          simp [h0, h3, hat, q0, q1, q2, q3, hlo, hx, h46, hp]
      · have q2 := eq_false h2
        have hne : Tg.Lo.lower ((c :: r).take 3) ≠ [37, 50, 101] := by
          intro e
          have := congrArg List.length e
          simp [Tg.Lo.lower] at this; omega
        rw [if_neg hne] at hp
        simp [h0, h3, hat, q0, q1, q2, h46, hp]
end
end Go.Proofs.YteckofomnhminaaGreatDoor
/-
  Layer 26 (url): what the reference's functions come to: texts quoted.
-/
set_option linter.unusedSimpArgs false
set_option linter.unusedVariables false
set_option maxRecDepth 100000
namespace Go.Proofs.YteckofomnhminaaGreatDoor
open Go.Lg Go.Tg
section
variable {H : LH} {b : UInt8} {s p : List UInt8}
theorem part1 {s : List UInt8} {i : Nat} {k : IntKind} (hi : i < s.length) : lpart Tryz.prog 9 (str s) (some (.int k i)) (some (.int k ((i : Int) + 1))) = some (str [s[i]]) := by
  rw [lpart_str0 (u := none) (p := i) (q := i + 1) Tryz.underlying9 (by simp [lbd]) (by simp only [lbd]; rw [if_pos (by omega)]; rfl) (by omega)]
  rw [List.take_succ_eq_append_getElem hi, List.drop_left' (by rw [List.length_take]; omega)]
theorem hexd1 {n : Nat} {k : IntKind} (hn : n < 16) : lpart Tryz.prog 9 (str [48, 49, 50, 51, 52, 53, 54, 55, 56, 57, 65, 66, 67, 68, 69, 70]) (some (.int k n)) (some (.int k ((n : Int) + 1))) = some (str [Tg.Ur.hd16 n]) := by
  rw [part1 (by simpa using hn)]
  unfold Tg.Ur.hd16
  rw [List.getD_eq_getElem?_getD]
  show _ = some (str [(Tg.Ur.hexd[n]?).getD 0])
  rw [List.getElem?_eq_getElem (by simpa [Tg.Ur.hexd] using hn)]
  rfl
theorem rquote_cl (hs : s.length ≤ 300000) : LC Tryz.prog EJ 59 [str s] H = some (str (Tg.Ur.qt s), H) := by
  refine LC_pure rfl Tryz.func59 rfl (Nat.le_of_ble_eq_true rfl) (by decide) (by kernel_rfl) rfl ?_
  obtain ⟨z, hz⟩ : ∃ z, z = Tg.Ur.qt s := ⟨_, rfl⟩
  rw [← hz]
  simp
  refine loop_ind (fun (i : Nat) fr' H' => fr' 0 = str s ∧ fr' 4 = str [48, 49, 50, 51, 52, 53, 54, 55, 56, 57, 65, 66, 67, 68, 69, 70] ∧ fr' 5 = .int .i64 i ∧ i ≤ s.length ∧ (∃ l, fr' 3 = str l ∧ z = l ++ Tg.Ur.qt (s.drop i) ∧ l.length ≤ 3 * i) ∧ H' = H) (fun i => s.length - i) 0 ⟨by simp, by simp, by simp, Nat.zero_le _, ⟨[], by simp, by rw [hz]; simp, by simp⟩, rfl⟩ ?_
  rintro i fr' H' ⟨h0, h4, h5, hi, ⟨l, h3, hq, hl⟩, rfl⟩ ih
  by_cases hlt : i < s.length
  · have q0 := eq_true (show (i : Int) < (s.length : Int) by omega)
    have hd : s.drop i = s[i] :: s.drop (i + 1) := List.drop_eq_getElem_cons hlt
    have hat : at_ s (i : Int) = s[i] := at_in hlt
    have hw1 : IntKind.i64.wrap ((i : Int) + 1) = (i : Int) + 1 := wrapI (by omega) (by omega)
    have hw2 : IntKind.i64.wrap ((i : Int) + 2) = (i : Int) + 2 := wrapI (by omega) (by omega)
    have hw3 : IntKind.i64.wrap ((i : Int) + 2 + 1) = (i : Int) + 3 := by rw [wrapI (by omega) (by omega)]; omega
    have hp1 := part1 (k := .i64) hlt
    have cat := fun (x y : List UInt8) (hh : x.length + y.length ≤ 9000000) => lbin_cat (P := Tryz.prog) (t := 9) (x := x) (y := y) (by omega)
    have hx := fun (H : LH) (b : UInt8) => rhex_cl (H := H) (b := b)
    have hh := fun (H : LH) (b : UInt8) => rhas_cl (H := H) (s := [34, 60, 62, 96]) (b := b) (by decide)
    have hbyte : Tg.Ur.esc (s.drop i) = none → ∀ (w : List UInt8), w = (if Tg.Ur.okB s[i] then [s[i]] else Tg.Ur.pct s[i]) → z = (l ++ w) ++ Tg.Ur.qt (s.drop (i + 1)) ∧ (l ++ w).length ≤ 3 * (i + 1) := by
      intro he w hw
      rw [hd] at he hq
      rw [qt_byte he, ← hw] at hq
      refine ⟨by rw [hq, List.append_assoc], ?_⟩
      rw [List.length_append, hw]
      have : (if Tg.Ur.okB s[i] then [s[i]] else Tg.Ur.pct s[i]).length ≤ 3 := by split <;> simp [Tg.Ur.pct]
      omega
    have h1fin := fun fr2 (w : List UInt8) (g0 : fr2 0 = str s) (g4 : fr2 4 = str [48, 49, 50, 51, 52, 53, 54, 55, 56, 57, 65, 66, 67, 68, 69, 70]) (g5 : fr2 5 = .int .i64 ((i : Int) + 1)) (g3 : fr2 3 = str (l ++ w)) (he : Tg.Ur.esc (s.drop i) = none) (hw : w = (if Tg.Ur.okB s[i] then [s[i]] else Tg.Ur.pct s[i])) => ih (i + 1) fr2 H' (by omega) ⟨g0, g4, by rw [g5]; rfl, by omega, ⟨l ++ w, g3, (hbyte he w hw).1, (hbyte he w hw).2⟩, rfl⟩
    by_cases hc : s[i] = 37
    · have hok : Tg.Ur.okB s[i] = true := by rw [hc]; decide
      rw [if_pos hok] at h1fin
      have c1 := cat l [s[i]] (by simp; omega)
      have q6 := eq_true (show (i : Int) + 1 ≤ (s.length : Int) by omega)
      have hh : ∀ H : LH, LC Tryz.prog EJ 76 [str [34, 60, 62, 96], .int .u8 37] H = some (.bool false, H) := fun H => hh H 37
      rw [hc] at hat hd c1 h1fin hp1
      by_cases h2 : i + 2 < s.length
      · have q2 := eq_true (show (i : Int) + 2 < (s.length : Int) by omega)
        have q3 := eq_true (show (i : Int) + 1 < (s.length : Int) by omega)
        have a1 : at_ s ((i : Int) + 1) = s[i + 1] := at_in (i := i + 1) (by omega)
        have a2 : at_ s ((i : Int) + 2) = s[i + 2] := at_in (i := i + 2) h2
        have q4 := eq_true (show (0 : Int) ≤ (i : Int) + 1 by omega)
        have q5 := eq_true (show (0 : Int) ≤ (i : Int) + 2 by omega)
        have hx1 := fun H => hx H s[i + 1]
        have hx2 := fun H => hx H s[i + 2]
        have hd3 : s.drop i = 37 :: s[i + 1] :: s[i + 2] :: s.drop (i + 3) := by
          rw [hd, List.drop_eq_getElem_cons (by omega), List.drop_eq_getElem_cons (by omega)]
        have hesc : Tg.Ur.esc (s.drop i) = match Tg.Ur.hx s[i + 1], Tg.Ur.hx s[i + 2] with
          | some a, some b => some [37, Tg.Ur.hd16 a, Tg.Ur.hd16 b]
          | _, _ => none := by rw [hd3]; rfl
        unfold Tg.Ur.hexI at hx1 hx2
        cases e1 : Tg.Ur.hx s[i + 1] with
        | none =>
          rw [e1] at hesc hx1
          simp [h0, h3, h4, h5, q0, hat, hw1, hw2, q2, q3, q4, q5, q6, a1, hx1, hh, hp1, c1]
          refine h1fin _ [37] ?_ ?_ ?_ ?_ hesc rfl
          all_goals simp [h0, h4, hw1]
        | some a =>
          cases e2 : Tg.Ur.hx s[i + 2] with
          | none =>
            rw [e1, e2] at hesc
            rw [e1] at hx1
            rw [e2] at hx2
            simp [h0, h3, h4, h5, q0, hat, hw1, hw2, q2, q3, q4, q5, q6, a1, a2, hx1, hx2, hh, hp1, c1]
            refine h1fin _ [37] ?_ ?_ ?_ ?_ hesc rfl
            all_goals simp [h0, h4, hw1]
          | some c =>
            rw [e1, e2] at hesc
            rw [e1] at hx1
            rw [e2] at hx2
            have hq3 := qt_esc hesc
            rw [hq3, List.drop_drop] at hq
            have b1 := Tg.Ur.hx_lt e1
            have b2 := Tg.Ur.hx_lt e2
            have k1 := hexd1 (k := .i64) b1
            have k2 := hexd1 (k := .i64) b2
            have wa : IntKind.i64.wrap ((a : Int) + 1) = (a : Int) + 1 := wrapI (by omega) (by omega)
            have wc : IntKind.i64.wrap ((c : Int) + 1) = (c : Int) + 1 := wrapI (by omega) (by omega)
            have d1 := cat l [37] (by simp; omega)
            have d2 := cat (l ++ [37]) [Tg.Ur.hd16 a] (by simp; omega)
            have d3 := cat (l ++ [37, Tg.Ur.hd16 a]) [Tg.Ur.hd16 c] (by simp; omega)
            simp only [List.append_assoc, List.cons_append, List.nil_append] at d2 d3
            have h3fin := fun fr2 (g0 : fr2 0 = str s) (g4 : fr2 4 = str [48, 49, 50, 51, 52, 53, 54, 55, 56, 57, 65, 66, 67, 68, 69, 70]) (g5 : fr2 5 = .int .i64 ((i : Int) + 3)) (g3 : fr2 3 = str (l ++ [37, Tg.Ur.hd16 a, Tg.Ur.hd16 c])) => ih (i + 3) fr2 H' (by omega) ⟨g0, g4, by rw [g5]; rfl, by omega, ⟨_, g3, by rw [hq, List.append_assoc], by rw [List.length_append]; simp; omega⟩, rfl⟩
            simp [h0, h3, h4, h5, q0, hat, hw1, hw2, q2, q3, q4, q5, q6, a1, a2, hx1, hx2, wa, wc, k1, k2, d1, d2, d3]
            refine h3fin _ ?_ ?_ ?_ ?_
            all_goals simp [h0, h4, hw3]
      · have q2 := eq_false (show ¬ (i : Int) + 2 < (s.length : Int) by omega)
        have hesc : Tg.Ur.esc (s.drop i) = none := by
          have hl3 : (s.drop i).length ≤ 2 := by rw [List.length_drop]; omega
          generalize s.drop i = u at *
          unfold Tg.Ur.esc
          split
          · simp at hl3
          · rfl
        simp [h0, h3, h4, h5, q0, hat, hw1, hw2, q2, q6, hh, hp1, c1]
        refine h1fin _ [37] ?_ ?_ ?_ ?_ hesc rfl
        all_goals simp [h0, h4, hw1]
    · have hesc : Tg.Ur.esc (s.drop i) = none := by
        rw [hd]
        unfold Tg.Ur.esc
        split
        · rename_i e; injection e with e; exact absurd e hc
        · rfl
      have hokb : Tg.Ur.okB s[i] = (!(decide ((s[i].toNat : Int) < 33) || decide (126 < (s[i].toNat : Int)) || ([34, 60, 62, 96] : List UInt8).contains s[i])) := by
        unfold Tg.Ur.okB
        by_cases u1 : (32 : Int) < s[i].toNat
        · rw [decide_eq_true u1, decide_eq_false (show ¬ (s[i].toNat : Int) < 33 by omega)]
          by_cases u2 : (s[i].toNat : Int) ≤ 126
          · rw [decide_eq_true u2, decide_eq_false (show ¬ (126 : Int) < s[i].toNat by omega)]; simp
          · rw [decide_eq_false u2, decide_eq_true (show (126 : Int) < s[i].toNat by omega)]; simp
        · rw [decide_eq_false u1, decide_eq_true (show (s[i].toNat : Int) < 33 by omega)]; simp
      have hh := fun H => hh H s[i]
      have q6 := eq_true (show (i : Int) + 1 ≤ (s.length : Int) by omega)
      have c1 := cat l [s[i]] (by simp; omega)
      have hcn := eq_false hc
      obtain ⟨e1, e2, e3, e4⟩ := nib s[i]
      clear hd hbyte ih hq
      generalize s[i] = c at *
      have k1 := hexd1 (k := .u8) e3
      have k2 := hexd1 (k := .u8) e4
      have hpct : Tg.Ur.pct c = [37, Tg.Ur.hd16 (c.toNat / 16), Tg.Ur.hd16 (c.toNat % 16)] := rfl
      have d1 := cat l [37] (by simp; omega)
      have d2 := cat (l ++ [37]) [Tg.Ur.hd16 (c.toNat / 16)] (by simp; omega)
      have d3 := cat (l ++ [37, Tg.Ur.hd16 (c.toNat / 16)]) [Tg.Ur.hd16 (c.toNat % 16)] (by simp; omega)
      simp only [List.append_assoc, List.cons_append, List.nil_append] at d2 d3
      have v1 : (c.toNat : Int).tdiv 16 = ((c.toNat / 16 : Nat) : Int) := rfl
      have v2 : (c.toNat : Int).tmod 16 = ((c.toNat % 16 : Nat) : Int) := rfl
      have w1 : IntKind.u8.wrap ((c.toNat / 16 : Nat) : Int) = ((c.toNat / 16 : Nat) : Int) := by rw [IntKind.wrap_u8]; omega
      have w2 : IntKind.u8.wrap ((c.toNat % 16 : Nat) : Int) = ((c.toNat % 16 : Nat) : Int) := by rw [IntKind.wrap_u8]; omega
      have w3 : IntKind.u8.wrap (((c.toNat / 16 : Nat) : Int) + 1) = ((c.toNat / 16 : Nat) : Int) + 1 := by rw [IntKind.wrap_u8]; omega
      have w4 : IntKind.u8.wrap (((c.toNat % 16 : Nat) : Int) + 1) = ((c.toNat % 16 : Nat) : Int) + 1 := by rw [IntKind.wrap_u8]; omega
      clear e1 e2
      generalize c.toNat / 16 = m1 at *
      generalize c.toNat % 16 = m2 at *
      generalize ([34, 60, 62, 96] : List UInt8).contains c = y at *
      rw [hokb, hpct] at h1fin
      clear hokb hpct
      by_cases n1 : (c.toNat : Int) < 33
      · rw [decide_eq_true n1] at h1fin
        have n1 := eq_true n1
        simp [h0, h3, h4, h5, q0, hat, hcn, n1, v1, v2, w1, w2, w3, w4, k1, k2, d1, d2, d3]
        refine h1fin _ [37, Tg.Ur.hd16 m1, Tg.Ur.hd16 m2] ?_ ?_ ?_ ?_ hesc rfl
        all_goals simp [h0, h4, hw1]
      · rw [decide_eq_false n1] at h1fin
        have n1 := eq_false n1
        by_cases n2 : (126 : Int) < c.toNat
        · rw [decide_eq_true n2] at h1fin
          have n2 := eq_true n2
          simp [h0, h3, h4, h5, q0, hat, hcn, n1, n2, v1, v2, w1, w2, w3, w4, k1, k2, d1, d2, d3]
          refine h1fin _ [37, Tg.Ur.hd16 m1, Tg.Ur.hd16 m2] ?_ ?_ ?_ ?_ hesc rfl
          all_goals simp [h0, h4, hw1]
        · rw [decide_eq_false n2] at h1fin
          have n2 := eq_false n2
          cases y with
          | true =>
            simp [h0, h3, h4, h5, q0, hat, hcn, n1, n2, hh, v1, v2, w1, w2, w3, w4, k1, k2, d1, d2, d3]
            refine h1fin _ [37, Tg.Ur.hd16 m1, Tg.Ur.hd16 m2] ?_ ?_ ?_ ?_ hesc rfl
            all_goals simp [h0, h4, hw1]
          | false =>
            simp [h0, h3, h4, h5, q0, hat, hcn, n1, n2, hh, hw1, hp1, q6, c1]
            refine h1fin _ [c] ?_ ?_ ?_ ?_ hesc rfl
            all_goals simp [h0, h4, hw1]
  · have q := eq_false (show ¬ (i : Int) < (s.length : Int) by omega)
    rw [List.drop_of_length_le (by omega), show Tg.Ur.qt [] = [] by rw [Tg.Ur.qt], List.append_nil] at hq
    subst hq
    simp [h0, h3, h4, h5, q]
end
end Go.Proofs.YteckofomnhminaaGreatDoor
/-
  Layer 26 (url): what the reference's functions come to: names of hosts.
-/
set_option linter.unusedSimpArgs false
set_option linter.unusedVariables false
set_option maxRecDepth 100000
namespace Tg.Ur
def isL (b : UInt8) : Bool := (decide ((97 : Int) ≤ b.toNat) && decide ((b.toNat : Int) ≤ 122)) || isD b || b == 45
/-- a name, read byte by byte; pd: nothing or a point stands ahead -/
def chk : Bool → List UInt8 → Bool
  | _, [] => true
  | pd, c :: r => if c = 46 then !pd && chk true r else isL c && chk false r
theorem isName_eq (b : UInt8) : isName b = (isL b || b == 46) := by
  unfold isName isL isD
  generalize (decide ((97 : Int) ≤ b.toNat) && decide ((b.toNat : Int) ≤ 122)) = x
  generalize (decide ((48 : Int) ≤ b.toNat) && decide ((b.toNat : Int) ≤ 57)) = y
  cases x <;> cases y <;> simp [Bool.or_comm]
theorem two_cons (c : UInt8) (r : List UInt8) : twoDots (c :: r) = ((decide (c = 46) && decide (r[0]? = some 46)) || twoDots r) := by
  cases r with
  | nil => by_cases hc : c = 46 <;> simp [twoDots]
  | cons d r =>
    by_cases hc : c = 46
    · by_cases hd : d = 46
      · subst hc hd; simp [twoDots]
      · have : twoDots (c :: d :: r) = twoDots (d :: r) := by
          conv => lhs; unfold twoDots
          split
          · rename_i e; simp at e; exact absurd e.2.1 hd
          · rename_i e; simp at e; rw [← e.2]
          · rename_i e; simp at e
        rw [this]; simp [hd]
    · have : twoDots (c :: d :: r) = twoDots (d :: r) := by
        conv => lhs; unfold twoDots
        split
        · rename_i e; simp at e; exact absurd e.1 hc
        · rename_i e; simp at e; rw [← e.2]
        · rename_i e; simp at e
      rw [this]; simp [hc]
theorem chk_eq : ∀ (s : List UInt8), chk true s = (s.all isName && decide (s[0]? ≠ some 46) && !twoDots s) ∧ chk false s = (s.all isName && !twoDots s)
  | [] => by simp [chk, twoDots]
  | c :: r => by
    obtain ⟨h1, h2⟩ := chk_eq r
    unfold chk
    rw [two_cons, List.all_cons, isName_eq, h1, h2]
    by_cases hc : c = 46
    · subst hc
      have : isL 46 = false := by decide
      simp [this, Bool.and_assoc]
    · have hcb : (c == 46) = false := by simp [hc]
      rw [hcb, if_neg hc, if_neg hc]
      simp [hc, Bool.and_assoc]
theorem named_chk (s : List UInt8) : named s = (chk true s && decide (0 < s.length) && decide (s.length < 254)) := by
  unfold named
  rw [(chk_eq s).1]
  have e1 : decide (s ≠ []) = decide (0 < s.length) := by
    rw [decide_eq_decide]; exact (List.length_pos_iff).symm
  have e2 : decide (s.length ≤ 253) = decide (s.length < 254) := by rw [decide_eq_decide]; omega
  rw [e1, e2]
  generalize decide (0 < s.length) = x
  generalize decide (s.length < 254) = y
  cases x <;> cases y <;> simp
end Tg.Ur
namespace Go.Proofs.YteckofomnhminaaGreatDoor
open Go.Lg Go.Tg
section
variable {H : LH} {b : UInt8} {s p : List UInt8}
theorem rnamed_cl (hs : s.length ≤ 1000000) : LC Tryz.prog EJ 65 [str s] H = some (.bool (Tg.Ur.named s), H) := by
  refine LC_pure rfl Tryz.func65 rfl (Nat.le_of_ble_eq_true rfl) (by decide) (by kernel_rfl) rfl ?_
  rw [Tg.Ur.named_chk]
  obtain ⟨x, hx⟩ : ∃ x, x = Tg.Ur.chk true s := ⟨_, rfl⟩
  rw [← hx]
  simp
  refine loop_ind (fun (i : Nat) fr' H' => fr' 0 = str s ∧ fr' 3 = .int .i64 i ∧ i ≤ s.length ∧ (∃ pd, x = Tg.Ur.chk pd (s.drop i) ∧ (pd = true ↔ (i = 0 ∨ s[i - 1]? = some 46))) ∧ H' = H) (fun i => s.length - i) 0 ⟨by simp, by simp, Nat.zero_le _, ⟨true, by rw [hx]; rfl, by simp⟩, rfl⟩ ?_
  rintro i fr' H' ⟨h0, h3, hi, ⟨pd, hc, hpd⟩, rfl⟩ ih
  by_cases hlt : i < s.length
  · have q := eq_true (show (i : Int) < (s.length : Int) by omega)
    have hat : at_ s (i : Int) = s[i] := at_in hlt
    have hw : IntKind.i64.wrap ((i : Int) + 1) = ((i + 1 : Nat) : Int) := by rw [wrapI (by omega) (by omega)]; omega
    rw [List.drop_eq_getElem_cons hlt] at hc
    have hprev : s[i + 1 - 1]? = some s[i] := by rw [Nat.add_sub_cancel]; exact List.getElem?_eq_getElem hlt
    have hdg := fun H : LH => rdigit_cl (H := H) (b := s[i])
    unfold Tg.Ur.chk at hc
    by_cases h46 : s[i] = 46
    · rw [if_pos h46] at hc
      have hat : at_ s (i : Int) = 46 := by rw [hat, h46]
      have hdg : ∀ H : LH, LC Tryz.prog EJ 91 [.int .u8 46] H = some (.bool false, H) := fun H => rdigit_cl (b := 46)
      by_cases hi0 : i = 0
      · have : pd = true := hpd.mpr (.inl hi0)
        subst this
        have hc : x = false := by rw [hc]; rfl
        subst hc
        have q0 := eq_false (show ¬ 0 < i by omega)
        simp [h0, h3, q, hat, hdg, q0]
      · have q0 := eq_true (show 0 < i by omega)
        have q1 := eq_true (show (i : Int) - 1 < (s.length : Int) by omega)
        have q2 := eq_true (show (0 : Int) ≤ (i : Int) - 1 by omega)
        have qa := eq_true (show (1 : Int) ≤ (i : Int) by omega)
        have qb := eq_true (show 1 ≤ i by omega)
        have qc := eq_true (show (i : Int) < (s.length : Int) + 1 by omega)
        have qd := eq_true (show i < s.length + 1 by omega)
        have hwm : IntKind.i64.wrap ((i : Int) - 1) = (i : Int) - 1 := wrapI (by omega) (by omega)
        have hatm : at_ s ((i : Int) - 1) = s[i - 1] := by
          have := at_in (s := s) (i := i - 1) (by omega)
          rw [← this]; congr 1; omega
        have hpv : s[i - 1]? = some s[i - 1] := List.getElem?_eq_getElem (by omega)
        rw [hpv] at hpd
        by_cases hpm : s[i - 1] = 46
        · have : pd = true := hpd.mpr (.inr (by rw [hpm]))
          subst this
          have hc : x = false := by rw [hc]; rfl
          subst hc
          have hatm : at_ s ((i : Int) - 1) = 46 := by rw [hatm, hpm]
          simp [h0, h3, q, hat, hdg, q0, q1, q2, qa, qb, qc, qd, hwm, hatm]
        · have : pd = false := by
            cases pd with
            | false => rfl
            | true => rcases hpd.mp rfl with h | h; exact absurd h hi0; injection h with h; exact absurd h hpm
          subst this
          have hc : x = Tg.Ur.chk true (s.drop (i + 1)) := by rw [hc]; simp
          have hpm := eq_false hpm
          simp [h0, h3, q, hat, hdg, q0, q1, q2, qa, qb, qc, qd, hwm, hatm, hpm]
          refine ih (i + 1) _ _ (by omega) ⟨?_, ?_, by omega, ⟨true, hc, by rw [hprev, h46]; simp⟩, rfl⟩
          all_goals simp [h0, hw]
    · rw [if_neg h46] at hc
      have hnx : ∀ fr2, fr2 0 = str s → fr2 3 = .int .i64 ((i + 1 : Nat) : Int) → Tg.Ur.isL s[i] = true → Runs Tryz.prog EJ Tryz.f65 _ fr2 H' _ := fun fr2 g0 g3 hL => ih (i + 1) fr2 H' (by omega) ⟨g0, g3, by omega, ⟨false, by rw [hc, hL]; rfl, by rw [hprev]; simp [h46]⟩, rfl⟩
      have hnL : Tg.Ur.isL s[i] = false → x = false := fun e => by rw [hc, e]; rfl
      clear ih hc hpd
      unfold Tg.Ur.isL at hnx hnL
      have h46 := eq_false h46
      generalize s[i] = c at *
      by_cases n1 : (97 : Int) ≤ c.toNat
      · by_cases n2 : (c.toNat : Int) ≤ 122
        · have n1' := eq_true n1
          have n2' := eq_true n2
          simp [h0, h3, q, hat, n1', n2']
          refine hnx _ ?_ ?_ (by simp [n1, n2])
          all_goals simp [h0, hw]
        · have n1' := eq_true n1
          have n2' := eq_false n2
          cases hD : Tg.Ur.isD c with
          | true =>
            rw [hD] at hdg
            simp [h0, h3, q, hat, n1', n2', hdg]
            refine hnx _ ?_ ?_ (by simp [hD])
            all_goals simp [h0, hw]
          | false =>
            rw [hD] at hdg
            by_cases h45 : c = 45
            · subst h45; simp at n1
            · have hx0 := hnL (by simp [n1, n2, hD, h45])
              subst hx0
              have h45 := eq_false h45
              simp [h0, h3, q, hat, n1', n2', hdg, h45, h46]
      · have n1' := eq_false n1
        cases hD : Tg.Ur.isD c with
        | true =>
          rw [hD] at hdg
          simp [h0, h3, q, hat, n1', hdg]
          refine hnx _ ?_ ?_ (by simp [hD])
          all_goals simp [h0, hw]
        | false =>
          rw [hD] at hdg
          by_cases h45 : c = 45
          · subst h45
            have hdg : ∀ H : LH, LC Tryz.prog EJ 91 [.int .u8 45] H = some (.bool false, H) := hdg
            simp [h0, h3, q, hat, hdg]
            refine hnx _ ?_ ?_ (by simp)
            all_goals simp [h0, hw]
          · have hx0 := hnL (by simp [n1, hD, h45])
            subst hx0
            have h45 := eq_false h45
            simp [h0, h3, q, hat, n1', hdg, h45, h46]
  · have q := eq_false (show ¬ (i : Int) < (s.length : Int) by omega)
    rw [List.drop_of_length_le (by omega)] at hc
    have hc : x = true := hc
    subst hc
    by_cases g0 : 0 < s.length
    · by_cases g1 : s.length < 254
      · have q2 := eq_true (show (s.length : Int) < 254 by omega)
        simp [h0, h3, q, g0, g1, q2]
      · have q2 := eq_false (show ¬ (s.length : Int) < 254 by omega)
        simp [h0, h3, q, g0, g1, q2]
    · simp [h0, h3, q, g0]
end
end Go.Proofs.YteckofomnhminaaGreatDoor
/-
  Layer 26 (url): what the reference's functions come to: a path without points.
-/
set_option linter.unusedSimpArgs false
set_option linter.unusedVariables false
set_option maxRecDepth 100000
namespace Tg.Ur
theorem pieces_none : ∀ (w : List UInt8), (∀ b ∈ w, b ≠ 47) → pieces w = [w]
  | [], _ => rfl
  | b :: w, h => by
    unfold pieces
    rw [if_neg (h b (by simp)), pieces_none w (fun c hc => h c (by simp [hc]))]
theorem pieces_cut : ∀ (w r : List UInt8), (∀ b ∈ w, b ≠ 47) → pieces (w ++ 47 :: r) = w :: pieces r
  | [], r, _ => by simp [pieces]
  | b :: w, r, h => by
    rw [List.cons_append]
    conv => lhs; unfold pieces
    rw [if_neg (h b (by simp)), pieces_cut w r (fun c hc => h c (by simp [hc]))]
end Tg.Ur
namespace Go.Proofs.YteckofomnhminaaGreatDoor
open Go.Lg Go.Tg
section
variable {H : LH} {b : UInt8} {s p : List UInt8}
theorem bs0s : lbuildSlice Tryz.prog 25 0 [] H = some (sl H.n 0 0, H.new ⟨[], 9, true⟩) := lbs_dense (z := str []) Tryz.underlying25 (by kernel_rfl) (by kernel_rfl) rfl (by simp) rfl (by decide) rfl
theorem rdots_cl (hs : s.length ≤ 90000) : LC Tryz.prog EJ 58 [str s] H = some (str (Tg.Ur.dots s), H) := by
  refine LC_pure rfl Tryz.func58 rfl (Nat.le_of_ble_eq_true rfl) (by decide) (by kernel_rfl) rfl ?_
  rcases s with _ | ⟨c, r⟩
  · have : Tg.Ur.dots [] = [] := rfl
    simp [this]
  · have a0 : at_ (c :: r) 0 = c := rfl
    have q0 := eq_true (show (0 : Int) < (r.length : Int) + 1 by omega)
    by_cases hc : c = 47
    · subst hc
      have hD : Tg.Ur.dots (47 :: r) = if Tg.Ur.joinS (Tg.Ur.foldD [] (Tg.Ur.pieces r)) = [] then [47] else Tg.Ur.joinS (Tg.Ur.foldD [] (Tg.Ur.pieces r)) := rfl
      rw [hD]
      obtain ⟨fin, hfin⟩ : ∃ fin, fin = Tg.Ur.foldD [] (Tg.Ur.pieces r) := ⟨_, rfl⟩
      rw [← hfin]
      obtain ⟨s, hsr⟩ : ∃ s, s = 47 :: r := ⟨_, rfl⟩
      have hr1 : r = s.drop 1 := by rw [hsr]; rfl
      rw [← hsr] at hs a0 ⊢
      have hsl : s.length = r.length + 1 := by rw [hsr]; simp
      rw [hr1] at hfin
      refine runs_cut 4 (fun fr' H' => ∃ v, fr' 3 = v ∧ RowN H.n H' 9 1 v fin.length (fin.map str) ∧ H.n ≤ H'.n ∧ ∀ k, k < H.n → H'.get k = H.get k) ?_ (fun K4 hK4 => ?_) rfl
      · rintro fr' H' ⟨v, h3, hr, hn, hk⟩
        have hjl : (Tg.Ur.joinS fin).length ≤ s.length := by
          have g1 := Tg.Ur.foldD_jl (Tg.Ur.pieces (s.drop 1)) []
          have g2 := Tg.Ur.pieces_jl (s.drop 1)
          rw [← hfin, g2, ← hr1] at g1
          simp [Tg.Ur.joinS] at g1
          omega
        have hrow : Row H.n H' 9 v (fin.map str) := by
          rcases hr.2 with ⟨e, e0⟩ | ⟨k, c, rest, e, g1, g2, g3, g4, g5⟩
          · have : fin = [] := List.eq_nil_of_length_eq_zero e0
            rw [this, e]; exact .inl ⟨rfl, rfl⟩
          · exact .inr ⟨k, c, rest, by rw [e]; simp, g1, g3, by simpa using g5.symm⟩
        have hfl : fin.length ≤ s.length := by
          have : ∀ l : List (List UInt8), l.length ≤ (Tg.Ur.joinS l).length := by
            intro l
            induction l with
            | nil => simp
            | cons x l ih => show _ ≤ (47 :: (x ++ Tg.Ur.joinS l)).length; simp; omega
          have := this fin
          omega
        have hsz : sz Tryz.prog 9 = some 1 := by kernel_rfl
        have hag : aggB Tryz.prog 9 = some false := by kernel_rfl
        have hlen0 := fun H2 : LH => hr.len (P := Tryz.prog) (H' := H2) (t := 25) Tryz.underlying25
        have cat := fun (x y : List UInt8) (hh : x.length + y.length ≤ 9000000) => lbin_cat (P := Tryz.prog) (t := 9) (x := x) (y := y) (by omega)
        obtain ⟨j0, hj0⟩ : ∃ j0, j0 = Tg.Ur.joinS fin := ⟨_, rfl⟩
        rw [← hj0] at hjl ⊢
        simp
        refine loop_ind (fun (i : Nat) fr2 H2 => fr2 3 = v ∧ fr2 8 = str (Tg.Ur.joinS (fin.take i)) ∧ fr2 9 = .int .i64 i ∧ i ≤ fin.length ∧ H2 = H') (fun i => fin.length - i) 0 ⟨by simp [h3], by simp [Tg.Ur.joinS], by simp, Nat.zero_le _, rfl⟩ ?_
        rintro i fr2 H2 ⟨f3, f8, f9, hi, rfl⟩ ih
        by_cases hlt : i < fin.length
        · have q := eq_true (show (i : Int) < (fin.length : Int) by omega)
          obtain ⟨pa, b1, b2⟩ := Row.at (P := Tryz.prog) (H' := H2) (kd := .i64) (j := (i : Int)) (d := .nilFunc) hrow Tryz.underlying25 hsz hag (by omega) (by simp; omega)
          have hget : (fin.map str).getD (i : Int).toNat .nilFunc = str fin[i] := by rw [Int.toNat_natCast, List.getD_eq_getElem?_getD, List.getElem?_map, List.getElem?_eq_getElem hlt]; rfl
          rw [hget] at b2
          have hw1 : IntKind.i64.wrap ((i : Int) + 1) = ((i + 1 : Nat) : Int) := by rw [wrapI (by omega) (by omega)]; omega
          have hj : Tg.Ur.joinS (fin.take (i + 1)) = Tg.Ur.joinS (fin.take i) ++ 47 :: fin[i] := by
            rw [List.take_succ_eq_append_getElem hlt, Tg.Ur.joinS_app]; simp [Tg.Ur.joinS]
          have hjle : (Tg.Ur.joinS (fin.take (i + 1))).length ≤ s.length := by
            have : Tg.Ur.joinS fin = Tg.Ur.joinS (fin.take (i + 1)) ++ Tg.Ur.joinS (fin.drop (i + 1)) := by rw [← Tg.Ur.joinS_app, List.take_append_drop]
            rw [← hj0] at this
            have := congrArg List.length this
            rw [List.length_append] at this; omega
          rw [hj, List.length_append] at hjle
          simp at hjle
          generalize Tg.Ur.joinS (fin.take i) = ja at *
          generalize fin[i] = pi at *
          have d1 := cat ja [47] (by simp; omega)
          have d2 := cat (ja ++ [47]) pi (by simp; omega)
          simp only [List.append_assoc, List.cons_append, List.nil_append] at d2
          simp [f3, f8, f9, q, hlen0, b1, b2, d1, d2]
          refine ih (i + 1) _ _ (by omega) ⟨?_, ?_, ?_, by omega, rfl⟩
          all_goals simp [f3, hj, hw1]
        · have q := eq_false (show ¬ (i : Int) < (fin.length : Int) by omega)
          rw [List.take_of_length_le (by omega), ← hj0] at f8
          have hle : H.le H2 := ⟨hn, hk⟩
          by_cases hj : j0 = []
          · simp [f3, f8, f9, q, hlen0, hj, hle]
          · simp [f3, f8, f9, q, hlen0, hj, hle]
      have hne : ¬ s = [] := by rw [hsr]; simp
      have q1 := eq_true (show 0 < s.length by omega)
      simp [hne, a0, q1, bs0s]
      refine loop_ind (fun (i : Nat) fr' H' => ∃ (from_ : Nat) (acc : List (List UInt8)) (v : Value), fr' 0 = str s ∧ fr' 3 = v ∧ fr' 4 = .int .i64 from_ ∧ fr' 5 = .int .i64 i ∧ 1 ≤ i ∧ RowN H.n H' 9 1 v acc.length (acc.map str) ∧ H.n ≤ H'.n ∧ (∀ k, k < H.n → H'.get k = H.get k) ∧ acc.length ≤ i ∧ ((i ≤ s.length ∧ from_ ≤ i ∧ (∀ b ∈ (s.take i).drop from_, b ≠ 47) ∧ fin = Tg.Ur.foldD acc (Tg.Ur.pieces (s.drop from_))) ∨ (i = s.length + 1 ∧ fin = acc))) (fun i => s.length + 1 - i) 1 ⟨1, [], sl H.n 0 0, by simp, by simp, by simp, by simp, by omega, ⟨by simp, .inr ⟨H.n, 0, [], by simp, by omega, by simp, by simp, by simp, by simp⟩⟩, by simp, fun k hk => get_new_ne (by omega), by simp, .inl ⟨by omega, by omega, by simp, hfin⟩⟩ ?_
      rintro i fr' H' ⟨from_, acc, v, h0, h3, h4, h5, hi1, hrow, hn, hk, hal, hst⟩ ih
      rcases hst with ⟨hi, hfi, hns, hf⟩ | ⟨rfl, hf⟩
      · have q2 := eq_true (show (i : Int) ≤ (s.length : Int) by omega)
        have hw1 : IntKind.i64.wrap ((i : Int) + 1) = ((i + 1 : Nat) : Int) := by rw [wrapI (by omega) (by omega)]; omega
        by_cases hsl2 : ∃ h : i < s.length, s[i] ≠ 47
        · obtain ⟨hlt, hb⟩ := hsl2
          have q3 := eq_true (show (i : Int) < (s.length : Int) by omega)
          have hat : at_ s (i : Int) = s[i] := at_in hlt
          have hns2 : ∀ b ∈ (s.take (i + 1)).drop from_, b ≠ 47 := by
            rw [List.take_succ_eq_append_getElem hlt, List.drop_append_of_le_length (by rw [List.length_take]; omega)]
            intro b hb2
            rcases List.mem_append.mp hb2 with g | g
            · exact hns b g
            · simp at g; rw [g]; exact hb
          have hb := eq_false hb
          simp [h0, h3, h4, h5, q2, q3, hat, hb]
          refine ih (i + 1) _ _ (by omega) ⟨from_, acc, v, ?_, ?_, ?_, ?_, by omega, hrow, hn, hk, by omega, .inl ⟨by omega, by omega, hns2, hf⟩⟩
          all_goals simp [h0, h3, h4, hw1]
        · have hp47 : i < s.length → s[i]? = some 47 := by
            intro hlt
            rw [List.getElem?_eq_getElem hlt]
            by_cases e : s[i] = 47
            · rw [e]
            · exact absurd ⟨hlt, e⟩ hsl2
          have hcond : ((i : Int) < (s.length : Int)) = True ∧ at_ s (i : Int) = 47 ∨ ((i : Int) < (s.length : Int)) = False := by
            by_cases hlt : i < s.length
            · refine .inl ⟨eq_true (by omega), ?_⟩
              rw [at_in hlt]
              have := hp47 hlt
              rw [List.getElem?_eq_getElem hlt] at this
              injection this
            · exact .inr (eq_false (by omega))
          have hlp : lpart Tryz.prog 9 (str s) (some (.int .i64 from_)) (some (.int .i64 i)) = some (str ((s.take i).drop from_)) :=
            lpart_str0 (u := none) (p := from_) (q := i) Tryz.underlying9 (by simp [lbd]) (by simp [lbd]) ⟨hfi, hi⟩
          have hend : ∀ acc2, Tg.Ur.stepD (decide (i = s.length)) acc ((s.take i).drop from_) = acc2 → ((i + 1 ≤ s.length ∧ i + 1 ≤ i + 1 ∧ (∀ b ∈ (s.take (i + 1)).drop (i + 1), b ≠ 47) ∧ fin = Tg.Ur.foldD acc2 (Tg.Ur.pieces (s.drop (i + 1)))) ∨ (i + 1 = s.length + 1 ∧ fin = acc2)) := by
            intro acc2 ha
            by_cases hlt : i < s.length
            · left
              refine ⟨by omega, Nat.le_refl _, by rw [List.drop_of_length_le (by rw [List.length_take]; omega)]; simp, ?_⟩
              have e1 : s.drop from_ = (s.take i).drop from_ ++ 47 :: s.drop (i + 1) := by
                conv => lhs; rw [← List.take_append_drop i s]
                rw [List.drop_append_of_le_length (by rw [List.length_take]; omega)]
                congr 1
                rw [List.drop_eq_getElem_cons hlt]
                have := hp47 hlt
                rw [List.getElem?_eq_getElem hlt] at this
                injection this with this
                rw [this]
              rw [hf, e1, Tg.Ur.pieces_cut _ _ hns, Tg.Ur.foldD_cons, ← ha, decide_eq_false (show ¬ i = s.length by omega), decide_eq_false (Tg.Ur.pieces_ne _)]
            · right
              have hie : i = s.length := by omega
              refine ⟨by omega, ?_⟩
              rw [decide_eq_true hie, hie, List.take_length] at ha
              rw [hie, List.take_length] at hns
              rw [hf, Tg.Ur.pieces_none _ hns, ← ha]; rfl
          have hpl : ((s.take i).drop from_).length ≤ 1000000 := by rw [List.length_drop, List.length_take]; omega
          have hpts := fun H : LH => rpoints_cl (H := H) (s := (s.take i).drop from_) hpl
          have hnext := fun acc2 v2 fr2 H2 (g0 : fr2 0 = str s) (g3 : fr2 3 = v2) (g4 : fr2 4 = .int .i64 ((i + 1 : Nat) : Int)) (g5 : fr2 5 = .int .i64 ((i + 1 : Nat) : Int)) (gr : RowN H.n H2 9 1 v2 acc2.length (acc2.map str)) (gn : H.n ≤ H2.n) (gk : ∀ k, k < H.n → H2.get k = H'.get k) (ga : Tg.Ur.stepD (decide (i = s.length)) acc ((s.take i).drop from_) = acc2) =>
            ih (i + 1) fr2 H2 (by omega) ⟨i + 1, acc2, v2, g0, g3, g4, g5, by omega, gr, gn, fun k hk2 => by rw [gk k hk2]; exact hk k hk2, by rw [← ga]; have := Tg.Ur.stepD_len (decide (i = s.length)) acc ((s.take i).drop from_); omega, hend acc2 ga⟩
          clear ih hend hf hns
          generalize (s.take i).drop from_ = p at *
          unfold Tg.Ur.stepD at hnext
          have hsz : sz Tryz.prog 9 = some 1 := by kernel_rfl
          have hlen0 := fun H2 : LH => hrow.len (P := Tryz.prog) (H' := H2) (t := 25) Tryz.underlying25
          have hwl : IntKind.i64.wrap ((acc.length : Int) - 1) = (acc.length : Int) - 1 := wrapI (by omega) (by omega)
          obtain ⟨v1, t1, t2, t3⟩ := RowN.takeL (P := Tryz.prog) (t := 25) hrow Tryz.underlying25 hsz (acc.length - 1) (by omega)
          have hdl : acc.take (acc.length - 1) = acc.dropLast := (List.dropLast_eq_take).symm
          rw [← List.map_take, hdl] at t2
          have hll : acc.length - 1 = acc.dropLast.length := by simp
          rw [hll] at t2
          rcases hcond with ⟨qc, ha47⟩ | qc
          case' inr => have ha47 : True := trivial
          all_goals
            generalize Tg.Ur.pts p 0 = n at *
            by_cases hn2 : n = 2
            · subst hn2
              rw [if_neg (by simp), if_pos rfl] at hnext
              by_cases hpos : 0 < acc.length
              · have qp := eq_true hpos
                have t1' : lpart Tryz.prog 25 v none (some (.int .i64 ((acc.length : Int) - 1))) = some v1 := by rw [← t1]; congr 3; omega
                by_cases hL : i = s.length
                · rw [decide_eq_true hL, if_pos rfl] at hnext
                  have hL1 := eq_true hL
                  have hL2 := eq_true (show (i : Int) = (s.length : Int) by omega)
                  obtain ⟨v2, H2, a1, a2, a3, a4⟩ := out_app (x := []) t2 hn (by rw [← hll]; omega)
                  simp [h0, h3, h4, h5, q2, qc, ha47, hlp, hpts, hw1, hlen0, hwl, qp, t1', hL1, hL2, a1]
                  refine hnext _ v2 _ _ ?_ ?_ ?_ ?_ a2 a3 a4 rfl
                  all_goals simp [h0, hw1]
                · rw [decide_eq_false hL, if_neg (by simp), List.append_nil] at hnext
                  have hL1 := eq_false hL
                  have hL2 := eq_false (show ¬ (i : Int) = (s.length : Int) by omega)
                  simp [h0, h3, h4, h5, q2, qc, ha47, hlp, hpts, hw1, hlen0, hwl, qp, t1', hL1, hL2]
                  refine hnext _ v1 _ _ ?_ ?_ ?_ ?_ t2 hn (fun _ _ => rfl) rfl
                  all_goals simp [h0, hw1]
              · have qp := eq_false hpos
                have hnil : acc = [] := List.eq_nil_of_length_eq_zero (by omega)
                have hdn : acc.dropLast = acc := by rw [hnil]; rfl
                rw [hdn] at hnext
                by_cases hL : i = s.length
                · rw [decide_eq_true hL, if_pos rfl] at hnext
                  have hL1 := eq_true hL
                  have hL2 := eq_true (show (i : Int) = (s.length : Int) by omega)
                  obtain ⟨v2, H2, a1, a2, a3, a4⟩ := out_app (x := []) hrow hn (by omega)
                  simp [h0, h3, h4, h5, q2, qc, ha47, hlp, hpts, hw1, hlen0, hwl, qp, hL1, hL2, a1]
                  refine hnext _ v2 _ _ ?_ ?_ ?_ ?_ a2 a3 a4 rfl
                  all_goals simp [h0, hw1]
                · rw [decide_eq_false hL, if_neg (by simp), List.append_nil] at hnext
                  have hL1 := eq_false hL
                  have hL2 := eq_false (show ¬ (i : Int) = (s.length : Int) by omega)
                  simp [h0, h3, h4, h5, q2, qc, ha47, hlp, hpts, hw1, hlen0, hwl, qp, hL1, hL2]
                  refine hnext _ v _ _ ?_ ?_ ?_ ?_ hrow hn (fun _ _ => rfl) rfl
                  all_goals simp [h0, h3, hw1]
            by_cases hn1 : n = 1
            · subst hn1
              rw [if_neg (by simp), if_neg (by simp)] at hnext
              by_cases hL : i = s.length
              · rw [decide_eq_true hL, if_pos rfl] at hnext
                have hL1 := eq_true hL
                have hL2 := eq_true (show (i : Int) = (s.length : Int) by omega)
                obtain ⟨v2, H2, a1, a2, a3, a4⟩ := out_app (x := []) hrow hn (by omega)
                simp [h0, h3, h4, h5, q2, qc, ha47, hlp, hpts, hw1, hL1, hL2, a1]
                refine hnext _ v2 _ _ ?_ ?_ ?_ ?_ a2 a3 a4 rfl
                all_goals simp [h0, hw1]
              · rw [decide_eq_false hL, if_neg (by simp), List.append_nil] at hnext
                have hL1 := eq_false hL
                have hL2 := eq_false (show ¬ (i : Int) = (s.length : Int) by omega)
                simp [h0, h3, h4, h5, q2, qc, ha47, hlp, hpts, hw1, hL1, hL2]
                refine hnext _ v _ _ ?_ ?_ ?_ ?_ hrow hn (fun _ _ => rfl) rfl
                all_goals simp [h0, h3, hw1]
            · rw [if_pos ⟨hn1, hn2⟩] at hnext
              have qa := eq_false (show ¬ (n : Int) = 2 by omega)
              have qb := eq_false (show ¬ (n : Int) = 1 by omega)
              obtain ⟨v2, H2, a1, a2, a3, a4⟩ := out_app (x := p) hrow hn (by omega)
              simp [h0, h3, h4, h5, q2, qc, ha47, hlp, hpts, hw1, qa, qb, hn1, hn2, a1]
              refine hnext _ v2 _ _ ?_ ?_ ?_ ?_ a2 a3 a4 rfl
              all_goals simp [h0, hw1]
      · have q2 := eq_false (show ¬ (((s.length + 1 : Nat) : Int)) ≤ (s.length : Int) by omega)
        subst hf
        generalize s.length + 1 = i at *
        simp [h0, h3, h4, h5, q2]
        exact hK4 _ _ ⟨v, by simp [h3], hrow, hn, hk⟩
    · have hD : Tg.Ur.dots (c :: r) = [] := by
        unfold Tg.Ur.dots
        split
        · rename_i e; injection e with e; exact absurd e hc
        · rfl
      simp [a0, q0, hc, hD]
end
end Go.Proofs.YteckofomnhminaaGreatDoor
/-
  Layer 26 (url): what the reference's functions come to: good places.
-/
set_option linter.unusedSimpArgs false
set_option linter.unusedVariables false
set_option maxRecDepth 100000
namespace Go.Proofs.YteckofomnhminaaGreatDoor
open Go.Lg Go.Tg
section
variable {H : LH} {b : UInt8} {s p : List UInt8} {u : Tg.Ur.Url}
theorem rgood_cl (h1 : u.host.length ≤ 1000000) (h2 : u.path.length ≤ 90000) (h3 : u.query.length ≤ 90000) : LC Tryz.prog EJ 31 [uv u] H = some (.bool (Tg.Ur.good u), H) := by
  refine LC_pure rfl Tryz.func31 rfl (Nat.le_of_ble_eq_true rfl) (by decide) (by kernel_rfl) rfl ?_
  have hle : H.le (H.new (ub u)) := le_refl.new
  obtain ⟨g, hg⟩ : ∃ g, g = Tg.Ur.good u := ⟨_, rfl⟩
  rw [← hg]
  rw [good_eq] at hg
  refine runs_cut 3 (fun fr' H' => fr' 1 = ptr H.n 0 ∧ H' = H.new (ub u) ∧ g = queryB u) ?_ (fun K3 hK3 => ?_) rfl
  · rintro fr' H' ⟨f1, rfl, hgq⟩
    have hq := fun H : LH => rquote_cl (H := H) (s := u.query) (by omega)
    have hh := fun H : LH => rfree_cl (H := H) (s := u.query) (p := [35]) (by omega) (by decide)
    unfold queryB at hgq
    clear hg
    obtain ⟨sch, hst, prt, pth, q⟩ := u
    simp only at *
    cases q with
    | nil =>
      have : g = true := by rw [hgq]; rfl
      subst this
      simp [f1, hle]
    | cons c r =>
      have a0 : at_ (c :: r) 0 = c := rfl
      have q1 := eq_true (show (0 : Int) < (r.length : Int) + 1 by omega)
      by_cases hc : c = 63
      · subst hc
        by_cases he : Tg.Ur.qt (63 :: r) = 63 :: r
        · have : g = Tg.Ur.free [35] (63 :: r) := by rw [hgq]; simp [he]
          rw [← this] at hh
          simp [f1, a0, q1, hq, he, hh, hle]
        · have : g = false := by rw [hgq]; simp [he]
          subst this
          simp [f1, a0, q1, hq, he, hle]
      · have : g = false := by rw [hgq]; simp [hc]
        subst this
        simp [f1, a0, q1, hc, hle]
  refine runs_cut 2 (fun fr' H' => fr' 1 = ptr H.n 0 ∧ H' = H.new (ub u) ∧ g = (pathB u && queryB u)) ?_ (fun K2 hK2 => ?_) rfl
  · rintro fr' H' ⟨f1, rfl, hgq⟩
    have hq := fun H : LH => rquote_cl (H := H) (s := u.path) (by omega)
    have hd := fun H : LH => rdots_cl (H := H) (s := u.path) (by omega)
    have hh := fun H : LH => rfree_cl (H := H) (s := u.path) (p := [63, 35]) (by omega) (by decide)
    have hfin := fun fr' (e : fr' 1 = ptr H.n 0) (e2 : pathB u = true) => hK3 fr' (H.new (ub u)) ⟨e, rfl, by rw [hgq, e2]; rfl⟩
    have hno : pathB u = false → g = false := fun e => by rw [hgq, e]; rfl
    unfold pathB at hfin hno
    clear hg hgq hK3
    obtain ⟨sch, hst, prt, pth, q⟩ := u
    simp only at *
    cases pth with
    | nil =>
      have := hno (by simp)
      subst this
      simp [f1, hle]
    | cons c r =>
      by_cases hdd : Tg.Ur.dots (c :: r) = c :: r
      · have hc : c = 47 := by
          unfold Tg.Ur.dots at hdd
          split at hdd
          · rename_i e; injection e with e
          · cases hdd
        subst hc
        by_cases he : Tg.Ur.qt (47 :: r) = 47 :: r
        · cases hf : Tg.Ur.free [63, 35] (47 :: r) with
          | false =>
            rw [hf] at hh
            have := hno (by simp [hf])
            subst this
            simp [f1, hd, hdd, hq, he, hh, hle]
          | true =>
            rw [hf] at hh
            simp [f1, hd, hdd, hq, he, hh]
            refine hfin _ ?_ ?_
            all_goals simp [f1, hdd, he, hf]
        · have := hno (by simp [he])
          subst this
          simp [f1, hd, hdd, hq, he, hle]
      · have := hno (by simp [hdd])
        subst this
        simp [f1, hd, hdd, hle]
  have ho := fun H : LH => rown_cl (H := H) (s := u.scheme)
  have hnm := fun H : LH => rnamed_cl (H := H) (s := u.host) h1
  by_cases p0 : Tg.Ur.own u.scheme = 0
  · have : g = false := by rw [hg]; simp [p0]
    subst this
    simp [ho, p0, hle]
  · cases hn : Tg.Ur.named u.host with
    | false =>
      have : g = false := by rw [hg, hn]; simp
      subst this
      rw [hn] at hnm
      simp [ho, p0, hnm, hle]
    | true =>
      rw [hn] at hnm
      by_cases n1 : u.port < 0
      · have : g = false := by
          rw [hg]; unfold placeB
          rw [decide_eq_false (show ¬ u.port = 0 by omega), decide_eq_false (show ¬ 1 ≤ u.port by omega)]; simp
        subst this
        have n1 := eq_true n1
        simp [ho, p0, hnm, n1, hle]
      · by_cases n2 : 65535 < u.port
        · have : g = false := by
            rw [hg]; unfold placeB
            rw [decide_eq_false (show ¬ u.port = 0 by omega), decide_eq_false (show ¬ u.port ≤ 65535 by omega)]; simp
          subst this
          have n1 := eq_false n1
          have n2 := eq_true n2
          simp [ho, p0, hnm, n1, n2, hle]
        · by_cases n3 : u.port = Tg.Ur.own u.scheme
          · have : g = false := by
              rw [hg]; unfold placeB
              rw [decide_eq_false (show ¬ u.port = 0 by omega), decide_eq_false (show ¬ u.port ≠ Tg.Ur.own u.scheme by simp [n3])]; simp
            subst this
            have n1 := eq_false n1
            have n2 := eq_false n2
            have n3 := eq_true n3
            simp [ho, p0, hnm, n1, n2, n3, hle]
          · have hgg : g = (pathB u && queryB u) := by
              rw [hg, hn]; unfold placeB
              by_cases z : u.port = 0
              · rw [decide_eq_true z]; simp [p0]
              · rw [decide_eq_false z, decide_eq_true (show 1 ≤ u.port by omega), decide_eq_true (show u.port ≤ 65535 by omega), decide_eq_true n3]; simp [p0]
            have n1 := eq_false n1
            have n2 := eq_false n2
            have n3 := eq_false n3
            simp [ho, p0, hnm, n1, n2, n3]
            exact hK2 _ _ ⟨by simp, rfl, hgg⟩
end
end Go.Proofs.YteckofomnhminaaGreatDoor
/-
  Layer 26 (url): what the reference's functions come to: numbers' texts.
-/
set_option linter.unusedSimpArgs false
set_option linter.unusedVariables false
set_option maxRecDepth 100000
namespace Go.Proofs.YteckofomnhminaaGreatDoor
open Go.Lg Go.Tg
section
variable {H : LH} {b : UInt8} {s p : List UInt8} {u : Tg.Ur.Url}
theorem dig1 {n : Nat} {k : IntKind} (hn : n < 10) : lpart Tryz.prog 9 (str [48, 49, 50, 51, 52, 53, 54, 55, 56, 57]) (some (.int k n)) (some (.int k ((n : Int) + 1))) = some (str [([48, 49, 50, 51, 52, 53, 54, 55, 56, 57] : List UInt8).getD n 0]) := by
  rw [part1 (by simpa using hn), List.getD_eq_getElem?_getD, List.getElem?_eq_getElem (by simpa using hn)]
  rfl
theorem dd_small {n : Nat} (h : n < 10) : Lib.decDigits n = [([48, 49, 50, 51, 52, 53, 54, 55, 56, 57] : List UInt8).getD n 0] := by
  have key : ∀ k : Fin 10, UInt8.ofNat (48 + k.1) = ([48, 49, 50, 51, 52, 53, 54, 55, 56, 57] : List UInt8).getD k.1 0 := by decide
  rw [Lib.decDigits, dif_pos h, key ⟨n, h⟩]
theorem dd_big {n : Nat} (h : ¬ n < 10) : Lib.decDigits n = Lib.decDigits (n / 10) ++ Lib.decDigits (n % 10) := by
  conv => lhs; rw [Lib.decDigits, dif_neg h]
  rw [show Lib.decDigits (n % 10) = [UInt8.ofNat (48 + n % 10)] by rw [Lib.decDigits, dif_pos (by omega)]]
theorem dd_len : ∀ n : Nat, (Lib.decDigits n).length ≤ n + 1
  | n => by
    by_cases h : n < 10
    · rw [dd_small h]; simp
    · have := dd_len (n / 10)
      rw [dd_big h, List.length_append, dd_small (n := n % 10) (by omega)]
      simp only [List.length_cons, List.length_nil]
      omega
theorem rnum_cl : ∀ (n : Nat), n ≤ 9223372036854775807 → ∀ H : LH, LC Tryz.prog EJ 93 [.int .u64 n] H = some (str (Lib.decDigits n), H)
  | n, hn, H => by
    refine LC_pure rfl Tryz.func93 rfl (Nat.le_of_ble_eq_true rfl) (by decide) (by kernel_rfl) rfl ?_
    by_cases h : n < 10
    · have q := eq_true (show (n : Int) < 10 by omega)
      have hw : IntKind.u64.wrap ((n : Int) + 1) = (n : Int) + 1 := by rw [IntKind.wrap_u64]; omega
      have hd := dig1 (k := .u64) h
      rw [← dd_small h] at hd
      simp [q, hw, hd]
    · have q := eq_false (show ¬ (n : Int) < 10 by omega)
      have h1 := rnum_cl (n / 10) (by omega)
      have h2 := rnum_cl (n % 10) (by omega)
      have v1 : (n : Int).tdiv 10 = ((n / 10 : Nat) : Int) := rfl
      have v2 : (n : Int).tmod 10 = ((n % 10 : Nat) : Int) := rfl
      have w1 : IntKind.u64.wrap ((n / 10 : Nat) : Int) = ((n / 10 : Nat) : Int) := by rw [IntKind.wrap_u64]; omega
      have w2 : IntKind.u64.wrap ((n % 10 : Nat) : Int) = ((n % 10 : Nat) : Int) := by rw [IntKind.wrap_u64]; omega
      have l1 := dd_len (n / 10)
      have l2 := dd_len (n % 10)
      have c1 := lbin_cat (P := Tryz.prog) (t := 9) (x := Lib.decDigits (n / 10)) (y := Lib.decDigits (n % 10)) (by omega)
      rw [← dd_big h] at c1
      generalize Lib.decDigits n = d at *
      generalize hm1 : n / 10 = m1 at *
      generalize hm2 : n % 10 = m2 at *
      simp [q, v1, v2, w1, w2, h1, h2, c1]
theorem rtext_num {n : Int} (h0 : 0 ≤ n) (h1 : n ≤ 9223372036854775807) : LC Tryz.prog EJ 63 [.int .i64 n] H = some (str (Lib.itoa n), H) := by
  refine LC_pure rfl Tryz.func63 rfl (Nat.le_of_ble_eq_true rfl) (by decide) (by kernel_rfl) rfl ?_
  obtain ⟨m, rfl⟩ : ∃ m : Nat, n = m := ⟨n.toNat, by omega⟩
  have hn := fun H : LH => rnum_cl m (by omega) H
  have hw : IntKind.u64.wrap (m : Int) = (m : Int) := by rw [IntKind.wrap_u64]; omega
  have hi : Lib.itoa (m : Int) = Lib.decDigits m := by unfold Lib.itoa; rw [if_neg (by omega), Int.toNat_natCast]
  have q := eq_false (show ¬ (m : Int) < 0 by omega)
  rw [hi]
  simp [q, hw, hn]
theorem good_port (h : Tg.Ur.good u = true) : 0 ≤ u.port ∧ u.port ≤ 65535 := by
  rw [good_eq] at h
  simp only [Bool.and_eq_true] at h
  have hp := h.1.1.1.2
  unfold placeB at hp
  simp only [Bool.or_eq_true, Bool.and_eq_true, decide_eq_true_eq] at hp
  omega
theorem itoa_len {n : Int} (h0 : 0 ≤ n) (h1 : n ≤ 65535) : (Lib.itoa n).length ≤ 65536 := by
  unfold Lib.itoa
  rw [if_neg (by omega)]
  have := dd_len n.toNat
  omega
theorem rText_cl (hu : Small u) : LC Tryz.prog EJ 28 [uv u] H = some (str (Tg.Ur.text u), H) := by
  refine LC_pure rfl Tryz.func28 rfl (Nat.le_of_ble_eq_true rfl) (by decide) (by kernel_rfl) rfl ?_
  have ⟨b1, b2, b3, b4, _, _⟩ := hu
  have hg := fun H : LH => rgood_cl (H := H) (u := u) (by omega) (by omega) (by omega)
  unfold Tg.Ur.text
  cases hgo : Tg.Ur.good u with
  | false =>
    rw [hgo] at hg
    simp [hg, le_refl.new]
  | true =>
    have hgp := good_port hgo
    rw [hgo] at hg
    unfold Tg.Ur.textP
    have hd := fun H : LH => rtext_num (H := H) hgp.1 (by omega)
    have hi := itoa_len hgp.1 hgp.2
    obtain ⟨sch, hst, prt, pth, q⟩ := u
    simp only at *
    have cat := fun (x y : List UInt8) (hh : x.length + y.length ≤ 9000000) => lbin_cat (P := Tryz.prog) (t := 9) (x := x) (y := y) (by omega)
    have c1 := cat sch [58, 47, 47] (by simp; omega)
    have c2 := cat (sch ++ [58, 47, 47]) hst (by simp; omega)
    simp only [List.append_assoc, List.cons_append, List.nil_append] at c2
    by_cases h0 : prt = 0
    · subst h0
      have c3 := cat (sch ++ 58 :: 47 :: 47 :: hst) pth (by simp; omega)
      have c4 := cat (sch ++ 58 :: 47 :: 47 :: (hst ++ pth)) q (by simp; omega)
      simp [hg, le_refl.new, c1, c2, c3, c4]
    · have q0 := eq_true (show 0 < prt by omega)
      have c3 := cat (sch ++ 58 :: 47 :: 47 :: hst) [58] (by simp; omega)
      have c4 := cat (sch ++ 58 :: 47 :: 47 :: (hst ++ [58])) (Lib.itoa prt) (by simp; omega)
      have c5 := cat (sch ++ 58 :: 47 :: 47 :: (hst ++ 58 :: Lib.itoa prt)) pth (by simp; omega)
      have c6 := cat (sch ++ 58 :: 47 :: 47 :: (hst ++ 58 :: (Lib.itoa prt ++ pth))) q (by simp; omega)
      simp only [List.append_assoc, List.cons_append, List.nil_append] at c3 c4 c5 c6
      simp [hg, h0, q0, hd, le_refl.new, c1, c2, c3, c4, c5, c6]
theorem rOrigin_cl (hu : Small u) : LC Tryz.prog EJ 34 [uv u] H = some (str (Tg.Ur.origin u), H) := by
  refine LC_pure rfl Tryz.func34 rfl (Nat.le_of_ble_eq_true rfl) (by decide) (by kernel_rfl) rfl ?_
  have ⟨b1, b2, b3, b4, _, _⟩ := hu
  have hg := fun H : LH => rgood_cl (H := H) (u := u) (by omega) (by omega) (by omega)
  unfold Tg.Ur.origin
  cases hgo : Tg.Ur.good u with
  | false =>
    rw [hgo] at hg
    simp [hg, le_refl.new]
  | true =>
    have hgp := good_port hgo
    rw [hgo] at hg
    have hpr : 0 ≤ Tg.Ur.port u ∧ Tg.Ur.port u ≤ 65535 := by
      have := own_rng u.scheme
      unfold Tg.Ur.port
      split <;> omega
    have hd := fun H : LH => rtext_num (H := H) hpr.1 (by omega)
    have hi := itoa_len hpr.1 hpr.2
    have hp := fun H : LH => rport_cl (H := H) (u := u)
    generalize Tg.Ur.port u = po at *
    obtain ⟨sch, hst, prt, pth, q⟩ := u
    simp only at *
    have cat := fun (x y : List UInt8) (hh : x.length + y.length ≤ 9000000) => lbin_cat (P := Tryz.prog) (t := 9) (x := x) (y := y) (by omega)
    have c1 := cat sch [58, 47, 47] (by simp; omega)
    have c2 := cat (sch ++ [58, 47, 47]) hst (by simp; omega)
    have c3 := cat (sch ++ 58 :: 47 :: 47 :: hst) [58] (by simp; omega)
    have c4 := cat (sch ++ 58 :: 47 :: 47 :: (hst ++ [58])) (Lib.itoa po) (by simp; omega)
    simp only [List.append_assoc, List.cons_append, List.nil_append] at c2 c3 c4
    simp [hg, hd, hp, le_refl.new, c1, c2, c3, c4]
end
end Go.Proofs.YteckofomnhminaaGreatDoor
/-
  Layer 26 (url): what the reference's functions come to: numbers read.
-/
set_option linter.unusedSimpArgs false
set_option linter.unusedVariables false
set_option maxRecDepth 100000
namespace Go.Proofs.YteckofomnhminaaGreatDoor
open Go.Lg Go.Tg
section
open Tg.Nu
variable {H : LH} {b : UInt8} {s p : List UInt8} {u : Tg.Ur.Url}
theorem rdparse_cl (hs : s.length ≤ 1048576) : LC Tryz.prog EJ 60 [str s] H = some (.tuple #[.int .i64 (if s = [] ∨ s.all isD = false then 0 else if 9007199254740991 < dv 0 s then 0 else (dv 0 s : Nat)), .int .i64 (if s = [] ∨ s.all isD = false then 2 else if 9007199254740991 < dv 0 s then 9 else 0)], H) := by
  refine LC_pure rfl Tryz.func60 rfl (Nat.le_of_ble_eq_true rfl) (by decide) (by kernel_rfl) rfl ?_
  obtain ⟨r1, hr1⟩ : ∃ r1 : Int, r1 = (if s = [] ∨ s.all isD = false then (0 : Int) else if 9007199254740991 < dv 0 s then (0 : Int) else ((dv 0 s : Nat) : Int)) := ⟨_, rfl⟩
  obtain ⟨r2, hr2⟩ : ∃ r2 : Int, r2 = (if s = [] ∨ s.all isD = false then 2 else if 9007199254740991 < dv 0 s then 9 else 0) := ⟨_, rfl⟩
  rw [← hr1, ← hr2]
  simp
  refine loop_ind (fun (i : Nat) fr' H' => fr' 0 = str s ∧ fr' 6 = .int .i64 i ∧ i ≤ s.length ∧ (∀ b ∈ s.take i, isD b = true) ∧ ((fr' 5 = .bool false ∧ fr' 4 = .int .i64 (dv 0 (s.take i) : Nat) ∧ dv 0 (s.take i) ≤ 9007199254740991) ∨ (∃ n, fr' 5 = .bool true ∧ fr' 4 = .int .i64 n ∧ 9007199254740991 < dv 0 (s.take i))) ∧ H' = H) (fun i => s.length - i) 0 ⟨by simp, by simp, Nat.zero_le _, by simp, .inl ⟨by simp, by simp [dv], by simp [dv]⟩, rfl⟩ ?_
  rintro i fr' H' ⟨h0, h6, hi, hdg, hst, rfl⟩ ih
  by_cases hlt : i < s.length
  · have q := eq_true (show (i : Int) < (s.length : Int) by omega)
    have hat : at_ s (i : Int) = s[i] := at_in hlt
    have hw : IntKind.i64.wrap ((i : Int) + 1) = ((i + 1 : Nat) : Int) := by rw [wrapI (by omega) (by omega)]; omega
    have hdc : ∀ H : LH, LC Tryz.prog EJ 91 [.int .u8 s[i].toNat] H = some (.bool (isD s[i]), H) := fun H => rdigit_cl
    cases hD : isD s[i] with
    | false =>
      rw [hD] at hdc
      have hall : s.all isD = false := by
        rw [Bool.eq_false_iff]
        intro e
        have := List.all_eq_true.mp e s[i] (List.getElem_mem hlt)
        rw [hD] at this; cases this
      rw [if_pos (.inr hall)] at hr1 hr2
      subst hr1 hr2
      simp [h0, h6, q, hat, hdc]
    | true =>
      rw [hD] at hdc
      have hdg2 : ∀ b ∈ s.take (i + 1), isD b = true := by
        rw [List.take_succ_eq_append_getElem hlt]
        intro b hb
        rcases List.mem_append.mp hb with g | g
        · exact hdg b g
        · simp at g; rw [g]; exact hD
      have hnew := dv_take s hlt
      have hge : dv 0 (s.take i) ≤ dv 0 (s.take (i + 1)) := by omega
      have hdv := hD
      simp only [isD, Bool.and_eq_true, decide_eq_true_eq] at hdv
      rcases hst with ⟨h5, h4, hm⟩ | ⟨n, h5, h4, hm⟩
      · have hw1 : IntKind.i64.wrap (10 * (dv 0 (s.take i) : Int)) = 10 * (dv 0 (s.take i) : Int) := wrapI (by omega) (by omega)
        have hw2 : IntKind.u8.wrap ((s[i].toNat : Int) - 48) = ((s[i].toNat - 48 : Nat) : Int) := by rw [wrap8]; omega
        have hw3 : IntKind.i64.wrap ((s[i].toNat - 48 : Nat) : Int) = ((s[i].toNat - 48 : Nat) : Int) := wrapI (by omega) (by omega)
        have hw4 : IntKind.i64.wrap (10 * (dv 0 (s.take i) : Int) + ((s[i].toNat - 48 : Nat) : Int)) = ((dv 0 (s.take (i + 1)) : Nat) : Int) := by rw [wrapI (by omega) (by omega)]; omega
        generalize hv2 : dv 0 (s.take (i + 1)) = v2 at *
        by_cases hbig : 9007199254740991 < v2
        · have qb := eq_true (show (9007199254740991 : Int) < (v2 : Int) by omega)
          simp [h0, h4, h5, h6, q, hat, hdc, hw1, hw2, hw3, hw4, qb]
          refine ih (i + 1) _ _ (by omega) ⟨?_, ?_, by omega, hdg2, .inr ⟨v2, ?_, ?_, by rw [hv2]; exact hbig⟩, rfl⟩
          all_goals simp [h0, hw]
        · have qb := eq_false (show ¬ (9007199254740991 : Int) < (v2 : Int) by omega)
          simp [h0, h4, h5, h6, q, hat, hdc, hw1, hw2, hw3, hw4, qb]
          refine ih (i + 1) _ _ (by omega) ⟨?_, ?_, by omega, hdg2, .inl ⟨?_, ?_, by rw [hv2]; omega⟩, rfl⟩
          all_goals simp [h0, hw, hv2]
      · simp [h0, h4, h5, h6, q, hat, hdc]
        refine ih (i + 1) _ _ (by omega) ⟨?_, ?_, by omega, hdg2, .inr ⟨n, ?_, ?_, by omega⟩, rfl⟩
        all_goals simp [h0, h4, hw]
  · have q := eq_false (show ¬ (i : Int) < (s.length : Int) by omega)
    rw [List.take_of_length_le (by omega)] at hdg hst
    have hall : s.all isD = true := List.all_eq_true.mpr hdg
    by_cases hnil : s = []
    · rw [if_pos (.inl hnil)] at hr1 hr2
      subst hr1 hr2
      have hi0 : ¬ (i : Int) < 0 := by omega
      rcases hst with ⟨h5, h4, hm⟩ | ⟨n, h5, h4, hm⟩
      · simp [h0, h4, h5, h6, q, hnil, hi0]
      · rw [hnil] at hm; simp [dv] at hm
    · rw [if_neg (by simp [hnil, hall])] at hr1 hr2
      rcases hst with ⟨h5, h4, hm⟩ | ⟨n, h5, h4, hm⟩
      · rw [if_neg (by omega)] at hr1 hr2
        subst hr1 hr2
        simp [h0, h4, h5, h6, q, hnil]
      · rw [if_pos hm] at hr1 hr2
        subst hr1 hr2
        simp [h0, h4, h5, h6, q, hnil]
end
end Go.Proofs.YteckofomnhminaaGreatDoor
/-
  Layer 26 (url): what the reference's functions come to: the place of a text.
-/
set_option linter.unusedSimpArgs false
set_option linter.unusedVariables false
set_option maxRecDepth 100000
namespace Go.Proofs.YteckofomnhminaaGreatDoor
open Go.Lg Go.Tg
section
variable {H : LH} {b : UInt8} {s p : List UInt8} {u : Tg.Ur.Url}
@[simp] theorem n_ne2 {n : Nat} : (n = n + 1 + 1) = False := eq_false (by omega)
@[simp] theorem n_ne3 {n : Nat} : (n = n + 1 + 1 + 1) = False := eq_false (by omega)
@[simp] theorem n_ne2' {n : Nat} : (n + 1 + 1 = n) = False := eq_false (by omega)
@[simp] theorem n_ne3' {n : Nat} : (n + 1 + 1 + 1 = n) = False := eq_false (by omega)
theorem le3 {a b c : LB} : H.le (((H.new a).new b).new c) := le_refl.new.new.new
theorem le2 {a b : LB} : H.le ((H.new a).new b) := le_refl.new.new
theorem dots_one : Tg.Ur.dots (Tg.Ur.qt [47]) = [47] := by decide +kernel
theorem upto_cons {p r : List UInt8} {c : UInt8} (h : p.contains c = false) : Tg.Ur.upto p (c :: r) = Tg.Ur.upto p r + 1 := by
  unfold Tg.Ur.upto
  rw [List.takeWhile_cons, if_pos (by rw [h]; rfl), List.length_cons]
theorem rParse_cl (hs : s.length ≤ 20000) : LC Tryz.prog EJ 25 [str s] H = some (.tuple #[uv (Tg.Ur.parse s).1, .int .i64 (Tg.Ur.parse s).2], H) := by
  refine LC_pure rfl Tryz.func25 rfl (Nat.le_of_ble_eq_true rfl) (by decide) (by kernel_rfl) rfl ?_
  obtain ⟨r, hr⟩ : ∃ r, r = Tg.Ur.parse s := ⟨_, rfl⟩
  rw [← hr]
  have htl : (Tg.Ur.trim s).length ≤ 20000 := by
    refine Nat.le_trans ?_ hs
    unfold Tg.Ur.trim Tg.Ur.trimL
    rw [List.length_reverse]
    refine Nat.le_trans (dw_le _) ?_
    rw [List.length_reverse]
    exact dw_le _
  refine runs_cut 17 (fun fr' H' => fr' 2 = ptr H.n 0 ∧ fr' 3 = .int .i64 0 ∧ fr' 4 = ptr (H.n + 1) 0 ∧ fr' 6 = ptr (H.n + 2) 0 ∧ ∃ u pl, Tg.Ur.parts (Tg.Ur.trim s) = some (u, pl) ∧ ¬ 8192 < (Tg.Ur.trim s).length ∧ fr' 7 = str pl ∧ H' = ((H.new (ub Tg.Ur.none)).new (ub Tg.Ur.none)).new (ub u)) ?_ (fun K17 hK17 => ?_) rfl
  · rintro fr' H' ⟨f2, f3, f4, f6, u, pl, hp, h8, f7, rfl⟩
    obtain ⟨l1, l2, l3, l4, l5, l6⟩ := parts_lens hp
    have hg := fun H : LH => rgood_cl (H := H) (u := u) (by omega) (by omega) (by omega)
    have hd := fun H : LH => rdparse_cl (H := H) (s := pl) (by omega)
    have ho := fun H : LH => rown_cl (H := H) (s := u.scheme)
    unfold Tg.Ur.parse at hr
    simp only at hr
    rw [if_neg h8, hp] at hr
    simp only at hr
    generalize hn : Tg.Ur.number pl u.scheme = n at hr
    unfold Tg.Ur.number at hn
    obtain ⟨sch, hst, prt, pth, q⟩ := u
    simp only at *
    subst l6
    cases hgo : Tg.Ur.good ⟨sch, hst, 0, pth, q⟩ with
    | false =>
      rw [hgo] at hr hg
      rw [if_neg (by decide)] at hr
      subst hr
      simp [f2, f3, f4, f6, f7, hg, Tg.Ur.none, ub, le3]
    | true =>
      rw [hgo] at hr hg
      rw [if_pos rfl] at hr
      by_cases hnil : pl = []
      · rw [if_pos hnil] at hn
        subst hn hnil
        rw [if_neg (by decide)] at hr
        subst hr
        simp [f2, f3, f4, f6, f7, hg, Tg.Ur.none, ub, le3]
      · rw [if_neg hnil] at hn
        by_cases hall : pl.all Tg.Ur.isD = false
        · rw [if_pos hall] at hn
          subst hn
          rw [if_pos (by decide)] at hr
          subst hr
          have hall2 : pl = [] ∨ pl.all Tg.Nu.isD = false := .inr hall
          simp only [if_pos hall2] at hd
          simp [f2, f3, f4, f6, f7, hg, hd, hnil, Tg.Ur.none, ub, le3]
        · rw [if_neg hall] at hn
          have hall2 : ¬ (pl = [] ∨ pl.all Tg.Nu.isD = false) := fun e => e.elim hnil hall
          simp only [if_neg hall2] at hd
          have hdv : Tg.Ur.dval pl = Tg.Nu.dv 0 pl := rfl
          rw [hdv] at hn
          generalize Tg.Nu.dv 0 pl = v at *
          by_cases hbig : 9007199254740991 < v
          · simp only [if_pos hbig] at hd
            rw [if_pos hbig] at hn
            subst hn
            rw [if_pos (by decide)] at hr
            subst hr
            simp [f2, f3, f4, f6, f7, hg, hd, hnil, Tg.Ur.none, ub, le3]
          · simp only [if_neg hbig] at hd
            rw [if_neg hbig] at hn
            by_cases hz : v = 0
            · rw [if_pos (.inl hz)] at hn
              subst hn hz
              rw [if_pos (by decide)] at hr
              subst hr
              simp [f2, f3, f4, f6, f7, hg, hd, hnil, Tg.Ur.none, ub, le3]
            · have qz : ((v : Int) = 0) = False := eq_false (by omega)
              by_cases hm : 65535 < v
              · rw [if_pos (.inr hm)] at hn
                subst hn
                rw [if_pos (by decide)] at hr
                subst hr
                have qm := eq_true (show (65535 : Int) < (v : Int) by omega)
                simp [f2, f3, f4, f6, f7, hg, hd, hnil, hz, qm, Tg.Ur.none, ub, le3]
              · have qm := eq_false (show ¬ (65535 : Int) < (v : Int) by omega)
                rw [if_neg (by omega)] at hn
                by_cases hown : (v : Int) = Tg.Ur.own sch
                · rw [if_pos hown] at hn
                  subst hn
                  rw [if_neg (by decide)] at hr
                  subst hr
                  generalize Tg.Ur.own sch = ow at *
                  subst hown
                  simp [f2, f3, f4, f6, f7, hg, hd, hnil, hz, qm, ho, Tg.Ur.none, ub, le3]
                · rw [if_neg hown] at hn
                  subst hn
                  rw [if_neg (by simp)] at hr
                  subst hr
                  simp [f2, f3, f4, f6, f7, hg, hd, hnil, hz, qm, ho, hown, Tg.Ur.none, ub, le3]
  refine runs_cut 14 (fun fr' H' => fr' 2 = ptr H.n 0 ∧ fr' 3 = .int .i64 0 ∧ fr' 4 = ptr (H.n + 1) 0 ∧ fr' 6 = ptr (H.n + 2) 0 ∧ ∃ sch hst pl rs, Tg.Ur.parts (Tg.Ur.trim s) = some (⟨sch, hst, 0, Tg.Ur.dots (Tg.Ur.qt (if rs.take (Tg.Ur.upto [63] rs) = [] then [47] else rs.take (Tg.Ur.upto [63] rs))), Tg.Ur.qt (rs.drop (Tg.Ur.upto [63] rs))⟩, pl) ∧ ¬ 8192 < (Tg.Ur.trim s).length ∧ rs.length ≤ 20000 ∧ fr' 0 = str rs ∧ fr' 7 = str pl ∧ H' = ((H.new (ub Tg.Ur.none)).new (ub Tg.Ur.none)).new (ub ⟨sch, hst, 0, [], []⟩)) ?_ (fun K14 hK14 => ?_) rfl
  · rintro fr' H' ⟨f2, f3, f4, f6, sch, hst, pl, rs, hp, h8, hrl, f0, f7, rfl⟩
    have hu := fun H : LH => rupto_cl (H := H) (s := rs) (p := [63]) (by omega) (by decide)
    have hul := Tg.Ur.upto_le [63] rs
    generalize hq : Tg.Ur.upto [63] rs = q at *
    have hl1 : (rs.take q).length = q := by rw [List.length_take]; omega
    have hl2 : (rs.drop q).length ≤ 20000 := by rw [List.length_drop]; omega
    have hq1 := fun H : LH => rquote_cl (H := H) (s := rs.take q) (by omega)
    have hq2 := fun H : LH => rquote_cl (H := H) (s := rs.drop q) (by omega)
    have hqt := Tg.Ur.qt_len _ (rs.take q) (Nat.le_refl _)
    have hdt := fun H : LH => rdots_cl (H := H) (s := Tg.Ur.qt (rs.take q)) (by omega)
    have qle := eq_true (show (q : Int) ≤ (rs.length : Int) by omega)
    by_cases h0 : q = 0
    · have e : rs.take q = [] := by rw [h0]; rfl
      rw [if_pos e, dots_one] at hp
      rw [e] at hq1 hdt
      rw [h0] at hu
      subst h0
      rw [List.drop_zero] at hq2 hp
      generalize hz : Tg.Ur.dots (Tg.Ur.qt []) = z at *
      generalize Tg.Ur.qt [] = z2 at *
      simp [f2, f3, f4, f6, f0, f7, hu, hq1, hq2, hdt, ub]
      refine hK17 _ _ ⟨?_, ?_, ?_, ?_, _, _, hp, h8, ?_, rfl⟩
      all_goals simp [f2, f3, f4, f6, f7]
    · have e : rs.take q ≠ [] := by intro e; rw [e] at hl1; exact h0 hl1.symm
      rw [if_neg e] at hp
      generalize eq0 : rs.drop q = q0 at *
      generalize ep0 : rs.take q = p0 at *
      simp [f2, f3, f4, f6, f0, f7, eq0, ep0, hul, hu, hq1, hq2, hdt, qle, h0, ub]
      refine hK17 _ _ ⟨?_, ?_, ?_, ?_, _, _, hp, h8, ?_, rfl⟩
      all_goals simp [f2, f3, f4, f6, f7]
  refine runs_cut 4 (fun fr' H' => fr' 0 = str (Tg.Ur.trim s) ∧ fr' 2 = ptr H.n 0 ∧ fr' 3 = .int .i64 0 ∧ fr' 4 = ptr (H.n + 1) 0 ∧ H' = (H.new (ub Tg.Ur.none)).new (ub Tg.Ur.none)) ?_ (fun K4 hK4 => ?_) rfl
  · rintro fr' H' ⟨f0, f2, f3, f4, rfl⟩
    unfold Tg.Ur.parse at hr
    simp only at hr
    generalize Tg.Ur.trim s = t at *
    by_cases h8 : 8192 < t.length
    · rw [if_pos h8] at hr
      subst hr
      have q8 := eq_true (show (8192 : Int) < (t.length : Int) by omega)
      simp [f0, f2, f3, f4, q8, Tg.Ur.none, ub, le2]
    · rw [if_neg h8] at hr
      have q8 := eq_false (show ¬ (8192 : Int) < (t.length : Int) by omega)
      have hu1 := fun H : LH => rupto_cl (H := H) (s := t) (p := [35]) (by omega) (by decide)
      have hul1 := Tg.Ur.upto_le [35] t
      have qu1 := eq_true (show (Tg.Ur.upto [35] t : Int) ≤ (t.length : Int) by omega)
      have hparts : Tg.Ur.parts t = Tg.Ur.parts t := rfl
      conv at hparts => rhs; unfold Tg.Ur.parts
      simp only at hparts
      generalize Tg.Ur.parts t = pt at *
      have hl1 : (t.take (Tg.Ur.upto [35] t)).length ≤ 20000 := by rw [List.length_take]; omega
      generalize es1 : t.take (Tg.Ur.upto [35] t) = s1 at *
      generalize Tg.Ur.upto [35] t = n1 at *
      have hu2 := fun H : LH => rupto_cl (H := H) (s := s1) (p := [58]) (by omega) (by decide)
      have hul2 := Tg.Ur.upto_le [58] s1
      generalize Tg.Ur.upto [58] s1 = k at *
      have qu2 := eq_true (show (k : Int) ≤ (s1.length : Int) by omega)
      have hl2 : (s1.drop k).length ≤ 20000 := by rw [List.length_drop]; omega
      have hpre := fun H : LH => rprefix_cl (H := H) (s := s1.drop k) (p := [58, 47, 47]) (by omega) (by decide)
      simp only [show ([58, 47, 47] : List UInt8).length = 3 from rfl] at hpre
      by_cases hp : (s1.drop k).take 3 = [58, 47, 47]
      · rw [if_pos hp] at hparts
        have hlen3 : k + 3 ≤ s1.length := by
          have := congrArg List.length hp
          rw [List.length_take, List.length_drop] at this
          simp at this; omega
        rw [decide_eq_true hp] at hpre
        have qk3 := eq_true (show ((k : Int) + 3) ≤ (s1.length : Int) by omega)
        have hw3 : IntKind.i64.wrap ((k : Int) + 3) = ((k + 3 : Nat) : Int) := by rw [wrapI (by omega) (by omega)]; omega
        have qk4 := eq_true (show ((k + 3 : Nat) : Int) ≤ (s1.length : Int) by omega)
        have hl3 : (s1.drop (k + 3)).length ≤ 20000 := by rw [List.length_drop]; omega
        have hl4 : (s1.take k).length ≤ 20000 := by rw [List.length_take]; omega
        have hlo1 := fun H : LH => rlower_cl (H := H) (s := s1.take k) (by omega)
        generalize hk3 : k + 3 = k3 at *
        generalize er : s1.drop k3 = r at *
        generalize esch : s1.take k = sch at *
        generalize es1d : s1.drop k = s1d at *
        have hu3 := fun H : LH => rupto_cl (H := H) (s := r) (p := [58, 47, 63]) (by omega) (by decide)
        have hul3 := Tg.Ur.upto_le [58, 47, 63] r
        generalize Tg.Ur.upto [58, 47, 63] r = h at *
        have qu3 := eq_true (show (h : Int) ≤ (r.length : Int) by omega)
        have hl5 : (r.take h).length ≤ 20000 := by rw [List.length_take]; omega
        have hl6 : (r.drop h).length ≤ 20000 := by rw [List.length_drop]; omega
        have hlo2 := fun H : LH => rlower_cl (H := H) (s := r.take h) (by omega)
        generalize ehst : r.take h = hst at *
        generalize er2 : r.drop h = r2 at *
        have hfin := fun fr' pl rs (e : Tg.Ur.cutPort r2 = (pl, rs)) (hrl : rs.length ≤ 20000) (g2 : fr' 2 = ptr H.n 0) (g3 : fr' 3 = .int .i64 0) (g4 : fr' 4 = ptr (H.n + 1) 0) (g6 : fr' 6 = ptr (H.n + 2) 0) (g0 : fr' 0 = str rs) (g7 : fr' 7 = str pl) =>
          hK14 fr' _ ⟨g2, g3, g4, g6, Tg.Lo.lower sch, Tg.Lo.lower hst, pl, rs, by rw [hparts, e], h8, hrl, g0, g7, rfl⟩
        clear hK14
        generalize Tg.Lo.lower sch = lsch at *
        generalize Tg.Lo.lower hst = lhst at *
        cases r2 with
        | nil =>
          simp [f0, f2, f3, f4, q8, es1, er, esch, es1d, ehst, er2, hu1, qu1, hul1, hu2, qu2, hul2, hpre, qk3, hw3, qk4, hlo1, hu3, qu3, hul3, hlo2, ub]
          refine hfin _ [] [] rfl (by simp) ?_ ?_ ?_ ?_ ?_ ?_
          all_goals simp [f2, f3, f4]
        | cons c r3 =>
          have a0 : at_ (c :: r3) 0 = c := rfl
          have q1 := eq_true (show (0 : Int) < (r3.length : Int) + 1 by omega)
          by_cases hc : c = 58
          · subst hc
            have hu4 := fun H : LH => rupto_cl (H := H) (s := 58 :: r3) (p := [47, 63]) (by omega) (by decide)
            rw [upto_cons (by decide)] at hu4
            have hul4 := Tg.Ur.upto_le [47, 63] r3
            have ecut : Tg.Ur.cutPort (58 :: r3) = (r3.take (Tg.Ur.upto [47, 63] r3), r3.drop (Tg.Ur.upto [47, 63] r3)) := rfl
            generalize Tg.Ur.upto [47, 63] r3 = j at *
            have hl7 : (r3.drop j).length ≤ 20000 := by rw [List.length_drop]; simp at hl6; omega
            have hs1 : sub (58 :: r3) 1 ((j + 1 : Nat) : Int) = r3.take j := by
              unfold sub
              rw [show ((1 : Int).toNat) = 1 from rfl, Int.toNat_natCast]; rfl
            have qj1 := eq_true (show ((j + 1 : Nat) : Int) ≤ ((r3.length : Int) + 1) by omega)
            have qj2 := eq_true (show (1 : Int) ≤ ((j + 1 : Nat) : Int) by omega)
            have hdj : (58 :: r3).drop (j + 1) = r3.drop j := rfl
            generalize hj : j + 1 = j1 at *
            simp [f0, f2, f3, f4, q8, es1, er, esch, es1d, ehst, er2, hu1, qu1, hul1, hu2, qu2, hul2, hpre, qk3, hw3, qk4, hlo1, hu3, qu3, hul3, hlo2, a0, q1, hu4, qj1, qj2, hs1, hdj, ub]
            refine hfin _ _ _ ecut hl7 ?_ ?_ ?_ ?_ ?_ ?_
            all_goals simp [f2, f3, f4]
          · have ecut : Tg.Ur.cutPort (c :: r3) = ([], c :: r3) := by
              unfold Tg.Ur.cutPort
              split
              · rename_i e; injection e with e; exact absurd e hc
              · rfl
            simp [f0, f2, f3, f4, q8, es1, er, esch, es1d, ehst, er2, hu1, qu1, hul1, hu2, qu2, hul2, hpre, qk3, hw3, qk4, hlo1, hu3, qu3, hul3, hlo2, a0, q1, hc, ub]
            refine hfin _ _ _ ecut hl6 ?_ ?_ ?_ ?_ ?_ ?_
            all_goals simp [f0, f2, f3, f4]
      · rw [if_neg hp] at hparts
        rw [decide_eq_false hp] at hpre
        rw [hparts] at hr
        simp only at hr
        subst hr
        generalize es1d : s1.drop k = s1d at *
        simp [f0, f2, f3, f4, q8, es1, es1d, hu1, qu1, hul1, hu2, qu2, hul2, hpre, Tg.Ur.none, ub, le2]
  refine runs_cut 3 (fun fr' H' => fr' 0 = str (Tg.Ur.trimL s) ∧ fr' 2 = ptr H.n 0 ∧ fr' 3 = .int .i64 0 ∧ fr' 4 = ptr (H.n + 1) 0 ∧ H' = (H.new (ub Tg.Ur.none)).new (ub Tg.Ur.none)) ?_ (fun K3 hK3 => ?_) rfl
  · rintro fr' H' ⟨f0, f2, f3, f4, rfl⟩
    have hll : (Tg.Ur.trimL s).length ≤ 20000 := Nat.le_trans (dw_le _) hs
    have hfin := fun fr' (g0 : fr' 0 = str (Tg.Ur.trim s)) (g2 : fr' 2 = ptr H.n 0) (g3 : fr' 3 = .int .i64 0) (g4 : fr' 4 = ptr (H.n + 1) 0) => hK4 fr' _ ⟨g0, g2, g3, g4, rfl⟩
    clear hK4
    unfold Tg.Ur.trim at hfin
    obtain ⟨y, hy⟩ : ∃ y, y = ((Tg.Ur.trimL s).reverse.dropWhile fun b => decide ((b.toNat : Int) ≤ 32)).reverse := ⟨_, rfl⟩
    rw [← hy] at hfin
    generalize Tg.Ur.trimL s = t at *
    simp
    refine loop_ind (fun (t' : List UInt8) fr' H' => fr' 0 = str t' ∧ fr' 2 = ptr H.n 0 ∧ fr' 3 = .int .i64 0 ∧ fr' 4 = ptr (H.n + 1) 0 ∧ t'.length ≤ 20000 ∧ y = (t'.reverse.dropWhile fun b => decide ((b.toNat : Int) ≤ 32)).reverse ∧ H' = (H.new (ub Tg.Ur.none)).new (ub Tg.Ur.none)) (fun t' => t'.length) t ⟨by simp [f0], by simp [f2], by simp [f3], by simp [f4], hll, hy, rfl⟩ ?_
    rintro t' fr' H' ⟨h0, h2, h3, h4, hl, hc, rfl⟩ ih
    rcases List.eq_nil_or_concat t' with rfl | ⟨r, c, rfl⟩
    · have hc : y = [] := hc
      subst hc
      simp [h0]
      refine hfin _ ?_ ?_ ?_ ?_
      all_goals simp [h0, h2, h3, h4]
    · rw [List.concat_eq_append] at *
      rw [List.reverse_append, List.reverse_singleton, List.singleton_append, List.dropWhile_cons] at hc
      have hlen : (r ++ [c]).length = r.length + 1 := by simp
      have hat : at_ (r ++ [c]) (r.length : Int) = c := by
        rw [at_in (by simp)]; simp
      have hw : IntKind.i64.wrap (((r ++ [c]).length : Int) - 1) = (r.length : Int) := by rw [wrapI (by omega) (by omega)]; omega
      have hw2 : IntKind.i64.wrap (((r.length : Int) + 1) - 1) = (r.length : Int) := by rw [wrapI (by omega) (by omega)]; omega
      have hw4 : IntKind.i64.wrap (r.length : Int) = (r.length : Int) := wrapI (by omega) (by omega)
      have q1 := eq_true (show (0 : Int) < (r.length : Int) + 1 by omega)
      have q2 := eq_true (show (r.length : Int) < (r.length : Int) + 1 by omega)
      have q3 := eq_true (show (r.length : Int) ≤ (r.length : Int) + 1 by omega)
      by_cases h32 : (c.toNat : Int) ≤ 32
      · rw [if_pos (by simpa using h32)] at hc
        have h33 := eq_true (show (c.toNat : Int) < 33 by omega)
        simp [h0, hw, hw2, hw4, q1, q2, q3, hat, h33]
        refine ih r _ _ (by simp) ⟨?_, ?_, ?_, ?_, by omega, hc, rfl⟩
        all_goals simp [h2, h3, h4]
      · rw [if_neg (by simpa using h32)] at hc
        have h33 := eq_false (show ¬ (c.toNat : Int) < 33 by omega)
        have hc : y = r ++ [c] := by rw [hc]; simp
        subst hc
        simp [h0, hw, hw2, hw4, q1, q2, q3, hat, h33]
        refine hfin _ ?_ ?_ ?_ ?_
        all_goals simp [h0, h2, h3, h4]
  have hfin := fun fr' (g0 : fr' 0 = str (Tg.Ur.trimL s)) (g2 : fr' 2 = ptr H.n 0) (g3 : fr' 3 = .int .i64 0) (g4 : fr' 4 = ptr (H.n + 1) 0) => hK3 fr' _ ⟨g0, g2, g3, g4, rfl⟩
  clear hK3 hr htl
  obtain ⟨y, hy⟩ : ∃ y, y = Tg.Ur.trimL s := ⟨_, rfl⟩
  rw [← hy] at hfin
  unfold Tg.Ur.trimL at hy
  simp
  refine loop_ind (fun (t' : List UInt8) fr' H' => fr' 0 = str t' ∧ fr' 2 = ptr H.n 0 ∧ fr' 3 = .int .i64 0 ∧ fr' 4 = ptr (H.n + 1) 0 ∧ t'.length ≤ 20000 ∧ y = (t'.dropWhile fun b => decide ((b.toNat : Int) ≤ 32)) ∧ H' = (H.new (ub Tg.Ur.none)).new (ub Tg.Ur.none)) (fun t' => t'.length) s ⟨by simp, by simp, by simp, by simp, hs, hy, rfl⟩ ?_
  rintro t' fr' H' ⟨h0, h2, h3, h4, hl, hc, rfl⟩ ih
  cases t' with
  | nil =>
    have hc : y = [] := hc
    subst hc
    simp [h0]
    refine hfin _ ?_ ?_ ?_ ?_
    all_goals simp [h0, h2, h3, h4]
  | cons c r =>
    rw [List.dropWhile_cons] at hc
    have a0 : at_ (c :: r) 0 = c := rfl
    have q1 := eq_true (show (0 : Int) < (r.length : Int) + 1 by omega)
    have q2 := eq_true (show (1 : Int) ≤ (r.length : Int) + 1 by omega)
    by_cases h32 : (c.toNat : Int) ≤ 32
    · rw [if_pos (by simpa using h32)] at hc
      have h33 := eq_true (show (c.toNat : Int) < 33 by omega)
      simp [h0, a0, q1, q2, h33]
      refine ih r _ _ (by simp) ⟨?_, ?_, ?_, ?_, by simp at hl; omega, hc, rfl⟩
      all_goals simp [h2, h3, h4]
    · rw [if_neg (by simpa using h32)] at hc
      have h33 := eq_false (show ¬ (c.toNat : Int) < 33 by omega)
      subst hc
      simp [h0, a0, q1, q2, h33]
      refine hfin _ ?_ ?_ ?_ ?_
      all_goals simp [h0, h2, h3, h4]
end
end Go.Proofs.YteckofomnhminaaGreatDoor
/-
  Layer 26 (url): a good place comes back from its text; in plain words.
-/
set_option linter.unusedSimpArgs false
set_option linter.unusedVariables false
set_option maxRecDepth 100000
namespace Tg.Ur
open Go.Proofs.YteckofomnhminaaGreatDoor
theorem dw_id {q : UInt8 → Bool} : ∀ {s : List UInt8}, (∀ b ∈ s, q b = false) → s.dropWhile q = s
  | [], _ => rfl
  | b :: r, h => by rw [List.dropWhile_cons, if_neg (by rw [h b (by simp)]; decide)]
theorem trim_id {s : List UInt8} (h : ∀ b ∈ s, (32 : Int) < b.toNat) : trim s = s := by
  have hq : ∀ b : UInt8, (32 : Int) < b.toNat → decide ((b.toNat : Int) ≤ 32) = false := fun b hb => decide_eq_false (by omega)
  unfold trim trimL
  rw [dw_id (fun b hb => hq b (h b hb)), dw_id (fun b hb => hq b (h b (List.mem_reverse.mp hb))), List.reverse_reverse]
theorem upto_at {p r : List UInt8} {c : UInt8} (hc : p.contains c = true) : ∀ {a : List UInt8}, free p a = true → upto p (a ++ c :: r) = a.length
  | [], _ => by unfold upto; rw [List.nil_append, List.takeWhile_cons, hc]; rfl
  | x :: a, h => by
    unfold free at h
    rw [List.all_cons, Bool.and_eq_true] at h
    have ih := upto_at (r := r) hc (a := a) h.2
    unfold upto at ih ⊢
    rw [List.cons_append, List.takeWhile_cons, if_pos h.1, List.length_cons, ih]; rfl
theorem upto_free {p : List UInt8} : ∀ {a : List UInt8}, free p a = true → upto p a = a.length
  | [], _ => rfl
  | x :: a, h => by
    unfold free at h
    rw [List.all_cons, Bool.and_eq_true] at h
    have ih := upto_free (a := a) h.2
    unfold upto at ih ⊢
    rw [List.takeWhile_cons, if_pos h.1, List.length_cons, ih]; rfl
theorem free_app {p a b : List UInt8} : free p (a ++ b) = (free p a && free p b) := List.all_append
theorem free_of {p s : List UInt8} (h : ∀ b ∈ s, p.contains b = false) : free p s = true := by
  unfold free
  rw [List.all_eq_true]
  intro b hb
  rw [h b hb]; rfl
theorem free_sub {p q s : List UInt8} (hs : ∀ b, q.contains b = true → p.contains b = true) (h : free p s = true) : free q s = true := by
  refine free_of fun b hb => ?_
  unfold free at h
  have := List.all_eq_true.mp h b hb
  cases e : q.contains b with
  | false => rfl
  | true => rw [hs b e] at this; cases this
theorem name_F : ∀ k : Fin 256, isName (UInt8.ofNat k.1) = true → ([58, 47, 63, 35] : List UInt8).contains (UInt8.ofNat k.1) = false ∧ Tg.Lo.low (UInt8.ofNat k.1) = UInt8.ofNat k.1 ∧ (32 : Int) < (UInt8.ofNat k.1).toNat := by decide +kernel
theorem u8_of (b : UInt8) : UInt8.ofNat b.toNat = b := UInt8.ofNat_toNat
theorem name_b {b : UInt8} (h : isName b = true) : ([58, 47, 63, 35] : List UInt8).contains b = false ∧ Tg.Lo.low b = b ∧ (32 : Int) < b.toNat := by
  have := name_F ⟨b.toNat, b.toNat_lt⟩
  rw [u8_of] at this
  exact this h
theorem dig_F : ∀ k : Fin 256, isD (UInt8.ofNat k.1) = true → ([58, 47, 63, 35] : List UInt8).contains (UInt8.ofNat k.1) = false ∧ (32 : Int) < (UInt8.ofNat k.1).toNat := by decide +kernel
theorem dig_b {b : UInt8} (h : isD b = true) : ([58, 47, 63, 35] : List UInt8).contains b = false ∧ (32 : Int) < b.toNat := by
  have := dig_F ⟨b.toNat, b.toNat_lt⟩
  rw [u8_of] at this
  exact this h
theorem dg_F : ∀ k : Fin 10, isD (([48, 49, 50, 51, 52, 53, 54, 55, 56, 57] : List UInt8).getD k.1 0) = true ∧ (([48, 49, 50, 51, 52, 53, 54, 55, 56, 57] : List UInt8).getD k.1 0).toNat - 48 = k.1 := by decide
theorem dval_app (a b : List UInt8) : dval (a ++ b) = b.foldl (fun n b => 10 * n + (b.toNat - 48)) (dval a) := by
  unfold dval; rw [List.foldl_append]
theorem dd_val : ∀ n : Nat, dval (Go.Lib.decDigits n) = n ∧ (Go.Lib.decDigits n).all isD = true ∧ Go.Lib.decDigits n ≠ []
  | n => by
    by_cases h : n < 10
    · rw [dd_small h]
      obtain ⟨q1, q2⟩ := dg_F ⟨n, h⟩
      dsimp only at q1 q2
      generalize ([48, 49, 50, 51, 52, 53, 54, 55, 56, 57] : List UInt8).getD n 0 = d at *
      refine ⟨?_, ?_, by simp⟩
      · show 10 * 0 + (d.toNat - 48) = n
        omega
      · rw [List.all_cons, q1]; rfl
    · have ih := dd_val (n / 10)
      obtain ⟨q1, q2⟩ := dg_F ⟨n % 10, by omega⟩
      dsimp only at q1 q2
      rw [dd_big h, dd_small (n := n % 10) (by omega)]
      generalize ([48, 49, 50, 51, 52, 53, 54, 55, 56, 57] : List UInt8).getD (n % 10) 0 = d at *
      refine ⟨?_, ?_, by simp⟩
      · rw [dval_app, ih.1]
        show 10 * (n / 10) + (d.toNat - 48) = n
        omega
      · rw [List.all_append, ih.2.1, List.all_cons, q1]; rfl
theorem dd_pow : ∀ (k n : Nat), n < 10 ^ (k + 1) → (Go.Lib.decDigits n).length ≤ k + 1
  | k, n, h => by
    by_cases h1 : n < 10
    · rw [dd_small h1]; simp
    · cases k with
      | zero => omega
      | succ k =>
        have := dd_pow k (n / 10) (by rw [Nat.pow_succ] at h; omega)
        rw [dd_big h1, List.length_append, dd_small (n := n % 10) (by omega)]
        simp only [List.length_cons, List.length_nil]
        omega
theorem itoa_short {n : Int} (h1 : -9223372036854775808 ≤ n) (h2 : n ≤ 9223372036854775807) : (Go.Lib.itoa n).length ≤ 30 := by
  have e : (10 : Nat) ^ (19 + 1) = 100000000000000000000 := by decide
  unfold Go.Lib.itoa
  split
  · have := dd_pow 19 n.natAbs (by rw [e]; omega)
    have := dd_pow 19 (-n).toNat (by rw [e]; omega)
    simp only [List.length_cons]; omega
  · have := dd_pow 19 n.toNat (by rw [e]; omega)
    omega
theorem itoa_dd {n : Int} (h : 0 ≤ n) : Go.Lib.itoa n = Go.Lib.decDigits n.toNat := by
  unfold Go.Lib.itoa; rw [if_neg (by omega)]
theorem hd_F : ∀ k : Fin 16, (32 : Int) < (hd16 k.1).toNat := by decide
theorem esc_hi {s e : List UInt8} (h : esc s = some e) : ∀ b ∈ e, (32 : Int) < b.toNat := by
  unfold esc at h
  split at h
  · split at h
    · rename_i a b ha hb
      injection h with h
      subst h
      intro c hc
      simp only [List.mem_cons, List.not_mem_nil, or_false] at hc
      rcases hc with rfl | rfl | rfl
      · decide
      · exact hd_F ⟨a, hx_lt ha⟩
      · exact hd_F ⟨b, hx_lt hb⟩
    · cases h
  · cases h
theorem one_hi (b : UInt8) : ∀ c ∈ (if okB b then [b] else pct b), (32 : Int) < c.toNat := by
  intro c hc
  split at hc
  · rename_i h
    simp only [List.mem_cons, List.not_mem_nil, or_false] at hc
    subst hc
    unfold okB at h
    simp only [Bool.and_eq_true, decide_eq_true_eq] at h
    exact h.1.1
  · unfold pct at hc
    have hlt := b.toNat_lt
    simp only [List.mem_cons, List.not_mem_nil, or_false] at hc
    rcases hc with rfl | rfl | rfl
    · decide
    · exact hd_F ⟨b.toNat / 16, by omega⟩
    · exact hd_F ⟨b.toNat % 16, by omega⟩
theorem qt_hi : ∀ (n : Nat) (s : List UInt8), s.length ≤ n → ∀ b ∈ qt s, (32 : Int) < b.toNat
  | n, [], _ => by rw [qt]; simp
  | n, b :: r, h => by
    cases n with
    | zero => simp at h
    | succ n =>
      cases he : esc (b :: r) with
      | some e =>
        have ih := qt_hi n (r.drop 2) (by simp at h ⊢; omega)
        rw [qt, he]
        intro c hc
        rcases List.mem_append.mp hc with g | g
        · exact esc_hi he c g
        · exact ih c g
      | none =>
        have ih := qt_hi n r (by simp at h ⊢; omega)
        rw [qt, he]
        intro c hc
        rcases List.mem_append.mp hc with g | g
        · exact one_hi b c g
        · exact ih c g
theorem own_sch {s : List UInt8} (h : own s ≠ 0) : s = [104, 116, 116, 112] ∨ s = [119, 115] ∨ s = [104, 116, 116, 112, 115] ∨ s = [119, 115, 115] := by
  unfold own at h
  split at h
  · rename_i g; rcases g with g | g
    · exact .inl g
    · exact .inr (.inl g)
  · split at h
    · rename_i g; rcases g with g | g
      · exact .inr (.inr (.inl g))
      · exact .inr (.inr (.inr g))
    · exact absurd rfl h
theorem sch_facts {s : List UInt8} (h : own s ≠ 0) : free [35] s = true ∧ free [58] s = true ∧ Tg.Lo.lower s = s ∧ (∀ b ∈ s, (32 : Int) < b.toNat) ∧ s.length ≤ 5 := by
  rcases own_sch h with rfl | rfl | rfl | rfl <;> decide
theorem name_facts {s : List UInt8} (h : named s = true) : free [35] s = true ∧ free [58, 47, 63] s = true ∧ free [58] s = true ∧ Tg.Lo.lower s = s ∧ (∀ b ∈ s, (32 : Int) < b.toNat) ∧ s.length ≤ 253 := by
  unfold named at h
  simp only [Bool.and_eq_true, decide_eq_true_eq] at h
  have hall := h.1.1.2
  have hlen := h.1.1.1.2
  rw [List.all_eq_true] at hall
  have hf : free [58, 47, 63, 35] s = true := free_of fun b hb => (name_b (hall b hb)).1
  refine ⟨free_sub ?_ hf, free_sub ?_ hf, free_sub ?_ hf, ?_, fun b hb => (name_b (hall b hb)).2.2, hlen⟩
  · intro b hb; simp at hb ⊢; simp [hb]
  · intro b hb; simp at hb ⊢; rcases hb with e | e | e <;> simp [e]
  · intro b hb; simp at hb ⊢; simp [hb]
  · unfold Tg.Lo.lower
    conv => rhs; rw [← List.map_id s]
    exact List.map_congr_left fun b hb => (name_b (hall b hb)).2.1
theorem itoa_facts {n : Int} (h : 0 ≤ n) : free [35] (Go.Lib.itoa n) = true ∧ free [47, 63] (Go.Lib.itoa n) = true ∧ (∀ b ∈ Go.Lib.itoa n, (32 : Int) < b.toNat) ∧ (Go.Lib.itoa n).all isD = true ∧ Go.Lib.itoa n ≠ [] ∧ dval (Go.Lib.itoa n) = n.toNat := by
  rw [itoa_dd h]
  obtain ⟨h1, h2, h3⟩ := dd_val n.toNat
  generalize Go.Lib.decDigits n.toNat = s at *
  have hall := List.all_eq_true.mp h2
  have hf : free [58, 47, 63, 35] s = true := free_of fun b hb => (dig_b (hall b hb)).1
  refine ⟨free_sub ?_ hf, free_sub ?_ hf, fun b hb => (dig_b (hall b hb)).2, h2, h3, h1⟩
  · intro b hb; simp at hb ⊢; simp [hb]
  · intro b hb; simp at hb ⊢; rcases hb with e | e <;> simp [e]
/-- what a good place is -/
structure GoodP (u : Url) : Prop where
  own : own u.scheme ≠ 0
  lo : 0 ≤ u.port
  hi : u.port ≤ 65535
  ne : u.port ≠ Tg.Ur.own u.scheme
  path : ∃ r, u.path = 47 :: r
  dots : dots u.path = u.path
  qt : qt u.path = u.path
  free : free [63, 35] u.path = true
  query : u.query = [] ∨ ∃ r, u.query = 63 :: r
  qtq : Tg.Ur.qt u.query = u.query
  freeq : Tg.Ur.free [35] u.query = true
  host : named u.host = true
theorem good_iff (u : Url) : good u = true ↔ GoodP u := by
  have hro := own_rng u.scheme
  constructor
  · intro h
    rw [good_eq] at h
    unfold placeB pathB queryB at h
    simp only [Bool.and_eq_true, Bool.or_eq_true, decide_eq_true_eq] at h
    obtain ⟨⟨⟨⟨h1, h2⟩, ⟨⟨⟨h3, h4⟩, h5⟩, h6⟩⟩, h7⟩, h8⟩ := h
    refine ⟨h1, by omega, by omega, by omega, ?_, h4, h5, h6, ?_, ?_, ?_, h8⟩
    · cases hp : u.path with
      | nil => rw [hp] at h3; cases h3
      | cons c r => rw [hp] at h3; injection h3 with h3; exact ⟨r, by rw [← h3]⟩
    · rcases h7 with h7 | ⟨⟨h7, _⟩, _⟩
      · exact .inl h7
      · cases hp : u.query with
        | nil => exact .inl rfl
        | cons c r => rw [hp] at h7; injection h7 with h7; exact .inr ⟨r, by rw [← h7]⟩
    · rcases h7 with h7 | ⟨⟨_, h7⟩, _⟩
      · rw [h7, Tg.Ur.qt]
      · exact h7
    · rcases h7 with h7 | ⟨_, h7⟩
      · rw [h7]; rfl
      · exact h7
  · intro ⟨h1, h2, h3, h4, ⟨r, h5⟩, h6, h7, h8, h9, h10, h11, h12⟩
    rw [good_eq]
    unfold placeB pathB queryB
    simp only [Bool.and_eq_true, Bool.or_eq_true, decide_eq_true_eq]
    refine ⟨⟨⟨⟨h1, ?_⟩, ⟨⟨⟨by rw [h5]; rfl, h6⟩, h7⟩, h8⟩⟩, ?_⟩, h12⟩
    · by_cases z : u.port = 0
      · exact .inl z
      · exact .inr ⟨⟨by omega, h3⟩, h4⟩
    · rcases h9 with h9 | ⟨r2, h9⟩
      · exact .inl h9
      · exact .inr ⟨⟨by rw [h9]; rfl, h10⟩, h11⟩
theorem hi_app {a b : List UInt8} (h1 : ∀ c ∈ a, (32 : Int) < c.toNat) (h2 : ∀ c ∈ b, (32 : Int) < c.toNat) : ∀ c ∈ a ++ b, (32 : Int) < c.toNat := by
  intro c hc
  rcases List.mem_append.mp hc with g | g
  · exact h1 c g
  · exact h2 c g
def portT (u : Url) : List UInt8 := if u.port ≠ 0 then 58 :: Go.Lib.itoa u.port else []
theorem textP_eq (u : Url) : textP u = u.scheme ++ 58 :: 47 :: 47 :: (u.host ++ (portT u ++ (u.path ++ u.query))) := by
  unfold textP portT
  simp only [List.append_assoc, List.cons_append, List.nil_append]
theorem portT_facts {u : Url} (g : GoodP u) : free [35] (portT u) = true ∧ (∀ b ∈ portT u, (32 : Int) < b.toNat) := by
  have := itoa_facts g.lo
  unfold portT
  split
  · refine ⟨?_, ?_⟩
    · have h := this.1
      unfold free at h ⊢
      rw [List.all_cons, h]; rfl
    · intro b hb
      rcases List.mem_cons.mp hb with rfl | hb
      · decide
      · exact this.2.2.1 b hb
  · exact ⟨rfl, by simp⟩
theorem text_facts {u : Url} (g : GoodP u) : free [35] (textP u) = true ∧ (∀ b ∈ textP u, (32 : Int) < b.toNat) := by
  obtain ⟨s1, _, _, s4, _⟩ := sch_facts g.own
  obtain ⟨n1, _, _, _, n5, _⟩ := name_facts g.host
  obtain ⟨p1, p2⟩ := portT_facts g
  have q1 : free [35] u.path = true := free_sub (by intro b hb; simp at hb ⊢; simp [hb]) g.free
  have hp := qt_hi _ u.path (Nat.le_refl _)
  have hq := qt_hi _ u.query (Nat.le_refl _)
  rw [g.qt] at hp
  rw [g.qtq] at hq
  rw [textP_eq]
  refine ⟨?_, ?_⟩
  · rw [free_app, s1, show (58 :: 47 :: 47 :: (u.host ++ (portT u ++ (u.path ++ u.query))) : List UInt8) = [58, 47, 47] ++ (u.host ++ (portT u ++ (u.path ++ u.query))) from rfl, free_app, free_app, free_app, free_app, n1, p1, q1, g.freeq]; decide
  · exact hi_app s4 (hi_app (a := [58, 47, 47]) (by decide) (hi_app n5 (hi_app p2 (hi_app hp hq))))
theorem drop_add (a r : List UInt8) (n : Nat) : (a ++ r).drop (a.length + n) = r.drop n := by
  have : (a ++ r).drop (a.length + n) = ((a ++ r).drop a.length).drop n := by rw [List.drop_drop]
  rw [this, List.drop_left]
theorem parts_text {u : Url} (g : GoodP u) : parts (textP u) = some ({ u with port := 0 }, if u.port ≠ 0 then Go.Lib.itoa u.port else []) := by
  obtain ⟨s1, s2, s3, _, _⟩ := sch_facts g.own
  obtain ⟨n1, n2, _, n4, _, _⟩ := name_facts g.host
  obtain ⟨t1, _⟩ := text_facts g
  have it := itoa_facts g.lo
  obtain ⟨pr, hpr⟩ := g.path
  have hq : upto [63] (u.path ++ u.query) = u.path.length := by
    have hf : free [63] u.path = true := free_sub (by intro b hb; simp at hb ⊢; simp [hb]) g.free
    rcases g.query with e | ⟨r, e⟩
    · rw [e, List.append_nil]; exact upto_free hf
    · rw [e]; exact upto_at rfl hf
  have hr : upto [58, 47, 63] (u.host ++ (portT u ++ (u.path ++ u.query))) = u.host.length := by
    unfold portT
    by_cases h0 : u.port = 0
    · rw [if_neg (by simp [h0]), hpr]; exact upto_at rfl n2
    · rw [if_pos h0]; exact upto_at rfl n2
  have hc : cutPort (portT u ++ (u.path ++ u.query)) = (if u.port ≠ 0 then Go.Lib.itoa u.port else [], u.path ++ u.query) := by
    unfold portT
    by_cases h0 : u.port = 0
    · rw [if_neg (by simp [h0]), if_neg (by simp [h0]), hpr]; rfl
    · rw [if_pos h0, if_pos h0]
      have hu : upto [47, 63] (Go.Lib.itoa u.port ++ (u.path ++ u.query)) = (Go.Lib.itoa u.port).length := by
        rw [hpr]; exact upto_at rfl it.2.1
      show ((Go.Lib.itoa u.port ++ (u.path ++ u.query)).take (upto [47, 63] (Go.Lib.itoa u.port ++ (u.path ++ u.query))), (Go.Lib.itoa u.port ++ (u.path ++ u.query)).drop (upto [47, 63] (Go.Lib.itoa u.port ++ (u.path ++ u.query)))) = _
      rw [hu, List.take_left, List.drop_left]
  have hne : ¬ u.path = [] := by rw [hpr]; simp
  unfold parts
  simp only
  rw [upto_free t1, List.take_length, textP_eq, upto_at (c := 58) rfl s2, List.drop_left, List.take_left, drop_add]
  rw [if_pos (show List.take 3 (58 :: 47 :: 47 :: (u.host ++ (portT u ++ (u.path ++ u.query))) : List UInt8) = [58, 47, 47] from rfl)]
  rw [show List.drop 3 (58 :: 47 :: 47 :: (u.host ++ (portT u ++ (u.path ++ u.query))) : List UInt8) = u.host ++ (portT u ++ (u.path ++ u.query)) from rfl, hr, List.take_left, List.drop_left, hc]
  simp only
  rw [hq, List.take_left, List.drop_left, if_neg hne, g.qt, g.dots, g.qtq, s3, n4]
theorem number_text {u : Url} (g : GoodP u) : number (if u.port ≠ 0 then Go.Lib.itoa u.port else []) u.scheme = (u.port, 0) := by
  have ⟨_, _, _, i4, i5, i6⟩ := itoa_facts g.lo
  have h1 := g.lo
  have h2 := g.hi
  unfold number
  by_cases h0 : u.port = 0
  · have e : (if u.port ≠ 0 then Go.Lib.itoa u.port else []) = [] := if_neg (by simp [h0])
    rw [e, if_pos rfl, h0]
  · have e : (if u.port ≠ 0 then Go.Lib.itoa u.port else []) = Go.Lib.itoa u.port := if_pos h0
    rw [e, if_neg i5, if_neg (by rw [i4]; simp), i6, if_neg (by omega), if_neg (by omega), if_neg (by have := g.ne; omega)]
    rw [show ((u.port.toNat : Nat) : Int) = u.port by omega]
theorem parse_text {u : Url} (hg : good u = true) (hl : (textP u).length ≤ 8192) : parse (textP u) = (u, 0) := by
  have g := (good_iff u).mp hg
  have g0 : good { u with port := 0 } = true := (good_iff _).mpr ⟨g.own, Int.le_refl _, (show (0 : Int) ≤ 65535 by decide), fun e => g.own e.symm, g.path, g.dots, g.qt, g.free, g.query, g.qtq, g.freeq, g.host⟩
  unfold parse
  simp only
  rw [trim_id (text_facts g).2, if_neg (by omega), parts_text g]
  simp only
  rw [if_pos g0, number_text g]
  simp
/-- what is read is good -/
theorem parse_good {s : List UInt8} (h : (parse s).2 = 0) : good (parse s).1 = true := by
  unfold parse at h ⊢
  simp only at h ⊢
  generalize trim s = t at *
  split at h
  · cases h
  · rename_i h8
    rw [if_neg h8]
    cases hp : parts t with
    | none => rw [hp] at h; cases h
    | some x =>
      obtain ⟨u, pl⟩ := x
      rw [hp] at h
      simp only at h ⊢
      split at h
      · rename_i hg
        rw [if_pos hg]
        generalize hn : number pl u.scheme = n at *
        by_cases hz : n.2 = 0
        · rw [if_neg (by simp [hz])]
          have g := (good_iff u).mp hg
          have hr : 0 ≤ n.1 ∧ n.1 ≤ 65535 ∧ n.1 ≠ own u.scheme := by
            have ho := g.own
            rw [← hn] at hz ⊢
            unfold number at hz ⊢
            split at hz
            · rename_i q; rw [if_pos q]; exact ⟨by decide, by decide, fun e => ho e.symm⟩
            · rename_i q; rw [if_neg q]
              split at hz
              · cases hz
              · rename_i q; rw [if_neg q]
                split at hz
                · cases hz
                · rename_i q; rw [if_neg q]
                  split at hz
                  · cases hz
                  · rename_i q; rw [if_neg q]
                    split
                    · exact ⟨by decide, by decide, fun e => ho e.symm⟩
                    · rename_i q2; simp only; exact ⟨by omega, by omega, q2⟩
          exact (good_iff _).mpr ⟨g.own, hr.1, hr.2.1, hr.2.2, g.path, g.dots, g.qt, g.free, g.query, g.qtq, g.freeq, g.host⟩
        · rw [if_pos hz] at h
          exact absurd h hz
      · cases h
theorem trim_len (s : List UInt8) : (trim s).length ≤ s.length := by
  unfold trim trimL
  rw [List.length_reverse]
  refine Nat.le_trans (dw_le _) ?_
  rw [List.length_reverse]
  exact dw_le _
theorem none_small : Small none := ⟨by decide, by decide, by decide, by decide, by decide, by decide⟩
theorem parse_lens {s : List UInt8} : ((parse s).1.host.length ≤ s.length ∧ (parse s).1.scheme.length ≤ s.length ∧ (parse s).1.path.length ≤ 3 * s.length + 3 ∧ (parse s).1.query.length ≤ 3 * s.length ∧ 0 ≤ (parse s).1.port ∧ (parse s).1.port ≤ 65535) := by
  by_cases h : (parse s).2 = 0
  · have g := (good_iff _).mp (parse_good h)
    refine ⟨?_, ?_, ?_, ?_, g.lo, g.hi⟩
    all_goals
      have hl := trim_len s
      unfold parse at h ⊢
      simp only at h ⊢
      generalize trim s = t at *
      split at h
      · cases h
      · rename_i h8
        rw [if_neg h8]
        cases hp : parts t with
        | none => rw [hp] at h; cases h
        | some x =>
          obtain ⟨u, pl⟩ := x
          have := parts_lens hp
          simp only
          split
          · split
            · simp [none]
            · simp only; omega
          · simp [none]
  · have : (parse s).1 = none := by
      unfold parse at h ⊢
      simp only at h ⊢
      generalize trim s = t at *
      split
      · rfl
      · rename_i h8
        rw [if_neg h8] at h
        cases hp : parts t with
        | none => rfl
        | some x =>
          obtain ⟨u, pl⟩ := x
          rw [hp] at h
          simp only at h ⊢
          split
          · rename_i hg
            rw [if_pos hg] at h
            split
            · rfl
            · rename_i q; rw [if_neg q] at h; exact absurd rfl h
          · rfl
    rw [this]
    simp [none]
theorem parse_small {s : List UInt8} (hs : s.length ≤ 20000) : Small (parse s).1 := by
  have := parse_lens (s := s)
  exact ⟨by omega, by omega, by omega, by omega, by omega, by omega⟩
theorem textP_len (u : Url) (h1 : -9223372036854775808 ≤ u.port) (h2 : u.port ≤ 9223372036854775807) : (textP u).length ≤ u.scheme.length + u.host.length + u.path.length + u.query.length + 34 := by
  have := itoa_short h1 h2
  rw [textP_eq]
  unfold portT
  split <;> simp <;> omega
theorem cut_eq {c : UInt8} : ∀ {a a' r r' : List UInt8}, free [c] a = true → free [c] a' = true → a ++ c :: r = a' ++ c :: r' → a = a' ∧ r = r'
  | [], [], r, r', _, _, h => ⟨rfl, by simpa using h⟩
  | x :: a, [], r, r', h1, _, h => by
    simp only [List.cons_append, List.nil_append] at h
    injection h with h _
    unfold free at h1; simp [h] at h1
  | [], x :: a, r, r', _, h1, h => by
    simp only [List.cons_append, List.nil_append] at h
    injection h with h _
    unfold free at h1; simp [← h] at h1
  | x :: a, y :: a', r, r', h1, h2, h => by
    simp only [List.cons_append] at h
    injection h with h3 h4
    unfold free at h1 h2
    rw [List.all_cons, Bool.and_eq_true] at h1 h2
    obtain ⟨e1, e2⟩ := cut_eq (c := c) (a := a) (a' := a') h1.2 h2.2 h4
    exact ⟨by rw [h3, e1], e2⟩
theorem origin_inj {u v : Url} (hu : good u = true) (hv : good v = true) : (origin u = origin v) ↔ (u.scheme = v.scheme ∧ u.host = v.host ∧ port u = port v) := by
  have gu := (good_iff u).mp hu
  have gv := (good_iff v).mp hv
  unfold origin
  rw [if_pos hu, if_pos hv]
  have e : ∀ w : Url, w.scheme ++ [58, 47, 47] ++ w.host ++ [58] ++ Go.Lib.itoa (port w) = w.scheme ++ 58 :: (47 :: 47 :: (w.host ++ 58 :: Go.Lib.itoa (port w))) := by
    intro w; simp only [List.append_assoc, List.cons_append, List.nil_append]
  rw [e u, e v]
  have pr : ∀ w : Url, 0 ≤ w.port → 0 ≤ port w := by
    intro w hw
    have := own_rng w.scheme
    unfold port
    split <;> omega
  constructor
  · intro h
    obtain ⟨e1, e2⟩ := cut_eq (sch_facts gu.own).2.1 (sch_facts gv.own).2.1 h
    injection e2 with _ e2
    injection e2 with _ e2
    obtain ⟨e3, e4⟩ := cut_eq (name_facts gu.host).2.2.1 (name_facts gv.host).2.2.1 e2
    have i1 := (itoa_facts (pr u gu.lo)).2.2.2.2.2
    have i2 := (itoa_facts (pr v gv.lo)).2.2.2.2.2
    have := pr u gu.lo
    have := pr v gv.lo
    rw [e4, i2] at i1
    exact ⟨e1, e3, by omega⟩
  · rintro ⟨e1, e2, e3⟩
    rw [e1, e2, e3]
end Tg.Ur
/-
  Layer 26 (url): the living call.
-/
set_option linter.unusedSimpArgs false
set_option linter.unusedVariables false
set_option maxRecDepth 100000
namespace Tg.Ur
def live : List UInt8 := [72, 84, 84, 80, 58, 47, 47, 65, 46, 98, 58, 56, 48, 47, 120, 47, 46, 46, 47, 121, 35, 122]
theorem live1 : parse live = (⟨[104, 116, 116, 112], [97, 46, 98], 0, [47, 121], []⟩, 0) := by decide +kernel
end Tg.Ur
namespace Go.Proofs.YteckofomnhminaaGreatDoor
open Go.Lg Go.Tg
section
variable {H : LH}
theorem lives_l (hm : MaxL H) (ht : Tab10 H) : LC Tryz.prog EJ 27 [] H = some (.bool true, H) := by
  refine LC_pure rfl Tryz.func27 rfl (Nat.le_of_ble_eq_true rfl) (by decide) (by kernel_rfl) rfl ?_
  have hk := Key_cl (H := H) (s := Tg.Ur.live) (by decide) hm ht (by rw [Tg.Ur.live1]; exact ⟨by decide, by decide, by decide, by decide, by decide, by decide⟩) (by rw [Tg.Ur.live1]; decide +kernel)
  rw [Tg.Ur.live1] at hk
  have e : Tg.Ur.text ⟨[104, 116, 116, 112], [97, 46, 98], 0, [47, 121], []⟩ = [104, 116, 116, 112, 58, 47, 47, 97, 46, 98, 47, 121] := by decide +kernel
  simp only [e, if_true] at hk
  unfold Tg.Ur.live at hk
  simp [hk]
end
end Go.Proofs.YteckofomnhminaaGreatDoor
/-
  Layer 26 (url): the laws UrlWrites and UrlReads, as the run answers them.
-/
set_option linter.unusedSimpArgs false
set_option linter.unusedVariables false
set_option maxRecDepth 100000
namespace Tg.Ur
def fewU (u : Url) : Url := ⟨u.scheme.take 20, u.host.take 260, u.port, u.path.take 80, u.query.take 60⟩
end Tg.Ur
namespace Go.Proofs.YteckofomnhminaaGreatDoor
open Go.Lg Go.Tg
section
variable {H : LH} {b : UInt8} {s p : List UInt8} {u v : Tg.Ur.Url}
theorem tcut_cl {k : Int} (h0 : 0 ≤ k) : LC Tryz.prog EJ 6 [str s, .int .i64 k] H = some (str (s.take k.toNat), H) := by
  refine LC_pure rfl Tryz.func6 rfl (Nat.le_of_ble_eq_true rfl) (by decide) (by kernel_rfl) (by simp) ?_
  by_cases hc : k < s.length
  · have f := eq_true hc
    have f2 := eq_true (show k ≤ s.length by omega)
    have f3 := eq_true h0
    simp [f, f2, f3]
  · have f := eq_false hc
    have e : s.take k.toNat = s := List.take_of_length_le (by omega)
    simp [f, e]
theorem few_cl : LC Tryz.prog EJ 30 [uv u] H = some (uv (Tg.Ur.fewU u), H) := by
  refine LC_pure rfl Tryz.func30 rfl (Nat.le_of_ble_eq_true rfl) (by decide) (by kernel_rfl) rfl ?_
  have h1 := fun H : LH => tcut_cl (H := H) (s := u.scheme) (k := 20) (by decide)
  have h2 := fun H : LH => tcut_cl (H := H) (s := u.host) (k := 260) (by decide)
  have h3 := fun H : LH => tcut_cl (H := H) (s := u.path) (k := 80) (by decide)
  have h4 := fun H : LH => tcut_cl (H := H) (s := u.query) (k := 60) (by decide)
  simp only [show ((20 : Int).toNat) = 20 from rfl, show ((260 : Int).toNat) = 260 from rfl, show ((80 : Int).toNat) = 80 from rfl, show ((60 : Int).toNat) = 60 from rfl] at h1 h2 h3 h4
  unfold Tg.Ur.fewU
  generalize u.scheme.take 20 = a at *
  generalize u.host.take 260 = b at *
  generalize u.path.take 80 = c at *
  generalize u.query.take 60 = d at *
  simp [h1, h2, h3, h4, le_refl.new]
theorem few_small (h1 : -9223372036854775808 ≤ u.port) (h2 : u.port ≤ 9223372036854775807) : Small (Tg.Ur.fewU u) ∧ (Tg.Ur.textP (Tg.Ur.fewU u)).length ≤ 8192 := by
  have hl := Tg.Ur.textP_len (Tg.Ur.fewU u) h1 h2
  unfold Tg.Ur.fewU at hl ⊢
  simp only [List.length_take] at hl
  refine ⟨⟨?_, ?_, ?_, ?_, h1, h2⟩, ?_⟩
  · rw [List.length_take]; omega
  · rw [List.length_take]; omega
  · rw [List.length_take]; omega
  · rw [List.length_take]; omega
  · omega
theorem flat_uv : flatB (uv u) = true := by
  have h : ∀ v : Value, v = uv u → flatB v = true := fun v e => by subst e; rfl
  exact h _ rfl
theorem le2s {a b c d e : LB} : H.le (((((H.new a).new b).set H.n c).set (H.n + 1) d).new e) := by
  refine ⟨?_, fun k hk => ?_⟩
  · rw [n_new, n_set, n_set, n_new, n_new]; omega
  · rw [get_new_ne (by rw [n_set, n_set, n_new, n_new]; omega), get_set_ne (by omega), get_set_ne (by omega), get_new_ne (by rw [n_new]; omega), get_new_ne (by omega)]
theorem max_new {x : LB} : MaxL (H.new x) ↔ MaxL H := Iff.rfl
theorem max_ro : MaxL H.ro ↔ MaxL H := Iff.rfl
theorem tab_new {x : LB} : Tab10 (H.new x) ↔ Tab10 H := Iff.rfl
theorem max_set {l : Nat} {x : LB} : MaxL (H.set l x) ↔ MaxL H := Iff.rfl
theorem tab_set {l : Nat} {x : LB} : Tab10 (H.set l x) ↔ Tab10 H := Iff.rfl
theorem tab_ro : Tab10 H.ro ↔ Tab10 H := Iff.rfl
theorem reads_l (hm : MaxL H) (ht : Tab10 H) : LC Tryz.prog EJ 4 [str s] H = some (.bool true, H) := by
  refine LC_pure rfl Tryz.func4 rfl (Nat.le_of_ble_eq_true rfl) (by decide) (by kernel_rfl) rfl ?_
  have hc := fun H : LH => tcut_cl (H := H) (s := s) (k := 200) (by decide)
  simp only [show ((200 : Int).toNat) = 200 from rfl] at hc
  have hsl : (s.take 200).length ≤ 200 := by rw [List.length_take]; omega
  generalize s.take 200 = t at *
  have hsm := Tg.Ur.parse_small (s := t) (by omega)
  have hpl := Tg.Ur.parse_lens (s := t)
  have hit := Tg.Ur.itoa_short hsm.lo hsm.hi
  have hP := fun (H : LH) (h : MaxL H) => Parse_cl (H := H) (s := t) (by omega) h
  have hR := fun (H : LH) => rParse_cl (H := H) (s := t) (by omega)
  have hK := fun (H : LH) (h : MaxL H) (h2 : Tab10 H) => Key_cl (H := H) (s := t) (by omega) h h2 hsm (by omega)
  have hL := fun (H : LH) (h : MaxL H) (h2 : Tab10 H) => lives_l (H := H) h h2
  have hgd := Tg.Ur.parse_good (s := t)
  generalize Tg.Ur.parse t = r at *
  obtain ⟨u, e⟩ := r
  simp only at *
  by_cases he : e = 0
  · subst he
    have hg := hgd rfl
    have htx : Tg.Ur.text u = Tg.Ur.textP u := by unfold Tg.Ur.text; rw [if_pos hg]
    have hlen := Tg.Ur.textP_len u hsm.lo hsm.hi
    have gs := Tg.Ur.sch_facts ((Tg.Ur.good_iff u).mp hg).own
    have hpt := Tg.Ur.parse_text hg (by omega)
    have hK2 := fun (H : LH) (h : MaxL H) (h2 : Tab10 H) => Key_cl (H := H) (s := Tg.Ur.textP u) (by omega) h h2 (by rw [hpt]; exact hsm) (by rw [hpt]; simp only; omega)
    rw [hpt] at hK2
    simp only [if_true, htx] at hK hK2
    have hrt := fun (H : LH) => rText_cl (H := H) hsm
    rw [htx] at hrt
    have hG := fun (H : LH) (h : MaxL H) => Good_cl (H := H) hsm h
    rw [hg] at hG
    generalize Tg.Ur.textP u = k at *
    simp [hc, hP, hR, hK, hK2, hrt, hG, hL, max_new, max_ro, max_set, tab_new, tab_ro, tab_set, hm, ht, url_ne, flat_uv, le2, le_refl]
  · simp only [if_neg he] at hK
    simp [hc, hP, hR, hK, he, hL, max_new, max_ro, max_set, tab_new, tab_ro, tab_set, hm, ht, url_ne, flat_uv, le2, le_refl]
theorem writes_l (hu1 : -9223372036854775808 ≤ u.port) (hu2 : u.port ≤ 9223372036854775807) (hv1 : -9223372036854775808 ≤ v.port) (hv2 : v.port ≤ 9223372036854775807) (hm : MaxL H) (ht : Tab10 H) : LC Tryz.prog EJ 5 [uv u, uv v] H = some (.bool true, H) := by
  refine LC_pure rfl Tryz.func5 rfl (Nat.le_of_ble_eq_true rfl) (by decide) (by kernel_rfl) rfl ?_
  have hfu := fun H : LH => few_cl (H := H) (u := u)
  have hfv := fun H : LH => few_cl (H := H) (u := v)
  obtain ⟨su, tu⟩ := few_small (u := u) hu1 hu2
  obtain ⟨sv, tv⟩ := few_small (u := v) hv1 hv2
  generalize Tg.Ur.fewU u = a at *
  generalize Tg.Ur.fewU v = c at *
  have pr : ∀ w : Tg.Ur.Url, -9223372036854775808 ≤ w.port → w.port ≤ 9223372036854775807 → -9223372036854775808 ≤ Tg.Ur.port w ∧ Tg.Ur.port w ≤ 9223372036854775807 := by
    intro w h1 h2
    have := own_rng w.scheme
    unfold Tg.Ur.port
    split <;> omega
  have iu := Tg.Ur.itoa_short su.lo su.hi
  have iup := Tg.Ur.itoa_short (pr a su.lo su.hi).1 (pr a su.lo su.hi).2
  have hGu := fun (H : LH) (h : MaxL H) => Good_cl (H := H) su h
  have hRGu := fun (H : LH) => rgood_cl (H := H) (u := a) (by have := su.host; omega) (by have := su.path; omega) (by have := su.query; omega)
  have hRGv := fun (H : LH) => rgood_cl (H := H) (u := c) (by have := sv.host; omega) (by have := sv.path; omega) (by have := sv.query; omega)
  have hTu := fun (H : LH) (h : MaxL H) (h2 : Tab10 H) => Text_cl (H := H) su h h2 (by omega)
  have hRTu := fun (H : LH) => rText_cl (H := H) su
  have hOu := fun (H : LH) (h : MaxL H) (h2 : Tab10 H) => Origin_cl (H := H) su h h2 (by omega)
  have hROu := fun (H : LH) => rOrigin_cl (H := H) su
  have hROv := fun (H : LH) => rOrigin_cl (H := H) sv
  have hPu := fun (H : LH) => Port_cl (H := H) (u := a)
  have hRPu := fun (H : LH) => rport_cl (H := H) (u := a)
  have hS := fun (H : LH) (h : MaxL H) => same_pl (H := H) su sv h
  have hL := fun (H : LH) (h : MaxL H) (h2 : Tab10 H) => lives_l (H := H) h h2
  have hsame : (Tg.Ur.good a && Tg.Ur.good c && (decide (a.scheme = c.scheme) && decide (a.host = c.host) && decide (Tg.Ur.port a = Tg.Ur.port c))) = (Tg.Ur.good a && Tg.Ur.good c && decide (Tg.Ur.origin a = Tg.Ur.origin c)) := by
    cases h1 : Tg.Ur.good a with
    | false => rfl
    | true =>
      cases h2 : Tg.Ur.good c with
      | false => rfl
      | true =>
        have hd : (decide (a.scheme = c.scheme) && decide (a.host = c.host) && decide (Tg.Ur.port a = Tg.Ur.port c)) = decide (Tg.Ur.origin a = Tg.Ur.origin c) := by
          have h3 := Tg.Ur.origin_inj h1 h2
          rw [Bool.eq_iff_iff]
          simp only [Bool.and_eq_true, decide_eq_true_eq]
          rw [h3]; exact and_assoc
        rw [hd]
  rw [hsame] at hS
  cases hg : Tg.Ur.good a with
  | false =>
    rw [hg] at hGu hRGu hS
    generalize Tg.Ur.text a = ta at *
    generalize Tg.Ur.origin a = oa at *
    generalize Tg.Ur.port a = pa at *
    simp [hfu, hfv, hGu, hRGu, hTu, hRTu, hOu, hROu, hPu, hRPu, hS, hL, max_new, max_ro, max_set, tab_new, tab_ro, tab_set, hm, ht, url_ne, flat_uv, le2, le_refl]
  | true =>
    have htx : Tg.Ur.text a = Tg.Ur.textP a := by unfold Tg.Ur.text; rw [if_pos hg]
    have hpt := Tg.Ur.parse_text hg tu
    have hP := fun (H : LH) (h : MaxL H) => Parse_cl (H := H) (s := Tg.Ur.textP a) (by omega) h
    rw [hpt] at hP
    rw [hg] at hGu hRGu hS
    rw [htx] at hTu hRTu
    simp only at hP
    generalize Tg.Ur.textP a = ta at *
    generalize Tg.Ur.origin a = oa at *
    generalize Tg.Ur.port a = pa at *
    cases hg2 : Tg.Ur.good c with
    | false =>
      rw [hg2] at hRGv hS
      simp [hfu, hfv, hGu, hRGu, hTu, hRTu, hOu, hROu, hPu, hRPu, hS, hRGv, hP, hL, max_new, max_ro, max_set, tab_new, tab_ro, tab_set, hm, ht, url_ne, url_eq, flat_uv, le2s, le_refl]
    | true =>
      rw [hg2] at hRGv hS
      generalize Tg.Ur.origin c = oc at *
      by_cases ho : oa = oc
      · simp [hfu, hfv, hGu, hRGu, hTu, hRTu, hOu, hROu, hROv, hPu, hRPu, hS, hRGv, hP, hL, ho, max_new, max_ro, max_set, tab_new, tab_ro, tab_set, hm, ht, url_ne, url_eq, flat_uv, le2s, le_refl]
      · simp [hfu, hfv, hGu, hRGu, hTu, hRTu, hOu, hROu, hROv, hPu, hRPu, hS, hRGv, hP, hL, ho, max_new, max_ro, max_set, tab_new, tab_ro, tab_set, hm, ht, url_ne, url_eq, flat_uv, le2s, le_refl]
end
end Go.Proofs.YteckofomnhminaaGreatDoor
