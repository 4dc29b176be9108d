/-
  Texts joined, part 7: ScEvent, ScNext, ScSettings, ScReadC, ScLives, ScCat, ScPrint, ScLong, ScLaw3, DoorC.
-/
import Derived.Test.YthgcgjpbhbikaaaGreatDoorM6
import Derived.Test.YthgcgjpbhbikaaaGreatDoorRows
import Derived.Test.YthgcgjpbhbikaaaGreatDoorM1
import Derived.ProofKit
import Derived.WideShapes
import Derived.RowKit
import Derived.ChangeArms
import Derived.LaidMore
import Derived.LaidSub
import Derived.Lib.LaidTab
import Derived.Stop.Joined
import Derived.Shelf.Vars
import Derived.HandedShaped
import Derived.Lay
/-
  Layer 40 (script): words of a line, read one by one; an event's first line; by the code.
-/
set_option linter.unusedSimpArgs false
set_option linter.unusedVariables false
set_option maxRecDepth 100000
namespace Go.Proofs.YthgcgjpbhbikaaaGreatDoor.Sc
open Go.Lg Go.Tg
/-- the reader at pr has the words xs ahead of it -/
def Rd (H : LH) (pr : Nat) (xs : List (List UInt8)) : Prop :=
  ∃ v, H.get pr = some ⟨[v], 93, true⟩ ∧ pr < H.n ∧ ((v = .slice none 0 0 ∧ xs = []) ∨ ∃ (k o c : Nat) (B : LB), v = .slice (some ⟨k, o, none⟩) xs.length c ∧ H.get k = some B ∧ k < pr ∧ (B.cells.drop o).take xs.length = xs.map str ∧ xs.length ≤ c)
/-- only the block pr may have turned -/
structure But (pr : Nat) (H H' : LH) : Prop where
  n : H'.n = H.n
  old : ∀ k, k < H.n → k ≠ pr → H'.get k = H.get k
  bs : Bs H H'
section
variable {H H' : LH} {pr : Nat} {xs : List (List UInt8)} {s : List UInt8}
theorem But.refl : But pr H H := ⟨rfl, fun _ _ _ => rfl, Bs.refl _⟩
theorem But.trans {H1 H2 : LH} (h : But pr H H1) (k : But pr H1 H2) : But pr H H2 := ⟨k.n.trans h.n, fun j hj hne => by rw [k.old j (by rw [h.n]; exact hj) hne, h.old j hj hne], h.bs.trans k.bs⟩
theorem Rd.back (h : Rd H' pr xs) (hle : H.le H') (hp : pr < H.n) : Rd H pr xs := by
  obtain ⟨v, h1, h2, h3⟩ := h
  refine ⟨v, by rw [← hle.2 pr hp]; exact h1, hp, ?_⟩
  rcases h3 with h3 | ⟨k, o, c, B, e, h4, h5, h6, h7⟩
  · exact .inl h3
  · exact .inr ⟨k, o, c, B, e, by rw [← hle.2 k (by omega)]; exact h4, h5, h6, h7⟩
theorem Rd.keep (h : Rd H pr xs) (hn : H.n ≤ H'.n) (hk : ∀ k, k < H.n → H'.get k = H.get k) : Rd H' pr xs := by
  obtain ⟨v, h1, h2, h3⟩ := h
  refine ⟨v, by rw [hk pr h2]; exact h1, by omega, ?_⟩
  rcases h3 with h3 | ⟨k, o, c, B, e, h4, h5, h6, h7⟩
  · exact .inl h3
  · exact .inr ⟨k, o, c, B, e, by rw [hk k (by omega)]; exact h4, h5, h6, h7⟩
theorem Rd.lt (h : Rd H pr xs) : pr < H.n := by obtain ⟨_, _, h, _⟩ := h; exact h
theorem word_ex (h : Rd H pr xs) : ∃ H', LC Tryz.prog EJ 55 [ptr pr 0] H = some (str (xs.headD []), H') ∧ Rd H' pr xs.tail ∧ But pr H H' := by
  have hp := h.lt
  have key : ∃ r, LC Tryz.prog EJ 55 [ptr pr 0] H = some (Lg.trunc H r) ∧ r.1 = str (xs.headD []) ∧ Rd r.2 pr xs.tail ∧ But pr H r.2 := by
    refine LC_runs (P := Tryz.prog) (E := EJ) (f := 55) rfl Tryz.func55 rfl (Nat.le_of_ble_eq_true rfl) (by decide) (by kernel_rfl) ?_
    have h0 := h
    obtain ⟨v, h1, h2, h3⟩ := h0
    rcases h3 with ⟨rfl, rfl⟩ | ⟨k, o, c, B, rfl, h4, h5, h6, h7⟩
    · simp [h1]
      exact ⟨h, But.refl⟩
    · cases xs with
      | nil =>
        simp [h1]
        exact ⟨h, But.refl⟩
      | cons x xs =>
        have hc : B.cells[o]? = some (str x) := by
          have := congrArg (fun z => z[0]?) h6
          simp only [List.getElem?_take, List.length_cons, Nat.zero_lt_succ, if_true, List.getElem?_drop, Nat.add_zero, List.map_cons, List.getElem?_cons_zero] at this
          exact this
        obtain ⟨hlt, hc⟩ := List.getElem?_eq_some_iff.mp hc
        have q0 := eq_true (show (0 : Int) < (xs.length : Int) + 1 by omega)
        have q1 := eq_true (show (1 : Int) ≤ (xs.length : Int) + 1 by omega)
        have q2 := eq_false (show ¬ (xs.length : Int) + 1 = 0 by omega)
        have hne : k ≠ pr := by omega
        simp [h1, h4, hlt, hc, q0, q1, q2]
        refine ⟨⟨.slice (some ⟨k, o + 1, none⟩) xs.length (c - 1), by simp, by simpa using h2, .inr ⟨k, o + 1, c - 1, B, rfl, by rw [get_set_ne hne]; exact h4, h5, ?_, by simp at h7; omega⟩⟩, ⟨by simp, fun j hj hne => get_set_ne hne, ⟨rfl, rfl⟩⟩⟩
        have := congrArg List.tail h6
        simp only [List.map_cons, List.tail_cons, List.length_cons] at this
        rw [← this, ← List.drop_drop]
        cases hd : B.cells.drop o with
        | nil => rw [hd] at h6; simp at h6
        | cons y l => simp
  obtain ⟨⟨v, H2⟩, e, hv, hr, hb⟩ := key
  simp only at hv hr hb
  subst hv
  rcases trunc_or (str (xs.headD [])) H H2 with e2 | ⟨e2, _, hle⟩
  · exact ⟨H2, by rw [e, e2], hr, hb⟩
  · exact ⟨H, by rw [e, e2], hr.back hle hp, But.refl⟩
theorem num_ex (h : Rd H pr xs) (hs : (xs.headD []).length ≤ 300000) : ∃ H', LC Tryz.prog EJ 56 [ptr pr 0] H = some (.int .i64 (Tg.Sc.numP (xs.headD []) : Nat), H') ∧ Rd H' pr xs.tail ∧ But pr H H' := by
  obtain ⟨H1, e1, r1, b1⟩ := word_ex h
  have hlt := h.lt
  generalize xs.headD [] = x at *
  have hp := dparse_cl (H := H1) (s := x) (by omega)
  have hn : (if x = [] ∨ x.all Tg.Nu.isD = false then (0 : Int) else if 9007199254740991 < Tg.Nu.dv 0 x then 0 else (Tg.Nu.dv 0 x : Nat)) = (Tg.Sc.numP x : Nat) := by
    unfold Tg.Sc.numP
    show _ = (((if x = [] ∨ x.all Tg.Nu.isD = false then 0 else if 9007199254740991 < Tg.Nu.dv 0 x then 0 else Tg.Nu.dv 0 x : Nat)) : Int)
    split
    · rfl
    · split <;> rfl
  rw [hn] at hp
  generalize (if x = [] ∨ x.all Tg.Nu.isD = false then (2 : Int) else if 9007199254740991 < Tg.Nu.dv 0 x then 9 else 0) = er at hp
  have key : ∃ r, LC Tryz.prog EJ 56 [ptr pr 0] H = some (Lg.trunc H r) ∧ r = (.int .i64 (Tg.Sc.numP x : Nat), H1) := by
    refine LC_runs (P := Tryz.prog) (E := EJ) (f := 56) rfl Tryz.func56 rfl (Nat.le_of_ble_eq_true rfl) (by decide) (by kernel_rfl) ?_
    simp [e1, hp]
  obtain ⟨r, e, rfl⟩ := key
  rcases trunc_or (.int .i64 (Tg.Sc.numP x : Nat)) H H1 with e2 | ⟨e2, _, hle⟩
  · exact ⟨H1, by rw [e, e2], r1, b1⟩
  · exact ⟨H, by rw [e, e2], r1.back hle hlt, But.refl⟩
theorem bytes_ex (h : Rd H pr xs) (hs : (xs.headD []).length ≤ 300000) : ∃ H', LC Tryz.prog EJ 81 [ptr pr 0] H = some (str (Tg.Sc.plainT (xs.headD [])), H') ∧ Rd H' pr xs.tail ∧ But pr H H' := by
  obtain ⟨H1, e1, r1, b1⟩ := word_ex h
  have hlt := h.lt
  generalize xs.headD [] = x at *
  have hp := plain_cl (H := H1) (s := x) (by omega)
  have key : ∃ r, LC Tryz.prog EJ 81 [ptr pr 0] H = some (Lg.trunc H r) ∧ r = (str (Tg.Sc.plainT x), H1) := by
    refine LC_runs (P := Tryz.prog) (E := EJ) (f := 81) rfl Tryz.func81 rfl (Nat.le_of_ble_eq_true rfl) (by decide) (by kernel_rfl) ?_
    simp [e1, hp]
  obtain ⟨r, e, rfl⟩ := key
  rcases trunc_or (str (Tg.Sc.plainT x)) H H1 with e2 | ⟨e2, _, hle⟩
  · exact ⟨H1, by rw [e, e2], r1, b1⟩
  · exact ⟨H, by rw [e, e2], r1.back hle hlt, But.refl⟩
theorem split_c (c : UInt8) (hs : s.length ≤ 5000000) (hm : MaxL H) : LC Tryz.prog EJ 33 [str s, str [c]] H = some (sl H.n (Tg.Sc.cutAt c s).length (Tg.Sc.cutAt c s).length, H.new ⟨(Tg.Sc.cutAt c s).map str, 9, true⟩) := by
  obtain ⟨e1, e2, e3, e4⟩ := Tg.Sc.cut_rows c s
  have hsp := split_l (H := H) (s := s) (p := [c]) (by omega) (by simp) hm (by unfold maxLen; omega) e3
  rw [e1, ← e2] at hsp
  exact hsp
theorem Rd.set {l : Nat} {b : LB} (h : Rd H pr xs) (hl : pr < l) : Rd (H.set l b) pr xs := by
  obtain ⟨v, h1, h2, h3⟩ := h
  refine ⟨v, by rw [get_set_ne (by omega)]; exact h1, h2, ?_⟩
  rcases h3 with h3 | ⟨k, o, c, B, e, h4, h5, h6, h7⟩
  · exact .inl h3
  · exact .inr ⟨k, o, c, B, e, by rw [get_set_ne (by omega)]; exact h4, h5, h6, h7⟩
theorem drop_head (ws : List (List UInt8)) (i : Nat) : (ws.drop i).headD [] = ws.getD i [] := by
  rw [List.getD_eq_getElem?_getD]
  cases h : ws[i]? with
  | none => rw [List.drop_of_length_le (List.getElem?_eq_none_iff.mp h)]; rfl
  | some x =>
    obtain ⟨hlt, hx⟩ := List.getElem?_eq_some_iff.mp h
    rw [List.drop_eq_getElem_cons hlt, hx]; rfl
theorem drop_tail (ws : List (List UInt8)) (i : Nat) : (ws.drop i).tail = ws.drop (i + 1) := by
  rw [List.tail_drop]
variable {ws : List (List UInt8)} {i : Nat}
theorem word_at (h : Rd H pr (ws.drop i)) : ∃ H', LC Tryz.prog EJ 55 [ptr pr 0] H = some (str (ws.getD i []), H') ∧ Rd H' pr (ws.drop (i + 1)) ∧ But pr H H' := by
  have := word_ex h
  rwa [drop_head, drop_tail] at this
theorem num_at (h : Rd H pr (ws.drop i)) (hs : (ws.getD i []).length ≤ 300000) : ∃ H', LC Tryz.prog EJ 56 [ptr pr 0] H = some (.int .i64 (Tg.Sc.numP (ws.getD i []) : Nat), H') ∧ Rd H' pr (ws.drop (i + 1)) ∧ But pr H H' := by
  have := num_ex h (by rw [drop_head]; exact hs)
  rwa [drop_head, drop_tail] at this
theorem bytes_at (h : Rd H pr (ws.drop i)) (hs : (ws.getD i []).length ≤ 300000) : ∃ H', LC Tryz.prog EJ 81 [ptr pr 0] H = some (str (Tg.Sc.plainT (ws.getD i [])), H') ∧ Rd H' pr (ws.drop (i + 1)) ∧ But pr H H' := by
  have := bytes_ex h (by rw [drop_head]; exact hs)
  rwa [drop_head, drop_tail] at this
theorem getD_len (hs : s.length ≤ 300000) (i : Nat) : ((Tg.Sc.cutAt 32 s).getD i []).length ≤ 300000 := by
  rw [List.getD_eq_getElem?_getD]
  cases h : (Tg.Sc.cutAt 32 s)[i]? with
  | none => simp
  | some x =>
    have := Tg.Sc.cut_len 32 s x (List.mem_of_getElem? h)
    show x.length ≤ _
    omega
abbrev ev0c (k id : Int) : List Value := [.int .i64 k, .int .i64 id, str [], str [], str [], .int .i64 0, .int .i64 0, .slice none 0 0, str []]
theorem event_cl (hs : s.length ≤ 300000) (hm : MaxL H) (ht : Tab H) : LC Tryz.prog EJ 57 [str s] H = some (.tuple #[evv (Tg.Sc.eventP s).1 (.slice none 0 0), .int .i64 ((Tg.Sc.eventP s).2 : Nat)], H) := by
  obtain ⟨H1, hH1⟩ : ∃ H1, H1 = H.new ⟨ev0c 0 0, 36, true⟩ := ⟨_, rfl⟩
  have n1 : H1.n = H.n + 1 := by rw [hH1]; rfl
  have b1 : Bs H H1 := by rw [hH1]; exact ⟨rfl, rfl⟩
  have le1 : H.le H1 := by rw [hH1]; exact le_refl.new
  have hsp := split_c (H := H1) 32 (s := s) (by omega) (hm.bs b1)
  have hwl := getD_len hs
  have hep : Tg.Sc.eventP s = (let ws := Tg.Sc.cutAt 32 s
    let w := fun i => ws.getD i []
    let k := Tg.Sc.kindP (w 0) Tg.Sc.words 0
    let e : Tg.Sc.Ev := { Tg.Sc.ev0 with kind := k, id := Tg.Sc.numP (w 1) }
    if k = 1 then ({ e with media := Tg.Sc.numP (w 2), mode := w 3, url := Tg.Sc.plainT (w 4), src := Tg.Sc.plainT (w 5) }, 0)
    else if k = 2 then ({ e with status := Tg.Sc.numP (w 2) }, Tg.Sc.numP (w 3))
    else if k = 3 then ({ e with body := Tg.Sc.plainT (w 2) }, 0)
    else (e, 0)) := rfl
  generalize hws : Tg.Sc.cutAt 32 s = ws at *
  generalize Tg.Sc.eventP s = ep at *
  subst hep
  obtain ⟨w, hw⟩ : ∃ w : Nat → List UInt8, w = fun i => ws.getD i [] := ⟨_, rfl⟩
  have wa : ∀ {G : LH} {pr i : Nat}, Rd G pr (ws.drop i) → ∃ H', LC Tryz.prog EJ 55 [ptr pr 0] G = some (str (w i), H') ∧ Rd H' pr (ws.drop (i + 1)) ∧ But pr G H' := fun {G pr i} h => by rw [hw]; exact word_at h
  have na : ∀ {G : LH} {pr i : Nat}, Rd G pr (ws.drop i) → ∃ H', LC Tryz.prog EJ 56 [ptr pr 0] G = some (.int .i64 (Tg.Sc.numP (w i) : Nat), H') ∧ Rd H' pr (ws.drop (i + 1)) ∧ But pr G H' := fun {G pr i} h => by rw [hw]; exact num_at h (hwl i)
  have ba : ∀ {G : LH} {pr i : Nat}, Rd G pr (ws.drop i) → ∃ H', LC Tryz.prog EJ 81 [ptr pr 0] G = some (str (Tg.Sc.plainT (w i)), H') ∧ Rd H' pr (ws.drop (i + 1)) ∧ But pr G H' := fun {G pr i} h => by rw [hw]; exact bytes_at h (hwl i)
  have hwi : ∀ i, ws.getD i [] = w i := fun i => by rw [hw]
  simp only [hwi]
  clear hw hwi
  obtain ⟨H2, hH2⟩ : ∃ H2, H2 = H1.new ⟨ws.map str, 9, true⟩ := ⟨_, rfl⟩
  have n2 : H2.n = H.n + 1 + 1 := by rw [hH2, n_new, n1]
  have g2 : H2.get (H.n + 1) = some ⟨ws.map str, 9, true⟩ := by rw [hH2, ← n1]; exact get_new
  obtain ⟨H3, hH3⟩ : ∃ H3, H3 = H2.new ⟨[.slice (some ⟨H.n + 1, 0, none⟩) ws.length ws.length], 93, true⟩ := ⟨_, rfl⟩
  have n3 : H3.n = H.n + 1 + 1 + 1 := by rw [hH3, n_new, n2]
  have r3 : Rd H3 (H.n + 1 + 1) (ws.drop 0) := by
    refine ⟨_, by rw [hH3, ← n2]; exact get_new, by omega, .inr ⟨H.n + 1, 0, ws.length, _, rfl, by rw [hH3, get_new_ne (by omega)]; exact g2, by omega, ?_, Nat.le_refl _⟩⟩
    rw [List.drop_zero, List.take_of_length_le (by simp)]; rfl
  have b3 : Bs H H3 := by rw [hH3, hH2]; exact b1
  have le3 : H.le H3 := by rw [hH3, hH2]; exact le1.new.new
  have hwd := words_l (H := H3) (ht.bs b3)
  obtain ⟨H4, hH4⟩ : ∃ H4, H4 = H3.new ⟨Tg.Sc.words.map str, 9, true⟩ := ⟨_, rfl⟩
  have n4 : H4.n = H.n + 1 + 1 + 1 + 1 := by rw [hH4, n_new, n3]
  have r4 : Rd H4 (H.n + 1 + 1) (ws.drop 0) := r3.keep (by omega) (fun k hk => by rw [hH4, get_new_ne (by omega)])
  have le4 : H.le H4 := by rw [hH4]; exact le3.new
  have b4 : Bs H H4 := by rw [hH4]; exact b3
  obtain ⟨H5, e5, r5, u5⟩ := wa r4
  have hrow : TRow H5 (sl H3.n 6 6) Tg.Sc.words := .inr ⟨H3.n, 0, 6, ⟨Tg.Sc.words.map str, 9, true⟩, rfl, by rw [u5.old H3.n (by omega) (by omega), hH4]; exact get_new, by rw [u5.n]; omega, by rw [List.drop_zero, List.take_of_length_le (by simp)], Nat.le_refl _, rfl⟩
  have hix := sindex_l (s := w 0) hrow (by decide)
  rw [n3] at hix
  obtain ⟨H6, e6, r6, u6⟩ := na r5
  have u46 := u5.trans u6
  have n6 : H6.n = H.n + 1 + 1 + 1 + 1 := by rw [u46.n, n4]
  have le6 : ∀ k, k < H.n → H6.get k = H.get k := fun k hk => by rw [u46.old k (by omega) (by omega), le4.2 k hk]
  have g6 : H6.get H.n = some ⟨ev0c 0 0, 36, true⟩ := by
    rw [u46.old H.n (by omega) (by omega), hH4, get_new_ne (by omega), hH3, get_new_ne (by omega), hH2, get_new_ne (by omega), hH1]; exact get_new
  have hfw := Tg.Sc.find_words (w 0)
  have hkl := Tg.Sc.kind_le (w 0) Tg.Sc.words 0
  have hwk : IntKind.i64.wrap (Tg.Sc.find (w 0) Tg.Sc.words 0 + 1) = ((Tg.Sc.kindP (w 0) Tg.Sc.words 0 : Nat) : Int) := by
    rw [show Tg.Sc.words.length = 6 from rfl] at hkl
    rw [hfw, wrapI (by omega) (by omega)]
  rw [← hH2] at hsp
  rw [← hH4] at hwd
  generalize hk : Tg.Sc.kindP (w 0) Tg.Sc.words 0 = k at *
  generalize Tg.Sc.numP (w 1) = m1 at *
  obtain ⟨H7, hH7⟩ : ∃ H7, H7 = H6.new ⟨ev0c k m1, 36, true⟩ := ⟨_, rfl⟩
  have n7 : H7.n = H.n + 1 + 1 + 1 + 1 + 1 := by rw [hH7, n_new, n6]
  have g7 : H7.get (H.n + 1 + 1 + 1 + 1) = some ⟨ev0c k m1, 36, true⟩ := by rw [hH7, ← n6]; exact get_new
  have r7 : Rd H7 (H.n + 1 + 1) (ws.drop 2) := r6.keep (by omega) (fun j hj => by rw [hH7, get_new_ne (by omega)])
  have g7' : H7.get H.n = some ⟨ev0c 0 0, 36, true⟩ := by rw [hH7, get_new_ne (by omega)]; exact g6
  have le7 : ∀ j, j < H.n → H7.get j = H.get j := fun j hj => by rw [hH7, get_new_ne (by omega)]; exact le6 j hj
  have d1 := eq_false (show ¬ H.n = H.n + 1 + 1 + 1 + 1 by omega)
  have lef : ∀ (G : LH), G.n = H7.n → (∀ j, j < H.n → G.get j = H7.get j) → ∀ (l : Nat) (b : LB), H.n ≤ l → H.le (G.set l b) := fun G hn hg l b hl => ⟨by show H.n ≤ G.n; omega, fun j hj => by rw [get_set_ne (by omega), hg j hj, le7 j hj]⟩
  have leg : ∀ (G : LH), G.n = H7.n → (∀ j, j < H.n → G.get j = H7.get j) → H.le G := fun G hn hg => ⟨by omega, fun j hj => by rw [hg j hj, le7 j hj]⟩
  refine LC_pure rfl Tryz.func57 rfl (Nat.le_of_ble_eq_true rfl) (by decide) (by kernel_rfl) rfl ?_
  by_cases k1 : k = 1
  · subst k1
    simp only [if_true]
    replace hH7 : H7 = H6.new ⟨ev0c 1 m1, 36, true⟩ := hH7
    replace hwk : IntKind.i64.wrap (Tg.Sc.find (w 0) Tg.Sc.words 0 + 1) = 1 := hwk
    obtain ⟨H8, e8, r8, u8⟩ := na r7
    obtain ⟨H9, e9, r9, u9⟩ := wa r8
    have u79 := u8.trans u9
    have g9 : H9.get (H.n + 1 + 1 + 1 + 1) = some ⟨ev0c 1 m1, 36, true⟩ := by rw [u79.old _ (by omega) (by omega)]; exact g7
    obtain ⟨H10, hH10⟩ : ∃ H10, H10 = H9.set (H.n + 1 + 1 + 1 + 1) ⟨[.int .i64 1, .int .i64 m1, str [], str [], str (w 3), .int .i64 (Tg.Sc.numP (w 2) : Nat), .int .i64 0, .slice none 0 0, str []], 36, true⟩ := ⟨_, rfl⟩
    have g10 : H10.get (H.n + 1 + 1 + 1 + 1) = some ⟨[.int .i64 1, .int .i64 m1, str [], str [], str (w 3), .int .i64 (Tg.Sc.numP (w 2) : Nat), .int .i64 0, .slice none 0 0, str []], 36, true⟩ := by rw [hH10]; exact get_set
    obtain ⟨H11, e11, r11, u11⟩ := ba (G := H10) (by rw [hH10]; exact r9.set (by omega))
    have n10 : H10.n = H7.n := by rw [hH10]; exact u79.n
    have g11 := (u11.old (H.n + 1 + 1 + 1 + 1) (by omega) (by omega)).trans g10
    obtain ⟨H12, hH12⟩ : ∃ H12, H12 = H11.set (H.n + 1 + 1 + 1 + 1) ⟨[.int .i64 1, .int .i64 m1, str (Tg.Sc.plainT (w 4)), str [], str (w 3), .int .i64 (Tg.Sc.numP (w 2) : Nat), .int .i64 0, .slice none 0 0, str []], 36, true⟩ := ⟨_, rfl⟩
    have g12 : H12.get (H.n + 1 + 1 + 1 + 1) = some ⟨[.int .i64 1, .int .i64 m1, str (Tg.Sc.plainT (w 4)), str [], str (w 3), .int .i64 (Tg.Sc.numP (w 2) : Nat), .int .i64 0, .slice none 0 0, str []], 36, true⟩ := by rw [hH12]; exact get_set
    obtain ⟨H13, e13, r13, u13⟩ := ba (G := H12) (by rw [hH12]; exact r11.set (by omega))
    have n12 : H12.n = H7.n := by rw [hH12]; exact u11.n.trans n10
    have g13 := (u13.old (H.n + 1 + 1 + 1 + 1) (by omega) (by omega)).trans g12
    have o13 : ∀ j, j < H.n + 1 → H13.get j = H7.get j := fun j hj => by
      rw [u13.old j (by omega) (by omega), hH12, get_set_ne (by omega), u11.old j (by omega) (by omega), hH10, get_set_ne (by omega), u79.old j (by omega) (by omega)]
    have g13' := (o13 H.n (by omega)).trans g7'
    simp [Tg.Sc.ev0, ← hH1, hsp, ← hH3, n1, n2, n3, n6, hwd, e5, hix, hwk, e6, ← hH7, g7, g7', e8, e9, g9, ← hH10, e11, g11, ← hH12, e13, g13, g13', d1]
    exact lef H13 (u13.n.trans n12) (fun j hj => o13 j (by omega)) _ _ (by omega)
  by_cases k2 : k = 2
  · subst k2
    simp only [if_true, if_neg (show ¬ (2 : Nat) = 1 by decide)]
    replace hH7 : H7 = H6.new ⟨ev0c 2 m1, 36, true⟩ := hH7
    replace hwk : IntKind.i64.wrap (Tg.Sc.find (w 0) Tg.Sc.words 0 + 1) = 2 := hwk
    obtain ⟨H8, e8, r8, u8⟩ := na r7
    have g8 : H8.get (H.n + 1 + 1 + 1 + 1) = some ⟨ev0c 2 m1, 36, true⟩ := by rw [u8.old _ (by omega) (by omega)]; exact g7
    obtain ⟨H9, hH9⟩ : ∃ H9, H9 = H8.set (H.n + 1 + 1 + 1 + 1) ⟨[.int .i64 2, .int .i64 m1, str [], str [], str [], .int .i64 0, .int .i64 (Tg.Sc.numP (w 2) : Nat), .slice none 0 0, str []], 36, true⟩ := ⟨_, rfl⟩
    have g9 : H9.get (H.n + 1 + 1 + 1 + 1) = some ⟨[.int .i64 2, .int .i64 m1, str [], str [], str [], .int .i64 0, .int .i64 (Tg.Sc.numP (w 2) : Nat), .slice none 0 0, str []], 36, true⟩ := by rw [hH9]; exact get_set
    obtain ⟨H10, e10, r10, u10⟩ := na (G := H9) (by rw [hH9]; exact r8.set (by omega))
    have n9 : H9.n = H7.n := by rw [hH9]; exact u8.n
    have g10 := (u10.old (H.n + 1 + 1 + 1 + 1) (by omega) (by omega)).trans g9
    have o10 : ∀ j, j < H.n + 1 → H10.get j = H7.get j := fun j hj => by
      rw [u10.old j (by omega) (by omega), hH9, get_set_ne (by omega), u8.old j (by omega) (by omega)]
    have g10' := (o10 H.n (by omega)).trans g7'
    simp [Tg.Sc.ev0, ← hH1, hsp, ← hH3, n1, n2, n3, n6, hwd, e5, hix, hwk, e6, ← hH7, g7, g7', e8, g8, ← hH9, g9, e10, g10, g10', d1]
    exact leg H10 (u10.n.trans n9) (fun j hj => o10 j (by omega))
  by_cases k3 : k = 3
  · subst k3
    simp only [if_true, if_neg (show ¬ (3 : Nat) = 1 by decide), if_neg (show ¬ (3 : Nat) = 2 by decide)]
    replace hH7 : H7 = H6.new ⟨ev0c 3 m1, 36, true⟩ := hH7
    replace hwk : IntKind.i64.wrap (Tg.Sc.find (w 0) Tg.Sc.words 0 + 1) = 3 := hwk
    obtain ⟨H8, e8, r8, u8⟩ := ba r7
    have g8 : H8.get (H.n + 1 + 1 + 1 + 1) = some ⟨ev0c 3 m1, 36, true⟩ := by rw [u8.old _ (by omega) (by omega)]; exact g7
    have o8 : ∀ j, j < H.n + 1 → H8.get j = H7.get j := fun j hj => u8.old j (by omega) (by omega)
    have g8' := (o8 H.n (by omega)).trans g7'
    simp [Tg.Sc.ev0, ← hH1, hsp, ← hH3, n1, n2, n3, n6, hwd, e5, hix, hwk, e6, ← hH7, g7, g7', e8, g8, g8', d1]
    exact lef H8 u8.n (fun j hj => o8 j (by omega)) _ _ (by omega)
  have q1 := eq_false (show ¬ ((k : Nat) : Int) = 1 by omega)
  have q2 := eq_false (show ¬ ((k : Nat) : Int) = 2 by omega)
  have q3 := eq_false (show ¬ ((k : Nat) : Int) = 3 by omega)
  simp only [if_neg k1, if_neg k2, if_neg k3]
  simp [Tg.Sc.ev0, ← hH1, hsp, ← hH3, n1, n2, n3, n6, hwd, e5, hix, hwk, e6, ← hH7, g7, g7', d1, q1, q2, q3, k1, k2, k3]
  exact leg H7 rfl (fun j hj => rfl)
end
end Go.Proofs.YthgcgjpbhbikaaaGreatDoor.Sc
/-
  Layer 40 (script): the event with which lines begin, by the code.
-/
set_option linter.unusedSimpArgs false
set_option linter.unusedVariables false
set_option maxRecDepth 100000
namespace Tg.Sc
open Go
theorem cutCB_cons {b : UInt8} {r : List UInt8} (h : ([58, 32] : List UInt8).isPrefixOf (b :: r) = false) : cutCB (b :: r) = (b :: (cutCB r).1, (cutCB r).2) := by
  rw [cutCB]
  intro r' e1 e2
  subst e1 e2
  simp [List.isPrefixOf] at h
theorem cutCB_idx : ∀ s : List UInt8, (Lib.index s [58, 32] = -1 ∧ cutCB s = (s, [])) ∨ ∃ i : Nat, Lib.index s [58, 32] = i ∧ i + 2 ≤ s.length ∧ cutCB s = (s.take i, s.drop (i + 2))
  | [] => .inl ⟨rfl, rfl⟩
  | b :: r => by
    cases hp : ([58, 32] : List UInt8).isPrefixOf (b :: r) with
    | true =>
      right
      obtain ⟨c, r2, rfl⟩ : ∃ c r2, r = c :: r2 := by
        cases r with
        | nil => simp [List.isPrefixOf] at hp
        | cons c r2 => exact ⟨c, r2, rfl⟩
      have hb : b = 58 ∧ c = 32 := by
        simp [List.isPrefixOf] at hp
        exact ⟨hp.1.symm, hp.2.symm⟩
      obtain ⟨rfl, rfl⟩ := hb
      refine ⟨0, ?_, by simp, rfl⟩
      unfold Lib.index
      rw [if_pos hp]; rfl
    | false =>
      have hc := cutCB_cons hp
      rcases cutCB_idx r with ⟨h1, h2⟩ | ⟨i, h1, h2, h3⟩
      · left
        refine ⟨?_, by rw [hc, h2]⟩
        unfold Lib.index
        rw [if_neg (by rw [hp]; decide), h1]; rfl
      · right
        refine ⟨i + 1, ?_, by simp only [List.length_cons]; omega, by rw [hc, h3]; rfl⟩
        unfold Lib.index
        rw [if_neg (by rw [hp]; decide), h1, if_neg (by simp only [beq_iff_eq]; omega)]
        omega
theorem noBar_trim (s : List UInt8) : Lib.trimPrefix s [124] = noBar s := by
  unfold Lib.trimPrefix Lib.hasPrefix noBar
  cases s with
  | nil => rfl
  | cons b r =>
    by_cases hb : b = 124
    · subst hb; simp [List.isPrefixOf]
    · have : ([124] : List UInt8).isPrefixOf (b :: r) = false := by
        simp [List.isPrefixOf]; exact fun e => hb e.symm
      rw [this]
      simp only [Bool.false_eq_true, if_false]
      split
      · rename_i e; injection e with e _; exact absurd e hb
      · rfl
theorem cutCB_len (s : List UInt8) : (cutCB s).1.length ≤ s.length ∧ (cutCB s).2.length ≤ s.length := by
  rcases cutCB_idx s with ⟨_, h⟩ | ⟨i, _, h1, h⟩
  · rw [h]; simp
  · rw [h]; simp; omega
theorem noBar_len (s : List UInt8) : (noBar s).length ≤ s.length := by
  unfold noBar
  split
  · simp
  · exact Nat.le_refl _
theorem hdrP_len (s : List UInt8) : (hdrP s).1.length ≤ s.length ∧ (hdrP s).2.length ≤ s.length := by
  have h1 := noBar_len s
  have h2 := cutCB_len (noBar s)
  have h3 := plain_len (cutCB (noBar s)).2
  unfold hdrP
  simp only
  omega
end Tg.Sc
namespace Go.Proofs.YthgcgjpbhbikaaaGreatDoor.Sc
open Go.Lg Go.Tg
section
variable {H : LH} {s : List UInt8} {v : Value} {xs r : List (List UInt8)}
theorem cut2_cl (hs : s.length ≤ 300000) (hm : MaxL H) : ∃ b, LC Tryz.prog EJ 58 [str s, str [58, 32]] H = some (.tuple #[str (Tg.Sc.cutCB s).1, str (Tg.Sc.cutCB s).2, .bool b], H) := by
  have hi := indexM_l (H := H) (s := s) (a := 58) (b := 32) (p := []) (by omega) hm
  have key : ∃ b, LC Tryz.prog EJ 82 [str s, str [58, 32]] H = some (.tuple #[str (Tg.Sc.cutCB s).1, str (Tg.Sc.cutCB s).2, .bool b], H) := by
    rcases Tg.Sc.cutCB_idx s with ⟨h1, h2⟩ | ⟨i, h1, h2, h3⟩
    · refine ⟨false, ?_⟩
      refine LC_pure rfl Tryz.func82 rfl (Nat.le_of_ble_eq_true rfl) (by decide) (by kernel_rfl) rfl ?_
      rw [h1] at hi
      simp [hi, h2]
    · refine ⟨true, ?_⟩
      refine LC_pure rfl Tryz.func82 rfl (Nat.le_of_ble_eq_true rfl) (by decide) (by kernel_rfl) rfl ?_
      rw [h1] at hi
      have hw : IntKind.i64.wrap ((i : Int) + 2) = (i : Int) + 2 := wrapI (by omega) (by omega)
      have e1 : ((i : Int) + 2).toNat = i + 2 := by omega
      have f1 := eq_true (show (i : Int) ≤ s.length by omega)
      have f2 := eq_true (show (i : Int) + 2 ≤ s.length by omega)
      have f3 := eq_true (show (0 : Int) ≤ (i : Int) + 2 by omega)
      simp [hi, h3, hw, e1, f1, f2, f3]
  obtain ⟨b, hk⟩ := key
  refine ⟨b, ?_⟩
  refine LC_pure rfl Tryz.func58 rfl (Nat.le_of_ble_eq_true rfl) (by decide) (by kernel_rfl) rfl ?_
  simp [hk]
theorem TRow.part (h : TRow H v xs) {a b : Option Value} {p q : Nat} (ha : lbd 0 a = some p) (hb : lbd xs.length b = some q) (hpq : p ≤ q) (hq : q ≤ xs.length) : ∃ v', lpart Tryz.prog 40 v a b = some v' ∧ TRow H v' ((xs.take q).drop p) := by
  have hsz : sz Tryz.prog 9 = some 1 := by kernel_rfl
  rcases h with ⟨rfl, rfl⟩ | ⟨k, o, c, B, rfl, h2, h3, h4, h5, h6⟩
  · have hq0 : q = 0 := by simpa using hq
    have hp0 : p = 0 := by omega
    subst hq0 hp0
    refine ⟨.slice none 0 0, ?_, .inl ⟨rfl, by simp⟩⟩
    have hb' : lbd 0 b = some 0 := hb
    simp [lpart, Tryz.underlying40, ha, hb', hsz]
  · refine ⟨_, lpart_row0 Tryz.underlying40 hsz ha hb ⟨hpq, hq⟩, .inr ⟨k, o + p * 1, c - p, B, by simp [List.length_take, Nat.min_eq_left hq], h2, h3, ?_, by simp [List.length_take, Nat.min_eq_left hq]; omega, h6⟩⟩
    rw [Nat.mul_one, ← List.drop_drop, List.length_drop, List.length_take, Nat.min_eq_left hq, List.map_drop, List.map_take, ← h4, List.take_take, Nat.min_eq_left hq, List.drop_take]
/-- what `next` leaves -/
def OutN (H : LH) (x : Option (Tg.Sc.Ev × Nat)) (r : Value × LH) : Prop :=
  ∃ e p n ok, r.1 = .tuple #[evv e p, .int .i64 n, .bool ok] ∧ cellB p = true ∧ H.le r.2 ∧ match x with
    | some (e', k) => e = e' ∧ n = (k : Int) + 1 ∧ ok = true ∧ HOwn H.n r.2 p e'.hdrs
    | none => ok = false
theorem OutN.trunc {x : Option (Tg.Sc.Ev × Nat)} {u : Value} {H' : LH} (h : OutN H x (u, H')) : ∃ H2, Lg.trunc H (u, H') = (u, H2) ∧ OutN H x (u, H2) := by
  rcases trunc_or u H H' with e2 | ⟨e2, hf, _⟩
  · exact ⟨H', e2, h⟩
  · refine ⟨H, e2, ?_⟩
    obtain ⟨e, p, n, ok, h1, hc, h2, h3⟩ := h
    refine ⟨e, p, n, ok, h1, hc, le_refl, ?_⟩
    cases x with
    | none => exact h3
    | some y =>
      obtain ⟨e', k⟩ := y
      obtain ⟨g1, g2, g3, g4⟩ := h3
      refine ⟨g1, g2, g3, g4.1, ?_⟩
      rcases g4.2 with g5 | ⟨k, c, rest, rfl, _⟩
      · exact .inl g5
      · simp only at h1
        rw [h1] at hf
        simp [flatB, flat1B, atomB] at hf
theorem ev_bounds (hs : s.length ≤ 300000) : (Tg.Sc.eventP s).2 ≤ 9007199254740991 ∧ EvZ { (Tg.Sc.eventP s).1 with hdrs := [] } := by
  have hn : ∀ w : List UInt8, Tg.Sc.numP w ≤ 9007199254740991 := fun w => by
    unfold Tg.Sc.numP
    split
    · omega
    · split <;> omega
  have hw := getD_len hs
  have hp : ∀ i, (Tg.Sc.plainT ((Tg.Sc.cutAt 32 s).getD i [])).length ≤ 300000 := fun i => Nat.le_trans (Tg.Sc.plain_len _) (hw i)
  have hh : ∀ h ∈ ([] : List Tg.Hd.Hdr), h.1.length ≤ 300000 ∧ h.2.length ≤ 300000 := fun h hm => by cases hm
  have q : ∀ w, (-9223372036854775808 : Int) ≤ (Tg.Sc.numP w : Nat) ∧ ((Tg.Sc.numP w : Nat) : Int) ≤ 9223372036854775807 := fun w => by have := hn w; omega
  unfold Tg.Sc.eventP Tg.Sc.ev0
  simp only
  split
  · exact ⟨by simp, ⟨hp _, hp _, hw _, by simp, by simp, hh, (q _).1, (q _).2, (q _).1, (q _).2, by simp, by simp⟩⟩
  · split
    · exact ⟨hn _, ⟨by simp, by simp, by simp, by simp, by simp, hh, (q _).1, (q _).2, by simp, by simp, (q _).1, (q _).2⟩⟩
    · split
      · exact ⟨by simp, ⟨by simp, by simp, by simp, hp _, by simp, hh, (q _).1, (q _).2, by simp, by simp, by simp, by simp⟩⟩
      · exact ⟨by simp, ⟨by simp, by simp, by simp, by simp, by simp, hh, (q _).1, (q _).2, by simp, by simp, by simp, by simp⟩⟩
theorem hown_weak {N N' : Nat} {w : Value} {l : List Tg.Hd.Hdr} (h : HOwn N H w l) (hn : N' ≤ N) : HOwn N' H w l := by
  refine ⟨h.1, ?_⟩
  rcases h.2 with h2 | ⟨k, c, rest, rfl, g1, g2, g3, g4, g5⟩
  · exact .inl h2
  · exact .inr ⟨k, c, rest, rfl, by omega, g2, g3, g4, g5⟩
theorem next_ex (hv : TRow H v (s :: r)) (hs : ∀ x ∈ s :: r, x.length ≤ 300000) (hl : r.length ≤ 80000) (hm : MaxL H) (ht : Tab H) (h10 : Tab10 H) :
    ∃ u, LC Tryz.prog EJ 35 [v] H = some u ∧ OutN H (Tg.Sc.nextP s r) u := by
  have key : ∃ u, LC Tryz.prog EJ 35 [v] H = some (Lg.trunc H u) ∧ OutN H (Tg.Sc.nextP s r) u := by
    refine LC_runs (P := Tryz.prog) (E := EJ) (f := 35) rfl Tryz.func35 rfl (Nat.le_of_ble_eq_true rfl) (by decide) (by kernel_rfl) ?_
    have hs0 := hs s (by simp)
    obtain ⟨hnb, hz0⟩ := ev_bounds hs0
    unfold Tg.Sc.nextP
    generalize hep : Tg.Sc.eventP s = ep at *
    obtain ⟨e0, n⟩ := ep
    simp only at hnb hz0 ⊢
    obtain ⟨H1, hH1⟩ : ∃ H1, H1 = H.new ⟨ev0c 0 0, 36, true⟩ := ⟨_, rfl⟩
    have n1 : H1.n = H.n + 1 := by rw [hH1]; rfl
    have b1 : Bs H H1 := by rw [hH1]; exact ⟨rfl, rfl⟩
    have le1 : H.le H1 := by rw [hH1]; exact le_refl.new
    have g1 : H1.get H.n = some ⟨ev0c 0 0, 36, true⟩ := by rw [hH1]; exact get_new
    have hv1 : TRow H1 v (s :: r) := hv.keep le1.1 le1.2
    obtain ⟨k0, o0, a1, _, a3⟩ := hv1.at (i := 0) (by simp)
    have a4 := a3 H1 rfl
    simp only [List.getElem_cons_zero] at a4
    have a1 : ∀ G : LH, lixa Tryz.prog 40 v (.int .i64 0) G = some (ptr k0 o0, G) := a1
    have hev := event_cl (H := H1) hs0 (hm.bs b1) (ht.bs b1)
    rw [hep] at hev
    obtain ⟨H2, hH2⟩ : ∃ H2, H2 = H1.new (evc e0 (.slice none 0 0)) := ⟨_, rfl⟩
    have n2 : H2.n = H.n + 1 + 1 := by rw [hH2, n_new, n1]
    have le2 : H.le H2 := by rw [hH2]; exact le1.new
    have b2 : Bs H H2 := by rw [hH2]; exact b1
    have g2 : H2.get (H.n + 1) = some (evc e0 (.slice none 0 0)) := by rw [hH2, ← n1]; exact get_new
    have g2' : H2.get H.n = some ⟨ev0c 0 0, 36, true⟩ := by rw [hH2, get_new_ne (by omega)]; exact g1
    have hlen := fun G : LH => hv1.len (H' := G)
    simp only [List.length_cons] at hlen
    have hw1 : IntKind.i64.wrap ((n : Int) + 1) = ((n + 1 : Nat) : Int) := by rw [wrapI (by omega) (by omega)]; omega
    by_cases hbig : r.length < n
    · rw [if_pos hbig]
      have q0 := eq_true (show ((r.length + 1 : Nat) : Int) ≤ (n : Int) by omega)
      have q1 := eq_true (show (r.length : Int) + 1 ≤ (n : Int) by omega)
      simp [← hH1, a1, a4, hev, ← hH2, n1, g2, g2', hlen, q0, q1]
      exact ⟨e0, .slice none 0 0, 0, false, rfl, by simp, (le_set_iff (Nat.le_refl _)).2 le2, rfl⟩
    rw [if_neg hbig]
    have q0 := eq_false (show ¬ (r.length : Int) + 1 ≤ (n : Int) by omega)
    have hwn : IntKind.i64.wrap ((n : Int) + 1) = (n : Int) + 1 := wrapI (by omega) (by omega)
    obtain ⟨v', hp1, hv'⟩ := hv.part (a := some (.int .i64 1)) (b := some (.int .i64 ((n : Int) + 1))) (p := 1) (q := n + 1) rfl (by
      show (if 0 ≤ (n : Int) + 1 then some ((n : Int) + 1).toNat else none) = some (n + 1)
      rw [if_pos (by omega)]; congr 1) (by omega) (by simp; omega)
    rw [show ((s :: r).take (n + 1)).drop 1 = r.take n from rfl] at hv'
    obtain ⟨ls, hls⟩ : ∃ ls, ls = r.take n := ⟨_, rfl⟩
    have hlsn : ls.length = n := by rw [hls, List.length_take]; omega
    have hlss : ∀ x ∈ ls, x.length ≤ 300000 := fun x hx => hs x (by rw [hls] at hx; simp [List.mem_of_mem_take hx])
    rw [← hls] at hv' ⊢
    have hvl := fun G : LH => hv'.len (H' := G)
    rw [hlsn] at hvl
    simp [← hH1, a1, a4, hev, ← hH2, n1, g2, g2', hlen, q0, hwn, hp1, hvl]
    refine loop_ind (fun (i : Nat) fr' H' => ∃ w, fr' 0 = v ∧ fr' 2 = ptr H.n 0 ∧ fr' 5 = ptr (H.n + 1) 0 ∧ fr' 6 = .int .i64 n ∧ fr' 29 = v' ∧ fr' 30 = .int .i64 n ∧ fr' 31 = .int .i64 i ∧ i ≤ n ∧ H'.get (H.n + 1) = some (evc e0 w) ∧ HOwn (H.n + 1 + 1) H' w ((ls.take i).map Tg.Sc.hdrP) ∧ H.n + 1 + 1 ≤ H'.n ∧ H'.get H.n = some ⟨ev0c 0 0, 36, true⟩ ∧ (∀ k, k < H.n → H'.get k = H.get k) ∧ Bs H H') (fun i => n - i) 0 ⟨.slice none 0 0, by simp, by simp, by simp, by simp, by simp, by simp, by simp, Nat.zero_le _, g2, by simpa using (HOwn.nil (N := H.n + 1 + 1) (H := H2)), by omega, g2', le2.2, b2⟩ ?_
    rintro i fr' H' ⟨w, f0, f2, f5, f6, f29, f30, f31, hi, ge, hrow, hn, gz, hk, hb⟩ ih
    have hvi : TRow H' v' ls := hv'.keep (by omega) hk
    by_cases hlt : i < n
    · have q := eq_true (show (i : Int) < (n : Int) by omega)
      have hwi : IntKind.i64.wrap ((i : Int) + 1) = ((i + 1 : Nat) : Int) := by rw [wrapI (by omega) (by omega)]; omega
      obtain ⟨k1, o1, c1, _, c3⟩ := hvi.at (i := i) (by omega)
      have c4 := c3 H' rfl
      have hx := hlss ls[i] (List.getElem_mem (by omega))
      have hnb := Tg.Sc.noBar_trim ls[i]
      have hnl := Tg.Sc.noBar_len ls[i]
      have hcl := Tg.Sc.cutCB_len (Tg.Sc.noBar ls[i])
      obtain ⟨bb, hcut⟩ := cut2_cl (H := H') (s := Tg.Sc.noBar ls[i]) (by omega) (hm.bs hb)
      have hpl := fun H : LH => plain_cl (H := H) (s := (Tg.Sc.cutCB (Tg.Sc.noBar ls[i])).2) (by omega)
      have hnew : (ls.take (i + 1)).map Tg.Sc.hdrP = (ls.take i).map Tg.Sc.hdrP ++ [((Tg.Sc.cutCB (Tg.Sc.noBar ls[i])).1, Tg.Sc.plainT (Tg.Sc.cutCB (Tg.Sc.noBar ls[i])).2)] := by
        rw [List.take_succ_eq_append_getElem (by omega), List.map_append]; rfl
      obtain ⟨w2, H3, d1, d2, d3, d4, d5, d6⟩ := h_app hrow hn (by rw [List.length_map, List.length_take]; omega) (Tg.Sc.cutCB (Tg.Sc.noBar ls[i])).1 (Tg.Sc.plainT (Tg.Sc.cutCB (Tg.Sc.noBar ls[i])).2)
      rw [← hnew] at d2
      have g3 : H3.get (H.n + 1) = some (evc e0 w) := by rw [d4 _ (by omega) (hrow.off_lt (by omega))]; exact ge
      have hcw : cellB w2 = true := d2.cell
      have b3 : Bs H H3 := hb.trans (Bs.trans (H1 := H'.new _) ⟨rfl, rfl⟩ (lapp_bs d1))
      have hfin := fun fr2 (f0 : fr2 0 = v) (f2 : fr2 2 = ptr H.n 0) (f5 : fr2 5 = ptr (H.n + 1) 0) (f6 : fr2 6 = .int .i64 n) (f29 : fr2 29 = v') (f30 : fr2 30 = .int .i64 n) (f31 : fr2 31 = .int .i64 ((i + 1 : Nat) : Int)) => ih (i + 1) fr2 (H3.set (H.n + 1) (evc e0 w2)) (by omega) ⟨w2, f0, f2, f5, f6, f29, f30, f31, by omega, get_set, d2.keep (Nat.le_refl _) (fun k h1 _ _ => get_set_ne (by omega)), by show _ ≤ H3.n; omega, by rw [get_set_ne (by omega), d4 _ (by omega) (hrow.off_lt (by omega))]; exact gz, fun k hk2 => by rw [get_set_ne (by omega), d4 _ (by omega) (hrow.off_lt (by omega))]; exact hk k hk2, b3⟩
      clear ih d2 hrow hnew
      generalize Tg.Sc.plainT (Tg.Sc.cutCB (Tg.Sc.noBar ls[i])).2 = y2 at *
      generalize (Tg.Sc.cutCB (Tg.Sc.noBar ls[i])).2 = y3 at *
      generalize (Tg.Sc.cutCB (Tg.Sc.noBar ls[i])).1 = y1 at *
      generalize Tg.Sc.noBar ls[i] = y0 at *
      generalize ls[i] = x at *
      simp [f0, f2, f5, f6, f29, f30, f31, q, c1, c4, hnb, hcut, hpl, ge, bs1h, d1, g3, hcw]
      refine hfin _ ?_ ?_ ?_ ?_ ?_ ?_ ?_
      all_goals simp [f0, f2, f5, f6, f29, f30, hwi]
    · have hin : i = n := by omega
      subst hin
      have q := eq_false (show ¬ (i : Int) < (i : Int) by omega)
      rw [List.take_of_length_le (by omega)] at hrow
      obtain ⟨e', he'⟩ : ∃ e' : Tg.Sc.Ev, e' = { e0 with hdrs := ls.map Tg.Sc.hdrP } := ⟨_, rfl⟩
      rw [← he']
      have hh : e'.hdrs = ls.map Tg.Sc.hdrP := by rw [he']
      have hz : EvZ e' := by
        rw [he']
        exact ⟨hz0.url, hz0.src, hz0.mode, hz0.body, by rw [List.length_map]; omega, fun h hm => by
          obtain ⟨x, hx, rfl⟩ := List.mem_map.mp hm
          have := Tg.Sc.hdrP_len x
          have := hlss x hx
          omega, hz0.id0, hz0.id1, hz0.me0, hz0.me1, hz0.st0, hz0.st1⟩
      have hev' : evv e' w = .agg #[.int .i64 e0.kind, .int .i64 e0.id, str e0.url, str e0.src, str e0.mode, .int .i64 e0.media, .int .i64 e0.status, w, str e0.body] := by rw [he']
      rw [← hh] at hrow
      have hr' := hrow.row
      have hgood := good_cl hr' hz
      rw [hev'] at hgood
      obtain ⟨wa, wn, wc, rfl⟩ := hr'.slice
      have leH : H.le H' := ⟨by omega, hk⟩
      cases hgd : Tg.Sc.good e' with
      | false =>
        rw [hgd] at hgood
        rw [if_neg (by simp)]
        simp [f0, f2, f5, f6, f29, f30, f31, q, ge, gz, hgood, hwn]
        exact ⟨e', .slice wa wn wc, _, false, by rw [hev'], by simp, (le_set_iff (Nat.le_refl _)).2 leH, rfl⟩
      | true =>
        rw [hgd] at hgood
        obtain ⟨v3, H3, e3, o3⟩ := shown_ex hgd hr' hz (ht.bs hb) (h10.bs hb)
        rw [hev'] at e3
        obtain ⟨v4, hp4, hv4⟩ := hv.part (a := none) (b := some (.int .i64 ((i : Int) + 1))) (p := 0) (q := i + 1) rfl (by
          show (if 0 ≤ (i : Int) + 1 then some ((i : Int) + 1).toNat else none) = some (i + 1)
          rw [if_pos (by omega)]; congr 1) (by omega) (by simp; omega)
        rw [List.drop_zero, List.take_succ_cons, ← hls] at hv4
        have hle3 : H.le H3 := le_trans leH o3.le
        have heq := tequal_cl o3.row (hv4.keep hle3.1 hle3.2) (by
          have hgs := hgd
          obtain ⟨s9, r9, hl9⟩ := Tg.Sc.lined hgd
          have h9 := congrArg List.length hl9.hs
          rw [List.length_map, hh, List.length_map] at h9
          rw [hl9.sh, List.length_cons]
          omega)
        have g3 : H3.get (H.n + 1) = some (evc e0 (.slice wa wn wc)) := by rw [o3.le.2 _ (by omega)]; exact ge
        have gz3 : H3.get H.n = some ⟨ev0c 0 0, 36, true⟩ := by rw [o3.le.2 _ (by omega)]; exact gz
        simp [f0, f2, f5, f6, f29, f30, f31, q, ge, gz, hgood, hwn, e3, hp4, heq, g3, gz3]
        have hrf : HOwn H.n (H3.set H.n (evc e0 (.slice wa wn wc))) (.slice wa wn wc) e'.hdrs := hown_weak (hrow.keep (by have := o3.le.1; show H'.n ≤ H3.n; omega) (fun k h1 _ h2 => by rw [get_set_ne (by omega), o3.le.2 k h2])) (by omega)
        by_cases hsh : Tg.Sc.shown e' = s :: ls
        · rw [if_pos hsh, decide_eq_true hsh]
          exact ⟨e', .slice wa wn wc, _, true, by rw [hev'], by simp, (le_set_iff (Nat.le_refl _)).2 hle3, rfl, rfl, rfl, hrf⟩
        · rw [if_neg hsh, decide_eq_false hsh]
          exact ⟨e', .slice wa wn wc, _, false, by rw [hev'], by simp, (le_set_iff (Nat.le_refl _)).2 hle3, rfl⟩
  obtain ⟨⟨u, H'⟩, e, ho⟩ := key
  obtain ⟨H2, e2, ho2⟩ := ho.trunc
  exact ⟨(u, H2), by rw [e, e2], ho2⟩
end
end Go.Proofs.YthgcgjpbhbikaaaGreatDoor.Sc
/-
  Layer 40 (script): a setup's line, by the code.
-/
set_option linter.unusedSimpArgs false
set_option linter.unusedVariables false
set_option maxRecDepth 100000
namespace Go.Proofs.YthgcgjpbhbikaaaGreatDoor.Sc
open Go.Lg Go.Tg
section
variable {H : LH} {s : List UInt8}
abbrev setc (b : Bool) (k d t n : Int) : List Value := [.bool b, .int .i64 k, .int .i64 d, .int .i64 t, .int .i64 n]
theorem set_ok (s : List UInt8) : (Tg.Sc.settings s).isSome = (decide (s ≠ []) && decide ((if Tg.Sc.fineS (Tg.Sc.setP s) = true then Tg.Sc.setupT (Tg.Sc.setP s) else []) = s)) := by
  unfold Tg.Sc.settings
  by_cases h0 : s = []
  · subst h0
    rw [if_neg]
    · rfl
    · rintro ⟨_, h⟩
      revert h
      unfold Tg.Sc.setupT Tg.Sc.kwSetup
      simp [Tg.Sc.wl]
  · by_cases h1 : Tg.Sc.fineS (Tg.Sc.setP s) = true
    · rw [if_pos h1]
      by_cases h2 : Tg.Sc.setupT (Tg.Sc.setP s) = s
      · rw [if_pos ⟨h1, h2⟩]; simp [h0, h2]
      · rw [if_neg (fun h => h2 h.2)]; simp [h0, h2]
    · rw [if_neg (fun h => h1 h.1), if_neg h1]
      simp [h0]
theorem set_fill {b k d : Value} : lfill Tryz.prog 26 [.bool false, .int .i64 0, .int .i64 0, .int .i64 0, .int .i64 0] [(0, .agg ⟨[b, k, d]⟩)] = some [b, k, d, .int .i64 0, .int .i64 0] := by
  rw [lfill_agg (o := 0) (n := 3) (g := true) (by kernel_rfl) rfl (by decide)]
  exact lfill_nil (by kernel_rfl)
theorem settings_cl (hs : s.length ≤ 300000) (hm : MaxL H) (h10 : Tab10 H) : LC Tryz.prog EJ 34 [str s] H = some (.tuple #[suv (Tg.Sc.setP s), .bool (Tg.Sc.settings s).isSome], H) := by
  rw [set_ok]
  obtain ⟨H1, hH1⟩ : ∃ H1, H1 = H.new ⟨setc false 0 0 0 0, 26, true⟩ := ⟨_, rfl⟩
  have n1 : H1.n = H.n + 1 := by rw [hH1]; rfl
  have b1 : Bs H H1 := by rw [hH1]; exact ⟨rfl, rfl⟩
  have le1 : H.le H1 := by rw [hH1]; exact le_refl.new
  have hsp := split_c (H := H1) 32 (s := s) (by omega) (hm.bs b1)
  have hwl := getD_len hs
  have hsu := fun (G : LH) (hG : Bs H G) => setup_cl (H := G) (c := Tg.Sc.setP s) (h10.bs hG)
  have hep : Tg.Sc.setP s = (let w := fun i => (Tg.Sc.cutAt 32 s).getD i []
    ⟨decide (w 1 = Tg.Sc.kwLegacy), Tg.Sc.numP (w 2), Tg.Sc.numP (w 3), Tg.Sc.numP (w 4), Tg.Sc.numP (w 5)⟩) := rfl
  generalize hst : (if Tg.Sc.fineS (Tg.Sc.setP s) = true then Tg.Sc.setupT (Tg.Sc.setP s) else []) = st at *
  generalize hws : Tg.Sc.cutAt 32 s = ws at *
  generalize Tg.Sc.setP s = ep at *
  obtain ⟨w, hw⟩ : ∃ w : Nat → List UInt8, w = fun i => ws.getD i [] := ⟨_, rfl⟩
  have wa : ∀ {G : LH} {pr i : Nat}, Rd G pr (ws.drop i) → ∃ H', LC Tryz.prog EJ 55 [ptr pr 0] G = some (str (w i), H') ∧ Rd H' pr (ws.drop (i + 1)) ∧ But pr G H' := fun {G pr i} h => by rw [hw]; exact word_at h
  have na : ∀ {G : LH} {pr i : Nat}, Rd G pr (ws.drop i) → ∃ H', LC Tryz.prog EJ 56 [ptr pr 0] G = some (.int .i64 (Tg.Sc.numP (w i) : Nat), H') ∧ Rd H' pr (ws.drop (i + 1)) ∧ But pr G H' := fun {G pr i} h => by rw [hw]; exact num_at h (hwl i)
  have hwi : ∀ i, ws.getD i [] = w i := fun i => by rw [hw]
  simp only [hwi] at hep
  clear hw hwi hst
  subst hep
  obtain ⟨H2, hH2⟩ : ∃ H2, H2 = H1.new ⟨ws.map str, 9, true⟩ := ⟨_, rfl⟩
  have n2 : H2.n = H.n + 1 + 1 := by rw [hH2, n_new, n1]
  have g2 : H2.get (H.n + 1) = some ⟨ws.map str, 9, true⟩ := by rw [hH2, ← n1]; exact get_new
  obtain ⟨H3, hH3⟩ : ∃ H3, H3 = H2.new ⟨[.slice (some ⟨H.n + 1, 0, none⟩) ws.length ws.length], 93, true⟩ := ⟨_, rfl⟩
  have n3 : H3.n = H.n + 1 + 1 + 1 := by rw [hH3, n_new, n2]
  have r3 : Rd H3 (H.n + 1 + 1) (ws.drop 0) := by
    refine ⟨_, by rw [hH3, ← n2]; exact get_new, by omega, .inr ⟨H.n + 1, 0, ws.length, _, rfl, by rw [hH3, get_new_ne (by omega)]; exact g2, by omega, ?_, Nat.le_refl _⟩⟩
    rw [List.drop_zero, List.take_of_length_le (by simp)]; rfl
  have b3 : Bs H H3 := by rw [hH3, hH2]; exact b1
  have le3 : H.le H3 := by rw [hH3, hH2]; exact le1.new.new
  have g3 : H3.get H.n = some ⟨setc false 0 0 0 0, 26, true⟩ := by rw [hH3, get_new_ne (by omega), hH2, get_new_ne (by omega), hH1]; exact get_new
  rw [← hH2] at hsp
  obtain ⟨H4, e4, r4, u4⟩ := wa r3
  obtain ⟨H5, e5, r5, u5⟩ := wa r4
  obtain ⟨H6, e6, r6, u6⟩ := na r5
  obtain ⟨H7, e7, r7, u7⟩ := na r6
  have u37 := ((u4.trans u5).trans u6).trans u7
  have n7 : H7.n = H.n + 1 + 1 + 1 := by rw [u37.n, n3]
  obtain ⟨bl, hbl⟩ : ∃ bl, bl = decide (w 1 = Tg.Sc.kwLegacy) := ⟨_, rfl⟩
  rw [← hbl] at hsu ⊢
  obtain ⟨H8, hH8⟩ : ∃ H8, H8 = H7.new ⟨setc bl (Tg.Sc.numP (w 2) : Nat) (Tg.Sc.numP (w 3) : Nat) 0 0, 26, true⟩ := ⟨_, rfl⟩
  have n8 : H8.n = H.n + 1 + 1 + 1 + 1 := by rw [hH8, n_new, n7]
  have g8 : H8.get (H.n + 1 + 1 + 1) = some ⟨setc bl (Tg.Sc.numP (w 2) : Nat) (Tg.Sc.numP (w 3) : Nat) 0 0, 26, true⟩ := by rw [hH8, ← n7]; exact get_new
  have r8 : Rd H8 (H.n + 1 + 1) (ws.drop 4) := r7.keep (by omega) (fun j hj => by rw [hH8, get_new_ne (by omega)])
  obtain ⟨H9, e9, r9, u9⟩ := na r8
  obtain ⟨H10, e10, r10, u10⟩ := na r9
  have u80 := u9.trans u10
  have g10 : H10.get (H.n + 1 + 1 + 1) = some ⟨setc bl (Tg.Sc.numP (w 2) : Nat) (Tg.Sc.numP (w 3) : Nat) 0 0, 26, true⟩ := by rw [u80.old _ (by omega) (by omega)]; exact g8
  have o10 : ∀ j, j < H.n + 1 → H10.get j = H3.get j := fun j hj => by
    rw [u80.old j (by omega) (by omega), hH8, get_new_ne (by omega), u37.old j (by omega) (by omega)]
  have g10' := (o10 H.n (by omega)).trans g3
  have b10 : Bs H H10 := (b3.trans u37.bs).trans (Bs.trans (H1 := H8) (by rw [hH8]; exact ⟨rfl, rfl⟩) u80.bs)
  obtain ⟨Hf, hHf⟩ : ∃ Hf, Hf = H10.set (H.n + 1 + 1 + 1) ⟨setc bl (Tg.Sc.numP (w 2) : Nat) (Tg.Sc.numP (w 3) : Nat) (Tg.Sc.numP (w 4) : Nat) (Tg.Sc.numP (w 5) : Nat), 26, true⟩ := ⟨_, rfl⟩
  have gf : Hf.get (H.n + 1 + 1 + 1) = some ⟨setc bl (Tg.Sc.numP (w 2) : Nat) (Tg.Sc.numP (w 3) : Nat) (Tg.Sc.numP (w 4) : Nat) (Tg.Sc.numP (w 5) : Nat), 26, true⟩ := by rw [hHf]; exact get_set
  have gf' : Hf.get H.n = some ⟨setc false 0 0 0 0, 26, true⟩ := by rw [hHf, get_set_ne (by omega)]; exact g10'
  have bf : Bs H Hf := by rw [hHf]; exact b10
  have lef : H.le Hf := ⟨by rw [hHf]; show H.n ≤ H10.n; rw [u80.n]; omega, fun j hj => by rw [hHf, get_set_ne (by omega), o10 j (by omega), le3.2 j hj]⟩
  have hs2 := hsu Hf bf
  have d1 := eq_false (show ¬ H.n = H.n + 1 + 1 + 1 by omega)
  refine LC_pure rfl Tryz.func34 rfl (Nat.le_of_ble_eq_true rfl) (by decide) (by kernel_rfl) rfl ?_
  have hbd : w 1 = [108, 101, 103, 97, 99, 121] ↔ bl = true := by rw [hbl, decide_eq_true_eq]; rfl
  by_cases hb0 : s = []
  · have q0 := eq_true hb0
    cases bl with
    | true =>
      have qb := eq_true (hbd.mpr rfl)
      simp [set_fill, ← hH1, hsp, ← hH3, n1, n2, n3, e4, e5, e6, e7, n7, ← hH8, e9, e10, g8, g10, ← hHf, gf, gf', d1, q0, qb]
      exact lef
    | false =>
      have qb := eq_false (fun h => absurd (hbd.mp h) (by decide))
      simp [set_fill, ← hH1, hsp, ← hH3, n1, n2, n3, e4, e5, e6, e7, n7, ← hH8, e9, e10, g8, g10, ← hHf, gf, gf', d1, q0, qb]
      exact lef
  · have q0 := eq_false hb0
    cases bl with
    | true =>
      have qb := eq_true (hbd.mpr rfl)
      simp [set_fill, ← hH1, hsp, ← hH3, n1, n2, n3, e4, e5, e6, e7, n7, ← hH8, e9, e10, g8, g10, ← hHf, gf, gf', d1, q0, qb, hs2]
      exact lef
    | false =>
      have qb := eq_false (fun h => absurd (hbd.mp h) (by decide))
      simp [set_fill, ← hH1, hsp, ← hH3, n1, n2, n3, e4, e5, e6, e7, n7, ← hH8, e9, e10, g8, g10, ← hHf, gf, gf', d1, q0, qb, hs2]
      exact lef
end
end Go.Proofs.YthgcgjpbhbikaaaGreatDoor.Sc
/-
  Layer 40 (script): a text read, by the code.
-/
set_option linter.unusedSimpArgs false
set_option linter.unusedVariables false
set_option maxRecDepth 100000
namespace Go.Proofs.YthgcgjpbhbikaaaGreatDoor.Sc
open Go.Lg Go.Tg
abbrev evl (e : Tg.Sc.Ev) (p : Value) : List Value := [.int .i64 e.kind, .int .i64 e.id, str e.url, str e.src, str e.mode, .int .i64 e.media, .int .i64 e.status, p, str e.body]
def ecells (L : List (Tg.Sc.Ev × Value)) : List Value := L.flatMap fun x => evl x.1 x.2
theorem ecells_len : ∀ L, (ecells L).length = L.length * 9
  | [] => rfl
  | x :: L => by
    unfold ecells
    rw [List.flatMap_cons, List.length_append]
    have := ecells_len L
    unfold ecells at this
    simp only [List.length_cons, List.length_nil] at this ⊢
    omega
theorem ecells_app (a b : List (Tg.Sc.Ev × Value)) : ecells (a ++ b) = ecells a ++ ecells b := List.flatMap_append
theorem ecells_at : ∀ {L : List (Tg.Sc.Ev × Value)} {i : Nat} (h : i < L.length) (r : List Value), ((ecells L ++ r).drop (i * 9)).take 9 = evl L[i].1 L[i].2
  | [], i, h, _ => by simp at h
  | x :: L, 0, h, r => by
    show ((evl x.1 x.2 ++ ecells L ++ r).drop 0).take 9 = _
    simp
  | x :: L, i + 1, h, r => by
    have ih := ecells_at (L := L) (i := i) (by simpa using h) r
    show ((evl x.1 x.2 ++ ecells L ++ r).drop ((i + 1) * 9)).take 9 = _
    rw [List.append_assoc, show (i + 1) * 9 = 9 + i * 9 by omega, ← List.drop_drop]
    exact ih
/-- a row of events of our own -/
def ERow (N : Nat) (H : LH) (v : Value) (l : List Tg.Sc.Ev) : Prop :=
  ∃ L : List (Tg.Sc.Ev × Value), L.map Prod.fst = l ∧ RowN N H 36 9 v L.length (ecells L) ∧ ∀ x ∈ L, HOwn 0 H x.2 x.1.hdrs
section
variable {H H' : LH} {s : List UInt8} {v p : Value} {l : List Tg.Sc.Ev} {e : Tg.Sc.Ev} {N : Nat}
theorem hown_at {hs : List Tg.Hd.Hdr} (h : HOwn N H p hs) {k : Nat} (hk : ¬ offRow p k) : ∃ b, H.get k = some b ∧ b.elem = 78 := by
  rcases h.2 with ⟨rfl, _⟩ | ⟨j, c, rest, rfl, g1, g2, g3, g4, g5⟩
  · exact absurd off_nil hk
  · by_cases e : j = k
    · subst e; exact ⟨_, g3, rfl⟩
    · exfalso
      refine hk (fun n c h => ?_)
      injection h with h
      injection h with h
      injection h with h
      exact e h
theorem ERow.nil : ERow N H (.slice none 0 0) [] := ⟨[], rfl, RowN.nil, fun x hx => by cases hx⟩
theorem ERow.keep (h : ERow N H v l) (hn : H.n ≤ H'.n) (hk : ∀ k, k < H.n → H'.get k = H.get k) : ERow N H' v l := by
  obtain ⟨L, h1, h2, h3⟩ := h
  exact ⟨L, h1, h2.keep hn (fun k _ _ h => hk k h), fun x hx => (h3 x hx).keep hn (fun k _ _ h => hk k h)⟩
theorem ERow.len (h : ERow N H v l) : lbuiltin Tryz.prog .len [27] [v] H' = some (.int .i64 l.length, H') := by
  obtain ⟨L, rfl, h2, _⟩ := h
  rw [List.length_map]
  exact RowN.len h2 Tryz.underlying27
theorem ERow.cell (h : ERow N H v l) : cellB v = true := by
  obtain ⟨L, _, h2, _⟩ := h
  exact h2.cell
theorem ERow.slice (h : ERow N H v l) : ∃ a n c, v = .slice a n c := by
  obtain ⟨L, _, h2, _⟩ := h
  rcases h2.2 with ⟨rfl, _⟩ | ⟨k, c, rest, rfl, _⟩
  · exact ⟨_, _, _, rfl⟩
  · exact ⟨_, _, _, rfl⟩
theorem ERow.weak {N' : Nat} (h : ERow N H v l) (hn : N' ≤ N) : ERow N' H v l := by
  obtain ⟨L, h1, h2, h3⟩ := h
  refine ⟨L, h1, ⟨h2.1, ?_⟩, h3⟩
  rcases h2.2 with h4 | ⟨k, c, rest, e, g1, g⟩
  · exact .inl h4
  · exact .inr ⟨k, c, rest, e, by omega, g⟩
theorem ERow.set {j : Nat} {b b2 : LB} (h : ERow N H v l) (hj : j < N) (hg : H.get j = some b) (hne : b.elem ≠ 78) : ERow N (H.set j b2) v l := by
  obtain ⟨L, h1, h2, h3⟩ := h
  have hx : ∀ k, k ≠ j → (H.set j b2).get k = H.get k := fun k hk => get_set_ne hk
  refine ⟨L, h1, h2.keep (Nat.le_refl _) (fun k hk _ _ => hx k (by omega)), fun x hxm => (h3 x hxm).keep (Nat.le_refl _) (fun k _ hno _ => hx k (fun e => ?_))⟩
  subst e
  obtain ⟨b', q1, q2⟩ := hown_at (h3 x hxm) hno
  rw [hg] at q1
  injection q1 with q1
  subst q1
  exact hne q2
theorem ERow.at (h : ERow N H v l) {i : Nat} (hi : i < l.length) : ∃ k o p, (∀ H' : LH, lixa Tryz.prog 27 v (.int .i64 i) H' = some (ptr k o, H')) ∧ k < H.n ∧ HOwn 0 H p l[i].hdrs ∧ ∀ H' : LH, H'.get k = H.get k →
    lld Tryz.prog 36 (ptr k o) H' = some (evv l[i] p) ∧ lld Tryz.prog 9 (ptr k (o + 8)) H' = some (str l[i].body) := by
  obtain ⟨L, rfl, h2, h3⟩ := h
  have hi' : i < L.length := by simpa using hi
  rcases h2.2 with ⟨rfl, h0⟩ | ⟨k, c, rest, rfl, g1, g2, g3, g4, g5⟩
  · omega
  · refine ⟨k, i * 9, L[i].2, fun H' => ?_, g2, ?_, fun H' e => ?_⟩
    · have q := eq_true (show (i : Int) < (L.length : Int) by omega)
      simp [q]
    · rw [List.getElem_map]
      exact h3 _ (List.getElem_mem hi')
    · rw [g3] at e
      have hat := ecells_at hi' rest
      have hle : i * 9 + 9 ≤ (ecells L ++ rest).length := by rw [List.length_append, ecells_len]; have := Nat.mul_le_mul_right 9 (show i + 1 ≤ L.length by omega); omega
      have hc8 : (ecells L ++ rest)[i * 9 + 8]? = some (str L[i].1.body) := by
        have := congrArg (fun z => z[8]?) hat
        simpa [List.getElem?_take, List.getElem?_drop] using this
      rw [List.getElem_map]
      constructor
      · rw [lld_ptr e, show aggB Tryz.prog 36 = some true by kernel_rfl, show sz Tryz.prog 36 = some 9 by kernel_rfl]
        rw [lldb_agg hle, hat]
      · rw [lld_ptr e, show aggB Tryz.prog 9 = some false by kernel_rfl, lldb_cell]
        exact hc8
theorem bs1e : lbuildSlice Tryz.prog 27 1 [(0, .agg ⟨evl e p⟩)] H = some (sl H.n 1 1, H.new ⟨evl e p, 36, true⟩) := by
  unfold lbuildSlice
  simp [Instr.fill, Value.cells, Array.range]
  rfl
theorem evl_cells (hp : cellB p = true) : (evl e p).all cellB = true := by simp [hp]
/-- an event more -/
theorem e_app (h : ERow N H v l) (hN : N ≤ H.n) (hl : l.length ≤ 100000) (hp : HOwn 0 H p e.hdrs) :
    ∃ v' H2, lapp Tryz.prog 27 v (some (1, evl e p)) (H.new ⟨evl e p, 36, true⟩) = some (v', H2) ∧ ERow N H2 v' (l ++ [e]) ∧ H.n < H2.n ∧ ∀ k, k < N → H2.get k = H.get k := by
  obtain ⟨L, rfl, h2, h3⟩ := h
  have hH : RowN N (H.new ⟨evl e p, 36, true⟩) 36 9 v L.length (ecells L) := h2.keep (Nat.le_succ _) (fun k _ _ hk => get_new_ne (by omega))
  obtain ⟨v', H2, ha, hr, hk, hf⟩ := RowN.app (P := Tryz.prog) (t := 27) (new := evl e p) (m := 1) hH Tryz.underlying27 (by kernel_rfl) (evl_cells hp.cell) (by simp) (by unfold maxElems; simp at hl; omega) (by rw [n_new]; omega) (.inl (Nat.le_refl 1))
  have hkp : ∀ {q : Value} {hs : List Tg.Hd.Hdr}, HOwn 0 H q hs → HOwn 0 H2 q hs := fun {q hs} hq => hq.keep (by have := hk.le; rw [n_new] at this; omega) (fun k _ hno hkn => by
    obtain ⟨b, g1, g2⟩ := hown_at hq hno
    rw [hk.get k (by rw [n_new]; omega) (RowN.off_of_elem h2 g1 (by rw [g2]; decide)), get_new_ne (by omega)])
  refine ⟨v', H2, ha, ⟨L ++ [(e, p)], by simp, ?_, fun x hx => ?_⟩, by have := hk.le; rw [n_new] at this; omega, fun k hkn => ?_⟩
  · have e1 : ecells (L ++ [(e, p)]) = ecells L ++ evl e p := by rw [ecells_app]; rfl
    rw [List.length_append, e1]; exact hr
  · rcases List.mem_append.mp hx with hx | hx
    · exact hkp (h3 x hx)
    · simp only [List.mem_cons, List.not_mem_nil, or_false] at hx
      subst hx
      exact hkp hp
  · rw [hk.get k (by rw [n_new]; omega) (h2.off_lt hkn), get_new_ne (by omega)]
theorem evs_nil : Tg.Sc.evs [] = ([], none) := by unfold Tg.Sc.evs; rfl
theorem evs_none {a : List UInt8} {b : List (List UInt8)} (h : Tg.Sc.nextP a b = none) : Tg.Sc.evs (a :: b) = ([], some (a :: b)) := by unfold Tg.Sc.evs; rw [h]
theorem evs_some {a : List UInt8} {b : List (List UInt8)} {e : Tg.Sc.Ev} {n : Nat} (h : Tg.Sc.nextP a b = some (e, n)) : Tg.Sc.evs (a :: b) = (e :: (Tg.Sc.evs (b.drop n)).1, (Tg.Sc.evs (b.drop n)).2) := by
  conv => lhs; unfold Tg.Sc.evs
  rw [h]
/-- what a reading hands back -/
def OutR (H : LH) (x : Tg.Sc.Setup × List Tg.Sc.Ev × Int × Int) (r : Value × LH) : Prop :=
  ∃ p, r.1 = .tuple #[suv x.1, p, .int .i64 x.2.2.1, .int .i64 x.2.2.2] ∧ H.le r.2 ∧ ERow H.n r.2 p x.2.1
theorem OutR.trunc {x : Tg.Sc.Setup × List Tg.Sc.Ev × Int × Int} {u : Value} {H' : LH} (h : OutR H x (u, H')) : ∃ H2, Lg.trunc H (u, H') = (u, H2) ∧ OutR H x (u, H2) := by
  rcases trunc_or u H H' with e2 | ⟨e2, hf, _⟩
  · exact ⟨H', e2, h⟩
  · refine ⟨H, e2, ?_⟩
    obtain ⟨p, h1, h2, L, h3, h4, h5⟩ := h
    refine ⟨p, h1, le_refl, ?_⟩
    rcases h4.2 with ⟨rfl, h6⟩ | ⟨k, c, rest, rfl, _⟩
    · have : L = [] := List.eq_nil_of_length_eq_zero h6
      subst this
      rw [← h3]; exact ERow.nil
    · simp only at h1
      rw [h1] at hf
      simp [flatB, flat1B, atomB] at hf
theorem cut_count (s : List UInt8) : (Tg.Sc.cutAt 10 s).length ≤ s.length + 1 := by
  obtain ⟨e1, e2, e3, e4⟩ := Tg.Sc.cut_rows 10 s
  omega
theorem read_ex (hs : s.length ≤ 70000) (hm : MaxL H) (ht : Tab H) (h10 : Tab10 H) : ∃ u, LC Tryz.prog EJ 10 [str s] H = some u ∧ OutR H (Tg.Sc.readP s) u := by
  have key : ∃ u, LC Tryz.prog EJ 10 [str s] H = some (Lg.trunc H u) ∧ OutR H (Tg.Sc.readP s) u := by
    refine LC_runs (P := Tryz.prog) (E := EJ) (f := 10) rfl Tryz.func10 rfl (Nat.le_of_ble_eq_true rfl) (by decide) (by kernel_rfl) ?_
    obtain ⟨H1, hH1⟩ : ∃ H1, H1 = H.new ⟨setc false 0 0 0 0, 26, true⟩ := ⟨_, rfl⟩
    have n1 : H1.n = H.n + 1 := by rw [hH1]; rfl
    have b1 : Bs H H1 := by rw [hH1]; exact ⟨rfl, rfl⟩
    have le1 : H.le H1 := by rw [hH1]; exact le_refl.new
    have g1 : H1.get H.n = some ⟨setc false 0 0 0 0, 26, true⟩ := by rw [hH1]; exact get_new
    have hsp := split_c (H := H1) 10 (s := s) (by omega) (hm.bs b1)
    have hcc := cut_count s
    have hcl := Tg.Sc.cut_len 10 s
    have hcn := Tg.Sc.cut_ne 10 s
    have hst : Tg.Sc.readP s = Tg.Sc.readL (Tg.Sc.cutAt 10 s) := by
      unfold Tg.Sc.readP
      rw [if_neg (by omega)]
    rw [hst]
    clear hst
    generalize Tg.Sc.cutAt 10 s = al at *
    obtain ⟨H2, hH2⟩ : ∃ H2, H2 = H1.new ⟨al.map str, 9, true⟩ := ⟨_, rfl⟩
    have n2 : H2.n = H.n + 1 + 1 := by rw [hH2, n_new, n1]
    have g2 : H2.get H.n = some ⟨setc false 0 0 0 0, 26, true⟩ := by rw [hH2, get_new_ne (by omega)]; exact g1
    have le2 : H.le H2 := by rw [hH2]; exact le1.new
    have b2 : Bs H H2 := by rw [hH2]; exact b1
    rw [← hH2, n1] at hsp
    have hrow : TRow H2 (sl (H.n + 1) al.length al.length) al := by
      rw [hH2, ← n1]; exact TRow.new (Nat.le_refl _)
    have hpos : 0 < al.length := List.length_pos_iff.mpr hcn
    obtain ⟨kl, ol, l1, _, l3⟩ := hrow.at (i := al.length - 1) (by omega)
    have l4 := l3 H2 rfl
    have hlast : al[al.length - 1]'(by omega) = al.getLast?.getD [] := by
      rw [List.getLast?_eq_getElem?, List.getElem?_eq_getElem (by omega)]; rfl
    rw [hlast] at l4
    have hwl : IntKind.i64.wrap ((al.length : Int) - 1) = ((al.length - 1 : Nat) : Int) := by rw [wrapI (by omega) (by omega)]; omega
    obtain ⟨v1, hp1, hv1⟩ := hrow.part (a := none) (b := some (.int .i64 ((al.length - 1 : Nat) : Int))) (p := 0) (q := al.length - 1) rfl (by
      show (if (0 : Int) ≤ ((al.length - 1 : Nat) : Int) then some (((al.length - 1 : Nat) : Int)).toNat else none) = some (al.length - 1)
      rw [if_pos (by omega)]; congr 1) (by omega) (by omega)
    rw [List.drop_zero, ← List.dropLast_eq_take] at hv1
    have qbig := eq_false (show ¬ (4194304 : Int) < (s.length : Int) by omega)
    have hdn : al.dropLast.length = al.length - 1 := List.length_dropLast
    have hdm : ∀ x ∈ al.dropLast, x.length ≤ s.length := fun x hx => hcl x (List.dropLast_subset _ hx)
    unfold Tg.Sc.readL
    generalize hrest : al.getLast?.getD [] = rest at *
    generalize hdl : al.dropLast = dl at *
    have hvl := fun G : LH => hv1.len (H' := G)
    have fin : ∀ (G : LH) (x : Tg.Sc.Setup × List Tg.Sc.Ev × Int × Int) (b : LB), x.2.1 = [] → H.le G → OutR H x (.tuple #[suv x.1, .slice none 0 0, .int .i64 x.2.2.1, .int .i64 x.2.2.2], G.set H.n b) := fun G x b h1 h2 => ⟨_, rfl, (le_set_iff (Nat.le_refl _)).2 h2, by rw [h1]; exact ERow.nil⟩
    cases dl with
    | nil =>
      simp at hvl
      simp [qbig, ← hH1, hsp, l1, l4, hwl, hp1, hvl, g2]
      exact fin H2 (Tg.Sc.set0, [], 1, 2) _ rfl le2
    | cons s0 r =>
      simp only [List.length_cons] at hvl hdn
      have hs0 := hdm s0 (by simp)
      obtain ⟨k0, o0, m1, _, m3⟩ := hv1.at (i := 0) (by simp)
      have m4 := m3 H2 rfl
      simp only [List.getElem_cons_zero] at m4
      have m1 : ∀ G : LH, lixa Tryz.prog 40 v1 (.int .i64 0) G = some (ptr k0 o0, G) := m1
      have hse := settings_cl (H := H2) (s := s0) (by omega) (hm.bs b2) (h10.bs b2)
      have hsd : ∀ c, Tg.Sc.settings s0 = some c → c = Tg.Sc.setP s0 := fun c h => by
        unfold Tg.Sc.settings at h
        split at h
        · injection h with h; exact h.symm
        · cases h
      have qz := eq_false (show ¬ (r.length : Int) + 1 = 0 by omega)
      simp only
      generalize hc0 : Tg.Sc.setP s0 = c0 at *
      obtain ⟨H3, hH3⟩ : ∃ H3, H3 = H2.new ⟨setc c0.legacy c0.look c0.depth c0.table c0.valid, 26, true⟩ := ⟨_, rfl⟩
      have n3 : H3.n = H.n + 1 + 1 + 1 := by rw [hH3, n_new, n2]
      have le3 : H.le H3 := by rw [hH3]; exact le2.new
      have b3 : Bs H H3 := by rw [hH3]; exact b2
      have g3 : H3.get H.n = some ⟨setc false 0 0 0 0, 26, true⟩ := by rw [hH3, get_new_ne (by omega)]; exact g2
      have g3' : H3.get (H.n + 1 + 1) = some ⟨setc c0.legacy c0.look c0.depth c0.table c0.valid, 26, true⟩ := by rw [hH3, ← n2]; exact get_new
      cases hso : Tg.Sc.settings s0 with
      | none =>
        rw [hso] at hse
        simp only [Option.isSome_none] at hse
        simp only
        simp [qbig, ← hH1, hsp, l1, l4, hwl, hp1, hvl, m1, m4, hse, n2, ← hH3, g3, qz]
        exact fin H3 (Tg.Sc.set0, [], 1, 2) _ rfl le3
      | some c =>
        have hcc0 := hsd c hso
        rw [hso] at hse
        simp only [Option.isSome_some] at hse
        simp only
        rw [hcc0]
        clear hcc0 hsd hso
        simp [qbig, ← hH1, hsp, l1, l4, hwl, hp1, hvl, m1, m4, hse, n2, ← hH3, g3, qz]
        have hlr : (s0 :: r).length ≤ 70001 := by rw [List.length_cons]; omega
        refine loop_ind (fun (a : Nat) fr' H' => ∃ w acc, fr' 2 = ptr H.n 0 ∧ fr' 6 = v1 ∧ fr' 7 = str rest ∧ fr' 8 = ptr (H.n + 1 + 1) 0 ∧ fr' 10 = w ∧ fr' 11 = .int .i64 a ∧ 1 ≤ a ∧ a ≤ r.length + 1 ∧ ERow (H.n + 1 + 1 + 1) H' w acc ∧ Tg.Sc.evs r = (acc ++ (Tg.Sc.evs ((s0 :: r).drop a)).1, (Tg.Sc.evs ((s0 :: r).drop a)).2) ∧ acc.length ≤ a ∧ H.n + 1 + 1 + 1 ≤ H'.n ∧ (∀ k, k < H.n + 1 + 1 + 1 → H'.get k = H3.get k) ∧ Bs H H') (fun a => r.length + 1 - a) 1 ⟨.slice none 0 0, [], by simp, by simp, by simp, by simp, by simp, by simp, Nat.le_refl _, by omega, ERow.nil, by simp, by simp, by omega, fun k hk => rfl, b3⟩ ?_
        rintro a fr' H' ⟨w, acc, f2, f6, f7, f8, f10, f11, ha1, ha2, hrw, hev, hal, hn, hk, hb⟩ ih
        subst f10
        have hv' : TRow H' v1 (s0 :: r) := hv1.keep (by omega) (fun k hk2 => by rw [hk k (by omega), hH3, get_new_ne (by omega)])
        have gz : H'.get H.n = some ⟨setc false 0 0 0 0, 26, true⟩ := by rw [hk _ (by omega)]; exact g3
        have gc : H'.get (H.n + 1 + 1) = some ⟨setc c0.legacy c0.look c0.depth c0.table c0.valid, 26, true⟩ := by rw [hk _ (by omega)]; exact g3'
        have leH : H.le H' := ⟨by omega, fun k hk2 => by rw [hk k (by omega)]; exact le3.2 k hk2⟩
        by_cases hlt : a < r.length + 1
        · have q := eq_true (show (a : Int) < (r.length : Int) + 1 by omega)
          have qle := eq_true (show (a : Int) ≤ (r.length : Int) + 1 by omega)
          obtain ⟨v2, hp2, hv2⟩ := hv'.part (a := some (.int .i64 (a : Int))) (b := none) (p := a) (q := r.length + 1) (by
            show (if (0 : Int) ≤ (a : Int) then some (a : Int).toNat else none) = some a
            rw [if_pos (by omega)]; congr 1) rfl (by omega) (by simp)
          rw [List.take_of_length_le (by simp)] at hv2
          have hdr : (s0 :: r).drop a = (s0 :: r)[a]'(by simpa using hlt) :: (s0 :: r).drop (a + 1) := List.drop_eq_getElem_cons (by simpa using hlt)
          have hmem : ∀ x ∈ (s0 :: r).drop a, x.length ≤ 300000 := fun x hx => by
            have := hdm x (List.mem_of_mem_drop hx)
            omega
          have hrl : ((s0 :: r).drop (a + 1)).length ≤ 80000 := by rw [List.length_drop]; omega
          have hrl2 : ((s0 :: r).drop (a + 1)).length = r.length + 1 - (a + 1) := by rw [List.length_drop]; rfl
          have hdd : ∀ k, ((s0 :: r).drop (a + 1)).drop k = (s0 :: r).drop (a + (k + 1)) := fun k => by rw [List.drop_drop]; congr 1; omega
          rw [hdr] at hv2 hmem
          rw [hdr] at hev
          generalize (s0 :: r)[a]'(by simpa using hlt) = s1 at *
          generalize hr1 : (s0 :: r).drop (a + 1) = r1 at *
          obtain ⟨⟨u, H4⟩, e4, o4⟩ := next_ex hv2 hmem hrl (hm.bs hb) (ht.bs hb) (h10.bs hb)
          have hb4 : Bs H' H4 := ext_bs e4
          obtain ⟨e, p, n, ok, hu, hcp, hle4, hx⟩ := o4
          simp only at hu hle4 hx
          subst hu
          have hw1 : ∀ x : Nat, x ≤ 100000 → IntKind.i64.wrap ((a : Int) + ((x : Int) + 1)) = ((a + (x + 1) : Nat) : Int) := fun x hx => by rw [wrapI (by omega) (by omega)]; omega
          have hwa : IntKind.i64.wrap ((a : Int) + 1) = (a : Int) + 1 := wrapI (by omega) (by omega)
          obtain ⟨H5, hH5⟩ : ∃ H5, H5 = H4.new ⟨evl e p, 36, true⟩ := ⟨_, rfl⟩
          have n5 : H5.n = H4.n + 1 := by rw [hH5]; rfl
          have g5 : H5.get H4.n = some ⟨evl e p, 36, true⟩ := by rw [hH5]; exact get_new
          have k5 : ∀ k, k < H'.n → H5.get k = H'.get k := fun k hk2 => by rw [hH5, get_new_ne (by have := hle4.1; omega), hle4.2 k hk2]
          have z5 : H5.get H.n = some ⟨setc false 0 0 0 0, 26, true⟩ := by rw [k5 _ (by omega)]; exact gz
          have le5 : H.le H5 := ⟨by have := hle4.1; omega, fun k hk2 => by rw [k5 k (by omega)]; exact leH.2 k hk2⟩
          cases hnx : Tg.Sc.nextP s1 r1 with
          | none =>
            rw [hnx] at hx
            simp only at hx
            subst hx
            rw [evs_none hnx] at hev
            rw [hev]
            simp [f2, f6, f7, f8, f11, q, qle, hvl, hp2, e4, hcp, ← hH5, g5, z5, hwa]
            have e1 : ((r.length - (r1.length + 1) : Nat) : Int) + 2 = (a : Int) + 1 := by omega
            rw [e1]
            exact fin H5 (Tg.Sc.set0, [], (a : Int) + 1, 2) ⟨setc false 0 0 0 0, 26, true⟩ rfl le5
          | some y =>
            obtain ⟨e', k⟩ := y
            rw [hnx] at hx
            obtain ⟨rfl, rfl, rfl, hown⟩ := hx
            obtain ⟨hkl, hgd, hsh, _⟩ := Tg.Sc.next_some hnx
            rw [evs_some hnx, hdd] at hev
            have hown5 : HOwn 0 H5 p e.hdrs := (hown_weak hown (Nat.zero_le _)).keep (by omega) (fun j _ _ hj => by rw [hH5, get_new_ne (by omega)])
            have hrw5 : ERow (H.n + 1 + 1 + 1) H5 (fr' 10) acc := hrw.keep (by have := hle4.1; omega) k5
            obtain ⟨w2, H6, d1, d2, d3, d4⟩ := e_app hrw5 (by have := hle4.1; omega) (by omega) hown5
            have hb6 : Bs H H6 := (hb.trans hb4).trans ((Bs.trans (H1 := H5) (by rw [hH5]; exact ⟨rfl, rfl⟩) (Bs.trans (H1 := H5.new _) ⟨rfl, rfl⟩ (lapp_bs d1))))
            have hfin := fun fr2 (f2 : fr2 2 = ptr H.n 0) (f6 : fr2 6 = v1) (f7 : fr2 7 = str rest) (f8 : fr2 8 = ptr (H.n + 1 + 1) 0) (f10 : fr2 10 = w2) (f11 : fr2 11 = .int .i64 ((a + (k + 1) : Nat) : Int)) => ih (a + (k + 1)) fr2 H6 (by omega) ⟨w2, acc ++ [e], f2, f6, f7, f8, f10, f11, by omega, by omega, d2, by rw [hev]; simp, by rw [List.length_append]; simp; omega, by have := hle4.1; omega, fun j hj => by rw [d4 j hj, k5 j (by omega), hk j hj], hb6⟩
            have hwk := hw1 k (by omega)
            clear ih hrw hrw5 d2 hev
            simp [f2, f6, f7, f8, f11, q, qle, hvl, hp2, e4, hcp, ← hH5, g5, z5, hwa, bs1e, d1]
            refine hfin _ ?_ ?_ ?_ ?_ ?_ ?_
            all_goals simp [f2, f6, f7, f8, hwk]
        · have ha : a = r.length + 1 := by omega
          subst ha
          have q := eq_false (show ¬ (r.length : Int) + 1 < (r.length : Int) + 1 by omega)
          rw [List.drop_of_length_le (by simp), evs_nil, List.append_nil] at hev
          rw [hev]
          have hlen := fun G : LH => hrw.len (H' := G)
          by_cases hr0 : rest = []
          · have q0 := eq_true hr0
            by_cases hbig : 5000 < acc.length
            · have q1 := eq_true (show (5000 : Int) < (acc.length : Int) by omega)
              simp [f2, f6, f7, f8, f11, q, hvl, q0, q1, hlen, gz, hbig]
              exact fin H' (Tg.Sc.set0, [], 0, 6) ⟨setc false 0 0 0 0, 26, true⟩ rfl leH
            · have q1 := eq_false (show ¬ (5000 : Int) < (acc.length : Int) by omega)
              simp [f2, f6, f7, f8, f11, q, hvl, q0, q1, hlen, gz, gc, hbig]
              exact ⟨fr' 10, rfl, (le_set_iff (Nat.le_refl _)).2 leH, (hrw.set (by omega) gz (by decide)).weak (by omega)⟩
          · have q0 := eq_false hr0
            have hwa : IntKind.i64.wrap ((r.length : Int) + 1 + 1) = (r.length : Int) + 2 := by rw [wrapI (by omega) (by omega)]; omega
            simp [f2, f6, f7, f8, f11, q, hvl, q0, gz, hwa]
            exact fin H' (Tg.Sc.set0, [], (r.length : Int) + 2, 2) ⟨setc false 0 0 0 0, 26, true⟩ rfl leH
  obtain ⟨⟨u, H'⟩, e, ho⟩ := key
  obtain ⟨H2, e2, ho2⟩ := ho.trunc
  exact ⟨(u, H2), by rw [e, e2], ho2⟩
end
end Go.Proofs.YthgcgjpbhbikaaaGreatDoor.Sc
/-
  Layer 40 (script): the small living call; the reference's signs.
-/
set_option linter.unusedSimpArgs false
set_option linter.unusedVariables false
set_option maxRecDepth 100000
namespace Go.Proofs.YthgcgjpbhbikaaaGreatDoor.Sc
open Go.Lg Go.Tg
def livesT : List UInt8 := [115, 101, 116, 117, 112, 32, 111, 114, 98, 32, 49, 52, 52, 53, 32, 57, 32, 50, 32, 50, 10, 99, 104, 117, 110, 107, 32, 49, 32, 120, 92, 50, 48, 121, 10]
def livesE : Tg.Sc.Ev := ⟨3, 1, [], [], [], 0, 0, [], [120, 32, 121]⟩
def livesC : Tg.Sc.Setup := ⟨false, 1445, 9, 2, 2⟩
theorem lives_read : Tg.Sc.readP livesT = (livesC, [livesE], 0, 0) := by
  have h := Tg.Sc.read_print (c := livesC) (l := [livesE]) (by decide +kernel) (by decide +kernel) (by decide +kernel)
  have e : Tg.Sc.printT livesC [livesE] = livesT := by decide +kernel
  rw [e] at h
  exact h
section
variable {H H' : LH} {s : List UInt8} {v p : Value}
theorem lives_cl (hm : MaxL H) (ht : Tab H) (h10 : Tab10 H) : LC Tryz.prog EJ 14 [] H = some (.bool true, H) := by
  refine LC_pure rfl Tryz.func14 rfl (Nat.le_of_ble_eq_true rfl) (by decide) (by kernel_rfl) rfl ?_
  obtain ⟨⟨u, H1⟩, e1, p1, hu, hle, hr⟩ := read_ex (H := H) (s := livesT) (by decide) hm ht h10
  rw [lives_read] at hu hr
  simp only at hu hr hle
  subst hu
  obtain ⟨k, o, q, a1, a2, _, a4⟩ := hr.at (i := 0) (by decide)
  have a5 := (a4 (H1.new ⟨[.bool false, .int .i64 1445, .int .i64 9, .int .i64 2, .int .i64 2], 26, true⟩) (get_new_ne (by omega))).2
  have a1 : ∀ G : LH, lixa Tryz.prog 27 p1 (.int .i64 0) G = some (ptr k o, G) := a1
  have hl := fun G : LH => hr.len (H' := G)
  have e1 : LC Tryz.prog EJ 10 [str [115, 101, 116, 117, 112, 32, 111, 114, 98, 32, 49, 52, 52, 53, 32, 57, 32, 50, 32, 50, 10, 99, 104, 117, 110, 107, 32, 49, 32, 120, 92, 50, 48, 121, 10]] H = some (.tuple #[suv livesC, p1, .int .i64 0, .int .i64 0], H1) := e1
  have e5 : [livesE][0].body = [120, 32, 121] := rfl
  have hl : ∀ G : LH, lbuiltin Tryz.prog .len [27] [p1] G = some (.int .i64 1, G) := hl
  rw [e5] at a5
  simp [e1, livesC, hl, a1, a5]
  exact hle.new
/-- the reference's signs -/
def rsign (s : List UInt8) (b : UInt8) : List UInt8 := if s = [45] then Tg.Sc.mark b else Tg.Sc.sign b
theorem rsign_esc (s : List UInt8) : (if s.flatMap (rsign s) = [] then [45] else s.flatMap (rsign s)) = Tg.Sc.esc s := by
  unfold Tg.Sc.esc
  by_cases h0 : s = []
  · subst h0; rfl
  by_cases h1 : s = [45]
  · subst h1; rfl
  · have e : s.flatMap (rsign s) = s.flatMap Tg.Sc.sign := by
      congr 1; funext b; unfold rsign; rw [if_neg h1]
    rw [e, if_neg h0, if_neg h1, if_neg]
    intro h
    cases s with
    | nil => exact h0 rfl
    | cons x r =>
      rw [List.flatMap_cons] at h
      exact Tg.Sc.sign_ne x (List.append_eq_nil_iff.mp h).1
theorem hexl_part {n : Nat} (h : n < 16) {kd kd' : IntKind} : lpart Tryz.prog 9 (str [48, 49, 50, 51, 52, 53, 54, 55, 56, 57, 97, 98, 99, 100, 101, 102]) (some (.int kd (n : Int))) (some (.int kd' ((n : Int) + 1))) = some (str [Tg.Sc.hd16 n]) := by
  have : ∀ k : Fin 16, (([48, 49, 50, 51, 52, 53, 54, 55, 56, 57, 97, 98, 99, 100, 101, 102] : List UInt8).take (k.1 + 1)).drop k.1 = [Tg.Sc.hd16 k.1] := by decide
  have h2 := this ⟨n, h⟩
  have e : ((n : Int) + 1).toNat = n + 1 := by omega
  rw [lpart_str0 (u := none) (p := n) (q := n + 1) Tryz.underlying9 (by rw [lbd_int (by omega), Int.toNat_natCast]) (by rw [lbd_int (by omega), e]) ⟨by omega, by simp; omega⟩, h2]
theorem part_one {i : Nat} (h : i < s.length) {kd kd' : IntKind} : lpart Tryz.prog 9 (str s) (some (.int kd (i : Int))) (some (.int kd' ((i : Int) + 1))) = some (str [s[i]]) := by
  have e : ((i : Int) + 1).toNat = i + 1 := by omega
  rw [lpart_str0 (u := none) (p := i) (q := i + 1) Tryz.underlying9 (by rw [lbd_int (by omega), Int.toNat_natCast]) (by rw [lbd_int (by omega), e]) ⟨by omega, by omega⟩]
  rw [List.take_succ_eq_append_getElem h, List.drop_append_of_le_length (by rw [List.length_take]; omega), List.drop_of_length_le (by rw [List.length_take]; omega), List.nil_append]
theorem rescape_cl (hs : s.length ≤ 300000) : LC Tryz.prog EJ 17 [str s] H = some (str (Tg.Sc.esc s), H) := by
  refine LC_pure rfl Tryz.func17 rfl (Nat.le_of_ble_eq_true rfl) (by decide) (by kernel_rfl) rfl ?_
  rw [← rsign_esc]
  generalize hR : s.flatMap (rsign s) = R
  simp
  refine loop_ind (fun (i : Nat) fr' H' => ∃ l, fr' 0 = str s ∧ fr' 3 = str l ∧ fr' 4 = str [48, 49, 50, 51, 52, 53, 54, 55, 56, 57, 97, 98, 99, 100, 101, 102] ∧ fr' 5 = .int .i64 i ∧ i ≤ s.length ∧ l ++ (s.drop i).flatMap (rsign s) = R ∧ l.length ≤ 3 * i ∧ H' = H) (fun i => s.length - i) 0 ⟨[], by simp, by simp, by simp, by simp, Nat.zero_le _, by simpa using hR, by simp, rfl⟩ ?_
  rintro i fr' H' ⟨l, f0, f3, f4, f5, hi, hq, hl, rfl⟩ ih
  by_cases hlt : i < s.length
  · have q0 := eq_true (show (i : Int) < (s.length : Int) by omega)
    have hat : at_ s (i : Int) = s[i] := at_in hlt
    have hw1 : IntKind.i64.wrap ((i : Int) + 1) = ((i + 1 : Nat) : Int) := by rw [wrapI (by omega) (by omega)]; omega
    have hd : (s.drop i).flatMap (rsign s) = rsign s s[i] ++ (s.drop (i + 1)).flatMap (rsign s) := by
      rw [List.drop_eq_getElem_cons hlt, List.flatMap_cons]
    rw [hd] at hq
    have hp := part_one hlt (kd := .i64) (kd' := .i64)
    generalize hc : s[i] = c at *
    have hsl : (rsign s c).length ≤ 3 := by unfold rsign Tg.Sc.sign Tg.Sc.mark; split <;> (try split) <;> simp
    have hfin := fun fr2 (g0 : fr2 0 = str s) (g3 : fr2 3 = str (l ++ rsign s c)) (g4 : fr2 4 = str [48, 49, 50, 51, 52, 53, 54, 55, 56, 57, 97, 98, 99, 100, 101, 102]) (g5 : fr2 5 = .int .i64 ((i + 1 : Nat) : Int)) => ih (i + 1) fr2 H' (by omega) ⟨l ++ rsign s c, g0, g3, g4, g5, by omega, by rw [List.append_assoc]; exact hq, by rw [List.length_append]; omega, rfl⟩
    clear ih hq
    obtain ⟨e1, e2, e3, e4⟩ := nib c
    have b1 : (c.toNat : Int).tdiv 16 = ((c.toNat / 16 : Nat) : Int) := by rw [Int.tdiv_eq_ediv_of_nonneg (by omega)]; omega
    have b2 : (c.toNat : Int).tmod 16 = ((c.toNat % 16 : Nat) : Int) := by rw [Int.tmod_eq_emod_of_nonneg (by omega)]; omega
    have hx1 := hexl_part (n := c.toNat / 16) (by omega) (kd := .u8) (kd' := .u8)
    have hx2 := hexl_part (n := c.toNat % 16) (by omega) (kd := .u8) (kd' := .u8)
    have w8 : ∀ n : Nat, n ≤ 16 → IntKind.u8.wrap (n : Int) = (n : Int) := fun n h => by rw [wrap8]; omega
    have w9 : ∀ n : Nat, n < 16 → IntKind.u8.wrap ((n : Int) + 1) = ((n + 1 : Nat) : Int) := fun n h => by rw [wrap8]; omega
    have e5 : c.toNat / 16 < 16 := by omega
    have e6 : c.toNat % 16 < 16 := by omega
    have c1 : ∀ t, lbin Tryz.prog .add t (str l) (str [92]) = some (str (l ++ [92])) := fun t => lbin_cat (by simp; omega)
    have c2 : ∀ t x, lbin Tryz.prog .add t (str (l ++ [92])) (str [x]) = some (str (l ++ [92, x])) := fun t x => by rw [lbin_cat (by simp; omega)]; simp
    have c3 : ∀ t x y, lbin Tryz.prog .add t (str (l ++ [92, x])) (str [y]) = some (str (l ++ [92, x, y])) := fun t x y => by rw [lbin_cat (by simp; omega)]; simp
    have c4 : ∀ t, lbin Tryz.prog .add t (str l) (str [c]) = some (str (l ++ [c])) := fun t => lbin_cat (by simp; omega)
    have hmk : Tg.Sc.mark c = [92, Tg.Sc.hd16 (c.toNat / 16), Tg.Sc.hd16 (c.toNat % 16)] := rfl
    by_cases hodd : Tg.Sc.odd c = true ∨ s = [45]
    · have hr : rsign s c = Tg.Sc.mark c := by
        unfold rsign Tg.Sc.sign
        rcases hodd with h | h
        · rw [if_pos h]; simp
        · rw [if_pos h]
      rw [hr, hmk] at hfin
      generalize c.toNat / 16 = n1 at *
      generalize c.toNat % 16 = n2 at *
      have r1 := eq_true (show (n1 : Int) < 16 by omega)
      have r2 := eq_true (show (n2 : Int) < 16 by omega)
      unfold Tg.Sc.odd at hodd
      by_cases o1 : (c.toNat : Int) < 33
      · simp [f0, f3, f4, f5, q0, hat, hc, o1, b1, b2, w8 _ (Nat.le_of_lt e5), w8 _ (Nat.le_of_lt e6), w9 _ e5, w9 _ e6, hx1, hx2, r1, r2, c1, c2, c3]
        refine hfin _ ?_ ?_ ?_ ?_
        all_goals simp [f0, f3, f4, hw1]
      · have o1 := eq_false o1
        by_cases o2 : (126 : Int) < c.toNat
        · simp [f0, f3, f4, f5, q0, hat, hc, o1, o2, b1, b2, w8 _ (Nat.le_of_lt e5), w8 _ (Nat.le_of_lt e6), w9 _ e5, w9 _ e6, hx1, hx2, r1, r2, c1, c2, c3]
          refine hfin _ ?_ ?_ ?_ ?_
          all_goals simp [f0, f3, f4, hw1]
        · have o2 := eq_false o2
          by_cases o3 : (c.toNat : Int) = 92
          · have o3 := eq_true o3
            simp [f0, f3, f4, f5, q0, hat, hc, o1, o2, o3, b1, b2, w8 _ (Nat.le_of_lt e5), w8 _ (Nat.le_of_lt e6), w9 _ e5, w9 _ e6, hx1, hx2, r1, r2, c1, c2, c3]
            refine hfin _ ?_ ?_ ?_ ?_
            all_goals simp [f0, f3, f4, hw1]
          · have o3 := eq_false o3
            have o4 : (s = [45]) = True := by
              simp only [o1, o2, o3, decide_false, Bool.false_or, Bool.false_eq_true, false_or] at hodd
              exact eq_true hodd
            simp [f0, f3, f4, f5, q0, hat, hc, o1, o2, o3, o4, b1, b2, w8 _ (Nat.le_of_lt e5), w8 _ (Nat.le_of_lt e6), w9 _ e5, w9 _ e6, hx1, hx2, r1, r2, c1, c2, c3]
            refine hfin _ ?_ ?_ ?_ ?_
            all_goals simp [f0, f3, f4, hw1]
    · have h1 : ¬ Tg.Sc.odd c = true := fun h => hodd (.inl h)
      have h2 : ¬ s = [45] := fun h => hodd (.inr h)
      have hr : rsign s c = [c] := by unfold rsign Tg.Sc.sign; rw [if_neg h2, if_neg h1]
      rw [hr] at hfin
      unfold Tg.Sc.odd at h1
      simp only [Bool.not_eq_true, Bool.or_eq_false_iff, decide_eq_false_iff_not] at h1
      obtain ⟨⟨o1, o2⟩, o3⟩ := h1
      have o1 := eq_false o1
      have o2 := eq_false o2
      have o3 := eq_false o3
      have o4 := eq_false h2
      have hi1 := eq_true (show (i : Int) + 1 ≤ (s.length : Int) by omega)
      simp [f0, f3, f4, f5, q0, hat, hc, o1, o2, o3, o4, hw1, hp, c4]
      refine hfin _ ?_ ?_ ?_ ?_
      all_goals simp [f0, f3, f4, hw1]
  · have q0 := eq_false (show ¬ (i : Int) < (s.length : Int) by omega)
    rw [List.drop_of_length_le (by omega), List.flatMap_nil, List.append_nil] at hq
    subst hq
    by_cases hn : l = []
    · simp [f0, f3, f5, q0, hn]
    · simp [f0, f3, f5, q0, hn]
end
end Go.Proofs.YthgcgjpbhbikaaaGreatDoor.Sc
/-
  Layer 40 (script): short texts joined.
-/
set_option linter.unusedSimpArgs false
set_option linter.unusedVariables false
set_option maxRecDepth 100000
namespace Go.Proofs.YthgcgjpbhbikaaaGreatDoor.Sc
open Go.Lg Go.Tg
theorem cc {a b : List UInt8} (h : a.length + b.length ≤ 90000000) (t : TypeId) : lbin Tryz.prog .add t (str a) (str b) = some (str (a ++ b)) := lbin_cat (by omega)
end Go.Proofs.YthgcgjpbhbikaaaGreatDoor.Sc
/-
  Layer 40 (script): the text of a setup and events, by the code.
-/
set_option linter.unusedSimpArgs false
set_option linter.unusedVariables false
set_option maxRecDepth 100000
namespace Go.Proofs.YthgcgjpbhbikaaaGreatDoor.Sc
open Go.Lg Go.Tg
section
variable {H H' : LH} {s : List UInt8} {v w p : Value} {xs : List (List UInt8)} {c : Tg.Sc.Setup} {l pre rest : List Tg.Sc.Ev} {e : Tg.Sc.Ev} {N b : Nat}
theorem Bld.old {l : List UInt8} (h : Bld N H b l v) (hle : H.le H') : Bld N H' b l v :=
  ⟨by obtain ⟨p, hg, hp⟩ := h.get; exact ⟨p, by rw [hle.2 b h.lt]; exact hg, hp⟩, h.row.keep hle.1 (fun k _ _ hk => hle.2 k hk), h.full, h.off, Nat.lt_of_lt_of_le h.lt hle.1, Nat.le_trans h.N hle.1, h.nil⟩
theorem TRow.kp {l : List UInt8} {v' : Value} (h : TRow H w xs) (hb : Bld N H b l v) (hk : Kp b v H v' H') : TRow H' w xs := by
  rcases h with h | ⟨k, o, c, B, h1, h2, h3, h4, h5, h6⟩
  · exact .inl h
  · have hkb : k ≠ b := by
      rintro rfl
      obtain ⟨p, hg, _⟩ := hb.get
      rw [h2] at hg
      injection hg with hg
      rw [hg] at h6
      revert h6
      show ¬ (84 = 9)
      decide
    have hoff : offRow v k := RowN.off_of_elem hb.row h2 (by rw [h6]; decide)
    exact .inr ⟨k, o, c, B, h1, by rw [hk.keep k h3 hkb hoff]; exact h2, Nat.lt_of_lt_of_le h3 hk.n, h4, h5, h6⟩
theorem wstr_kp {l s : List UInt8} (h : Bld N H b l v) (hN : N ≤ b) (hlen : l.length + s.length ≤ maxElems) :
    ∃ v' H', LC Tryz.prog EJ 52 [ptr b 0, str s] H = some (.tuple #[.int .i64 s.length, .nilIface], H') ∧ Bld N H' b (l ++ s) v' ∧ (∀ k, k < N → H'.get k = H.get k) ∧ Kp b v H v' H' := by
  obtain ⟨v', H', e, hb, hk⟩ := wstr_ex h hlen
  exact ⟨v', H', e, hb, fun k hk2 => hk.keep k (by have := h.lt; omega) (by omega) (h.off_lt hk2), hk⟩
theorem print_bad (hf : Tg.Sc.fineS c = false) (h10 : Tab10 H) : LC Tryz.prog EJ 30 [suv c, v] H = some (.tuple #[str [], .int .i64 0, .int .i64 2], H) := by
  refine LC_pure rfl Tryz.func30 rfl (Nat.le_of_ble_eq_true rfl) (by decide) (by kernel_rfl) rfl ?_
  obtain ⟨G, hG⟩ : ∃ G, G = H.new ⟨[.bool c.legacy, .int .i64 c.look, .int .i64 c.depth, .int .i64 c.table, .int .i64 c.valid], 26, true⟩ := ⟨_, rfl⟩
  have bG : Bs H G := by rw [hG]; exact ⟨rfl, rfl⟩
  have leG : H.le G := by rw [hG]; exact le_refl.new
  have gG : G.get H.n = some ⟨[.bool c.legacy, .int .i64 c.look, .int .i64 c.depth, .int .i64 c.table, .int .i64 c.valid], 26, true⟩ := by rw [hG]; exact get_new
  have hs := setup_cl (H := G) (c := c) (h10.bs bG)
  rw [hf] at hs
  simp only [Bool.false_eq_true, if_false] at hs
  simp [← hG, gG, hs]
  exact leG
theorem print_many (hf : Tg.Sc.fineS c = true) (hr : ERow N H v l) (hl : 5000 < l.length) (h10 : Tab10 H) : LC Tryz.prog EJ 30 [suv c, v] H = some (.tuple #[str [], .int .i64 0, .int .i64 6], H) := by
  refine LC_pure rfl Tryz.func30 rfl (Nat.le_of_ble_eq_true rfl) (by decide) (by kernel_rfl) rfl ?_
  obtain ⟨pa, pn, pc, rfl⟩ := hr.slice
  obtain ⟨G, hG⟩ : ∃ G, G = H.new ⟨[.bool c.legacy, .int .i64 c.look, .int .i64 c.depth, .int .i64 c.table, .int .i64 c.valid], 26, true⟩ := ⟨_, rfl⟩
  have bG : Bs H G := by rw [hG]; exact ⟨rfl, rfl⟩
  have leG : H.le G := by rw [hG]; exact le_refl.new
  have gG : G.get H.n = some ⟨[.bool c.legacy, .int .i64 c.look, .int .i64 c.depth, .int .i64 c.table, .int .i64 c.valid], 26, true⟩ := by rw [hG]; exact get_new
  have hs := setup_cl (H := G) (c := c) (h10.bs bG)
  rw [hf] at hs
  simp only [if_true] at hs
  have hne : (Tg.Sc.setupT c = []) = False := eq_false (fun e => by have := congrArg List.length e; unfold Tg.Sc.setupT Tg.Sc.wl Tg.Sc.kwSetup at this; simp at this)
  generalize Tg.Sc.setupT c = st at *
  have q := eq_true (show (5000 : Int) < (l.length : Int) by omega)
  have hlen := fun G : LH => hr.len (H' := G)
  simp [← hG, gG, hs, hne, hlen, q]
  exact leG
theorem print_go {x : List UInt8} {y z : Int} (hf : Tg.Sc.fineS c = true) (hr : ERow N H v l) (hl : l.length ≤ 5000) (hp : pre ++ rest = l) (hg : ∀ e ∈ pre, Tg.Sc.good e = true) (hb : ∀ e r, rest = e :: r → Tg.Sc.good e = false) (hz : ∀ e ∈ l, EvZ e) (hlen : (Tg.Sc.printT c pre).length ≤ 900000) (ht : Tab H) (h10 : Tab10 H)
    (hx1 : rest = [] → x = Tg.Sc.printT c pre ∧ y = 0 ∧ z = 0) (hx2 : rest ≠ [] → x = [] ∧ y = (pre.length : Int) + 1 ∧ z = 2) : LC Tryz.prog EJ 30 [suv c, v] H = some (.tuple #[str x, .int .i64 y, .int .i64 z], H) := by
  obtain ⟨pa, pn, pc, rfl⟩ := hr.slice
  refine LC_pure rfl Tryz.func30 rfl (Nat.le_of_ble_eq_true rfl) (by decide) (by kernel_rfl) rfl ?_
  obtain ⟨G, hG⟩ : ∃ G, G = H.new ⟨[.bool c.legacy, .int .i64 c.look, .int .i64 c.depth, .int .i64 c.table, .int .i64 c.valid], 26, true⟩ := ⟨_, rfl⟩
  have bG : Bs H G := by rw [hG]; exact ⟨rfl, rfl⟩
  have leG : H.le G := by rw [hG]; exact le_refl.new
  have nG : G.n = H.n + 1 := by rw [hG]; rfl
  have gG : G.get H.n = some ⟨[.bool c.legacy, .int .i64 c.look, .int .i64 c.depth, .int .i64 c.table, .int .i64 c.valid], 26, true⟩ := by rw [hG]; exact get_new
  have hs := setup_cl (H := G) (c := c) (h10.bs bG)
  rw [hf] at hs
  simp only [if_true] at hs
  have hne : (Tg.Sc.setupT c = []) = False := eq_false (fun e => by have := congrArg List.length e; unfold Tg.Sc.setupT Tg.Sc.wl Tg.Sc.kwSetup at this; simp at this)
  obtain ⟨R, hR⟩ : ∃ R, R = Tg.Sc.printT c pre := ⟨_, rfl⟩
  rw [← hR] at hlen hx1
  have hR2 : (Tg.Sc.setupT c ++ [10]) ++ Tg.Sc.feeds ((pre.drop 0).flatMap Tg.Sc.shown) = R := by rw [hR]; unfold Tg.Sc.printT; simp
  generalize Tg.Sc.setupT c = st at *
  have hRl : st.length + 1 ≤ R.length := by rw [← hR2]; simp
  have c0 := cc (a := st) (b := [10]) (by simp; omega)
  have q := eq_false (show ¬ (5000 : Int) < (l.length : Int) by omega)
  have hln := fun G : LH => hr.len (H' := G)
  obtain ⟨b0, H2, w1, w2, w3, w4⟩ := wstr_kp (s := st ++ [10]) (Bld.first (H := G)) (Nat.le_refl _) (by unfold maxElems; simp; omega)
  rw [List.nil_append] at w2
  have bH2 : Bs H H2 := bG.trans (Bs.trans (H1 := G.new ⟨[.pointer none, .slice none 0 0], 84, true⟩) ⟨rfl, rfl⟩ (ext_bs w1))
  have hpl : pre.length + rest.length = l.length := by rw [← hp, List.length_append]
  clear hR
  simp [← hG, gG, hs, hne, hln, q, c0, w1]
  refine loop_ind (fun (i : Nat) fr' H' => ∃ acc bw, fr' 8 = ptr G.n 0 ∧ fr' 25 = .slice pa pn pc ∧ fr' 26 = .int .i64 l.length ∧ fr' 27 = .int .i64 i ∧ i ≤ pre.length ∧ Bld G.n H' G.n acc bw ∧ acc ++ Tg.Sc.feeds ((pre.drop i).flatMap Tg.Sc.shown) = R ∧ (∀ k, k < G.n → H'.get k = G.get k) ∧ Bs H H') (fun i => pre.length - i) 0 ⟨st ++ [10], b0, by simp, by simp, by simp, by simp, Nat.zero_le _, w2, hR2, fun k hk => by rw [w3 k hk, get_new_ne (by omega)], bH2⟩ ?_
  rintro i fr' H' ⟨acc, bw, f8, f25, f26, f27, hi, hbl, hq, hk, hbs⟩ ih
  have hnH : G.n ≤ H'.n := hbl.N
  have hr' : ERow N H' (.slice pa pn pc) l := hr.keep (by omega) (fun k hk2 => by rw [hk k (by omega), leG.2 k hk2])
  by_cases hlt : i < l.length
  · have q0 := eq_true (show (i : Int) < (l.length : Int) by omega)
    have hw1 : IntKind.i64.wrap ((i : Int) + 1) = ((i + 1 : Nat) : Int) := by rw [wrapI (by omega) (by omega)]; omega
    obtain ⟨k, o, qv, a1, a2, a3, a4⟩ := hr'.at hlt
    have a5 := (a4 H' rfl).1
    have hmem : l[i] ∈ l := List.getElem_mem hlt
    have hze := hz _ hmem
    obtain ⟨H3, hH3⟩ : ∃ H3, H3 = H'.new ⟨evl l[i] qv, 36, true⟩ := ⟨_, rfl⟩
    have g3 : H3.get H'.n = some ⟨evl l[i] qv, 36, true⟩ := by rw [hH3]; exact get_new
    have n3 : H3.n = H'.n + 1 := by rw [hH3]; rfl
    have le3 : H'.le H3 := by rw [hH3]; exact le_refl.new
    have b3 : Bs H H3 := by rw [hH3]; exact hbs
    have hr3 : HRow H3 qv l[i].hdrs := by rw [hH3]; exact (HOwn.row a3).new1
    have hgd := good_cl hr3 hze
    obtain ⟨qa, qn, qc, rfl⟩ := hr3.slice
    by_cases hpi : i < pre.length
    · have hei : l[i] = pre[i] := by simp only [← hp]; rw [List.getElem_append_left hpi]
      have hge : Tg.Sc.good l[i] = true := by rw [hei]; exact hg _ (List.getElem_mem hpi)
      rw [List.drop_eq_getElem_cons hpi, ← hei, List.flatMap_cons, Tg.Sc.feeds_app] at hq
      obtain ⟨w, H4, e4, ⟨o4, le4⟩⟩ := shown_ex hge hr3 hze (ht.bs b3) (h10.bs b3)
      have b4 : Bs H H4 := b3.trans (ext_bs e4)
      rw [hge] at hgd
      clear hze hmem hei hge
      generalize l[i] = e at *
      have hlen4 := fun K : LH => o4.len (H' := K)
      have hbl4 : Bld G.n H4 G.n acc bw := Bld.old hbl (le_trans le3 le4)
      have hkk : ∀ k, k < G.n → H4.get k = G.get k := fun k hk2 => by rw [le4.2 k (by omega), le3.2 k (by omega), hk k hk2]
      have hRacc : acc.length + (Tg.Sc.feeds (Tg.Sc.shown e)).length ≤ R.length := by rw [← hq]; simp
      have hxl := Tg.Sc.feeds_len (Tg.Sc.shown e)
      generalize Tg.Sc.shown e = ls at *
      simp [f8, f25, f26, f27, q0, a1, a5, ← hH3, g3, hgd, e4, hlen4]
      refine loop_ind (fun (j : Nat) fr2 H5 => ∃ acc2 bw2, fr2 8 = ptr G.n 0 ∧ fr2 25 = .slice pa pn pc ∧ fr2 26 = .int .i64 l.length ∧ fr2 27 = .int .i64 i ∧ fr2 38 = w ∧ fr2 39 = .int .i64 ls.length ∧ fr2 40 = .int .i64 j ∧ j ≤ ls.length ∧ Bld G.n H5 G.n acc2 bw2 ∧ acc2 ++ Tg.Sc.feeds (ls.drop j) = acc ++ Tg.Sc.feeds ls ∧ TRow H5 w ls ∧ (∀ k, k < G.n → H5.get k = G.get k) ∧ Bs H H5) (fun j => ls.length - j) 0 ⟨acc, bw, by simp [f8], by simp [f25], by simp [f26], by simp [f27], by simp, by simp, by simp, Nat.zero_le _, hbl4, by simp, o4, hkk, b4⟩ ?_
      rintro j fr2 H5 ⟨acc2, bw2, k8, k25, k26, k27, k38, k39, k40, hj, hb5, hq5, ht5, hk5, hbs5⟩ ih2
      by_cases hlt2 : j < ls.length
      · have p0 := eq_true (show (j : Int) < (ls.length : Int) by omega)
        have hw2 : IntKind.i64.wrap ((j : Int) + 1) = ((j + 1 : Nat) : Int) := by rw [wrapI (by omega) (by omega)]; omega
        obtain ⟨k1, o1, g1, _, g3'⟩ := ht5.at hlt2
        have g4 := g3' H5 rfl
        rw [List.drop_eq_getElem_cons hlt2, Tg.Sc.feeds_cons] at hq5
        generalize ls[j] = y at *
        have hly : acc2.length + (y.length + 1) ≤ R.length := by
          have := congrArg List.length hq5
          simp at this
          omega
        obtain ⟨b6, H6, v1, v2, v3, v4⟩ := wstr_kp (s := y ++ [10]) hb5 (Nat.le_refl _) (by unfold maxElems; simp; omega)
        have d1 := cc (a := y) (b := [10]) (by simp; omega)
        have hfin := fun fr3 (g8 : fr3 8 = ptr G.n 0) (g25 : fr3 25 = .slice pa pn pc) (g26 : fr3 26 = .int .i64 l.length) (g27 : fr3 27 = .int .i64 i) (g38 : fr3 38 = w) (g39 : fr3 39 = .int .i64 ls.length) (g40 : fr3 40 = .int .i64 ((j + 1 : Nat) : Int)) => ih2 (j + 1) fr3 H6 (by omega) ⟨acc2 ++ (y ++ [10]), b6, g8, g25, g26, g27, g38, g39, g40, by omega, v2, by rw [← hq5]; simp, ht5.kp hb5 v4, fun k hk2 => by rw [v3 k hk2, hk5 k hk2], hbs5.trans (ext_bs v1)⟩
        clear ih ih2 hq hq5
        simp [k8, k38, k39, k40, p0, g1, g4, d1, v1]
        refine hfin _ ?_ ?_ ?_ ?_ ?_ ?_ ?_
        all_goals simp [k8, k25, k26, k27, k38, k39, hw2]
      · have p0 := eq_false (show ¬ (j : Int) < (ls.length : Int) by omega)
        rw [List.drop_of_length_le (by omega)] at hq5
        have hq6 : acc2 = acc ++ Tg.Sc.feeds ls := by rw [← hq5]; simp [Tg.Sc.feeds]
        have hfin := fun fr3 (g8 : fr3 8 = ptr G.n 0) (g25 : fr3 25 = .slice pa pn pc) (g26 : fr3 26 = .int .i64 l.length) (g27 : fr3 27 = .int .i64 ((i + 1 : Nat) : Int)) => ih (i + 1) fr3 H5 (by omega) ⟨acc2, bw2, g8, g25, g26, g27, by omega, hb5, by rw [← hq, hq6]; simp, hk5, hbs5⟩
        clear ih ih2 hq hq5
        simp [k39, k40, p0, k27]
        refine hfin _ ?_ ?_ ?_ ?_
        all_goals simp [k8, k25, k26, hw1]
    · obtain rfl : i = pre.length := by omega
      cases rest with
      | nil => simp at hp; subst hp; exact absurd hlt hpi
      | cons e r =>
        have hei : l[pre.length] = e := by simp only [← hp]; rw [List.getElem_append_right (Nat.le_refl _)]; simp
        rw [hei] at a5 g3 hgd hH3
        rw [hb e r rfl] at hgd
        obtain ⟨rfl, rfl, rfl⟩ := hx2 (by simp)
        have hw3 : IntKind.i64.wrap ((pre.length : Int) + 1) = (pre.length : Int) + 1 := wrapI (by omega) (by omega)
        have hle : H.le H3 := ⟨by omega, fun k hk2 => by rw [le3.2 k (by omega), hk k (by omega), leG.2 k hk2]⟩
        clear ih hei hq
        simp [f8, f25, f26, f27, q0, a1, a5, ← hH3, g3, hgd, hw3]
        exact hle
  · have q0 := eq_false (show ¬ (i : Int) < (l.length : Int) by omega)
    have hr0 : rest = [] := List.eq_nil_of_length_eq_zero (by omega)
    obtain ⟨rfl, rfl, rfl⟩ := hx1 hr0
    rw [List.drop_of_length_le (by omega)] at hq
    have hq6 : acc = x := by rw [← hq]; simp [Tg.Sc.feeds]
    subst hq6
    obtain ⟨H5, s1, s2, s3⟩ := bstr_ex hbl (by unfold maxLen; omega)
    simp [f8, f26, f27, q0, s1]
    exact ⟨by omega, fun k hk2 => by rw [s3 k (by omega), hk k (by omega), leG.2 k hk2]⟩
end
end Go.Proofs.YthgcgjpbhbikaaaGreatDoor.Sc
/-
  Layer 40 (script): the law of too many events.
-/
set_option linter.unusedSimpArgs false
set_option linter.unusedVariables false
set_option maxRecDepth 100000
namespace Tg.Sc
def endE : Ev := ⟨4, 1, [], [], [], 0, 0, [], []⟩
def longC : Setup := ⟨false, 1445, 9, 2, 2⟩
def endT : List UInt8 := [101, 110, 100, 32, 49, 10]
def longL (i : Nat) : List Ev := List.replicate i endE
theorem end_feeds : feeds (shown endE) = endT := by decide +kernel
theorem longL_succ (i : Nat) : longL (i + 1) = longL i ++ [endE] := List.replicate_succ' ..
theorem longL_len (i : Nat) : (longL i).length = i := List.length_replicate
theorem long_succ (i : Nat) : printT longC (longL (i + 1)) = printT longC (longL i) ++ endT := by
  unfold printT
  rw [longL_succ, List.flatMap_append, feeds_app]
  simp only [List.flatMap_cons, List.flatMap_nil, List.append_nil, end_feeds]
  simp
theorem long_zero : printT longC (longL 0) = [115, 101, 116, 117, 112, 32, 111, 114, 98, 32, 49, 52, 52, 53, 32, 57, 32, 50, 32, 50, 10] := by decide +kernel
theorem long_len (i : Nat) : (printT longC (longL i)).length = 21 + 6 * i := by
  induction i with
  | zero => rw [long_zero]; rfl
  | succ i ih => rw [long_succ, List.length_append, ih, show endT.length = 6 from rfl]; omega
theorem long_good (i : Nat) : ∀ e ∈ longL i, good e = true := fun e he => by
  rw [(List.mem_replicate.mp he).2]; decide +kernel
theorem longC_fine : fineS longC = true := by decide +kernel
end Tg.Sc
namespace Go.Proofs.YthgcgjpbhbikaaaGreatDoor.Sc
open Go.Lg Go.Tg
section
variable {H H' : LH} {s : List UInt8} {v w p : Value} {l : List Tg.Sc.Ev} {e : Tg.Sc.Ev} {N : Nat}
theorem longZ (i : Nat) : ∀ e ∈ Tg.Sc.longL i, EvZ e := fun e he => by
  rw [(List.mem_replicate.mp he).2]
  exact ⟨by decide, by decide, by decide, by decide, by decide, (fun h hh => by cases hh), by decide, by decide, by decide, by decide, by decide, by decide⟩
theorem mk_ne : MK Tryz.prog 5 ≠ 5 := by
  show Tryz.prog.types.size ≠ _
  decide +kernel
theorem mk_ev : MK Tryz.prog 5 ≠ 36 := by
  show Tryz.prog.types.size ≠ _
  decide +kernel
theorem mk_hd : MK Tryz.prog 5 ≠ 78 := by
  show Tryz.prog.types.size ≠ _
  decide +kernel
/-- bytes behind a marked row -/
theorem mk_appn {k m : Nat} {l y : List UInt8} (hk : H.get k = some ⟨l.map bv, MK Tryz.prog 5, true⟩) (hl : l.length = m) (h0 : 0 < m) (hy : 0 < y.length) (hM : m + y.length ≤ 900000) :
    lapp Tryz.prog 59 (sl k m m) (some (y.length, y.map bv)) H = some (sl H.n (m + y.length) (m + y.length), (H.kill k).new ⟨(l ++ y).map bv, MK Tryz.prog 5, true⟩) := by
  rw [lapp_mk (e := 5) (m := y.length) Tryz.underlying59 (by kernel_rfl) (bv_cells y) hy h0 (by unfold maxElems; omega) hk rfl rfl mk_ne (by simp [hl])]
  simp [List.map_append, bv]
theorem ERow.but {j : Nat} {b : LB} (h : ERow N H v l) (hg : H.get j = some b) (hne1 : b.elem ≠ 36) (hne2 : b.elem ≠ 78) (hn : H.n ≤ H'.n) (hk : ∀ k, k ≠ j → k < H.n → H'.get k = H.get k) : ERow N H' v l := by
  obtain ⟨L, h1, h2, h3⟩ := h
  have ho : offRow v j := RowN.off_of_elem h2 hg hne1
  refine ⟨L, h1, h2.keep hn (fun k _ hno hkn => hk k (fun e => ?_) hkn), fun x hxm => (h3 x hxm).keep hn (fun k _ hno hkn => hk k (fun e => ?_) hkn)⟩
  · subst e; exact hno ho
  · subst e
    obtain ⟨b', q1, q2⟩ := hown_at (h3 x hxm) hno
    rw [hg] at q1
    injection q1 with q1
    subst q1
    exact hne2 q2
theorem e_app2 (h : ERow N H v l) (hN : N ≤ H.n) (hl : l.length ≤ 100000) (hp : HOwn 0 H p e.hdrs) :
    ∃ v' H2, lapp Tryz.prog 27 v (some (1, evl e p)) (H.new ⟨evl e p, 36, true⟩) = some (v', H2) ∧ ERow N H2 v' (l ++ [e]) ∧ H.n < H2.n ∧ (∀ k, k < N → H2.get k = H.get k) ∧ ∀ k b, k < H.n → H.get k = some b → b.elem ≠ 36 → H2.get k = some b := by
  obtain ⟨v', H2, a1, a2, a3, a4⟩ := e_app h hN hl hp
  refine ⟨v', H2, a1, a2, a3, a4, fun k b hk hg hne => ?_⟩
  obtain ⟨L, rfl, h2, h3⟩ := h
  have hH : RowN N (H.new ⟨evl e p, 36, true⟩) 36 9 v L.length (ecells L) := h2.keep (Nat.le_succ _) (fun k _ _ hk => get_new_ne (by omega))
  obtain ⟨v'', H2', ha, hr, hkk, hf⟩ := RowN.app (P := Tryz.prog) (t := 27) (new := evl e p) (m := 1) hH Tryz.underlying27 (by kernel_rfl) (evl_cells hp.cell) (by simp) (by unfold maxElems; simp at hl; omega) (by rw [n_new]; omega) (.inl (Nat.le_refl 1))
  rw [a1] at ha
  injection ha with ha
  injection ha with _ ha
  subst ha
  rw [hkk.get k (by rw [n_new]; omega) (RowN.off_of_elem h2 hg hne), get_new_ne (by omega)]
  exact hg
end
end Go.Proofs.YthgcgjpbhbikaaaGreatDoor.Sc
/-
  Layer 40 (script): the law of too many events.
-/
set_option linter.unusedSimpArgs false
set_option linter.unusedVariables false
set_option maxRecDepth 100000
namespace Go.Proofs.YthgcgjpbhbikaaaGreatDoor.Sc
open Go.Lg Go.Tg
section
variable {H H' : LH}
theorem set_fill3 {a b k d t n : Value} (ht : cellB t = true) (hn : cellB n = true) : lfill Tryz.prog 26 [.bool false, .int .i64 0, .int .i64 0, .int .i64 0, .int .i64 0] [(0, .agg ⟨[b, k, d]⟩), (1, t), (2, n)] = some [b, k, d, t, n] := by
  rw [lfill_agg (o := 0) (n := 3) (g := true) (by kernel_rfl) rfl (by decide)]
  rw [lfill_cell (o := 3) (n := 1) (g := false) (by kernel_rfl) rfl ht (by simp [splice])]
  rw [lfill_cell (o := 4) (n := 1) (g := false) (by kernel_rfl) rfl hn (by simp [splice])]
  exact lfill_nil (by kernel_rfl)
theorem bs0e : lbuildSlice Tryz.prog 27 0 [] H = some (sl H.n 0 0, H.new ⟨[], 36, true⟩) := by
  unfold lbuildSlice
  simp [Instr.fill, Value.cells]
  try rfl
theorem long_law (hm : MaxL H) (ht : Tab H) (h10 : Tab10 H) {n : Int} (h0 : 0 ≤ n) (h1 : n ≤ 255) : LC Tryz.prog EJ 7 [.int .u8 n] H = some (.bool true, H) := by
  refine LC_pure rfl Tryz.func7 rfl (Nat.le_of_ble_eq_true rfl) (by decide) (by kernel_rfl) rfl ?_
  have hmk : ∀ H : LH, lcvB Tryz.prog 59 59 (sl H.n 21 21) (H.new ⟨[.int .u8 115, .int .u8 101, .int .u8 116, .int .u8 117, .int .u8 112, .int .u8 32, .int .u8 111, .int .u8 114, .int .u8 98, .int .u8 32, .int .u8 49, .int .u8 52, .int .u8 52, .int .u8 53, .int .u8 32, .int .u8 57, .int .u8 32, .int .u8 50, .int .u8 32, .int .u8 50, .int .u8 10], 5, true⟩) = some (sl H.n 21 21, H.new ⟨[.int .u8 115, .int .u8 101, .int .u8 116, .int .u8 117, .int .u8 112, .int .u8 32, .int .u8 111, .int .u8 114, .int .u8 98, .int .u8 32, .int .u8 49, .int .u8 52, .int .u8 52, .int .u8 53, .int .u8 32, .int .u8 57, .int .u8 32, .int .u8 50, .int .u8 32, .int .u8 50, .int .u8 10], MK Tryz.prog 5, true⟩) := fun H => by
    rw [lcvB_mark (e := 5) Tryz.underlying59 Tryz.underlying5 (by kernel_rfl) get_new rfl rfl (by decide), new_set]
  obtain ⟨q, hq, hq40⟩ : ∃ q : Nat, (n.tmod 10 = (q : Int)) ∧ q < 10 := ⟨(n.tmod 10).toNat, by
    have := Int.tmod_nonneg 10 h0
    omega, by
    have := Int.tmod_nonneg 10 h0
    have := Int.tmod_lt_of_pos n (show (0 : Int) < 10 by decide)
    omega⟩
  have hqm : n % 10 = (q : Int) := by
    rw [← hq, Int.tmod_eq_emod_of_nonneg h0]
  have hw8 : IntKind.u8.wrap (q : Int) = (q : Int) := by rw [wrap8]; omega
  have hw64 : IntKind.i64.wrap (q : Int) = (q : Int) := wrapI (by omega) (by omega)
  have hwq : IntKind.i64.wrap (4995 + (q : Int)) = 4995 + (q : Int) := wrapI (by omega) (by omega)
  have hz : ([.int .u8 115, .int .u8 101, .int .u8 116, .int .u8 117, .int .u8 112, .int .u8 32, .int .u8 111, .int .u8 114, .int .u8 98, .int .u8 32, .int .u8 49, .int .u8 52, .int .u8 52, .int .u8 53, .int .u8 32, .int .u8 57, .int .u8 32, .int .u8 50, .int .u8 32, .int .u8 50, .int .u8 10] : List Value) = (Tg.Sc.printT Tg.Sc.longC (Tg.Sc.longL 0)).map bv := by rw [Tg.Sc.long_zero]; rfl
  replace hmk := hmk (H.new ⟨[], 36, true⟩)
  rw [n_new] at hmk
  simp [hmk, bs0e, hq, hqm, hw8, hw64, hwq]
  refine loop_ind (fun (i : Nat) fr' H' => ∃ k w, fr' 3 = .int .i64 (4995 + (q : Int)) ∧ fr' 4 = w ∧ fr' 5 = sl k (21 + 6 * i) (21 + 6 * i) ∧ fr' 6 = .int .i64 i ∧ i ≤ 4995 + q ∧ ERow H.n H' w (Tg.Sc.longL i) ∧ H'.get k = some ⟨(Tg.Sc.printT Tg.Sc.longC (Tg.Sc.longL i)).map bv, MK Tryz.prog 5, true⟩ ∧ H.n ≤ k ∧ k < H'.n ∧ (∀ j, j < H.n → H'.get j = H.get j) ∧ Bs H H') (fun i => 4995 + q - i) 0 ⟨H.n + 1, sl H.n 0 0, by simp, by simp, by simp, by simp, by omega, ?_, ?_, by omega, by simp, fun j hj => by rw [get_new_ne (by simp; omega), get_new_ne (by omega)], ⟨rfl, rfl⟩⟩ ?_
  · refine ⟨[], rfl, ?_, fun x hx => by cases hx⟩
    exact ⟨by simp [ecells], .inr ⟨H.n, 0, [], by simp, by omega, by simp; omega, by rw [get_new_ne (by simp), get_new]; simp [ecells], by simp, by simp [ecells]⟩⟩
  · rw [← hz, show H.n + 1 = (H.new ⟨[], 36, true⟩).n from rfl, get_new]
  rintro i fr' H' ⟨k, w, f3, f4, f5, f6, hi, hrow, hg, hk1, hk2, hle, hb⟩ ih
  subst f4
  by_cases hlt : i < 4995 + q
  · have q0 := eq_true (show (i : Int) < 4995 + (q : Int) by omega)
    have hw1 : IntKind.i64.wrap ((i : Int) + 1) = ((i + 1 : Nat) : Int) := by rw [wrapI (by omega) (by omega)]; omega
    obtain ⟨v', H2, a1, a2, a3, a4, a5⟩ := e_app2 (e := Tg.Sc.endE) (p := .slice none 0 0) hrow (by omega) (by rw [Tg.Sc.longL_len]; omega) HOwn.nil
    have hg2 := a5 k _ hk2 hg mk_ev
    have b2 : Bs H H2 := hb.trans (Bs.trans (H1 := H'.new ⟨evl Tg.Sc.endE (.slice none 0 0), 36, true⟩) ⟨rfl, rfl⟩ (lapp_bs a1))
    have hle2 : H'.n < H2.n := a3
    have happ := mk_appn (H := H2) (y := Tg.Sc.endT) hg2 (by rw [Tg.Sc.long_len]) (by omega) (by decide) (by have : Tg.Sc.endT.length = 6 := rfl; omega)
    rw [← Tg.Sc.long_succ] at happ
    rw [← Tg.Sc.longL_succ] at a2
    have hl6 : Tg.Sc.endT.length = 6 := rfl
    rw [hl6] at happ
    have hr3 : ERow H.n ((H2.kill k).new ⟨(Tg.Sc.printT Tg.Sc.longC (Tg.Sc.longL (i + 1))).map bv, MK Tryz.prog 5, true⟩) v' (Tg.Sc.longL (i + 1)) := a2.but hg2 mk_ev mk_hd (by simp) (fun j hj hjn => by rw [get_new_ne (by simp; omega), get_kill_ne hj])
    have hfin := fun fr2 (g3 : fr2 3 = .int .i64 (4995 + (q : Int))) (g4 : fr2 4 = v') (g5 : fr2 5 = sl H2.n (21 + 6 * (i + 1)) (21 + 6 * (i + 1))) (g6 : fr2 6 = .int .i64 ((i + 1 : Nat) : Int)) => ih (i + 1) fr2 ((H2.kill k).new ⟨(Tg.Sc.printT Tg.Sc.longC (Tg.Sc.longL (i + 1))).map bv, MK Tryz.prog 5, true⟩) (by omega) ⟨H2.n, v', g3, g4, g5, g6, by omega, hr3, by rw [show H2.n = (H2.kill k).n from rfl, get_new], by omega, by simp, fun j hj => by rw [get_new_ne (by simp; omega), get_kill_ne (by omega), a4 j hj]; exact hle j hj, ⟨b2.1, b2.2⟩⟩
    have happ : lbuiltin Tryz.prog .append [59, 9] [sl k (21 + 6 * i) (21 + 6 * i), str [101, 110, 100, 32, 49, 10]] H2 = _ := (lbuiltin_appends (e := 5) (by decide) Tryz.underlying59 Tryz.underlying9 (by kernel_rfl) (by kernel_rfl) (by kernel_rfl)).trans happ
    have a1 : lapp Tryz.prog 27 (fr' 4) (some (1, [.int .i64 4, .int .i64 1, str [], str [], str [], .int .i64 0, .int .i64 0, .slice none 0 0, str []])) (H'.new ⟨[.int .i64 4, .int .i64 1, str [], str [], str [], .int .i64 0, .int .i64 0, .slice none 0 0, str []], 36, true⟩) = some (v', H2) := a1
    have hbs := bs1e (H := H') (e := Tg.Sc.endE) (p := .slice none 0 0)
    unfold evl Tg.Sc.endE at hbs
    clear ih hrow hg hg2 a2 hr3 hz hmk
    generalize (Tg.Sc.printT Tg.Sc.longC (Tg.Sc.longL (i + 1))).map bv = cs at *
    simp [f3, f5, f6, q0, hbs, a1, happ]
    refine hfin _ ?_ ?_ ?_ ?_
    all_goals simp [f3, hw1, Nat.mul_add, Nat.add_assoc]
  · have hie : i = 4995 + q := by omega
    subst hie
    have q0 := eq_false (show ¬ ((4995 + q : Nat) : Int) < 4995 + (q : Int) by omega)
    clear ih hz hmk
    obtain ⟨T, hT⟩ : ∃ T, T = Tg.Sc.printT Tg.Sc.longC (Tg.Sc.longL (4995 + q)) := ⟨_, rfl⟩
    have hTl : T.length = 21 + 6 * (4995 + q) := by rw [hT, Tg.Sc.long_len]
    have hrp := Tg.Sc.read_print Tg.Sc.longC_fine (Tg.Sc.long_good (4995 + q)) (by rw [← hT]; omega)
    rw [← hT] at hg
    have hcvG : ∀ G : LH, G.get k = some ⟨T.map bv, MK Tryz.prog 5, true⟩ → lconv Tryz.prog 59 9 (sl k (21 + 6 * (4995 + q)) (21 + 6 * (4995 + q))) G = some (str T) := fun G hG =>
      lconv_bs (e := 5) Tryz.underlying59 Tryz.underlying9 Tryz.underlying5 hG (by simp [hTl]) (by
        show lbs (((T.map bv).drop 0).take _) = some T
        rw [List.drop_zero, List.take_of_length_le (by simp [hTl]), lbs_map])
    have hcv := hcvG H' hg
    have leH : H.le H' := ⟨by omega, hle⟩
    obtain ⟨⟨u, H5⟩, e5, p, hu, le5, hr5⟩ := read_ex (H := H') (s := T) (by omega) (hm.bs hb) (ht.bs hb) (h10.bs hb)
    have b5 : Bs H H5 := hb.trans (ext_bs e5)
    rw [← hT] at hrp
    rw [hrp, Tg.Sc.longL_len] at hu hr5
    simp only at hu le5
    subst hu
    have hgp := print_go (x := T) (y := 0) (z := 0) (pre := Tg.Sc.longL (4995 + q)) (rest := []) Tg.Sc.longC_fine hrow
    have hmp := print_many Tg.Sc.longC_fine hrow
    rw [Tg.Sc.longL_len] at hgp hmp
    have hgp := fun h => hgp h (List.append_nil _) (Tg.Sc.long_good _) (fun e r h => by cases h) (longZ _) (by rw [← hT]; omega) (ht.bs hb) (h10.bs hb) (fun _ => ⟨hT, rfl, rfl⟩) (fun h => absurd rfl h)
    have hmp := fun h => hmp h (h10.bs hb)
    have hfil := fun (t n : Int) => set_fill3 (a := .bool false) (b := .bool false) (k := .int .i64 1445) (d := .int .i64 9) (t := .int .i64 t) (n := .int .i64 n) rfl rfl
    clear hrow hrp hT
    by_cases hbig : 5000 < 4995 + q
    · have hmp := hmp hbig
      clear hgp
      rw [if_pos hbig] at e5 hr5
      unfold Tg.Sc.longC suv at hmp
      obtain ⟨H6, hH6⟩ : ∃ H6, H6 = H5.new ⟨[.bool false, .int .i64 0, .int .i64 0, .int .i64 0, .int .i64 0], 26, true⟩ := ⟨_, rfl⟩
      have b6 : Bs H H6 := by rw [hH6]; exact b5
      have lv := lives_cl (hm.bs b6) (ht.bs b6) (h10.bs b6)
      have le6 : H.le H6 := by rw [hH6]; exact (le_trans leH le5).new
      have q1 := eq_true (show (5000 : Int) < 4995 + (q : Int) by omega)
      have hlen := fun G : LH => hr5.len (H' := G)
      simp only [List.length_nil] at hlen
      unfold Tg.Sc.set0 at e5
      simp only [suv] at e5
      have hst : lst Tryz.prog 26 (ptr H5.n 0) (.agg #[.bool false, .int .i64 0, .int .i64 0, .int .i64 0, .int .i64 0]) H6 = some (undef, H6) := by rw [hH6]; simp
      clear hg hcvG
      simp [f3, f5, f6, q0, hfil, hmp, hcv, e5, ← hH6, hst, q1, hlen, lv]
      exact le6
    · have hgp := hgp (by omega)
      clear hmp
      rw [if_neg hbig] at e5 hr5
      unfold Tg.Sc.longC suv at hgp
      obtain ⟨H6, hH6⟩ : ∃ H6, H6 = H5.new ⟨[.bool false, .int .i64 1445, .int .i64 9, .int .i64 2, .int .i64 2], 26, true⟩ := ⟨_, rfl⟩
      have b6 : Bs H H6 := by rw [hH6]; exact b5
      have lv := lives_cl (hm.bs b6) (ht.bs b6) (h10.bs b6)
      have le6 : H.le H6 := by rw [hH6]; exact (le_trans leH le5).new
      have q1 := eq_false (show ¬ (5000 : Int) < 4995 + (q : Int) by omega)
      have hlen := fun G : LH => hr5.len (H' := G)
      simp only [Tg.Sc.longL_len] at hlen
      have hcv6 : lconv Tryz.prog 59 9 (sl k (21 + 6 * (4995 + q)) (21 + 6 * (4995 + q))) H6 = some (str T) := hcvG H6 (by rw [hH6, get_new_ne (by have := le5.1; omega), le5.2 k hk2]; exact hg)
      unfold Tg.Sc.longC at e5
      clear hg hcvG
      simp [f3, f5, f6, q0, hfil, hgp, hcv, hcv6, e5, ← hH6, q1, hlen, lv]
      exact le6
end
end Go.Proofs.YthgcgjpbhbikaaaGreatDoor.Sc
/-
  What the listed package variables, and the world's shape, give to the laws of layer 40: the table of powers of ten, the table of blanks, the machine's number that the search in strings reads.
-/
set_option linter.unusedSimpArgs false
set_option linter.unusedVariables false
set_option maxRecDepth 100000
namespace Go.Proofs.YthgcgjpbhbikaaaGreatDoor
open Go.ChangeShapes Go.WideShapes Go.ChangeAt Go.RowKit Go.Tg Go.Lg

noncomputable def laidC : List (String × DataW Unit) := [("math/bits.deBruijn32tab", Rows.laid_math_bits_deBruijn32tab), ("math/bits.deBruijn64tab", Rows.laid_math_bits_deBruijn64tab), ("internal/strconv.uint64pow10", Rows.laid_internal_strconv_uint64pow10), ("unicode/utf8.acceptRanges", Rows.laid_unicode_utf8_acceptRanges), ("unicode.White_Space", Rows.laid_unicode_White_Space), ("strings.asciiSpace", Rows.laid_strings_asciiSpace), ("unicode/utf8.first", Rows.laid_unicode_utf8_first)]
theorem gPowC : Tryz.prog.globalNamed "internal/strconv.uint64pow10" = some 5 := by kernel_rfl
theorem gTabC : Tryz.prog.globalNamed "strings.asciiSpace" = some 0 := by kernel_rfl
theorem laid_plainC {W : World} (h : laidMetH Tryz.prog laidC W) : laidMet Tryz.prog laidC W := by rwa [MakeChecks.laidMetH_plain _ _ _ (by kernel_rfl)] at h
theorem pow_of_laidC {W : World} (h : laidMetH Tryz.prog laidC W) : Lib.TabIs Tryz.prog W "internal/strconv.uint64pow10" .u64 Lib.pow10Tab := by
  have h2 := (laid_plainC h).filter (fun x => x.1 == "internal/strconv.uint64pow10")
  have e : laidC.filter (fun x => x.1 == "internal/strconv.uint64pow10") = [("internal/strconv.uint64pow10", Lib.tabData .u64 Lib.pow10Tab)] := by kernel_rfl
  rw [e] at h2
  exact Lib.tabIs_of_head (g := 5) (t := 166) (e := 108) (n := 20) gPowC (by kernel_rfl) (by kernel_rfl) (by kernel_rfl) (by kernel_rfl) (by kernel_rfl) h2
theorem tab_of_laidC {W : World} (h : laidMetH Tryz.prog laidC W) : Lib.TabIs Tryz.prog W "strings.asciiSpace" .u8 Lib.asciiSpaceTab := by
  have h2 := (laid_plainC h).filter (fun x => x.1 == "strings.asciiSpace")
  have e : laidC.filter (fun x => x.1 == "strings.asciiSpace") = [("strings.asciiSpace", Lib.tabData .u8 Lib.asciiSpaceTab)] := by kernel_rfl
  rw [e] at h2
  exact Lib.tabIs_of_head (g := 0) (t := 118) (e := 5) (n := 256) gTabC (by kernel_rfl) (by kernel_rfl) (by kernel_rfl) (by kernel_rfl) (by kernel_rfl) h2
theorem sizeC {W : World} (h : laidMetH Tryz.prog laidC W) : 5 + 1 ≤ W.heap.size := by
  have h1 := pow_of_laidC h
  have := h1.cell gPowC 0 (by decide)
  rcases Nat.lt_or_ge 5 W.heap.size with h2 | h2
  · exact h2
  · simp [World.cell?, Array.getElem?_eq_none h2] at this
theorem tab10C {W : World} (h : laidMetH Tryz.prog laidC W) : Tab10 (LH.empty W (5 + 1)) := ⟨by show 5 < 5 + 1; decide, pow_of_laidC h⟩
theorem tabC {W : World} (h : laidMetH Tryz.prog laidC W) : Tab (LH.empty W (5 + 1)) := ⟨by show 0 < 5 + 1; decide, tab_of_laidC h⟩
theorem maxC {W : World} (h : W.ShapedOpen Tryz.prog) : MaxL (LH.empty W (5 + 1)) := by
  refine ⟨by show 2 < 5 + 1; decide, ?_⟩
  exact Go.Proofs.cell_of_shapedOpen_int (P := Tryz.prog) (w := W) (zero := #[.int .i64 0]) (t := 3) (g := 2) h (of_decide_eq_true (by kernel_rfl)) (by kernel_rfl) rfl (by kernel_rfl) (by kernel_rfl) Tryz.underlying3
theorem tab10CL {W : World} (h : laidMetH Tryz.prog laidC W) : Tab10 (LH.lift W (5 + 1)) := ⟨by show 5 < 5 + 1; decide, pow_of_laidC h⟩
theorem tabCL {W : World} (h : laidMetH Tryz.prog laidC W) : Tab (LH.lift W (5 + 1)) := ⟨by show 0 < 5 + 1; decide, tab_of_laidC h⟩
theorem maxCL {W : World} (h : W.ShapedOpen Tryz.prog) : MaxL (LH.lift W (5 + 1)) := by
  refine ⟨by show 2 < 5 + 1; decide, ?_⟩
  exact Go.Proofs.cell_of_shapedOpen_int (P := Tryz.prog) (w := W) (zero := #[.int .i64 0]) (t := 3) (g := 2) h (of_decide_eq_true (by kernel_rfl)) (by kernel_rfl) rfl (by kernel_rfl) (by kernel_rfl) Tryz.underlying3
theorem returns_and_shaped {H : Type} {enc : TypeId × Value → H} {a : Assume} {C : Checked} {os : Os} {f : FuncId} {fn : Func} {s : ChangeSpec} {conds : List PathCond} {apart fresh handsOn again : Bool} {X : World → Array Value → Prop}
    (hX : ∀ (w w' : World) (args : Array Value), w.heap = w'.heap → X w args → X w' args)
    (own : Go.ownKnob C.prog.godebug = none) (started : os.Started) (noInit : C.prog.inits.idxOf? f = none) (hfn : C.prog.funcs[f]? = some fn)
    (witness : ∃ (w : World) (tape : Tape) (i : Input), w.os = os ∧ (w.forCall tape i).Shaped C.prog ∧ i.vars = [] ∧ Input.okWide C.prog (w.forCall tape i) .any w.heap.size f i ∧
      ((s.pre enc C.prog fn conds apart (w.forCall tape i).memory i.args ∧ X (w.forCall tape i).memory i.args) ∧ sizedMet enc C.prog fn (OpenSpec.ofChange s) apart (w.forCall tape i).memory i.args) ∧ a.holds C.prog (lone (Frame.enter C.prog f i.args .normal) [] (w.forCall tape i)))
    (contract : ∀ (W : World) (base : Nat) (args : Array Value) (ds gs : List (DataW H)) (before : List MemPlace),
      (∀ (j : Nat) t v, fn.params[j]? = some t → args[j]? = some v → Value.okWide C.prog W .any base t v) →
      DataW.Whole enc C.prog fn.params.toList s.vars apart W args.toList ds gs before →
      X W args → W.ShapedOpen C.prog →
      Calls C.prog f args W fun e W' => ∃ v, e = .returned v ∧ s.post enc C.prog fn apart fresh handsOn again W args v W') :
    ReturnsInHanded a C os f .any (fun w args => (s.pre enc C.prog fn conds apart w args ∧ X w args) ∧ sizedMet enc C.prog fn (OpenSpec.ofChange s) apart w args) (s.post enc C.prog fn apart fresh handsOn again) := by
  refine returnsInHanded_of_calls own started noInit witness ?_
  intro w tape i _ hsh _ hok hpre hholds
  obtain ⟨_, _, _, fn', hfn', _, _, _, _, hval⟩ := hok
  have e : fn' = fn := Option.some.inj (hfn'.symm.trans hfn)
  subst e
  obtain ⟨⟨⟨ds, gs, before, hw, hc⟩, hx⟩, hz⟩ := hpre
  have hw' := DataW.Whole.of_heap (w' := w.forCall tape i) (by rfl) hw
  refine (contract (w.forCall tape i) w.heap.size i.args ds gs before hval hw' (hX _ _ _ (by rfl) hx) hsh).mono fun e W' ⟨v, he, hp⟩ => ?_
  subst he
  exact ChangeSpec.post_blind hp
end Go.Proofs.YthgcgjpbhbikaaaGreatDoor
