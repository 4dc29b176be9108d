/-
  Texts joined, part 7: ScEvent, ScNext, ScSettings, ScReadC, ScLives, UrRefA, UrRefB, UrRefQ, UrRefN, UrRefD, UrRefG, UrRefT, ScRef, ScRefB, ScRefC, ScLaw2, DoorC.
-/
import Derived.Test.YthgcgjpbhbikaaaGreatDoorM6
import Derived.Test.YthgcgjpbhbikaaaGreatDoorRows
import Derived.Test.YthgcgjpbhbikaaaGreatDoorM1
import Derived.ProofKit
import Derived.WideShapes
import Derived.RowKit
import Derived.ChangeArms
import Derived.LaidMore
import Derived.LaidSub
import Derived.Lib.LaidTab
import Derived.Stop.Joined
import Derived.Shelf.Vars
import Derived.HandedShaped
import Derived.Lay
/-
  Layer 40 (script): words of a line, read one by one; an event's first line; by the code.
-/
set_option linter.unusedSimpArgs false
set_option linter.unusedVariables false
set_option maxRecDepth 100000
namespace Go.Proofs.YthgcgjpbhbikaaaGreatDoor.Sc
open Go.Lg Go.Tg
/-- the reader at pr has the words xs ahead of it -/
def Rd (H : LH) (pr : Nat) (xs : List (List UInt8)) : Prop :=
  ∃ v, H.get pr = some ⟨[v], 93, true⟩ ∧ pr < H.n ∧ ((v = .slice none 0 0 ∧ xs = []) ∨ ∃ (k o c : Nat) (B : LB), v = .slice (some ⟨k, o, none⟩) xs.length c ∧ H.get k = some B ∧ k < pr ∧ (B.cells.drop o).take xs.length = xs.map str ∧ xs.length ≤ c)
/-- only the block pr may have turned -/
structure But (pr : Nat) (H H' : LH) : Prop where
  n : H'.n = H.n
  old : ∀ k, k < H.n → k ≠ pr → H'.get k = H.get k
  bs : Bs H H'
section
variable {H H' : LH} {pr : Nat} {xs : List (List UInt8)} {s : List UInt8}
theorem But.refl : But pr H H := ⟨rfl, fun _ _ _ => rfl, Bs.refl _⟩
theorem But.trans {H1 H2 : LH} (h : But pr H H1) (k : But pr H1 H2) : But pr H H2 := ⟨k.n.trans h.n, fun j hj hne => by rw [k.old j (by rw [h.n]; exact hj) hne, h.old j hj hne], h.bs.trans k.bs⟩
theorem Rd.back (h : Rd H' pr xs) (hle : H.le H') (hp : pr < H.n) : Rd H pr xs := by
  obtain ⟨v, h1, h2, h3⟩ := h
  refine ⟨v, by rw [← hle.2 pr hp]; exact h1, hp, ?_⟩
  rcases h3 with h3 | ⟨k, o, c, B, e, h4, h5, h6, h7⟩
  · exact .inl h3
  · exact .inr ⟨k, o, c, B, e, by rw [← hle.2 k (by omega)]; exact h4, h5, h6, h7⟩
theorem Rd.keep (h : Rd H pr xs) (hn : H.n ≤ H'.n) (hk : ∀ k, k < H.n → H'.get k = H.get k) : Rd H' pr xs := by
  obtain ⟨v, h1, h2, h3⟩ := h
  refine ⟨v, by rw [hk pr h2]; exact h1, by omega, ?_⟩
  rcases h3 with h3 | ⟨k, o, c, B, e, h4, h5, h6, h7⟩
  · exact .inl h3
  · exact .inr ⟨k, o, c, B, e, by rw [hk k (by omega)]; exact h4, h5, h6, h7⟩
theorem Rd.lt (h : Rd H pr xs) : pr < H.n := by obtain ⟨_, _, h, _⟩ := h; exact h
theorem word_ex (h : Rd H pr xs) : ∃ H', LC Tryz.prog EJ 55 [ptr pr 0] H = some (str (xs.headD []), H') ∧ Rd H' pr xs.tail ∧ But pr H H' := by
  have hp := h.lt
  have key : ∃ r, LC Tryz.prog EJ 55 [ptr pr 0] H = some (Lg.trunc H r) ∧ r.1 = str (xs.headD []) ∧ Rd r.2 pr xs.tail ∧ But pr H r.2 := by
    refine LC_runs (P := Tryz.prog) (E := EJ) (f := 55) rfl Tryz.func55 rfl (Nat.le_of_ble_eq_true rfl) (by decide) (by kernel_rfl) ?_
    have h0 := h
    obtain ⟨v, h1, h2, h3⟩ := h0
    rcases h3 with ⟨rfl, rfl⟩ | ⟨k, o, c, B, rfl, h4, h5, h6, h7⟩
    · simp [h1]
      exact ⟨h, But.refl⟩
    · cases xs with
      | nil =>
        simp [h1]
        exact ⟨h, But.refl⟩
      | cons x xs =>
        have hc : B.cells[o]? = some (str x) := by
          have := congrArg (fun z => z[0]?) h6
          simp only [List.getElem?_take, List.length_cons, Nat.zero_lt_succ, if_true, List.getElem?_drop, Nat.add_zero, List.map_cons, List.getElem?_cons_zero] at this
          exact this
        obtain ⟨hlt, hc⟩ := List.getElem?_eq_some_iff.mp hc
        have q0 := eq_true (show (0 : Int) < (xs.length : Int) + 1 by omega)
        have q1 := eq_true (show (1 : Int) ≤ (xs.length : Int) + 1 by omega)
        have q2 := eq_false (show ¬ (xs.length : Int) + 1 = 0 by omega)
        have hne : k ≠ pr := by omega
        simp [h1, h4, hlt, hc, q0, q1, q2]
        refine ⟨⟨.slice (some ⟨k, o + 1, none⟩) xs.length (c - 1), by simp, by simpa using h2, .inr ⟨k, o + 1, c - 1, B, rfl, by rw [get_set_ne hne]; exact h4, h5, ?_, by simp at h7; omega⟩⟩, ⟨by simp, fun j hj hne => get_set_ne hne, ⟨rfl, rfl⟩⟩⟩
        have := congrArg List.tail h6
        simp only [List.map_cons, List.tail_cons, List.length_cons] at this
        rw [← this, ← List.drop_drop]
        cases hd : B.cells.drop o with
        | nil => rw [hd] at h6; simp at h6
        | cons y l => simp
  obtain ⟨⟨v, H2⟩, e, hv, hr, hb⟩ := key
  simp only at hv hr hb
  subst hv
  rcases trunc_or (str (xs.headD [])) H H2 with e2 | ⟨e2, _, hle⟩
  · exact ⟨H2, by rw [e, e2], hr, hb⟩
  · exact ⟨H, by rw [e, e2], hr.back hle hp, But.refl⟩
theorem num_ex (h : Rd H pr xs) (hs : (xs.headD []).length ≤ 300000) : ∃ H', LC Tryz.prog EJ 56 [ptr pr 0] H = some (.int .i64 (Tg.Sc.numP (xs.headD []) : Nat), H') ∧ Rd H' pr xs.tail ∧ But pr H H' := by
  obtain ⟨H1, e1, r1, b1⟩ := word_ex h
  have hlt := h.lt
  generalize xs.headD [] = x at *
  have hp := dparse_cl (H := H1) (s := x) (by omega)
  have hn : (if x = [] ∨ x.all Tg.Nu.isD = false then (0 : Int) else if 9007199254740991 < Tg.Nu.dv 0 x then 0 else (Tg.Nu.dv 0 x : Nat)) = (Tg.Sc.numP x : Nat) := by
    unfold Tg.Sc.numP
    show _ = (((if x = [] ∨ x.all Tg.Nu.isD = false then 0 else if 9007199254740991 < Tg.Nu.dv 0 x then 0 else Tg.Nu.dv 0 x : Nat)) : Int)
    split
    · rfl
    · split <;> rfl
  rw [hn] at hp
  generalize (if x = [] ∨ x.all Tg.Nu.isD = false then (2 : Int) else if 9007199254740991 < Tg.Nu.dv 0 x then 9 else 0) = er at hp
  have key : ∃ r, LC Tryz.prog EJ 56 [ptr pr 0] H = some (Lg.trunc H r) ∧ r = (.int .i64 (Tg.Sc.numP x : Nat), H1) := by
    refine LC_runs (P := Tryz.prog) (E := EJ) (f := 56) rfl Tryz.func56 rfl (Nat.le_of_ble_eq_true rfl) (by decide) (by kernel_rfl) ?_
    simp [e1, hp]
  obtain ⟨r, e, rfl⟩ := key
  rcases trunc_or (.int .i64 (Tg.Sc.numP x : Nat)) H H1 with e2 | ⟨e2, _, hle⟩
  · exact ⟨H1, by rw [e, e2], r1, b1⟩
  · exact ⟨H, by rw [e, e2], r1.back hle hlt, But.refl⟩
theorem bytes_ex (h : Rd H pr xs) (hs : (xs.headD []).length ≤ 300000) : ∃ H', LC Tryz.prog EJ 81 [ptr pr 0] H = some (str (Tg.Sc.plainT (xs.headD [])), H') ∧ Rd H' pr xs.tail ∧ But pr H H' := by
  obtain ⟨H1, e1, r1, b1⟩ := word_ex h
  have hlt := h.lt
  generalize xs.headD [] = x at *
  have hp := plain_cl (H := H1) (s := x) (by omega)
  have key : ∃ r, LC Tryz.prog EJ 81 [ptr pr 0] H = some (Lg.trunc H r) ∧ r = (str (Tg.Sc.plainT x), H1) := by
    refine LC_runs (P := Tryz.prog) (E := EJ) (f := 81) rfl Tryz.func81 rfl (Nat.le_of_ble_eq_true rfl) (by decide) (by kernel_rfl) ?_
    simp [e1, hp]
  obtain ⟨r, e, rfl⟩ := key
  rcases trunc_or (str (Tg.Sc.plainT x)) H H1 with e2 | ⟨e2, _, hle⟩
  · exact ⟨H1, by rw [e, e2], r1, b1⟩
  · exact ⟨H, by rw [e, e2], r1.back hle hlt, But.refl⟩
theorem split_c (c : UInt8) (hs : s.length ≤ 5000000) (hm : MaxL H) : LC Tryz.prog EJ 33 [str s, str [c]] H = some (sl H.n (Tg.Sc.cutAt c s).length (Tg.Sc.cutAt c s).length, H.new ⟨(Tg.Sc.cutAt c s).map str, 9, true⟩) := by
  obtain ⟨e1, e2, e3, e4⟩ := Tg.Sc.cut_rows c s
  have hsp := split_l (H := H) (s := s) (p := [c]) (by omega) (by simp) hm (by unfold maxLen; omega) e3
  rw [e1, ← e2] at hsp
  exact hsp
theorem Rd.set {l : Nat} {b : LB} (h : Rd H pr xs) (hl : pr < l) : Rd (H.set l b) pr xs := by
  obtain ⟨v, h1, h2, h3⟩ := h
  refine ⟨v, by rw [get_set_ne (by omega)]; exact h1, h2, ?_⟩
  rcases h3 with h3 | ⟨k, o, c, B, e, h4, h5, h6, h7⟩
  · exact .inl h3
  · exact .inr ⟨k, o, c, B, e, by rw [get_set_ne (by omega)]; exact h4, h5, h6, h7⟩
theorem drop_head (ws : List (List UInt8)) (i : Nat) : (ws.drop i).headD [] = ws.getD i [] := by
  rw [List.getD_eq_getElem?_getD]
  cases h : ws[i]? with
  | none => rw [List.drop_of_length_le (List.getElem?_eq_none_iff.mp h)]; rfl
  | some x =>
    obtain ⟨hlt, hx⟩ := List.getElem?_eq_some_iff.mp h
    rw [List.drop_eq_getElem_cons hlt, hx]; rfl
theorem drop_tail (ws : List (List UInt8)) (i : Nat) : (ws.drop i).tail = ws.drop (i + 1) := by
  rw [List.tail_drop]
variable {ws : List (List UInt8)} {i : Nat}
theorem word_at (h : Rd H pr (ws.drop i)) : ∃ H', LC Tryz.prog EJ 55 [ptr pr 0] H = some (str (ws.getD i []), H') ∧ Rd H' pr (ws.drop (i + 1)) ∧ But pr H H' := by
  have := word_ex h
  rwa [drop_head, drop_tail] at this
theorem num_at (h : Rd H pr (ws.drop i)) (hs : (ws.getD i []).length ≤ 300000) : ∃ H', LC Tryz.prog EJ 56 [ptr pr 0] H = some (.int .i64 (Tg.Sc.numP (ws.getD i []) : Nat), H') ∧ Rd H' pr (ws.drop (i + 1)) ∧ But pr H H' := by
  have := num_ex h (by rw [drop_head]; exact hs)
  rwa [drop_head, drop_tail] at this
theorem bytes_at (h : Rd H pr (ws.drop i)) (hs : (ws.getD i []).length ≤ 300000) : ∃ H', LC Tryz.prog EJ 81 [ptr pr 0] H = some (str (Tg.Sc.plainT (ws.getD i [])), H') ∧ Rd H' pr (ws.drop (i + 1)) ∧ But pr H H' := by
  have := bytes_ex h (by rw [drop_head]; exact hs)
  rwa [drop_head, drop_tail] at this
theorem getD_len (hs : s.length ≤ 300000) (i : Nat) : ((Tg.Sc.cutAt 32 s).getD i []).length ≤ 300000 := by
  rw [List.getD_eq_getElem?_getD]
  cases h : (Tg.Sc.cutAt 32 s)[i]? with
  | none => simp
  | some x =>
    have := Tg.Sc.cut_len 32 s x (List.mem_of_getElem? h)
    show x.length ≤ _
    omega
abbrev ev0c (k id : Int) : List Value := [.int .i64 k, .int .i64 id, str [], str [], str [], .int .i64 0, .int .i64 0, .slice none 0 0, str []]
theorem event_cl (hs : s.length ≤ 300000) (hm : MaxL H) (ht : Tab H) : LC Tryz.prog EJ 57 [str s] H = some (.tuple #[evv (Tg.Sc.eventP s).1 (.slice none 0 0), .int .i64 ((Tg.Sc.eventP s).2 : Nat)], H) := by
  obtain ⟨H1, hH1⟩ : ∃ H1, H1 = H.new ⟨ev0c 0 0, 36, true⟩ := ⟨_, rfl⟩
  have n1 : H1.n = H.n + 1 := by rw [hH1]; rfl
  have b1 : Bs H H1 := by rw [hH1]; exact ⟨rfl, rfl⟩
  have le1 : H.le H1 := by rw [hH1]; exact le_refl.new
  have hsp := split_c (H := H1) 32 (s := s) (by omega) (hm.bs b1)
  have hwl := getD_len hs
  have hep : Tg.Sc.eventP s = (let ws := Tg.Sc.cutAt 32 s
    let w := fun i => ws.getD i []
    let k := Tg.Sc.kindP (w 0) Tg.Sc.words 0
    let e : Tg.Sc.Ev := { Tg.Sc.ev0 with kind := k, id := Tg.Sc.numP (w 1) }
    if k = 1 then ({ e with media := Tg.Sc.numP (w 2), mode := w 3, url := Tg.Sc.plainT (w 4), src := Tg.Sc.plainT (w 5) }, 0)
    else if k = 2 then ({ e with status := Tg.Sc.numP (w 2) }, Tg.Sc.numP (w 3))
    else if k = 3 then ({ e with body := Tg.Sc.plainT (w 2) }, 0)
    else (e, 0)) := rfl
  generalize hws : Tg.Sc.cutAt 32 s = ws at *
  generalize Tg.Sc.eventP s = ep at *
  subst hep
  obtain ⟨w, hw⟩ : ∃ w : Nat → List UInt8, w = fun i => ws.getD i [] := ⟨_, rfl⟩
  have wa : ∀ {G : LH} {pr i : Nat}, Rd G pr (ws.drop i) → ∃ H', LC Tryz.prog EJ 55 [ptr pr 0] G = some (str (w i), H') ∧ Rd H' pr (ws.drop (i + 1)) ∧ But pr G H' := fun {G pr i} h => by rw [hw]; exact word_at h
  have na : ∀ {G : LH} {pr i : Nat}, Rd G pr (ws.drop i) → ∃ H', LC Tryz.prog EJ 56 [ptr pr 0] G = some (.int .i64 (Tg.Sc.numP (w i) : Nat), H') ∧ Rd H' pr (ws.drop (i + 1)) ∧ But pr G H' := fun {G pr i} h => by rw [hw]; exact num_at h (hwl i)
  have ba : ∀ {G : LH} {pr i : Nat}, Rd G pr (ws.drop i) → ∃ H', LC Tryz.prog EJ 81 [ptr pr 0] G = some (str (Tg.Sc.plainT (w i)), H') ∧ Rd H' pr (ws.drop (i + 1)) ∧ But pr G H' := fun {G pr i} h => by rw [hw]; exact bytes_at h (hwl i)
  have hwi : ∀ i, ws.getD i [] = w i := fun i => by rw [hw]
  simp only [hwi]
  clear hw hwi
  obtain ⟨H2, hH2⟩ : ∃ H2, H2 = H1.new ⟨ws.map str, 9, true⟩ := ⟨_, rfl⟩
  have n2 : H2.n = H.n + 1 + 1 := by rw [hH2, n_new, n1]
  have g2 : H2.get (H.n + 1) = some ⟨ws.map str, 9, true⟩ := by rw [hH2, ← n1]; exact get_new
  obtain ⟨H3, hH3⟩ : ∃ H3, H3 = H2.new ⟨[.slice (some ⟨H.n + 1, 0, none⟩) ws.length ws.length], 93, true⟩ := ⟨_, rfl⟩
  have n3 : H3.n = H.n + 1 + 1 + 1 := by rw [hH3, n_new, n2]
  have r3 : Rd H3 (H.n + 1 + 1) (ws.drop 0) := by
    refine ⟨_, by rw [hH3, ← n2]; exact get_new, by omega, .inr ⟨H.n + 1, 0, ws.length, _, rfl, by rw [hH3, get_new_ne (by omega)]; exact g2, by omega, ?_, Nat.le_refl _⟩⟩
    rw [List.drop_zero, List.take_of_length_le (by simp)]; rfl
  have b3 : Bs H H3 := by rw [hH3, hH2]; exact b1
  have le3 : H.le H3 := by rw [hH3, hH2]; exact le1.new.new
  have hwd := words_l (H := H3) (ht.bs b3)
  obtain ⟨H4, hH4⟩ : ∃ H4, H4 = H3.new ⟨Tg.Sc.words.map str, 9, true⟩ := ⟨_, rfl⟩
  have n4 : H4.n = H.n + 1 + 1 + 1 + 1 := by rw [hH4, n_new, n3]
  have r4 : Rd H4 (H.n + 1 + 1) (ws.drop 0) := r3.keep (by omega) (fun k hk => by rw [hH4, get_new_ne (by omega)])
  have le4 : H.le H4 := by rw [hH4]; exact le3.new
  have b4 : Bs H H4 := by rw [hH4]; exact b3
  obtain ⟨H5, e5, r5, u5⟩ := wa r4
  have hrow : TRow H5 (sl H3.n 6 6) Tg.Sc.words := .inr ⟨H3.n, 0, 6, ⟨Tg.Sc.words.map str, 9, true⟩, rfl, by rw [u5.old H3.n (by omega) (by omega), hH4]; exact get_new, by rw [u5.n]; omega, by rw [List.drop_zero, List.take_of_length_le (by simp)], Nat.le_refl _⟩
  have hix := sindex_l (s := w 0) hrow (by decide)
  rw [n3] at hix
  obtain ⟨H6, e6, r6, u6⟩ := na r5
  have u46 := u5.trans u6
  have n6 : H6.n = H.n + 1 + 1 + 1 + 1 := by rw [u46.n, n4]
  have le6 : ∀ k, k < H.n → H6.get k = H.get k := fun k hk => by rw [u46.old k (by omega) (by omega), le4.2 k hk]
  have g6 : H6.get H.n = some ⟨ev0c 0 0, 36, true⟩ := by
    rw [u46.old H.n (by omega) (by omega), hH4, get_new_ne (by omega), hH3, get_new_ne (by omega), hH2, get_new_ne (by omega), hH1]; exact get_new
  have hfw := Tg.Sc.find_words (w 0)
  have hkl := Tg.Sc.kind_le (w 0) Tg.Sc.words 0
  have hwk : IntKind.i64.wrap (Tg.Sc.find (w 0) Tg.Sc.words 0 + 1) = ((Tg.Sc.kindP (w 0) Tg.Sc.words 0 : Nat) : Int) := by
    rw [show Tg.Sc.words.length = 6 from rfl] at hkl
    rw [hfw, wrapI (by omega) (by omega)]
  rw [← hH2] at hsp
  rw [← hH4] at hwd
  generalize hk : Tg.Sc.kindP (w 0) Tg.Sc.words 0 = k at *
  generalize Tg.Sc.numP (w 1) = m1 at *
  obtain ⟨H7, hH7⟩ : ∃ H7, H7 = H6.new ⟨ev0c k m1, 36, true⟩ := ⟨_, rfl⟩
  have n7 : H7.n = H.n + 1 + 1 + 1 + 1 + 1 := by rw [hH7, n_new, n6]
  have g7 : H7.get (H.n + 1 + 1 + 1 + 1) = some ⟨ev0c k m1, 36, true⟩ := by rw [hH7, ← n6]; exact get_new
  have r7 : Rd H7 (H.n + 1 + 1) (ws.drop 2) := r6.keep (by omega) (fun j hj => by rw [hH7, get_new_ne (by omega)])
  have g7' : H7.get H.n = some ⟨ev0c 0 0, 36, true⟩ := by rw [hH7, get_new_ne (by omega)]; exact g6
  have le7 : ∀ j, j < H.n → H7.get j = H.get j := fun j hj => by rw [hH7, get_new_ne (by omega)]; exact le6 j hj
  have d1 := eq_false (show ¬ H.n = H.n + 1 + 1 + 1 + 1 by omega)
  have lef : ∀ (G : LH), G.n = H7.n → (∀ j, j < H.n → G.get j = H7.get j) → ∀ (l : Nat) (b : LB), H.n ≤ l → H.le (G.set l b) := fun G hn hg l b hl => ⟨by show H.n ≤ G.n; omega, fun j hj => by rw [get_set_ne (by omega), hg j hj, le7 j hj]⟩
  have leg : ∀ (G : LH), G.n = H7.n → (∀ j, j < H.n → G.get j = H7.get j) → H.le G := fun G hn hg => ⟨by omega, fun j hj => by rw [hg j hj, le7 j hj]⟩
  refine LC_pure rfl Tryz.func57 rfl (Nat.le_of_ble_eq_true rfl) (by decide) (by kernel_rfl) rfl ?_
  by_cases k1 : k = 1
  · subst k1
    simp only [if_true]
    replace hH7 : H7 = H6.new ⟨ev0c 1 m1, 36, true⟩ := hH7
    replace hwk : IntKind.i64.wrap (Tg.Sc.find (w 0) Tg.Sc.words 0 + 1) = 1 := hwk
    obtain ⟨H8, e8, r8, u8⟩ := na r7
    obtain ⟨H9, e9, r9, u9⟩ := wa r8
    have u79 := u8.trans u9
    have g9 : H9.get (H.n + 1 + 1 + 1 + 1) = some ⟨ev0c 1 m1, 36, true⟩ := by rw [u79.old _ (by omega) (by omega)]; exact g7
    obtain ⟨H10, hH10⟩ : ∃ H10, H10 = H9.set (H.n + 1 + 1 + 1 + 1) ⟨[.int .i64 1, .int .i64 m1, str [], str [], str (w 3), .int .i64 (Tg.Sc.numP (w 2) : Nat), .int .i64 0, .slice none 0 0, str []], 36, true⟩ := ⟨_, rfl⟩
    have g10 : H10.get (H.n + 1 + 1 + 1 + 1) = some ⟨[.int .i64 1, .int .i64 m1, str [], str [], str (w 3), .int .i64 (Tg.Sc.numP (w 2) : Nat), .int .i64 0, .slice none 0 0, str []], 36, true⟩ := by rw [hH10]; exact get_set
    obtain ⟨H11, e11, r11, u11⟩ := ba (G := H10) (by rw [hH10]; exact r9.set (by omega))
    have n10 : H10.n = H7.n := by rw [hH10]; exact u79.n
    have g11 := (u11.old (H.n + 1 + 1 + 1 + 1) (by omega) (by omega)).trans g10
    obtain ⟨H12, hH12⟩ : ∃ H12, H12 = H11.set (H.n + 1 + 1 + 1 + 1) ⟨[.int .i64 1, .int .i64 m1, str (Tg.Sc.plainT (w 4)), str [], str (w 3), .int .i64 (Tg.Sc.numP (w 2) : Nat), .int .i64 0, .slice none 0 0, str []], 36, true⟩ := ⟨_, rfl⟩
    have g12 : H12.get (H.n + 1 + 1 + 1 + 1) = some ⟨[.int .i64 1, .int .i64 m1, str (Tg.Sc.plainT (w 4)), str [], str (w 3), .int .i64 (Tg.Sc.numP (w 2) : Nat), .int .i64 0, .slice none 0 0, str []], 36, true⟩ := by rw [hH12]; exact get_set
    obtain ⟨H13, e13, r13, u13⟩ := ba (G := H12) (by rw [hH12]; exact r11.set (by omega))
    have n12 : H12.n = H7.n := by rw [hH12]; exact u11.n.trans n10
    have g13 := (u13.old (H.n + 1 + 1 + 1 + 1) (by omega) (by omega)).trans g12
    have o13 : ∀ j, j < H.n + 1 → H13.get j = H7.get j := fun j hj => by
      rw [u13.old j (by omega) (by omega), hH12, get_set_ne (by omega), u11.old j (by omega) (by omega), hH10, get_set_ne (by omega), u79.old j (by omega) (by omega)]
    have g13' := (o13 H.n (by omega)).trans g7'
    simp [Tg.Sc.ev0, ← hH1, hsp, ← hH3, n1, n2, n3, n6, hwd, e5, hix, hwk, e6, ← hH7, g7, g7', e8, e9, g9, ← hH10, e11, g11, ← hH12, e13, g13, g13', d1]
    exact lef H13 (u13.n.trans n12) (fun j hj => o13 j (by omega)) _ _ (by omega)
  by_cases k2 : k = 2
  · subst k2
    simp only [if_true, if_neg (show ¬ (2 : Nat) = 1 by decide)]
    replace hH7 : H7 = H6.new ⟨ev0c 2 m1, 36, true⟩ := hH7
    replace hwk : IntKind.i64.wrap (Tg.Sc.find (w 0) Tg.Sc.words 0 + 1) = 2 := hwk
    obtain ⟨H8, e8, r8, u8⟩ := na r7
    have g8 : H8.get (H.n + 1 + 1 + 1 + 1) = some ⟨ev0c 2 m1, 36, true⟩ := by rw [u8.old _ (by omega) (by omega)]; exact g7
    obtain ⟨H9, hH9⟩ : ∃ H9, H9 = H8.set (H.n + 1 + 1 + 1 + 1) ⟨[.int .i64 2, .int .i64 m1, str [], str [], str [], .int .i64 0, .int .i64 (Tg.Sc.numP (w 2) : Nat), .slice none 0 0, str []], 36, true⟩ := ⟨_, rfl⟩
    have g9 : H9.get (H.n + 1 + 1 + 1 + 1) = some ⟨[.int .i64 2, .int .i64 m1, str [], str [], str [], .int .i64 0, .int .i64 (Tg.Sc.numP (w 2) : Nat), .slice none 0 0, str []], 36, true⟩ := by rw [hH9]; exact get_set
    obtain ⟨H10, e10, r10, u10⟩ := na (G := H9) (by rw [hH9]; exact r8.set (by omega))
    have n9 : H9.n = H7.n := by rw [hH9]; exact u8.n
    have g10 := (u10.old (H.n + 1 + 1 + 1 + 1) (by omega) (by omega)).trans g9
    have o10 : ∀ j, j < H.n + 1 → H10.get j = H7.get j := fun j hj => by
      rw [u10.old j (by omega) (by omega), hH9, get_set_ne (by omega), u8.old j (by omega) (by omega)]
    have g10' := (o10 H.n (by omega)).trans g7'
    simp [Tg.Sc.ev0, ← hH1, hsp, ← hH3, n1, n2, n3, n6, hwd, e5, hix, hwk, e6, ← hH7, g7, g7', e8, g8, ← hH9, g9, e10, g10, g10', d1]
    exact leg H10 (u10.n.trans n9) (fun j hj => o10 j (by omega))
  by_cases k3 : k = 3
  · subst k3
    simp only [if_true, if_neg (show ¬ (3 : Nat) = 1 by decide), if_neg (show ¬ (3 : Nat) = 2 by decide)]
    replace hH7 : H7 = H6.new ⟨ev0c 3 m1, 36, true⟩ := hH7
    replace hwk : IntKind.i64.wrap (Tg.Sc.find (w 0) Tg.Sc.words 0 + 1) = 3 := hwk
    obtain ⟨H8, e8, r8, u8⟩ := ba r7
    have g8 : H8.get (H.n + 1 + 1 + 1 + 1) = some ⟨ev0c 3 m1, 36, true⟩ := by rw [u8.old _ (by omega) (by omega)]; exact g7
    have o8 : ∀ j, j < H.n + 1 → H8.get j = H7.get j := fun j hj => u8.old j (by omega) (by omega)
    have g8' := (o8 H.n (by omega)).trans g7'
    simp [Tg.Sc.ev0, ← hH1, hsp, ← hH3, n1, n2, n3, n6, hwd, e5, hix, hwk, e6, ← hH7, g7, g7', e8, g8, g8', d1]
    exact lef H8 u8.n (fun j hj => o8 j (by omega)) _ _ (by omega)
  have q1 := eq_false (show ¬ ((k : Nat) : Int) = 1 by omega)
  have q2 := eq_false (show ¬ ((k : Nat) : Int) = 2 by omega)
  have q3 := eq_false (show ¬ ((k : Nat) : Int) = 3 by omega)
  simp only [if_neg k1, if_neg k2, if_neg k3]
  simp [Tg.Sc.ev0, ← hH1, hsp, ← hH3, n1, n2, n3, n6, hwd, e5, hix, hwk, e6, ← hH7, g7, g7', d1, q1, q2, q3, k1, k2, k3]
  exact leg H7 rfl (fun j hj => rfl)
end
end Go.Proofs.YthgcgjpbhbikaaaGreatDoor.Sc
/-
  Layer 40 (script): the event with which lines begin, by the code.
-/
set_option linter.unusedSimpArgs false
set_option linter.unusedVariables false
set_option maxRecDepth 100000
namespace Tg.Sc
open Go
theorem cutCB_cons {b : UInt8} {r : List UInt8} (h : ([58, 32] : List UInt8).isPrefixOf (b :: r) = false) : cutCB (b :: r) = (b :: (cutCB r).1, (cutCB r).2) := by
  rw [cutCB]
  intro r' e1 e2
  subst e1 e2
  simp [List.isPrefixOf] at h
theorem cutCB_idx : ∀ s : List UInt8, (Lib.index s [58, 32] = -1 ∧ cutCB s = (s, [])) ∨ ∃ i : Nat, Lib.index s [58, 32] = i ∧ i + 2 ≤ s.length ∧ cutCB s = (s.take i, s.drop (i + 2))
  | [] => .inl ⟨rfl, rfl⟩
  | b :: r => by
    cases hp : ([58, 32] : List UInt8).isPrefixOf (b :: r) with
    | true =>
      right
      obtain ⟨c, r2, rfl⟩ : ∃ c r2, r = c :: r2 := by
        cases r with
        | nil => simp [List.isPrefixOf] at hp
        | cons c r2 => exact ⟨c, r2, rfl⟩
      have hb : b = 58 ∧ c = 32 := by
        simp [List.isPrefixOf] at hp
        exact ⟨hp.1.symm, hp.2.symm⟩
      obtain ⟨rfl, rfl⟩ := hb
      refine ⟨0, ?_, by simp, rfl⟩
      unfold Lib.index
      rw [if_pos hp]; rfl
    | false =>
      have hc := cutCB_cons hp
      rcases cutCB_idx r with ⟨h1, h2⟩ | ⟨i, h1, h2, h3⟩
      · left
        refine ⟨?_, by rw [hc, h2]⟩
        unfold Lib.index
        rw [if_neg (by rw [hp]; decide), h1]; rfl
      · right
        refine ⟨i + 1, ?_, by simp only [List.length_cons]; omega, by rw [hc, h3]; rfl⟩
        unfold Lib.index
        rw [if_neg (by rw [hp]; decide), h1, if_neg (by simp only [beq_iff_eq]; omega)]
        omega
theorem noBar_trim (s : List UInt8) : Lib.trimPrefix s [124] = noBar s := by
  unfold Lib.trimPrefix Lib.hasPrefix noBar
  cases s with
  | nil => rfl
  | cons b r =>
    by_cases hb : b = 124
    · subst hb; simp [List.isPrefixOf]
    · have : ([124] : List UInt8).isPrefixOf (b :: r) = false := by
        simp [List.isPrefixOf]; exact fun e => hb e.symm
      rw [this]
      simp only [Bool.false_eq_true, if_false]
      split
      · rename_i e; injection e with e _; exact absurd e hb
      · rfl
theorem cutCB_len (s : List UInt8) : (cutCB s).1.length ≤ s.length ∧ (cutCB s).2.length ≤ s.length := by
  rcases cutCB_idx s with ⟨_, h⟩ | ⟨i, _, h1, h⟩
  · rw [h]; simp
  · rw [h]; simp; omega
theorem noBar_len (s : List UInt8) : (noBar s).length ≤ s.length := by
  unfold noBar
  split
  · simp
  · exact Nat.le_refl _
theorem hdrP_len (s : List UInt8) : (hdrP s).1.length ≤ s.length ∧ (hdrP s).2.length ≤ s.length := by
  have h1 := noBar_len s
  have h2 := cutCB_len (noBar s)
  have h3 := plain_len (cutCB (noBar s)).2
  unfold hdrP
  simp only
  omega
end Tg.Sc
namespace Go.Proofs.YthgcgjpbhbikaaaGreatDoor.Sc
open Go.Lg Go.Tg
section
variable {H : LH} {s : List UInt8} {v : Value} {xs r : List (List UInt8)}
theorem cut2_cl (hs : s.length ≤ 300000) (hm : MaxL H) : ∃ b, LC Tryz.prog EJ 58 [str s, str [58, 32]] H = some (.tuple #[str (Tg.Sc.cutCB s).1, str (Tg.Sc.cutCB s).2, .bool b], H) := by
  have hi := indexM_l (H := H) (s := s) (a := 58) (b := 32) (p := []) (by omega) hm
  have key : ∃ b, LC Tryz.prog EJ 82 [str s, str [58, 32]] H = some (.tuple #[str (Tg.Sc.cutCB s).1, str (Tg.Sc.cutCB s).2, .bool b], H) := by
    rcases Tg.Sc.cutCB_idx s with ⟨h1, h2⟩ | ⟨i, h1, h2, h3⟩
    · refine ⟨false, ?_⟩
      refine LC_pure rfl Tryz.func82 rfl (Nat.le_of_ble_eq_true rfl) (by decide) (by kernel_rfl) rfl ?_
      rw [h1] at hi
      simp [hi, h2]
    · refine ⟨true, ?_⟩
      refine LC_pure rfl Tryz.func82 rfl (Nat.le_of_ble_eq_true rfl) (by decide) (by kernel_rfl) rfl ?_
      rw [h1] at hi
      have hw : IntKind.i64.wrap ((i : Int) + 2) = (i : Int) + 2 := wrapI (by omega) (by omega)
      have e1 : ((i : Int) + 2).toNat = i + 2 := by omega
      have f1 := eq_true (show (i : Int) ≤ s.length by omega)
      have f2 := eq_true (show (i : Int) + 2 ≤ s.length by omega)
      have f3 := eq_true (show (0 : Int) ≤ (i : Int) + 2 by omega)
      simp [hi, h3, hw, e1, f1, f2, f3]
  obtain ⟨b, hk⟩ := key
  refine ⟨b, ?_⟩
  refine LC_pure rfl Tryz.func58 rfl (Nat.le_of_ble_eq_true rfl) (by decide) (by kernel_rfl) rfl ?_
  simp [hk]
theorem TRow.part (h : TRow H v xs) {a b : Option Value} {p q : Nat} (ha : lbd 0 a = some p) (hb : lbd xs.length b = some q) (hpq : p ≤ q) (hq : q ≤ xs.length) : ∃ v', lpart Tryz.prog 40 v a b = some v' ∧ TRow H v' ((xs.take q).drop p) := by
  have hsz : sz Tryz.prog 9 = some 1 := by kernel_rfl
  rcases h with ⟨rfl, rfl⟩ | ⟨k, o, c, B, rfl, h2, h3, h4, h5⟩
  · have hq0 : q = 0 := by simpa using hq
    have hp0 : p = 0 := by omega
    subst hq0 hp0
    refine ⟨.slice none 0 0, ?_, .inl ⟨rfl, by simp⟩⟩
    have hb' : lbd 0 b = some 0 := hb
    simp [lpart, Tryz.underlying40, ha, hb', hsz]
  · refine ⟨_, lpart_row0 Tryz.underlying40 hsz ha hb ⟨hpq, hq⟩, .inr ⟨k, o + p * 1, c - p, B, by simp [List.length_take, Nat.min_eq_left hq], h2, h3, ?_, by simp [List.length_take, Nat.min_eq_left hq]; omega⟩⟩
    rw [Nat.mul_one, ← List.drop_drop, List.length_drop, List.length_take, Nat.min_eq_left hq, List.map_drop, List.map_take, ← h4, List.take_take, Nat.min_eq_left hq, List.drop_take]
/-- what `next` leaves -/
def OutN (H : LH) (x : Option (Tg.Sc.Ev × Nat)) (r : Value × LH) : Prop :=
  ∃ e p n ok, r.1 = .tuple #[evv e p, .int .i64 n, .bool ok] ∧ cellB p = true ∧ H.le r.2 ∧ match x with
    | some (e', k) => e = e' ∧ n = (k : Int) + 1 ∧ ok = true ∧ HOwn H.n r.2 p e'.hdrs
    | none => ok = false
theorem OutN.trunc {x : Option (Tg.Sc.Ev × Nat)} {u : Value} {H' : LH} (h : OutN H x (u, H')) : ∃ H2, Lg.trunc H (u, H') = (u, H2) ∧ OutN H x (u, H2) := by
  rcases trunc_or u H H' with e2 | ⟨e2, hf, _⟩
  · exact ⟨H', e2, h⟩
  · refine ⟨H, e2, ?_⟩
    obtain ⟨e, p, n, ok, h1, hc, h2, h3⟩ := h
    refine ⟨e, p, n, ok, h1, hc, le_refl, ?_⟩
    cases x with
    | none => exact h3
    | some y =>
      obtain ⟨e', k⟩ := y
      obtain ⟨g1, g2, g3, g4⟩ := h3
      refine ⟨g1, g2, g3, g4.1, ?_⟩
      rcases g4.2 with g5 | ⟨k, c, rest, rfl, _⟩
      · exact .inl g5
      · simp only at h1
        rw [h1] at hf
        simp [flatB, flat1B, atomB] at hf
theorem ev_bounds (hs : s.length ≤ 300000) : (Tg.Sc.eventP s).2 ≤ 9007199254740991 ∧ EvZ { (Tg.Sc.eventP s).1 with hdrs := [] } := by
  have hn : ∀ w : List UInt8, Tg.Sc.numP w ≤ 9007199254740991 := fun w => by
    unfold Tg.Sc.numP
    split
    · omega
    · split <;> omega
  have hw := getD_len hs
  have hp : ∀ i, (Tg.Sc.plainT ((Tg.Sc.cutAt 32 s).getD i [])).length ≤ 300000 := fun i => Nat.le_trans (Tg.Sc.plain_len _) (hw i)
  have hh : ∀ h ∈ ([] : List Tg.Hd.Hdr), h.1.length ≤ 300000 ∧ h.2.length ≤ 300000 := fun h hm => by cases hm
  have q : ∀ w, (-9223372036854775808 : Int) ≤ (Tg.Sc.numP w : Nat) ∧ ((Tg.Sc.numP w : Nat) : Int) ≤ 9223372036854775807 := fun w => by have := hn w; omega
  unfold Tg.Sc.eventP Tg.Sc.ev0
  simp only
  split
  · exact ⟨by simp, ⟨hp _, hp _, hw _, by simp, by simp, hh, (q _).1, (q _).2, (q _).1, (q _).2, by simp, by simp⟩⟩
  · split
    · exact ⟨hn _, ⟨by simp, by simp, by simp, by simp, by simp, hh, (q _).1, (q _).2, by simp, by simp, (q _).1, (q _).2⟩⟩
    · split
      · exact ⟨by simp, ⟨by simp, by simp, by simp, hp _, by simp, hh, (q _).1, (q _).2, by simp, by simp, by simp, by simp⟩⟩
      · exact ⟨by simp, ⟨by simp, by simp, by simp, by simp, by simp, hh, (q _).1, (q _).2, by simp, by simp, by simp, by simp⟩⟩
theorem hown_weak {N N' : Nat} {w : Value} {l : List Tg.Hd.Hdr} (h : HOwn N H w l) (hn : N' ≤ N) : HOwn N' H w l := by
  refine ⟨h.1, ?_⟩
  rcases h.2 with h2 | ⟨k, c, rest, rfl, g1, g2, g3, g4, g5⟩
  · exact .inl h2
  · exact .inr ⟨k, c, rest, rfl, by omega, g2, g3, g4, g5⟩
theorem next_ex (hv : TRow H v (s :: r)) (hs : ∀ x ∈ s :: r, x.length ≤ 300000) (hl : r.length ≤ 80000) (hm : MaxL H) (ht : Tab H) (h10 : Tab10 H) :
    ∃ u, LC Tryz.prog EJ 35 [v] H = some u ∧ OutN H (Tg.Sc.nextP s r) u := by
  have key : ∃ u, LC Tryz.prog EJ 35 [v] H = some (Lg.trunc H u) ∧ OutN H (Tg.Sc.nextP s r) u := by
    refine LC_runs (P := Tryz.prog) (E := EJ) (f := 35) rfl Tryz.func35 rfl (Nat.le_of_ble_eq_true rfl) (by decide) (by kernel_rfl) ?_
    have hs0 := hs s (by simp)
    obtain ⟨hnb, hz0⟩ := ev_bounds hs0
    unfold Tg.Sc.nextP
    generalize hep : Tg.Sc.eventP s = ep at *
    obtain ⟨e0, n⟩ := ep
    simp only at hnb hz0 ⊢
    obtain ⟨H1, hH1⟩ : ∃ H1, H1 = H.new ⟨ev0c 0 0, 36, true⟩ := ⟨_, rfl⟩
    have n1 : H1.n = H.n + 1 := by rw [hH1]; rfl
    have b1 : Bs H H1 := by rw [hH1]; exact ⟨rfl, rfl⟩
    have le1 : H.le H1 := by rw [hH1]; exact le_refl.new
    have g1 : H1.get H.n = some ⟨ev0c 0 0, 36, true⟩ := by rw [hH1]; exact get_new
    have hv1 : TRow H1 v (s :: r) := hv.keep le1.1 le1.2
    obtain ⟨k0, o0, a1, _, a3⟩ := hv1.at (i := 0) (by simp)
    have a4 := a3 H1 rfl
    simp only [List.getElem_cons_zero] at a4
    have a1 : ∀ G : LH, lixa Tryz.prog 40 v (.int .i64 0) G = some (ptr k0 o0, G) := a1
    have hev := event_cl (H := H1) hs0 (hm.bs b1) (ht.bs b1)
    rw [hep] at hev
    obtain ⟨H2, hH2⟩ : ∃ H2, H2 = H1.new (evc e0 (.slice none 0 0)) := ⟨_, rfl⟩
    have n2 : H2.n = H.n + 1 + 1 := by rw [hH2, n_new, n1]
    have le2 : H.le H2 := by rw [hH2]; exact le1.new
    have b2 : Bs H H2 := by rw [hH2]; exact b1
    have g2 : H2.get (H.n + 1) = some (evc e0 (.slice none 0 0)) := by rw [hH2, ← n1]; exact get_new
    have g2' : H2.get H.n = some ⟨ev0c 0 0, 36, true⟩ := by rw [hH2, get_new_ne (by omega)]; exact g1
    have hlen := fun G : LH => hv1.len (H' := G)
    simp only [List.length_cons] at hlen
    have hw1 : IntKind.i64.wrap ((n : Int) + 1) = ((n + 1 : Nat) : Int) := by rw [wrapI (by omega) (by omega)]; omega
    by_cases hbig : r.length < n
    · rw [if_pos hbig]
      have q0 := eq_true (show ((r.length + 1 : Nat) : Int) ≤ (n : Int) by omega)
      have q1 := eq_true (show (r.length : Int) + 1 ≤ (n : Int) by omega)
      simp [← hH1, a1, a4, hev, ← hH2, n1, g2, g2', hlen, q0, q1]
      exact ⟨e0, .slice none 0 0, 0, false, rfl, by simp, (le_set_iff (Nat.le_refl _)).2 le2, rfl⟩
    rw [if_neg hbig]
    have q0 := eq_false (show ¬ (r.length : Int) + 1 ≤ (n : Int) by omega)
    have hwn : IntKind.i64.wrap ((n : Int) + 1) = (n : Int) + 1 := wrapI (by omega) (by omega)
    obtain ⟨v', hp1, hv'⟩ := hv.part (a := some (.int .i64 1)) (b := some (.int .i64 ((n : Int) + 1))) (p := 1) (q := n + 1) rfl (by
      show (if 0 ≤ (n : Int) + 1 then some ((n : Int) + 1).toNat else none) = some (n + 1)
      rw [if_pos (by omega)]; congr 1) (by omega) (by simp; omega)
    rw [show ((s :: r).take (n + 1)).drop 1 = r.take n from rfl] at hv'
    obtain ⟨ls, hls⟩ : ∃ ls, ls = r.take n := ⟨_, rfl⟩
    have hlsn : ls.length = n := by rw [hls, List.length_take]; omega
    have hlss : ∀ x ∈ ls, x.length ≤ 300000 := fun x hx => hs x (by rw [hls] at hx; simp [List.mem_of_mem_take hx])
    rw [← hls] at hv' ⊢
    have hvl := fun G : LH => hv'.len (H' := G)
    rw [hlsn] at hvl
    simp [← hH1, a1, a4, hev, ← hH2, n1, g2, g2', hlen, q0, hwn, hp1, hvl]
    refine loop_ind (fun (i : Nat) fr' H' => ∃ w, fr' 0 = v ∧ fr' 2 = ptr H.n 0 ∧ fr' 5 = ptr (H.n + 1) 0 ∧ fr' 6 = .int .i64 n ∧ fr' 29 = v' ∧ fr' 30 = .int .i64 n ∧ fr' 31 = .int .i64 i ∧ i ≤ n ∧ H'.get (H.n + 1) = some (evc e0 w) ∧ HOwn (H.n + 1 + 1) H' w ((ls.take i).map Tg.Sc.hdrP) ∧ H.n + 1 + 1 ≤ H'.n ∧ H'.get H.n = some ⟨ev0c 0 0, 36, true⟩ ∧ (∀ k, k < H.n → H'.get k = H.get k) ∧ Bs H H') (fun i => n - i) 0 ⟨.slice none 0 0, by simp, by simp, by simp, by simp, by simp, by simp, by simp, Nat.zero_le _, g2, by simpa using (HOwn.nil (N := H.n + 1 + 1) (H := H2)), by omega, g2', le2.2, b2⟩ ?_
    rintro i fr' H' ⟨w, f0, f2, f5, f6, f29, f30, f31, hi, ge, hrow, hn, gz, hk, hb⟩ ih
    have hvi : TRow H' v' ls := hv'.keep (by omega) hk
    by_cases hlt : i < n
    · have q := eq_true (show (i : Int) < (n : Int) by omega)
      have hwi : IntKind.i64.wrap ((i : Int) + 1) = ((i + 1 : Nat) : Int) := by rw [wrapI (by omega) (by omega)]; omega
      obtain ⟨k1, o1, c1, _, c3⟩ := hvi.at (i := i) (by omega)
      have c4 := c3 H' rfl
      have hx := hlss ls[i] (List.getElem_mem (by omega))
      have hnb := Tg.Sc.noBar_trim ls[i]
      have hnl := Tg.Sc.noBar_len ls[i]
      have hcl := Tg.Sc.cutCB_len (Tg.Sc.noBar ls[i])
      obtain ⟨bb, hcut⟩ := cut2_cl (H := H') (s := Tg.Sc.noBar ls[i]) (by omega) (hm.bs hb)
      have hpl := fun H : LH => plain_cl (H := H) (s := (Tg.Sc.cutCB (Tg.Sc.noBar ls[i])).2) (by omega)
      have hnew : (ls.take (i + 1)).map Tg.Sc.hdrP = (ls.take i).map Tg.Sc.hdrP ++ [((Tg.Sc.cutCB (Tg.Sc.noBar ls[i])).1, Tg.Sc.plainT (Tg.Sc.cutCB (Tg.Sc.noBar ls[i])).2)] := by
        rw [List.take_succ_eq_append_getElem (by omega), List.map_append]; rfl
      obtain ⟨w2, H3, d1, d2, d3, d4, d5, d6⟩ := h_app hrow hn (by rw [List.length_map, List.length_take]; omega) (Tg.Sc.cutCB (Tg.Sc.noBar ls[i])).1 (Tg.Sc.plainT (Tg.Sc.cutCB (Tg.Sc.noBar ls[i])).2)
      rw [← hnew] at d2
      have g3 : H3.get (H.n + 1) = some (evc e0 w) := by rw [d4 _ (by omega) (hrow.off_lt (by omega))]; exact ge
      have hcw : cellB w2 = true := d2.cell
      have b3 : Bs H H3 := hb.trans (Bs.trans (H1 := H'.new _) ⟨rfl, rfl⟩ (lapp_bs d1))
      have hfin := fun fr2 (f0 : fr2 0 = v) (f2 : fr2 2 = ptr H.n 0) (f5 : fr2 5 = ptr (H.n + 1) 0) (f6 : fr2 6 = .int .i64 n) (f29 : fr2 29 = v') (f30 : fr2 30 = .int .i64 n) (f31 : fr2 31 = .int .i64 ((i + 1 : Nat) : Int)) => ih (i + 1) fr2 (H3.set (H.n + 1) (evc e0 w2)) (by omega) ⟨w2, f0, f2, f5, f6, f29, f30, f31, by omega, get_set, d2.keep (Nat.le_refl _) (fun k h1 _ _ => get_set_ne (by omega)), by show _ ≤ H3.n; omega, by rw [get_set_ne (by omega), d4 _ (by omega) (hrow.off_lt (by omega))]; exact gz, fun k hk2 => by rw [get_set_ne (by omega), d4 _ (by omega) (hrow.off_lt (by omega))]; exact hk k hk2, b3⟩
      clear ih d2 hrow hnew
      generalize Tg.Sc.plainT (Tg.Sc.cutCB (Tg.Sc.noBar ls[i])).2 = y2 at *
      generalize (Tg.Sc.cutCB (Tg.Sc.noBar ls[i])).2 = y3 at *
      generalize (Tg.Sc.cutCB (Tg.Sc.noBar ls[i])).1 = y1 at *
      generalize Tg.Sc.noBar ls[i] = y0 at *
      generalize ls[i] = x at *
      simp [f0, f2, f5, f6, f29, f30, f31, q, c1, c4, hnb, hcut, hpl, ge, bs1h, d1, g3, hcw]
      refine hfin _ ?_ ?_ ?_ ?_ ?_ ?_ ?_
      all_goals simp [f0, f2, f5, f6, f29, f30, hwi]
    · have hin : i = n := by omega
      subst hin
      have q := eq_false (show ¬ (i : Int) < (i : Int) by omega)
      rw [List.take_of_length_le (by omega)] at hrow
      obtain ⟨e', he'⟩ : ∃ e' : Tg.Sc.Ev, e' = { e0 with hdrs := ls.map Tg.Sc.hdrP } := ⟨_, rfl⟩
      rw [← he']
      have hh : e'.hdrs = ls.map Tg.Sc.hdrP := by rw [he']
      have hz : EvZ e' := by
        rw [he']
        exact ⟨hz0.url, hz0.src, hz0.mode, hz0.body, by rw [List.length_map]; omega, fun h hm => by
          obtain ⟨x, hx, rfl⟩ := List.mem_map.mp hm
          have := Tg.Sc.hdrP_len x
          have := hlss x hx
          omega, hz0.id0, hz0.id1, hz0.me0, hz0.me1, hz0.st0, hz0.st1⟩
      have hev' : evv e' w = .agg #[.int .i64 e0.kind, .int .i64 e0.id, str e0.url, str e0.src, str e0.mode, .int .i64 e0.media, .int .i64 e0.status, w, str e0.body] := by rw [he']
      rw [← hh] at hrow
      have hr' := hrow.row
      have hgood := good_cl hr' hz
      rw [hev'] at hgood
      obtain ⟨wa, wn, wc, rfl⟩ := hr'.slice
      have leH : H.le H' := ⟨by omega, hk⟩
      cases hgd : Tg.Sc.good e' with
      | false =>
        rw [hgd] at hgood
        rw [if_neg (by simp)]
        simp [f0, f2, f5, f6, f29, f30, f31, q, ge, gz, hgood, hwn]
        exact ⟨e', .slice wa wn wc, _, false, by rw [hev'], by simp, (le_set_iff (Nat.le_refl _)).2 leH, rfl⟩
      | true =>
        rw [hgd] at hgood
        obtain ⟨v3, H3, e3, o3⟩ := shown_ex hgd hr' hz (ht.bs hb) (h10.bs hb)
        rw [hev'] at e3
        obtain ⟨v4, hp4, hv4⟩ := hv.part (a := none) (b := some (.int .i64 ((i : Int) + 1))) (p := 0) (q := i + 1) rfl (by
          show (if 0 ≤ (i : Int) + 1 then some ((i : Int) + 1).toNat else none) = some (i + 1)
          rw [if_pos (by omega)]; congr 1) (by omega) (by simp; omega)
        rw [List.drop_zero, List.take_succ_cons, ← hls] at hv4
        have hle3 : H.le H3 := le_trans leH o3.le
        have heq := tequal_cl o3.row (hv4.keep hle3.1 hle3.2) (by
          have hgs := hgd
          obtain ⟨s9, r9, hl9⟩ := Tg.Sc.lined hgd
          have h9 := congrArg List.length hl9.hs
          rw [List.length_map, hh, List.length_map] at h9
          rw [hl9.sh, List.length_cons]
          omega)
        have g3 : H3.get (H.n + 1) = some (evc e0 (.slice wa wn wc)) := by rw [o3.le.2 _ (by omega)]; exact ge
        have gz3 : H3.get H.n = some ⟨ev0c 0 0, 36, true⟩ := by rw [o3.le.2 _ (by omega)]; exact gz
        simp [f0, f2, f5, f6, f29, f30, f31, q, ge, gz, hgood, hwn, e3, hp4, heq, g3, gz3]
        have hrf : HOwn H.n (H3.set H.n (evc e0 (.slice wa wn wc))) (.slice wa wn wc) e'.hdrs := hown_weak (hrow.keep (by have := o3.le.1; show H'.n ≤ H3.n; omega) (fun k h1 _ h2 => by rw [get_set_ne (by omega), o3.le.2 k h2])) (by omega)
        by_cases hsh : Tg.Sc.shown e' = s :: ls
        · rw [if_pos hsh, decide_eq_true hsh]
          exact ⟨e', .slice wa wn wc, _, true, by rw [hev'], by simp, (le_set_iff (Nat.le_refl _)).2 hle3, rfl, rfl, rfl, hrf⟩
        · rw [if_neg hsh, decide_eq_false hsh]
          exact ⟨e', .slice wa wn wc, _, false, by rw [hev'], by simp, (le_set_iff (Nat.le_refl _)).2 hle3, rfl⟩
  obtain ⟨⟨u, H'⟩, e, ho⟩ := key
  obtain ⟨H2, e2, ho2⟩ := ho.trunc
  exact ⟨(u, H2), by rw [e, e2], ho2⟩
end
end Go.Proofs.YthgcgjpbhbikaaaGreatDoor.Sc
/-
  Layer 40 (script): a setup's line, by the code.
-/
set_option linter.unusedSimpArgs false
set_option linter.unusedVariables false
set_option maxRecDepth 100000
namespace Go.Proofs.YthgcgjpbhbikaaaGreatDoor.Sc
open Go.Lg Go.Tg
section
variable {H : LH} {s : List UInt8}
abbrev setc (b : Bool) (k d t n : Int) : List Value := [.bool b, .int .i64 k, .int .i64 d, .int .i64 t, .int .i64 n]
theorem set_ok (s : List UInt8) : (Tg.Sc.settings s).isSome = (decide (s ≠ []) && decide ((if Tg.Sc.fineS (Tg.Sc.setP s) = true then Tg.Sc.setupT (Tg.Sc.setP s) else []) = s)) := by
  unfold Tg.Sc.settings
  by_cases h0 : s = []
  · subst h0
    rw [if_neg]
    · rfl
    · rintro ⟨_, h⟩
      revert h
      unfold Tg.Sc.setupT Tg.Sc.kwSetup
      simp [Tg.Sc.wl]
  · by_cases h1 : Tg.Sc.fineS (Tg.Sc.setP s) = true
    · rw [if_pos h1]
      by_cases h2 : Tg.Sc.setupT (Tg.Sc.setP s) = s
      · rw [if_pos ⟨h1, h2⟩]; simp [h0, h2]
      · rw [if_neg (fun h => h2 h.2)]; simp [h0, h2]
    · rw [if_neg (fun h => h1 h.1), if_neg h1]
      simp [h0]
theorem set_fill {b k d : Value} : lfill Tryz.prog 26 [.bool false, .int .i64 0, .int .i64 0, .int .i64 0, .int .i64 0] [(0, .agg ⟨[b, k, d]⟩)] = some [b, k, d, .int .i64 0, .int .i64 0] := by
  rw [lfill_agg (o := 0) (n := 3) (g := true) (by kernel_rfl) rfl (by decide)]
  exact lfill_nil (by kernel_rfl)
theorem settings_cl (hs : s.length ≤ 300000) (hm : MaxL H) (h10 : Tab10 H) : LC Tryz.prog EJ 34 [str s] H = some (.tuple #[suv (Tg.Sc.setP s), .bool (Tg.Sc.settings s).isSome], H) := by
  rw [set_ok]
  obtain ⟨H1, hH1⟩ : ∃ H1, H1 = H.new ⟨setc false 0 0 0 0, 26, true⟩ := ⟨_, rfl⟩
  have n1 : H1.n = H.n + 1 := by rw [hH1]; rfl
  have b1 : Bs H H1 := by rw [hH1]; exact ⟨rfl, rfl⟩
  have le1 : H.le H1 := by rw [hH1]; exact le_refl.new
  have hsp := split_c (H := H1) 32 (s := s) (by omega) (hm.bs b1)
  have hwl := getD_len hs
  have hsu := fun (G : LH) (hG : Bs H G) => setup_cl (H := G) (c := Tg.Sc.setP s) (h10.bs hG)
  have hep : Tg.Sc.setP s = (let w := fun i => (Tg.Sc.cutAt 32 s).getD i []
    ⟨decide (w 1 = Tg.Sc.kwLegacy), Tg.Sc.numP (w 2), Tg.Sc.numP (w 3), Tg.Sc.numP (w 4), Tg.Sc.numP (w 5)⟩) := rfl
  generalize hst : (if Tg.Sc.fineS (Tg.Sc.setP s) = true then Tg.Sc.setupT (Tg.Sc.setP s) else []) = st at *
  generalize hws : Tg.Sc.cutAt 32 s = ws at *
  generalize Tg.Sc.setP s = ep at *
  obtain ⟨w, hw⟩ : ∃ w : Nat → List UInt8, w = fun i => ws.getD i [] := ⟨_, rfl⟩
  have wa : ∀ {G : LH} {pr i : Nat}, Rd G pr (ws.drop i) → ∃ H', LC Tryz.prog EJ 55 [ptr pr 0] G = some (str (w i), H') ∧ Rd H' pr (ws.drop (i + 1)) ∧ But pr G H' := fun {G pr i} h => by rw [hw]; exact word_at h
  have na : ∀ {G : LH} {pr i : Nat}, Rd G pr (ws.drop i) → ∃ H', LC Tryz.prog EJ 56 [ptr pr 0] G = some (.int .i64 (Tg.Sc.numP (w i) : Nat), H') ∧ Rd H' pr (ws.drop (i + 1)) ∧ But pr G H' := fun {G pr i} h => by rw [hw]; exact num_at h (hwl i)
  have hwi : ∀ i, ws.getD i [] = w i := fun i => by rw [hw]
  simp only [hwi] at hep
  clear hw hwi hst
  subst hep
  obtain ⟨H2, hH2⟩ : ∃ H2, H2 = H1.new ⟨ws.map str, 9, true⟩ := ⟨_, rfl⟩
  have n2 : H2.n = H.n + 1 + 1 := by rw [hH2, n_new, n1]
  have g2 : H2.get (H.n + 1) = some ⟨ws.map str, 9, true⟩ := by rw [hH2, ← n1]; exact get_new
  obtain ⟨H3, hH3⟩ : ∃ H3, H3 = H2.new ⟨[.slice (some ⟨H.n + 1, 0, none⟩) ws.length ws.length], 93, true⟩ := ⟨_, rfl⟩
  have n3 : H3.n = H.n + 1 + 1 + 1 := by rw [hH3, n_new, n2]
  have r3 : Rd H3 (H.n + 1 + 1) (ws.drop 0) := by
    refine ⟨_, by rw [hH3, ← n2]; exact get_new, by omega, .inr ⟨H.n + 1, 0, ws.length, _, rfl, by rw [hH3, get_new_ne (by omega)]; exact g2, by omega, ?_, Nat.le_refl _⟩⟩
    rw [List.drop_zero, List.take_of_length_le (by simp)]; rfl
  have b3 : Bs H H3 := by rw [hH3, hH2]; exact b1
  have le3 : H.le H3 := by rw [hH3, hH2]; exact le1.new.new
  have g3 : H3.get H.n = some ⟨setc false 0 0 0 0, 26, true⟩ := by rw [hH3, get_new_ne (by omega), hH2, get_new_ne (by omega), hH1]; exact get_new
  rw [← hH2] at hsp
  obtain ⟨H4, e4, r4, u4⟩ := wa r3
  obtain ⟨H5, e5, r5, u5⟩ := wa r4
  obtain ⟨H6, e6, r6, u6⟩ := na r5
  obtain ⟨H7, e7, r7, u7⟩ := na r6
  have u37 := ((u4.trans u5).trans u6).trans u7
  have n7 : H7.n = H.n + 1 + 1 + 1 := by rw [u37.n, n3]
  obtain ⟨bl, hbl⟩ : ∃ bl, bl = decide (w 1 = Tg.Sc.kwLegacy) := ⟨_, rfl⟩
  rw [← hbl] at hsu ⊢
  obtain ⟨H8, hH8⟩ : ∃ H8, H8 = H7.new ⟨setc bl (Tg.Sc.numP (w 2) : Nat) (Tg.Sc.numP (w 3) : Nat) 0 0, 26, true⟩ := ⟨_, rfl⟩
  have n8 : H8.n = H.n + 1 + 1 + 1 + 1 := by rw [hH8, n_new, n7]
  have g8 : H8.get (H.n + 1 + 1 + 1) = some ⟨setc bl (Tg.Sc.numP (w 2) : Nat) (Tg.Sc.numP (w 3) : Nat) 0 0, 26, true⟩ := by rw [hH8, ← n7]; exact get_new
  have r8 : Rd H8 (H.n + 1 + 1) (ws.drop 4) := r7.keep (by omega) (fun j hj => by rw [hH8, get_new_ne (by omega)])
  obtain ⟨H9, e9, r9, u9⟩ := na r8
  obtain ⟨H10, e10, r10, u10⟩ := na r9
  have u80 := u9.trans u10
  have g10 : H10.get (H.n + 1 + 1 + 1) = some ⟨setc bl (Tg.Sc.numP (w 2) : Nat) (Tg.Sc.numP (w 3) : Nat) 0 0, 26, true⟩ := by rw [u80.old _ (by omega) (by omega)]; exact g8
  have o10 : ∀ j, j < H.n + 1 → H10.get j = H3.get j := fun j hj => by
    rw [u80.old j (by omega) (by omega), hH8, get_new_ne (by omega), u37.old j (by omega) (by omega)]
  have g10' := (o10 H.n (by omega)).trans g3
  have b10 : Bs H H10 := (b3.trans u37.bs).trans (Bs.trans (H1 := H8) (by rw [hH8]; exact ⟨rfl, rfl⟩) u80.bs)
  obtain ⟨Hf, hHf⟩ : ∃ Hf, Hf = H10.set (H.n + 1 + 1 + 1) ⟨setc bl (Tg.Sc.numP (w 2) : Nat) (Tg.Sc.numP (w 3) : Nat) (Tg.Sc.numP (w 4) : Nat) (Tg.Sc.numP (w 5) : Nat), 26, true⟩ := ⟨_, rfl⟩
  have gf : Hf.get (H.n + 1 + 1 + 1) = some ⟨setc bl (Tg.Sc.numP (w 2) : Nat) (Tg.Sc.numP (w 3) : Nat) (Tg.Sc.numP (w 4) : Nat) (Tg.Sc.numP (w 5) : Nat), 26, true⟩ := by rw [hHf]; exact get_set
  have gf' : Hf.get H.n = some ⟨setc false 0 0 0 0, 26, true⟩ := by rw [hHf, get_set_ne (by omega)]; exact g10'
  have bf : Bs H Hf := by rw [hHf]; exact b10
  have lef : H.le Hf := ⟨by rw [hHf]; show H.n ≤ H10.n; rw [u80.n]; omega, fun j hj => by rw [hHf, get_set_ne (by omega), o10 j (by omega), le3.2 j hj]⟩
  have hs2 := hsu Hf bf
  have d1 := eq_false (show ¬ H.n = H.n + 1 + 1 + 1 by omega)
  refine LC_pure rfl Tryz.func34 rfl (Nat.le_of_ble_eq_true rfl) (by decide) (by kernel_rfl) rfl ?_
  have hbd : w 1 = [108, 101, 103, 97, 99, 121] ↔ bl = true := by rw [hbl, decide_eq_true_eq]; rfl
  by_cases hb0 : s = []
  · have q0 := eq_true hb0
    cases bl with
    | true =>
      have qb := eq_true (hbd.mpr rfl)
      simp [set_fill, ← hH1, hsp, ← hH3, n1, n2, n3, e4, e5, e6, e7, n7, ← hH8, e9, e10, g8, g10, ← hHf, gf, gf', d1, q0, qb]
      exact lef
    | false =>
      have qb := eq_false (fun h => absurd (hbd.mp h) (by decide))
      simp [set_fill, ← hH1, hsp, ← hH3, n1, n2, n3, e4, e5, e6, e7, n7, ← hH8, e9, e10, g8, g10, ← hHf, gf, gf', d1, q0, qb]
      exact lef
  · have q0 := eq_false hb0
    cases bl with
    | true =>
      have qb := eq_true (hbd.mpr rfl)
      simp [set_fill, ← hH1, hsp, ← hH3, n1, n2, n3, e4, e5, e6, e7, n7, ← hH8, e9, e10, g8, g10, ← hHf, gf, gf', d1, q0, qb, hs2]
      exact lef
    | false =>
      have qb := eq_false (fun h => absurd (hbd.mp h) (by decide))
      simp [set_fill, ← hH1, hsp, ← hH3, n1, n2, n3, e4, e5, e6, e7, n7, ← hH8, e9, e10, g8, g10, ← hHf, gf, gf', d1, q0, qb, hs2]
      exact lef
end
end Go.Proofs.YthgcgjpbhbikaaaGreatDoor.Sc
/-
  Layer 40 (script): a text read, by the code.
-/
set_option linter.unusedSimpArgs false
set_option linter.unusedVariables false
set_option maxRecDepth 100000
namespace Go.Proofs.YthgcgjpbhbikaaaGreatDoor.Sc
open Go.Lg Go.Tg
abbrev evl (e : Tg.Sc.Ev) (p : Value) : List Value := [.int .i64 e.kind, .int .i64 e.id, str e.url, str e.src, str e.mode, .int .i64 e.media, .int .i64 e.status, p, str e.body]
def ecells (L : List (Tg.Sc.Ev × Value)) : List Value := L.flatMap fun x => evl x.1 x.2
theorem ecells_len : ∀ L, (ecells L).length = L.length * 9
  | [] => rfl
  | x :: L => by
    unfold ecells
    rw [List.flatMap_cons, List.length_append]
    have := ecells_len L
    unfold ecells at this
    simp only [List.length_cons, List.length_nil] at this ⊢
    omega
theorem ecells_app (a b : List (Tg.Sc.Ev × Value)) : ecells (a ++ b) = ecells a ++ ecells b := List.flatMap_append
theorem ecells_at : ∀ {L : List (Tg.Sc.Ev × Value)} {i : Nat} (h : i < L.length) (r : List Value), ((ecells L ++ r).drop (i * 9)).take 9 = evl L[i].1 L[i].2
  | [], i, h, _ => by simp at h
  | x :: L, 0, h, r => by
    show ((evl x.1 x.2 ++ ecells L ++ r).drop 0).take 9 = _
    simp
  | x :: L, i + 1, h, r => by
    have ih := ecells_at (L := L) (i := i) (by simpa using h) r
    show ((evl x.1 x.2 ++ ecells L ++ r).drop ((i + 1) * 9)).take 9 = _
    rw [List.append_assoc, show (i + 1) * 9 = 9 + i * 9 by omega, ← List.drop_drop]
    exact ih
/-- a row of events of our own -/
def ERow (N : Nat) (H : LH) (v : Value) (l : List Tg.Sc.Ev) : Prop :=
  ∃ L : List (Tg.Sc.Ev × Value), L.map Prod.fst = l ∧ RowN N H 36 9 v L.length (ecells L) ∧ ∀ x ∈ L, HOwn 0 H x.2 x.1.hdrs
section
variable {H H' : LH} {s : List UInt8} {v p : Value} {l : List Tg.Sc.Ev} {e : Tg.Sc.Ev} {N : Nat}
theorem hown_at {hs : List Tg.Hd.Hdr} (h : HOwn N H p hs) {k : Nat} (hk : ¬ offRow p k) : ∃ b, H.get k = some b ∧ b.elem = 78 := by
  rcases h.2 with ⟨rfl, _⟩ | ⟨j, c, rest, rfl, g1, g2, g3, g4, g5⟩
  · exact absurd off_nil hk
  · by_cases e : j = k
    · subst e; exact ⟨_, g3, rfl⟩
    · exfalso
      refine hk (fun n c h => ?_)
      injection h with h
      injection h with h
      injection h with h
      exact e h
theorem ERow.nil : ERow N H (.slice none 0 0) [] := ⟨[], rfl, RowN.nil, fun x hx => by cases hx⟩
theorem ERow.keep (h : ERow N H v l) (hn : H.n ≤ H'.n) (hk : ∀ k, k < H.n → H'.get k = H.get k) : ERow N H' v l := by
  obtain ⟨L, h1, h2, h3⟩ := h
  exact ⟨L, h1, h2.keep hn (fun k _ _ h => hk k h), fun x hx => (h3 x hx).keep hn (fun k _ _ h => hk k h)⟩
theorem ERow.len (h : ERow N H v l) : lbuiltin Tryz.prog .len [27] [v] H' = some (.int .i64 l.length, H') := by
  obtain ⟨L, rfl, h2, _⟩ := h
  rw [List.length_map]
  exact RowN.len h2 Tryz.underlying27
theorem ERow.cell (h : ERow N H v l) : cellB v = true := by
  obtain ⟨L, _, h2, _⟩ := h
  exact h2.cell
theorem ERow.slice (h : ERow N H v l) : ∃ a n c, v = .slice a n c := by
  obtain ⟨L, _, h2, _⟩ := h
  rcases h2.2 with ⟨rfl, _⟩ | ⟨k, c, rest, rfl, _⟩
  · exact ⟨_, _, _, rfl⟩
  · exact ⟨_, _, _, rfl⟩
theorem ERow.weak {N' : Nat} (h : ERow N H v l) (hn : N' ≤ N) : ERow N' H v l := by
  obtain ⟨L, h1, h2, h3⟩ := h
  refine ⟨L, h1, ⟨h2.1, ?_⟩, h3⟩
  rcases h2.2 with h4 | ⟨k, c, rest, e, g1, g⟩
  · exact .inl h4
  · exact .inr ⟨k, c, rest, e, by omega, g⟩
theorem ERow.set {j : Nat} {b b2 : LB} (h : ERow N H v l) (hj : j < N) (hg : H.get j = some b) (hne : b.elem ≠ 78) : ERow N (H.set j b2) v l := by
  obtain ⟨L, h1, h2, h3⟩ := h
  have hx : ∀ k, k ≠ j → (H.set j b2).get k = H.get k := fun k hk => get_set_ne hk
  refine ⟨L, h1, h2.keep (Nat.le_refl _) (fun k hk _ _ => hx k (by omega)), fun x hxm => (h3 x hxm).keep (Nat.le_refl _) (fun k _ hno _ => hx k (fun e => ?_))⟩
  subst e
  obtain ⟨b', q1, q2⟩ := hown_at (h3 x hxm) hno
  rw [hg] at q1
  injection q1 with q1
  subst q1
  exact hne q2
theorem ERow.at (h : ERow N H v l) {i : Nat} (hi : i < l.length) : ∃ k o p, (∀ H' : LH, lixa Tryz.prog 27 v (.int .i64 i) H' = some (ptr k o, H')) ∧ k < H.n ∧ HOwn 0 H p l[i].hdrs ∧ ∀ H' : LH, H'.get k = H.get k →
    lld Tryz.prog 36 (ptr k o) H' = some (evv l[i] p) ∧ lld Tryz.prog 9 (ptr k (o + 8)) H' = some (str l[i].body) := by
  obtain ⟨L, rfl, h2, h3⟩ := h
  have hi' : i < L.length := by simpa using hi
  rcases h2.2 with ⟨rfl, h0⟩ | ⟨k, c, rest, rfl, g1, g2, g3, g4, g5⟩
  · omega
  · refine ⟨k, i * 9, L[i].2, fun H' => ?_, g2, ?_, fun H' e => ?_⟩
    · have q := eq_true (show (i : Int) < (L.length : Int) by omega)
      simp [q]
    · rw [List.getElem_map]
      exact h3 _ (List.getElem_mem hi')
    · rw [g3] at e
      have hat := ecells_at hi' rest
      have hle : i * 9 + 9 ≤ (ecells L ++ rest).length := by rw [List.length_append, ecells_len]; have := Nat.mul_le_mul_right 9 (show i + 1 ≤ L.length by omega); omega
      have hc8 : (ecells L ++ rest)[i * 9 + 8]? = some (str L[i].1.body) := by
        have := congrArg (fun z => z[8]?) hat
        simpa [List.getElem?_take, List.getElem?_drop] using this
      rw [List.getElem_map]
      constructor
      · rw [lld_ptr e, show aggB Tryz.prog 36 = some true by kernel_rfl, show sz Tryz.prog 36 = some 9 by kernel_rfl]
        rw [lldb_agg hle, hat]
      · rw [lld_ptr e, show aggB Tryz.prog 9 = some false by kernel_rfl, lldb_cell]
        exact hc8
theorem bs1e : lbuildSlice Tryz.prog 27 1 [(0, .agg ⟨evl e p⟩)] H = some (sl H.n 1 1, H.new ⟨evl e p, 36, true⟩) := by
  unfold lbuildSlice
  simp [Instr.fill, Value.cells, Array.range]
  rfl
theorem evl_cells (hp : cellB p = true) : (evl e p).all cellB = true := by simp [hp]
/-- an event more -/
theorem e_app (h : ERow N H v l) (hN : N ≤ H.n) (hl : l.length ≤ 100000) (hp : HOwn 0 H p e.hdrs) :
    ∃ v' H2, lapp Tryz.prog 27 v (some (1, evl e p)) (H.new ⟨evl e p, 36, true⟩) = some (v', H2) ∧ ERow N H2 v' (l ++ [e]) ∧ H.n < H2.n ∧ ∀ k, k < N → H2.get k = H.get k := by
  obtain ⟨L, rfl, h2, h3⟩ := h
  have hH : RowN N (H.new ⟨evl e p, 36, true⟩) 36 9 v L.length (ecells L) := h2.keep (Nat.le_succ _) (fun k _ _ hk => get_new_ne (by omega))
  obtain ⟨v', H2, ha, hr, hk, hf⟩ := RowN.app (P := Tryz.prog) (t := 27) (new := evl e p) (m := 1) hH Tryz.underlying27 (by kernel_rfl) (evl_cells hp.cell) (by simp) (by unfold maxElems; simp at hl; omega) (by rw [n_new]; omega) (.inl (Nat.le_refl 1))
  have hkp : ∀ {q : Value} {hs : List Tg.Hd.Hdr}, HOwn 0 H q hs → HOwn 0 H2 q hs := fun {q hs} hq => hq.keep (by have := hk.le; rw [n_new] at this; omega) (fun k _ hno hkn => by
    obtain ⟨b, g1, g2⟩ := hown_at hq hno
    rw [hk.get k (by rw [n_new]; omega) (RowN.off_of_elem h2 g1 (by rw [g2]; decide)), get_new_ne (by omega)])
  refine ⟨v', H2, ha, ⟨L ++ [(e, p)], by simp, ?_, fun x hx => ?_⟩, by have := hk.le; rw [n_new] at this; omega, fun k hkn => ?_⟩
  · have e1 : ecells (L ++ [(e, p)]) = ecells L ++ evl e p := by rw [ecells_app]; rfl
    rw [List.length_append, e1]; exact hr
  · rcases List.mem_append.mp hx with hx | hx
    · exact hkp (h3 x hx)
    · simp only [List.mem_cons, List.not_mem_nil, or_false] at hx
      subst hx
      exact hkp hp
  · rw [hk.get k (by rw [n_new]; omega) (h2.off_lt hkn), get_new_ne (by omega)]
theorem evs_nil : Tg.Sc.evs [] = ([], none) := by unfold Tg.Sc.evs; rfl
theorem evs_none {a : List UInt8} {b : List (List UInt8)} (h : Tg.Sc.nextP a b = none) : Tg.Sc.evs (a :: b) = ([], some (a :: b)) := by unfold Tg.Sc.evs; rw [h]
theorem evs_some {a : List UInt8} {b : List (List UInt8)} {e : Tg.Sc.Ev} {n : Nat} (h : Tg.Sc.nextP a b = some (e, n)) : Tg.Sc.evs (a :: b) = (e :: (Tg.Sc.evs (b.drop n)).1, (Tg.Sc.evs (b.drop n)).2) := by
  conv => lhs; unfold Tg.Sc.evs
  rw [h]
/-- what a reading hands back -/
def OutR (H : LH) (x : Tg.Sc.Setup × List Tg.Sc.Ev × Int × Int) (r : Value × LH) : Prop :=
  ∃ p, r.1 = .tuple #[suv x.1, p, .int .i64 x.2.2.1, .int .i64 x.2.2.2] ∧ H.le r.2 ∧ ERow H.n r.2 p x.2.1
theorem OutR.trunc {x : Tg.Sc.Setup × List Tg.Sc.Ev × Int × Int} {u : Value} {H' : LH} (h : OutR H x (u, H')) : ∃ H2, Lg.trunc H (u, H') = (u, H2) ∧ OutR H x (u, H2) := by
  rcases trunc_or u H H' with e2 | ⟨e2, hf, _⟩
  · exact ⟨H', e2, h⟩
  · refine ⟨H, e2, ?_⟩
    obtain ⟨p, h1, h2, L, h3, h4, h5⟩ := h
    refine ⟨p, h1, le_refl, ?_⟩
    rcases h4.2 with ⟨rfl, h6⟩ | ⟨k, c, rest, rfl, _⟩
    · have : L = [] := List.eq_nil_of_length_eq_zero h6
      subst this
      rw [← h3]; exact ERow.nil
    · simp only at h1
      rw [h1] at hf
      simp [flatB, flat1B, atomB] at hf
theorem cut_count (s : List UInt8) : (Tg.Sc.cutAt 10 s).length ≤ s.length + 1 := by
  obtain ⟨e1, e2, e3, e4⟩ := Tg.Sc.cut_rows 10 s
  omega
theorem read_ex (hs : s.length ≤ 70000) (hm : MaxL H) (ht : Tab H) (h10 : Tab10 H) : ∃ u, LC Tryz.prog EJ 10 [str s] H = some u ∧ OutR H (Tg.Sc.readP s) u := by
  have key : ∃ u, LC Tryz.prog EJ 10 [str s] H = some (Lg.trunc H u) ∧ OutR H (Tg.Sc.readP s) u := by
    refine LC_runs (P := Tryz.prog) (E := EJ) (f := 10) rfl Tryz.func10 rfl (Nat.le_of_ble_eq_true rfl) (by decide) (by kernel_rfl) ?_
    obtain ⟨H1, hH1⟩ : ∃ H1, H1 = H.new ⟨setc false 0 0 0 0, 26, true⟩ := ⟨_, rfl⟩
    have n1 : H1.n = H.n + 1 := by rw [hH1]; rfl
    have b1 : Bs H H1 := by rw [hH1]; exact ⟨rfl, rfl⟩
    have le1 : H.le H1 := by rw [hH1]; exact le_refl.new
    have g1 : H1.get H.n = some ⟨setc false 0 0 0 0, 26, true⟩ := by rw [hH1]; exact get_new
    have hsp := split_c (H := H1) 10 (s := s) (by omega) (hm.bs b1)
    have hcc := cut_count s
    have hcl := Tg.Sc.cut_len 10 s
    have hcn := Tg.Sc.cut_ne 10 s
    have hst : Tg.Sc.readP s = Tg.Sc.readL (Tg.Sc.cutAt 10 s) := by
      unfold Tg.Sc.readP
      rw [if_neg (by omega)]
    rw [hst]
    clear hst
    generalize Tg.Sc.cutAt 10 s = al at *
    obtain ⟨H2, hH2⟩ : ∃ H2, H2 = H1.new ⟨al.map str, 9, true⟩ := ⟨_, rfl⟩
    have n2 : H2.n = H.n + 1 + 1 := by rw [hH2, n_new, n1]
    have g2 : H2.get H.n = some ⟨setc false 0 0 0 0, 26, true⟩ := by rw [hH2, get_new_ne (by omega)]; exact g1
    have le2 : H.le H2 := by rw [hH2]; exact le1.new
    have b2 : Bs H H2 := by rw [hH2]; exact b1
    rw [← hH2, n1] at hsp
    have hrow : TRow H2 (sl (H.n + 1) al.length al.length) al := by
      rw [hH2, ← n1]; exact TRow.new (Nat.le_refl _)
    have hpos : 0 < al.length := List.length_pos_iff.mpr hcn
    obtain ⟨kl, ol, l1, _, l3⟩ := hrow.at (i := al.length - 1) (by omega)
    have l4 := l3 H2 rfl
    have hlast : al[al.length - 1]'(by omega) = al.getLast?.getD [] := by
      rw [List.getLast?_eq_getElem?, List.getElem?_eq_getElem (by omega)]; rfl
    rw [hlast] at l4
    have hwl : IntKind.i64.wrap ((al.length : Int) - 1) = ((al.length - 1 : Nat) : Int) := by rw [wrapI (by omega) (by omega)]; omega
    obtain ⟨v1, hp1, hv1⟩ := hrow.part (a := none) (b := some (.int .i64 ((al.length - 1 : Nat) : Int))) (p := 0) (q := al.length - 1) rfl (by
      show (if (0 : Int) ≤ ((al.length - 1 : Nat) : Int) then some (((al.length - 1 : Nat) : Int)).toNat else none) = some (al.length - 1)
      rw [if_pos (by omega)]; congr 1) (by omega) (by omega)
    rw [List.drop_zero, ← List.dropLast_eq_take] at hv1
    have qbig := eq_false (show ¬ (4194304 : Int) < (s.length : Int) by omega)
    have hdn : al.dropLast.length = al.length - 1 := List.length_dropLast
    have hdm : ∀ x ∈ al.dropLast, x.length ≤ s.length := fun x hx => hcl x (List.dropLast_subset _ hx)
    unfold Tg.Sc.readL
    generalize hrest : al.getLast?.getD [] = rest at *
    generalize hdl : al.dropLast = dl at *
    have hvl := fun G : LH => hv1.len (H' := G)
    have fin : ∀ (G : LH) (x : Tg.Sc.Setup × List Tg.Sc.Ev × Int × Int) (b : LB), x.2.1 = [] → H.le G → OutR H x (.tuple #[suv x.1, .slice none 0 0, .int .i64 x.2.2.1, .int .i64 x.2.2.2], G.set H.n b) := fun G x b h1 h2 => ⟨_, rfl, (le_set_iff (Nat.le_refl _)).2 h2, by rw [h1]; exact ERow.nil⟩
    cases dl with
    | nil =>
      simp at hvl
      simp [qbig, ← hH1, hsp, l1, l4, hwl, hp1, hvl, g2]
      exact fin H2 (Tg.Sc.set0, [], 1, 2) _ rfl le2
    | cons s0 r =>
      simp only [List.length_cons] at hvl hdn
      have hs0 := hdm s0 (by simp)
      obtain ⟨k0, o0, m1, _, m3⟩ := hv1.at (i := 0) (by simp)
      have m4 := m3 H2 rfl
      simp only [List.getElem_cons_zero] at m4
      have m1 : ∀ G : LH, lixa Tryz.prog 40 v1 (.int .i64 0) G = some (ptr k0 o0, G) := m1
      have hse := settings_cl (H := H2) (s := s0) (by omega) (hm.bs b2) (h10.bs b2)
      have hsd : ∀ c, Tg.Sc.settings s0 = some c → c = Tg.Sc.setP s0 := fun c h => by
        unfold Tg.Sc.settings at h
        split at h
        · injection h with h; exact h.symm
        · cases h
      have qz := eq_false (show ¬ (r.length : Int) + 1 = 0 by omega)
      simp only
      generalize hc0 : Tg.Sc.setP s0 = c0 at *
      obtain ⟨H3, hH3⟩ : ∃ H3, H3 = H2.new ⟨setc c0.legacy c0.look c0.depth c0.table c0.valid, 26, true⟩ := ⟨_, rfl⟩
      have n3 : H3.n = H.n + 1 + 1 + 1 := by rw [hH3, n_new, n2]
      have le3 : H.le H3 := by rw [hH3]; exact le2.new
      have b3 : Bs H H3 := by rw [hH3]; exact b2
      have g3 : H3.get H.n = some ⟨setc false 0 0 0 0, 26, true⟩ := by rw [hH3, get_new_ne (by omega)]; exact g2
      have g3' : H3.get (H.n + 1 + 1) = some ⟨setc c0.legacy c0.look c0.depth c0.table c0.valid, 26, true⟩ := by rw [hH3, ← n2]; exact get_new
      cases hso : Tg.Sc.settings s0 with
      | none =>
        rw [hso] at hse
        simp only [Option.isSome_none] at hse
        simp only
        simp [qbig, ← hH1, hsp, l1, l4, hwl, hp1, hvl, m1, m4, hse, n2, ← hH3, g3, qz]
        exact fin H3 (Tg.Sc.set0, [], 1, 2) _ rfl le3
      | some c =>
        have hcc0 := hsd c hso
        rw [hso] at hse
        simp only [Option.isSome_some] at hse
        simp only
        rw [hcc0]
        clear hcc0 hsd hso
        simp [qbig, ← hH1, hsp, l1, l4, hwl, hp1, hvl, m1, m4, hse, n2, ← hH3, g3, qz]
        have hlr : (s0 :: r).length ≤ 70001 := by rw [List.length_cons]; omega
        refine loop_ind (fun (a : Nat) fr' H' => ∃ w acc, fr' 2 = ptr H.n 0 ∧ fr' 6 = v1 ∧ fr' 7 = str rest ∧ fr' 8 = ptr (H.n + 1 + 1) 0 ∧ fr' 10 = w ∧ fr' 11 = .int .i64 a ∧ 1 ≤ a ∧ a ≤ r.length + 1 ∧ ERow (H.n + 1 + 1 + 1) H' w acc ∧ Tg.Sc.evs r = (acc ++ (Tg.Sc.evs ((s0 :: r).drop a)).1, (Tg.Sc.evs ((s0 :: r).drop a)).2) ∧ acc.length ≤ a ∧ H.n + 1 + 1 + 1 ≤ H'.n ∧ (∀ k, k < H.n + 1 + 1 + 1 → H'.get k = H3.get k) ∧ Bs H H') (fun a => r.length + 1 - a) 1 ⟨.slice none 0 0, [], by simp, by simp, by simp, by simp, by simp, by simp, Nat.le_refl _, by omega, ERow.nil, by simp, by simp, by omega, fun k hk => rfl, b3⟩ ?_
        rintro a fr' H' ⟨w, acc, f2, f6, f7, f8, f10, f11, ha1, ha2, hrw, hev, hal, hn, hk, hb⟩ ih
        subst f10
        have hv' : TRow H' v1 (s0 :: r) := hv1.keep (by omega) (fun k hk2 => by rw [hk k (by omega), hH3, get_new_ne (by omega)])
        have gz : H'.get H.n = some ⟨setc false 0 0 0 0, 26, true⟩ := by rw [hk _ (by omega)]; exact g3
        have gc : H'.get (H.n + 1 + 1) = some ⟨setc c0.legacy c0.look c0.depth c0.table c0.valid, 26, true⟩ := by rw [hk _ (by omega)]; exact g3'
        have leH : H.le H' := ⟨by omega, fun k hk2 => by rw [hk k (by omega)]; exact le3.2 k hk2⟩
        by_cases hlt : a < r.length + 1
        · have q := eq_true (show (a : Int) < (r.length : Int) + 1 by omega)
          have qle := eq_true (show (a : Int) ≤ (r.length : Int) + 1 by omega)
          obtain ⟨v2, hp2, hv2⟩ := hv'.part (a := some (.int .i64 (a : Int))) (b := none) (p := a) (q := r.length + 1) (by
            show (if (0 : Int) ≤ (a : Int) then some (a : Int).toNat else none) = some a
            rw [if_pos (by omega)]; congr 1) rfl (by omega) (by simp)
          rw [List.take_of_length_le (by simp)] at hv2
          have hdr : (s0 :: r).drop a = (s0 :: r)[a]'(by simpa using hlt) :: (s0 :: r).drop (a + 1) := List.drop_eq_getElem_cons (by simpa using hlt)
          have hmem : ∀ x ∈ (s0 :: r).drop a, x.length ≤ 300000 := fun x hx => by
            have := hdm x (List.mem_of_mem_drop hx)
            omega
          have hrl : ((s0 :: r).drop (a + 1)).length ≤ 80000 := by rw [List.length_drop]; omega
          have hrl2 : ((s0 :: r).drop (a + 1)).length = r.length + 1 - (a + 1) := by rw [List.length_drop]; rfl
          have hdd : ∀ k, ((s0 :: r).drop (a + 1)).drop k = (s0 :: r).drop (a + (k + 1)) := fun k => by rw [List.drop_drop]; congr 1; omega
          rw [hdr] at hv2 hmem
          rw [hdr] at hev
          generalize (s0 :: r)[a]'(by simpa using hlt) = s1 at *
          generalize hr1 : (s0 :: r).drop (a + 1) = r1 at *
          obtain ⟨⟨u, H4⟩, e4, o4⟩ := next_ex hv2 hmem hrl (hm.bs hb) (ht.bs hb) (h10.bs hb)
          have hb4 : Bs H' H4 := ext_bs e4
          obtain ⟨e, p, n, ok, hu, hcp, hle4, hx⟩ := o4
          simp only at hu hle4 hx
          subst hu
          have hw1 : ∀ x : Nat, x ≤ 100000 → IntKind.i64.wrap ((a : Int) + ((x : Int) + 1)) = ((a + (x + 1) : Nat) : Int) := fun x hx => by rw [wrapI (by omega) (by omega)]; omega
          have hwa : IntKind.i64.wrap ((a : Int) + 1) = (a : Int) + 1 := wrapI (by omega) (by omega)
          obtain ⟨H5, hH5⟩ : ∃ H5, H5 = H4.new ⟨evl e p, 36, true⟩ := ⟨_, rfl⟩
          have n5 : H5.n = H4.n + 1 := by rw [hH5]; rfl
          have g5 : H5.get H4.n = some ⟨evl e p, 36, true⟩ := by rw [hH5]; exact get_new
          have k5 : ∀ k, k < H'.n → H5.get k = H'.get k := fun k hk2 => by rw [hH5, get_new_ne (by have := hle4.1; omega), hle4.2 k hk2]
          have z5 : H5.get H.n = some ⟨setc false 0 0 0 0, 26, true⟩ := by rw [k5 _ (by omega)]; exact gz
          have le5 : H.le H5 := ⟨by have := hle4.1; omega, fun k hk2 => by rw [k5 k (by omega)]; exact leH.2 k hk2⟩
          cases hnx : Tg.Sc.nextP s1 r1 with
          | none =>
            rw [hnx] at hx
            simp only at hx
            subst hx
            rw [evs_none hnx] at hev
            rw [hev]
            simp [f2, f6, f7, f8, f11, q, qle, hvl, hp2, e4, hcp, ← hH5, g5, z5, hwa]
            have e1 : ((r.length - (r1.length + 1) : Nat) : Int) + 2 = (a : Int) + 1 := by omega
            rw [e1]
            exact fin H5 (Tg.Sc.set0, [], (a : Int) + 1, 2) ⟨setc false 0 0 0 0, 26, true⟩ rfl le5
          | some y =>
            obtain ⟨e', k⟩ := y
            rw [hnx] at hx
            obtain ⟨rfl, rfl, rfl, hown⟩ := hx
            obtain ⟨hkl, hgd, hsh, _⟩ := Tg.Sc.next_some hnx
            rw [evs_some hnx, hdd] at hev
            have hown5 : HOwn 0 H5 p e.hdrs := (hown_weak hown (Nat.zero_le _)).keep (by omega) (fun j _ _ hj => by rw [hH5, get_new_ne (by omega)])
            have hrw5 : ERow (H.n + 1 + 1 + 1) H5 (fr' 10) acc := hrw.keep (by have := hle4.1; omega) k5
            obtain ⟨w2, H6, d1, d2, d3, d4⟩ := e_app hrw5 (by have := hle4.1; omega) (by omega) hown5
            have hb6 : Bs H H6 := (hb.trans hb4).trans ((Bs.trans (H1 := H5) (by rw [hH5]; exact ⟨rfl, rfl⟩) (Bs.trans (H1 := H5.new _) ⟨rfl, rfl⟩ (lapp_bs d1))))
            have hfin := fun fr2 (f2 : fr2 2 = ptr H.n 0) (f6 : fr2 6 = v1) (f7 : fr2 7 = str rest) (f8 : fr2 8 = ptr (H.n + 1 + 1) 0) (f10 : fr2 10 = w2) (f11 : fr2 11 = .int .i64 ((a + (k + 1) : Nat) : Int)) => ih (a + (k + 1)) fr2 H6 (by omega) ⟨w2, acc ++ [e], f2, f6, f7, f8, f10, f11, by omega, by omega, d2, by rw [hev]; simp, by rw [List.length_append]; simp; omega, by have := hle4.1; omega, fun j hj => by rw [d4 j hj, k5 j (by omega), hk j hj], hb6⟩
            have hwk := hw1 k (by omega)
            clear ih hrw hrw5 d2 hev
            simp [f2, f6, f7, f8, f11, q, qle, hvl, hp2, e4, hcp, ← hH5, g5, z5, hwa, bs1e, d1]
            refine hfin _ ?_ ?_ ?_ ?_ ?_ ?_
            all_goals simp [f2, f6, f7, f8, hwk]
        · have ha : a = r.length + 1 := by omega
          subst ha
          have q := eq_false (show ¬ (r.length : Int) + 1 < (r.length : Int) + 1 by omega)
          rw [List.drop_of_length_le (by simp), evs_nil, List.append_nil] at hev
          rw [hev]
          have hlen := fun G : LH => hrw.len (H' := G)
          by_cases hr0 : rest = []
          · have q0 := eq_true hr0
            by_cases hbig : 5000 < acc.length
            · have q1 := eq_true (show (5000 : Int) < (acc.length : Int) by omega)
              simp [f2, f6, f7, f8, f11, q, hvl, q0, q1, hlen, gz, hbig]
              exact fin H' (Tg.Sc.set0, [], 0, 6) ⟨setc false 0 0 0 0, 26, true⟩ rfl leH
            · have q1 := eq_false (show ¬ (5000 : Int) < (acc.length : Int) by omega)
              simp [f2, f6, f7, f8, f11, q, hvl, q0, q1, hlen, gz, gc, hbig]
              exact ⟨fr' 10, rfl, (le_set_iff (Nat.le_refl _)).2 leH, (hrw.set (by omega) gz (by decide)).weak (by omega)⟩
          · have q0 := eq_false hr0
            have hwa : IntKind.i64.wrap ((r.length : Int) + 1 + 1) = (r.length : Int) + 2 := by rw [wrapI (by omega) (by omega)]; omega
            simp [f2, f6, f7, f8, f11, q, hvl, q0, gz, hwa]
            exact fin H' (Tg.Sc.set0, [], (r.length : Int) + 2, 2) ⟨setc false 0 0 0 0, 26, true⟩ rfl leH
  obtain ⟨⟨u, H'⟩, e, ho⟩ := key
  obtain ⟨H2, e2, ho2⟩ := ho.trunc
  exact ⟨(u, H2), by rw [e, e2], ho2⟩
end
end Go.Proofs.YthgcgjpbhbikaaaGreatDoor.Sc
/-
  Layer 40 (script): the small living call; the reference's signs.
-/
set_option linter.unusedSimpArgs false
set_option linter.unusedVariables false
set_option maxRecDepth 100000
namespace Go.Proofs.YthgcgjpbhbikaaaGreatDoor.Sc
open Go.Lg Go.Tg
def livesT : List UInt8 := [115, 101, 116, 117, 112, 32, 111, 114, 98, 32, 49, 52, 52, 53, 32, 57, 32, 50, 32, 50, 10, 99, 104, 117, 110, 107, 32, 49, 32, 120, 92, 50, 48, 121, 10]
def livesE : Tg.Sc.Ev := ⟨3, 1, [], [], [], 0, 0, [], [120, 32, 121]⟩
def livesC : Tg.Sc.Setup := ⟨false, 1445, 9, 2, 2⟩
theorem lives_read : Tg.Sc.readP livesT = (livesC, [livesE], 0, 0) := by
  have h := Tg.Sc.read_print (c := livesC) (l := [livesE]) (by decide +kernel) (by decide +kernel) (by decide +kernel)
  have e : Tg.Sc.printT livesC [livesE] = livesT := by decide +kernel
  rw [e] at h
  exact h
section
variable {H H' : LH} {s : List UInt8} {v p : Value}
theorem lives_cl (hm : MaxL H) (ht : Tab H) (h10 : Tab10 H) : LC Tryz.prog EJ 14 [] H = some (.bool true, H) := by
  refine LC_pure rfl Tryz.func14 rfl (Nat.le_of_ble_eq_true rfl) (by decide) (by kernel_rfl) rfl ?_
  obtain ⟨⟨u, H1⟩, e1, p1, hu, hle, hr⟩ := read_ex (H := H) (s := livesT) (by decide) hm ht h10
  rw [lives_read] at hu hr
  simp only at hu hr hle
  subst hu
  obtain ⟨k, o, q, a1, a2, _, a4⟩ := hr.at (i := 0) (by decide)
  have a5 := (a4 (H1.new ⟨[.bool false, .int .i64 1445, .int .i64 9, .int .i64 2, .int .i64 2], 26, true⟩) (get_new_ne (by omega))).2
  have a1 : ∀ G : LH, lixa Tryz.prog 27 p1 (.int .i64 0) G = some (ptr k o, G) := a1
  have hl := fun G : LH => hr.len (H' := G)
  have e1 : LC Tryz.prog EJ 10 [str [115, 101, 116, 117, 112, 32, 111, 114, 98, 32, 49, 52, 52, 53, 32, 57, 32, 50, 32, 50, 10, 99, 104, 117, 110, 107, 32, 49, 32, 120, 92, 50, 48, 121, 10]] H = some (.tuple #[suv livesC, p1, .int .i64 0, .int .i64 0], H1) := e1
  have e5 : [livesE][0].body = [120, 32, 121] := rfl
  have hl : ∀ G : LH, lbuiltin Tryz.prog .len [27] [p1] G = some (.int .i64 1, G) := hl
  rw [e5] at a5
  simp [e1, livesC, hl, a1, a5]
  exact hle.new
/-- the reference's signs -/
def rsign (s : List UInt8) (b : UInt8) : List UInt8 := if s = [45] then Tg.Sc.mark b else Tg.Sc.sign b
theorem rsign_esc (s : List UInt8) : (if s.flatMap (rsign s) = [] then [45] else s.flatMap (rsign s)) = Tg.Sc.esc s := by
  unfold Tg.Sc.esc
  by_cases h0 : s = []
  · subst h0; rfl
  by_cases h1 : s = [45]
  · subst h1; rfl
  · have e : s.flatMap (rsign s) = s.flatMap Tg.Sc.sign := by
      congr 1; funext b; unfold rsign; rw [if_neg h1]
    rw [e, if_neg h0, if_neg h1, if_neg]
    intro h
    cases s with
    | nil => exact h0 rfl
    | cons x r =>
      rw [List.flatMap_cons] at h
      exact Tg.Sc.sign_ne x (List.append_eq_nil_iff.mp h).1
theorem hexl_part {n : Nat} (h : n < 16) {kd kd' : IntKind} : lpart Tryz.prog 9 (str [48, 49, 50, 51, 52, 53, 54, 55, 56, 57, 97, 98, 99, 100, 101, 102]) (some (.int kd (n : Int))) (some (.int kd' ((n : Int) + 1))) = some (str [Tg.Sc.hd16 n]) := by
  have : ∀ k : Fin 16, (([48, 49, 50, 51, 52, 53, 54, 55, 56, 57, 97, 98, 99, 100, 101, 102] : List UInt8).take (k.1 + 1)).drop k.1 = [Tg.Sc.hd16 k.1] := by decide
  have h2 := this ⟨n, h⟩
  have e : ((n : Int) + 1).toNat = n + 1 := by omega
  rw [lpart_str0 (u := none) (p := n) (q := n + 1) Tryz.underlying9 (by rw [lbd_int (by omega), Int.toNat_natCast]) (by rw [lbd_int (by omega), e]) ⟨by omega, by simp; omega⟩, h2]
theorem part_one {i : Nat} (h : i < s.length) {kd kd' : IntKind} : lpart Tryz.prog 9 (str s) (some (.int kd (i : Int))) (some (.int kd' ((i : Int) + 1))) = some (str [s[i]]) := by
  have e : ((i : Int) + 1).toNat = i + 1 := by omega
  rw [lpart_str0 (u := none) (p := i) (q := i + 1) Tryz.underlying9 (by rw [lbd_int (by omega), Int.toNat_natCast]) (by rw [lbd_int (by omega), e]) ⟨by omega, by omega⟩]
  rw [List.take_succ_eq_append_getElem h, List.drop_append_of_le_length (by rw [List.length_take]; omega), List.drop_of_length_le (by rw [List.length_take]; omega), List.nil_append]
theorem rescape_cl (hs : s.length ≤ 300000) : LC Tryz.prog EJ 17 [str s] H = some (str (Tg.Sc.esc s), H) := by
  refine LC_pure rfl Tryz.func17 rfl (Nat.le_of_ble_eq_true rfl) (by decide) (by kernel_rfl) rfl ?_
  rw [← rsign_esc]
  generalize hR : s.flatMap (rsign s) = R
  simp
  refine loop_ind (fun (i : Nat) fr' H' => ∃ l, fr' 0 = str s ∧ fr' 3 = str l ∧ fr' 4 = str [48, 49, 50, 51, 52, 53, 54, 55, 56, 57, 97, 98, 99, 100, 101, 102] ∧ fr' 5 = .int .i64 i ∧ i ≤ s.length ∧ l ++ (s.drop i).flatMap (rsign s) = R ∧ l.length ≤ 3 * i ∧ H' = H) (fun i => s.length - i) 0 ⟨[], by simp, by simp, by simp, by simp, Nat.zero_le _, by simpa using hR, by simp, rfl⟩ ?_
  rintro i fr' H' ⟨l, f0, f3, f4, f5, hi, hq, hl, rfl⟩ ih
  by_cases hlt : i < s.length
  · have q0 := eq_true (show (i : Int) < (s.length : Int) by omega)
    have hat : at_ s (i : Int) = s[i] := at_in hlt
    have hw1 : IntKind.i64.wrap ((i : Int) + 1) = ((i + 1 : Nat) : Int) := by rw [wrapI (by omega) (by omega)]; omega
    have hd : (s.drop i).flatMap (rsign s) = rsign s s[i] ++ (s.drop (i + 1)).flatMap (rsign s) := by
      rw [List.drop_eq_getElem_cons hlt, List.flatMap_cons]
    rw [hd] at hq
    have hp := part_one hlt (kd := .i64) (kd' := .i64)
    generalize hc : s[i] = c at *
    have hsl : (rsign s c).length ≤ 3 := by unfold rsign Tg.Sc.sign Tg.Sc.mark; split <;> (try split) <;> simp
    have hfin := fun fr2 (g0 : fr2 0 = str s) (g3 : fr2 3 = str (l ++ rsign s c)) (g4 : fr2 4 = str [48, 49, 50, 51, 52, 53, 54, 55, 56, 57, 97, 98, 99, 100, 101, 102]) (g5 : fr2 5 = .int .i64 ((i + 1 : Nat) : Int)) => ih (i + 1) fr2 H' (by omega) ⟨l ++ rsign s c, g0, g3, g4, g5, by omega, by rw [List.append_assoc]; exact hq, by rw [List.length_append]; omega, rfl⟩
    clear ih hq
    obtain ⟨e1, e2, e3, e4⟩ := nib c
    have b1 : (c.toNat : Int).tdiv 16 = ((c.toNat / 16 : Nat) : Int) := by rw [Int.tdiv_eq_ediv_of_nonneg (by omega)]; omega
    have b2 : (c.toNat : Int).tmod 16 = ((c.toNat % 16 : Nat) : Int) := by rw [Int.tmod_eq_emod_of_nonneg (by omega)]; omega
    have hx1 := hexl_part (n := c.toNat / 16) (by omega) (kd := .u8) (kd' := .u8)
    have hx2 := hexl_part (n := c.toNat % 16) (by omega) (kd := .u8) (kd' := .u8)
    have w8 : ∀ n : Nat, n ≤ 16 → IntKind.u8.wrap (n : Int) = (n : Int) := fun n h => by rw [wrap8]; omega
    have w9 : ∀ n : Nat, n < 16 → IntKind.u8.wrap ((n : Int) + 1) = ((n + 1 : Nat) : Int) := fun n h => by rw [wrap8]; omega
    have e5 : c.toNat / 16 < 16 := by omega
    have e6 : c.toNat % 16 < 16 := by omega
    have c1 : ∀ t, lbin Tryz.prog .add t (str l) (str [92]) = some (str (l ++ [92])) := fun t => lbin_cat (by simp; omega)
    have c2 : ∀ t x, lbin Tryz.prog .add t (str (l ++ [92])) (str [x]) = some (str (l ++ [92, x])) := fun t x => by rw [lbin_cat (by simp; omega)]; simp
    have c3 : ∀ t x y, lbin Tryz.prog .add t (str (l ++ [92, x])) (str [y]) = some (str (l ++ [92, x, y])) := fun t x y => by rw [lbin_cat (by simp; omega)]; simp
    have c4 : ∀ t, lbin Tryz.prog .add t (str l) (str [c]) = some (str (l ++ [c])) := fun t => lbin_cat (by simp; omega)
    have hmk : Tg.Sc.mark c = [92, Tg.Sc.hd16 (c.toNat / 16), Tg.Sc.hd16 (c.toNat % 16)] := rfl
    by_cases hodd : Tg.Sc.odd c = true ∨ s = [45]
    · have hr : rsign s c = Tg.Sc.mark c := by
        unfold rsign Tg.Sc.sign
        rcases hodd with h | h
        · rw [if_pos h]; simp
        · rw [if_pos h]
      rw [hr, hmk] at hfin
      generalize c.toNat / 16 = n1 at *
      generalize c.toNat % 16 = n2 at *
      have r1 := eq_true (show (n1 : Int) < 16 by omega)
      have r2 := eq_true (show (n2 : Int) < 16 by omega)
      unfold Tg.Sc.odd at hodd
      by_cases o1 : (c.toNat : Int) < 33
      · simp [f0, f3, f4, f5, q0, hat, hc, o1, b1, b2, w8 _ (Nat.le_of_lt e5), w8 _ (Nat.le_of_lt e6), w9 _ e5, w9 _ e6, hx1, hx2, r1, r2, c1, c2, c3]
        refine hfin _ ?_ ?_ ?_ ?_
        all_goals simp [f0, f3, f4, hw1]
      · have o1 := eq_false o1
        by_cases o2 : (126 : Int) < c.toNat
        · simp [f0, f3, f4, f5, q0, hat, hc, o1, o2, b1, b2, w8 _ (Nat.le_of_lt e5), w8 _ (Nat.le_of_lt e6), w9 _ e5, w9 _ e6, hx1, hx2, r1, r2, c1, c2, c3]
          refine hfin _ ?_ ?_ ?_ ?_
          all_goals simp [f0, f3, f4, hw1]
        · have o2 := eq_false o2
          by_cases o3 : (c.toNat : Int) = 92
          · have o3 := eq_true o3
            simp [f0, f3, f4, f5, q0, hat, hc, o1, o2, o3, b1, b2, w8 _ (Nat.le_of_lt e5), w8 _ (Nat.le_of_lt e6), w9 _ e5, w9 _ e6, hx1, hx2, r1, r2, c1, c2, c3]
            refine hfin _ ?_ ?_ ?_ ?_
            all_goals simp [f0, f3, f4, hw1]
          · have o3 := eq_false o3
            have o4 : (s = [45]) = True := by
              simp only [o1, o2, o3, decide_false, Bool.false_or, Bool.false_eq_true, false_or] at hodd
              exact eq_true hodd
            simp [f0, f3, f4, f5, q0, hat, hc, o1, o2, o3, o4, b1, b2, w8 _ (Nat.le_of_lt e5), w8 _ (Nat.le_of_lt e6), w9 _ e5, w9 _ e6, hx1, hx2, r1, r2, c1, c2, c3]
            refine hfin _ ?_ ?_ ?_ ?_
            all_goals simp [f0, f3, f4, hw1]
    · have h1 : ¬ Tg.Sc.odd c = true := fun h => hodd (.inl h)
      have h2 : ¬ s = [45] := fun h => hodd (.inr h)
      have hr : rsign s c = [c] := by unfold rsign Tg.Sc.sign; rw [if_neg h2, if_neg h1]
      rw [hr] at hfin
      unfold Tg.Sc.odd at h1
      simp only [Bool.not_eq_true, Bool.or_eq_false_iff, decide_eq_false_iff_not] at h1
      obtain ⟨⟨o1, o2⟩, o3⟩ := h1
      have o1 := eq_false o1
      have o2 := eq_false o2
      have o3 := eq_false o3
      have o4 := eq_false h2
      have hi1 := eq_true (show (i : Int) + 1 ≤ (s.length : Int) by omega)
      simp [f0, f3, f4, f5, q0, hat, hc, o1, o2, o3, o4, hw1, hp, c4]
      refine hfin _ ?_ ?_ ?_ ?_
      all_goals simp [f0, f3, f4, hw1]
  · have q0 := eq_false (show ¬ (i : Int) < (s.length : Int) by omega)
    rw [List.drop_of_length_le (by omega), List.flatMap_nil, List.append_nil] at hq
    subst hq
    by_cases hn : l = []
    · simp [f0, f3, f5, q0, hn]
    · simp [f0, f3, f5, q0, hn]
end
end Go.Proofs.YthgcgjpbhbikaaaGreatDoor.Sc
/-
  Layer 26 (url): what the reference's small functions come to.
-/
set_option linter.unusedSimpArgs false
set_option linter.unusedVariables false
set_option maxRecDepth 100000
namespace Tg.Ur
def lowd : List UInt8 := [48, 49, 50, 51, 52, 53, 54, 55, 56, 57, 97, 98, 99, 100, 101, 102]
def hexAt (i : Nat) (b : UInt8) : Prop := lowd.getD i 0 = b ∨ hexd.getD i 0 = b
instance (i b) : Decidable (hexAt i b) := by unfold hexAt; infer_instance
theorem hx_lit : ∀ i : Fin 16, hx (lowd.getD i.1 0) = some i.1 ∧ hx (hexd.getD i.1 0) = some i.1 := by decide
theorem hx_of {i : Nat} {b : UInt8} (hi : i < 16) (h : hexAt i b) : hx b = some i := by
  rcases h with rfl | rfl
  · exact (hx_lit ⟨i, hi⟩).1
  · exact (hx_lit ⟨i, hi⟩).2
theorem hx_allF : ∀ k : Fin 256, match hx (UInt8.ofNat k.1) with | some n => hexAt n (UInt8.ofNat k.1) | Option.none => True := by
  have key : ∀ k : Fin 256, (match hx (UInt8.ofNat k.1) with | some n => decide (hexAt n (UInt8.ofNat k.1)) | Option.none => true) = true := by decide +kernel
  intro k
  have := key k
  split at this
  · simpa using this
  · trivial
theorem hx_none {b : UInt8} (h : ∀ j, j < 16 → ¬ hexAt j b) : hx b = Option.none := by
  have := hx_allF ⟨b.toNat, b.toNat_lt⟩
  simp only [UInt8.ofNat_toNat] at this
  cases hb : hx b with
  | none => rfl
  | some n =>
    rw [hb] at this
    exact absurd this (h n (hx_lt hb))
def hexI (b : UInt8) : Int := match hx b with | some n => (n : Int) | Option.none => -1
end Tg.Ur
namespace Go.Proofs.YthgcgjpbhbikaaaGreatDoor
open Go.Lg Go.Tg
section
variable {H : LH} {b : UInt8} {s p : List UInt8}
theorem tn_ne {c b : UInt8} (h : ¬ c = b) : ((c.toNat : Int) = (b.toNat : Int)) = False := eq_false (fun e => h (UInt8.toNat_inj.mp (by omega)))
theorem rdigit_cl : LC Tryz.prog EJ 118 [.int .u8 b.toNat] H = some (.bool (Tg.Ur.isD b), H) := by
  refine LC_pure rfl Tryz.func118 rfl (Nat.le_of_ble_eq_true rfl) (by decide) (by kernel_rfl) rfl ?_
  unfold Tg.Ur.isD
  by_cases h1 : (48 : Int) ≤ b.toNat <;> by_cases h2 : (b.toNat : Int) ≤ 57 <;> simp [h1, h2]
theorem rhas_cl (hs : s.length ≤ 1048576) : LC Tryz.prog EJ 84 [str s, .int .u8 b.toNat] H = some (.bool (s.contains b), H) := by
  refine LC_pure rfl Tryz.func84 rfl (Nat.le_of_ble_eq_true rfl) (by decide) (by kernel_rfl) rfl ?_
  obtain ⟨x, hx⟩ : ∃ x, x = s.contains b := ⟨_, rfl⟩
  rw [← hx]
  simp
  refine loop_ind (fun (i : Nat) fr' H' => fr' 0 = str s ∧ fr' 1 = .int .u8 b.toNat ∧ fr' 5 = .int .i64 i ∧ i ≤ s.length ∧ x = (s.drop i).contains b ∧ H' = H) (fun i => s.length - i) 0 ⟨by simp, by simp, by simp, Nat.zero_le _, hx, rfl⟩ ?_
  rintro i fr' H' ⟨h0, h1, h5, hi, hc, rfl⟩ ih
  by_cases hlt : i < s.length
  · have q := eq_true (show (i : Int) < (s.length : Int) by omega)
    have hat : at_ s (i : Int) = s[i] := at_in hlt
    have hw : IntKind.i64.wrap ((i : Int) + 1) = ((i + 1 : Nat) : Int) := by rw [wrapI (by omega) (by omega)]; omega
    rw [List.drop_eq_getElem_cons hlt, List.contains_cons] at hc
    generalize s[i] = c at *
    by_cases hcb : c = b
    · subst hcb
      have hc : x = true := by rw [hc]; simp
      subst hc
      simp [h0, h1, h5, q, hat]
    · have hbc : (b == c) = false := by simp; exact fun e => hcb e.symm
      rw [hbc, Bool.false_or] at hc
      have hcb := tn_ne hcb
      simp [h0, h1, h5, q, hat, hcb]
      refine ih (i + 1) _ _ (by omega) ⟨?_, ?_, ?_, by omega, hc, rfl⟩
      all_goals simp [h0, h1, hw]
  · have q := eq_false (show ¬ (i : Int) < (s.length : Int) by omega)
    rw [List.drop_of_length_le (by omega)] at hc
    have hc : x = false := hc
    subst hc
    simp [h0, h1, h5, q]
theorem lowd_at {n : Nat} : at_ [48, 49, 50, 51, 52, 53, 54, 55, 56, 57, 97, 98, 99, 100, 101, 102] (n : Int) = Tg.Ur.lowd.getD n 0 := by
  unfold at_; rw [Int.toNat_natCast]; rfl
end
end Go.Proofs.YthgcgjpbhbikaaaGreatDoor
/-
  Layer 26 (url): what the reference's functions come to: letters, places of bytes, points, names.
-/
set_option linter.unusedSimpArgs false
set_option linter.unusedVariables false
set_option maxRecDepth 100000
namespace Go.Proofs.YthgcgjpbhbikaaaGreatDoor
open Go.Lg Go.Tg
section
variable {H : LH} {b : UInt8} {s p : List UInt8} {u : Tg.Ur.Url}
theorem row_str {N : Nat} {v : Value} {l : List UInt8} (h : RowN N H 5 1 v l.length (l.map bv)) (hv : v ≠ .slice none 0 0) : ∃ k c, v = sl k l.length c ∧ lconv Tryz.prog 59 9 (sl k l.length c) H = some (str l) := by
  rcases h.2 with ⟨e, h0⟩ | ⟨k, c, rest, e, g1, g2, g3, g4, g5⟩
  · exact absurd e hv
  · refine ⟨k, c, e, lconv_bs (e := 5) Tryz.underlying59 Tryz.underlying9 Tryz.underlying5 g3 (by simp) ?_⟩
    have : ((l.map bv ++ rest).drop 0).take l.length = l.map bv := by simp
    rw [this]; exact lbs_map l
theorem byte_app {v : Value} {N : Nat} {l : List UInt8} {x : UInt8} (h : RowN N H 5 1 v l.length (l.map bv)) (hN : N ≤ H.n) (hl : l.length ≤ 1000000) :
    ∃ v' H2, lapp Tryz.prog 59 v (some (1, [.int .u8 x.toNat])) (H.new ⟨[.int .u8 x.toNat], 5, true⟩) = some (v', H2) ∧ RowN N H2 5 1 v' (l ++ [x]).length ((l ++ [x]).map bv) ∧ N ≤ H2.n ∧ ∀ k, k < N → H2.get k = H.get k := by
  have h2 : RowN N (H.new ⟨[.int .u8 x.toNat], 5, true⟩) 5 1 v l.length (l.map bv) := h.keep (Nat.le_succ _) (fun k _ _ hk => get_new_ne (by omega))
  obtain ⟨v', H2, ha, hr, hk, _⟩ := h2.app (t := 59) (new := [x].map bv) (m := 1) Tryz.underlying59 (by kernel_rfl) (bv_cells [x]) (by simp) (by unfold maxElems; omega) (by rw [n_new]; omega) (.inl (Nat.le_refl 1))
  refine ⟨v', H2, ha, by rw [List.length_append, List.map_append]; exact hr, Nat.le_trans (by rw [n_new]; omega) hk.le, fun k hkn => ?_⟩
  rw [hk.get k (by rw [n_new]; omega) (h.off_lt hkn), get_new_ne (by omega)]
theorem bs0 : lbuildSlice Tryz.prog 59 0 [] H = some (sl H.n 0 0, H.new ⟨[], 5, true⟩) := lbs_dense (z := .int .u8 0) Tryz.underlying59 (by kernel_rfl) (by kernel_rfl) rfl rfl rfl (by decide) rfl
end
end Go.Proofs.YthgcgjpbhbikaaaGreatDoor
/-
  Layer 26 (url): what the reference's functions come to: texts quoted.
-/
set_option linter.unusedSimpArgs false
set_option linter.unusedVariables false
set_option maxRecDepth 100000
namespace Go.Proofs.YthgcgjpbhbikaaaGreatDoor
open Go.Lg Go.Tg
section
variable {H : LH} {b : UInt8} {s p : List UInt8}
theorem part1 {s : List UInt8} {i : Nat} {k : IntKind} (hi : i < s.length) : lpart Tryz.prog 9 (str s) (some (.int k i)) (some (.int k ((i : Int) + 1))) = some (str [s[i]]) := by
  rw [lpart_str0 (u := none) (p := i) (q := i + 1) Tryz.underlying9 (by simp [lbd]) (by simp only [lbd]; rw [if_pos (by omega)]; rfl) (by omega)]
  rw [List.take_succ_eq_append_getElem hi, List.drop_left' (by rw [List.length_take]; omega)]
theorem hexd1 {n : Nat} {k : IntKind} (hn : n < 16) : lpart Tryz.prog 9 (str [48, 49, 50, 51, 52, 53, 54, 55, 56, 57, 65, 66, 67, 68, 69, 70]) (some (.int k n)) (some (.int k ((n : Int) + 1))) = some (str [Tg.Ur.hd16 n]) := by
  rw [part1 (by simpa using hn)]
  unfold Tg.Ur.hd16
  rw [List.getD_eq_getElem?_getD]
  show _ = some (str [(Tg.Ur.hexd[n]?).getD 0])
  rw [List.getElem?_eq_getElem (by simpa [Tg.Ur.hexd] using hn)]
  rfl
end
end Go.Proofs.YthgcgjpbhbikaaaGreatDoor
/-
  Layer 26 (url): what the reference's functions come to: names of hosts.
-/
set_option linter.unusedSimpArgs false
set_option linter.unusedVariables false
set_option maxRecDepth 100000
namespace Tg.Ur
def isL (b : UInt8) : Bool := (decide ((97 : Int) ≤ b.toNat) && decide ((b.toNat : Int) ≤ 122)) || isD b || b == 45
/-- a name, read byte by byte; pd: nothing or a point stands ahead -/
def chk : Bool → List UInt8 → Bool
  | _, [] => true
  | pd, c :: r => if c = 46 then !pd && chk true r else isL c && chk false r
theorem isName_eq (b : UInt8) : isName b = (isL b || b == 46) := by
  unfold isName isL isD
  generalize (decide ((97 : Int) ≤ b.toNat) && decide ((b.toNat : Int) ≤ 122)) = x
  generalize (decide ((48 : Int) ≤ b.toNat) && decide ((b.toNat : Int) ≤ 57)) = y
  cases x <;> cases y <;> simp [Bool.or_comm]
theorem two_cons (c : UInt8) (r : List UInt8) : twoDots (c :: r) = ((decide (c = 46) && decide (r[0]? = some 46)) || twoDots r) := by
  cases r with
  | nil => by_cases hc : c = 46 <;> simp [twoDots]
  | cons d r =>
    by_cases hc : c = 46
    · by_cases hd : d = 46
      · subst hc hd; simp [twoDots]
      · have : twoDots (c :: d :: r) = twoDots (d :: r) := by
          conv => lhs; unfold twoDots
          split
          · rename_i e; simp at e; exact absurd e.2.1 hd
          · rename_i e; simp at e; rw [← e.2]
          · rename_i e; simp at e
        rw [this]; simp [hd]
    · have : twoDots (c :: d :: r) = twoDots (d :: r) := by
        conv => lhs; unfold twoDots
        split
        · rename_i e; simp at e; exact absurd e.1 hc
        · rename_i e; simp at e; rw [← e.2]
        · rename_i e; simp at e
      rw [this]; simp [hc]
theorem chk_eq : ∀ (s : List UInt8), chk true s = (s.all isName && decide (s[0]? ≠ some 46) && !twoDots s) ∧ chk false s = (s.all isName && !twoDots s)
  | [] => by simp [chk, twoDots]
  | c :: r => by
    obtain ⟨h1, h2⟩ := chk_eq r
    unfold chk
    rw [two_cons, List.all_cons, isName_eq, h1, h2]
    by_cases hc : c = 46
    · subst hc
      have : isL 46 = false := by decide
      simp [this, Bool.and_assoc]
    · have hcb : (c == 46) = false := by simp [hc]
      rw [hcb, if_neg hc, if_neg hc]
      simp [hc, Bool.and_assoc]
theorem named_chk (s : List UInt8) : named s = (chk true s && decide (0 < s.length) && decide (s.length < 254)) := by
  unfold named
  rw [(chk_eq s).1]
  have e1 : decide (s ≠ []) = decide (0 < s.length) := by
    rw [decide_eq_decide]; exact (List.length_pos_iff).symm
  have e2 : decide (s.length ≤ 253) = decide (s.length < 254) := by rw [decide_eq_decide]; omega
  rw [e1, e2]
  generalize decide (0 < s.length) = x
  generalize decide (s.length < 254) = y
  cases x <;> cases y <;> simp
end Tg.Ur
namespace Go.Proofs.YthgcgjpbhbikaaaGreatDoor
open Go.Lg Go.Tg
section
variable {H : LH} {b : UInt8} {s p : List UInt8}
end
end Go.Proofs.YthgcgjpbhbikaaaGreatDoor
/-
  Layer 26 (url): what the reference's functions come to: a path without points.
-/
set_option linter.unusedSimpArgs false
set_option linter.unusedVariables false
set_option maxRecDepth 100000
namespace Tg.Ur
theorem pieces_none : ∀ (w : List UInt8), (∀ b ∈ w, b ≠ 47) → pieces w = [w]
  | [], _ => rfl
  | b :: w, h => by
    unfold pieces
    rw [if_neg (h b (by simp)), pieces_none w (fun c hc => h c (by simp [hc]))]
theorem pieces_cut : ∀ (w r : List UInt8), (∀ b ∈ w, b ≠ 47) → pieces (w ++ 47 :: r) = w :: pieces r
  | [], r, _ => by simp [pieces]
  | b :: w, r, h => by
    rw [List.cons_append]
    conv => lhs; unfold pieces
    rw [if_neg (h b (by simp)), pieces_cut w r (fun c hc => h c (by simp [hc]))]
end Tg.Ur
namespace Go.Proofs.YthgcgjpbhbikaaaGreatDoor
open Go.Lg Go.Tg
section
variable {H : LH} {b : UInt8} {s p : List UInt8}
theorem bs0s : lbuildSlice Tryz.prog 40 0 [] H = some (sl H.n 0 0, H.new ⟨[], 9, true⟩) := lbs_dense (z := str []) Tryz.underlying40 (by kernel_rfl) (by kernel_rfl) rfl (by simp) rfl (by decide) rfl
end
end Go.Proofs.YthgcgjpbhbikaaaGreatDoor
/-
  Layer 26 (url): what the reference's functions come to: good places.
-/
set_option linter.unusedSimpArgs false
set_option linter.unusedVariables false
set_option maxRecDepth 100000
namespace Go.Proofs.YthgcgjpbhbikaaaGreatDoor
open Go.Lg Go.Tg
section
variable {H : LH} {b : UInt8} {s p : List UInt8} {u : Tg.Ur.Url}
end
end Go.Proofs.YthgcgjpbhbikaaaGreatDoor
/-
  Layer 26 (url): what the reference's functions come to: numbers' texts.
-/
set_option linter.unusedSimpArgs false
set_option linter.unusedVariables false
set_option maxRecDepth 100000
namespace Go.Proofs.YthgcgjpbhbikaaaGreatDoor
open Go.Lg Go.Tg
section
variable {H : LH} {b : UInt8} {s p : List UInt8} {u : Tg.Ur.Url}
theorem dig1 {n : Nat} {k : IntKind} (hn : n < 10) : lpart Tryz.prog 9 (str [48, 49, 50, 51, 52, 53, 54, 55, 56, 57]) (some (.int k n)) (some (.int k ((n : Int) + 1))) = some (str [([48, 49, 50, 51, 52, 53, 54, 55, 56, 57] : List UInt8).getD n 0]) := by
  rw [part1 (by simpa using hn), List.getD_eq_getElem?_getD, List.getElem?_eq_getElem (by simpa using hn)]
  rfl
theorem dd_small {n : Nat} (h : n < 10) : Lib.decDigits n = [([48, 49, 50, 51, 52, 53, 54, 55, 56, 57] : List UInt8).getD n 0] := by
  have key : ∀ k : Fin 10, UInt8.ofNat (48 + k.1) = ([48, 49, 50, 51, 52, 53, 54, 55, 56, 57] : List UInt8).getD k.1 0 := by decide
  rw [Lib.decDigits, dif_pos h, key ⟨n, h⟩]
theorem dd_big {n : Nat} (h : ¬ n < 10) : Lib.decDigits n = Lib.decDigits (n / 10) ++ Lib.decDigits (n % 10) := by
  conv => lhs; rw [Lib.decDigits, dif_neg h]
  rw [show Lib.decDigits (n % 10) = [UInt8.ofNat (48 + n % 10)] by rw [Lib.decDigits, dif_pos (by omega)]]
theorem dd_len : ∀ n : Nat, (Lib.decDigits n).length ≤ n + 1
  | n => by
    by_cases h : n < 10
    · rw [dd_small h]; simp
    · have := dd_len (n / 10)
      rw [dd_big h, List.length_append, dd_small (n := n % 10) (by omega)]
      simp only [List.length_cons, List.length_nil]
      omega
theorem rnum_cl : ∀ (n : Nat), n ≤ 9223372036854775807 → ∀ H : LH, LC Tryz.prog EJ 70 [.int .u64 n] H = some (str (Lib.decDigits n), H)
  | n, hn, H => by
    refine LC_pure rfl Tryz.func70 rfl (Nat.le_of_ble_eq_true rfl) (by decide) (by kernel_rfl) rfl ?_
    by_cases h : n < 10
    · have q := eq_true (show (n : Int) < 10 by omega)
      have hw : IntKind.u64.wrap ((n : Int) + 1) = (n : Int) + 1 := by rw [IntKind.wrap_u64]; omega
      have hd := dig1 (k := .u64) h
      rw [← dd_small h] at hd
      simp [q, hw, hd]
    · have q := eq_false (show ¬ (n : Int) < 10 by omega)
      have h1 := rnum_cl (n / 10) (by omega)
      have h2 := rnum_cl (n % 10) (by omega)
      have v1 : (n : Int).tdiv 10 = ((n / 10 : Nat) : Int) := rfl
      have v2 : (n : Int).tmod 10 = ((n % 10 : Nat) : Int) := rfl
      have w1 : IntKind.u64.wrap ((n / 10 : Nat) : Int) = ((n / 10 : Nat) : Int) := by rw [IntKind.wrap_u64]; omega
      have w2 : IntKind.u64.wrap ((n % 10 : Nat) : Int) = ((n % 10 : Nat) : Int) := by rw [IntKind.wrap_u64]; omega
      have l1 := dd_len (n / 10)
      have l2 := dd_len (n % 10)
      have c1 := lbin_cat (P := Tryz.prog) (t := 9) (x := Lib.decDigits (n / 10)) (y := Lib.decDigits (n % 10)) (by omega)
      rw [← dd_big h] at c1
      generalize Lib.decDigits n = d at *
      generalize hm1 : n / 10 = m1 at *
      generalize hm2 : n % 10 = m2 at *
      simp [q, v1, v2, w1, w2, h1, h2, c1]
theorem rtext_num {n : Int} (h0 : 0 ≤ n) (h1 : n ≤ 9223372036854775807) : LC Tryz.prog EJ 45 [.int .i64 n] H = some (str (Lib.itoa n), H) := by
  refine LC_pure rfl Tryz.func45 rfl (Nat.le_of_ble_eq_true rfl) (by decide) (by kernel_rfl) rfl ?_
  obtain ⟨m, rfl⟩ : ∃ m : Nat, n = m := ⟨n.toNat, by omega⟩
  have hn := fun H : LH => rnum_cl m (by omega) H
  have hw : IntKind.u64.wrap (m : Int) = (m : Int) := by rw [IntKind.wrap_u64]; omega
  have hi : Lib.itoa (m : Int) = Lib.decDigits m := by unfold Lib.itoa; rw [if_neg (by omega), Int.toNat_natCast]
  have q := eq_false (show ¬ (m : Int) < 0 by omega)
  rw [hi]
  simp [q, hw, hn]
theorem good_port (h : Tg.Ur.good u = true) : 0 ≤ u.port ∧ u.port ≤ 65535 := by
  rw [good_eq] at h
  simp only [Bool.and_eq_true] at h
  have hp := h.1.1.1.2
  unfold placeB at hp
  simp only [Bool.or_eq_true, Bool.and_eq_true, decide_eq_true_eq] at hp
  omega
theorem itoa_len {n : Int} (h0 : 0 ≤ n) (h1 : n ≤ 65535) : (Lib.itoa n).length ≤ 65536 := by
  unfold Lib.itoa
  rw [if_neg (by omega)]
  have := dd_len n.toNat
  omega
end
end Go.Proofs.YthgcgjpbhbikaaaGreatDoor
/-
  Layer 40 (script): what the reference's functions come to: lines, setups, heads.
-/
set_option linter.unusedSimpArgs false
set_option linter.unusedVariables false
set_option maxRecDepth 100000
namespace Go.Proofs.YthgcgjpbhbikaaaGreatDoor.Sc
open Go.Lg Go.Tg
section
variable {H H' : LH} {s : List UInt8} {v p : Value} {xs : List (List UInt8)} {c : Tg.Sc.Setup} {l : List Tg.Hd.Hdr} {e : Tg.Sc.Ev}
theorem rlines_cl (hv : TRow H v xs) (hl : (Tg.Sc.feeds xs).length ≤ 90000000) : LC Tryz.prog EJ 24 [v] H = some (str (Tg.Sc.feeds xs), H) := by
  refine LC_pure rfl Tryz.func24 rfl (Nat.le_of_ble_eq_true rfl) (by decide) (by kernel_rfl) rfl ?_
  have hxl := Tg.Sc.feeds_len xs
  obtain ⟨R, hR⟩ : ∃ R, R = Tg.Sc.feeds xs := ⟨_, rfl⟩
  rw [← hR] at hl hxl ⊢
  simp
  refine loop_ind (fun (i : Nat) fr' H' => ∃ l, fr' 0 = v ∧ fr' 3 = str l ∧ fr' 4 = .int .i64 i ∧ i ≤ xs.length ∧ l ++ Tg.Sc.feeds (xs.drop i) = R ∧ H' = H) (fun i => xs.length - i) 0 ⟨[], by simp, by simp, by simp, Nat.zero_le _, by simpa using hR.symm, rfl⟩ ?_
  rintro i fr' H' ⟨l, f0, f3, f4, hi, hq, rfl⟩ ih
  by_cases hlt : i < xs.length
  · have q0 := eq_true (show (i : Int) < (xs.length : Int) by omega)
    have hw1 : IntKind.i64.wrap ((i : Int) + 1) = ((i + 1 : Nat) : Int) := by rw [wrapI (by omega) (by omega)]; omega
    obtain ⟨k, o, g1, _, g3⟩ := hv.at hlt
    have g4 := g3 H' rfl
    rw [List.drop_eq_getElem_cons hlt, Tg.Sc.feeds_cons] at hq
    generalize xs[i] = a at *
    have hll : l.length + a.length + 1 ≤ R.length := by rw [← hq]; simp; omega
    have c1 : ∀ t, lbin Tryz.prog .add t (str l) (str a) = some (str (l ++ a)) := fun t => lbin_cat (by omega)
    have c2 : ∀ t, lbin Tryz.prog .add t (str (l ++ a)) (str [10]) = some (str (l ++ (a ++ [10]))) := fun t => by rw [lbin_cat (by simp; omega)]; simp
    have hfin := fun fr2 (g0 : fr2 0 = v) (g3 : fr2 3 = str (l ++ (a ++ [10]))) (g4 : fr2 4 = .int .i64 ((i + 1 : Nat) : Int)) => ih (i + 1) fr2 H' (by omega) ⟨l ++ (a ++ [10]), g0, g3, g4, by omega, by rw [← hq]; simp, rfl⟩
    clear ih hq
    simp [f0, f3, f4, q0, hv.len, g1, g4, c1, c2]
    refine hfin _ ?_ ?_ ?_
    all_goals simp [f0, hw1]
  · have q0 := eq_false (show ¬ (i : Int) < (xs.length : Int) by omega)
    rw [List.drop_of_length_le (by omega)] at hq
    have hq : l = R := by rw [← hq]; simp [Tg.Sc.feeds]
    simp [f0, f3, f4, q0, hv.len, hq]
theorem cc {a b : List UInt8} (h : a.length + b.length ≤ 90000000) (t : TypeId) : lbin Tryz.prog .add t (str a) (str b) = some (str (a ++ b)) := lbin_cat (by omega)
theorem set_cat {P x1 x2 x3 x4 : List UInt8} (h : P.length ≤ 100) (n1 : x1.length ≤ 30) (n2 : x2.length ≤ 30) (n3 : x3.length ≤ 30) (n4 : x4.length ≤ 30) :
    (∀ t, lbin Tryz.prog .add t (str P) (str x1) = some (str (P ++ x1))) ∧ (∀ t, lbin Tryz.prog .add t (str (P ++ x1)) (str [32]) = some (str (P ++ x1 ++ [32]))) ∧ (∀ t, lbin Tryz.prog .add t (str (P ++ x1 ++ [32])) (str x2) = some (str (P ++ x1 ++ [32] ++ x2))) ∧ (∀ t, lbin Tryz.prog .add t (str (P ++ x1 ++ [32] ++ x2)) (str [32]) = some (str (P ++ x1 ++ [32] ++ x2 ++ [32]))) ∧ (∀ t, lbin Tryz.prog .add t (str (P ++ x1 ++ [32] ++ x2 ++ [32])) (str x3) = some (str (P ++ x1 ++ [32] ++ x2 ++ [32] ++ x3))) ∧ (∀ t, lbin Tryz.prog .add t (str (P ++ x1 ++ [32] ++ x2 ++ [32] ++ x3)) (str [32]) = some (str (P ++ x1 ++ [32] ++ x2 ++ [32] ++ x3 ++ [32]))) ∧ ∀ t, lbin Tryz.prog .add t (str (P ++ x1 ++ [32] ++ x2 ++ [32] ++ x3 ++ [32])) (str x4) = some (str (P ++ x1 ++ [32] ++ x2 ++ [32] ++ x3 ++ [32] ++ x4)) := by
  refine ⟨cc ?_, cc ?_, cc ?_, cc ?_, cc ?_, cc ?_, cc ?_⟩
  all_goals (try simp only [List.length_append, List.length_cons, List.length_nil])
  all_goals omega
theorem rsetup_cl (hf : Tg.Sc.fineS c = true) : LC Tryz.prog EJ 32 [suv c] H = some (str (Tg.Sc.setupT c), H) := by
  refine LC_pure rfl Tryz.func32 rfl (Nat.le_of_ble_eq_true rfl) (by decide) (by kernel_rfl) rfl ?_
  rw [fineS_b] at hf
  simp only [Bool.and_eq_true, decide_eq_true_eq] at hf
  obtain ⟨⟨⟨⟨⟨⟨⟨a1, a2⟩, a3⟩, a4⟩, a5⟩, a6⟩, a7⟩, a8⟩ := hf
  obtain ⟨legacy, look, depth, table, valid⟩ := c
  simp only at a1 a2 a3 a4 a5 a6 a7 a8
  have t1 := fun H : LH => rtext_num (H := H) (n := look) (by omega) (by omega)
  have t2 := fun H : LH => rtext_num (H := H) (n := depth) (by omega) (by omega)
  have t3 := fun H : LH => rtext_num (H := H) (n := table) (by omega) (by omega)
  have t4 := fun H : LH => rtext_num (H := H) (n := valid) (by omega) (by omega)
  have n1 := Tg.Sc.itoa_short (n := look) (by omega) (by omega)
  have n2 := Tg.Sc.itoa_short (n := depth) (by omega) (by omega)
  have n3 := Tg.Sc.itoa_short (n := table) (by omega) (by omega)
  have n4 := Tg.Sc.itoa_short (n := valid) (by omega) (by omega)
  unfold Tg.Sc.setupT
  simp only
  generalize Lib.itoa look = x1 at *
  generalize Lib.itoa depth = x2 at *
  generalize Lib.itoa table = x3 at *
  generalize Lib.itoa valid = x4 at *
  obtain ⟨Hb, hHb⟩ : ∃ Hb, Hb = H.new ⟨[.bool legacy, .int .i64 look, .int .i64 depth, .int .i64 table, .int .i64 valid], 26, true⟩ := ⟨_, rfl⟩
  have gb : Hb.get H.n = some ⟨[.bool legacy, .int .i64 look, .int .i64 depth, .int .i64 table, .int .i64 valid], 26, true⟩ := by rw [hHb]; exact get_new
  have hle : H.le Hb := by rw [hHb]; exact le_refl.new
  cases legacy with
  | false =>
    have hx : Tg.Sc.wl [Tg.Sc.kwSetup, Tg.Sc.kwOrb, x1, x2, x3, x4] = 115 :: 101 :: 116 :: 117 :: 112 :: 32 :: 111 :: 114 :: 98 :: 32 :: (x1 ++ 32 :: (x2 ++ 32 :: (x3 ++ 32 :: x4))) := by simp [Tg.Sc.wl, Tg.Sc.kwSetup, Tg.Sc.kwOrb]
    simp only [Bool.false_eq_true, if_false, if_true]
    rw [hx]
    obtain ⟨c1, c2, c3, c4, c5, c6, c7⟩ := set_cat (P := [115, 101, 116, 117, 112, 32, 111, 114, 98, 32]) (by decide) n1 n2 n3 n4
    simp only [List.cons_append, List.nil_append, List.append_assoc] at c1 c2 c3 c4 c5 c6 c7
    simp [← hHb, gb, t1, t2, t3, t4, c1, c2, c3, c4, c5, c6, c7]
    exact hle
  | true =>
    have hx : Tg.Sc.wl [Tg.Sc.kwSetup, Tg.Sc.kwLegacy, x1, x2, x3, x4] = 115 :: 101 :: 116 :: 117 :: 112 :: 32 :: 108 :: 101 :: 103 :: 97 :: 99 :: 121 :: 32 :: (x1 ++ 32 :: (x2 ++ 32 :: (x3 ++ 32 :: x4))) := by simp [Tg.Sc.wl, Tg.Sc.kwSetup, Tg.Sc.kwLegacy]
    simp only [Bool.false_eq_true, if_false, if_true]
    rw [hx]
    obtain ⟨c1, c2, c3, c4, c5, c6, c7⟩ := set_cat (P := [115, 101, 116, 117, 112, 32, 108, 101, 103, 97, 99, 121, 32]) (by decide) n1 n2 n3 n4
    simp only [List.cons_append, List.nil_append, List.append_assoc] at c1 c2 c3 c4 c5 c6 c7
    simp [← hHb, gb, t1, t2, t3, t4, c1, c2, c3, c4, c5, c6, c7]
    exact hle
theorem ritoa {n : Int} (h0 : 0 ≤ n) (h1 : n ≤ 9223372036854775807) (H : LH) : LC Tryz.prog EJ 45 [.int .i64 n] H = some (str (Lib.itoa n), H) := rtext_num h0 h1
theorem rheads_ex {id st : Int} (hr : HRow H p l) (hl : l.length ≤ 90000) (hs : ∀ h ∈ l, h.1.length ≤ 300000 ∧ h.2.length ≤ 300000) (i0 : 0 ≤ id) (i1 : id ≤ 9223372036854775807) (t0 : 0 ≤ st) (t1 : st ≤ 9223372036854775807) :
    ∃ v H', LC Tryz.prog EJ 46 [.int .i64 id, .int .i64 st, p] H = some (v, H') ∧ OutT H v H' (Tg.Sc.headsL Tg.Sc.kwHead id st l) := by
  have key : ∃ r, LC Tryz.prog EJ 46 [.int .i64 id, .int .i64 st, p] H = some (Lg.trunc H r) ∧ OutT H r.1 r.2 (Tg.Sc.headsL Tg.Sc.kwHead id st l) := by
    refine LC_runs (P := Tryz.prog) (E := EJ) (f := 46) rfl Tryz.func46 rfl (Nat.le_of_ble_eq_true rfl) (by decide) (by kernel_rfl) ?_
    have e1 := ritoa i0 i1
    have e2 := ritoa t0 t1
    have e3 := ritoa (n := (l.length : Int)) (by omega) (by omega)
    have n1 := Tg.Sc.itoa_short (n := id) (by omega) i1
    have n2 := Tg.Sc.itoa_short (n := st) (by omega) t1
    have n3 := Tg.Sc.itoa_short (n := (l.length : Int)) (by omega) (by omega)
    unfold Tg.Sc.headsL
    generalize Lib.itoa id = x1 at *
    generalize Lib.itoa st = x2 at *
    generalize Lib.itoa (l.length : Int) = x3 at *
    obtain ⟨c1, c2, c3, c4, c5, _, _⟩ := set_cat (P := [104, 101, 97, 100, 32]) (by decide) n1 n2 n3 n3
    simp only [List.cons_append, List.nil_append, List.append_assoc] at c1 c2 c3 c4 c5
    have hx : Tg.Sc.wl [Tg.Sc.kwHead, x1, x2, x3] = 104 :: 101 :: 97 :: 100 :: 32 :: (x1 ++ 32 :: (x2 ++ 32 :: x3)) := by simp [Tg.Sc.wl, Tg.Sc.kwHead]
    have bs1s := fun (H : LH) (s : List UInt8) => bs1s (H := H) (s := s)
    rw [← hx] at c5
    generalize Tg.Sc.wl [Tg.Sc.kwHead, x1, x2, x3] = f at *
    simp [e1, e2, e3, hr.len, c1, c2, c3, c4, c5, bs1s]
    refine loop_ind (fun (i : Nat) fr' H' => ∃ w, fr' 2 = p ∧ fr' 7 = w ∧ fr' 8 = .int .i64 i ∧ i ≤ l.length ∧ RowN H.n H' 9 1 w (f :: (l.take i).map Tg.Sc.hline).length ((f :: (l.take i).map Tg.Sc.hline).map str) ∧ H.n ≤ H'.n ∧ ∀ k, k < H.n → H'.get k = H.get k) (fun i => l.length - i) 0 ⟨sl H.n 1 1, by simp, by simp, by simp, Nat.zero_le _, ?_, by simp, fun k hk => by rw [get_new_ne (by omega)]⟩ ?_
    · exact ⟨by simp, .inr ⟨H.n, 1, [], by simp, by omega, by simp, by rw [get_new]; simp, by simp, by simp⟩⟩
    rintro i fr' H' ⟨w, f2, f7, f8, hi, hrow, hn, hk⟩ ih
    subst f7
    have hr' := hr.keep hn hk
    by_cases hlt : i < l.length
    · have q := eq_true (show (i : Int) < (l.length : Int) by omega)
      have hw1 : IntKind.i64.wrap ((i : Int) + 1) = ((i + 1 : Nat) : Int) := by rw [wrapI (by omega) (by omega)]; omega
      obtain ⟨k, o, g1, g2, g3⟩ := hr'.at hlt
      obtain ⟨g0, g4, g5⟩ := g3 H' rfl
      have hm := hs l[i] (List.getElem_mem hlt)
      have hes := fun H : LH => rescape_cl (H := H) (s := l[i].2) hm.2
      have hnew : f :: (l.take (i + 1)).map Tg.Sc.hline = (f :: (l.take i).map Tg.Sc.hline) ++ [Tg.Sc.hline l[i]] := by
        rw [List.take_succ_eq_append_getElem hlt, List.map_append]; rfl
      obtain ⟨v', H2, a1, a2, a3, a4⟩ := out_app (x := Tg.Sc.hline l[i]) hrow hn (by simp; omega)
      rw [← hnew] at a2
      have hfin := fun fr2 (g2 : fr2 2 = p) (g7 : fr2 7 = v') (g8 : fr2 8 = .int .i64 ((i + 1 : Nat) : Int)) => ih (i + 1) fr2 H2 (by omega) ⟨v', g2, g7, g8, by omega, a2, a3, fun k hk2 => by rw [a4 k hk2, hk k hk2]⟩
      unfold Tg.Sc.hline at a1
      have hel := Tg.Sc.esc_len l[i].2
      clear ih hrow a2 hnew
      generalize l[i] = a at *
      have d1 := cc (a := [124]) (b := a.1) (by simp; omega)
      have d2 := cc (a := [124] ++ a.1) (b := [58, 32]) (by simp; omega)
      have d3 := cc (a := [124] ++ a.1 ++ [58, 32]) (b := Tg.Sc.esc a.2) (by simp; omega)
      simp only [List.cons_append, List.nil_append, List.append_assoc] at d1 d2 d3
      simp [f2, f8, q, g1, g4, g5, hr.len, hes, bs1s, d1, d2, d3, a1]
      refine hfin _ ?_ ?_ ?_
      all_goals simp [f2, hw1]
    · have q := eq_false (show ¬ (i : Int) < (l.length : Int) by omega)
      rw [List.take_of_length_le (by omega)] at hrow
      simp [f2, f8, q, hr.len]
      exact ⟨TRow.of_own hrow, hn, hk⟩
  obtain ⟨r, e, ho⟩ := key
  obtain ⟨H2, e2, ho2⟩ := ho.trunc
  exact ⟨r.1, H2, by rw [e, ← e2], ho2⟩
end
end Go.Proofs.YthgcgjpbhbikaaaGreatDoor.Sc
/-
  Layer 40 (script): what the reference's functions come to: events' lines, texts, lines of a text.
-/
set_option linter.unusedSimpArgs false
set_option linter.unusedVariables false
set_option maxRecDepth 100000
namespace Go.Proofs.YthgcgjpbhbikaaaGreatDoor.Sc
open Go.Lg Go.Tg
section
variable {H H' : LH} {s : List UInt8} {v p : Value} {xs : List (List UInt8)} {c : Tg.Sc.Setup} {l : List Tg.Sc.Ev} {e : Tg.Sc.Ev} {N : Nat}
theorem good_kind (hg : Tg.Sc.good e = true) : (e.kind = 1 ∨ e.kind = 2 ∨ e.kind = 3 ∨ e.kind = 4 ∨ e.kind = 5 ∨ e.kind = 6) ∧ 0 ≤ e.id ∧ e.id ≤ 1000000 ∧ (e.kind = 6 → e.id = 0) ∧ (e.kind ≠ 6 → 1 ≤ e.id) ∧
    (e.kind = 1 → e.url.length ≤ 1000 ∧ e.src.length ≤ 1000 ∧ 0 ≤ e.media ∧ e.media ≤ 2 ∧ Tg.Sc.modes.contains e.mode = true) ∧ (e.kind ≠ 1 → e.url = [] ∧ e.src = [] ∧ e.mode = [] ∧ e.media = 0) ∧
    (e.kind = 2 → 0 ≤ e.status ∧ e.status ≤ 9999 ∧ Tg.Hd.good e.hdrs = true) ∧ (e.kind ≠ 2 → e.status = 0 ∧ e.hdrs = []) ∧ (e.kind = 3 → e.body.length ≤ 10000) ∧ (e.kind ≠ 3 → e.body = []) := by
  unfold Tg.Sc.good at hg
  simp only [Bool.and_eq_true, decide_eq_true_eq] at hg
  obtain ⟨⟨⟨⟨⟨h1, h2⟩, h3⟩, h4⟩, h5⟩, h6⟩ := hg
  refine ⟨by omega, ?_, ?_, ?_, ?_, ?_, ?_, ?_, ?_, ?_, ?_⟩
  · split at h3
    · simp only [decide_eq_true_eq] at h3; omega
    · simp only [Bool.and_eq_true, decide_eq_true_eq] at h3; omega
  · split at h3
    · simp only [decide_eq_true_eq] at h3; omega
    · simp only [Bool.and_eq_true, decide_eq_true_eq] at h3; omega
  · intro h; rw [if_pos h] at h3; simpa using h3
  · intro h; rw [if_neg h] at h3; simp only [Bool.and_eq_true, decide_eq_true_eq] at h3; exact h3.1
  · intro h; rw [if_pos h] at h4; simp only [Bool.and_eq_true, decide_eq_true_eq] at h4; exact ⟨h4.1.1.1, h4.1.1.2, h4.1.2.1, h4.1.2.2, h4.2⟩
  · intro h; rw [if_neg h] at h4; simp only [Bool.and_eq_true, decide_eq_true_eq] at h4; exact ⟨h4.1.1.1, h4.1.1.2, h4.1.2, h4.2⟩
  · intro h; rw [if_pos h] at h5; simp only [Bool.and_eq_true, decide_eq_true_eq] at h5; exact ⟨h5.1.1, h5.1.2, h5.2⟩
  · intro h; rw [if_neg h] at h5; simp only [Bool.and_eq_true, decide_eq_true_eq] at h5; exact h5
  · intro h; rw [if_pos h] at h6; simpa using h6
  · intro h; rw [if_neg h] at h6; simpa using h6
theorem rshow_ex (hg : Tg.Sc.good e = true) (hr : HRow H p e.hdrs) (hz : EvZ e) : ∃ v H', LC Tryz.prog EJ 25 [evv e p] H = some (v, H') ∧ OutT H v H' (Tg.Sc.shown e) := by
  obtain ⟨pa, pn, pc, rfl⟩ := hr.slice
  have key : ∃ r, LC Tryz.prog EJ 25 [evv e (.slice pa pn pc)] H = some (Lg.trunc H r) ∧ OutT H r.1 r.2 (Tg.Sc.shown e) := by
    refine LC_runs (P := Tryz.prog) (E := EJ) (f := 25) rfl Tryz.func25 rfl (Nat.le_of_ble_eq_true rfl) (by decide) (by kernel_rfl) ?_
    obtain ⟨gk, g0, g1, _, _, ga, _, gs, _, _, _⟩ := good_kind hg
    obtain ⟨kind, id, url, src, mode, media, status, hdrs, body⟩ := e
    obtain ⟨z1, z2, z3, z4, z5, z6, z7, z8, z9, z10, z11, z12⟩ := hz
    simp only at gk g0 g1 ga gs z1 z2 z3 z4 z5 z6 z7 z8 z9 z10 z11 z12 hr
    clear hg
    have n1 := Tg.Sc.itoa_short z7 z8
    have n2 := Tg.Sc.itoa_short z9 z10
    have hes1 := fun H : LH => rescape_cl (H := H) (s := url) z1
    have hes2 := fun H : LH => rescape_cl (H := H) (s := src) z2
    have hes3 := fun H : LH => rescape_cl (H := H) (s := body) z4
    have l1 := Tg.Sc.esc_len url
    have l2 := Tg.Sc.esc_len src
    have l3 := Tg.Sc.esc_len body
    obtain ⟨Hb, hHb⟩ : ∃ Hb, Hb = H.new ⟨[.int .i64 kind, .int .i64 id, str url, str src, str mode, .int .i64 media, .int .i64 status, .slice pa pn pc, str body], 36, true⟩ := ⟨_, rfl⟩
    have hble : H.le Hb := by rw [hHb]; exact le_refl.new
    have gb : Hb.get H.n = some ⟨[.int .i64 kind, .int .i64 id, str url, str src, str mode, .int .i64 media, .int .i64 status, .slice pa pn pc, str body], 36, true⟩ := by rw [hHb]; exact get_new
    have hrb : HRow Hb (.slice pa pn pc) hdrs := by rw [hHb]; exact hr.new1
    have hne : (H.n = Hb.n) = False := eq_false (by rw [hHb, n_new]; omega)
    have t1 := ritoa g0 (by omega)
    have bs1s := fun (H : LH) (s : List UInt8) => bs1s (H := H) (s := s)
    have fin : ∀ (s : List UInt8) (G : LH), H.le G → OutT H (sl G.n 1 1) (G.new ⟨[str s], 9, true⟩) [s] := fun s G hG => ⟨TRow.new (H := G) (xs := [s]) (c := 1) (Nat.le_refl _), hG.new⟩
    unfold Tg.Sc.shown
    simp only
    rcases gk with rfl | rfl | rfl | rfl | rfl | rfl
    · obtain ⟨_, _, m0, m1, _⟩ := ga rfl
      have t2 := ritoa m0 z10
      generalize Lib.itoa id = x1 at *
      generalize Lib.itoa media = x2 at *
      generalize Tg.Sc.esc url = eu at *
      generalize Tg.Sc.esc src = es at *
      have hx : Tg.Sc.wl [Tg.Sc.kwAsk, x1, x2, mode, eu, es] = 97 :: 115 :: 107 :: 32 :: (x1 ++ 32 :: (x2 ++ 32 :: (mode ++ 32 :: (eu ++ 32 :: es)))) := by simp [Tg.Sc.wl, Tg.Sc.kwAsk]
      have d1 := cc (a := [97, 115, 107, 32]) (b := x1) (by simp; omega)
      have d2 := cc (a := [97, 115, 107, 32] ++ x1) (b := [32]) (by simp; omega)
      have d3 := cc (a := [97, 115, 107, 32] ++ x1 ++ [32]) (b := x2) (by simp; omega)
      have d4 := cc (a := [97, 115, 107, 32] ++ x1 ++ [32] ++ x2) (b := [32]) (by simp; omega)
      have d5 := cc (a := [97, 115, 107, 32] ++ x1 ++ [32] ++ x2 ++ [32]) (b := mode) (by simp; omega)
      have d6 := cc (a := [97, 115, 107, 32] ++ x1 ++ [32] ++ x2 ++ [32] ++ mode) (b := [32]) (by simp; omega)
      have d7 := cc (a := [97, 115, 107, 32] ++ x1 ++ [32] ++ x2 ++ [32] ++ mode ++ [32]) (b := eu) (by simp; omega)
      have d8 := cc (a := [97, 115, 107, 32] ++ x1 ++ [32] ++ x2 ++ [32] ++ mode ++ [32] ++ eu) (b := [32]) (by simp; omega)
      have d9 := cc (a := [97, 115, 107, 32] ++ x1 ++ [32] ++ x2 ++ [32] ++ mode ++ [32] ++ eu ++ [32]) (b := es) (by simp; omega)
      simp only [List.cons_append, List.nil_append, List.append_assoc] at d1 d2 d3 d4 d5 d6 d7 d8 d9
      rw [← hx] at d9
      rw [if_pos rfl]
      generalize Tg.Sc.wl [Tg.Sc.kwAsk, x1, x2, mode, eu, es] = f at *
      simp [← hHb, gb, t1, t2, hes1, hes2, d1, d2, d3, d4, d5, d6, d7, d8, d9, bs1s]
      exact fin _ Hb hble
    · obtain ⟨s0, s1, _⟩ := gs rfl
      obtain ⟨v2, H2, e2, o2⟩ := rheads_ex (id := id) (st := status) hrb z5 z6 g0 z8 s0 z12
      simp [← hHb, gb, t1, e2]
      exact ⟨o2.row, le_trans hble o2.le⟩
    · generalize Lib.itoa id = x1 at *
      generalize Tg.Sc.esc body = eb at *
      have hx : Tg.Sc.wl [Tg.Sc.kwChunk, x1, eb] = 99 :: 104 :: 117 :: 110 :: 107 :: 32 :: (x1 ++ 32 :: eb) := by simp [Tg.Sc.wl, Tg.Sc.kwChunk]
      have d1 := cc (a := [99, 104, 117, 110, 107, 32]) (b := x1) (by simp; omega)
      have d2 := cc (a := [99, 104, 117, 110, 107, 32] ++ x1) (b := [32]) (by simp; omega)
      have d3 := cc (a := [99, 104, 117, 110, 107, 32] ++ x1 ++ [32]) (b := eb) (by simp; omega)
      simp only [List.cons_append, List.nil_append, List.append_assoc] at d1 d2 d3
      rw [← hx] at d3
      generalize Tg.Sc.wl [Tg.Sc.kwChunk, x1, eb] = f at *
      simp [← hHb, gb, t1, hes3, d1, d2, d3, bs1s]
      exact fin _ Hb hble
    · generalize Lib.itoa id = x1 at *
      have hx : Tg.Sc.wl [Tg.Sc.kwEnd, x1] = 101 :: 110 :: 100 :: 32 :: x1 := by simp [Tg.Sc.wl, Tg.Sc.kwEnd]
      have d1 := cc (a := [101, 110, 100, 32]) (b := x1) (by simp; omega)
      simp only [List.cons_append, List.nil_append, List.append_assoc] at d1
      rw [← hx] at d1
      generalize Tg.Sc.wl [Tg.Sc.kwEnd, x1] = f at *
      simp [← hHb, gb, hne, t1, d1, bs1s]
      exact fin _ (Hb.new _) hble.new
    · generalize Lib.itoa id = x1 at *
      have hx : Tg.Sc.wl [Tg.Sc.kwAbort, x1] = 97 :: 98 :: 111 :: 114 :: 116 :: 32 :: x1 := by simp [Tg.Sc.wl, Tg.Sc.kwAbort]
      have d1 := cc (a := [97, 98, 111, 114, 116, 32]) (b := x1) (by simp; omega)
      simp only [List.cons_append, List.nil_append, List.append_assoc] at d1
      rw [← hx] at d1
      generalize Tg.Sc.wl [Tg.Sc.kwAbort, x1] = f at *
      simp [← hHb, gb, hne, t1, d1, bs1s]
      exact fin _ (Hb.new _) hble.new
    · simp [← hHb, gb, t1, bs1s]
      exact fin _ Hb hble
  obtain ⟨r, e, ho⟩ := key
  obtain ⟨H2, e2, ho2⟩ := ho.trunc
  exact ⟨r.1, H2, by rw [e, ← e2], ho2⟩
theorem rprint_cl (hf : Tg.Sc.fineS c = true) (hr : ERow N H v l) (hg : ∀ e ∈ l, Tg.Sc.good e = true) (hz : ∀ e ∈ l, EvZ e) (hl : (Tg.Sc.printT c l).length ≤ 90000000) : LC Tryz.prog EJ 13 [suv c, v] H = some (str (Tg.Sc.printT c l), H) := by
  obtain ⟨pa, pn, pc, rfl⟩ := hr.slice
  refine LC_pure rfl Tryz.func13 rfl (Nat.le_of_ble_eq_true rfl) (by decide) (by kernel_rfl) rfl ?_
  have hll := Tg.Sc.flat_len l hg
  have hfl := Tg.Sc.feeds_len (l.flatMap Tg.Sc.shown)
  obtain ⟨R, hR⟩ : ∃ R, R = Tg.Sc.printT c l := ⟨_, rfl⟩
  rw [← hR] at hl ⊢
  have hR2 : Tg.Sc.setupT c ++ [10] ++ Tg.Sc.feeds ((l.drop 0).flatMap Tg.Sc.shown) = R := by rw [hR]; unfold Tg.Sc.printT; simp
  have hs := fun H : LH => rsetup_cl (H := H) hf
  generalize Tg.Sc.setupT c = st at *
  have hRl : st.length + 1 + (Tg.Sc.feeds (l.flatMap Tg.Sc.shown)).length = R.length := by rw [← hR2]; simp; omega
  have c0 := cc (a := st) (b := [10]) (by simp; omega)
  obtain ⟨legacy, look, depth, table, valid⟩ := c
  obtain ⟨Hb, hHb⟩ : ∃ Hb, Hb = H.new ⟨[.bool legacy, .int .i64 look, .int .i64 depth, .int .i64 table, .int .i64 valid], 26, true⟩ := ⟨_, rfl⟩
  have gb : Hb.get H.n = some ⟨[.bool legacy, .int .i64 look, .int .i64 depth, .int .i64 table, .int .i64 valid], 26, true⟩ := by rw [hHb]; exact get_new
  have hle : H.le Hb := by rw [hHb]; exact le_refl.new
  simp [← hHb, gb, hs, c0]
  refine loop_ind (fun (i : Nat) fr' H' => ∃ acc, fr' 1 = .slice pa pn pc ∧ fr' 5 = str acc ∧ fr' 6 = .int .i64 i ∧ i ≤ l.length ∧ acc ++ Tg.Sc.feeds ((l.drop i).flatMap Tg.Sc.shown) = R ∧ H.le H') (fun i => l.length - i) 0 ⟨st ++ [10], by simp, by simp, by simp, Nat.zero_le _, hR2, hle⟩ ?_
  rintro i fr' H' ⟨acc, f1, f5, f6, hi, hq, hk⟩ ih
  have hr' := hr.keep hk.1 hk.2
  have hlen := fun G : LH => hr.len (H' := G)
  by_cases hlt : i < l.length
  · have q0 := eq_true (show (i : Int) < (l.length : Int) by omega)
    have hw1 : IntKind.i64.wrap ((i : Int) + 1) = ((i + 1 : Nat) : Int) := by rw [wrapI (by omega) (by omega)]; omega
    obtain ⟨k, o, q, a1, a2, a3, a4⟩ := hr'.at hlt
    have a5 := (a4 H' rfl).1
    have hmem : l[i] ∈ l := List.getElem_mem hlt
    have hge := hg _ hmem
    have hze := hz _ hmem
    rw [List.drop_eq_getElem_cons hlt, List.flatMap_cons, Tg.Sc.feeds_app] at hq
    generalize l[i] = e at *
    obtain ⟨w, H2, e1, o1⟩ := rshow_ex hge (HOwn.row a3) hze
    have hfe : acc.length + (Tg.Sc.feeds (Tg.Sc.shown e)).length ≤ R.length := by rw [← hq]; simp
    have e2 := rlines_cl o1.row (by omega)
    have c1 := cc (a := acc) (b := Tg.Sc.feeds (Tg.Sc.shown e)) (by omega)
    have hfin := fun fr2 (g1 : fr2 1 = .slice pa pn pc) (g5 : fr2 5 = str (acc ++ Tg.Sc.feeds (Tg.Sc.shown e))) (g6 : fr2 6 = .int .i64 ((i + 1 : Nat) : Int)) => ih (i + 1) fr2 H2 (by omega) ⟨acc ++ Tg.Sc.feeds (Tg.Sc.shown e), g1, g5, g6, by omega, by rw [← hq]; simp, le_trans hk o1.le⟩
    clear ih hq
    simp [f1, f5, f6, q0, hlen, a1, a5, e1, e2, c1]
    refine hfin _ ?_ ?_ ?_
    all_goals simp [f1, hw1]
  · have q0 := eq_false (show ¬ (i : Int) < (l.length : Int) by omega)
    rw [List.drop_of_length_le (by omega)] at hq
    have hq : acc = R := by rw [← hq]; simp [Tg.Sc.feeds]
    simp [f1, f5, f6, q0, hlen, hq]
    exact hk
theorem rcut_ex (hs : s.length ≤ 90000) : ∃ v H', LC Tryz.prog EJ 15 [str s] H = some (v, H') ∧ OutT H v H' (Tg.Sc.cutAt 10 s).dropLast := by
  have key : ∃ r, LC Tryz.prog EJ 15 [str s] H = some (Lg.trunc H r) ∧ OutT H r.1 r.2 (Tg.Sc.cutAt 10 s).dropLast := by
    refine LC_runs (P := Tryz.prog) (E := EJ) (f := 15) rfl Tryz.func15 rfl (Nat.le_of_ble_eq_true rfl) (by decide) (by kernel_rfl) ?_
    have bs0 : lbuildSlice Tryz.prog 40 0 [] H = some (sl H.n 0 0, H.new ⟨[], 9, true⟩) := by
      unfold lbuildSlice
      simp [Instr.fill, Value.cells]
      try rfl
    have bs1s := fun (H : LH) (s : List UInt8) => bs1s (H := H) (s := s)
    simp [bs0]
    refine loop_ind (fun (i : Nat) fr' H' => ∃ (w : Value) (acc : List (List UInt8)) (m : Nat), fr' 0 = str s ∧ fr' 3 = w ∧ fr' 4 = .int .i64 m ∧ fr' 5 = .int .i64 i ∧ i ≤ s.length ∧ m ≤ i ∧ acc.length ≤ m ∧ acc ++ Tg.Sc.cutAt 10 (s.drop m) = Tg.Sc.cutAt 10 s ∧ (10 : UInt8) ∉ (s.take i).drop m ∧ RowN H.n H' 9 1 w acc.length (acc.map str) ∧ H.n ≤ H'.n ∧ ∀ k, k < H.n → H'.get k = H.get k) (fun i => s.length - i) 0 ⟨sl H.n 0 0, [], 0, by simp, by simp, by simp, by simp, Nat.zero_le _, Nat.le_refl _, by simp, by simp, by simp, ?_, by simp, fun k hk => by rw [get_new_ne (by omega)]⟩ ?_
    · exact ⟨by simp, .inr ⟨H.n, 0, [], by simp, by omega, by simp, by rw [get_new]; simp, by simp, by simp⟩⟩
    rintro i fr' H' ⟨w, acc, m, f0, f3, f4, f5, hi, hm, hal, hq, hno, hrow, hn, hk⟩ ih
    subst f3
    by_cases hlt : i < s.length
    · have q := eq_true (show (i : Int) < (s.length : Int) by omega)
      have hw1 : IntKind.i64.wrap ((i : Int) + 1) = ((i + 1 : Nat) : Int) := by rw [wrapI (by omega) (by omega)]; omega
      have hat : at_ s (i : Int) = s[i] := at_in hlt
      have htk : (s.take (i + 1)).drop m = (s.take i).drop m ++ [s[i]] := by
        rw [List.take_succ_eq_append_getElem hlt, List.drop_append_of_le_length (by rw [List.length_take]; omega)]
      by_cases hb : s[i] = 10
      · have hsp : s.drop m = (s.take i).drop m ++ 10 :: s.drop (i + 1) := by
          rw [← hb, ← List.drop_eq_getElem_cons hlt]
          conv => lhs; rw [← List.take_append_drop i s]
          rw [List.drop_append_of_le_length (by rw [List.length_take]; omega)]
        rw [hsp, Tg.Sc.cut_app _ hno] at hq
        have hp : ∀ kd kd', lpart Tryz.prog 9 (str s) (some (.int kd (m : Int))) (some (.int kd' (i : Int))) = some (str ((s.take i).drop m)) := fun kd kd' =>
          lpart_str0 (u := none) (p := m) (q := i) Tryz.underlying9 (by rw [lbd_int (by omega), Int.toNat_natCast]) (by rw [lbd_int (by omega), Int.toNat_natCast]) ⟨hm, by omega⟩
        obtain ⟨v', H2, a1, a2, a3, a4⟩ := out_app (x := (s.take i).drop m) hrow hn (by omega)
        have hfin := fun fr2 (g0 : fr2 0 = str s) (g3 : fr2 3 = v') (g4 : fr2 4 = .int .i64 ((i + 1 : Nat) : Int)) (g5 : fr2 5 = .int .i64 ((i + 1 : Nat) : Int)) => ih (i + 1) fr2 H2 (by omega) ⟨v', acc ++ [(s.take i).drop m], i + 1, g0, g3, g4, g5, by omega, Nat.le_refl _, by rw [List.length_append]; simp; omega, by rw [← hq]; simp, by rw [List.drop_of_length_le (by rw [List.length_take]; omega)]; simp, a2, a3, fun k hk2 => by rw [a4 k hk2, hk k hk2]⟩
        have h10 : ((s[i].toNat : Int) = 10) = True := eq_true (by rw [hb]; rfl)
        clear ih hq a2 hrow
        generalize (s.take i).drop m = x at *
        generalize s[i] = b at *
        simp [f0, f4, f5, q, hat, h10, hp, bs1s, a1, hw1]
        refine hfin _ ?_ ?_ ?_ ?_
        all_goals simp [f0, hw1]
      · have h10 : ((s[i].toNat : Int) = 10) = False := eq_false (fun e => hb (UInt8.toNat_inj.mp (by show (s[i]).toNat = 10; omega)))
        have hfin := fun fr2 (g0 : fr2 0 = str s) (g3 : fr2 3 = fr' 3) (g4 : fr2 4 = .int .i64 (m : Int)) (g5 : fr2 5 = .int .i64 ((i + 1 : Nat) : Int)) => ih (i + 1) fr2 H' (by omega) ⟨fr' 3, acc, m, g0, g3, g4, g5, by omega, by omega, hal, hq, by rw [htk]; simp; exact ⟨hno, fun e => hb e.symm⟩, hrow, hn, hk⟩
        clear ih hq hrow htk
        generalize s[i] = b at *
        simp [f0, f4, f5, q, hat, h10]
        refine hfin _ ?_ ?_ ?_ ?_
        all_goals simp [f0, f4, hw1]
    · have q := eq_false (show ¬ (i : Int) < (s.length : Int) by omega)
      rw [List.take_of_length_le (by omega)] at hno
      rw [Tg.Sc.cut_one hno] at hq
      have hd : (Tg.Sc.cutAt 10 s).dropLast = acc := by rw [← hq]; simp
      rw [hd]
      simp [f0, f4, f5, q]
      exact ⟨TRow.of_own hrow, hn, hk⟩
  obtain ⟨r, e, ho⟩ := key
  obtain ⟨H2, e2, ho2⟩ := ho.trunc
  exact ⟨r.1, H2, by rw [e, ← e2], ho2⟩
end
end Go.Proofs.YthgcgjpbhbikaaaGreatDoor.Sc
/-
  Layer 40 (script): the reference's judge of events, of good ones; sizes of events whose lines are short.
-/
set_option linter.unusedSimpArgs false
set_option linter.unusedVariables false
set_option maxRecDepth 100000
namespace Go.Proofs.YthgcgjpbhbikaaaGreatDoor.Sc
open Go.Lg Go.Tg
section
variable {H H' : LH} {s : List UInt8} {v p : Value} {xs : List (List UInt8)} {c : Tg.Sc.Setup} {l : List Tg.Sc.Ev} {e : Tg.Sc.Ev} {N : Nat}
theorem mode_four {m : List UInt8} (h : Tg.Sc.modes.contains m = true) : m = [110, 111, 45, 99, 111, 114, 115] ∨ m = [99, 111, 114, 115] ∨ m = [115, 97, 109, 101, 45, 111, 114, 105, 103, 105, 110] ∨ m = [110, 97, 118, 105, 103, 97, 116, 101] := by
  unfold Tg.Sc.modes at h
  simpa only [List.contains_cons, List.contains_nil, Bool.or_false, Bool.or_eq_true, beq_iff_eq] using h
theorem rgood_t (hg : Tg.Sc.good e = true) (hr : HRow H p e.hdrs) (hz : EvZ e) : LC Tryz.prog EJ 11 [evv e p] H = some (.bool true, H) := by
  obtain ⟨pa, pn, pc, rfl⟩ := hr.slice
  refine LC_pure rfl Tryz.func11 rfl (Nat.le_of_ble_eq_true rfl) (by decide) (by kernel_rfl) rfl ?_
  obtain ⟨gk, g0, g1, g6, g7, ga, gb, gs, gt, gc, gd⟩ := good_kind hg
  obtain ⟨kind, id, url, src, mode, media, status, hdrs, body⟩ := e
  obtain ⟨z1, z2, z3, z4, z5, z6, z7, z8, z9, z10, z11, z12⟩ := hz
  simp only at gk g0 g1 g6 g7 ga gb gs gt gc gd z1 z2 z3 z4 z5 z6 z7 z8 z9 z10 z11 z12 hr
  clear hg
  obtain ⟨Hb, hHb⟩ : ∃ Hb, Hb = H.new ⟨[.int .i64 kind, .int .i64 id, str url, str src, str mode, .int .i64 media, .int .i64 status, .slice pa pn pc, str body], 36, true⟩ := ⟨_, rfl⟩
  have hble : H.le Hb := by rw [hHb]; exact le_refl.new
  have gb2 : Hb.get H.n = some ⟨[.int .i64 kind, .int .i64 id, str url, str src, str mode, .int .i64 media, .int .i64 status, .slice pa pn pc, str body], 36, true⟩ := by rw [hHb]; exact get_new
  have hrb : HRow Hb (.slice pa pn pc) hdrs := by rw [hHb]; exact hr.new1
  have i1 := eq_false (show ¬ (1000000 : Int) < id by omega)
  have i2 := eq_false (show ¬ id < 0 by omega)
  have hlen := fun G : LH => hr.len (H' := G)
  rcases gk with rfl | rfl | rfl | rfl | rfl | rfl
  · obtain ⟨a1, a2, a3, a4, a5⟩ := ga rfl
    obtain ⟨rfl, rfl⟩ := gt (by decide)
    obtain rfl := gd (by decide)
    have i3 := eq_false (show ¬ id < 1 by have := g7 (by decide); omega)
    have j1 := eq_false (show ¬ (1000 : Int) < (url.length : Int) by omega)
    have j2 := eq_false (show ¬ (1000 : Int) < (src.length : Int) by omega)
    have j3 := eq_false (show ¬ media < 0 by omega)
    have j4 := eq_false (show ¬ 2 < media by omega)
    obtain rfl : pn = 0 := by simpa using hlen H
    rcases mode_four a5 with rfl | rfl | rfl | rfl
    · simp [← hHb, gb2, hlen, i1, i2, i3, j1, j2, j3, j4, hble]
    · simp [← hHb, gb2, hlen, i1, i2, i3, j1, j2, j3, j4, hble]
    · simp [← hHb, gb2, hlen, i1, i2, i3, j1, j2, j3, j4, hble]
    · simp [← hHb, gb2, hlen, i1, i2, i3, j1, j2, j3, j4, hble]
  · obtain ⟨s1, s2, s3⟩ := gs rfl
    obtain ⟨rfl, rfl, rfl, rfl⟩ := gb (by decide)
    obtain rfl := gd (by decide)
    have i3 := eq_false (show ¬ id < 1 by have := g7 (by decide); omega)
    have hh := hgood_cl hrb (by omega) (fun h hh => by have := z6 h hh; omega)
    rw [s3] at hh
    have j3 := eq_false (show ¬ status < 0 by omega)
    have j4 := eq_false (show ¬ 9999 < status by omega)
    simp [← hHb, gb2, hlen, hh, i1, i2, i3, j3, j4, hble]
  · obtain ⟨rfl, rfl, rfl, rfl⟩ := gb (by decide)
    obtain ⟨rfl, rfl⟩ := gt (by decide)
    have i3 := eq_false (show ¬ id < 1 by have := g7 (by decide); omega)
    have j1 := eq_true (show (body.length : Int) ≤ 10000 by have := gc rfl; omega)
    obtain rfl : pn = 0 := by simpa using hlen H
    simp [← hHb, gb2, hlen, i1, i2, i3, j1, hble]
  · obtain ⟨rfl, rfl, rfl, rfl⟩ := gb (by decide)
    obtain ⟨rfl, rfl⟩ := gt (by decide)
    obtain rfl := gd (by decide)
    have i3 := eq_false (show ¬ id < 1 by have := g7 (by decide); omega)
    obtain rfl : pn = 0 := by simpa using hlen H
    simp [← hHb, gb2, hlen, i1, i2, i3, hble]
  · obtain ⟨rfl, rfl, rfl, rfl⟩ := gb (by decide)
    obtain ⟨rfl, rfl⟩ := gt (by decide)
    obtain rfl := gd (by decide)
    have i3 := eq_false (show ¬ id < 1 by have := g7 (by decide); omega)
    obtain rfl : pn = 0 := by simpa using hlen H
    simp [← hHb, gb2, hlen, i1, i2, i3, hble]
  · obtain ⟨rfl, rfl, rfl, rfl⟩ := gb (by decide)
    obtain ⟨rfl, rfl⟩ := gt (by decide)
    obtain rfl := gd (by decide)
    have i3 : id = 0 := g6 rfl
    subst i3
    obtain rfl : pn = 0 := by simpa using hlen H
    simp [← hHb, gb2, hlen, hble]
theorem feeds_mem {x : List UInt8} : ∀ {L : List (List UInt8)}, x ∈ L → x.length ≤ (Tg.Sc.feeds L).length
  | y :: L, h => by
    rw [Tg.Sc.feeds_cons, List.length_append, List.length_cons]
    rcases List.mem_cons.mp h with rfl | h
    · omega
    · have := feeds_mem h; omega
theorem evz_of (hg : Tg.Sc.good e = true) (hl : (Tg.Sc.feeds (Tg.Sc.shown e)).length ≤ 300000) : EvZ e := by
  obtain ⟨gk, g0, g1, g6, g7, ga, gb, gs, gt, gc, gd⟩ := good_kind hg
  have hm : e.mode.length ≤ 20 := by
    by_cases h : e.kind = 1
    · rcases mode_four (ga h).2.2.2.2 with h | h | h | h <;> rw [h] <;> decide
    · rw [(gb h).2.2.1]; decide
  have hh : e.hdrs.length ≤ 100 ∧ ∀ h ∈ e.hdrs, h.1.length ≤ 300000 ∧ h.2.length ≤ 300000 := by
    by_cases h : e.kind = 2
    · obtain ⟨_, _, h3⟩ := gs h
      unfold Tg.Hd.good at h3
      simp only [Bool.and_eq_true, decide_eq_true_eq, List.all_eq_true] at h3
      refine ⟨h3.1, fun x hx => ⟨?_, ?_⟩⟩
      · have hin : Tg.Sc.hline x ∈ Tg.Sc.shown e := by
          unfold Tg.Sc.shown Tg.Sc.headsL
          rw [if_neg (by omega), if_pos h]
          exact List.mem_cons_of_mem _ (List.mem_map_of_mem hx)
        have := feeds_mem hin
        unfold Tg.Sc.hline at this
        simp at this
        omega
      · have h4 := h3.2 x hx
        unfold Tg.Hd.fine at h4
        simp only [Bool.and_eq_true, decide_eq_true_eq] at h4
        omega
    · rw [(gt h).2]; exact ⟨by decide, fun x hx => by cases hx⟩
  have hu : e.url.length ≤ 1000 ∧ e.src.length ≤ 1000 ∧ 0 ≤ e.media ∧ e.media ≤ 2 := by
    by_cases h : e.kind = 1
    · obtain ⟨q1, q2, q3, q4, _⟩ := ga h; exact ⟨q1, q2, q3, q4⟩
    · obtain ⟨q1, q2, q3, q4⟩ := gb h; rw [q1, q2, q4]; decide
  have hst : 0 ≤ e.status ∧ e.status ≤ 9999 := by
    by_cases h : e.kind = 2
    · exact ⟨(gs h).1, (gs h).2.1⟩
    · rw [(gt h).1]; decide
  have hb : e.body.length ≤ 10000 := by
    by_cases h : e.kind = 3
    · exact gc h
    · rw [gd h]; decide
  exact ⟨by omega, by omega, by omega, by omega, by omega, hh.2, by omega, by omega, by omega, by omega, by omega, by omega⟩
theorem feeds_flat {l : List Tg.Sc.Ev} (h : e ∈ l) : (Tg.Sc.feeds (Tg.Sc.shown e)).length ≤ (Tg.Sc.feeds (l.flatMap Tg.Sc.shown)).length := by
  induction l with
  | nil => cases h
  | cons x l ih =>
    rw [List.flatMap_cons, Tg.Sc.feeds_app, List.length_append]
    rcases List.mem_cons.mp h with rfl | h
    · omega
    · have := ih h; omega
theorem feeds_part (L : List (List UInt8)) (m k : Nat) : (Tg.Sc.feeds ((L.take m).drop k)).length ≤ (Tg.Sc.feeds L).length := by
  have h1 : Tg.Sc.feeds L = Tg.Sc.feeds (L.take m) ++ Tg.Sc.feeds (L.drop m) := by rw [← Tg.Sc.feeds_app, List.take_append_drop]
  have h2 : Tg.Sc.feeds (L.take m) = Tg.Sc.feeds ((L.take m).take k) ++ Tg.Sc.feeds ((L.take m).drop k) := by rw [← Tg.Sc.feeds_app, List.take_append_drop]
  rw [h1, h2, List.length_append, List.length_append]
  omega
end
end Go.Proofs.YthgcgjpbhbikaaaGreatDoor.Sc
/-
  Layer 40 (script): the law of texts that are read.
-/
set_option linter.unusedSimpArgs false
set_option linter.unusedVariables false
set_option maxRecDepth 100000
namespace Go.Proofs.YthgcgjpbhbikaaaGreatDoor.Sc
open Go.Lg Go.Tg
section
variable {H H' : LH} {s : List UInt8}
theorem set0_ne : lbin Tryz.prog .neq 26 (suv Tg.Sc.set0) (.agg #[.bool false, .int .i64 0, .int .i64 0, .int .i64 0, .int .i64 0]) = some (.bool false) := by kernel_rfl
theorem setup_len : (Tg.Sc.setupT livesC).length = 20 := by decide +kernel
def restT : List UInt8 := [115, 101, 116, 117, 112, 32, 111, 114, 98, 32, 49, 52, 52, 53, 32, 57, 32, 50, 32, 50, 10]
theorem restT_eq : restT = Tg.Sc.setupT livesC ++ [10] := by decide +kernel
theorem livesC_fine : Tg.Sc.fineS livesC = true := by decide +kernel
theorem reads_law (hm : MaxL H) (ht : Tab H) (h10 : Tab10 H) : LC Tryz.prog EJ 3 [str s] H = some (.bool true, H) := by
  refine LC_pure rfl Tryz.func3 rfl (Nat.le_of_ble_eq_true rfl) (by decide) (by kernel_rfl) rfl ?_
  have c1 := fun H : LH => hcut_cl (H := H) (s := s) (k := 600) (by decide)
  have t600 : (600 : Int).toNat = 600 := rfl
  rw [t600] at c1
  have hs : (s.take 600).length ≤ 600 := by rw [List.length_take]; omega
  generalize s.take 600 = x at *
  obtain ⟨⟨u, H1⟩, e1, p, hu, hle, hr⟩ := read_ex (s := x) (by omega) hm ht h10
  have b1 : Bs H H1 := ext_bs e1
  simp only at hu hle
  subst hu
  obtain ⟨⟨c, l, n, f⟩, hR⟩ : ∃ q, Tg.Sc.readP x = q := ⟨_, rfl⟩
  rw [hR] at e1 hr
  simp only at e1 hr
  obtain ⟨pa, pn, pc, rfl⟩ := hr.slice
  obtain ⟨G, hG⟩ : ∃ G, G = H1.new ⟨[.bool c.legacy, .int .i64 c.look, .int .i64 c.depth, .int .i64 c.table, .int .i64 c.valid], 26, true⟩ := ⟨_, rfl⟩
  have nG : G.n = H1.n + 1 := by rw [hG]; rfl
  have gG : G.get H1.n = some ⟨[.bool c.legacy, .int .i64 c.look, .int .i64 c.depth, .int .i64 c.table, .int .i64 c.valid], 26, true⟩ := by rw [hG]; exact get_new
  have leG : H.le G := by rw [hG]; exact hle.new
  have bG : Bs H G := by rw [hG]; exact b1
  have hrG : ERow H.n G (.slice pa pn pc) l := hr.keep (by omega) (fun k hk => by rw [hG, get_new_ne (by omega)])
  by_cases hf : f = 0
  · subst hf
    obtain ⟨hgood, hfine, hprint, rfl⟩ := Tg.Sc.read_ok hR
    have hev : ∀ e ∈ l, EvZ e := fun e he => evz_of (hgood e he) (by
      have h1 := feeds_flat he
      have h2 := congrArg List.length hprint
      unfold Tg.Sc.printT at h2
      rw [List.length_append, List.length_cons] at h2
      omega)
    have hfi := rfine_cl (H := G) (c := c)
    have hpr := rprint_cl hfine hrG hgood hev (by rw [hprint]; omega)
    have lv := lives_cl (hm.bs bG) (ht.bs bG) (h10.bs bG)
    rw [hprint] at hpr
    rw [hfine] at hfi
    have hlen := fun K : LH => hrG.len (H' := K)
    have hll : l.length ≤ 600 := by
      have h1 := Tg.Sc.flat_len l hgood
      have h3 := Tg.Sc.feeds_len (l.flatMap Tg.Sc.shown)
      have h2 := congrArg List.length hprint
      unfold Tg.Sc.printT at h2
      rw [List.length_append, List.length_cons] at h2
      omega
    clear hm ht h10 hR hprint
    simp [c1, e1, ← hG]
    refine loop_ind (fun (i : Nat) fr' H' => fr' 0 = str x ∧ fr' 3 = ptr H1.n 0 ∧ fr' 4 = .slice pa pn pc ∧ fr' 5 = .int .i64 0 ∧ fr' 7 = .int .i64 i ∧ i ≤ l.length ∧ G = H') (fun i => l.length - i) 0 ⟨by simp, by simp, by simp, by simp, by simp, Nat.zero_le _, rfl⟩ ?_
    rintro i fr' H' ⟨f0, f3, f4, f5, f7, hi, rfl⟩ ih
    by_cases hlt : i < l.length
    · have q0 := eq_true (show (i : Int) < (l.length : Int) by omega)
      have hw1 : IntKind.i64.wrap ((i : Int) + 1) = ((i + 1 : Nat) : Int) := by rw [wrapI (by omega) (by omega)]; omega
      obtain ⟨k, o, q, a1, a2, a3, a4⟩ := hrG.at hlt
      have a5 := (a4 G rfl).1
      have hmem : l[i] ∈ l := List.getElem_mem hlt
      have hge := rgood_t (hgood _ hmem) (HOwn.row a3) (hev _ hmem)
      generalize l[i] = e at *
      have hfin := fun fr2 (g0 : fr2 0 = str x) (g3 : fr2 3 = ptr H1.n 0) (g4 : fr2 4 = .slice pa pn pc) (g5 : fr2 5 = .int .i64 0) (g7 : fr2 7 = .int .i64 ((i + 1 : Nat) : Int)) => ih (i + 1) fr2 G (by omega) ⟨g0, g3, g4, g5, g7, by omega, rfl⟩
      clear ih hpr hfi lv
      simp [f3, f4, f7, q0, hlen, a1, a5, hge]
      refine hfin _ ?_ ?_ ?_ ?_ ?_
      all_goals simp [f0, f3, f4, f5, hw1]
    · have q0 := eq_false (show ¬ (i : Int) < (l.length : Int) by omega)
      simp [f0, f3, f4, f5, f7, q0, hlen, gG, hfi, hpr, lv]
      exact leG
  · obtain ⟨k, hk1, hk2, hk3⟩ := Tg.Sc.read_no hs (by rw [hR]; exact hf)
    rw [hR] at hk1
    simp only [Prod.mk.injEq] at hk1
    obtain ⟨rfl, rfl, rfl, rfl⟩ := hk1
    obtain ⟨w, H3, e3, ⟨hrow, hle3⟩⟩ := rcut_ex (H := G) (s := x) (by omega)
    have b3 : Bs H H3 := bG.trans (ext_bs e3)
    have le3 : H.le H3 := le_trans leG hle3
    have gz : H3.get H1.n = some ⟨[.bool false, .int .i64 0, .int .i64 0, .int .i64 0, .int .i64 0], 26, true⟩ := by rw [hle3.2 _ (by omega)]; exact gG
    obtain rfl : pn = 0 := by
      have := hrG.len (H' := G)
      simpa using this
    have hne := set0_ne
    unfold Tg.Sc.set0 at hne
    have hcb := Tg.Sc.cut_back x
    have hfl : (Tg.Sc.feeds (Tg.Sc.cutAt 10 x).dropLast).length ≤ 600 := by
      have := congrArg List.length hcb
      rw [List.length_append] at this
      omega
    clear hcb hr hR hf
    generalize (Tg.Sc.cutAt 10 x).dropLast = all at *
    have hal : all.length ≤ 600 := by have := Tg.Sc.feeds_len all; omega
    have hlen := fun K : LH => hrow.len (H' := K)
    have q1 := eq_false (show ¬ ((k : Int) + 1 < 1) by omega)
    have q5 := eq_false (show ¬ ((k : Int) < 0) by omega)
    have q6 := eq_false (show ¬ ((all.length : Int) < (k : Int)) by omega)
    have q2 := eq_false (show ¬ ((all.length : Int) + 1 < (k : Int) + 1) by omega)
    have w1 : IntKind.i64.wrap ((all.length : Int) + 1) = (all.length : Int) + 1 := wrapI (by omega) (by omega)
    have w2 : IntKind.i64.wrap (k : Int) = (k : Int) := wrapI (by omega) (by omega)
    have lv := lives_cl (hm.bs b3) (ht.bs b3) (h10.bs b3)
    by_cases hk0 : k = 0
    · subst hk0
      have q4 := eq_false (show ¬ ((all.length : Int) + 1 < 1) by omega)
      simp [c1, e1, ← hG, e3, hlen, gz, hne, q4, w1, lv]
      exact le3
    obtain ⟨⟨c', l', ha⟩, hno⟩ := hk3 hk0
    have q3 : ((k : Int) = 0) = False := eq_false (by omega)
    have q7 : ((k : Int) + 1 = 1) = False := eq_false (by omega)
    obtain ⟨⟨u4, H4⟩, e4, p4, hu4, hle4, _⟩ := read_ex (H := H3) (s := Tg.Sc.feeds (all.take k)) (by have := feeds_part all k 0; rw [List.drop_zero] at this; omega) (hm.bs b3) (ht.bs b3) (h10.bs b3)
    have b4 : Bs H H4 := b3.trans (ext_bs e4)
    rw [ha] at hu4
    simp only at hu4 hle4
    subst hu4
    clear lv
    simp [c1, e1, ← hG, e3, hlen, gz, hne, q1, q2, q3, q5, q6, q7, w1]
    refine loop_ind (fun (i : Nat) fr' H' => fr' 5 = .int .i64 ((k : Int) + 1) ∧ fr' 8 = w ∧ fr' 9 = str (Tg.Sc.feeds (all.take i)) ∧ fr' 10 = str restT ∧ fr' 11 = .int .i64 i ∧ i ≤ k ∧ H3 = H') (fun i => k - i) 0 ⟨by simp, by simp, by simp [Tg.Sc.feeds], by simp [restT], by simp, Nat.zero_le _, rfl⟩ ?_
    rintro i fr' H' ⟨f5, f8, f9, f10, f11, hi, rfl⟩ ih
    by_cases hlt : i < k
    · have q0 := eq_true (show (i : Int) < (k : Int) by omega)
      have hw1 : IntKind.i64.wrap ((i : Int) + 1) = ((i + 1 : Nat) : Int) := by rw [wrapI (by omega) (by omega)]; omega
      have hia : i < all.length := by omega
      obtain ⟨k1, o1, g1, _, g3⟩ := hrow.at hia
      have g4 := g3 H3 rfl
      have hfe : Tg.Sc.feeds (all.take (i + 1)) = Tg.Sc.feeds (all.take i) ++ (all[i] ++ [10]) := by
        rw [List.take_succ_eq_append_getElem hia, Tg.Sc.feeds_app]; simp [Tg.Sc.feeds]
      have hl1 := feeds_part all (i + 1) 0
      rw [List.drop_zero, hfe] at hl1
      simp only [List.length_append, List.length_cons, List.length_nil] at hl1
      have hfin := fun fr2 (g5 : fr2 5 = .int .i64 ((k : Int) + 1)) (g8 : fr2 8 = w) (g9 : fr2 9 = str (Tg.Sc.feeds (all.take (i + 1)))) (g10 : fr2 10 = str restT) (g11 : fr2 11 = .int .i64 ((i + 1 : Nat) : Int)) => ih (i + 1) fr2 H3 (by omega) ⟨g5, g8, g9, g10, g11, by omega, rfl⟩
      rw [hfe] at hfin
      have d1 := cc (a := Tg.Sc.feeds (all.take i)) (b := all[i]) (by omega)
      have d2 : ∀ t, lbin Tryz.prog .add t (str (Tg.Sc.feeds (all.take i) ++ all[i])) (str [10]) = some (str (Tg.Sc.feeds (all.take i) ++ (all[i] ++ [10]))) := fun t => by rw [cc (by simp; omega)]; simp
      clear ih e4
      generalize Tg.Sc.feeds (all.take i) = y at *
      generalize all[i] = z at *
      simp [f5, f8, f9, f11, w2, q0, g1, g4, d1, d2]
      refine hfin _ ?_ ?_ ?_ ?_ ?_
      all_goals simp [f5, f8, f10, hw1]
    · obtain rfl : i = k := by omega
      have q0 := eq_false (show ¬ (i : Int) < (i : Int) by omega)
      obtain ⟨H5, hH5⟩ : ∃ H5, H5 = H4.new ⟨[.bool c'.legacy, .int .i64 c'.look, .int .i64 c'.depth, .int .i64 c'.table, .int .i64 c'.valid], 26, true⟩ := ⟨_, rfl⟩
      have le5 : H3.le H5 := by rw [hH5]; exact hle4.new
      have b5 : Bs H H5 := by rw [hH5]; exact b4
      clear ih
      simp [f5, f8, f9, f11, w2, q0, e4, ← hH5]
      refine loop_ind (fun (j : Nat) fr' H' => ∃ r, fr' 8 = w ∧ fr' 10 = str r ∧ r = restT ++ Tg.Sc.feeds ((all.take j).drop i) ∧ fr' 15 = .int .i64 0 ∧ fr' 16 = .int .i64 j ∧ i ≤ j ∧ j ≤ all.length ∧ H3.le H' ∧ Bs H H') (fun j => all.length - j) i ⟨restT, by simp [f8], by simp [f10], by rw [List.drop_of_length_le (by rw [List.length_take]; omega)]; simp [Tg.Sc.feeds], by simp, by simp, Nat.le_refl _, hk2, le5, b5⟩ ?_
      rintro j fr2 H' ⟨r, k8, k10, hr, k15, k16, hj, hj2, hjl, hjb⟩ ih
      have hrow' : TRow H' w all := hrow.keep hjl.1 hjl.2
      by_cases hlt2 : j < all.length
      · have p0 := eq_true (show (j : Int) < (all.length : Int) by omega)
        have hw1 : IntKind.i64.wrap ((j : Int) + 1) = ((j + 1 : Nat) : Int) := by rw [wrapI (by omega) (by omega)]; omega
        obtain ⟨k1, o1, g1, _, g3⟩ := hrow'.at hlt2
        have g4 := g3 H' rfl
        have hfe : Tg.Sc.feeds ((all.take (j + 1)).drop i) = Tg.Sc.feeds ((all.take j).drop i) ++ (all[j] ++ [10]) := by
          rw [List.take_succ_eq_append_getElem hlt2, List.drop_append_of_le_length (by rw [List.length_take]; omega), Tg.Sc.feeds_app]; simp [Tg.Sc.feeds]
        have hl1 := feeds_part all (j + 1) i
        have hn := hno livesC (j + 1) livesC_fine (by omega) (by omega) (by rw [setup_len]; decide)
        have hrt : Tg.Sc.setupT livesC ++ 10 :: Tg.Sc.feeds ((all.take (j + 1)).drop i) = r ++ (all[j] ++ [10]) := by
          rw [hfe, hr, restT_eq]; simp
        have hr2 : r ++ (all[j] ++ [10]) = restT ++ Tg.Sc.feeds ((all.take (j + 1)).drop i) := by rw [hfe, hr]; simp
        rw [hrt] at hn
        have hlr : (r ++ (all[j] ++ [10])).length ≤ 621 := by
          rw [hr2, List.length_append]
          have : restT.length = 21 := rfl
          omega
        obtain ⟨⟨u6, H6⟩, e6, p6, hu6, hle6, _⟩ := read_ex (H := H') (s := r ++ (all[j] ++ [10])) (by omega) (hm.bs hjb) (ht.bs hjb) (h10.bs hjb)
        have b6 : Bs H H6 := hjb.trans (ext_bs e6)
        simp only at hu6 hle6
        obtain ⟨⟨c2, l2, n2, x2⟩, hR2⟩ : ∃ q, Tg.Sc.readP (r ++ (all[j] ++ [10])) = q := ⟨_, rfl⟩
        rw [hR2] at hn hu6
        simp only at hn hu6
        subst hu6
        have hn := eq_false hn
        have d1 := cc (a := r) (b := all[j]) (by simp at hlr; omega)
        have d2 : ∀ t, lbin Tryz.prog .add t (str (r ++ all[j])) (str [10]) = some (str (r ++ (all[j] ++ [10]))) := fun t => by rw [cc (by simp at hlr ⊢; omega)]; simp
        have hfin := fun fr3 H7 (g8 : fr3 8 = w) (g10 : fr3 10 = str (r ++ (all[j] ++ [10]))) (g15 : fr3 15 = .int .i64 0) (g16 : fr3 16 = .int .i64 ((j + 1 : Nat) : Int)) (g7 : H6.le H7) (gb : Bs H6 H7) => ih (j + 1) fr3 H7 (by omega) ⟨_, g8, g10, hr2, g15, g16, by omega, by omega, le_trans hjl (le_trans hle6 g7), b6.trans gb⟩
        clear ih hr2 hrt hfe hl1 hlr hR2 hno hr
        generalize all[j] = z at *
        simp [k8, k10, k15, k16, p0, hlen, g1, g4, d1, d2, e6, hn]
        refine hfin _ _ ?_ ?_ ?_ ?_ ?_ ?_
        all_goals first | exact le_refl.new | exact ⟨rfl, rfl⟩ | simp [k8, k15, hw1]
      · have p0 := eq_false (show ¬ (j : Int) < (all.length : Int) by omega)
        have lv := lives_cl (hm.bs hjb) (ht.bs hjb) (h10.bs hjb)
        simp [k8, k10, k15, k16, p0, hlen, lv]
        exact le_trans le3 hjl
end
end Go.Proofs.YthgcgjpbhbikaaaGreatDoor.Sc
/-
  What the listed package variables, and the world's shape, give to the laws of layer 40: the table of powers of ten, the table of blanks, the machine's number that the search in strings reads.
-/
set_option linter.unusedSimpArgs false
set_option linter.unusedVariables false
set_option maxRecDepth 100000
namespace Go.Proofs.YthgcgjpbhbikaaaGreatDoor
open Go.ChangeShapes Go.WideShapes Go.ChangeAt Go.RowKit Go.Tg Go.Lg

noncomputable def laidC : List (String × DataW Unit) := [("math/bits.deBruijn32tab", Rows.laid_math_bits_deBruijn32tab), ("math/bits.deBruijn64tab", Rows.laid_math_bits_deBruijn64tab), ("internal/strconv.uint64pow10", Rows.laid_internal_strconv_uint64pow10), ("unicode/utf8.acceptRanges", Rows.laid_unicode_utf8_acceptRanges), ("unicode.White_Space", Rows.laid_unicode_White_Space), ("strings.asciiSpace", Rows.laid_strings_asciiSpace), ("unicode/utf8.first", Rows.laid_unicode_utf8_first)]
theorem gPowC : Tryz.prog.globalNamed "internal/strconv.uint64pow10" = some 5 := by kernel_rfl
theorem gTabC : Tryz.prog.globalNamed "strings.asciiSpace" = some 0 := by kernel_rfl
theorem laid_plainC {W : World} (h : laidMetH Tryz.prog laidC W) : laidMet Tryz.prog laidC W := by rwa [MakeChecks.laidMetH_plain _ _ _ (by kernel_rfl)] at h
theorem pow_of_laidC {W : World} (h : laidMetH Tryz.prog laidC W) : Lib.TabIs Tryz.prog W "internal/strconv.uint64pow10" .u64 Lib.pow10Tab := by
  have h2 := (laid_plainC h).filter (fun x => x.1 == "internal/strconv.uint64pow10")
  have e : laidC.filter (fun x => x.1 == "internal/strconv.uint64pow10") = [("internal/strconv.uint64pow10", Lib.tabData .u64 Lib.pow10Tab)] := by kernel_rfl
  rw [e] at h2
  exact Lib.tabIs_of_head (g := 5) (t := 166) (e := 108) (n := 20) gPowC (by kernel_rfl) (by kernel_rfl) (by kernel_rfl) (by kernel_rfl) (by kernel_rfl) h2
theorem tab_of_laidC {W : World} (h : laidMetH Tryz.prog laidC W) : Lib.TabIs Tryz.prog W "strings.asciiSpace" .u8 Lib.asciiSpaceTab := by
  have h2 := (laid_plainC h).filter (fun x => x.1 == "strings.asciiSpace")
  have e : laidC.filter (fun x => x.1 == "strings.asciiSpace") = [("strings.asciiSpace", Lib.tabData .u8 Lib.asciiSpaceTab)] := by kernel_rfl
  rw [e] at h2
  exact Lib.tabIs_of_head (g := 0) (t := 118) (e := 5) (n := 256) gTabC (by kernel_rfl) (by kernel_rfl) (by kernel_rfl) (by kernel_rfl) (by kernel_rfl) h2
theorem sizeC {W : World} (h : laidMetH Tryz.prog laidC W) : 5 + 1 ≤ W.heap.size := by
  have h1 := pow_of_laidC h
  have := h1.cell gPowC 0 (by decide)
  rcases Nat.lt_or_ge 5 W.heap.size with h2 | h2
  · exact h2
  · simp [World.cell?, Array.getElem?_eq_none h2] at this
theorem tab10C {W : World} (h : laidMetH Tryz.prog laidC W) : Tab10 (LH.empty W (5 + 1)) := ⟨by show 5 < 5 + 1; decide, pow_of_laidC h⟩
theorem tabC {W : World} (h : laidMetH Tryz.prog laidC W) : Tab (LH.empty W (5 + 1)) := ⟨by show 0 < 5 + 1; decide, tab_of_laidC h⟩
theorem maxC {W : World} (h : W.ShapedOpen Tryz.prog) : MaxL (LH.empty W (5 + 1)) := by
  refine ⟨by show 2 < 5 + 1; decide, ?_⟩
  exact Go.Proofs.cell_of_shapedOpen_int (P := Tryz.prog) (w := W) (zero := #[.int .i64 0]) (t := 3) (g := 2) h (of_decide_eq_true (by kernel_rfl)) (by kernel_rfl) rfl (by kernel_rfl) (by kernel_rfl) Tryz.underlying3
theorem tab10CL {W : World} (h : laidMetH Tryz.prog laidC W) : Tab10 (LH.lift W (5 + 1)) := ⟨by show 5 < 5 + 1; decide, pow_of_laidC h⟩
theorem tabCL {W : World} (h : laidMetH Tryz.prog laidC W) : Tab (LH.lift W (5 + 1)) := ⟨by show 0 < 5 + 1; decide, tab_of_laidC h⟩
theorem maxCL {W : World} (h : W.ShapedOpen Tryz.prog) : MaxL (LH.lift W (5 + 1)) := by
  refine ⟨by show 2 < 5 + 1; decide, ?_⟩
  exact Go.Proofs.cell_of_shapedOpen_int (P := Tryz.prog) (w := W) (zero := #[.int .i64 0]) (t := 3) (g := 2) h (of_decide_eq_true (by kernel_rfl)) (by kernel_rfl) rfl (by kernel_rfl) (by kernel_rfl) Tryz.underlying3
theorem returns_and_shaped {H : Type} {enc : TypeId × Value → H} {a : Assume} {C : Checked} {os : Os} {f : FuncId} {fn : Func} {s : ChangeSpec} {conds : List PathCond} {apart fresh handsOn again : Bool} {X : World → Array Value → Prop}
    (hX : ∀ (w w' : World) (args : Array Value), w.heap = w'.heap → X w args → X w' args)
    (own : Go.ownKnob C.prog.godebug = none) (started : os.Started) (noInit : C.prog.inits.idxOf? f = none) (hfn : C.prog.funcs[f]? = some fn)
    (witness : ∃ (w : World) (tape : Tape) (i : Input), w.os = os ∧ (w.forCall tape i).Shaped C.prog ∧ i.vars = [] ∧ Input.okWide C.prog (w.forCall tape i) .any w.heap.size f i ∧
      ((s.pre enc C.prog fn conds apart (w.forCall tape i).memory i.args ∧ X (w.forCall tape i).memory i.args) ∧ sizedMet enc C.prog fn (OpenSpec.ofChange s) apart (w.forCall tape i).memory i.args) ∧ a.holds C.prog (lone (Frame.enter C.prog f i.args .normal) [] (w.forCall tape i)))
    (contract : ∀ (W : World) (base : Nat) (args : Array Value) (ds gs : List (DataW H)) (before : List MemPlace),
      (∀ (j : Nat) t v, fn.params[j]? = some t → args[j]? = some v → Value.okWide C.prog W .any base t v) →
      DataW.Whole enc C.prog fn.params.toList s.vars apart W args.toList ds gs before →
      X W args → W.ShapedOpen C.prog →
      Calls C.prog f args W fun e W' => ∃ v, e = .returned v ∧ s.post enc C.prog fn apart fresh handsOn again W args v W') :
    ReturnsInHanded a C os f .any (fun w args => (s.pre enc C.prog fn conds apart w args ∧ X w args) ∧ sizedMet enc C.prog fn (OpenSpec.ofChange s) apart w args) (s.post enc C.prog fn apart fresh handsOn again) := by
  refine returnsInHanded_of_calls own started noInit witness ?_
  intro w tape i _ hsh _ hok hpre hholds
  obtain ⟨_, _, _, fn', hfn', _, _, _, _, hval⟩ := hok
  have e : fn' = fn := Option.some.inj (hfn'.symm.trans hfn)
  subst e
  obtain ⟨⟨⟨ds, gs, before, hw, hc⟩, hx⟩, hz⟩ := hpre
  have hw' := DataW.Whole.of_heap (w' := w.forCall tape i) (by rfl) hw
  refine (contract (w.forCall tape i) w.heap.size i.args ds gs before hval hw' (hX _ _ _ (by rfl) hx) hsh).mono fun e W' ⟨v, he, hp⟩ => ?_
  subst he
  exact ChangeSpec.post_blind hp
end Go.Proofs.YthgcgjpbhbikaaaGreatDoor
