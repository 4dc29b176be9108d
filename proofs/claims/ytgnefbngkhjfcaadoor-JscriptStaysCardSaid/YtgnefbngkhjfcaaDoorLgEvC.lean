/-
  A logical run of Go code: parts of strings and rows, elements, append, conversions, structs.
-/
import Derived.Test.YtgnefbngkhjfcaaDoorLgEvB
set_option linter.unusedSimpArgs false
set_option linter.unusedVariables false
namespace Go.Lg
open Go.Tg Go.RowKit

section
variable {P : Program} {E : Ext} {fn : Func} {k : List Item} {fr : Fr} {H H' : LH} {Q : Value × LH → Prop} {all : Array Oper} {os : List Oper} {d : Nat} {op : Op} {T : Callee} {b c : LB} {l m : Nat} {t e : TypeId} {kd kd' : IntKind} {x y : List UInt8} {i j : Int}
attribute [simp] lidx_str lbuiltin_len_str lbuiltin_len_slice
/-! ### parts -/
def evo (fr : Fr) (o : Option Operand) : Option Value := o.map (ev fr)
@[simp ↓] theorem evo_none : evo fr none = none := rfl
@[simp ↓] theorem evo_some {x : Operand} : evo fr (some x) = some (ev fr x) := rfl
def lbd (d : Nat) : Option Value → Option Nat
  | none => some d
  | some (.int _ i) => if 0 ≤ i then some i.toNat else none
  | _ => none
theorem lbound_eq {d : Nat} {o : Option Operand} : lbound fr d o = lbd d (evo fr o) := by
  cases o with
  | none => rfl
  | some x => simp only [lbound, evo, Option.map_some]; cases ev fr x <;> rfl
def lpart (P : Program) (t : TypeId) (x : Value) (lo hi : Option Value) : Option Value :=
  match P.underlying t, x with
  | some .string, .string s =>
    match lbd 0 lo, lbd s.size hi with
    | some a, some b => if a ≤ b ∧ b ≤ s.size then some (.string (s.extract a b)) else none
    | _, _ => none
  | some (.slice e), .slice a n c =>
    match lbd 0 lo, lbd n hi, sz P e with
    | some i, some j, some s => if i ≤ j ∧ j ≤ n then
        match a with
        | some ⟨l, o, none⟩ => some (.slice (some ⟨l, o + i * s, none⟩) (j - i) (c - i))
        | none => some (.slice none 0 0)
        | _ => none
      else none
    | _, _, _ => none
  | _, _ => none
@[simp ↓] theorem lopx_slice {x : Operand} {lo hi : Option Operand} : lopx P T (.slice t x lo hi none) fr H = withH (lpart P t (ev fr x) (evo fr lo) (evo fr hi)) H := by
  show (lslice P t (ev fr x) fr lo hi).map _ = _
  unfold lslice lpart withH
  simp only [lbound_eq]
  rfl
theorem ext_str {a b : Nat} : (⟨x.toArray⟩ : ByteArray).extract a b = ⟨((x.take b).drop a).toArray⟩ := by
  apply ByteArray.ext
  rw [ByteArray.data_extract, List.drop_take]
  simp
theorem lpart_str0 {u : Option TypeDesc} (hu : P.underlying t = some .string) {a b : Option Value} {p q : Nat} (ha : lbd 0 a = some p) (hb : lbd x.length b = some q) (h : p ≤ q ∧ q ≤ x.length) : lpart P t (str x) a b = some (str ((x.take q).drop p)) := by
  unfold lpart str
  simp only [hu, ha, ba_size, hb, if_pos h, ext_str]
theorem lbd_int {d : Nat} (h : 0 ≤ i) : lbd d (some (.int kd i)) = some i.toNat := by simp only [lbd, if_pos h]
@[simp] theorem lpart_str_nn (hu : P.underlying t = some .string) : lpart P t (str x) none none = some (str x) := by
  rw [lpart_str0 (u := none) hu rfl rfl ⟨Nat.zero_le _, Nat.le_refl _⟩]; simp
@[simp] theorem lpart_str_ns (hu : P.underlying t = some .string) (h0 : 0 ≤ j) (h1 : j ≤ x.length) : lpart P t (str x) none (some (.int kd j)) = some (str (x.take j.toNat)) := by
  rw [lpart_str0 (u := none) hu rfl (lbd_int h0) ⟨Nat.zero_le _, by omega⟩]; simp
@[simp] theorem lpart_str_sn (hu : P.underlying t = some .string) (h0 : 0 ≤ i) (h1 : i ≤ x.length) : lpart P t (str x) (some (.int kd i)) none = some (str (x.drop i.toNat)) := by
  rw [lpart_str0 (u := none) hu (lbd_int h0) rfl ⟨by omega, Nat.le_refl _⟩]; simp
@[simp] theorem lpart_str_ss (hu : P.underlying t = some .string) (h0 : 0 ≤ i) (h1 : i ≤ j) (h2 : j ≤ x.length) : lpart P t (str x) (some (.int kd i)) (some (.int kd' j)) = some (str (sub x i j)) :=
  lpart_str0 (u := none) hu (lbd_int h0) (lbd_int (by omega)) ⟨by omega, by omega⟩
theorem lpart_row0 {s o n c : Nat} (hu : P.underlying t = some (.slice e)) (hs : sz P e = some s) {a b : Option Value} {p q : Nat} (ha : lbd 0 a = some p) (hb : lbd n b = some q) (h : p ≤ q ∧ q ≤ n) : lpart P t (.slice (some ⟨l, o, none⟩) n c) a b = some (.slice (some ⟨l, o + p * s, none⟩) (q - p) (c - p)) := by
  unfold lpart
  simp only [hu, ha, hs, hb, if_pos h]
@[simp] theorem lpart_row_nn {s o n c : Nat} (hu : P.underlying t = some (.slice e)) (hs : sz P e = some s) : lpart P t (.slice (some ⟨l, o, none⟩) n c) none none = some (.slice (some ⟨l, o, none⟩) n c) := by
  rw [lpart_row0 hu hs rfl rfl ⟨Nat.zero_le _, Nat.le_refl _⟩]; simp
@[simp] theorem lpart_row_ns {s o n c : Nat} (hu : P.underlying t = some (.slice e)) (hs : sz P e = some s) (h0 : 0 ≤ j) (h1 : j ≤ n) : lpart P t (.slice (some ⟨l, o, none⟩) n c) none (some (.int kd j)) = some (.slice (some ⟨l, o, none⟩) j.toNat c) := by
  rw [lpart_row0 hu hs rfl (lbd_int h0) ⟨Nat.zero_le _, by omega⟩]; simp
@[simp] theorem lpart_row_sn {s o n c : Nat} (hu : P.underlying t = some (.slice e)) (hs : sz P e = some s) (h0 : 0 ≤ i) (h1 : i ≤ n) : lpart P t (.slice (some ⟨l, o, none⟩) n c) (some (.int kd i)) none = some (.slice (some ⟨l, o + i.toNat * s, none⟩) (n - i.toNat) (c - i.toNat)) := by
  rw [lpart_row0 hu hs (lbd_int h0) rfl ⟨by omega, Nat.le_refl _⟩]
@[simp] theorem lpart_row_ss {s o n c : Nat} (hu : P.underlying t = some (.slice e)) (hs : sz P e = some s) (h0 : 0 ≤ i) (h1 : i ≤ j) (h2 : j ≤ n) : lpart P t (.slice (some ⟨l, o, none⟩) n c) (some (.int kd i)) (some (.int kd' j)) = some (.slice (some ⟨l, o + i.toNat * s, none⟩) (j.toNat - i.toNat) (c - i.toNat)) :=
  lpart_row0 hu hs (lbd_int h0) (lbd_int (by omega)) ⟨by omega, by omega⟩
@[simp] theorem lpart_nil {s : Nat} (hu : P.underlying t = some (.slice e)) (hs : sz P e = some s) : lpart P t (.slice none 0 0) none none = some (.slice none 0 0) := by
  unfold lpart; simp [hu, lbd, hs]
/-! ### elements -/
def lixa (P : Program) (t : TypeId) (x i : Value) (H : LH) : Option (Value × LH) := match x, i, P.underlying t with
  | .slice (some ⟨l, off, none⟩) n _, .int _ k, some (.slice e) => match sz P e with
    | some s => if 0 ≤ k ∧ k < n then some (.pointer (some ⟨l, off + k.toNat * s, none⟩), H) else none
    | none => none
  | _, _, _ => none
@[simp ↓] theorem lopx_indexAddr {x i : Operand} : lopx P T (.indexAddr t x i) fr H = lixa P t (ev fr x) (ev fr i) H := rfl
@[simp] theorem lixa_row {s off n c : Nat} (hu : P.underlying t = some (.slice e)) (hs : sz P e = some s) (h0 : 0 ≤ i) (h1 : i < n) : lixa P t (.slice (some ⟨l, off, none⟩) n c) (.int kd i) H = some (ptr l (off + i.toNat * s), H) := by
  simp only [lixa, hu, hs, if_pos (And.intro h0 h1)]
/-! ### append -/
def lesrc (P : Program) (t : TypeId) (y : Value) (H : LH) : Option (Nat × List Value) :=
  match P.underlying t with
  | some (.slice e) => match lesz P e with
    | some s => lsrc s y H
    | none => none
  | _ => none
@[simp] theorem lesrc_nil {s : Nat} (hu : P.underlying t = some (.slice e)) (hs : lesz P e = some s) : lesrc P t (.slice none 0 0) H = some (0, []) := by
  simp only [lesrc, hu, hs, lsrc]
@[simp] theorem lesrc_row {s o n c : Nat} (hu : P.underlying t = some (.slice e)) (hs : lesz P e = some s) (hb : H.get l = some b) (hle : o + n * s ≤ b.cells.length) : lesrc P t (.slice (some ⟨l, o, none⟩) n c) H = some (n, (b.cells.drop o).take (n * s)) := by
  simp only [lesrc, hu, hs, lsrc, hb, lcells, if_pos hle, Option.map_some]
def lapp (P : Program) (t : TypeId) (x : Value) (src : Option (Nat × List Value)) (H : LH) : Option (Value × LH) :=
  match P.underlying t, src with
  | some (.slice e), some (m, new) =>
    match lesz P e with
    | some s =>
        if new.all cellB then
          match x with
          | .slice none 0 0 => if m = 0 then some (x, H) else if m ≤ maxElems then some (.slice (some ⟨H.n, 0, none⟩) m m, H.new ⟨new, e, true⟩) else none
          | .slice (some ⟨l, o, none⟩) n c =>
            match H.get l with
            | some b =>
              if b.rw = true ∧ b.elem = e ∧ o = 0 ∧ b.cells.length = c * s ∧ n ≤ c then
                if m = 0 then some (x, H)
                else if n + m ≤ c then some (.slice (some ⟨l, 0, none⟩) (n + m) c, H.set l { b with cells := splice b.cells (n * s) new })
                else if n = c ∧ n + m ≤ maxElems then some (.slice (some ⟨H.n, 0, none⟩) (n + m) (n + m), (H.kill l).new ⟨b.cells ++ new, e, true⟩)
                else none
              else none
            | none => none
          | _ => none
        else none
    | none => none
  | _, _ => none
theorem lappend_eq {x y : Value} : lappend P t x y H = lapp P t x (lesrc P t y H) H := by
  unfold lappend lapp lesrc
  cases P.underlying t with
  | none => rfl
  | some u =>
    cases u <;> try rfl
    rename_i e
    dsimp only
    cases hz : lesz P e with
    | none => rfl
    | some s =>
      dsimp only
      cases lsrc s y H with
      | none => rfl
      | some q =>
        obtain ⟨m, new⟩ := q
        simp only [hz]
        rfl
@[simp] theorem lbuiltin_append {x y : Value} : lbuiltin P .append [t, t] [x, y] H = lapp P t x (lesrc P t y H) H := by
  rw [← lappend_eq]; simp only [lbuiltin, if_true]
variable {new : List Value} {s n cp : Nat}
@[simp] theorem lapp_nil (hu : P.underlying t = some (.slice e)) (hs : lesz P e = some s) (hc : new.all cellB = true) (hm : m ≠ 0) (hM : m ≤ maxElems) : lapp P t (.slice none 0 0) (some (m, new)) H = some (sl H.n m m, H.new ⟨new, e, true⟩) := by
  simp only [lapp, hu, hs, hc, hm, hM, if_true, if_false]
@[simp] theorem lapp_nil0 (hu : P.underlying t = some (.slice e)) (hs : lesz P e = some s) : lapp P t (.slice none 0 0) (some (0, [])) H = some (.slice none 0 0, H) := by
  simp [lapp, hu, hs]
theorem lapp_grow (hu : P.underlying t = some (.slice e)) (hs : lesz P e = some s) (hc : new.all cellB = true) (hm : m ≠ 0) (hM : n + m ≤ maxElems) (hb : H.get l = some b) (hrw : b.rw = true) (he : b.elem = e) (hl : b.cells.length = n * s) : lapp P t (sl l n n) (some (m, new)) H = some (sl H.n (n + m) (n + m), (H.kill l).new ⟨b.cells ++ new, e, true⟩) := by
  have h1 : ¬ n + m ≤ n := by omega
  simp only [lapp, hu, hs, hc, hb, if_true]
  rw [if_pos ⟨hrw, he, trivial, hl, Nat.le_refl _⟩, if_neg hm, if_neg h1, if_pos ⟨trivial, hM⟩]
theorem lapp_in (hu : P.underlying t = some (.slice e)) (hs : lesz P e = some s) (hc : new.all cellB = true) (hm : m ≠ 0) (hb : H.get l = some b) (hrw : b.rw = true) (he : b.elem = e) (hl : b.cells.length = cp * s) (hn : n + m ≤ cp) : lapp P t (sl l n cp) (some (m, new)) H = some (sl l (n + m) cp, H.set l { b with cells := splice b.cells (n * s) new }) := by
  simp only [lapp, hu, hs, hc, hb, if_true]
  rw [if_pos ⟨hrw, he, trivial, hl, by omega⟩, if_neg hm, if_pos hn]
/-! ### new rows -/
def denseB : List (Nat × Value) → Nat → Bool
  | [], _ => true
  | (i, v) :: ps, k => i == k && cellB v && denseB ps (k + 1)
@[simp] theorem denseB_nil {k : Nat} : denseB [] k = true := rfl
@[simp] theorem denseB_cons {k i : Nat} {v : Value} {ps : List (Nat × Value)} : denseB ((i, v) :: ps) k = (i == k && cellB v && denseB ps (k + 1)) := rfl
theorem fill_dense {pl : Nat → Option (Nat × Nat)} : ∀ (ps : List (Nat × Value)) (pre post : List Value), (∀ j, j < pre.length + ps.length → pl j = some (j, 1)) → denseB ps pre.length = true → post.length = ps.length → Instr.fill pl (pre ++ post).toArray ps = some (pre ++ ps.map Prod.snd).toArray
  | [], pre, post, _, _, h => by
    have : post = [] := List.length_eq_zero_iff.1 h
    subst this; simp [Instr.fill]
  | (i, v) :: ps, pre, post, hp, hd, h => by
    cases post with
    | nil => simp at h
    | cons z post =>
    simp only [denseB, Bool.and_eq_true, beq_iff_eq] at hd
    obtain ⟨⟨rfl, hv⟩, hd⟩ := hd
    have e1 := cells_one hv
    unfold Instr.fill
    rw [hp _ (by simp)]
    simp only [e1]
    rw [if_neg (by simp)]
    have e2 : ((#[v] : Array Value).zipIdx.foldl (fun cs (c, j) => cs.setIfInBounds (pre.length + j) c) (pre ++ z :: post).toArray) = ((pre ++ [v]) ++ post).toArray := by
      simp
    rw [e2, fill_dense ps (pre ++ [v]) post (fun j hj => hp j (by simp at hj ⊢; omega)) (by simpa using hd) (by simpa using h)]
    simp
theorem dense_known : ∀ (ps : List (Nat × Value)) (k : Nat), denseB ps k = true → (ps.all fun p => knownB p.2) = true
  | [], _, _ => rfl
  | (i, v) :: ps, k, h => by
    simp only [denseB, Bool.and_eq_true, beq_iff_eq] at h
    have : knownB v = true := by cases v <;> first | rfl | (have := h.1.2; simp [cellB] at this)
    simp only [List.all_cons, this, dense_known ps _ h.2, Bool.and_self]
@[simp ↓] theorem lopx_buildSlice {ps : List (Nat × Operand)} : lopx P T (.buildSlice t n ⟨ps⟩) fr H = lbuildSlice P t n (ps.map fun p => (p.1, ev fr p.2)) H := rfl
theorem lbs_dense {z : Value} {ps : List (Nat × Value)} (hu : P.underlying t = some (.slice e)) (hs : sz P e = some 1) (hz : zr P e = some z) (hf : flatB z = true) (hz1 : cellB z = true) (hn : n = ps.length) (hle : n ≤ 65536) (hd : denseB ps 0 = true) : lbuildSlice P t n ps H = some (sl H.n n n, H.new ⟨ps.map Prod.snd, e, true⟩) := by
  subst hn
  have hk : ∀ p ∈ ps, knownB p.2 = true := by simpa using dense_known ps 0 hd
  unfold lbuildSlice
  simp only [hu, hs, hz]
  rw [if_pos (by
    simp only [Bool.and_eq_true, decide_eq_true_eq, beq_iff_eq, List.all_eq_true]
    exact ⟨⟨⟨⟨hf, by omega⟩, by omega⟩, by rw [cells_one hz1]; rfl⟩, hk⟩)]
  have e0 : ((Array.range (ps.length * 1)).map fun j => z.cells[j % z.cells.size]!) = (([] : List Value) ++ List.replicate ps.length z).toArray := by
    rw [cells_one hz1]
    apply Array.ext
    · simp
    · intro i h1 h2
      simp [Nat.mod_one]
  rw [e0, fill_dense ps [] (List.replicate ps.length z) (fun j _ => by simp) hd (by simp)]
  simp
attribute [simp] lbs_dense
/-! ### conversions -/
@[simp] theorem lconv_ii {a c : TypeId} {k1 k2 : IntKind} {n : Int} (h1 : P.underlying a = some (.int k1)) (h2 : P.underlying c = some (.int k2)) : lconv P a c (.int k1 n) H = some (.int k2 (k2.wrap n)) := by
  have e : pureVal P (convert a c (.int k1 n)) = some (.int k2 (k2.wrap n)) := by
    simp only [convert, pureVal_bind, pureVal_und, h1, h2, Option.bind_some]
    rfl
  unfold lconv
  simp only [flat_int, if_true, pureFlat, e]
def lbs : List Value → Option (List UInt8)
  | [] => some []
  | v :: l => (lbyte v).bind fun b => (lbs l).map (b :: ·)
theorem lbs_eq : ∀ l : List Value, l.mapM lbyte = lbs l
  | [] => rfl
  | v :: l => by
    rw [List.mapM_cons, lbs_eq l, lbs]
    cases lbyte v <;> cases lbs l <;> rfl
def bv (x : UInt8) : Value := .int .u8 x.toNat
@[simp] theorem lbyte_bv {x : UInt8} : lbyte (.int .u8 x.toNat) = some x := by simp [lbyte]
@[simp] theorem lbs_nil : lbs [] = some [] := rfl
@[simp] theorem lbs_cons {v : Value} {l : List Value} : lbs (v :: l) = (lbyte v).bind fun b => (lbs l).map (b :: ·) := rfl
@[simp] theorem lbs_map : ∀ l : List UInt8, lbs (l.map bv) = some l
  | [] => rfl
  | a :: l => by simp only [List.map_cons, lbs, bv, lbyte_bv, Option.bind_some, lbs_map l, Option.map_some]
theorem lconv_bs {a c e : TypeId} {o n cp : Nat} {z : List UInt8} (h1 : P.underlying a = some (.slice e)) (h2 : P.underlying c = some .string) (h3 : P.underlying e = some (.int .u8)) (hb : H.get l = some b) (hle : o + n ≤ b.cells.length) (hz : lbs ((b.cells.drop o).take n) = some z) : lconv P a c (.slice (some ⟨l, o, none⟩) n cp) H = some (str z) := by
  have e1 : flatB (.slice (some ⟨l, o, none⟩) n cp) = false := by simp [flatB, flat1B, atomB]
  unfold lconv lbstr
  simp only [e1, h1, h2, h3, hb, lcells, if_pos hle, lbs_eq, hz, Option.map_some]
  rfl
/-! ### structs -/
/-- where the fields of a struct lie -/
def plc (P : Program) (t : TypeId) : Option (List (Nat × Nat)) := match P.underlying t with
  | some (.struct fs) => fs.toList.mapM (fun f => (P.info? f.type).map fun i => (f.offset, i.size))
  | _ => none
def plcB (P : Program) (t : TypeId) : Bool := (plc P t).isSome
def lfill (P : Program) (t : TypeId) (cs : List Value) (ps : List (Nat × Value)) : Option (List Value) := match plc P t with
  | some pl => (Instr.fill (pl.toArray[·]?) cs.toArray ps).map Array.toList
  | none => none
theorem mapM_get {α β : Type} {f : α → Option β} : ∀ {l : List α} {r : List β}, l.mapM f = some r → ∀ (i : Nat) x, l[i]? = some x → r[i]? = f x
  | [], r, h, i, x, hx => by simp at hx
  | a :: l, r, h, i, x, hx => by
    simp only [List.mapM_cons, Option.bind_eq_bind, Option.pure_def] at h
    cases ha : f a with
    | none => simp [ha] at h
    | some y =>
      simp only [ha, Option.bind_some] at h
      cases hl : l.mapM f with
      | none => simp [hl] at h
      | some ys =>
        simp only [hl, Option.bind_some, Option.some.injEq] at h
        subst h
        cases i with
        | zero => simp at hx; subst hx; simp [ha]
        | succ i => simpa using mapM_get hl i x (by simpa using hx)
theorem plc_get {pl : List (Nat × Nat)} (hp : plc P t = some pl) {i o n : Nat} {g : Bool} (hf : fldi P t i = some (o, n, g)) : pl[i]? = some (o, n) := by
  unfold fldi at hf
  unfold plc at hp
  split at hf
  · rename_i fs hu
    rw [hu] at hp
    split at hf
    · rename_i fd hfd
      split at hf
      · rename_i n' g' hs ha
        simp only [Option.some.injEq, Prod.mk.injEq] at hf
        obtain ⟨rfl, rfl, rfl⟩ := hf
        rw [mapM_get hp i fd (by simpa using hfd)]
        unfold sz at hs
        cases hi : P.info? fd.type with
        | none => simp [hi] at hs
        | some it => simp [hi] at hs; simp [hs]
      · cases hf
    · cases hf
  · cases hf
@[simp] theorem lfill_nil {cs : List Value} (h : plcB P t = true) : lfill P t cs [] = some cs := by
  unfold plcB at h
  unfold lfill
  cases hp : plc P t with
  | none => simp [hp] at h
  | some pl => rfl
theorem fold_splice : ∀ (vs : List Value) (pre cs : List Value) (off : Nat), off + pre.length + vs.length ≤ cs.length → (vs.toArray.zipIdx pre.length).foldl (fun cs (c, j) => cs.setIfInBounds (off + j) c) cs.toArray = (splice cs (off + pre.length) vs).toArray
  | [], pre, cs, off, h => by
    rw [show (([] : List Value).toArray.zipIdx pre.length) = #[] from by apply Array.ext <;> simp]
    simp [splice]
  | v :: vs, pre, cs, off, h => by
    have hh : off + pre.length < cs.length := by simp at h; omega
    have ih := fold_splice vs (pre ++ [v]) (cs.set (off + pre.length) v) off (by simp at h ⊢; omega)
    have e : (v :: vs).toArray.zipIdx pre.length = ((v, pre.length) :: (vs.zipIdx (pre.length + 1))).toArray := by simp
    rw [e]
    have e2 : (vs.toArray.zipIdx (pre ++ [v]).length) = (vs.zipIdx (pre.length + 1)).toArray := by simp
    rw [e2] at ih
    simp only [List.foldl_toArray', List.size_toArray, List.foldl_cons, List.setIfInBounds_toArray] at ih ⊢
    rw [ih]
    congr 1
    unfold splice
    simp only [List.length_append, List.length_cons, List.length_nil, Nat.zero_add, ← Nat.add_assoc]
    rw [List.take_set, List.drop_set, if_pos (by omega)]
    have e3 : (cs.take (off + pre.length + 1)).set (off + pre.length) v = cs.take (off + pre.length) ++ [v] := by
      rw [List.take_succ_eq_append_getElem hh, List.set_append, if_neg (by simp; omega)]
      simp [Nat.min_eq_left (Nat.le_of_lt hh)]
    rw [e3]
    simp [Nat.add_assoc, Nat.add_comm, Nat.add_left_comm]
theorem lfill_step {cs : List Value} {i o n : Nat} {g : Bool} {v : Value} {ps : List (Nat × Value)} (hf : fldi P t i = some (o, n, g)) (hn : v.cells.toList.length = n) (ho : o + n ≤ cs.length) : lfill P t cs ((i, v) :: ps) = lfill P t (splice cs o v.cells.toList) ps := by
  unfold lfill
  cases hp : plc P t with
  | none => rfl
  | some pl =>
    have h1 : pl.toArray[i]? = some (o, n) := by simpa using plc_get hp hf
    simp only [Instr.fill, h1]
    rw [if_neg (by simp at hn ⊢; omega)]
    have := fold_splice v.cells.toList [] cs o (by simp at hn ⊢; omega)
    simp only [List.length_nil, Nat.add_zero, Array.toArray_toList] at this
    rw [this]
@[simp] theorem lfill_cell {cs : List Value} {i o n : Nat} {g : Bool} {v : Value} {ps : List (Nat × Value)} (hf : fldi P t i = some (o, n, g)) (hn : n = 1) (hv : cellB v = true) (ho : o < cs.length) : lfill P t cs ((i, v) :: ps) = lfill P t (cs.set o v) ps := by
  subst hn
  rw [lfill_step hf (by rw [cells_one hv]; rfl) (by omega)]
  congr 1
  rw [cells_one hv]
  unfold splice
  rw [List.set_eq_take_append_cons_drop, if_pos ho]; simp
@[simp] theorem lfill_agg {cs vs : List Value} {i o n : Nat} {g : Bool} {ps : List (Nat × Value)} (hf : fldi P t i = some (o, n, g)) (hn : vs.length = n) (ho : o + n ≤ cs.length) : lfill P t cs ((i, .agg ⟨vs⟩) :: ps) = lfill P t (splice cs o vs) ps :=
  lfill_step hf hn ho
def lbE (P : Program) (t : TypeId) (z : Option Value) (ps : List (Nat × Value)) : Option Value :=
  match z with
  | some z => if ps.all (fun p => knownB p.2) && flatB z then (lfill P t z.cells.toList ps).map fun cs => .agg ⟨cs⟩ else none
  | none => none
theorem lbuild_eq {ps : List (Nat × Value)} : lbuild P t ps = lbE P t (zr P t) ps := by
  unfold lbuild lbE zr lfill plc
  cases hi : P.info? t with
  | none => simp
  | some it =>
    simp only [Option.bind_some]
    have hz : it.zero = none ∨ ∃ z, it.zero = some z := by cases it.zero <;> simp
    rcases hz with hz | ⟨z, hz⟩
    · simp [hz]
    · simp only [hz, Option.any_some]
      split
      · cases hu : P.underlying t with
        | none => rfl
        | some u =>
          cases u <;> try rfl
          rename_i fs
          simp only [Program.built, hi, hu, hz]
          cases fs.toList.mapM (fun f => (P.info? f.type).map fun i => (f.offset, i.size)) with
          | none => rfl
          | some pl =>
            simp only [Array.toArray_toList]
            cases Instr.fill (pl.toArray[·]?) z.cells ps with
            | none => rfl
            | some cs => rfl
      · rfl
@[simp ↓] theorem lopx_build {ps : List (Nat × Operand)} : lopx P T (.build t ⟨ps⟩) fr H = withH (lbE P t (zr P t) (ps.map fun p => (p.1, ev fr p.2))) H := by
  rw [← lbuild_eq]; rfl
def knownL : List (Nat × Value) → Bool
  | [] => true
  | (_, v) :: ps => knownB v && knownL ps
@[simp] theorem knownL_nil : knownL [] = true := rfl
@[simp] theorem knownL_cons {i : Nat} {v : Value} {ps : List (Nat × Value)} : knownL ((i, v) :: ps) = (knownB v && knownL ps) := rfl
theorem known_of_cell {v : Value} (h : cellB v = true) : knownB v = true := by cases v <;> first | rfl | (simp [cellB] at h)
attribute [simp] known_of_cell
@[simp] theorem known_agg {a : Array Value} : knownB (.agg a) = true := rfl
theorem knownL_eq : ∀ (ps : List (Nat × Value)), ps.all (fun p => knownB p.2) = knownL ps
  | [] => rfl
  | (i, v) :: ps => by simp only [List.all_cons, knownL, knownL_eq ps]
theorem lbE_agg {z : List Value} {ps : List (Nat × Value)} (hk : knownL ps = true) (hz : z.all atomB = true) : lbE P t (some (.agg ⟨z⟩)) ps = (lfill P t z ps).map fun cs => .agg ⟨cs⟩ := by
  have : flatB (.agg ⟨z⟩) = true := hz
  simp only [lbE, knownL_eq, hk, this, Bool.and_self, if_true, Value.cells]
attribute [simp] lbE_agg
/-! ### fields of struct values -/
def lfld (i : Option (Nat × Nat × Bool)) (x : Value) : Option Value := match i, x with
  | some (o, n, true), .agg cs => some (.agg (cs.extract o (o + n)))
  | some (o, _, false), .agg cs => cs[o]?
  | _, _ => none
theorem lopx_field {x : Operand} {f : Nat} {i : Nat × Nat × Bool} (h : fldi P t f = some i) : lopx P T (.field t x f) fr H = withH (lfld (some i) (ev fr x)) H := by
  unfold fldi at h
  show (match P.underlying t, ev fr x with | some (.struct fs), .agg cs => _ | _, _ => none) = _
  split at h
  · rename_i fs hu
    split at h
    · rename_i fd hf
      split at h
      · rename_i n g hs ha
        injection h with h
        subst h
        rw [hu]
        unfold lfld
        cases ev fr x <;> cases g <;> simp only [hf, hs, ha, withH, Option.map_some, Option.map_none]
      · cases h
    · cases h
  · cases h
attribute [simp] lopx_field
@[simp] theorem lfld_cell {o n : Nat} {cs : List Value} : lfld (some (o, n, false)) (.agg ⟨cs⟩) = cs[o]? := by simp [lfld]
@[simp] theorem lfld_agg {o n : Nat} {cs : List Value} : lfld (some (o, n, true)) (.agg ⟨cs⟩) = some (.agg ⟨(cs.drop o).take n⟩) := by simp [lfld]
/-! ### nil -/
@[simp] theorem lbin_pe {a : Option Addr} (hu : P.underlying t = some (.pointer e)) : lbin P .eql t (.pointer a) (.pointer none) = some (.bool a.isNone) := by
  cases a <;> simp [lbin, hu]
@[simp] theorem lbin_pn {a : Option Addr} (hu : P.underlying t = some (.pointer e)) : lbin P .neq t (.pointer a) (.pointer none) = some (.bool (!a.isNone)) := by
  cases a <;> simp [lbin, hu]
@[simp] theorem lbin_se {a : Option Addr} {n c : Nat} (hu : P.underlying t = some (.slice e)) : lbin P .eql t (.slice a n c) (.slice none 0 0) = some (.bool a.isNone) := by
  cases a <;> simp [lbin, hu]
@[simp] theorem lbin_sn {a : Option Addr} {n c : Nat} (hu : P.underlying t = some (.slice e)) : lbin P .neq t (.slice a n c) (.slice none 0 0) = some (.bool (!a.isNone)) := by
  cases a <;> simp [lbin, hu]
/-! ### greatest and least -/
@[simp] theorem lbuiltin_max {ts : List TypeId} {k k' : IntKind} {a b : Int} : lbuiltin P .max ts [.int k a, .int k' b] H = some (.int k (if a < b then b else a), H) := rfl
@[simp] theorem lbuiltin_min {ts : List TypeId} {k k' : IntKind} {a b : Int} : lbuiltin P .min ts [.int k a, .int k' b] H = some (.int k (if b < a then b else a), H) := rfl
/-! ### what a call leaves -/
theorem trunc_set {v : Value} (h : H.get l = some b) (hl : l < H.n) : trunc H (v, H.set l c) = (v, H.set l c) := by
  unfold trunc
  split
  · rename_i hc
    have := hc.2.2 l hl
    simp only [get_set, h, Option.some.injEq] at this
    have e : H.set l c = H := by
      cases H with
      | mk n g ho w0 ng =>
        simp only [LH.set, LH.mk.injEq, true_and, and_true]
        funext k
        split
        · rename_i e; subst e; rw [this]; exact h.symm
        · rfl
    rw [e]
  · rfl
theorem trunc_or (v : Value) (H H' : LH) : trunc H (v, H') = (v, H') ∨ trunc H (v, H') = (v, H) ∧ flatB v = true ∧ H.le H' := by
  unfold trunc
  split
  · exact .inr ⟨rfl, by assumption⟩
  · exact .inl rfl
end
end Go.Lg
