/-
  Texts joined, part 1: Kit, End, LgByte, UnPlain, Shelf, StLow, StBld0, UnPlainB, UnPlainC, UnEq, ProgK.
-/
import Derived.WalkKit
import Derived.WalkSpells
import Derived.WalkLawsBesides
import Derived.Lib.Hide
import Derived.Lib.Strings
import Derived.Lib.AppendStr
import Derived.Deep.Upon
import Derived.Below
import Derived.ChangeSame
import Derived.Carry
import Derived.ShutString
import Derived.OpenShut
import Derived.Shelf.Strings.Builder1
import Derived.Shelf.Strings.Builder2
import Derived.Shelf.Strings.OnBuilder
import Derived.Shelf.Small.Bits
import Derived.Shelf.Small.Strs
import Derived.Shelf.Strings.BuilderF
import Derived.Shelf.Strings.BuilderK
import Derived.Shelf.Utf8.RuneCount
import Derived.Shelf.Strings.Builder2Cap
import Derived.Shelf.Strings.Search1
import Derived.Shelf.Strings.Search2
import Derived.Shelf.Strings.Search3
import Derived.Shelf.Strings.Count
import Derived.Shelf.LaysM
import Derived.Shelf.Strings.Shaped
import Derived.Shelf.Strings.Prefix
import Derived.Shelf.Strings.Split
import Derived.Shelf.Strings.Fields
import Derived.Shelf.Strings.SplitShaped
import Derived.Shelf.Unicode.Latin
import Derived.Shelf.Unicode.Decode
import Derived.Shelf.Strings.RuneCount
import Derived.Shelf.Strings.Explode
import Derived.Shelf.Bits.Mul64
import Derived.Shelf.Strings.Repeat
import Derived.Shelf.Unicode.DecodeSlow
import Derived.Shelf.Unicode.DecodeAny
import Derived.Shelf.Unicode.Is16White
import Derived.Shelf.Unicode.IsSpaceAny
import Derived.Shelf.Unicode.Is16WhiteD
import Derived.Shelf.Unicode.IsSpaceAnyD
import Derived.Shelf.Strings.FieldsAny
import Derived.Shelf.Strings.FieldsFuncAny
import Derived.Shelf.Unicode.Is16Any
import Derived.Shelf.Unicode.Is32Any
import Derived.Shelf.Unicode.ExclAny
import Derived.Shelf.Strings.BuilderCap
import Derived.Shelf.Slices.Turned
import Derived.Test.YtombmblgmbjieaaGreatDoorProg
import Derived.Laws.Externs
import Derived.Laws.BytesString
import Derived.Lib.ConvBytes
import Derived.Deep.LoopGhost
import Derived.Test.YtombmblgmbjieaaGreatDoorRows
import Derived.ProofKit
import Derived.Stop.Joined
import Derived.SevenTiedAt
import Derived.LaidMore
import Derived.Lay
/-
  Small laws on worlds and blocks, over any program: what a call may turn (a set of blocks, and what is new), one block known whole, rows that are owned.
-/
set_option linter.unusedSimpArgs false
set_option linter.unusedVariables false
namespace Go.Tg
open Go.RowKit

theorem ret_int {k : IntKind} {a b : Int} (h : a = b) : Ending.returned (.int k a) = .returned (.int k b) := by rw [h]
theorem ret_bool {a b : Bool} (h : a = b) : Ending.returned (.bool a) = .returned (.bool b) := by rw [h]
theorem ret_str {a b : ByteArray} (h : a = b) : Ending.returned (.string a) = .returned (.string b) := by rw [h]

/-- a byte of a kind, as the walk asks -/
theorem u8_is (c k : UInt8) (n : Int) (h : (k.toNat : Int) = n) : (c = k ∧ ((c.toNat : Int) == n) = true) ∨ (c ≠ k ∧ ((c.toNat : Int) == n) = false) := by
  by_cases e : c = k
  · exact .inl ⟨e, by rw [e, h]; simp⟩
  · refine .inr ⟨e, ?_⟩
    rw [beq_eq_false_iff_ne, ← h]
    intro h'
    exact e (UInt8.toNat_inj.1 (by omega))
theorem u8_lt (c : UInt8) : c.toNat < 256 := UInt8.toNat_lt c

theorem ba_get0 (d : UInt8) (r : List UInt8) (h : 0 < (⟨(d :: r).toArray⟩ : ByteArray).size) : (⟨(d :: r).toArray⟩ : ByteArray)[0]'h = d := rfl
theorem ba_toList (s : ByteArray) : s.toList = s.data.toList := by
  have := @ByteArray.toList_eq s
  exact this
theorem ba_ext {s t : ByteArray} (h : s.data.toList = t.data.toList) : s = t := by
  cases s; cases t; simp at h; simp [h]
theorem ba_tail (d : UInt8) (r : List UInt8) : (⟨(d :: r).toArray⟩ : ByteArray).extract 1 (r.length + 1) = ⟨r.toArray⟩ := by
  apply ba_ext; rw [Lib.extract_data]; simp
theorem ba_isEmpty (r : List UInt8) : (⟨r.toArray⟩ : ByteArray).toList.isEmpty = r.isEmpty := by rw [ba_toList]

/-- What a call may turn: the blocks of S, and what is new. -/
structure Change (S : Nat → Prop) (w w' : World) : Prop where
  os : w'.os = w.os
  tape : w'.tape = w.tape
  output : w'.output = w.output
  size : w.heap.size ≤ w'.heap.size
  block : ∀ k, k < w.heap.size → ¬ S k → w'.heap[k]? = w.heap[k]?

namespace Change
variable {S T U : Nat → Prop} {w w' w'' : World}
theorem refl (S : Nat → Prop) (w : World) : Change S w w := ⟨rfl, rfl, rfl, Nat.le_refl _, fun _ _ _ => rfl⟩
theorem trans (h : Change S w w') (k : Change T w' w'') (hT : ∀ i, T i → S i ∨ w.heap.size ≤ i) : Change S w w'' :=
  ⟨k.os.trans h.os, k.tape.trans h.tape, k.output.trans h.output, Nat.le_trans h.size k.size, fun i hi hn =>
    (k.block i (Nat.lt_of_lt_of_le hi h.size) (fun ht => by rcases hT i ht with h | h; exact hn h; omega)).trans (h.block i hi hn)⟩
theorem mono (h : Change S w w') (hT : ∀ i, i < w.heap.size → S i → T i) : Change T w w' :=
  ⟨h.os, h.tape, h.output, h.size, fun i hi hn => h.block i hi (fun hs => hn (hT i hi hs))⟩
theorem drew (h : Change S w w') : Change S w w'.drew := ⟨h.os, h.tape, h.output, h.size, h.block⟩
theorem drewN (h : Change S w w') (n : Nat) : Change S w (w'.drewN n) := ⟨h.os, h.tape, h.output, h.size, h.block⟩
theorem alloc (h : Change S w w') (o : Obj) : Change S w (w'.alloc o) :=
  ⟨h.os, h.tape, h.output, Nat.le_trans h.size (by simp), fun i hi hn => (Below.heap_alloc w' o i (Nat.lt_of_lt_of_le hi h.size)).trans (h.block i hi hn)⟩
theorem setCell (h : Change S w w') {p : Addr} (hp : S p.block ∨ w.heap.size ≤ p.block) (u : Value) : Change S w (w'.setCell p u) :=
  ⟨h.os, h.tape, h.output, by simpa [World.setCell] using h.size, fun i hi hn => (Below.heap_setCell w' p u i (by
    rintro rfl
    rcases hp with hp | hp
    · exact hn hp
    · omega)).trans (h.block i hi hn)⟩
theorem grown (h : Change S w w') {r : Option Nat} (g : w'.grownBy w'' r) (hr : ∀ k, r = some k → S k ∨ w.heap.size ≤ k) : Change S w w'' :=
  ⟨g.os.trans h.os, g.tape.trans h.tape, g.output.trans h.output, Nat.le_trans h.size g.size, fun i hi hn =>
    (g.block i (Nat.lt_of_lt_of_le hi h.size) (fun e => by rcases hr i e.symm with h | h; exact hn h; omega)).trans (h.block i hi hn)⟩
theorem below {B : Nat} (h : Change S w w') (hB : B ≤ w.heap.size) (hS : ∀ k, S k → B ≤ k) : Below B w w' :=
  ⟨h.os, h.tape, h.output, h.size, fun k hk => h.block k (by omega) (fun hs => by have := hS k hs; omega)⟩
theorem of_below {B : Nat} (h : Below B w w') : Change (fun k => B ≤ k) w w' :=
  ⟨h.os, h.tape, h.output, h.size, fun k _ hk => h.block k (by omega)⟩
theorem lt (h : Change S w w') {k : Nat} (hk : k < w.heap.size) : k < w'.heap.size := Nat.lt_of_lt_of_le hk h.size
theorem one (b : Nat) (w : World) : Change (fun k => k = b) w w := refl _ w
theorem set {b : Nat} (h : Change (fun k => k = b) w w') (i : Nat) (u : Value) : Change (fun k => k = b) w (w'.setCell ⟨b, i, none⟩ u) := h.setCell (.inl rfl) u
end Change

/-- One block of cells, known whole. -/
def Blk (w : World) (b : Nat) (t : TypeId) (cs : Array Value) : Prop := w.heap[b]? = some (.cells cs t (0, 0))
namespace Blk
variable {w w' : World} {b : Nat} {t : TypeId} {cs : Array Value}
theorem cell (h : Blk w b t cs) (i : Nat) : w.cell? ⟨b, i, none⟩ = cs[i]? := by
  unfold Blk at h; simp [World.cell?, h]
theorem free (h : Blk w b t cs) (i : Nat) : w.frozen? ⟨b, i, none⟩ = false := by
  unfold Blk at h; simp [World.frozen?, h]
theorem lt (h : Blk w b t cs) : b < w.heap.size := lt_of_block h
theorem set (h : Blk w b t cs) (i : Nat) (v : Value) : Blk (w.setCell ⟨b, i, none⟩ v) b t (cs.setIfInBounds i v) := by
  unfold Blk at h ⊢; simp only [World.setCell, Array.getElem?_modify, h]; simp
theorem setOther (h : Blk w b t cs) {a : Addr} (ha : b ≠ a.block) (v : Value) : Blk (w.setCell a v) b t cs := by
  unfold Blk at h ⊢; rw [Below.heap_setCell _ _ _ _ ha]; exact h
theorem setBlk {c : Nat} (h : Blk w b t cs) (hc : b ≠ c) (i : Nat) (v : Value) : Blk (w.setCell ⟨c, i, none⟩ v) b t cs := h.setOther hc v
theorem drew (h : Blk w b t cs) : Blk w.drew b t cs := h
theorem drewN (h : Blk w b t cs) (n : Nat) : Blk (w.drewN n) b t cs := h
theorem alloc (h : Blk w b t cs) (o : Obj) : Blk (w.alloc o) b t cs := by
  unfold Blk at h ⊢; rw [Below.heap_alloc _ _ _ (lt_of_block h)]; exact h
theorem of_change {S : Nat → Prop} (h : Blk w b t cs) (k : Change S w w') (hS : ¬ S b) : Blk w' b t cs := by
  unfold Blk at h ⊢; rw [k.block b (lt_of_block h) hS]; exact h
theorem new (w : World) (t : TypeId) (cs : Array Value) : Blk (w.alloc (.cells cs t)) w.heap.size t cs := by
  unfold Blk; exact (MapKept.heap_alloc w _).1
end Blk

/-- From w on, the block b alone has turned: it holds cs in W. -/
structure Upd (w : World) (b : Nat) (t : TypeId) (W : World) (cs : Array Value) : Prop where
  blk : Blk W b t cs
  chg : Change (fun k => k = b) w W
namespace Upd
variable {w W : World} {b : Nat} {t : TypeId} {cs : Array Value}
theorem base (h : Blk w b t cs) : Upd w b t w cs := ⟨h, Change.one b w⟩
theorem set {i : Nat} {v : Value} (h : Upd w b t W cs) : Upd w b t (W.setCell ⟨b, i, none⟩ v) (cs.setIfInBounds i v) := ⟨h.blk.set i v, h.chg.set i v⟩
theorem drew (h : Upd w b t W cs) : Upd w b t W.drew cs := ⟨h.blk, h.chg.drew⟩
theorem drewN {n : Nat} (h : Upd w b t W cs) : Upd w b t (W.drewN n) cs := ⟨h.blk, h.chg.drewN n⟩
theorem alloc {o : Obj} (h : Upd w b t W cs) : Upd w b t (W.alloc o) cs := ⟨h.blk.alloc o, h.chg.alloc o⟩
end Upd

theorem row_of_change {S : Nat → Prop} {w w' : World} {base e size n : Nat} {v : Value} {xs : List Value} (h : w.ownsRow base e size v n xs) (k : Change S w w') (hS : ∀ g, v.ownBlock = some g → ¬ S g) : w'.ownsRow base e size v n xs := by
  obtain ⟨h1, h2⟩ := h
  refine ⟨h1, ?_⟩
  rcases h2 with h2 | ⟨g, cap, cur, rfl, hg, hh, r⟩
  · exact .inl h2
  · exact .inr ⟨g, cap, cur, rfl, hg, by rw [k.block g (lt_of_block hh) (hS g rfl)]; exact hh, r⟩
theorem row_lt {w : World} {base e size n : Nat} {v : Value} {xs : List Value} (h : w.ownsRow base e size v n xs) {g : Nat} (hg : v.ownBlock = some g) : g < w.heap.size := by
  rcases h.2 with ⟨h2, _⟩ | ⟨g', cap, cur, rfl, _, hh, r⟩
  · rw [h2] at hg; cases hg
  · cases hg; exact lt_of_block hh

section
variable {P : Program} (w : World)
/-- append on an owned row: the new row lies where the old one lay, or in a new block. -/
theorem run_append2 (t ty e : TypeId) (i : TypeInfo) (z : Value) (size bytes : Nat) (ht : P.underlying t = some (.slice e)) (hi : P.info? e = some i) (hz : i.zero = some z)
    (hsize : i.size = size) (hby : i.bytes = bytes) (hzs : z.cells.size = size) (hsz : 0 < size)
    (v : Value) (n : Nat) (xs : List Value) (hown : w.ownsRow 0 e size v n xs)
    (a : Addr) (m c : Nat) (news : List Value) (hl : news.length = m * size) (hnews : ∀ j u, news[j]? = some u → w.cell? (a.add j) = some u) (h1 : ∀ u ∈ news, u.oneCell' = true)
    (hpos : 0 < n + m) (h63 : n + m ≤ maxLen) (hbytes : (n + m) * bytes ≤ 140737488355328) :
    ∃ g cap w', (Builtin.append_ #[t, t] ty #[v, .slice (some a) m c]).run P w = .ok (.slice (some ⟨g, 0, none⟩) (n + m) cap) w' ∧ w'.ownsRow 0 e size (.slice (some ⟨g, 0, none⟩) (n + m) cap) (n + m) (xs ++ news) ∧ w.grownBy w' v.ownBlock ∧
      (v.ownBlock = some g ∨ g = w.heap.size) := by
  obtain ⟨v', w', hr, h2, h3, h4⟩ := run_append_own (P := P) w 0 t ty e i z size bytes ht hi hz hsize hby hzs hsz v n xs hown a m c news hl hnews h1 h63 hbytes (Nat.zero_le _)
  have hv : ∃ g cap, v' = .slice (some ⟨g, 0, none⟩) (n + m) cap := by
    rcases h2.2 with ⟨_, h⟩ | ⟨g, cap, _, h, _⟩
    · omega
    · exact ⟨g, cap, h⟩
  obtain ⟨g, cap, rfl⟩ := hv
  refine ⟨g, cap, w', hr, h2, h3, ?_⟩
  subst hsize
  subst hby
  have hsmall : n + m ≤ 9223372036854775807 := by simp only [maxLen] at h63; omega
  rcases hown.2 with ⟨rfl, rfl⟩ | ⟨g0, cap0, cur, rfl, _, hh, hnc, hcm, hcs, htake⟩
  · have hr2 := run_append_nil (P := P) w t ty e i z ht hi hz a m c news hl hnews (by omega) (by omega) (by have hb := hbytes; simp only [Nat.zero_add] at hb; omega)
    rw [hr2] at hr
    injection hr with hr hw
    injection hr with hr
    injection hr with hr
    injection hr with hr
    exact .inr hr.symm
  · by_cases hroom : n + m ≤ cap0
    · have hfit : n * i.size + news.length ≤ cur.size := by rw [hl, hcs, ← Nat.add_mul]; exact Nat.mul_le_mul_right _ hroom
      have hr2 := run_append_room (P := P) w t ty e i ht hi g0 n cap0 cur hh a m c news hl hnews h1 hroom hfit
      rw [hr2] at hr
      injection hr with hr hw
      injection hr with hr
      injection hr with hr
      injection hr with hr
      exact .inl (by rw [← hr]; rfl)
    · have holds : ∀ j u, xs[j]? = some u → w.cell? ((⟨g0, 0, none⟩ : Addr).add j) = some u := hown.cells (g := g0) rfl
      have hr2 := run_append_grow (P := P) w t ty e i z ht hi hz ⟨g0, 0, none⟩ n cap0 xs hown.1 holds a m c news hl hnews (by omega) (by omega) (growslice_fits (by omega) hbytes)
      rw [hr2] at hr
      injection hr with hr hw
      injection hr with hr
      injection hr with hr
      injection hr with hr
      exact .inr hr.symm

/-- .. of a string's bytes -/
theorem run_append2s (t u ty e : TypeId) (i : TypeInfo) (ht : P.underlying t = some (.slice e)) (hu : P.underlying u = some .string) (hi : P.info? e = some i) (hz : i.zero = some (.int .u8 0))
    (hsize : i.size = 1) (hby : i.bytes = 1) (v : Value) (n : Nat) (xs : List Value) (hown : w.ownsRow 0 e 1 v n xs) (s : ByteArray)
    (hpos : 0 < n + s.size) (h63 : n + s.size ≤ maxLen) (hbytes : n + s.size ≤ 140737488355328) :
    ∃ g cap w', (Builtin.append_ #[t, u] ty #[v, .string s]).run P w = .ok (.slice (some ⟨g, 0, none⟩) (n + s.size) cap) w' ∧ w'.ownsRow 0 e 1 (.slice (some ⟨g, 0, none⟩) (n + s.size) cap) (n + s.size) (xs ++ Lib.strCells s) ∧ w.grownBy w' v.ownBlock ∧
      (v.ownBlock = some g ∨ g = w.heap.size) := by
  obtain ⟨v', w', hr, h2, h3, h4⟩ := Lib.run_append_own_string (P := P) w 0 t u ty e i ht hu hi hz hsize hby v n xs hown s h63 hbytes (Nat.zero_le _)
  have hv : ∃ g cap, v' = .slice (some ⟨g, 0, none⟩) (n + s.size) cap := by
    rcases h2.2 with ⟨_, h⟩ | ⟨g, cap, _, h, _⟩
    · omega
    · exact ⟨g, cap, h⟩
  obtain ⟨g, cap, rfl⟩ := hv
  refine ⟨g, cap, w', hr, h2, h3, ?_⟩
  have hsmall : n + s.size ≤ 9223372036854775807 := by simp only [maxLen] at h63; omega
  have hfit : ∀ c, c < n + s.size → Builtin.nextslicecap (n + s.size) c * i.bytes ≤ 281474976710656 := fun c hc => by
    refine growslice_fits (by omega) ?_
    rw [hby]; omega
  have hsrc : Src P i.size u (.string s) s.size (byteCells s) w := by rw [hsize]; exact Src.ofString w hu s
  rcases hown.2 with ⟨rfl, rfl⟩ | ⟨g0, cap0, cur, rfl, _, hh, hnc, hcm, hcs, htake⟩
  · have hr2 := run_append_grow_src (P := P) w t u ty e i (.int .u8 0) ht hi hz none 0 0 [] (run_firstCells_none w.drew i.size 0 0 0) (.string s) s.size (byteCells s) hsrc (by omega) (by omega) (hfit 0 (by omega))
    rw [hr2] at hr
    injection hr with hr hw
    injection hr with hr
    injection hr with hr
    injection hr with hr
    exact .inr hr.symm
  · by_cases hroom : n + s.size ≤ cap0
    · have hr2 := Lib.run_append_room_string (P := P) w t u ty e i ht hu hi hsize g0 n cap0 cur hh s hroom (by omega)
      rw [hr2] at hr
      injection hr with hr hw
      injection hr with hr
      injection hr with hr
      injection hr with hr
      exact .inl (by rw [← hr]; rfl)
    · have holds : ∀ j u, xs[j]? = some u → w.cell? ((⟨g0, 0, none⟩ : Addr).add j) = some u := hown.cells (g := g0) rfl
      have hr2 := Lib.run_append_grow_string (P := P) w t u ty e i (.int .u8 0) ht hu hi hz ⟨g0, 0, none⟩ n cap0 xs (by rw [hsize]; exact hown.1) holds s (by omega) (by omega) (hfit cap0 (by omega))
      rw [hr2] at hr
      injection hr with hr hw
      injection hr with hr
      injection hr with hr
      injection hr with hr
      exact .inr hr.symm
/-- what is appended: elements behind an address, or a string's bytes -/
def AppSrc (P : Program) (t u e : TypeId) (size : Nat) (y : Value) (m : Nat) (news : List Value) (w : World) : Prop :=
  (t = u ∧ ∃ ad c, y = .slice (some ad) m c ∧ news.length = m * size ∧ ∀ (j : Nat) (x : Value), news[j]? = some x → w.cell? (ad.add j) = some x) ∨
  (P.underlying u = some .string ∧ size = 1 ∧ (∃ i, P.info? e = some i ∧ i.zero = some (.int .u8 0) ∧ i.bytes = 1) ∧ ∃ bs : ByteArray, y = .string bs ∧ m = bs.size ∧ news = Lib.strCells bs)
theorem run_append2x (t u ty e : TypeId) (i : TypeInfo) (z : Value) (size bytes : Nat) (ht : P.underlying t = some (.slice e)) (hi : P.info? e = some i) (hz : i.zero = some z)
    (hsize : i.size = size) (hby : i.bytes = bytes) (hzs : z.cells.size = size) (hsz : 0 < size)
    (v : Value) (n : Nat) (xs : List Value) (hown : w.ownsRow 0 e size v n xs)
    (y : Value) (m : Nat) (news : List Value) (hs : AppSrc P t u e size y m news w) (h1 : ∀ u ∈ news, u.oneCell' = true)
    (hpos : 0 < n + m) (h63 : n + m ≤ maxLen) (hbytes : (n + m) * bytes ≤ 140737488355328) :
    ∃ g cap w', (Builtin.append_ #[t, u] ty #[v, y]).run P w = .ok (.slice (some ⟨g, 0, none⟩) (n + m) cap) w' ∧ w'.ownsRow 0 e size (.slice (some ⟨g, 0, none⟩) (n + m) cap) (n + m) (xs ++ news) ∧ w.grownBy w' v.ownBlock ∧
      (v.ownBlock = some g ∨ g = w.heap.size) := by
  rcases hs with ⟨rfl, ad, c, rfl, hl, hc⟩ | ⟨hu, rfl, ⟨i', hi', hz', hb'⟩, bs, rfl, rfl, rfl⟩
  · exact run_append2 w t ty e i z size bytes ht hi hz hsize hby hzs hsz v n xs hown ad m c news hl hc h1 hpos h63 hbytes
  · rw [hi] at hi'
    injection hi' with hi'
    subst hi'
    exact run_append2s w t u ty e i ht hu hi hz' hsize hb' v n xs hown bs hpos h63 (by rw [← hby, hb'] at hbytes; omega)
theorem run_append_roomx (t u ty e : TypeId) (i : TypeInfo) (ht : P.underlying t = some (.slice e)) (hi : P.info? e = some i) (g sLen sCap : Nat) (cur : Array Value) (hg : w.heap[g]? = some (.cells cur e (0, 0)))
    (y : Value) (m : Nat) (news : List Value) (hs : AppSrc P t u e i.size y m news w) (h1 : ∀ u ∈ news, u.oneCell' = true) (hroom : sLen + m ≤ sCap) (hfit : sLen * i.size + news.length ≤ cur.size) :
    (Builtin.append_ #[t, u] ty #[.slice (some ⟨g, 0, none⟩) sLen sCap, y]).run P w = .ok (.slice (some ⟨g, 0, none⟩) (sLen + m) sCap) (w.setRow g (cur.toList.take (sLen * i.size) ++ news ++ cur.toList.drop (sLen * i.size + news.length)).toArray) := by
  rcases hs with ⟨rfl, ad, c, rfl, hl, hc⟩ | ⟨hu, h0, _, bs, rfl, rfl, rfl⟩
  · exact run_append_room (P := P) w t ty e i ht hi g sLen sCap cur hg ad m c news hl hc h1 hroom hfit
  · have := Lib.run_append_room_string (P := P) w t u ty e i ht hu hi h0 g sLen sCap cur hg bs hroom (by rw [h0, Nat.mul_one, Lib.strCells_length] at hfit; exact hfit)
    rw [this, h0, Nat.mul_one, Lib.strCells_length]
theorem wpList_append2 {ops : Array Oper} {rest : List Oper} {o : Oper} {ac : Act} {Q : Exit → Act → World → Prop} (hgd : o.guard = none) (s x : Operand) (t : TypeId)
    (ho : o.op = .call { callee := .builtin .append, args := #[s, x], argTypes := #[t, t] })
    (e : TypeId) (i : TypeInfo) (z : Value) (size bytes : Nat) (ht : P.underlying t = some (.slice e)) (hi : P.info? e = some i) (hz : i.zero = some z)
    (hsize : i.size = size) (hby : i.bytes = bytes) (hzs : z.cells.size = size) (hsz : 0 < size)
    (v : Value) (n : Nat) (xs : List Value) (hs : ac.eval s = v) (hown : w.ownsRow 0 e size v n xs)
    (a : Addr) (m c : Nat) (news : List Value) (hx : ac.eval x = .slice (some a) m c) (hl : news.length = m * size) (hnews : ∀ j u, news[j]? = some u → w.cell? (a.add j) = some u) (h1 : ∀ u ∈ news, u.oneCell' = true)
    (hpos : 0 < n + m) (h63 : n + m ≤ maxLen) (hbytes : (n + m) * bytes ≤ 140737488355328)
    (h : ∀ g cap w', w'.ownsRow 0 e size (.slice (some ⟨g, 0, none⟩) (n + m) cap) (n + m) (xs ++ news) → w.grownBy w' v.ownBlock → (v.ownBlock = some g ∨ g = w.heap.size) → wpList P ops Q rest (ac.put o.dst (.slice (some ⟨g, 0, none⟩) (n + m) cap)) w') :
    wpList P ops Q (o :: rest) ac w :=
  wpList_plain hgd fun _ hK => by
    obtain ⟨g, cap, w', hr, h2, h3, h4⟩ := run_append2 (P := P) w t o.type e i z size bytes ht hi hz hsize hby hzs hsz v n xs hown a m c news hl hnews h1 hpos h63 hbytes
    unfold Oper.wp execOp
    simp only [ho, resolve, invoke, builtin, Sem.run_bind, Sem.run_pure, Result.andThen_ok, List.map_toArray, List.map_cons, List.map_nil, hs, hx, hr]
    exact hK _ _ (h g cap w' h2 h3 h4)
end
end Go.Tg
/-
  The last step of a law's proof: a world in which nothing that was there has turned.
-/
set_option linter.unusedSimpArgs false
set_option linter.unusedVariables false
namespace Go.Tg
open Go.RowKit Go.WideShapes Go.ChangeShapes
section
variable {H : Type} {enc : TypeId × Value → H} {P : Program}
theorem post_of_below {f : Func} {s : ChangeSpec} {apart fresh handsOn again : Bool} {W W' : World} {args : Array Value} {v : Value} {ds gs : List (DataW H)} {before pa pv : List MemPlace}
    (hW : DataW.Whole enc P f.params.toList s.vars apart W args.toList ds gs before)
    (hres : ∀ (b : Nat) (sp : Nat → Bool) (hd : Bool), DataW.TrodAll enc P W' b sp hd f.resultTypes.toList (v.resultList f.resultTypes.size) (s.fn H (ds ++ gs)).results [])
    (hargs : ∀ sp : Nat → Bool, (∀ p ∈ before, sp p.block = true) → DataW.TrodAll enc P W' 0 sp true f.params.toList args.toList (s.fn H (ds ++ gs)).args pa)
    (hvars : ∀ sp : Nat → Bool, (∀ p ∈ before, sp p.block = true) → DataW.TrodVars enc P W' sp s.vars (s.fn H (ds ++ gs)).vars pv)
    (hps : before = pa ++ pv) (hb : Below W.heap.size W W')
    (hok : ∀ (j : Nat) (t : TypeId) (r : Value), f.resultTypes[j]? = some t → (v.resultList f.resultTypes.size)[j]? = some r → Value.okWide P W' .any 0 t r) :
    s.post enc P f apart fresh handsOn again W args v W' := by
  have hlt : ∀ p ∈ before, p.block < W.heap.size := fun p hp => hW.lt p hp
  have hold : ∀ p ∈ before, (fun b => decide (b < W.heap.size)) p.block = true := fun p hp => by simpa using hlt p hp
  refine ⟨ds, gs, before, [], pa, pv, hW, hres _ _ _, hargs _ hold, hvars _ hold, World.keptBut_mono (fun p hp => ⟨hp, ?_⟩) (hb.frame (· ∈ before)), fun _ => ?_⟩
  · rw [hps, List.mem_append] at hp
    exact Or.inr hp
  · obtain ⟨_, _, _, _, _, hz, hn⟩ := hW
    refine ⟨hok, _, _, ([] ++ pa) ++ pv, ⟨[] ++ pa, pv, trodAll_append (hargs _ (fun _ _ => rfl)) (hres _ _ _), hvars _ (fun _ _ => rfl), rfl, ?_, ?_⟩, ?_⟩
    · intro b off hp
      have hin : MemPlace.cell b off ∈ before := by rw [hps]; simpa using hp
      rw [hb.frozen (hlt _ hin)]
      exact hz b off hin
    · intro ha
      have := hn ha
      rw [hps] at this
      simpa using this
    · intro p hp _
      rw [hps]
      simpa using hp
end
theorem below_of_false {w w' : World} (h : Change (fun _ => False) w w') : Below w.heap.size w w' := h.below (Nat.le_refl _) (fun _ h => h.elim)

section
variable {H : Type} {enc : TypeId × Value → H} {P : Program}
theorem trodAll_stays {W W' : World} (hl : laidOutB P = true) (hb : Below W.heap.size W W') : ∀ {ts : List TypeId} {vs : List Value} {ds : List (DataW H)} {ps : List MemPlace} {sp : Nat → Bool},
    (∀ t ∈ ts, P.readableRec t = true ∧ t < P.types.size) → DataW.TrodAll enc P W 0 (fun _ => true) true ts vs ds ps → (∀ p ∈ ps, p.block < W.heap.size) → (∀ p ∈ ps, sp p.block = true) → DataW.TrodAll enc P W' 0 sp true ts vs ds ps
  | [], [], [], _, _, _, h, _, _ => h
  | t :: ts, v :: vs, d :: ds, ps, sp, hr, h, hlt, hs => by
    obtain ⟨p, q, h1, h2, rfl⟩ := h
    obtain ⟨hr1, hr2⟩ := hr t (by simp)
    exact ⟨p, q, WideElems.Trod_stays hl hr1 hr2 h1 (fun x hx => hb.same (hlt x (by simp [hx]))) (fun x hx => hs x (by simp [hx])),
      trodAll_stays hl hb (fun t' ht' => hr t' (by simp [ht'])) h2 (fun x hx => hlt x (by simp [hx])) (fun x hx => hs x (by simp [hx])), rfl⟩
  | [], _ :: _, _, _, _, _, h, _, _ => absurd h (by simp [DataW.TrodAll])
  | [], [], _ :: _, _, _, _, h, _, _ => absurd h (by simp [DataW.TrodAll])
  | _ :: _, [], _, _, _, _, h, _, _ => absurd h (by simp [DataW.TrodAll])
  | _ :: _, _ :: _, [], _, _, _, h, _, _ => absurd h (by simp [DataW.TrodAll])
/-- A law's last step: it returned true, nothing that was there has turned. -/
theorem law_post {f : Func} {s : ChangeSpec} {W W' : World} {args : Array Value} {ds gs : List (DataW H)} {before : List MemPlace} (hl : laidOutB P = true)
    (hW : DataW.Whole enc P f.params.toList s.vars false W args.toList ds gs before) (hv : s.vars = []) (hr : ∀ t ∈ f.params.toList, P.readableRec t = true ∧ t < P.types.size)
    {tb : TypeId} (hres : f.resultTypes = #[tb]) (htb : P.underlying tb = some .bool) (hfn : s.fn H ds = { results := [.lit (.bool true)], args := ds }) (hb : Below W.heap.size W W') :
    s.post enc P f false true false false W args (.bool true) W' := by
  have hlt : ∀ p ∈ before, p.block < W.heap.size := fun p hp => hW.lt p hp
  have hW0 := hW
  obtain ⟨p, q, hA, hV, rfl, hz, hn⟩ := hW
  rw [hv] at hV
  cases gs with
  | cons => exact absurd hV (by simp [DataW.TrodVars])
  | nil =>
    have hq : q = [] := hV
    subst hq
    refine ⟨ds, [], p ++ [], [], p, [], hW0, ?_, ?_, ?_, World.keptBut_mono (fun x hx => ⟨hx, ?_⟩) (hb.frame (· ∈ p ++ [])), fun h => by cases h⟩
    · rw [List.append_nil, hfn, hres]; exact trodAll_cons_mk (shut_bool htb _) trodAll_mk0
    · rw [List.append_nil, hfn]; exact trodAll_stays hl hb hr hA (fun x hx => hlt x (by simp [hx])) (fun x hx => by simpa using hlt x (by simp [hx]))
    · rw [List.append_nil, hfn, hv]; rfl
    · exact .inr (.inl (by simpa using hx))
end
end Go.Tg
/-
  Bytes as the numbers that they are.
-/
set_option linter.unusedSimpArgs false
set_option linter.unusedVariables false
namespace Go.Lg
theorem u8eq (b : UInt8) (n : Nat) (hn : n < 256) : ((b.toNat : Int) = n) = (b = UInt8.ofNat n) := by
  have := b.toNat_lt
  apply propext
  constructor
  · intro h
    apply UInt8.toNat_inj.1
    simp; omega
  · rintro rfl
    simp; omega
section
variable {b : UInt8}
@[simp] theorem u8q0 : ((b.toNat : Int) = 0) = (b = 0) := u8eq b 0 (by decide)
@[simp] theorem u8q1 : ((b.toNat : Int) = 1) = (b = 1) := u8eq b 1 (by decide)
@[simp] theorem u8q2 : ((b.toNat : Int) = 2) = (b = 2) := u8eq b 2 (by decide)
@[simp] theorem u8q3 : ((b.toNat : Int) = 3) = (b = 3) := u8eq b 3 (by decide)
@[simp] theorem u8q4 : ((b.toNat : Int) = 4) = (b = 4) := u8eq b 4 (by decide)
@[simp] theorem u8q5 : ((b.toNat : Int) = 5) = (b = 5) := u8eq b 5 (by decide)
@[simp] theorem u8q6 : ((b.toNat : Int) = 6) = (b = 6) := u8eq b 6 (by decide)
@[simp] theorem u8q7 : ((b.toNat : Int) = 7) = (b = 7) := u8eq b 7 (by decide)
@[simp] theorem u8q8 : ((b.toNat : Int) = 8) = (b = 8) := u8eq b 8 (by decide)
@[simp] theorem u8q9 : ((b.toNat : Int) = 9) = (b = 9) := u8eq b 9 (by decide)
@[simp] theorem u8q10 : ((b.toNat : Int) = 10) = (b = 10) := u8eq b 10 (by decide)
@[simp] theorem u8q11 : ((b.toNat : Int) = 11) = (b = 11) := u8eq b 11 (by decide)
@[simp] theorem u8q12 : ((b.toNat : Int) = 12) = (b = 12) := u8eq b 12 (by decide)
@[simp] theorem u8q13 : ((b.toNat : Int) = 13) = (b = 13) := u8eq b 13 (by decide)
@[simp] theorem u8q14 : ((b.toNat : Int) = 14) = (b = 14) := u8eq b 14 (by decide)
@[simp] theorem u8q15 : ((b.toNat : Int) = 15) = (b = 15) := u8eq b 15 (by decide)
@[simp] theorem u8q16 : ((b.toNat : Int) = 16) = (b = 16) := u8eq b 16 (by decide)
@[simp] theorem u8q17 : ((b.toNat : Int) = 17) = (b = 17) := u8eq b 17 (by decide)
@[simp] theorem u8q18 : ((b.toNat : Int) = 18) = (b = 18) := u8eq b 18 (by decide)
@[simp] theorem u8q19 : ((b.toNat : Int) = 19) = (b = 19) := u8eq b 19 (by decide)
@[simp] theorem u8q20 : ((b.toNat : Int) = 20) = (b = 20) := u8eq b 20 (by decide)
@[simp] theorem u8q21 : ((b.toNat : Int) = 21) = (b = 21) := u8eq b 21 (by decide)
@[simp] theorem u8q22 : ((b.toNat : Int) = 22) = (b = 22) := u8eq b 22 (by decide)
@[simp] theorem u8q23 : ((b.toNat : Int) = 23) = (b = 23) := u8eq b 23 (by decide)
@[simp] theorem u8q24 : ((b.toNat : Int) = 24) = (b = 24) := u8eq b 24 (by decide)
@[simp] theorem u8q25 : ((b.toNat : Int) = 25) = (b = 25) := u8eq b 25 (by decide)
@[simp] theorem u8q26 : ((b.toNat : Int) = 26) = (b = 26) := u8eq b 26 (by decide)
@[simp] theorem u8q27 : ((b.toNat : Int) = 27) = (b = 27) := u8eq b 27 (by decide)
@[simp] theorem u8q28 : ((b.toNat : Int) = 28) = (b = 28) := u8eq b 28 (by decide)
@[simp] theorem u8q29 : ((b.toNat : Int) = 29) = (b = 29) := u8eq b 29 (by decide)
@[simp] theorem u8q30 : ((b.toNat : Int) = 30) = (b = 30) := u8eq b 30 (by decide)
@[simp] theorem u8q31 : ((b.toNat : Int) = 31) = (b = 31) := u8eq b 31 (by decide)
@[simp] theorem u8q32 : ((b.toNat : Int) = 32) = (b = 32) := u8eq b 32 (by decide)
@[simp] theorem u8q33 : ((b.toNat : Int) = 33) = (b = 33) := u8eq b 33 (by decide)
@[simp] theorem u8q34 : ((b.toNat : Int) = 34) = (b = 34) := u8eq b 34 (by decide)
@[simp] theorem u8q35 : ((b.toNat : Int) = 35) = (b = 35) := u8eq b 35 (by decide)
@[simp] theorem u8q36 : ((b.toNat : Int) = 36) = (b = 36) := u8eq b 36 (by decide)
@[simp] theorem u8q37 : ((b.toNat : Int) = 37) = (b = 37) := u8eq b 37 (by decide)
@[simp] theorem u8q38 : ((b.toNat : Int) = 38) = (b = 38) := u8eq b 38 (by decide)
@[simp] theorem u8q39 : ((b.toNat : Int) = 39) = (b = 39) := u8eq b 39 (by decide)
@[simp] theorem u8q40 : ((b.toNat : Int) = 40) = (b = 40) := u8eq b 40 (by decide)
@[simp] theorem u8q41 : ((b.toNat : Int) = 41) = (b = 41) := u8eq b 41 (by decide)
@[simp] theorem u8q42 : ((b.toNat : Int) = 42) = (b = 42) := u8eq b 42 (by decide)
@[simp] theorem u8q43 : ((b.toNat : Int) = 43) = (b = 43) := u8eq b 43 (by decide)
@[simp] theorem u8q44 : ((b.toNat : Int) = 44) = (b = 44) := u8eq b 44 (by decide)
@[simp] theorem u8q45 : ((b.toNat : Int) = 45) = (b = 45) := u8eq b 45 (by decide)
@[simp] theorem u8q46 : ((b.toNat : Int) = 46) = (b = 46) := u8eq b 46 (by decide)
@[simp] theorem u8q47 : ((b.toNat : Int) = 47) = (b = 47) := u8eq b 47 (by decide)
@[simp] theorem u8q48 : ((b.toNat : Int) = 48) = (b = 48) := u8eq b 48 (by decide)
@[simp] theorem u8q49 : ((b.toNat : Int) = 49) = (b = 49) := u8eq b 49 (by decide)
@[simp] theorem u8q50 : ((b.toNat : Int) = 50) = (b = 50) := u8eq b 50 (by decide)
@[simp] theorem u8q51 : ((b.toNat : Int) = 51) = (b = 51) := u8eq b 51 (by decide)
@[simp] theorem u8q52 : ((b.toNat : Int) = 52) = (b = 52) := u8eq b 52 (by decide)
@[simp] theorem u8q53 : ((b.toNat : Int) = 53) = (b = 53) := u8eq b 53 (by decide)
@[simp] theorem u8q54 : ((b.toNat : Int) = 54) = (b = 54) := u8eq b 54 (by decide)
@[simp] theorem u8q55 : ((b.toNat : Int) = 55) = (b = 55) := u8eq b 55 (by decide)
@[simp] theorem u8q56 : ((b.toNat : Int) = 56) = (b = 56) := u8eq b 56 (by decide)
@[simp] theorem u8q57 : ((b.toNat : Int) = 57) = (b = 57) := u8eq b 57 (by decide)
@[simp] theorem u8q58 : ((b.toNat : Int) = 58) = (b = 58) := u8eq b 58 (by decide)
@[simp] theorem u8q59 : ((b.toNat : Int) = 59) = (b = 59) := u8eq b 59 (by decide)
@[simp] theorem u8q60 : ((b.toNat : Int) = 60) = (b = 60) := u8eq b 60 (by decide)
@[simp] theorem u8q61 : ((b.toNat : Int) = 61) = (b = 61) := u8eq b 61 (by decide)
@[simp] theorem u8q62 : ((b.toNat : Int) = 62) = (b = 62) := u8eq b 62 (by decide)
@[simp] theorem u8q63 : ((b.toNat : Int) = 63) = (b = 63) := u8eq b 63 (by decide)
@[simp] theorem u8q64 : ((b.toNat : Int) = 64) = (b = 64) := u8eq b 64 (by decide)
@[simp] theorem u8q65 : ((b.toNat : Int) = 65) = (b = 65) := u8eq b 65 (by decide)
@[simp] theorem u8q66 : ((b.toNat : Int) = 66) = (b = 66) := u8eq b 66 (by decide)
@[simp] theorem u8q67 : ((b.toNat : Int) = 67) = (b = 67) := u8eq b 67 (by decide)
@[simp] theorem u8q68 : ((b.toNat : Int) = 68) = (b = 68) := u8eq b 68 (by decide)
@[simp] theorem u8q69 : ((b.toNat : Int) = 69) = (b = 69) := u8eq b 69 (by decide)
@[simp] theorem u8q70 : ((b.toNat : Int) = 70) = (b = 70) := u8eq b 70 (by decide)
@[simp] theorem u8q71 : ((b.toNat : Int) = 71) = (b = 71) := u8eq b 71 (by decide)
@[simp] theorem u8q72 : ((b.toNat : Int) = 72) = (b = 72) := u8eq b 72 (by decide)
@[simp] theorem u8q73 : ((b.toNat : Int) = 73) = (b = 73) := u8eq b 73 (by decide)
@[simp] theorem u8q74 : ((b.toNat : Int) = 74) = (b = 74) := u8eq b 74 (by decide)
@[simp] theorem u8q75 : ((b.toNat : Int) = 75) = (b = 75) := u8eq b 75 (by decide)
@[simp] theorem u8q76 : ((b.toNat : Int) = 76) = (b = 76) := u8eq b 76 (by decide)
@[simp] theorem u8q77 : ((b.toNat : Int) = 77) = (b = 77) := u8eq b 77 (by decide)
@[simp] theorem u8q78 : ((b.toNat : Int) = 78) = (b = 78) := u8eq b 78 (by decide)
@[simp] theorem u8q79 : ((b.toNat : Int) = 79) = (b = 79) := u8eq b 79 (by decide)
@[simp] theorem u8q80 : ((b.toNat : Int) = 80) = (b = 80) := u8eq b 80 (by decide)
@[simp] theorem u8q81 : ((b.toNat : Int) = 81) = (b = 81) := u8eq b 81 (by decide)
@[simp] theorem u8q82 : ((b.toNat : Int) = 82) = (b = 82) := u8eq b 82 (by decide)
@[simp] theorem u8q83 : ((b.toNat : Int) = 83) = (b = 83) := u8eq b 83 (by decide)
@[simp] theorem u8q84 : ((b.toNat : Int) = 84) = (b = 84) := u8eq b 84 (by decide)
@[simp] theorem u8q85 : ((b.toNat : Int) = 85) = (b = 85) := u8eq b 85 (by decide)
@[simp] theorem u8q86 : ((b.toNat : Int) = 86) = (b = 86) := u8eq b 86 (by decide)
@[simp] theorem u8q87 : ((b.toNat : Int) = 87) = (b = 87) := u8eq b 87 (by decide)
@[simp] theorem u8q88 : ((b.toNat : Int) = 88) = (b = 88) := u8eq b 88 (by decide)
@[simp] theorem u8q89 : ((b.toNat : Int) = 89) = (b = 89) := u8eq b 89 (by decide)
@[simp] theorem u8q90 : ((b.toNat : Int) = 90) = (b = 90) := u8eq b 90 (by decide)
@[simp] theorem u8q91 : ((b.toNat : Int) = 91) = (b = 91) := u8eq b 91 (by decide)
@[simp] theorem u8q92 : ((b.toNat : Int) = 92) = (b = 92) := u8eq b 92 (by decide)
@[simp] theorem u8q93 : ((b.toNat : Int) = 93) = (b = 93) := u8eq b 93 (by decide)
@[simp] theorem u8q94 : ((b.toNat : Int) = 94) = (b = 94) := u8eq b 94 (by decide)
@[simp] theorem u8q95 : ((b.toNat : Int) = 95) = (b = 95) := u8eq b 95 (by decide)
@[simp] theorem u8q96 : ((b.toNat : Int) = 96) = (b = 96) := u8eq b 96 (by decide)
@[simp] theorem u8q97 : ((b.toNat : Int) = 97) = (b = 97) := u8eq b 97 (by decide)
@[simp] theorem u8q98 : ((b.toNat : Int) = 98) = (b = 98) := u8eq b 98 (by decide)
@[simp] theorem u8q99 : ((b.toNat : Int) = 99) = (b = 99) := u8eq b 99 (by decide)
@[simp] theorem u8q100 : ((b.toNat : Int) = 100) = (b = 100) := u8eq b 100 (by decide)
@[simp] theorem u8q101 : ((b.toNat : Int) = 101) = (b = 101) := u8eq b 101 (by decide)
@[simp] theorem u8q102 : ((b.toNat : Int) = 102) = (b = 102) := u8eq b 102 (by decide)
@[simp] theorem u8q103 : ((b.toNat : Int) = 103) = (b = 103) := u8eq b 103 (by decide)
@[simp] theorem u8q104 : ((b.toNat : Int) = 104) = (b = 104) := u8eq b 104 (by decide)
@[simp] theorem u8q105 : ((b.toNat : Int) = 105) = (b = 105) := u8eq b 105 (by decide)
@[simp] theorem u8q106 : ((b.toNat : Int) = 106) = (b = 106) := u8eq b 106 (by decide)
@[simp] theorem u8q107 : ((b.toNat : Int) = 107) = (b = 107) := u8eq b 107 (by decide)
@[simp] theorem u8q108 : ((b.toNat : Int) = 108) = (b = 108) := u8eq b 108 (by decide)
@[simp] theorem u8q109 : ((b.toNat : Int) = 109) = (b = 109) := u8eq b 109 (by decide)
@[simp] theorem u8q110 : ((b.toNat : Int) = 110) = (b = 110) := u8eq b 110 (by decide)
@[simp] theorem u8q111 : ((b.toNat : Int) = 111) = (b = 111) := u8eq b 111 (by decide)
@[simp] theorem u8q112 : ((b.toNat : Int) = 112) = (b = 112) := u8eq b 112 (by decide)
@[simp] theorem u8q113 : ((b.toNat : Int) = 113) = (b = 113) := u8eq b 113 (by decide)
@[simp] theorem u8q114 : ((b.toNat : Int) = 114) = (b = 114) := u8eq b 114 (by decide)
@[simp] theorem u8q115 : ((b.toNat : Int) = 115) = (b = 115) := u8eq b 115 (by decide)
@[simp] theorem u8q116 : ((b.toNat : Int) = 116) = (b = 116) := u8eq b 116 (by decide)
@[simp] theorem u8q117 : ((b.toNat : Int) = 117) = (b = 117) := u8eq b 117 (by decide)
@[simp] theorem u8q118 : ((b.toNat : Int) = 118) = (b = 118) := u8eq b 118 (by decide)
@[simp] theorem u8q119 : ((b.toNat : Int) = 119) = (b = 119) := u8eq b 119 (by decide)
@[simp] theorem u8q120 : ((b.toNat : Int) = 120) = (b = 120) := u8eq b 120 (by decide)
@[simp] theorem u8q121 : ((b.toNat : Int) = 121) = (b = 121) := u8eq b 121 (by decide)
@[simp] theorem u8q122 : ((b.toNat : Int) = 122) = (b = 122) := u8eq b 122 (by decide)
@[simp] theorem u8q123 : ((b.toNat : Int) = 123) = (b = 123) := u8eq b 123 (by decide)
@[simp] theorem u8q124 : ((b.toNat : Int) = 124) = (b = 124) := u8eq b 124 (by decide)
@[simp] theorem u8q125 : ((b.toNat : Int) = 125) = (b = 125) := u8eq b 125 (by decide)
@[simp] theorem u8q126 : ((b.toNat : Int) = 126) = (b = 126) := u8eq b 126 (by decide)
@[simp] theorem u8q127 : ((b.toNat : Int) = 127) = (b = 127) := u8eq b 127 (by decide)
@[simp] theorem u8q128 : ((b.toNat : Int) = 128) = (b = 128) := u8eq b 128 (by decide)
@[simp] theorem u8q129 : ((b.toNat : Int) = 129) = (b = 129) := u8eq b 129 (by decide)
@[simp] theorem u8q130 : ((b.toNat : Int) = 130) = (b = 130) := u8eq b 130 (by decide)
@[simp] theorem u8q131 : ((b.toNat : Int) = 131) = (b = 131) := u8eq b 131 (by decide)
@[simp] theorem u8q132 : ((b.toNat : Int) = 132) = (b = 132) := u8eq b 132 (by decide)
@[simp] theorem u8q133 : ((b.toNat : Int) = 133) = (b = 133) := u8eq b 133 (by decide)
@[simp] theorem u8q134 : ((b.toNat : Int) = 134) = (b = 134) := u8eq b 134 (by decide)
@[simp] theorem u8q135 : ((b.toNat : Int) = 135) = (b = 135) := u8eq b 135 (by decide)
@[simp] theorem u8q136 : ((b.toNat : Int) = 136) = (b = 136) := u8eq b 136 (by decide)
@[simp] theorem u8q137 : ((b.toNat : Int) = 137) = (b = 137) := u8eq b 137 (by decide)
@[simp] theorem u8q138 : ((b.toNat : Int) = 138) = (b = 138) := u8eq b 138 (by decide)
@[simp] theorem u8q139 : ((b.toNat : Int) = 139) = (b = 139) := u8eq b 139 (by decide)
@[simp] theorem u8q140 : ((b.toNat : Int) = 140) = (b = 140) := u8eq b 140 (by decide)
@[simp] theorem u8q141 : ((b.toNat : Int) = 141) = (b = 141) := u8eq b 141 (by decide)
@[simp] theorem u8q142 : ((b.toNat : Int) = 142) = (b = 142) := u8eq b 142 (by decide)
@[simp] theorem u8q143 : ((b.toNat : Int) = 143) = (b = 143) := u8eq b 143 (by decide)
@[simp] theorem u8q144 : ((b.toNat : Int) = 144) = (b = 144) := u8eq b 144 (by decide)
@[simp] theorem u8q145 : ((b.toNat : Int) = 145) = (b = 145) := u8eq b 145 (by decide)
@[simp] theorem u8q146 : ((b.toNat : Int) = 146) = (b = 146) := u8eq b 146 (by decide)
@[simp] theorem u8q147 : ((b.toNat : Int) = 147) = (b = 147) := u8eq b 147 (by decide)
@[simp] theorem u8q148 : ((b.toNat : Int) = 148) = (b = 148) := u8eq b 148 (by decide)
@[simp] theorem u8q149 : ((b.toNat : Int) = 149) = (b = 149) := u8eq b 149 (by decide)
@[simp] theorem u8q150 : ((b.toNat : Int) = 150) = (b = 150) := u8eq b 150 (by decide)
@[simp] theorem u8q151 : ((b.toNat : Int) = 151) = (b = 151) := u8eq b 151 (by decide)
@[simp] theorem u8q152 : ((b.toNat : Int) = 152) = (b = 152) := u8eq b 152 (by decide)
@[simp] theorem u8q153 : ((b.toNat : Int) = 153) = (b = 153) := u8eq b 153 (by decide)
@[simp] theorem u8q154 : ((b.toNat : Int) = 154) = (b = 154) := u8eq b 154 (by decide)
@[simp] theorem u8q155 : ((b.toNat : Int) = 155) = (b = 155) := u8eq b 155 (by decide)
@[simp] theorem u8q156 : ((b.toNat : Int) = 156) = (b = 156) := u8eq b 156 (by decide)
@[simp] theorem u8q157 : ((b.toNat : Int) = 157) = (b = 157) := u8eq b 157 (by decide)
@[simp] theorem u8q158 : ((b.toNat : Int) = 158) = (b = 158) := u8eq b 158 (by decide)
@[simp] theorem u8q159 : ((b.toNat : Int) = 159) = (b = 159) := u8eq b 159 (by decide)
@[simp] theorem u8q160 : ((b.toNat : Int) = 160) = (b = 160) := u8eq b 160 (by decide)
@[simp] theorem u8q161 : ((b.toNat : Int) = 161) = (b = 161) := u8eq b 161 (by decide)
@[simp] theorem u8q162 : ((b.toNat : Int) = 162) = (b = 162) := u8eq b 162 (by decide)
@[simp] theorem u8q163 : ((b.toNat : Int) = 163) = (b = 163) := u8eq b 163 (by decide)
@[simp] theorem u8q164 : ((b.toNat : Int) = 164) = (b = 164) := u8eq b 164 (by decide)
@[simp] theorem u8q165 : ((b.toNat : Int) = 165) = (b = 165) := u8eq b 165 (by decide)
@[simp] theorem u8q166 : ((b.toNat : Int) = 166) = (b = 166) := u8eq b 166 (by decide)
@[simp] theorem u8q167 : ((b.toNat : Int) = 167) = (b = 167) := u8eq b 167 (by decide)
@[simp] theorem u8q168 : ((b.toNat : Int) = 168) = (b = 168) := u8eq b 168 (by decide)
@[simp] theorem u8q169 : ((b.toNat : Int) = 169) = (b = 169) := u8eq b 169 (by decide)
@[simp] theorem u8q170 : ((b.toNat : Int) = 170) = (b = 170) := u8eq b 170 (by decide)
@[simp] theorem u8q171 : ((b.toNat : Int) = 171) = (b = 171) := u8eq b 171 (by decide)
@[simp] theorem u8q172 : ((b.toNat : Int) = 172) = (b = 172) := u8eq b 172 (by decide)
@[simp] theorem u8q173 : ((b.toNat : Int) = 173) = (b = 173) := u8eq b 173 (by decide)
@[simp] theorem u8q174 : ((b.toNat : Int) = 174) = (b = 174) := u8eq b 174 (by decide)
@[simp] theorem u8q175 : ((b.toNat : Int) = 175) = (b = 175) := u8eq b 175 (by decide)
@[simp] theorem u8q176 : ((b.toNat : Int) = 176) = (b = 176) := u8eq b 176 (by decide)
@[simp] theorem u8q177 : ((b.toNat : Int) = 177) = (b = 177) := u8eq b 177 (by decide)
@[simp] theorem u8q178 : ((b.toNat : Int) = 178) = (b = 178) := u8eq b 178 (by decide)
@[simp] theorem u8q179 : ((b.toNat : Int) = 179) = (b = 179) := u8eq b 179 (by decide)
@[simp] theorem u8q180 : ((b.toNat : Int) = 180) = (b = 180) := u8eq b 180 (by decide)
@[simp] theorem u8q181 : ((b.toNat : Int) = 181) = (b = 181) := u8eq b 181 (by decide)
@[simp] theorem u8q182 : ((b.toNat : Int) = 182) = (b = 182) := u8eq b 182 (by decide)
@[simp] theorem u8q183 : ((b.toNat : Int) = 183) = (b = 183) := u8eq b 183 (by decide)
@[simp] theorem u8q184 : ((b.toNat : Int) = 184) = (b = 184) := u8eq b 184 (by decide)
@[simp] theorem u8q185 : ((b.toNat : Int) = 185) = (b = 185) := u8eq b 185 (by decide)
@[simp] theorem u8q186 : ((b.toNat : Int) = 186) = (b = 186) := u8eq b 186 (by decide)
@[simp] theorem u8q187 : ((b.toNat : Int) = 187) = (b = 187) := u8eq b 187 (by decide)
@[simp] theorem u8q188 : ((b.toNat : Int) = 188) = (b = 188) := u8eq b 188 (by decide)
@[simp] theorem u8q189 : ((b.toNat : Int) = 189) = (b = 189) := u8eq b 189 (by decide)
@[simp] theorem u8q190 : ((b.toNat : Int) = 190) = (b = 190) := u8eq b 190 (by decide)
@[simp] theorem u8q191 : ((b.toNat : Int) = 191) = (b = 191) := u8eq b 191 (by decide)
@[simp] theorem u8q192 : ((b.toNat : Int) = 192) = (b = 192) := u8eq b 192 (by decide)
@[simp] theorem u8q193 : ((b.toNat : Int) = 193) = (b = 193) := u8eq b 193 (by decide)
@[simp] theorem u8q194 : ((b.toNat : Int) = 194) = (b = 194) := u8eq b 194 (by decide)
@[simp] theorem u8q195 : ((b.toNat : Int) = 195) = (b = 195) := u8eq b 195 (by decide)
@[simp] theorem u8q196 : ((b.toNat : Int) = 196) = (b = 196) := u8eq b 196 (by decide)
@[simp] theorem u8q197 : ((b.toNat : Int) = 197) = (b = 197) := u8eq b 197 (by decide)
@[simp] theorem u8q198 : ((b.toNat : Int) = 198) = (b = 198) := u8eq b 198 (by decide)
@[simp] theorem u8q199 : ((b.toNat : Int) = 199) = (b = 199) := u8eq b 199 (by decide)
@[simp] theorem u8q200 : ((b.toNat : Int) = 200) = (b = 200) := u8eq b 200 (by decide)
@[simp] theorem u8q201 : ((b.toNat : Int) = 201) = (b = 201) := u8eq b 201 (by decide)
@[simp] theorem u8q202 : ((b.toNat : Int) = 202) = (b = 202) := u8eq b 202 (by decide)
@[simp] theorem u8q203 : ((b.toNat : Int) = 203) = (b = 203) := u8eq b 203 (by decide)
@[simp] theorem u8q204 : ((b.toNat : Int) = 204) = (b = 204) := u8eq b 204 (by decide)
@[simp] theorem u8q205 : ((b.toNat : Int) = 205) = (b = 205) := u8eq b 205 (by decide)
@[simp] theorem u8q206 : ((b.toNat : Int) = 206) = (b = 206) := u8eq b 206 (by decide)
@[simp] theorem u8q207 : ((b.toNat : Int) = 207) = (b = 207) := u8eq b 207 (by decide)
@[simp] theorem u8q208 : ((b.toNat : Int) = 208) = (b = 208) := u8eq b 208 (by decide)
@[simp] theorem u8q209 : ((b.toNat : Int) = 209) = (b = 209) := u8eq b 209 (by decide)
@[simp] theorem u8q210 : ((b.toNat : Int) = 210) = (b = 210) := u8eq b 210 (by decide)
@[simp] theorem u8q211 : ((b.toNat : Int) = 211) = (b = 211) := u8eq b 211 (by decide)
@[simp] theorem u8q212 : ((b.toNat : Int) = 212) = (b = 212) := u8eq b 212 (by decide)
@[simp] theorem u8q213 : ((b.toNat : Int) = 213) = (b = 213) := u8eq b 213 (by decide)
@[simp] theorem u8q214 : ((b.toNat : Int) = 214) = (b = 214) := u8eq b 214 (by decide)
@[simp] theorem u8q215 : ((b.toNat : Int) = 215) = (b = 215) := u8eq b 215 (by decide)
@[simp] theorem u8q216 : ((b.toNat : Int) = 216) = (b = 216) := u8eq b 216 (by decide)
@[simp] theorem u8q217 : ((b.toNat : Int) = 217) = (b = 217) := u8eq b 217 (by decide)
@[simp] theorem u8q218 : ((b.toNat : Int) = 218) = (b = 218) := u8eq b 218 (by decide)
@[simp] theorem u8q219 : ((b.toNat : Int) = 219) = (b = 219) := u8eq b 219 (by decide)
@[simp] theorem u8q220 : ((b.toNat : Int) = 220) = (b = 220) := u8eq b 220 (by decide)
@[simp] theorem u8q221 : ((b.toNat : Int) = 221) = (b = 221) := u8eq b 221 (by decide)
@[simp] theorem u8q222 : ((b.toNat : Int) = 222) = (b = 222) := u8eq b 222 (by decide)
@[simp] theorem u8q223 : ((b.toNat : Int) = 223) = (b = 223) := u8eq b 223 (by decide)
@[simp] theorem u8q224 : ((b.toNat : Int) = 224) = (b = 224) := u8eq b 224 (by decide)
@[simp] theorem u8q225 : ((b.toNat : Int) = 225) = (b = 225) := u8eq b 225 (by decide)
@[simp] theorem u8q226 : ((b.toNat : Int) = 226) = (b = 226) := u8eq b 226 (by decide)
@[simp] theorem u8q227 : ((b.toNat : Int) = 227) = (b = 227) := u8eq b 227 (by decide)
@[simp] theorem u8q228 : ((b.toNat : Int) = 228) = (b = 228) := u8eq b 228 (by decide)
@[simp] theorem u8q229 : ((b.toNat : Int) = 229) = (b = 229) := u8eq b 229 (by decide)
@[simp] theorem u8q230 : ((b.toNat : Int) = 230) = (b = 230) := u8eq b 230 (by decide)
@[simp] theorem u8q231 : ((b.toNat : Int) = 231) = (b = 231) := u8eq b 231 (by decide)
@[simp] theorem u8q232 : ((b.toNat : Int) = 232) = (b = 232) := u8eq b 232 (by decide)
@[simp] theorem u8q233 : ((b.toNat : Int) = 233) = (b = 233) := u8eq b 233 (by decide)
@[simp] theorem u8q234 : ((b.toNat : Int) = 234) = (b = 234) := u8eq b 234 (by decide)
@[simp] theorem u8q235 : ((b.toNat : Int) = 235) = (b = 235) := u8eq b 235 (by decide)
@[simp] theorem u8q236 : ((b.toNat : Int) = 236) = (b = 236) := u8eq b 236 (by decide)
@[simp] theorem u8q237 : ((b.toNat : Int) = 237) = (b = 237) := u8eq b 237 (by decide)
@[simp] theorem u8q238 : ((b.toNat : Int) = 238) = (b = 238) := u8eq b 238 (by decide)
@[simp] theorem u8q239 : ((b.toNat : Int) = 239) = (b = 239) := u8eq b 239 (by decide)
@[simp] theorem u8q240 : ((b.toNat : Int) = 240) = (b = 240) := u8eq b 240 (by decide)
@[simp] theorem u8q241 : ((b.toNat : Int) = 241) = (b = 241) := u8eq b 241 (by decide)
@[simp] theorem u8q242 : ((b.toNat : Int) = 242) = (b = 242) := u8eq b 242 (by decide)
@[simp] theorem u8q243 : ((b.toNat : Int) = 243) = (b = 243) := u8eq b 243 (by decide)
@[simp] theorem u8q244 : ((b.toNat : Int) = 244) = (b = 244) := u8eq b 244 (by decide)
@[simp] theorem u8q245 : ((b.toNat : Int) = 245) = (b = 245) := u8eq b 245 (by decide)
@[simp] theorem u8q246 : ((b.toNat : Int) = 246) = (b = 246) := u8eq b 246 (by decide)
@[simp] theorem u8q247 : ((b.toNat : Int) = 247) = (b = 247) := u8eq b 247 (by decide)
@[simp] theorem u8q248 : ((b.toNat : Int) = 248) = (b = 248) := u8eq b 248 (by decide)
@[simp] theorem u8q249 : ((b.toNat : Int) = 249) = (b = 249) := u8eq b 249 (by decide)
@[simp] theorem u8q250 : ((b.toNat : Int) = 250) = (b = 250) := u8eq b 250 (by decide)
@[simp] theorem u8q251 : ((b.toNat : Int) = 251) = (b = 251) := u8eq b 251 (by decide)
@[simp] theorem u8q252 : ((b.toNat : Int) = 252) = (b = 252) := u8eq b 252 (by decide)
@[simp] theorem u8q253 : ((b.toNat : Int) = 253) = (b = 253) := u8eq b 253 (by decide)
@[simp] theorem u8q254 : ((b.toNat : Int) = 254) = (b = 254) := u8eq b 254 (by decide)
@[simp] theorem u8q255 : ((b.toNat : Int) = 255) = (b = 255) := u8eq b 255 (by decide)
@[simp] theorem u8lt : ((b.toNat : Int) < 256) = True := by simp; have := b.toNat_lt; omega
end
end Go.Lg
/-
  Layer 20 (unknown), in plain: patterns of bytes.
-/
set_option linter.unusedSimpArgs false
set_option linter.unusedVariables false
namespace Tg.Un
/-- a pattern: its bytes, its mask, what may stand ahead, its type -/
structure Pat where
  b : List UInt8
  m : List UInt8
  s : List UInt8
  t : List UInt8
deriving DecidableEq
/-- how many bytes that may be passed over stand ahead -/
def begins (k : List UInt8) : List UInt8 → Nat
  | [] => 0
  | c :: s => if k.contains c then begins k s + 1 else 0
theorem begins_le (k : List UInt8) : ∀ s : List UInt8, begins k s ≤ s.length
  | [] => Nat.le_refl 0
  | c :: s => by
    unfold begins
    have := begins_le k s
    split <;> simp <;> omega
/-- does a text's every byte, masked, come to a pattern's, as far as both go? -/
def fit : List UInt8 → List UInt8 → List UInt8 → Bool
  | c :: s, b :: bs, m :: ms => (c &&& m == b) && fit s bs ms
  | _, _, _ => true
/-- ... and how many come so -/
def fitN : List UInt8 → List UInt8 → List UInt8 → Nat × Bool
  | c :: s, b :: bs, m :: ms => if c &&& m = b then ((fitN s bs ms).1 + 1, (fitN s bs ms).2) else (0, false)
  | _, _, _ => (0, true)
theorem fitN_2 : ∀ s b m : List UInt8, (fitN s b m).2 = fit s b m
  | [], _, _ => by simp [fitN, fit]
  | _ :: _, [], _ => by simp [fitN, fit]
  | _ :: _, _ :: _, [] => by simp [fitN, fit]
  | c :: s, b :: bs, m :: ms => by
    unfold fitN fit
    by_cases h : c &&& m = b
    · rw [if_pos h, fitN_2 s bs ms]; simp [h]
    · rw [if_neg h]; simp [h]
theorem fitN_1 : ∀ s b m : List UInt8, m.length = b.length → fit s b m = true → (fitN s b m).1 = min s.length b.length
  | [], _, _, _, _ => by simp [fitN]
  | _ :: _, [], _, _, _ => by simp [fitN]
  | _ :: _, _ :: _, [], h, _ => by simp at h
  | c :: s, b :: bs, m :: ms, h, hf => by
    unfold fitN
    unfold fit at hf
    by_cases hc : c &&& m = b
    · have hf : fit s bs ms = true := by simpa [hc] using hf
      rw [if_pos hc, fitN_1 s bs ms (by simpa using h) hf]
      simp only [List.length_cons]; omega
    · simp [hc] at hf
def good (p : Pat) : Bool := decide (1 ≤ p.b.length) && decide (p.b.length ≤ 64) && decide (p.m.length = p.b.length)
def rest (p : Pat) (s : List UInt8) : List UInt8 := s.drop (begins p.s s)
def hits (p : Pat) (s : List UInt8) : Bool := good p && (fit (rest p s) p.b p.m && decide (p.b.length ≤ (rest p s).length))
/-- may a text yet come to a pattern? -/
def opens (p : Pat) (s : List UInt8) : Bool := good p && (fit (rest p s) p.b p.m && decide ((rest p s).length < p.b.length))
/-- the first pattern that a text begins with; below 0: none -/
def at_ (s : List UInt8) : List Pat → Nat → Int
  | [], _ => -1
  | p :: l, i => if hits p s = true then i else at_ s l (i + 1)
def typeOf (s : List UInt8) : List Pat → List UInt8
  | [] => []
  | p :: l => if hits p s = true then p.t else typeOf s l
theorem at_none {s : List UInt8} : ∀ {l : List Pat} {i : Nat}, at_ s l i < 0 → typeOf s l = []
  | [], _, _ => rfl
  | p :: l, i, h => by
    unfold at_ at h
    unfold typeOf
    split at h
    · omega
    · rename_i hh; rw [if_neg hh]; exact at_none h
theorem at_some {s : List UInt8} : ∀ {l : List Pat} {i : Nat}, 0 ≤ at_ s l i → ∃ (k : Nat) (hk : k < l.length), at_ s l i = ((i + k : Nat) : Int) ∧ typeOf s l = l[k].t
  | [], i, h => by simp [at_] at h
  | p :: l, i, h => by
    unfold at_ at h ⊢
    unfold typeOf
    split
    · exact ⟨0, by simp, by simp, by simp⟩
    · rename_i hh
      rw [if_neg hh] at h
      obtain ⟨k, hk, h1, h2⟩ := at_some h
      exact ⟨k + 1, by simp; omega, by rw [h1]; omega, by rw [h2]; simp⟩
/-- what two bytes have both, bit by bit -/
def andR : Nat → Nat → Nat → Nat → Nat → Nat
  | 0, _, _, _, out => out
  | n + 1, a, b, bit, out => andR n a b (2 * bit) (if a / bit % 2 = 1 ∧ b / bit % 2 = 1 then out + bit else out)
theorem andR_eq : ∀ (n a b bit out : Nat), 0 < bit → andR n a b bit out = out + bit * ((a / bit % 2 ^ n) &&& (b / bit % 2 ^ n))
  | 0, a, b, bit, out, _ => by simp [andR, Nat.mod_one]
  | n + 1, a, b, bit, out, hb => by
    unfold andR
    rw [andR_eq n a b (2 * bit) _ (by omega)]
    have ha : a / (2 * bit) = a / bit / 2 := by rw [Nat.mul_comm, Nat.div_div_eq_div_mul]
    have hb2 : b / (2 * bit) = b / bit / 2 := by rw [Nat.mul_comm, Nat.div_div_eq_div_mul]
    rw [ha, hb2]
    generalize a / bit = x
    generalize b / bit = y
    have key : (x % 2 ^ (n + 1)) &&& (y % 2 ^ (n + 1)) = 2 * ((x / 2 % 2 ^ n) &&& (y / 2 % 2 ^ n)) + (if x % 2 = 1 ∧ y % 2 = 1 then 1 else 0) := by
      apply Nat.eq_of_testBit_eq
      intro i
      cases i with
      | zero =>
        simp only [Nat.testBit_zero, Nat.and_mod_two_eq_one, Nat.testBit_and]
        split <;> rename_i h <;> simp [Nat.pow_succ, Nat.mod_mul_left_mod, h, Nat.add_mod] <;> omega
      | succ i =>
        have e : (2 * ((x / 2 % 2 ^ n) &&& (y / 2 % 2 ^ n)) + (if x % 2 = 1 ∧ y % 2 = 1 then 1 else 0)) / 2 = (x / 2 % 2 ^ n) &&& (y / 2 % 2 ^ n) := by split <;> omega
        rw [← Nat.testBit_div_two, ← Nat.testBit_div_two, e, Nat.and_div_two]
        have h1 : ∀ z, z % 2 ^ (n + 1) / 2 = z / 2 % 2 ^ n := fun z => by rw [Nat.pow_succ, Nat.mul_comm, Nat.mod_mul_right_div_self]
        rw [h1, h1]
    rw [key]
    split
    · rw [Nat.mul_add]
      have : bit * (2 * ((x / 2 % 2 ^ n) &&& (y / 2 % 2 ^ n))) = 2 * bit * ((x / 2 % 2 ^ n) &&& (y / 2 % 2 ^ n)) := by rw [← Nat.mul_assoc, Nat.mul_comm bit 2]
      omega
    · have : bit * (2 * ((x / 2 % 2 ^ n) &&& (y / 2 % 2 ^ n)) + 0) = 2 * bit * ((x / 2 % 2 ^ n) &&& (y / 2 % 2 ^ n)) := by rw [Nat.add_zero, ← Nat.mul_assoc, Nat.mul_comm bit 2]
      omega
theorem andR_byte (a b : UInt8) : andR 8 a.toNat b.toNat 1 0 = (a &&& b).toNat := by
  rw [andR_eq _ _ _ _ _ (by decide)]
  have h1 := a.toNat_lt
  have h2 := b.toNat_lt
  simp only [Nat.div_one, Nat.one_mul, Nat.zero_add, UInt8.toNat_and]
  rw [Nat.mod_eq_of_lt (by omega), Nat.mod_eq_of_lt (by omega)]
/-! ### a tag -/
def letter (c : UInt8) : Bool := (decide ((97 : Int) ≤ c.toNat) && decide ((c.toNat : Int) ≤ 122)) || (decide ((65 : Int) ≤ c.toNat) && decide ((c.toNat : Int) ≤ 90))
def up (c : UInt8) : UInt8 := if letter c then c &&& 223 else c
def msk (c : UInt8) : UInt8 := if letter c then 223 else 255
def white : List UInt8 := [9, 10, 12, 13, 32]
def tag (s t : List UInt8) : Pat := ⟨s.map up, s.map msk, white, t⟩
end Tg.Un
/-
  DERIVED: THE SHELF's CONTRACTS AT THIS DUMP, IN PLAIN WORDS (tools/lay-plain.mjs out of 'TryzShelf.lean', which tools/lay-shelf.mjs wrote): THE SAME DECLARATIONS UNDER THE SAME NAMES: 'import', 'namespace', 'open', 'def', 'theorem' AND NOTHING ELSE: no command of the shelf's: FOR A HAND-IN. Each laying: the table of numbers ('.._ren') and one theorem, a field a fact of the dump's own or the kernel's comparison; each contract: ONE APPLICATION.
-/
namespace Go.Proofs
open Go.Shelf
def Tryz.lays170_ren : Go.Shelf.Ren := ⟨fun | 170 => 200 | n => n, fun | 70 => 142 | 3 => 3 | 0 => 0 | 72 => 144 | 37 => 57 | 5 => 5 | n => n, fun | n => n⟩
theorem Tryz.lays170 : Go.Proofs.Lays.n170 Tryz.prog Tryz.lays170_ren := {
  mixed := by kernel_rfl
  f170 := Tryz.func200.trans (congrArg some (by kernel_rfl))
  t0 := Tryz.underlying0
  a0 := Tryz.isAgg0
  z0 := Tryz.sizeOf0
  v0 := Tryz.zeroValue0
  t3 := Tryz.underlying3
  a3 := Tryz.isAgg3
  z3 := Tryz.sizeOf3
  v3 := Tryz.zeroValue3
  t37 := Tryz.underlying57
  a37 := Tryz.isAgg57
  z37 := Tryz.sizeOf57
  v37 := Tryz.zeroValue57
  t70 := Tryz.underlying142
  a70 := Tryz.isAgg142
  z70 := Tryz.sizeOf142
  v70 := Tryz.zeroValue142
  t72 := Tryz.underlying144
  a72 := Tryz.isAgg144
  z72 := Tryz.sizeOf144
  v72 := Tryz.zeroValue144 }
open Go.RowKit in
/-- (*strings.Builder).Len: "Len returns the number of accumulated bytes; b.Len() == len(b.String()).": the world is as it was. (LAID: no walk: one application.) -/
theorem Tryz.Builder_Len (B b : Nat) (bs : List Value) (w : World) (h : Lib.IsBuilder 144 5 B b bs w) :
    Calls Tryz.prog 200 #[.pointer (some ⟨b, 0, none⟩)] w fun e w' => e = .returned (.int .i64 bs.length) ∧ w' = w := Any.Builder_Len Tryz.lays170 B b bs w h
def Tryz.lays169_ren : Go.Shelf.Ren := ⟨fun | 169 => 201 | n => n, fun | 70 => 142 | 9 => 9 | 0 => 0 | 72 => 144 | 37 => 57 | 127 => 178 | 3 => 3 | 5 => 5 | n => n, fun | n => n⟩
theorem Tryz.lays169 : Go.Proofs.Lays.n169 Tryz.prog Tryz.lays169_ren := {
  mixed := by kernel_rfl
  f169 := Tryz.func201.trans (congrArg some (by kernel_rfl))
  t0 := Tryz.underlying0
  a0 := Tryz.isAgg0
  z0 := Tryz.sizeOf0
  v0 := Tryz.zeroValue0
  t3 := Tryz.underlying3
  a3 := Tryz.isAgg3
  z3 := Tryz.sizeOf3
  v3 := Tryz.zeroValue3
  t9 := Tryz.underlying9
  a9 := Tryz.isAgg9
  z9 := Tryz.sizeOf9
  v9 := Tryz.zeroValue9
  t37 := Tryz.underlying57
  a37 := Tryz.isAgg57
  z37 := Tryz.sizeOf57
  v37 := Tryz.zeroValue57
  t70 := Tryz.underlying142
  a70 := Tryz.isAgg142
  z70 := Tryz.sizeOf142
  v70 := Tryz.zeroValue142
  t72 := Tryz.underlying144
  a72 := Tryz.isAgg144
  z72 := Tryz.sizeOf144
  v72 := Tryz.zeroValue144
  t127 := Tryz.underlying178
  a127 := Tryz.isAgg178
  z127 := Tryz.sizeOf178
  v127 := Tryz.zeroValue178 }
theorem Tryz.Builder_Extra_169 : Builder.Extra Tryz.prog Tryz.lays169_ren := {
  sizeBuilder := by kernel_rfl
  liesBuilder := by kernel_rfl
  t5 := Tryz.underlying5
  a5 := Tryz.isAgg5
  z5 := Tryz.sizeOf5
  v5 := Tryz.zeroValue5
  infoByte := by kernel_rfl
  cellsByte := by kernel_rfl
  sizeByte := by kernel_rfl
  neB5 := by decide }
open Go.RowKit in
/-- (*strings.Builder).String: "String returns the accumulated string.": OF A BUILDER THAT HOLDS AT LEAST ONE BYTE. ✋ THE MODEL FREEZES THOSE BYTES IN THE BUFFER (unsafe.String): a later write INTO them ends the model's run without an answer; a later append BEHIND them goes on. The statement's order of evaluation is drawn: one draw. (LAID: no walk: one application.) -/
theorem Tryz.Builder_String (B b : Nat) (l : List UInt8) (w : World) (h : Lib.IsBuilder 144 5 B b (Lib.byteCells l) w) (h0 : l ≠ []) :
    Calls Tryz.prog 201 #[.pointer (some ⟨b, 0, none⟩)] w fun e w' => e = .returned (.string ⟨l.toArray⟩) ∧ Below B w w' := Any.Builder_String Tryz.lays169 Tryz.Builder_Extra_169 B b l w h h0
open Go.RowKit in
/-- (*strings.Builder).String OF A BUILDER THAT HOLDS NO BYTE: the empty string. (Its buffer is nil, or a row of which it has taken nothing yet; where that row has NO capacity the model lays one new block for unsafe.SliceData's 'some address'.) One draw. (LAID: no walk: one application.) -/
theorem Tryz.Builder_String_empty (B b : Nat) (w : World) (h : Lib.IsBuilder 144 5 B b [] w) (hBw : B ≤ w.heap.size) :
    Calls Tryz.prog 201 #[.pointer (some ⟨b, 0, none⟩)] w fun e w' => e = .returned (.string ⟨#[]⟩) ∧ Below B w w' := Any.Builder_String_empty Tryz.lays169 Tryz.Builder_Extra_169 B b w h hBw
open Go.RowKit in
/-- (*strings.Builder).String: "String returns the accumulated string.": WHATEVER THE BUILDER HOLDS. (LAID: no walk: one application.) -/
theorem Tryz.Builder_String_any (B b : Nat) (l : List UInt8) (w : World) (h : Lib.IsBuilder 144 5 B b (Lib.byteCells l) w) (hBw : B ≤ w.heap.size) :
    Calls Tryz.prog 201 #[.pointer (some ⟨b, 0, none⟩)] w fun e w' => e = .returned (.string ⟨l.toArray⟩) ∧ Below B w w' := Any.Builder_String_any Tryz.lays169 Tryz.Builder_Extra_169 B b l w h hBw
def Tryz.lays241_ren : Go.Shelf.Ren := ⟨fun | 241 => 239 | 277 => 268 | n => n, fun | 70 => 142 | 3 => 3 | 0 => 0 | 72 => 144 | 37 => 57 | 5 => 5 | n => n, fun | n => n⟩
theorem Tryz.lays241 : Go.Proofs.Lays.n241 Tryz.prog Tryz.lays241_ren := {
  mixed := by kernel_rfl
  f241 := Tryz.func239.trans (congrArg some (by kernel_rfl))
  f277 := Tryz.func268.trans (congrArg some (by kernel_rfl))
  t0 := Tryz.underlying0
  a0 := Tryz.isAgg0
  z0 := Tryz.sizeOf0
  v0 := Tryz.zeroValue0
  t3 := Tryz.underlying3
  a3 := Tryz.isAgg3
  z3 := Tryz.sizeOf3
  v3 := Tryz.zeroValue3
  t37 := Tryz.underlying57
  a37 := Tryz.isAgg57
  z37 := Tryz.sizeOf57
  v37 := Tryz.zeroValue57
  t70 := Tryz.underlying142
  a70 := Tryz.isAgg142
  z70 := Tryz.sizeOf142
  v70 := Tryz.zeroValue142
  t72 := Tryz.underlying144
  a72 := Tryz.isAgg144
  z72 := Tryz.sizeOf144
  v72 := Tryz.zeroValue144 }
theorem Tryz.Builder_Extra_241 : Builder.Extra Tryz.prog Tryz.lays241_ren := {
  sizeBuilder := by kernel_rfl
  liesBuilder := by kernel_rfl
  t5 := Tryz.underlying5
  a5 := Tryz.isAgg5
  z5 := Tryz.sizeOf5
  v5 := Tryz.zeroValue5
  infoByte := by kernel_rfl
  cellsByte := by kernel_rfl
  sizeByte := by kernel_rfl
  neB5 := by decide }
open Go.RowKit in
/-- (*strings.Builder).grow (no doc but "grow copies the buffer to a new, larger buffer so that there are at least n bytes of capacity beyond len(b.buf)."): AT A BUILDER WITHOUT A BUFFER: a new row of whatever bytes for its buffer, none of them its own yet. Three draws. (LAID: no walk: one application.) -/
theorem Tryz.Builder_grow_fresh (B b n : Nat) (w : World) (hB : B ≤ b) (hbk : w.heap[b]? = some (.cells #[.pointer (some ⟨b, 0, none⟩), .slice none 0 0] 144 (0, 0))) (hBw : B ≤ w.heap.size) (hn : n ≤ 281474976710656) :
    Calls Tryz.prog 239 #[.pointer (some ⟨b, 0, none⟩), .int .i64 n] w fun e w' => e = .returned (.tuple #[]) ∧ (Lib.BuilderAt 144 5 B b (.pointer (some ⟨b, 0, none⟩)) [] w' ∧ Below B w w') := Any.Builder_grow_fresh Tryz.lays241 Tryz.Builder_Extra_241 B b n w hB hbk hBw hn
def Tryz.lays165_ren : Go.Shelf.Ren := ⟨fun | 165 => 198 | 240 => 238 | 241 => 239 | 276 => 267 | 277 => 268 | n => n, fun | 70 => 142 | 3 => 3 | 0 => 0 | 4 => 4 | 9 => 9 | 20 => 20 | 72 => 144 | 37 => 57 | 164 => 193 | 5 => 5 | n => n, fun | n => n⟩
theorem Tryz.lays165 : Go.Proofs.Lays.n165 Tryz.prog Tryz.lays165_ren := {
  mixed := by kernel_rfl
  f165 := Tryz.func198.trans (congrArg some (by kernel_rfl))
  f240 := Tryz.func238.trans (congrArg some (by kernel_rfl))
  f241 := Tryz.func239.trans (congrArg some (by kernel_rfl))
  f276 := Tryz.func267.trans (congrArg some (by kernel_rfl))
  f277 := Tryz.func268.trans (congrArg some (by kernel_rfl))
  t0 := Tryz.underlying0
  a0 := Tryz.isAgg0
  z0 := Tryz.sizeOf0
  v0 := Tryz.zeroValue0
  t3 := Tryz.underlying3
  a3 := Tryz.isAgg3
  z3 := Tryz.sizeOf3
  v3 := Tryz.zeroValue3
  t4 := Tryz.underlying4
  a4 := Tryz.isAgg4
  z4 := Tryz.sizeOf4
  v4 := Tryz.zeroValue4
  t9 := Tryz.underlying9
  a9 := Tryz.isAgg9
  z9 := Tryz.sizeOf9
  v9 := Tryz.zeroValue9
  t20 := Tryz.underlying20
  a20 := Tryz.isAgg20
  z20 := Tryz.sizeOf20
  v20 := Tryz.zeroValue20
  t37 := Tryz.underlying57
  a37 := Tryz.isAgg57
  z37 := Tryz.sizeOf57
  v37 := Tryz.zeroValue57
  t70 := Tryz.underlying142
  a70 := Tryz.isAgg142
  z70 := Tryz.sizeOf142
  v70 := Tryz.zeroValue142
  t72 := Tryz.underlying144
  a72 := Tryz.isAgg144
  z72 := Tryz.sizeOf144
  v72 := Tryz.zeroValue144
  t164 := Tryz.underlying193
  a164 := Tryz.isAgg193
  z164 := Tryz.sizeOf193
  v164 := Tryz.zeroValue193 }
theorem Tryz.Builder_Extra_165 : Builder.Extra Tryz.prog Tryz.lays165_ren := {
  sizeBuilder := by kernel_rfl
  liesBuilder := by kernel_rfl
  t5 := Tryz.underlying5
  a5 := Tryz.isAgg5
  z5 := Tryz.sizeOf5
  v5 := Tryz.zeroValue5
  infoByte := by kernel_rfl
  cellsByte := by kernel_rfl
  sizeByte := by kernel_rfl
  neB5 := by decide }
open Go.RowKit in
/-- (*strings.Builder).Grow AT A BUILDER THAT HAS NOT BEEN WRITTEN ('var b strings.Builder; b.Grow(n)'): "Grow grows b's capacity, if necessary, to guarantee space for another n bytes.": it holds no byte behind it as before it. (LAID: no walk: one application.) -/
theorem Tryz.Builder_Grow_fresh (B b n : Nat) (w : World) (hB : B ≤ b) (hbk : w.heap[b]? = some (.cells #[.pointer none, .slice none 0 0] 144 (0, 0))) (hBw : B ≤ w.heap.size) (hn : n ≤ 281474976710656) :
    Calls Tryz.prog 198 #[.pointer (some ⟨b, 0, none⟩), .int .i64 n] w fun e w' => e = .returned (.tuple #[]) ∧ (Lib.BuilderAt 144 5 B b (.pointer (some ⟨b, 0, none⟩)) [] w' ∧ Below B w w') := Any.Builder_Grow_fresh Tryz.lays165 Tryz.Builder_Extra_165 B b n w hB hbk hBw hn
def Tryz.lays156_ren : Go.Shelf.Ren := ⟨fun | 156 => 322 | 165 => 198 | 166 => 199 | 169 => 201 | 240 => 238 | 241 => 239 | 276 => 267 | 277 => 268 | n => n, fun | 31 => 27 | 9 => 9 | 3 => 3 | 4 => 4 | 0 => 0 | 20 => 20 | 72 => 144 | 76 => 148 | 70 => 142 | 37 => 57 | 75 => 147 | 127 => 178 | 164 => 193 | 5 => 5 | 80 => 151 | n => n, fun | n => n⟩
theorem Tryz.lays156 : Go.Proofs.Lays.n156 Tryz.prog Tryz.lays156_ren := {
  mixed := by kernel_rfl
  f156 := Tryz.func322.trans (congrArg some (by kernel_rfl))
  f165 := Tryz.func198.trans (congrArg some (by kernel_rfl))
  f166 := Tryz.func199.trans (congrArg some (by kernel_rfl))
  f169 := Tryz.func201.trans (congrArg some (by kernel_rfl))
  f240 := Tryz.func238.trans (congrArg some (by kernel_rfl))
  f241 := Tryz.func239.trans (congrArg some (by kernel_rfl))
  f276 := Tryz.func267.trans (congrArg some (by kernel_rfl))
  f277 := Tryz.func268.trans (congrArg some (by kernel_rfl))
  t0 := Tryz.underlying0
  a0 := Tryz.isAgg0
  z0 := Tryz.sizeOf0
  v0 := Tryz.zeroValue0
  t3 := Tryz.underlying3
  a3 := Tryz.isAgg3
  z3 := Tryz.sizeOf3
  v3 := Tryz.zeroValue3
  t4 := Tryz.underlying4
  a4 := Tryz.isAgg4
  z4 := Tryz.sizeOf4
  v4 := Tryz.zeroValue4
  t9 := Tryz.underlying9
  a9 := Tryz.isAgg9
  z9 := Tryz.sizeOf9
  v9 := Tryz.zeroValue9
  t20 := Tryz.underlying20
  a20 := Tryz.isAgg20
  z20 := Tryz.sizeOf20
  v20 := Tryz.zeroValue20
  t31 := Tryz.underlying27
  a31 := Tryz.isAgg27
  z31 := Tryz.sizeOf27
  v31 := Tryz.zeroValue27
  t37 := Tryz.underlying57
  a37 := Tryz.isAgg57
  z37 := Tryz.sizeOf57
  v37 := Tryz.zeroValue57
  t70 := Tryz.underlying142
  a70 := Tryz.isAgg142
  z70 := Tryz.sizeOf142
  v70 := Tryz.zeroValue142
  t72 := Tryz.underlying144
  a72 := Tryz.isAgg144
  z72 := Tryz.sizeOf144
  v72 := Tryz.zeroValue144
  t75 := Tryz.underlying147
  a75 := Tryz.isAgg147
  z75 := Tryz.sizeOf147
  v75 := Tryz.zeroValue147
  t76 := Tryz.underlying148
  a76 := Tryz.isAgg148
  z76 := Tryz.sizeOf148
  v76 := Tryz.zeroValue148
  t127 := Tryz.underlying178
  a127 := Tryz.isAgg178
  z127 := Tryz.sizeOf178
  v127 := Tryz.zeroValue178
  t164 := Tryz.underlying193
  a164 := Tryz.isAgg193
  z164 := Tryz.sizeOf193
  v164 := Tryz.zeroValue193 }
theorem Tryz.Builder_Extra_156 : Builder.Extra Tryz.prog Tryz.lays156_ren := {
  sizeBuilder := by kernel_rfl
  liesBuilder := by kernel_rfl
  t5 := Tryz.underlying5
  a5 := Tryz.isAgg5
  z5 := Tryz.sizeOf5
  v5 := Tryz.zeroValue5
  infoByte := by kernel_rfl
  cellsByte := by kernel_rfl
  sizeByte := by kernel_rfl
  neB5 := by decide }
open Go.RowKit in
/-- No element: the empty string; the world is as it was. (Whatever the slice's address and capacity: a nil slice too.) (LAID: no walk: one application.) -/
theorem Tryz.strings_Join_none (a : Option Addr) (c : Nat) (sep : ByteArray) (w : World) :
    Calls Tryz.prog 322 #[.slice a 0 c, .string sep] w fun e w' => e = .returned (.string ⟨#[]⟩) ∧ w' = w := Any.strings_Join_none Tryz.lays156 Tryz.Builder_Extra_156 a c sep w
open Go.RowKit in
/-- strings.Join: "Join concatenates the elements of its first argument to create a single string. The separator string sep is placed between elements in the resulting string.": HOWEVER MANY ELEMENTS. Below the heap's end the world is as it was. (LAID: no walk: one application.) -/
theorem Tryz.strings_Join (bk o c : Nat) (xs : List ByteArray) (sep : ByteArray) (w : World) (hcells : ∀ (j : Nat) x, xs[j]? = some x → w.cell? ⟨bk, o + j, none⟩ = some (.string x)) (hbk : bk < w.heap.size) (hN : xs.length ≤ 140737488355328) (hcap : xs.length ≤ c) (hlen : (Lib.join (xs.map (·.data.toList)) sep.data.toList).length ≤ 140737488355328) :
    Calls Tryz.prog 322 #[.slice (some ⟨bk, o, none⟩) xs.length c, .string sep] w fun e w' => e = .returned (.string ⟨(Lib.join (xs.map (·.data.toList)) sep.data.toList).toArray⟩) ∧ Below w.heap.size w w' := Any.strings_Join Tryz.lays156 Tryz.Builder_Extra_156 bk o c xs sep w hcells hbk hN hcap hlen
def Tryz.lays126_ren : Go.Shelf.Ren := ⟨fun | 126 => 230 | n => n, fun | 5 => 5 | 3 => 3 | 9 => 9 | n => n, fun | n => n⟩
theorem Tryz.lays126 : Go.Proofs.Lays.n126 Tryz.prog Tryz.lays126_ren := {
  mixed := by kernel_rfl
  f126 := Tryz.func230.trans (congrArg some (by kernel_rfl))
  t3 := Tryz.underlying3
  a3 := Tryz.isAgg3
  z3 := Tryz.sizeOf3
  v3 := Tryz.zeroValue3
  t5 := Tryz.underlying5
  a5 := Tryz.isAgg5
  z5 := Tryz.sizeOf5
  v5 := Tryz.zeroValue5
  t9 := Tryz.underlying9
  a9 := Tryz.isAgg9
  z9 := Tryz.sizeOf9
  v9 := Tryz.zeroValue9 }
/-- bits.Len8: "Len8 returns the minimum number of bits required to represent x; the result is 0 for x == 0.": IT RETURNS 'Lib.bitLen x'; the world is as it was. ('h0', 'h1': x is a uint8.) (LAID: no walk: one application.) -/
theorem Tryz.bits_Len8 (x : Int) (w : World) (h0 : 0 ≤ x) (h1 : x ≤ 255) :
    Calls Tryz.prog 230 #[.int .u8 x] w fun e w' => e = .returned (.int .i64 (Lib.bitLen x.toNat)) ∧ w' = w := Any.bits_Len8 Tryz.lays126 x w h0 h1
def Tryz.lays131_ren : Go.Shelf.Ren := ⟨fun | 131 => 187 | 126 => 230 | n => n, fun | 5 => 5 | 3 => 3 | 9 => 9 | n => n, fun | n => n⟩
theorem Tryz.lays131 : Go.Proofs.Lays.n131 Tryz.prog Tryz.lays131_ren := {
  mixed := by kernel_rfl
  f126 := Tryz.func230.trans (congrArg some (by kernel_rfl))
  f131 := Tryz.func187.trans (congrArg some (by kernel_rfl))
  t3 := Tryz.underlying3
  a3 := Tryz.isAgg3
  z3 := Tryz.sizeOf3
  v3 := Tryz.zeroValue3
  t5 := Tryz.underlying5
  a5 := Tryz.isAgg5
  z5 := Tryz.sizeOf5
  v5 := Tryz.zeroValue5
  t9 := Tryz.underlying9
  a9 := Tryz.isAgg9
  z9 := Tryz.sizeOf9
  v9 := Tryz.zeroValue9 }
/-- bits.LeadingZeros8: "LeadingZeros8 returns the number of leading zero bits in x; the result is 8 for x == 0.": IT RETURNS '8 - Lib.bitLen x'; the world is as it was. ITS CALLEE bits.Len8 IS MET BY ITS OWN CONTRACT OFF THE SHELF (lay that first): ENTERED IN PLACE it sends the kernel out of memory. (LAID: no walk: one application.) -/
theorem Tryz.bits_LeadingZeros8 (x : Int) (w : World) (h0 : 0 ≤ x) (h1 : x ≤ 255) :
    Calls Tryz.prog 187 #[.int .u8 x] w fun e w' => e = .returned (.int .i64 (8 - (Lib.bitLen x.toNat : Int))) ∧ w' = w := Any.bits_LeadingZeros8 Tryz.lays131 x w h0 h1
def Tryz.lays137_ren : Go.Shelf.Ren := ⟨fun | 137 => 235 | 217 => 257 | 266 => 285 | n => n, fun | 9 => 9 | 5 => 5 | 3 => 3 | n => n, fun | n => n⟩
theorem Tryz.lays137 : Go.Proofs.Lays.n137 Tryz.prog Tryz.lays137_ren := {
  mixed := by kernel_rfl
  f137 := Tryz.func235.trans (congrArg some (by kernel_rfl))
  f217 := Tryz.func257.trans (congrArg some (by kernel_rfl))
  f266 := Tryz.func285.trans (congrArg some (by kernel_rfl))
  t3 := Tryz.underlying3
  a3 := Tryz.isAgg3
  z3 := Tryz.sizeOf3
  v3 := Tryz.zeroValue3
  t5 := Tryz.underlying5
  a5 := Tryz.isAgg5
  z5 := Tryz.sizeOf5
  v5 := Tryz.zeroValue5
  t9 := Tryz.underlying9
  a9 := Tryz.isAgg9
  z9 := Tryz.sizeOf9
  v9 := Tryz.zeroValue9 }
open Go.RowKit in
/-- strings.IndexByte: "IndexByte returns the index of the first instance of c in s, or -1 if c is not present in s.": IT RETURNS 'Lib.indexByte s c'; the world is as it was. (LAID: no walk: one application.) -/
theorem Tryz.strings_IndexByte (s : ByteArray) (c : Int) (w : World) :
    Calls Tryz.prog 235 #[.string s, .int .u8 c] w fun e w' => e = .returned (.int .i64 (Lib.indexByte s.data.toList c.toNat.toUInt8)) ∧ w' = w := Any.strings_IndexByte Tryz.lays137 s c w
open Go.RowKit in
/-- (*strings.Builder).Len: "Len returns the number of accumulated bytes; b.Len() == len(b.String()).": the world is as it was. (THE FORM '_f': 'Lib.IsBuilderF'.) (LAID: no walk: one application.) -/
theorem Tryz.Builder_Len_f (B b : Nat) (bs : List Value) (w : World) (h : Lib.IsBuilderF 144 5 B b bs w) :
    Calls Tryz.prog 200 #[.pointer (some ⟨b, 0, none⟩)] w fun e w' => e = .returned (.int .i64 bs.length) ∧ w' = w := Any.Builder_Len_f Tryz.lays170 B b bs w h
open Go.RowKit in
/-- (*strings.Builder).String: "String returns the accumulated string.": OF A BUILDER THAT HOLDS AT LEAST ONE BYTE. ✋ THE MODEL FREEZES THOSE BYTES IN THE BUFFER (unsafe.String): a later write INTO them ends the model's run without an answer; a later append BEHIND them goes on. The statement's order of evaluation is drawn: one draw. THE FORM '_f': IT SAYS BESIDES THAT THE BUILDER IS A BUILDER STILL ('Lib.IsBuilderF', the same bytes): SO IT CAN BE WRITTEN ON: 'b.WriteString(b.String()[:k])'. (LAID: no walk: one application.) -/
theorem Tryz.Builder_String_f (B b : Nat) (l : List UInt8) (w : World) (h : Lib.IsBuilderF 144 5 B b (Lib.byteCells l) w) (h0 : l ≠ []) :
    Calls Tryz.prog 201 #[.pointer (some ⟨b, 0, none⟩)] w fun e w' => e = .returned (.string ⟨l.toArray⟩) ∧ (Lib.IsBuilderF 144 5 B b (Lib.byteCells l) w' ∧ Below B w w') := Any.Builder_String_f Tryz.lays169 Tryz.Builder_Extra_169 B b l w h h0
open Go.RowKit in
/-- (*strings.Builder).String OF A BUILDER THAT HOLDS NO BYTE: the empty string; THE FORM '_f': a builder still. (LAID: no walk: one application.) -/
theorem Tryz.Builder_String_empty_f (B b : Nat) (w : World) (h : Lib.IsBuilderF 144 5 B b [] w) (hBw : B ≤ w.heap.size) :
    Calls Tryz.prog 201 #[.pointer (some ⟨b, 0, none⟩)] w fun e w' => e = .returned (.string ⟨#[]⟩) ∧ (Lib.IsBuilderF 144 5 B b [] w' ∧ Below B w w') := Any.Builder_String_empty_f Tryz.lays169 Tryz.Builder_Extra_169 B b w h hBw
open Go.RowKit in
/-- (*strings.Builder).String: "String returns the accumulated string.": WHATEVER THE BUILDER HOLDS; THE FORM '_f': OF A BUILDER THAT MAY HAVE BEEN READ BEFORE; AND IT IS A BUILDER STILL, holding the same bytes: it can be written on. (LAID: no walk: one application.) -/
theorem Tryz.Builder_String_any_f (B b : Nat) (l : List UInt8) (w : World) (h : Lib.IsBuilderF 144 5 B b (Lib.byteCells l) w) (hBw : B ≤ w.heap.size) :
    Calls Tryz.prog 201 #[.pointer (some ⟨b, 0, none⟩)] w fun e w' => e = .returned (.string ⟨l.toArray⟩) ∧ (Lib.IsBuilderF 144 5 B b (Lib.byteCells l) w' ∧ Below B w w') := Any.Builder_String_any_f Tryz.lays169 Tryz.Builder_Extra_169 B b l w h hBw
open Go.RowKit in
/-- (*strings.Builder).String: "String returns the accumulated string.": OF A BUILDER THAT HOLDS AT LEAST ONE BYTE. ✋ THE MODEL FREEZES THOSE BYTES IN THE BUFFER (unsafe.String): a later write INTO them ends the model's run without an answer; a later append BEHIND them goes on. The statement's order of evaluation is drawn: one draw. THE FORM '_k': OVER 'Lib.IsBuilderF' (a builder that 'String()' may have read), AND WITH THE FRAME THAT REACHES ABOVE THE BUILDER: 'Lib.OthersKept': every block that is not b and is no row of uint8's stands as it stood: the iterator of a range among them. (LAID: no walk: one application.) -/
theorem Tryz.Builder_String_k (B b : Nat) (l : List UInt8) (w : World) (h : Lib.IsBuilderF 144 5 B b (Lib.byteCells l) w) (h0 : l ≠ []) :
    Calls Tryz.prog 201 #[.pointer (some ⟨b, 0, none⟩)] w fun e w' => e = .returned (.string ⟨l.toArray⟩) ∧ (Lib.IsBuilderF 144 5 B b (Lib.byteCells l) w' ∧ Below B w w' ∧ Lib.OthersKept 5 (some b) w w') := Any.Builder_String_k Tryz.lays169 Tryz.Builder_Extra_169 B b l w h h0
open Go.RowKit in
/-- (*strings.Builder).String OF A BUILDER THAT HOLDS NO BYTE: the empty string; THE FORM '_k': OVER 'Lib.IsBuilderF' (a builder that 'String()' may have read), AND WITH THE FRAME THAT REACHES ABOVE THE BUILDER: 'Lib.OthersKept': every block that is not b and is no row of uint8's stands as it stood: the iterator of a range among them. (LAID: no walk: one application.) -/
theorem Tryz.Builder_String_empty_k (B b : Nat) (w : World) (h : Lib.IsBuilderF 144 5 B b [] w) (hBw : B ≤ w.heap.size) :
    Calls Tryz.prog 201 #[.pointer (some ⟨b, 0, none⟩)] w fun e w' => e = .returned (.string ⟨#[]⟩) ∧ (Lib.IsBuilderF 144 5 B b [] w' ∧ Below B w w' ∧ Lib.OthersKept 5 (some b) w w') := Any.Builder_String_empty_k Tryz.lays169 Tryz.Builder_Extra_169 B b w h hBw
open Go.RowKit in
/-- (*strings.Builder).String: "String returns the accumulated string.": WHATEVER THE BUILDER HOLDS; THE FORM '_k': OVER 'Lib.IsBuilderF' (a builder that 'String()' may have read), AND WITH THE FRAME THAT REACHES ABOVE THE BUILDER: 'Lib.OthersKept': every block that is not b and is no row of uint8's stands as it stood: the iterator of a range among them. (LAID: no walk: one application.) -/
theorem Tryz.Builder_String_any_k (B b : Nat) (l : List UInt8) (w : World) (h : Lib.IsBuilderF 144 5 B b (Lib.byteCells l) w) (hBw : B ≤ w.heap.size) :
    Calls Tryz.prog 201 #[.pointer (some ⟨b, 0, none⟩)] w fun e w' => e = .returned (.string ⟨l.toArray⟩) ∧ (Lib.IsBuilderF 144 5 B b (Lib.byteCells l) w' ∧ Below B w w' ∧ Lib.OthersKept 5 (some b) w w') := Any.Builder_String_any_k Tryz.lays169 Tryz.Builder_Extra_169 B b l w h hBw
def Tryz.lays195_ren : Go.Shelf.Ren := ⟨fun | 195 => 215 | n => n, fun | 9 => 9 | 3 => 3 | 0 => 0 | 4 => 4 | n => n, fun | n => n⟩
theorem Tryz.lays195 : Go.Proofs.Lays.n195 Tryz.prog Tryz.lays195_ren := {
  mixed := by kernel_rfl
  f195 := Tryz.func215.trans (congrArg some (by kernel_rfl))
  t0 := Tryz.underlying0
  a0 := Tryz.isAgg0
  z0 := Tryz.sizeOf0
  v0 := Tryz.zeroValue0
  t3 := Tryz.underlying3
  a3 := Tryz.isAgg3
  z3 := Tryz.sizeOf3
  v3 := Tryz.zeroValue3
  t4 := Tryz.underlying4
  a4 := Tryz.isAgg4
  z4 := Tryz.sizeOf4
  v4 := Tryz.zeroValue4
  t9 := Tryz.underlying9
  a9 := Tryz.isAgg9
  z9 := Tryz.sizeOf9
  v9 := Tryz.zeroValue9 }
open Go.RowKit in
/-- unicode/utf8.RuneCountInString: "RuneCountInString is like RuneCount but its input is a string." ("RuneCount returns the number of runes in p. Erroneous and short encodings are treated as single runes of width 1 byte."): EVERY STRING, valid UTF-8 or not: 'Lib.runeCount s' (plain Lean over the model's own 'Utf8.decode'; 'Lib.runeCount_le': at most len(s); 'Lib.runeCount_ascii': on ASCII: len(s)). THE ONE CONDITION: len(s) below 2^63 - 1 (the counter does not wrap): the form's reach pays it. THE WORLD BEHIND THE CALL: ONE BLOCK MORE: the model's iterator over s, at its end: all else as it was. (LAID: no walk: one application.) -/
theorem Tryz.utf8_RuneCountInString (s : ByteArray) (w : World) (hs : s.size < 9223372036854775807) :
    Calls Tryz.prog 215 #[.string s] w fun e w' => e = .returned (.int .i64 (Lib.runeCount s)) ∧ ∃ pos, w' = w.iter s pos := Any.utf8_RuneCountInString Tryz.lays195 s w hs
open Go.RowKit in
/-- (*strings.Builder).grow (no doc but "grow copies the buffer to a new, larger buffer so that there are at least n bytes of capacity beyond len(b.buf)."): AT A BUILDER WITHOUT A BUFFER: a new row of whatever bytes for its buffer, none of them its own yet. Three draws. (LAID: no walk: one application.) -/
theorem Tryz.Builder_grow_fresh_cap (B b n : Nat) (w : World) (hB : B ≤ b) (hbk : w.heap[b]? = some (.cells #[.pointer (some ⟨b, 0, none⟩), .slice none 0 0] 144 (0, 0))) (hBw : B ≤ w.heap.size) (hn : n ≤ 281474976710656) :
    Calls Tryz.prog 239 #[.pointer (some ⟨b, 0, none⟩), .int .i64 n] w fun e w' => e = .returned (.tuple #[]) ∧ (Lib.BuilderAt 144 5 B b (.pointer (some ⟨b, 0, none⟩)) [] w' ∧ Below B w w') ∧ ∃ p cap, w'.cell? ⟨b, 1, none⟩ = some (.slice p 0 cap) ∧ n ≤ cap := Any.Builder_grow_fresh_cap Tryz.lays241 Tryz.Builder_Extra_241 B b n w hB hbk hBw hn
open Go.RowKit in
/-- (*strings.Builder).Grow AT A BUILDER THAT HAS NOT BEEN WRITTEN ('var b strings.Builder; b.Grow(n)'): "Grow grows b's capacity, if necessary, to guarantee space for another n bytes.": it holds no byte behind it as before it. (LAID: no walk: one application.) -/
theorem Tryz.Builder_Grow_fresh_cap (B b n : Nat) (w : World) (hB : B ≤ b) (hbk : w.heap[b]? = some (.cells #[.pointer none, .slice none 0 0] 144 (0, 0))) (hBw : B ≤ w.heap.size) (hn : n ≤ 281474976710656) :
    Calls Tryz.prog 198 #[.pointer (some ⟨b, 0, none⟩), .int .i64 n] w fun e w' => e = .returned (.tuple #[]) ∧ (Lib.BuilderAt 144 5 B b (.pointer (some ⟨b, 0, none⟩)) [] w' ∧ Below B w w') ∧ ∃ p cap, w'.cell? ⟨b, 1, none⟩ = some (.slice p 0 cap) ∧ n ≤ cap := Any.Builder_Grow_fresh_cap Tryz.lays165 Tryz.Builder_Extra_165 B b n w hB hbk hBw hn
def Tryz.lays217_ren : Go.Shelf.Ren := ⟨fun | 217 => 257 | 266 => 285 | n => n, fun | 9 => 9 | 5 => 5 | 3 => 3 | n => n, fun | n => n⟩
theorem Tryz.lays217 : Go.Proofs.Lays.n217 Tryz.prog Tryz.lays217_ren := {
  mixed := by kernel_rfl
  f217 := Tryz.func257.trans (congrArg some (by kernel_rfl))
  f266 := Tryz.func285.trans (congrArg some (by kernel_rfl))
  t3 := Tryz.underlying3
  a3 := Tryz.isAgg3
  z3 := Tryz.sizeOf3
  v3 := Tryz.zeroValue3
  t5 := Tryz.underlying5
  a5 := Tryz.isAgg5
  z5 := Tryz.sizeOf5
  v5 := Tryz.zeroValue5
  t9 := Tryz.underlying9
  a9 := Tryz.isAgg9
  z9 := Tryz.sizeOf9
  v9 := Tryz.zeroValue9 }
open Go.RowKit Go.Lib in
/-- internal/stringslite.IndexByte (what strings.IndexByte calls): IT RETURNS 'Lib.indexByte s c'; the world is as it was. (LAID: no walk: one application.) -/
theorem Tryz.stringslite_IndexByte (s : ByteArray) (c : Int) (w : World) :
    Calls Tryz.prog 257 #[.string s, .int .u8 c] w fun e w' => e = .returned (.int .i64 (Lib.indexByte s.data.toList c.toNat.toUInt8)) ∧ w' = w := Any.stringslite_IndexByte Tryz.lays217 s c w
def Tryz.lays224_ren : Go.Shelf.Ren := ⟨fun | 224 => 259 | n => n, fun | 3 => 3 | n => n, fun | n => n⟩
theorem Tryz.lays224 : Go.Proofs.Lays.n224 Tryz.prog Tryz.lays224_ren := {
  mixed := by kernel_rfl
  f224 := Tryz.func259.trans (congrArg some (by kernel_rfl))
  t3 := Tryz.underlying3
  a3 := Tryz.isAgg3
  z3 := Tryz.sizeOf3
  v3 := Tryz.zeroValue3 }
open Go.RowKit Go.Lib in
/-- internal/bytealg.Cutover: "Cutover reports the number of failures of IndexByte we should tolerate before switching over to Index. n is the number of bytes processed so far.": on amd64: (n + 16) / 8. (LAID: no walk: one application.) -/
theorem Tryz.bytealg_Cutover (n : Int) (h0 : 0 ≤ n) (h1 : n < 4611686018427387904) (w : World) :
    Calls Tryz.prog 259 #[.int .i64 n] w fun e w' => e = .returned (.int .i64 ((n + 16) / 8)) ∧ w' = w := Any.bytealg_Cutover Tryz.lays224 n h0 h1 w
def Tryz.lays314_ren : Go.Shelf.Ren := ⟨fun | 314 => 286 | n => n, fun | 9 => 9 | 51 => 164 | 3 => 3 | 4 => 4 | 5 => 5 | 46 => 134 | n => n, fun | n => n⟩
theorem Tryz.lays314 : Go.Proofs.Lays.n314 Tryz.prog Tryz.lays314_ren := {
  mixed := by kernel_rfl
  f314 := Tryz.func286.trans (congrArg some (by kernel_rfl))
  t3 := Tryz.underlying3
  a3 := Tryz.isAgg3
  z3 := Tryz.sizeOf3
  v3 := Tryz.zeroValue3
  t4 := Tryz.underlying4
  a4 := Tryz.isAgg4
  z4 := Tryz.sizeOf4
  v4 := Tryz.zeroValue4
  t5 := Tryz.underlying5
  a5 := Tryz.isAgg5
  z5 := Tryz.sizeOf5
  v5 := Tryz.zeroValue5
  t9 := Tryz.underlying9
  a9 := Tryz.isAgg9
  z9 := Tryz.sizeOf9
  v9 := Tryz.zeroValue9
  t46 := Tryz.underlying134
  a46 := Tryz.isAgg134
  z46 := Tryz.sizeOf134
  v46 := Tryz.zeroValue134
  t51 := Tryz.underlying164
  a51 := Tryz.isAgg164
  z51 := Tryz.sizeOf164
  v51 := Tryz.zeroValue164 }
open Go.RowKit Go.Lib in
/-- hashStr: "returns the hash and the appropriate multiplicative factor for use in Rabin-Karp algorithm": THE HASH OF ALL OF sep, AND 16777619 ^ len(sep), both in uint32. (LAID: no walk: one application.) -/
theorem Tryz.bytealg_hashStr (sep : ByteArray) (hs : sep.size < 4294967281) (w : World) :
    Calls Tryz.prog 286 #[.string sep] w fun e w' => e = .returned (.tuple #[.int .u32 (RK.H sep.data.toList % 4294967296), .int .u32 (16777619 ^ sep.size % 4294967296)]) ∧ w' = w := Any.bytealg_hashStr Tryz.lays314 sep hs w
def Tryz.lays267_ren : Go.Shelf.Ren := ⟨fun | 267 => 260 | 314 => 286 | n => n, fun | 9 => 9 | 3 => 3 | 146 => 173 | 51 => 164 | 4 => 4 | 5 => 5 | 46 => 134 | n => n, fun | n => n⟩
theorem Tryz.lays267 : Go.Proofs.Lays.n267 Tryz.prog Tryz.lays267_ren := {
  mixed := by kernel_rfl
  f267 := Tryz.func260.trans (congrArg some (by kernel_rfl))
  f314 := Tryz.func286.trans (congrArg some (by kernel_rfl))
  t3 := Tryz.underlying3
  a3 := Tryz.isAgg3
  z3 := Tryz.sizeOf3
  v3 := Tryz.zeroValue3
  t4 := Tryz.underlying4
  a4 := Tryz.isAgg4
  z4 := Tryz.sizeOf4
  v4 := Tryz.zeroValue4
  t5 := Tryz.underlying5
  a5 := Tryz.isAgg5
  z5 := Tryz.sizeOf5
  v5 := Tryz.zeroValue5
  t9 := Tryz.underlying9
  a9 := Tryz.isAgg9
  z9 := Tryz.sizeOf9
  v9 := Tryz.zeroValue9
  t46 := Tryz.underlying134
  a46 := Tryz.isAgg134
  z46 := Tryz.sizeOf134
  v46 := Tryz.zeroValue134
  t51 := Tryz.underlying164
  a51 := Tryz.isAgg164
  z51 := Tryz.sizeOf164
  v51 := Tryz.zeroValue164
  t146 := Tryz.underlying173
  a146 := Tryz.isAgg173
  z146 := Tryz.sizeOf173
  v146 := Tryz.zeroValue173 }
open Go.RowKit Go.Lib in
theorem Tryz.bytealg_IndexRabinKarp (s sep : ByteArray) (h1 : 1 ≤ sep.size) (h2 : sep.size ≤ s.size) (hs : s.size < 4294967281) (w : World) :
    Calls Tryz.prog 260 #[.string s, .string sep] w fun e w' => e = .returned (.int .i64 (Lib.index s.data.toList sep.data.toList)) ∧ w' = w := Any.bytealg_IndexRabinKarp Tryz.lays267 s sep h1 h2 hs w
def Tryz.lays219_ren : Go.Shelf.Ren := ⟨fun | 219 => 218 | 217 => 257 | 225 => 258 | 224 => 259 | 267 => 260 | 266 => 285 | 314 => 286 | n => n, fun | 9 => 9 | 3 => 3 | 4 => 4 | 5 => 5 | 46 => 134 | 146 => 173 | 51 => 164 | n => n, fun | 1 => 1 | n => n⟩
theorem Tryz.lays219 : Go.Proofs.Lays.n219 Tryz.prog Tryz.lays219_ren := {
  mixed := by kernel_rfl
  f217 := Tryz.func257.trans (congrArg some (by kernel_rfl))
  f219 := Tryz.func218.trans (congrArg some (by kernel_rfl))
  f224 := Tryz.func259.trans (congrArg some (by kernel_rfl))
  f225 := Tryz.func258.trans (congrArg some (by kernel_rfl))
  f266 := Tryz.func285.trans (congrArg some (by kernel_rfl))
  f267 := Tryz.func260.trans (congrArg some (by kernel_rfl))
  f314 := Tryz.func286.trans (congrArg some (by kernel_rfl))
  t3 := Tryz.underlying3
  a3 := Tryz.isAgg3
  z3 := Tryz.sizeOf3
  v3 := Tryz.zeroValue3
  t4 := Tryz.underlying4
  a4 := Tryz.isAgg4
  z4 := Tryz.sizeOf4
  v4 := Tryz.zeroValue4
  t5 := Tryz.underlying5
  a5 := Tryz.isAgg5
  z5 := Tryz.sizeOf5
  v5 := Tryz.zeroValue5
  t9 := Tryz.underlying9
  a9 := Tryz.isAgg9
  z9 := Tryz.sizeOf9
  v9 := Tryz.zeroValue9
  t46 := Tryz.underlying134
  a46 := Tryz.isAgg134
  z46 := Tryz.sizeOf134
  v46 := Tryz.zeroValue134
  t51 := Tryz.underlying164
  a51 := Tryz.isAgg164
  z51 := Tryz.sizeOf164
  v51 := Tryz.zeroValue164
  t146 := Tryz.underlying173
  a146 := Tryz.isAgg173
  z146 := Tryz.sizeOf173
  v146 := Tryz.zeroValue173
  g1 := by kernel_rfl }
open Go.RowKit Go.Lib in
/-- internal/stringslite.Index (what strings.Index calls) AT A substr OF ONE BYTE c: IT RETURNS 'Lib.indexByte s c'; the world is as it was. (LAID: no walk: one application.) -/
theorem Tryz.stringslite_Index_one (s : ByteArray) (c : UInt8) (w : World) :
    Calls Tryz.prog 218 #[.string s, .string ⟨#[c]⟩] w fun e w' => e = .returned (.int .i64 (Lib.indexByte s.data.toList c)) ∧ w' = w := Any.stringslite_Index_one Tryz.lays219 s c w
open Go.RowKit Go.Lib in
/-- internal/stringslite.Index (what strings.Index calls) AT A substr OF WHATEVER LENGTH: IT RETURNS 'Lib.index s substr'; the world is as it was. 'm': what internal/bytealg.MaxLen holds: whatever. (LAID: no walk: one application.) -/
theorem Tryz.stringslite_Index (s sub : ByteArray) (m : Int) (w : World) (hs : s.size < 4294967281) (hm : w.cell? ⟨1, 0, none⟩ = some (.int .i64 m)) :
    Calls Tryz.prog 218 #[.string s, .string sub] w fun e w' => e = .returned (.int .i64 (Lib.index s.data.toList sub.data.toList)) ∧ w' = w := Any.stringslite_Index Tryz.lays219 s sub m w hs hm
def Tryz.lays143_ren : Go.Shelf.Ren := ⟨fun | 143 => 176 | 219 => 218 | 217 => 257 | 225 => 258 | 224 => 259 | 267 => 260 | 266 => 285 | 314 => 286 | n => n, fun | 9 => 9 | 3 => 3 | 4 => 4 | 5 => 5 | 46 => 134 | 146 => 173 | 51 => 164 | n => n, fun | 1 => 1 | n => n⟩
theorem Tryz.lays143 : Go.Proofs.Lays.n143 Tryz.prog Tryz.lays143_ren := {
  mixed := by kernel_rfl
  f143 := Tryz.func176.trans (congrArg some (by kernel_rfl))
  f217 := Tryz.func257.trans (congrArg some (by kernel_rfl))
  f219 := Tryz.func218.trans (congrArg some (by kernel_rfl))
  f224 := Tryz.func259.trans (congrArg some (by kernel_rfl))
  f225 := Tryz.func258.trans (congrArg some (by kernel_rfl))
  f266 := Tryz.func285.trans (congrArg some (by kernel_rfl))
  f267 := Tryz.func260.trans (congrArg some (by kernel_rfl))
  f314 := Tryz.func286.trans (congrArg some (by kernel_rfl))
  t3 := Tryz.underlying3
  a3 := Tryz.isAgg3
  z3 := Tryz.sizeOf3
  v3 := Tryz.zeroValue3
  t4 := Tryz.underlying4
  a4 := Tryz.isAgg4
  z4 := Tryz.sizeOf4
  v4 := Tryz.zeroValue4
  t5 := Tryz.underlying5
  a5 := Tryz.isAgg5
  z5 := Tryz.sizeOf5
  v5 := Tryz.zeroValue5
  t9 := Tryz.underlying9
  a9 := Tryz.isAgg9
  z9 := Tryz.sizeOf9
  v9 := Tryz.zeroValue9
  t46 := Tryz.underlying134
  a46 := Tryz.isAgg134
  z46 := Tryz.sizeOf134
  v46 := Tryz.zeroValue134
  t51 := Tryz.underlying164
  a51 := Tryz.isAgg164
  z51 := Tryz.sizeOf164
  v51 := Tryz.zeroValue164
  t146 := Tryz.underlying173
  a146 := Tryz.isAgg173
  z146 := Tryz.sizeOf173
  v146 := Tryz.zeroValue173
  g1 := by kernel_rfl }
open Go.RowKit Go.Lib in
/-- strings.Index: "Index returns the index of the first instance of substr in s, or -1 if substr is not present in s.": AT A substr OF ONE BYTE c: IT RETURNS 'Lib.indexByte s c'; the world is as it was. (LAID: no walk: one application.) -/
theorem Tryz.strings_Index_one (s : ByteArray) (c : UInt8) (w : World) :
    Calls Tryz.prog 176 #[.string s, .string ⟨#[c]⟩] w fun e w' => e = .returned (.int .i64 (Lib.indexByte s.data.toList c)) ∧ w' = w := Any.strings_Index_one Tryz.lays143 s c w
open Go.RowKit Go.Lib in
/-- strings.Index: "Index returns the index of the first instance of substr in s, or -1 if substr is not present in s.": IT RETURNS 'Lib.index s substr'; the world is as it was. (LAID: no walk: one application.) -/
theorem Tryz.strings_Index (s sub : ByteArray) (m : Int) (w : World) (hs : s.size < 4294967281) (hm : w.cell? ⟨1, 0, none⟩ = some (.int .i64 m)) :
    Calls Tryz.prog 176 #[.string s, .string sub] w fun e w' => e = .returned (.int .i64 (Lib.index s.data.toList sub.data.toList)) ∧ w' = w := Any.strings_Index Tryz.lays143 s sub m w hs hm
def Tryz.lays138_ren : Go.Shelf.Ren := ⟨fun | 138 => 175 | 195 => 215 | 218 => 217 | 143 => 176 | 219 => 218 | 217 => 257 | 225 => 258 | 224 => 259 | 267 => 260 | 266 => 285 | 314 => 286 | n => n, fun | 9 => 9 | 3 => 3 | 4 => 4 | 5 => 5 | 0 => 0 | 46 => 134 | 146 => 173 | 51 => 164 | n => n, fun | 1 => 1 | n => n⟩
theorem Tryz.lays138 : Go.Proofs.Lays.n138 Tryz.prog Tryz.lays138_ren := {
  mixed := by kernel_rfl
  f138 := Tryz.func175.trans (congrArg some (by kernel_rfl))
  f143 := Tryz.func176.trans (congrArg some (by kernel_rfl))
  f195 := Tryz.func215.trans (congrArg some (by kernel_rfl))
  f217 := Tryz.func257.trans (congrArg some (by kernel_rfl))
  f218 := Tryz.func217.trans (congrArg some (by kernel_rfl))
  f219 := Tryz.func218.trans (congrArg some (by kernel_rfl))
  f224 := Tryz.func259.trans (congrArg some (by kernel_rfl))
  f225 := Tryz.func258.trans (congrArg some (by kernel_rfl))
  f266 := Tryz.func285.trans (congrArg some (by kernel_rfl))
  f267 := Tryz.func260.trans (congrArg some (by kernel_rfl))
  f314 := Tryz.func286.trans (congrArg some (by kernel_rfl))
  t0 := Tryz.underlying0
  a0 := Tryz.isAgg0
  z0 := Tryz.sizeOf0
  v0 := Tryz.zeroValue0
  t3 := Tryz.underlying3
  a3 := Tryz.isAgg3
  z3 := Tryz.sizeOf3
  v3 := Tryz.zeroValue3
  t4 := Tryz.underlying4
  a4 := Tryz.isAgg4
  z4 := Tryz.sizeOf4
  v4 := Tryz.zeroValue4
  t5 := Tryz.underlying5
  a5 := Tryz.isAgg5
  z5 := Tryz.sizeOf5
  v5 := Tryz.zeroValue5
  t9 := Tryz.underlying9
  a9 := Tryz.isAgg9
  z9 := Tryz.sizeOf9
  v9 := Tryz.zeroValue9
  t46 := Tryz.underlying134
  a46 := Tryz.isAgg134
  z46 := Tryz.sizeOf134
  v46 := Tryz.zeroValue134
  t51 := Tryz.underlying164
  a51 := Tryz.isAgg164
  z51 := Tryz.sizeOf164
  v51 := Tryz.zeroValue164
  t146 := Tryz.underlying173
  a146 := Tryz.isAgg173
  z146 := Tryz.sizeOf173
  v146 := Tryz.zeroValue173
  g1 := by kernel_rfl }
open Go.RowKit Go.Lib in
/-- strings.Count AT A substr OF ONE BYTE ('hp'): "Count counts the number of non-overlapping instances of substr in s.": IT RETURNS 'Lib.countByte s (that byte)'; the world is as it was. ✋ NO CONTRACT HERE YET at an empty substr (utf8.RuneCountInString) or at a longer one (a loop over strings.Index). (LAID: no walk: one application.) -/
theorem Tryz.strings_Count_one (s : ByteArray) (c : UInt8) (w : World) :
    Calls Tryz.prog 175 #[.string s, .string ⟨#[c]⟩] w fun e w' => e = .returned (.int .i64 (Lib.countByte s.data.toList c)) ∧ w' = w := Any.strings_Count_one Tryz.lays138 s c w
open Go.RowKit Go.Lib in
/-- strings.Count AT A substr OF TWO BYTES OR MORE: "Count counts the number of non-overlapping instances of substr in s.": IT RETURNS 'Lib.count s substr'; the world is as it was. (LAID: no walk: one application.) -/
theorem Tryz.strings_Count (s sub : ByteArray) (m : Int) (w : World) (hs : s.size < 4294967281) (hm : w.cell? ⟨1, 0, none⟩ = some (.int .i64 m)) (h2 : 2 ≤ sub.size) :
    Calls Tryz.prog 175 #[.string s, .string sub] w fun e w' => e = .returned (.int .i64 (Lib.countB s sub)) ∧ w' = w := Any.strings_Count Tryz.lays138 s sub m w hs hm h2
def Tryz.laysM219_ren : Go.Shelf.Ren := ⟨fun | 219 => 218 | 217 => 257 | 225 => 258 | 224 => 259 | 267 => 260 | 266 => 285 | 314 => 286 | n => n, fun | 9 => 9 | 3 => 3 | 4 => 4 | 5 => 5 | 46 => 134 | 146 => 173 | 51 => 164 | n => n, fun | 1 => 1 | n => n⟩
theorem Tryz.laysM219 : Go.Proofs.LaysM.n219 Tryz.prog Tryz.laysM219_ren := {
  mixed := by kernel_rfl
  f217 := Tryz.func257.trans (congrArg some (by kernel_rfl))
  f219 := Tryz.func218.trans (congrArg some (by kernel_rfl))
  f224 := Tryz.func259.trans (congrArg some (by kernel_rfl))
  f225 := Tryz.func258.trans (congrArg some (by kernel_rfl))
  f266 := Tryz.func285.trans (congrArg some (by kernel_rfl))
  f267 := Tryz.func260.trans (congrArg some (by kernel_rfl))
  f314 := Tryz.func286.trans (congrArg some (by kernel_rfl))
  t3 := Tryz.underlying3
  a3 := Tryz.isAgg3
  z3 := Tryz.sizeOf3
  v3 := Tryz.zeroValue3
  t4 := Tryz.underlying4
  a4 := Tryz.isAgg4
  z4 := Tryz.sizeOf4
  v4 := Tryz.zeroValue4
  t5 := Tryz.underlying5
  a5 := Tryz.isAgg5
  z5 := Tryz.sizeOf5
  v5 := Tryz.zeroValue5
  t9 := Tryz.underlying9
  a9 := Tryz.isAgg9
  z9 := Tryz.sizeOf9
  v9 := Tryz.zeroValue9
  t46 := Tryz.underlying134
  a46 := Tryz.isAgg134
  z46 := Tryz.sizeOf134
  v46 := Tryz.zeroValue134
  t51 := Tryz.underlying164
  a51 := Tryz.isAgg164
  z51 := Tryz.sizeOf164
  v51 := Tryz.zeroValue164
  t146 := Tryz.underlying173
  a146 := Tryz.isAgg173
  z146 := Tryz.sizeOf173
  v146 := Tryz.zeroValue173
  g1 := by kernel_rfl
  i3 := by kernel_rfl
  i4 := by kernel_rfl
  i5 := by kernel_rfl
  i9 := by kernel_rfl
  i46 := by kernel_rfl
  i51 := by kernel_rfl
  i146 := by kernel_rfl
  m1 := by kernel_rfl
  s1_3 := fun w h => Go.Proofs.cell_of_shapedOpen_int (zero := #[.int .i64 0]) (t := 3) h (of_decide_eq_true (by kernel_rfl)) (by kernel_rfl) rfl (by kernel_rfl) (by kernel_rfl) Tryz.underlying3 }
open Go.RowKit Go.Lib in
theorem Tryz.stringslite_Index_shaped (s sub : ByteArray) (w : World) (h : w.ShapedOpen Tryz.prog) (hs : s.size < 4294967281) :
    Calls Tryz.prog 218 #[.string s, .string sub] w fun e w' => e = .returned (.int .i64 (Lib.index s.data.toList sub.data.toList)) ∧ w' = w := Any.stringslite_Index_shaped Tryz.laysM219 s sub w h hs
def Tryz.laysM143_ren : Go.Shelf.Ren := ⟨fun | 143 => 176 | 219 => 218 | 217 => 257 | 225 => 258 | 224 => 259 | 267 => 260 | 266 => 285 | 314 => 286 | n => n, fun | 9 => 9 | 3 => 3 | 4 => 4 | 5 => 5 | 46 => 134 | 146 => 173 | 51 => 164 | n => n, fun | 1 => 1 | n => n⟩
theorem Tryz.laysM143 : Go.Proofs.LaysM.n143 Tryz.prog Tryz.laysM143_ren := {
  mixed := by kernel_rfl
  f143 := Tryz.func176.trans (congrArg some (by kernel_rfl))
  f217 := Tryz.func257.trans (congrArg some (by kernel_rfl))
  f219 := Tryz.func218.trans (congrArg some (by kernel_rfl))
  f224 := Tryz.func259.trans (congrArg some (by kernel_rfl))
  f225 := Tryz.func258.trans (congrArg some (by kernel_rfl))
  f266 := Tryz.func285.trans (congrArg some (by kernel_rfl))
  f267 := Tryz.func260.trans (congrArg some (by kernel_rfl))
  f314 := Tryz.func286.trans (congrArg some (by kernel_rfl))
  t3 := Tryz.underlying3
  a3 := Tryz.isAgg3
  z3 := Tryz.sizeOf3
  v3 := Tryz.zeroValue3
  t4 := Tryz.underlying4
  a4 := Tryz.isAgg4
  z4 := Tryz.sizeOf4
  v4 := Tryz.zeroValue4
  t5 := Tryz.underlying5
  a5 := Tryz.isAgg5
  z5 := Tryz.sizeOf5
  v5 := Tryz.zeroValue5
  t9 := Tryz.underlying9
  a9 := Tryz.isAgg9
  z9 := Tryz.sizeOf9
  v9 := Tryz.zeroValue9
  t46 := Tryz.underlying134
  a46 := Tryz.isAgg134
  z46 := Tryz.sizeOf134
  v46 := Tryz.zeroValue134
  t51 := Tryz.underlying164
  a51 := Tryz.isAgg164
  z51 := Tryz.sizeOf164
  v51 := Tryz.zeroValue164
  t146 := Tryz.underlying173
  a146 := Tryz.isAgg173
  z146 := Tryz.sizeOf173
  v146 := Tryz.zeroValue173
  g1 := by kernel_rfl
  i3 := by kernel_rfl
  i4 := by kernel_rfl
  i5 := by kernel_rfl
  i9 := by kernel_rfl
  i46 := by kernel_rfl
  i51 := by kernel_rfl
  i146 := by kernel_rfl
  m1 := by kernel_rfl
  s1_3 := fun w h => Go.Proofs.cell_of_shapedOpen_int (zero := #[.int .i64 0]) (t := 3) h (of_decide_eq_true (by kernel_rfl)) (by kernel_rfl) rfl (by kernel_rfl) (by kernel_rfl) Tryz.underlying3 }
open Go.RowKit Go.Lib in
theorem Tryz.strings_Index_shaped (s sub : ByteArray) (w : World) (h : w.ShapedOpen Tryz.prog) (hs : s.size < 4294967281) :
    Calls Tryz.prog 176 #[.string s, .string sub] w fun e w' => e = .returned (.int .i64 (Lib.index s.data.toList sub.data.toList)) ∧ w' = w := Any.strings_Index_shaped Tryz.laysM143 s sub w h hs
def Tryz.laysM138_ren : Go.Shelf.Ren := ⟨fun | 138 => 175 | 195 => 215 | 218 => 217 | 143 => 176 | 219 => 218 | 217 => 257 | 225 => 258 | 224 => 259 | 267 => 260 | 266 => 285 | 314 => 286 | n => n, fun | 9 => 9 | 3 => 3 | 4 => 4 | 5 => 5 | 0 => 0 | 46 => 134 | 146 => 173 | 51 => 164 | n => n, fun | 1 => 1 | n => n⟩
theorem Tryz.laysM138 : Go.Proofs.LaysM.n138 Tryz.prog Tryz.laysM138_ren := {
  mixed := by kernel_rfl
  f138 := Tryz.func175.trans (congrArg some (by kernel_rfl))
  f143 := Tryz.func176.trans (congrArg some (by kernel_rfl))
  f195 := Tryz.func215.trans (congrArg some (by kernel_rfl))
  f217 := Tryz.func257.trans (congrArg some (by kernel_rfl))
  f218 := Tryz.func217.trans (congrArg some (by kernel_rfl))
  f219 := Tryz.func218.trans (congrArg some (by kernel_rfl))
  f224 := Tryz.func259.trans (congrArg some (by kernel_rfl))
  f225 := Tryz.func258.trans (congrArg some (by kernel_rfl))
  f266 := Tryz.func285.trans (congrArg some (by kernel_rfl))
  f267 := Tryz.func260.trans (congrArg some (by kernel_rfl))
  f314 := Tryz.func286.trans (congrArg some (by kernel_rfl))
  t0 := Tryz.underlying0
  a0 := Tryz.isAgg0
  z0 := Tryz.sizeOf0
  v0 := Tryz.zeroValue0
  t3 := Tryz.underlying3
  a3 := Tryz.isAgg3
  z3 := Tryz.sizeOf3
  v3 := Tryz.zeroValue3
  t4 := Tryz.underlying4
  a4 := Tryz.isAgg4
  z4 := Tryz.sizeOf4
  v4 := Tryz.zeroValue4
  t5 := Tryz.underlying5
  a5 := Tryz.isAgg5
  z5 := Tryz.sizeOf5
  v5 := Tryz.zeroValue5
  t9 := Tryz.underlying9
  a9 := Tryz.isAgg9
  z9 := Tryz.sizeOf9
  v9 := Tryz.zeroValue9
  t46 := Tryz.underlying134
  a46 := Tryz.isAgg134
  z46 := Tryz.sizeOf134
  v46 := Tryz.zeroValue134
  t51 := Tryz.underlying164
  a51 := Tryz.isAgg164
  z51 := Tryz.sizeOf164
  v51 := Tryz.zeroValue164
  t146 := Tryz.underlying173
  a146 := Tryz.isAgg173
  z146 := Tryz.sizeOf173
  v146 := Tryz.zeroValue173
  g1 := by kernel_rfl
  i0 := by kernel_rfl
  i3 := by kernel_rfl
  i4 := by kernel_rfl
  i5 := by kernel_rfl
  i9 := by kernel_rfl
  i46 := by kernel_rfl
  i51 := by kernel_rfl
  i146 := by kernel_rfl
  m1 := by kernel_rfl
  s1_3 := fun w h => Go.Proofs.cell_of_shapedOpen_int (zero := #[.int .i64 0]) (t := 3) h (of_decide_eq_true (by kernel_rfl)) (by kernel_rfl) rfl (by kernel_rfl) (by kernel_rfl) Tryz.underlying3 }
open Go.RowKit Go.Lib in
theorem Tryz.strings_Count_shaped (s sub : ByteArray) (w : World) (h : w.ShapedOpen Tryz.prog) (hs : s.size < 4294967281) (h2 : 2 ≤ sub.size) :
    Calls Tryz.prog 175 #[.string s, .string sub] w fun e w' => e = .returned (.int .i64 (Lib.countB s sub)) ∧ w' = w := Any.strings_Count_shaped Tryz.laysM138 s sub w h hs h2
def Tryz.lays206_ren : Go.Shelf.Ren := ⟨fun | 206 => 159 | n => n, fun | 9 => 9 | 4 => 4 | 3 => 3 | n => n, fun | n => n⟩
theorem Tryz.lays206 : Go.Proofs.Lays.n206 Tryz.prog Tryz.lays206_ren := {
  mixed := by kernel_rfl
  f206 := Tryz.func159.trans (congrArg some (by kernel_rfl))
  t3 := Tryz.underlying3
  a3 := Tryz.isAgg3
  z3 := Tryz.sizeOf3
  v3 := Tryz.zeroValue3
  t4 := Tryz.underlying4
  a4 := Tryz.isAgg4
  z4 := Tryz.sizeOf4
  v4 := Tryz.zeroValue4
  t9 := Tryz.underlying9
  a9 := Tryz.isAgg9
  z9 := Tryz.sizeOf9
  v9 := Tryz.zeroValue9 }
open Go.RowKit Go.Lib in
/-- internal/stringslite.HasPrefix (what strings.HasPrefix calls). (LAID: no walk: one application.) -/
theorem Tryz.stringslite_HasPrefix (s p : ByteArray) (w : World) :
    Calls Tryz.prog 159 #[.string s, .string p] w fun e w' => e = .returned (.bool (Lib.hasPrefix s.data.toList p.data.toList)) ∧ w' = w := Any.stringslite_HasPrefix Tryz.lays206 s p w
def Tryz.lays99_ren : Go.Shelf.Ren := ⟨fun | 99 => 117 | 206 => 159 | n => n, fun | 9 => 9 | 4 => 4 | 3 => 3 | n => n, fun | n => n⟩
theorem Tryz.lays99 : Go.Proofs.Lays.n99 Tryz.prog Tryz.lays99_ren := {
  mixed := by kernel_rfl
  f99 := Tryz.func117.trans (congrArg some (by kernel_rfl))
  f206 := Tryz.func159.trans (congrArg some (by kernel_rfl))
  t3 := Tryz.underlying3
  a3 := Tryz.isAgg3
  z3 := Tryz.sizeOf3
  v3 := Tryz.zeroValue3
  t4 := Tryz.underlying4
  a4 := Tryz.isAgg4
  z4 := Tryz.sizeOf4
  v4 := Tryz.zeroValue4
  t9 := Tryz.underlying9
  a9 := Tryz.isAgg9
  z9 := Tryz.sizeOf9
  v9 := Tryz.zeroValue9 }
open Go.RowKit Go.Lib in
/-- strings.HasPrefix: "HasPrefix reports whether the string s begins with prefix.": IT RETURNS 'Lib.hasPrefix s prefix'; the world is as it was. (LAID: no walk: one application.) -/
theorem Tryz.strings_HasPrefix (s p : ByteArray) (w : World) :
    Calls Tryz.prog 117 #[.string s, .string p] w fun e w' => e = .returned (.bool (Lib.hasPrefix s.data.toList p.data.toList)) ∧ w' = w := Any.strings_HasPrefix Tryz.lays99 s p w
def Tryz.lays207_ren : Go.Shelf.Ren := ⟨fun | 207 => 203 | n => n, fun | 9 => 9 | 4 => 4 | 3 => 3 | n => n, fun | n => n⟩
theorem Tryz.lays207 : Go.Proofs.Lays.n207 Tryz.prog Tryz.lays207_ren := {
  mixed := by kernel_rfl
  f207 := Tryz.func203.trans (congrArg some (by kernel_rfl))
  t3 := Tryz.underlying3
  a3 := Tryz.isAgg3
  z3 := Tryz.sizeOf3
  v3 := Tryz.zeroValue3
  t4 := Tryz.underlying4
  a4 := Tryz.isAgg4
  z4 := Tryz.sizeOf4
  v4 := Tryz.zeroValue4
  t9 := Tryz.underlying9
  a9 := Tryz.isAgg9
  z9 := Tryz.sizeOf9
  v9 := Tryz.zeroValue9 }
open Go.RowKit Go.Lib in
/-- internal/stringslite.HasSuffix (what strings.HasSuffix calls). (LAID: no walk: one application.) -/
theorem Tryz.stringslite_HasSuffix (s p : ByteArray) (w : World) (hs : s.size ≤ 9223372036854775807) :
    Calls Tryz.prog 203 #[.string s, .string p] w fun e w' => e = .returned (.bool (Lib.hasSuffix s.data.toList p.data.toList)) ∧ w' = w := Any.stringslite_HasSuffix Tryz.lays207 s p w hs
def Tryz.lays100_ren : Go.Shelf.Ren := ⟨fun | 100 => 161 | 207 => 203 | n => n, fun | 9 => 9 | 4 => 4 | 3 => 3 | n => n, fun | n => n⟩
theorem Tryz.lays100 : Go.Proofs.Lays.n100 Tryz.prog Tryz.lays100_ren := {
  mixed := by kernel_rfl
  f100 := Tryz.func161.trans (congrArg some (by kernel_rfl))
  f207 := Tryz.func203.trans (congrArg some (by kernel_rfl))
  t3 := Tryz.underlying3
  a3 := Tryz.isAgg3
  z3 := Tryz.sizeOf3
  v3 := Tryz.zeroValue3
  t4 := Tryz.underlying4
  a4 := Tryz.isAgg4
  z4 := Tryz.sizeOf4
  v4 := Tryz.zeroValue4
  t9 := Tryz.underlying9
  a9 := Tryz.isAgg9
  z9 := Tryz.sizeOf9
  v9 := Tryz.zeroValue9 }
open Go.RowKit Go.Lib in
/-- strings.HasSuffix: "HasSuffix reports whether the string s ends with suffix.": IT RETURNS 'Lib.hasSuffix s suffix'; the world is as it was. ('hs': no Go string is longer: a caller has it of every string that it was handed.) (LAID: no walk: one application.) -/
theorem Tryz.strings_HasSuffix (s p : ByteArray) (w : World) (hs : s.size ≤ 9223372036854775807) :
    Calls Tryz.prog 161 #[.string s, .string p] w fun e w' => e = .returned (.bool (Lib.hasSuffix s.data.toList p.data.toList)) ∧ w' = w := Any.strings_HasSuffix Tryz.lays100 s p w hs
open Go.RowKit Go.Lib in
/-- strings.Count at whatever sep that is not empty: the two roads under one statement. (LAID: no walk: one application.) -/
theorem Tryz.strings_Count_any (s sep : ByteArray) (m : Int) (w : World) (hs : s.size < 4294967281) (hm : w.cell? ⟨1, 0, none⟩ = some (.int .i64 m)) (h1 : 1 ≤ sep.size) :
    Calls Tryz.prog 175 #[.string s, .string sep] w fun e w' => e = .returned (.int .i64 (Lib.countB s sep)) ∧ w' = w := Any.strings_Count_any Tryz.lays138 s sep m w hs hm h1
def Tryz.lays221_ren : Go.Shelf.Ren := ⟨fun | 221 => 134 | 268 => 174 | 138 => 175 | 143 => 176 | 195 => 215 | 197 => 216 | 218 => 217 | 219 => 218 | 260 => 256 | 217 => 257 | 225 => 258 | 224 => 259 | 267 => 260 | 266 => 285 | 314 => 286 | n => n, fun | 9 => 9 | 3 => 3 | 31 => 27 | 4 => 4 | 0 => 0 | 105 => 158 | 21 => 21 | 5 => 5 | 46 => 134 | 119 => 179 | 139 => 211 | 138 => 210 | 146 => 173 | 51 => 164 | n => n, fun | 1 => 1 | 3 => 3 | 4 => 4 | n => n⟩
theorem Tryz.lays221 : Go.Proofs.Lays.n221 Tryz.prog Tryz.lays221_ren := {
  mixed := by kernel_rfl
  f138 := Tryz.func175.trans (congrArg some (by kernel_rfl))
  f143 := Tryz.func176.trans (congrArg some (by kernel_rfl))
  f195 := Tryz.func215.trans (congrArg some (by kernel_rfl))
  f197 := Tryz.func216.trans (congrArg some (by kernel_rfl))
  f217 := Tryz.func257.trans (congrArg some (by kernel_rfl))
  f218 := Tryz.func217.trans (congrArg some (by kernel_rfl))
  f219 := Tryz.func218.trans (congrArg some (by kernel_rfl))
  f221 := Tryz.func134.trans (congrArg some (by kernel_rfl))
  f224 := Tryz.func259.trans (congrArg some (by kernel_rfl))
  f225 := Tryz.func258.trans (congrArg some (by kernel_rfl))
  f260 := Tryz.func256.trans (congrArg some (by kernel_rfl))
  f266 := Tryz.func285.trans (congrArg some (by kernel_rfl))
  f267 := Tryz.func260.trans (congrArg some (by kernel_rfl))
  f268 := Tryz.func174.trans (congrArg some (by kernel_rfl))
  f314 := Tryz.func286.trans (congrArg some (by kernel_rfl))
  t0 := Tryz.underlying0
  a0 := Tryz.isAgg0
  z0 := Tryz.sizeOf0
  v0 := Tryz.zeroValue0
  t3 := Tryz.underlying3
  a3 := Tryz.isAgg3
  z3 := Tryz.sizeOf3
  v3 := Tryz.zeroValue3
  t4 := Tryz.underlying4
  a4 := Tryz.isAgg4
  z4 := Tryz.sizeOf4
  v4 := Tryz.zeroValue4
  t5 := Tryz.underlying5
  a5 := Tryz.isAgg5
  z5 := Tryz.sizeOf5
  v5 := Tryz.zeroValue5
  t9 := Tryz.underlying9
  a9 := Tryz.isAgg9
  z9 := Tryz.sizeOf9
  v9 := Tryz.zeroValue9
  t21 := Tryz.underlying21
  a21 := Tryz.isAgg21
  z21 := Tryz.sizeOf21
  v21 := Tryz.zeroValue21
  t31 := Tryz.underlying27
  a31 := Tryz.isAgg27
  z31 := Tryz.sizeOf27
  v31 := Tryz.zeroValue27
  t46 := Tryz.underlying134
  a46 := Tryz.isAgg134
  z46 := Tryz.sizeOf134
  v46 := Tryz.zeroValue134
  t51 := Tryz.underlying164
  a51 := Tryz.isAgg164
  z51 := Tryz.sizeOf164
  v51 := Tryz.zeroValue164
  t105 := Tryz.underlying158
  a105 := Tryz.isAgg158
  z105 := Tryz.sizeOf158
  v105 := Tryz.zeroValue158
  t119 := Tryz.underlying179
  a119 := Tryz.isAgg179
  z119 := Tryz.sizeOf179
  t138 := Tryz.underlying210
  a138 := Tryz.isAgg210
  z138 := Tryz.sizeOf210
  v138 := Tryz.zeroValue210
  t139 := Tryz.underlying211
  a139 := Tryz.isAgg211
  z139 := Tryz.sizeOf211
  v139 := Tryz.zeroValue211
  t146 := Tryz.underlying173
  a146 := Tryz.isAgg173
  z146 := Tryz.sizeOf173
  v146 := Tryz.zeroValue173
  g1 := by kernel_rfl
  g3 := by kernel_rfl
  g4 := by kernel_rfl }
open Go.RowKit Go.Lib in
theorem Tryz.strings_genSplit (s sep : ByteArray) (sv : Nat) (n : Int) (N : Nat) (m : Int) (w : World) (hs : s.size < 4294967281) (hm : w.cell? ⟨1, 0, none⟩ = some (.int .i64 m)) (h1 : 1 ≤ sep.size) (hsv : sv ≤ sep.size) (hn0 : n ≠ 0) (hn63 : n ≤ 9223372036854775807) (hN : (N : Int) = min (if n < 0 then (Lib.countB s sep : Int) + 1 else n) ((s.size : Int) + 1)) :
    Calls Tryz.prog 134 #[.string s, .string sep, .int .i64 sv, .int .i64 n] w fun e w' =>
      e = .returned (.slice (some ⟨w.heap.size, 0, none⟩) (Lib.splitB sep sv (N - 1) s).length N) ∧ w' = w.alloc (.cells (Lib.cellsOf (Lib.splitB sep sv (N - 1) s) N) 9) := Any.strings_genSplit Tryz.lays221 (by kernel_rfl) s sep sv n N m w hs hm h1 hsv hn0 hn63 hN
def Tryz.lays146_ren : Go.Shelf.Ren := ⟨fun | 146 => 91 | 221 => 134 | 268 => 174 | 138 => 175 | 143 => 176 | 195 => 215 | 197 => 216 | 218 => 217 | 219 => 218 | 260 => 256 | 217 => 257 | 225 => 258 | 224 => 259 | 267 => 260 | 266 => 285 | 314 => 286 | n => n, fun | 9 => 9 | 31 => 27 | 3 => 3 | 4 => 4 | 0 => 0 | 105 => 158 | 21 => 21 | 5 => 5 | 46 => 134 | 119 => 179 | 139 => 211 | 138 => 210 | 146 => 173 | 51 => 164 | n => n, fun | 1 => 1 | 3 => 3 | 4 => 4 | n => n⟩
theorem Tryz.lays146 : Go.Proofs.Lays.n146 Tryz.prog Tryz.lays146_ren := {
  mixed := by kernel_rfl
  f138 := Tryz.func175.trans (congrArg some (by kernel_rfl))
  f143 := Tryz.func176.trans (congrArg some (by kernel_rfl))
  f146 := Tryz.func91.trans (congrArg some (by kernel_rfl))
  f195 := Tryz.func215.trans (congrArg some (by kernel_rfl))
  f197 := Tryz.func216.trans (congrArg some (by kernel_rfl))
  f217 := Tryz.func257.trans (congrArg some (by kernel_rfl))
  f218 := Tryz.func217.trans (congrArg some (by kernel_rfl))
  f219 := Tryz.func218.trans (congrArg some (by kernel_rfl))
  f221 := Tryz.func134.trans (congrArg some (by kernel_rfl))
  f224 := Tryz.func259.trans (congrArg some (by kernel_rfl))
  f225 := Tryz.func258.trans (congrArg some (by kernel_rfl))
  f260 := Tryz.func256.trans (congrArg some (by kernel_rfl))
  f266 := Tryz.func285.trans (congrArg some (by kernel_rfl))
  f267 := Tryz.func260.trans (congrArg some (by kernel_rfl))
  f268 := Tryz.func174.trans (congrArg some (by kernel_rfl))
  f314 := Tryz.func286.trans (congrArg some (by kernel_rfl))
  t0 := Tryz.underlying0
  a0 := Tryz.isAgg0
  z0 := Tryz.sizeOf0
  v0 := Tryz.zeroValue0
  t3 := Tryz.underlying3
  a3 := Tryz.isAgg3
  z3 := Tryz.sizeOf3
  v3 := Tryz.zeroValue3
  t4 := Tryz.underlying4
  a4 := Tryz.isAgg4
  z4 := Tryz.sizeOf4
  v4 := Tryz.zeroValue4
  t5 := Tryz.underlying5
  a5 := Tryz.isAgg5
  z5 := Tryz.sizeOf5
  v5 := Tryz.zeroValue5
  t9 := Tryz.underlying9
  a9 := Tryz.isAgg9
  z9 := Tryz.sizeOf9
  v9 := Tryz.zeroValue9
  t21 := Tryz.underlying21
  a21 := Tryz.isAgg21
  z21 := Tryz.sizeOf21
  v21 := Tryz.zeroValue21
  t31 := Tryz.underlying27
  a31 := Tryz.isAgg27
  z31 := Tryz.sizeOf27
  v31 := Tryz.zeroValue27
  t46 := Tryz.underlying134
  a46 := Tryz.isAgg134
  z46 := Tryz.sizeOf134
  v46 := Tryz.zeroValue134
  t51 := Tryz.underlying164
  a51 := Tryz.isAgg164
  z51 := Tryz.sizeOf164
  v51 := Tryz.zeroValue164
  t105 := Tryz.underlying158
  a105 := Tryz.isAgg158
  z105 := Tryz.sizeOf158
  v105 := Tryz.zeroValue158
  t119 := Tryz.underlying179
  a119 := Tryz.isAgg179
  z119 := Tryz.sizeOf179
  t138 := Tryz.underlying210
  a138 := Tryz.isAgg210
  z138 := Tryz.sizeOf210
  v138 := Tryz.zeroValue210
  t139 := Tryz.underlying211
  a139 := Tryz.isAgg211
  z139 := Tryz.sizeOf211
  v139 := Tryz.zeroValue211
  t146 := Tryz.underlying173
  a146 := Tryz.isAgg173
  z146 := Tryz.sizeOf173
  v146 := Tryz.zeroValue173
  g1 := by kernel_rfl
  g3 := by kernel_rfl
  g4 := by kernel_rfl }
open Go.RowKit Go.Lib in
/-- strings.Split. (LAID: no walk: one application.) -/
theorem Tryz.strings_Split (s sep : ByteArray) (m : Int) (w : World) (hs : s.size < 4294967281) (hm : w.cell? ⟨1, 0, none⟩ = some (.int .i64 m)) (h1 : 1 ≤ sep.size) :
    Calls Tryz.prog 91 #[.string s, .string sep] w fun e w' =>
      e = .returned (.slice (some ⟨w.heap.size, 0, none⟩) (Lib.countB s sep + 1) (Lib.countB s sep + 1)) ∧ w' = w.alloc (.cells ((Lib.splitB sep 0 (Lib.countB s sep) s).map Value.string).toArray 9) := Any.strings_Split Tryz.lays146 (by kernel_rfl) s sep m w hs hm h1
def Tryz.lays157_ren : Go.Shelf.Ren := ⟨fun | 157 => 202 | 229 => 240 | 199 => 241 | 261 => 269 | 311 => 292 | 312 => 293 | n => n, fun | 9 => 9 | 31 => 27 | 3 => 3 | 5 => 5 | 4 => 4 | 119 => 179 | 0 => 0 | 40 => 181 | 152 => 196 | 21 => 21 | 154 => 198 | 51 => 164 | 141 => 200 | 196 => 219 | 193 => 216 | 198 => 222 | 49 => 220 | 194 => 217 | 201 => 225 | 226 => 232 | 46 => 134 | 227 => 233 | n => n, fun | 0 => 0 | 6 => 2 | n => n⟩
theorem Tryz.lays157 : Go.Proofs.Lays.n157 Tryz.prog Tryz.lays157_ren := {
  mixed := by kernel_rfl
  f157 := Tryz.func202.trans (congrArg some (by kernel_rfl))
  f199 := Tryz.func241.trans (congrArg some (by kernel_rfl))
  f229 := Tryz.func240.trans (congrArg some (by kernel_rfl))
  f261 := Tryz.func269.trans (congrArg some (by kernel_rfl))
  f311 := Tryz.func292.trans (congrArg some (by kernel_rfl))
  f312 := Tryz.func293.trans (congrArg some (by kernel_rfl))
  t0 := Tryz.underlying0
  a0 := Tryz.isAgg0
  z0 := Tryz.sizeOf0
  v0 := Tryz.zeroValue0
  t3 := Tryz.underlying3
  a3 := Tryz.isAgg3
  z3 := Tryz.sizeOf3
  v3 := Tryz.zeroValue3
  t4 := Tryz.underlying4
  a4 := Tryz.isAgg4
  z4 := Tryz.sizeOf4
  v4 := Tryz.zeroValue4
  t5 := Tryz.underlying5
  a5 := Tryz.isAgg5
  z5 := Tryz.sizeOf5
  v5 := Tryz.zeroValue5
  t9 := Tryz.underlying9
  a9 := Tryz.isAgg9
  z9 := Tryz.sizeOf9
  v9 := Tryz.zeroValue9
  t21 := Tryz.underlying21
  a21 := Tryz.isAgg21
  z21 := Tryz.sizeOf21
  v21 := Tryz.zeroValue21
  t31 := Tryz.underlying27
  a31 := Tryz.isAgg27
  z31 := Tryz.sizeOf27
  v31 := Tryz.zeroValue27
  t40 := Tryz.underlying181
  a40 := Tryz.isAgg181
  z40 := Tryz.sizeOf181
  v40 := Tryz.zeroValue181
  t46 := Tryz.underlying134
  a46 := Tryz.isAgg134
  z46 := Tryz.sizeOf134
  v46 := Tryz.zeroValue134
  t49 := Tryz.underlying220
  a49 := Tryz.isAgg220
  z49 := Tryz.sizeOf220
  v49 := Tryz.zeroValue220
  t51 := Tryz.underlying164
  a51 := Tryz.isAgg164
  z51 := Tryz.sizeOf164
  v51 := Tryz.zeroValue164
  t119 := Tryz.underlying179
  a119 := Tryz.isAgg179
  z119 := Tryz.sizeOf179
  t141 := Tryz.underlying200
  a141 := Tryz.isAgg200
  z141 := Tryz.sizeOf200
  v141 := Tryz.zeroValue200
  t152 := Tryz.underlying196
  a152 := Tryz.isAgg196
  z152 := Tryz.sizeOf196
  v152 := Tryz.zeroValue196
  t154 := Tryz.underlying198
  a154 := Tryz.isAgg198
  z154 := Tryz.sizeOf198
  v154 := Tryz.zeroValue198
  t193 := Tryz.underlying216
  a193 := Tryz.isAgg216
  z193 := Tryz.sizeOf216
  v193 := Tryz.zeroValue216
  t194 := Tryz.underlying217
  a194 := Tryz.isAgg217
  z194 := Tryz.sizeOf217
  v194 := Tryz.zeroValue217
  t196 := Tryz.underlying219
  a196 := Tryz.isAgg219
  z196 := Tryz.sizeOf219
  v196 := Tryz.zeroValue219
  t198 := Tryz.underlying222
  a198 := Tryz.isAgg222
  z198 := Tryz.sizeOf222
  v198 := Tryz.zeroValue222
  t201 := Tryz.underlying225
  a201 := Tryz.isAgg225
  z201 := Tryz.sizeOf225
  v201 := Tryz.zeroValue225
  t226 := Tryz.underlying232
  a226 := Tryz.isAgg232
  z226 := Tryz.sizeOf232
  v226 := Tryz.zeroValue232
  t227 := Tryz.underlying233
  a227 := Tryz.isAgg233
  z227 := Tryz.sizeOf233
  v227 := Tryz.zeroValue233
  g0 := by kernel_rfl
  g6 := by kernel_rfl }
open Go.RowKit Go.Lib in
/-- strings.Fields, the table by 'Lib.TabIs' (as strings.TrimSpace's contract). 'hg': the table's number, by its name: at a dump 'by kernel_rfl'. (LAID: no walk: one application.) -/
theorem Tryz.strings_Fields (s : ByteArray) (w : World) (hs : s.size < 4294967281) (hascii : ∀ (j : Nat) b, s.data.toList[j]? = some b → b.toNat < 128) (htab : Lib.TabIs Tryz.prog w "strings.asciiSpace" .u8 Lib.asciiSpaceTab) :
    Calls Tryz.prog 202 #[.string s] w fun e w' =>
      e = .returned (.slice (some ⟨w.heap.size, 0, none⟩) (Lib.fields s.data.toList).length (Lib.fields s.data.toList).length) ∧ w' = w.alloc (.cells ((Lib.fields s.data.toList).map fun l => Value.string ⟨l.toArray⟩).toArray 9) := Any.strings_Fields Tryz.lays157 (by kernel_rfl) (by kernel_rfl) s w hs hascii htab
def Tryz.laysM146_ren : Go.Shelf.Ren := ⟨fun | 146 => 91 | 221 => 134 | 268 => 174 | 138 => 175 | 143 => 176 | 195 => 215 | 197 => 216 | 218 => 217 | 219 => 218 | 260 => 256 | 217 => 257 | 225 => 258 | 224 => 259 | 267 => 260 | 266 => 285 | 314 => 286 | n => n, fun | 9 => 9 | 31 => 27 | 3 => 3 | 4 => 4 | 0 => 0 | 105 => 158 | 21 => 21 | 5 => 5 | 46 => 134 | 119 => 179 | 139 => 211 | 138 => 210 | 146 => 173 | 51 => 164 | n => n, fun | 1 => 1 | 3 => 3 | 4 => 4 | n => n⟩
theorem Tryz.laysM146 : Go.Proofs.LaysM.n146 Tryz.prog Tryz.laysM146_ren := {
  mixed := by kernel_rfl
  f138 := Tryz.func175.trans (congrArg some (by kernel_rfl))
  f143 := Tryz.func176.trans (congrArg some (by kernel_rfl))
  f146 := Tryz.func91.trans (congrArg some (by kernel_rfl))
  f195 := Tryz.func215.trans (congrArg some (by kernel_rfl))
  f197 := Tryz.func216.trans (congrArg some (by kernel_rfl))
  f217 := Tryz.func257.trans (congrArg some (by kernel_rfl))
  f218 := Tryz.func217.trans (congrArg some (by kernel_rfl))
  f219 := Tryz.func218.trans (congrArg some (by kernel_rfl))
  f221 := Tryz.func134.trans (congrArg some (by kernel_rfl))
  f224 := Tryz.func259.trans (congrArg some (by kernel_rfl))
  f225 := Tryz.func258.trans (congrArg some (by kernel_rfl))
  f260 := Tryz.func256.trans (congrArg some (by kernel_rfl))
  f266 := Tryz.func285.trans (congrArg some (by kernel_rfl))
  f267 := Tryz.func260.trans (congrArg some (by kernel_rfl))
  f268 := Tryz.func174.trans (congrArg some (by kernel_rfl))
  f314 := Tryz.func286.trans (congrArg some (by kernel_rfl))
  t0 := Tryz.underlying0
  a0 := Tryz.isAgg0
  z0 := Tryz.sizeOf0
  v0 := Tryz.zeroValue0
  t3 := Tryz.underlying3
  a3 := Tryz.isAgg3
  z3 := Tryz.sizeOf3
  v3 := Tryz.zeroValue3
  t4 := Tryz.underlying4
  a4 := Tryz.isAgg4
  z4 := Tryz.sizeOf4
  v4 := Tryz.zeroValue4
  t5 := Tryz.underlying5
  a5 := Tryz.isAgg5
  z5 := Tryz.sizeOf5
  v5 := Tryz.zeroValue5
  t9 := Tryz.underlying9
  a9 := Tryz.isAgg9
  z9 := Tryz.sizeOf9
  v9 := Tryz.zeroValue9
  t21 := Tryz.underlying21
  a21 := Tryz.isAgg21
  z21 := Tryz.sizeOf21
  v21 := Tryz.zeroValue21
  t31 := Tryz.underlying27
  a31 := Tryz.isAgg27
  z31 := Tryz.sizeOf27
  v31 := Tryz.zeroValue27
  t46 := Tryz.underlying134
  a46 := Tryz.isAgg134
  z46 := Tryz.sizeOf134
  v46 := Tryz.zeroValue134
  t51 := Tryz.underlying164
  a51 := Tryz.isAgg164
  z51 := Tryz.sizeOf164
  v51 := Tryz.zeroValue164
  t105 := Tryz.underlying158
  a105 := Tryz.isAgg158
  z105 := Tryz.sizeOf158
  v105 := Tryz.zeroValue158
  t119 := Tryz.underlying179
  a119 := Tryz.isAgg179
  z119 := Tryz.sizeOf179
  t138 := Tryz.underlying210
  a138 := Tryz.isAgg210
  z138 := Tryz.sizeOf210
  v138 := Tryz.zeroValue210
  t139 := Tryz.underlying211
  a139 := Tryz.isAgg211
  z139 := Tryz.sizeOf211
  v139 := Tryz.zeroValue211
  t146 := Tryz.underlying173
  a146 := Tryz.isAgg173
  z146 := Tryz.sizeOf173
  v146 := Tryz.zeroValue173
  g1 := by kernel_rfl
  g3 := by kernel_rfl
  g4 := by kernel_rfl
  i0 := by kernel_rfl
  i3 := by kernel_rfl
  i4 := by kernel_rfl
  i5 := by kernel_rfl
  i9 := by kernel_rfl
  i21 := by kernel_rfl
  i31 := by kernel_rfl
  i46 := by kernel_rfl
  i51 := by kernel_rfl
  i105 := by kernel_rfl
  i138 := by kernel_rfl
  i139 := by kernel_rfl
  i146 := by kernel_rfl
  m1 := by kernel_rfl
  s1_3 := fun w h => Go.Proofs.cell_of_shapedOpen_int (zero := #[.int .i64 0]) (t := 3) h (of_decide_eq_true (by kernel_rfl)) (by kernel_rfl) rfl (by kernel_rfl) (by kernel_rfl) Tryz.underlying3
  m3 := by kernel_rfl
  m4 := by kernel_rfl }
open Go.RowKit Go.Lib in
/-- strings.Split, sep not empty. (LAID: no walk: one application.) -/
theorem Tryz.strings_Split_shaped (s sep : ByteArray) (w : World) (h : w.ShapedOpen Tryz.prog) (hs : s.size < 4294967281) (h1 : 1 ≤ sep.size) :
    Calls Tryz.prog 91 #[.string s, .string sep] w fun e w' =>
      e = .returned (.slice (some ⟨w.heap.size, 0, none⟩) (Lib.countB s sep + 1) (Lib.countB s sep + 1)) ∧ w' = w.alloc (.cells ((Lib.splitB sep 0 (Lib.countB s sep) s).map Value.string).toArray 9) := Any.strings_Split_shaped Tryz.laysM146 s sep w h hs h1
def Tryz.laysM157_ren : Go.Shelf.Ren := ⟨fun | 157 => 202 | 229 => 240 | 199 => 241 | 261 => 269 | 311 => 292 | 312 => 293 | n => n, fun | 9 => 9 | 31 => 27 | 3 => 3 | 5 => 5 | 4 => 4 | 119 => 179 | 0 => 0 | 40 => 181 | 152 => 196 | 21 => 21 | 154 => 198 | 51 => 164 | 141 => 200 | 196 => 219 | 193 => 216 | 198 => 222 | 49 => 220 | 194 => 217 | 201 => 225 | 226 => 232 | 46 => 134 | 227 => 233 | n => n, fun | 0 => 0 | 6 => 2 | n => n⟩
theorem Tryz.laysM157 : Go.Proofs.LaysM.n157 Tryz.prog Tryz.laysM157_ren := {
  mixed := by kernel_rfl
  f157 := Tryz.func202.trans (congrArg some (by kernel_rfl))
  f199 := Tryz.func241.trans (congrArg some (by kernel_rfl))
  f229 := Tryz.func240.trans (congrArg some (by kernel_rfl))
  f261 := Tryz.func269.trans (congrArg some (by kernel_rfl))
  f311 := Tryz.func292.trans (congrArg some (by kernel_rfl))
  f312 := Tryz.func293.trans (congrArg some (by kernel_rfl))
  t0 := Tryz.underlying0
  a0 := Tryz.isAgg0
  z0 := Tryz.sizeOf0
  v0 := Tryz.zeroValue0
  t3 := Tryz.underlying3
  a3 := Tryz.isAgg3
  z3 := Tryz.sizeOf3
  v3 := Tryz.zeroValue3
  t4 := Tryz.underlying4
  a4 := Tryz.isAgg4
  z4 := Tryz.sizeOf4
  v4 := Tryz.zeroValue4
  t5 := Tryz.underlying5
  a5 := Tryz.isAgg5
  z5 := Tryz.sizeOf5
  v5 := Tryz.zeroValue5
  t9 := Tryz.underlying9
  a9 := Tryz.isAgg9
  z9 := Tryz.sizeOf9
  v9 := Tryz.zeroValue9
  t21 := Tryz.underlying21
  a21 := Tryz.isAgg21
  z21 := Tryz.sizeOf21
  v21 := Tryz.zeroValue21
  t31 := Tryz.underlying27
  a31 := Tryz.isAgg27
  z31 := Tryz.sizeOf27
  v31 := Tryz.zeroValue27
  t40 := Tryz.underlying181
  a40 := Tryz.isAgg181
  z40 := Tryz.sizeOf181
  v40 := Tryz.zeroValue181
  t46 := Tryz.underlying134
  a46 := Tryz.isAgg134
  z46 := Tryz.sizeOf134
  v46 := Tryz.zeroValue134
  t49 := Tryz.underlying220
  a49 := Tryz.isAgg220
  z49 := Tryz.sizeOf220
  v49 := Tryz.zeroValue220
  t51 := Tryz.underlying164
  a51 := Tryz.isAgg164
  z51 := Tryz.sizeOf164
  v51 := Tryz.zeroValue164
  t119 := Tryz.underlying179
  a119 := Tryz.isAgg179
  z119 := Tryz.sizeOf179
  t141 := Tryz.underlying200
  a141 := Tryz.isAgg200
  z141 := Tryz.sizeOf200
  v141 := Tryz.zeroValue200
  t152 := Tryz.underlying196
  a152 := Tryz.isAgg196
  z152 := Tryz.sizeOf196
  v152 := Tryz.zeroValue196
  t154 := Tryz.underlying198
  a154 := Tryz.isAgg198
  z154 := Tryz.sizeOf198
  v154 := Tryz.zeroValue198
  t193 := Tryz.underlying216
  a193 := Tryz.isAgg216
  z193 := Tryz.sizeOf216
  v193 := Tryz.zeroValue216
  t194 := Tryz.underlying217
  a194 := Tryz.isAgg217
  z194 := Tryz.sizeOf217
  v194 := Tryz.zeroValue217
  t196 := Tryz.underlying219
  a196 := Tryz.isAgg219
  z196 := Tryz.sizeOf219
  v196 := Tryz.zeroValue219
  t198 := Tryz.underlying222
  a198 := Tryz.isAgg222
  z198 := Tryz.sizeOf222
  v198 := Tryz.zeroValue222
  t201 := Tryz.underlying225
  a201 := Tryz.isAgg225
  z201 := Tryz.sizeOf225
  v201 := Tryz.zeroValue225
  t226 := Tryz.underlying232
  a226 := Tryz.isAgg232
  z226 := Tryz.sizeOf232
  v226 := Tryz.zeroValue232
  t227 := Tryz.underlying233
  a227 := Tryz.isAgg233
  z227 := Tryz.sizeOf233
  v227 := Tryz.zeroValue233
  g0 := by kernel_rfl
  g6 := by kernel_rfl
  i0 := by kernel_rfl
  i3 := by kernel_rfl
  i4 := by kernel_rfl
  i5 := by kernel_rfl
  i9 := by kernel_rfl
  i21 := by kernel_rfl
  i31 := by kernel_rfl
  i40 := by kernel_rfl
  i46 := by kernel_rfl
  i49 := by kernel_rfl
  i51 := by kernel_rfl
  i141 := by kernel_rfl
  i152 := by kernel_rfl
  i154 := by kernel_rfl
  i193 := by kernel_rfl
  i194 := by kernel_rfl
  i196 := by kernel_rfl
  i198 := by kernel_rfl
  i201 := by kernel_rfl
  i226 := by kernel_rfl
  i227 := by kernel_rfl
  m0 := by kernel_rfl
  m6 := by kernel_rfl }
open Go.RowKit Go.Lib in
/-- strings.Fields on ASCII bytes. (The table: 'Lib.TabIs', as strings.TrimSpace's contract asks it.) (LAID: no walk: one application.) -/
theorem Tryz.strings_Fields_laid (s : ByteArray) (w : World) (hs : s.size < 4294967281) (hascii : ∀ (j : Nat) b, s.data.toList[j]? = some b → b.toNat < 128) (htab : Lib.TabIs Tryz.prog w "strings.asciiSpace" .u8 Lib.asciiSpaceTab) :
    Calls Tryz.prog 202 #[.string s] w fun e w' =>
      e = .returned (.slice (some ⟨w.heap.size, 0, none⟩) (Lib.fields s.data.toList).length (Lib.fields s.data.toList).length) ∧ w' = w.alloc (.cells ((Lib.fields s.data.toList).map fun l => Value.string ⟨l.toArray⟩).toArray 9) := Any.strings_Fields_laid Tryz.laysM157 s w hs hascii htab
def Tryz.lays199_ren : Go.Shelf.Ren := ⟨fun | 199 => 241 | 261 => 269 | 311 => 292 | 312 => 293 | n => n, fun | 21 => 21 | 4 => 4 | 51 => 164 | 141 => 200 | 0 => 0 | 196 => 219 | 193 => 216 | 3 => 3 | 198 => 222 | 49 => 220 | 194 => 217 | 201 => 225 | 226 => 232 | 46 => 134 | 227 => 233 | n => n, fun | 6 => 2 | n => n⟩
theorem Tryz.lays199 : Go.Proofs.Lays.n199 Tryz.prog Tryz.lays199_ren := {
  mixed := by kernel_rfl
  f199 := Tryz.func241.trans (congrArg some (by kernel_rfl))
  f261 := Tryz.func269.trans (congrArg some (by kernel_rfl))
  f311 := Tryz.func292.trans (congrArg some (by kernel_rfl))
  f312 := Tryz.func293.trans (congrArg some (by kernel_rfl))
  t0 := Tryz.underlying0
  a0 := Tryz.isAgg0
  z0 := Tryz.sizeOf0
  v0 := Tryz.zeroValue0
  t3 := Tryz.underlying3
  a3 := Tryz.isAgg3
  z3 := Tryz.sizeOf3
  v3 := Tryz.zeroValue3
  t4 := Tryz.underlying4
  a4 := Tryz.isAgg4
  z4 := Tryz.sizeOf4
  v4 := Tryz.zeroValue4
  t21 := Tryz.underlying21
  a21 := Tryz.isAgg21
  z21 := Tryz.sizeOf21
  v21 := Tryz.zeroValue21
  t46 := Tryz.underlying134
  a46 := Tryz.isAgg134
  z46 := Tryz.sizeOf134
  v46 := Tryz.zeroValue134
  t49 := Tryz.underlying220
  a49 := Tryz.isAgg220
  z49 := Tryz.sizeOf220
  v49 := Tryz.zeroValue220
  t51 := Tryz.underlying164
  a51 := Tryz.isAgg164
  z51 := Tryz.sizeOf164
  v51 := Tryz.zeroValue164
  t141 := Tryz.underlying200
  a141 := Tryz.isAgg200
  z141 := Tryz.sizeOf200
  v141 := Tryz.zeroValue200
  t193 := Tryz.underlying216
  a193 := Tryz.isAgg216
  z193 := Tryz.sizeOf216
  v193 := Tryz.zeroValue216
  t194 := Tryz.underlying217
  a194 := Tryz.isAgg217
  z194 := Tryz.sizeOf217
  v194 := Tryz.zeroValue217
  t196 := Tryz.underlying219
  a196 := Tryz.isAgg219
  z196 := Tryz.sizeOf219
  v196 := Tryz.zeroValue219
  t198 := Tryz.underlying222
  a198 := Tryz.isAgg222
  z198 := Tryz.sizeOf222
  v198 := Tryz.zeroValue222
  t201 := Tryz.underlying225
  a201 := Tryz.isAgg225
  z201 := Tryz.sizeOf225
  v201 := Tryz.zeroValue225
  t226 := Tryz.underlying232
  a226 := Tryz.isAgg232
  z226 := Tryz.sizeOf232
  v226 := Tryz.zeroValue232
  t227 := Tryz.underlying233
  a227 := Tryz.isAgg233
  z227 := Tryz.sizeOf233
  v227 := Tryz.zeroValue233
  g6 := by kernel_rfl }
open Go.RowKit Go.Lib in
theorem Tryz.unicode_IsSpace (r : Int) (w : World) (h0 : 0 ≤ r) (h : r ≤ 255) :
    Calls Tryz.prog 241 #[.int .i32 r] w fun e w' => e = .returned (.bool (Lib.isSpaceL r)) ∧ w' = w := Any.unicode_IsSpace Tryz.lays199 r w h0 h
def Tryz.lays197_ren : Go.Shelf.Ren := ⟨fun | 197 => 216 | 260 => 256 | n => n, fun | 9 => 9 | 21 => 21 | 3 => 3 | 4 => 4 | 5 => 5 | 105 => 158 | 119 => 179 | 0 => 0 | 46 => 134 | 139 => 211 | 138 => 210 | n => n, fun | 3 => 3 | 4 => 4 | n => n⟩
theorem Tryz.lays197 : Go.Proofs.Lays.n197 Tryz.prog Tryz.lays197_ren := {
  mixed := by kernel_rfl
  f197 := Tryz.func216.trans (congrArg some (by kernel_rfl))
  f260 := Tryz.func256.trans (congrArg some (by kernel_rfl))
  t0 := Tryz.underlying0
  a0 := Tryz.isAgg0
  z0 := Tryz.sizeOf0
  v0 := Tryz.zeroValue0
  t3 := Tryz.underlying3
  a3 := Tryz.isAgg3
  z3 := Tryz.sizeOf3
  v3 := Tryz.zeroValue3
  t4 := Tryz.underlying4
  a4 := Tryz.isAgg4
  z4 := Tryz.sizeOf4
  v4 := Tryz.zeroValue4
  t5 := Tryz.underlying5
  a5 := Tryz.isAgg5
  z5 := Tryz.sizeOf5
  v5 := Tryz.zeroValue5
  t9 := Tryz.underlying9
  a9 := Tryz.isAgg9
  z9 := Tryz.sizeOf9
  v9 := Tryz.zeroValue9
  t21 := Tryz.underlying21
  a21 := Tryz.isAgg21
  z21 := Tryz.sizeOf21
  v21 := Tryz.zeroValue21
  t46 := Tryz.underlying134
  a46 := Tryz.isAgg134
  z46 := Tryz.sizeOf134
  v46 := Tryz.zeroValue134
  t105 := Tryz.underlying158
  a105 := Tryz.isAgg158
  z105 := Tryz.sizeOf158
  v105 := Tryz.zeroValue158
  t119 := Tryz.underlying179
  a119 := Tryz.isAgg179
  z119 := Tryz.sizeOf179
  t138 := Tryz.underlying210
  a138 := Tryz.isAgg210
  z138 := Tryz.sizeOf210
  v138 := Tryz.zeroValue210
  t139 := Tryz.underlying211
  a139 := Tryz.isAgg211
  z139 := Tryz.sizeOf211
  v139 := Tryz.zeroValue211
  g3 := by kernel_rfl
  g4 := by kernel_rfl }
open Go.RowKit Go.Lib in
/-- unicode/utf8.DecodeRuneInString: "DecodeRuneInString is like DecodeRune but its input is a string.": ("DecodeRune unpacks the first UTF-8 encoding in p and returns the rune and its width in bytes."): WHERE s BEGINS WITH AN ASCII BYTE x: (x, 1). (LAID: no walk: one application.) -/
theorem Tryz.utf8_DecodeRuneInString_ascii (s : ByteArray) (x : UInt8) (w : World) (h0 : s.data.toList[0]? = some x) (hx : x.toNat < 128) :
    Calls Tryz.prog 216 #[.string s] w fun e w' => e = .returned (.tuple #[.int .i32 x.toNat, .int .i64 1]) ∧ w' = w := Any.utf8_DecodeRuneInString_ascii Tryz.lays197 s x w h0 hx
open Go.RowKit Go.Lib in
theorem Tryz.utf8_RuneCountInString_ascii (s : ByteArray) (w : World) (hs : s.size < 4294967281) (hascii : ∀ (j : Nat) b, s.data.toList[j]? = some b → b.toNat < 128) :
    Calls Tryz.prog 215 #[.string s] w fun e w' => e = .returned (.int .i64 s.size) ∧ w' = w.iter s s.size := Any.utf8_RuneCountInString_ascii Tryz.lays195 s w hs hascii
def Tryz.lays268_ren : Go.Shelf.Ren := ⟨fun | 268 => 174 | 195 => 215 | 197 => 216 | 260 => 256 | n => n, fun | 9 => 9 | 3 => 3 | 31 => 27 | 4 => 4 | 105 => 158 | 21 => 21 | 0 => 0 | 5 => 5 | 119 => 179 | 46 => 134 | 139 => 211 | 138 => 210 | n => n, fun | 3 => 3 | 4 => 4 | n => n⟩
theorem Tryz.lays268 : Go.Proofs.Lays.n268 Tryz.prog Tryz.lays268_ren := {
  mixed := by kernel_rfl
  f195 := Tryz.func215.trans (congrArg some (by kernel_rfl))
  f197 := Tryz.func216.trans (congrArg some (by kernel_rfl))
  f260 := Tryz.func256.trans (congrArg some (by kernel_rfl))
  f268 := Tryz.func174.trans (congrArg some (by kernel_rfl))
  t0 := Tryz.underlying0
  a0 := Tryz.isAgg0
  z0 := Tryz.sizeOf0
  v0 := Tryz.zeroValue0
  t3 := Tryz.underlying3
  a3 := Tryz.isAgg3
  z3 := Tryz.sizeOf3
  v3 := Tryz.zeroValue3
  t4 := Tryz.underlying4
  a4 := Tryz.isAgg4
  z4 := Tryz.sizeOf4
  v4 := Tryz.zeroValue4
  t5 := Tryz.underlying5
  a5 := Tryz.isAgg5
  z5 := Tryz.sizeOf5
  v5 := Tryz.zeroValue5
  t9 := Tryz.underlying9
  a9 := Tryz.isAgg9
  z9 := Tryz.sizeOf9
  v9 := Tryz.zeroValue9
  t21 := Tryz.underlying21
  a21 := Tryz.isAgg21
  z21 := Tryz.sizeOf21
  v21 := Tryz.zeroValue21
  t31 := Tryz.underlying27
  a31 := Tryz.isAgg27
  z31 := Tryz.sizeOf27
  v31 := Tryz.zeroValue27
  t46 := Tryz.underlying134
  a46 := Tryz.isAgg134
  z46 := Tryz.sizeOf134
  v46 := Tryz.zeroValue134
  t105 := Tryz.underlying158
  a105 := Tryz.isAgg158
  z105 := Tryz.sizeOf158
  v105 := Tryz.zeroValue158
  t119 := Tryz.underlying179
  a119 := Tryz.isAgg179
  z119 := Tryz.sizeOf179
  t138 := Tryz.underlying210
  a138 := Tryz.isAgg210
  z138 := Tryz.sizeOf210
  v138 := Tryz.zeroValue210
  t139 := Tryz.underlying211
  a139 := Tryz.isAgg211
  z139 := Tryz.sizeOf211
  v139 := Tryz.zeroValue211
  g3 := by kernel_rfl
  g4 := by kernel_rfl }
open Go.RowKit Go.Lib in
theorem Tryz.strings_explode_all (s : ByteArray) (n : Int) (w : World) (hn : n < 0) (hs : s.size < 4294967281) (hascii : ∀ (j : Nat) b, s.data.toList[j]? = some b → b.toNat < 128) :
    Calls Tryz.prog 174 #[.string s, .int .i64 n] w fun e w' =>
      e = .returned (.slice (some ⟨(w.iter s s.size).heap.size, 0, none⟩) s.size s.size) ∧ w' = (w.iter s s.size).alloc (.cells ((Lib.charsB s).map Value.string).toArray 9) := Any.strings_explode_all Tryz.lays268 (by kernel_rfl) s n w hn hs hascii
open Go.RowKit Go.Lib in
/-- strings.genSplit at sep == "", n < 0: 'return explode(s, n)'. (LAID: no walk: one application.) -/
theorem Tryz.strings_genSplit_chars (s sep : ByteArray) (sv n : Int) (w : World) (h0 : sep.size = 0) (hn : n < 0) (hs : s.size < 4294967281) (hascii : ∀ (j : Nat) b, s.data.toList[j]? = some b → b.toNat < 128) :
    Calls Tryz.prog 134 #[.string s, .string sep, .int .i64 sv, .int .i64 n] w fun e w' =>
      e = .returned (.slice (some ⟨(w.iter s s.size).heap.size, 0, none⟩) s.size s.size) ∧ w' = (w.iter s s.size).alloc (.cells ((Lib.charsB s).map Value.string).toArray 9) := Any.strings_genSplit_chars Tryz.lays221 (by kernel_rfl) s sep sv n w h0 hn hs hascii
open Go.RowKit Go.Lib in
/-- strings.Split(s, ""), s ASCII: a piece a byte. (LAID: no walk: one application.) -/
theorem Tryz.strings_Split_chars (s sep : ByteArray) (w : World) (h0 : sep.size = 0) (hs : s.size < 4294967281) (hascii : ∀ (j : Nat) b, s.data.toList[j]? = some b → b.toNat < 128) :
    Calls Tryz.prog 91 #[.string s, .string sep] w fun e w' =>
      e = .returned (.slice (some ⟨(w.iter s s.size).heap.size, 0, none⟩) s.size s.size) ∧ w' = (w.iter s s.size).alloc (.cells ((Lib.charsB s).map Value.string).toArray 9) := Any.strings_Split_chars Tryz.lays146 (by kernel_rfl) s sep w h0 hs hascii
def Tryz.lays264_ren : Go.Shelf.Ren := ⟨fun | 264 => 237 | n => n, fun | 53 => 175 | 46 => 134 | n => n, fun | n => n⟩
theorem Tryz.lays264 : Go.Proofs.Lays.n264 Tryz.prog Tryz.lays264_ren := {
  mixed := by kernel_rfl
  f264 := Tryz.func237.trans (congrArg some (by kernel_rfl))
  t46 := Tryz.underlying134
  a46 := Tryz.isAgg134
  z46 := Tryz.sizeOf134
  v46 := Tryz.zeroValue134
  t53 := Tryz.underlying175
  a53 := Tryz.isAgg175
  z53 := Tryz.sizeOf175
  v53 := Tryz.zeroValue175 }
open Go.RowKit Go.Lib in
theorem Tryz.bits_Mul64 (x y : Nat) (hx : x < 18446744073709551616) (hy : y < 18446744073709551616) (w : World) :
    Calls Tryz.prog 237 #[.int .u64 x, .int .u64 y] w fun e w' => e = .returned (.tuple #[.int .u64 ((x * y / 18446744073709551616 : Nat) : Int), .int .u64 ((x * y % 18446744073709551616 : Nat) : Int)]) ∧ w' = w := Any.bits_Mul64 Tryz.lays264 x y hx hy w
def Tryz.lays212_ren : Go.Shelf.Ren := ⟨fun | 212 => 197 | 263 => 236 | 264 => 237 | n => n, fun | 46 => 134 | 51 => 164 | 146 => 173 | 53 => 175 | 148 => 176 | n => n, fun | n => n⟩
theorem Tryz.lays212 : Go.Proofs.Lays.n212 Tryz.prog Tryz.lays212_ren := {
  mixed := by kernel_rfl
  f212 := Tryz.func197.trans (congrArg some (by kernel_rfl))
  f263 := Tryz.func236.trans (congrArg some (by kernel_rfl))
  f264 := Tryz.func237.trans (congrArg some (by kernel_rfl))
  t46 := Tryz.underlying134
  a46 := Tryz.isAgg134
  z46 := Tryz.sizeOf134
  v46 := Tryz.zeroValue134
  t51 := Tryz.underlying164
  a51 := Tryz.isAgg164
  z51 := Tryz.sizeOf164
  v51 := Tryz.zeroValue164
  t53 := Tryz.underlying175
  a53 := Tryz.isAgg175
  z53 := Tryz.sizeOf175
  v53 := Tryz.zeroValue175
  t146 := Tryz.underlying173
  a146 := Tryz.isAgg173
  z146 := Tryz.sizeOf173
  v146 := Tryz.zeroValue173
  t148 := Tryz.underlying176
  a148 := Tryz.isAgg176
  z148 := Tryz.sizeOf176
  v148 := Tryz.zeroValue176 }
open Go.RowKit Go.Lib in
/-- math/bits.Mul: "Mul returns the full-width product of x and y": on a machine of 64 bits: Mul64's. (LAID: no walk: one application.) -/
theorem Tryz.bits_Mul (x y : Nat) (hx : x < 18446744073709551616) (hy : y < 18446744073709551616) (w : World) :
    Calls Tryz.prog 197 #[.int .u64 x, .int .u64 y] w fun e w' => e = .returned (.tuple #[.int .u64 ((x * y / 18446744073709551616 : Nat) : Int), .int .u64 ((x * y % 18446744073709551616 : Nat) : Int)]) ∧ w' = w := Any.bits_Mul Tryz.lays212 x y hx hy w
def Tryz.lays105_ren : Go.Shelf.Ren := ⟨fun | 105 => 158 | 212 => 197 | 99 => 117 | 165 => 198 | 166 => 199 | 170 => 200 | 169 => 201 | 263 => 236 | 264 => 237 | 206 => 159 | 240 => 238 | 241 => 239 | 276 => 267 | 277 => 268 | n => n, fun | 9 => 9 | 3 => 3 | 4 => 4 | 20 => 20 | 0 => 0 | 46 => 134 | 109 => 140 | 5 => 5 | 72 => 144 | 76 => 148 | 51 => 164 | 146 => 173 | 53 => 175 | 148 => 176 | 70 => 142 | 37 => 57 | 75 => 147 | 127 => 178 | 164 => 193 | 80 => 151 | n => n, fun | n => n⟩
theorem Tryz.lays105 : Go.Proofs.Lays.n105 Tryz.prog Tryz.lays105_ren := {
  mixed := by kernel_rfl
  f99 := Tryz.func117.trans (congrArg some (by kernel_rfl))
  f105 := Tryz.func158.trans (congrArg some (by kernel_rfl))
  f165 := Tryz.func198.trans (congrArg some (by kernel_rfl))
  f166 := Tryz.func199.trans (congrArg some (by kernel_rfl))
  f169 := Tryz.func201.trans (congrArg some (by kernel_rfl))
  f170 := Tryz.func200.trans (congrArg some (by kernel_rfl))
  f206 := Tryz.func159.trans (congrArg some (by kernel_rfl))
  f212 := Tryz.func197.trans (congrArg some (by kernel_rfl))
  f240 := Tryz.func238.trans (congrArg some (by kernel_rfl))
  f241 := Tryz.func239.trans (congrArg some (by kernel_rfl))
  f263 := Tryz.func236.trans (congrArg some (by kernel_rfl))
  f264 := Tryz.func237.trans (congrArg some (by kernel_rfl))
  f276 := Tryz.func267.trans (congrArg some (by kernel_rfl))
  f277 := Tryz.func268.trans (congrArg some (by kernel_rfl))
  t0 := Tryz.underlying0
  a0 := Tryz.isAgg0
  z0 := Tryz.sizeOf0
  v0 := Tryz.zeroValue0
  t3 := Tryz.underlying3
  a3 := Tryz.isAgg3
  z3 := Tryz.sizeOf3
  v3 := Tryz.zeroValue3
  t4 := Tryz.underlying4
  a4 := Tryz.isAgg4
  z4 := Tryz.sizeOf4
  v4 := Tryz.zeroValue4
  t5 := Tryz.underlying5
  a5 := Tryz.isAgg5
  z5 := Tryz.sizeOf5
  v5 := Tryz.zeroValue5
  t9 := Tryz.underlying9
  a9 := Tryz.isAgg9
  z9 := Tryz.sizeOf9
  v9 := Tryz.zeroValue9
  t20 := Tryz.underlying20
  a20 := Tryz.isAgg20
  z20 := Tryz.sizeOf20
  v20 := Tryz.zeroValue20
  t37 := Tryz.underlying57
  a37 := Tryz.isAgg57
  z37 := Tryz.sizeOf57
  v37 := Tryz.zeroValue57
  t46 := Tryz.underlying134
  a46 := Tryz.isAgg134
  z46 := Tryz.sizeOf134
  v46 := Tryz.zeroValue134
  t51 := Tryz.underlying164
  a51 := Tryz.isAgg164
  z51 := Tryz.sizeOf164
  v51 := Tryz.zeroValue164
  t53 := Tryz.underlying175
  a53 := Tryz.isAgg175
  z53 := Tryz.sizeOf175
  v53 := Tryz.zeroValue175
  t70 := Tryz.underlying142
  a70 := Tryz.isAgg142
  z70 := Tryz.sizeOf142
  v70 := Tryz.zeroValue142
  t72 := Tryz.underlying144
  a72 := Tryz.isAgg144
  z72 := Tryz.sizeOf144
  v72 := Tryz.zeroValue144
  t75 := Tryz.underlying147
  a75 := Tryz.isAgg147
  z75 := Tryz.sizeOf147
  v75 := Tryz.zeroValue147
  t76 := Tryz.underlying148
  a76 := Tryz.isAgg148
  z76 := Tryz.sizeOf148
  v76 := Tryz.zeroValue148
  t109 := Tryz.underlying140
  a109 := Tryz.isAgg140
  z109 := Tryz.sizeOf140
  v109 := Tryz.zeroValue140
  t127 := Tryz.underlying178
  a127 := Tryz.isAgg178
  z127 := Tryz.sizeOf178
  v127 := Tryz.zeroValue178
  t146 := Tryz.underlying173
  a146 := Tryz.isAgg173
  z146 := Tryz.sizeOf173
  v146 := Tryz.zeroValue173
  t148 := Tryz.underlying176
  a148 := Tryz.isAgg176
  z148 := Tryz.sizeOf176
  v148 := Tryz.zeroValue176
  t164 := Tryz.underlying193
  a164 := Tryz.isAgg193
  z164 := Tryz.sizeOf193
  v164 := Tryz.zeroValue193 }
theorem Tryz.Builder_Extra_105 : Builder.Extra Tryz.prog Tryz.lays105_ren := {
  sizeBuilder := by kernel_rfl
  liesBuilder := by kernel_rfl
  t5 := Tryz.underlying5
  a5 := Tryz.isAgg5
  z5 := Tryz.sizeOf5
  v5 := Tryz.zeroValue5
  infoByte := by kernel_rfl
  cellsByte := by kernel_rfl
  sizeByte := by kernel_rfl
  neB5 := by decide }
open Go.RowKit Go.Lib in
/-- THE MAIN CASE: at least two copies of a string that is not empty. (LAID: no walk: one application.) -/
theorem Tryz.strings_Repeat_main (s : ByteArray) (c : Nat) (w : World) (hc2 : 2 ≤ c) (hc : c ≤ 9223372036854775807) (hlen : s.size * c ≤ 140737488355328) (h0 : 0 < s.size) :
    Calls Tryz.prog 158 #[.string s, .int .i64 c] w fun e w' => e = .returned (.string ⟨(Lib.repeatL s.data.toList c).toArray⟩) ∧ Below w.heap.size w w' := Any.strings_Repeat_main Tryz.lays105 Tryz.Builder_Extra_105 s c w hc2 hc hlen h0
open Go.RowKit Go.Lib in
theorem Tryz.strings_Repeat_zero (s : ByteArray) (w : World) :
    Calls Tryz.prog 158 #[.string s, .int .i64 0] w fun e w' => e = .returned (.string ⟨#[]⟩) ∧ w' = w := Any.strings_Repeat_zero Tryz.lays105 s w
open Go.RowKit Go.Lib in
theorem Tryz.strings_Repeat_one (s : ByteArray) (w : World) :
    Calls Tryz.prog 158 #[.string s, .int .i64 1] w fun e w' => e = .returned (.string s) ∧ w' = w := Any.strings_Repeat_one Tryz.lays105 s w
open Go.RowKit Go.Lib in
/-- Copies of the empty string. (LAID: no walk: one application.) -/
theorem Tryz.strings_Repeat_empty (s : ByteArray) (c : Nat) (w : World) (hc2 : 2 ≤ c) (hc : c ≤ 9223372036854775807) (h0 : s.size = 0) :
    Calls Tryz.prog 158 #[.string s, .int .i64 c] w fun e w' => e = .returned (.string ⟨#[]⟩) ∧ w' = w := Any.strings_Repeat_empty Tryz.lays105 s c w hc2 hc h0
open Go.RowKit Go.Lib in
/-- count < 0: "It panics if count is negative". (LAID: no walk: one application.) -/
theorem Tryz.strings_Repeat_negative (s : ByteArray) (c : Int) (w : World) (hc : c < 0) :
    Calls Tryz.prog 158 #[.string s, .int .i64 c] w fun e w' => e = .panicked [{ v := repeatPanic Tryz.lays105_ren "strings: negative Repeat count", recovered := false }] ∧ w' = w := Any.strings_Repeat_negative Tryz.lays105 s c w hc
open Go.RowKit Go.Lib in
/-- len(s) * count is no int: ".. or if the result of (len(s) * count) overflows". (LAID: no walk: one application.) -/
theorem Tryz.strings_Repeat_overflow (s : ByteArray) (c : Nat) (w : World) (hc : c ≤ 9223372036854775807) (hs : s.size ≤ 9223372036854775807) (hbig : 9223372036854775807 < s.size * c) :
    Calls Tryz.prog 158 #[.string s, .int .i64 c] w fun e w' => e = .panicked [{ v := repeatPanic Tryz.lays105_ren "strings: Repeat output length overflow", recovered := false }] ∧ w' = w := Any.strings_Repeat_overflow Tryz.lays105 s c w hc hs hbig
open Go.RowKit Go.Lib in
/-- **strings.Repeat: count ≥ 0, the result within one allocation: count copies of s.** (LAID: no walk: one application.) -/
theorem Tryz.strings_Repeat (s : ByteArray) (c : Nat) (w : World) (hc : c ≤ 9223372036854775807) (hlen : s.size * c ≤ 140737488355328) :
    Calls Tryz.prog 158 #[.string s, .int .i64 c] w fun e w' => e = .returned (.string ⟨(Lib.repeatL s.data.toList c).toArray⟩) ∧ Below w.heap.size w w' := Any.strings_Repeat Tryz.lays105 Tryz.Builder_Extra_105 s c w hc hlen
def Tryz.lays260_ren : Go.Shelf.Ren := ⟨fun | 260 => 256 | n => n, fun | 9 => 9 | 21 => 21 | 3 => 3 | 4 => 4 | 5 => 5 | 119 => 179 | 0 => 0 | 46 => 134 | 139 => 211 | 138 => 210 | n => n, fun | 3 => 3 | 4 => 4 | n => n⟩
theorem Tryz.lays260 : Go.Proofs.Lays.n260 Tryz.prog Tryz.lays260_ren := {
  mixed := by kernel_rfl
  f260 := Tryz.func256.trans (congrArg some (by kernel_rfl))
  t0 := Tryz.underlying0
  a0 := Tryz.isAgg0
  z0 := Tryz.sizeOf0
  v0 := Tryz.zeroValue0
  t3 := Tryz.underlying3
  a3 := Tryz.isAgg3
  z3 := Tryz.sizeOf3
  v3 := Tryz.zeroValue3
  t4 := Tryz.underlying4
  a4 := Tryz.isAgg4
  z4 := Tryz.sizeOf4
  v4 := Tryz.zeroValue4
  t5 := Tryz.underlying5
  a5 := Tryz.isAgg5
  z5 := Tryz.sizeOf5
  v5 := Tryz.zeroValue5
  t9 := Tryz.underlying9
  a9 := Tryz.isAgg9
  z9 := Tryz.sizeOf9
  v9 := Tryz.zeroValue9
  t21 := Tryz.underlying21
  a21 := Tryz.isAgg21
  z21 := Tryz.sizeOf21
  v21 := Tryz.zeroValue21
  t46 := Tryz.underlying134
  a46 := Tryz.isAgg134
  z46 := Tryz.sizeOf134
  v46 := Tryz.zeroValue134
  t119 := Tryz.underlying179
  a119 := Tryz.isAgg179
  z119 := Tryz.sizeOf179
  t138 := Tryz.underlying210
  a138 := Tryz.isAgg210
  z138 := Tryz.sizeOf210
  v138 := Tryz.zeroValue210
  t139 := Tryz.underlying211
  a139 := Tryz.isAgg211
  z139 := Tryz.sizeOf211
  v139 := Tryz.zeroValue211
  g3 := by kernel_rfl
  g4 := by kernel_rfl }
open Go.RowKit Go.Lib in
theorem Tryz.utf8_decodeRuneInStringSlow (s : ByteArray) (w : World) (hT : Lib.Utf8Tabs 3 4 w) :
    Calls Tryz.prog 256 #[.string s] w fun e w' => e = .returned (.tuple #[.int .i32 (Lib.decodeGo s).1, .int .i64 (Lib.decodeGo s).2]) ∧ Below w.heap.size w w' := Any.utf8_decodeRuneInStringSlow Tryz.lays260 s w hT
open Go.RowKit Go.Lib in
/-- **unicode/utf8.DecodeRuneInString AT EVERY STRING.** (LAID: no walk: one application.) -/
theorem Tryz.utf8_DecodeRuneInString (s : ByteArray) (w : World) (hT : Lib.Utf8Tabs 3 4 w) :
    Calls Tryz.prog 216 #[.string s] w fun e w' => e = .returned (.tuple #[.int .i32 (Lib.decodeGo s).1, .int .i64 (Lib.decodeGo s).2]) ∧ Below w.heap.size w w' := Any.utf8_DecodeRuneInString Tryz.lays197 s w hT
def Tryz.lays311_ren : Go.Shelf.Ren := ⟨fun | 311 => 292 | n => n, fun | 193 => 216 | 49 => 220 | 4 => 4 | 3 => 3 | 0 => 0 | 226 => 232 | 198 => 222 | 46 => 134 | n => n, fun | n => n⟩
theorem Tryz.lays311 : Go.Proofs.Lays.n311 Tryz.prog Tryz.lays311_ren := {
  mixed := by kernel_rfl
  f311 := Tryz.func292.trans (congrArg some (by kernel_rfl))
  t0 := Tryz.underlying0
  a0 := Tryz.isAgg0
  z0 := Tryz.sizeOf0
  v0 := Tryz.zeroValue0
  t3 := Tryz.underlying3
  a3 := Tryz.isAgg3
  z3 := Tryz.sizeOf3
  v3 := Tryz.zeroValue3
  t4 := Tryz.underlying4
  a4 := Tryz.isAgg4
  z4 := Tryz.sizeOf4
  v4 := Tryz.zeroValue4
  t46 := Tryz.underlying134
  a46 := Tryz.isAgg134
  z46 := Tryz.sizeOf134
  v46 := Tryz.zeroValue134
  t49 := Tryz.underlying220
  a49 := Tryz.isAgg220
  z49 := Tryz.sizeOf220
  v49 := Tryz.zeroValue220
  t193 := Tryz.underlying216
  a193 := Tryz.isAgg216
  z193 := Tryz.sizeOf216
  v193 := Tryz.zeroValue216
  t198 := Tryz.underlying222
  a198 := Tryz.isAgg222
  z198 := Tryz.sizeOf222
  v198 := Tryz.zeroValue222
  t226 := Tryz.underlying232
  a226 := Tryz.isAgg232
  z226 := Tryz.sizeOf232
  v226 := Tryz.zeroValue232 }
open Go.RowKit Go.Lib in
theorem Tryz.unicode_is16_white (R oR : Nat) (z : Nat) (w : World) (hz : z < 65536) (hz0 : 255 < z) (c6 : w.cell? ⟨R, oR + 6, none⟩ = some (.int .u16 160)) (c7 : w.cell? ⟨R, oR + 7, none⟩ = some (.int .u16 5760)) (c8 : w.cell? ⟨R, oR + 8, none⟩ = some (.int .u16 5600)) (c9 : w.cell? ⟨R, oR + 9, none⟩ = some (.int .u16 8192)) (c10 : w.cell? ⟨R, oR + 10, none⟩ = some (.int .u16 8202)) (c11 : w.cell? ⟨R, oR + 11, none⟩ = some (.int .u16 1)) (c12 : w.cell? ⟨R, oR + 12, none⟩ = some (.int .u16 8232)) (c13 : w.cell? ⟨R, oR + 13, none⟩ = some (.int .u16 8233)) (c14 : w.cell? ⟨R, oR + 14, none⟩ = some (.int .u16 1)) (c15 : w.cell? ⟨R, oR + 15, none⟩ = some (.int .u16 8239)) (c16 : w.cell? ⟨R, oR + 16, none⟩ = some (.int .u16 8287)) (c17 : w.cell? ⟨R, oR + 17, none⟩ = some (.int .u16 48)) (c18 : w.cell? ⟨R, oR + 18, none⟩ = some (.int .u16 12288)) (c19 : w.cell? ⟨R, oR + 19, none⟩ = some (.int .u16 12288)) (c20 : w.cell? ⟨R, oR + 20, none⟩ = some (.int .u16 1)) :
    Calls Tryz.prog 292 #[.slice (some ⟨R, oR + 6, none⟩) 5 5, .int .u16 z] w fun e w' => e = .returned (.bool (Lib.isSpaceR z)) ∧ Below w.heap.size w w' := Any.unicode_is16_white Tryz.lays311 R oR z w hz hz0 c6 c7 c8 c9 c10 c11 c12 c13 c14 c15 c16 c17 c18 c19 c20
def Tryz.lays261_ren : Go.Shelf.Ren := ⟨fun | 261 => 269 | 311 => 292 | 312 => 293 | n => n, fun | 141 => 200 | 21 => 21 | 4 => 4 | 0 => 0 | 196 => 219 | 193 => 216 | 3 => 3 | 51 => 164 | 198 => 222 | 49 => 220 | 194 => 217 | 201 => 225 | 226 => 232 | 46 => 134 | 227 => 233 | n => n, fun | n => n⟩
theorem Tryz.lays261 : Go.Proofs.Lays.n261 Tryz.prog Tryz.lays261_ren := {
  mixed := by kernel_rfl
  f261 := Tryz.func269.trans (congrArg some (by kernel_rfl))
  f311 := Tryz.func292.trans (congrArg some (by kernel_rfl))
  f312 := Tryz.func293.trans (congrArg some (by kernel_rfl))
  t0 := Tryz.underlying0
  a0 := Tryz.isAgg0
  z0 := Tryz.sizeOf0
  v0 := Tryz.zeroValue0
  t3 := Tryz.underlying3
  a3 := Tryz.isAgg3
  z3 := Tryz.sizeOf3
  v3 := Tryz.zeroValue3
  t4 := Tryz.underlying4
  a4 := Tryz.isAgg4
  z4 := Tryz.sizeOf4
  v4 := Tryz.zeroValue4
  t21 := Tryz.underlying21
  a21 := Tryz.isAgg21
  z21 := Tryz.sizeOf21
  v21 := Tryz.zeroValue21
  t46 := Tryz.underlying134
  a46 := Tryz.isAgg134
  z46 := Tryz.sizeOf134
  v46 := Tryz.zeroValue134
  t49 := Tryz.underlying220
  a49 := Tryz.isAgg220
  z49 := Tryz.sizeOf220
  v49 := Tryz.zeroValue220
  t51 := Tryz.underlying164
  a51 := Tryz.isAgg164
  z51 := Tryz.sizeOf164
  v51 := Tryz.zeroValue164
  t141 := Tryz.underlying200
  a141 := Tryz.isAgg200
  z141 := Tryz.sizeOf200
  v141 := Tryz.zeroValue200
  t193 := Tryz.underlying216
  a193 := Tryz.isAgg216
  z193 := Tryz.sizeOf216
  v193 := Tryz.zeroValue216
  t194 := Tryz.underlying217
  a194 := Tryz.isAgg217
  z194 := Tryz.sizeOf217
  v194 := Tryz.zeroValue217
  t196 := Tryz.underlying219
  a196 := Tryz.isAgg219
  z196 := Tryz.sizeOf219
  v196 := Tryz.zeroValue219
  t198 := Tryz.underlying222
  a198 := Tryz.isAgg222
  z198 := Tryz.sizeOf222
  v198 := Tryz.zeroValue222
  t201 := Tryz.underlying225
  a201 := Tryz.isAgg225
  z201 := Tryz.sizeOf225
  v201 := Tryz.zeroValue225
  t226 := Tryz.underlying232
  a226 := Tryz.isAgg232
  z226 := Tryz.sizeOf232
  v226 := Tryz.zeroValue232
  t227 := Tryz.underlying233
  a227 := Tryz.isAgg233
  z227 := Tryz.sizeOf233
  v227 := Tryz.zeroValue233 }
open Go.RowKit Go.Lib in
/-- unicode.isExcludingLatin(White_Space, r), r beyond U+00FF or negative. (LAID: no walk: one application.) -/
theorem Tryz.unicode_isExcludingLatin_white (T oT R oR : Nat) (r : Int) (w : World) (hlo : -2147483648 ≤ r) (hhi : r ≤ 2147483647) (hr : r < 0 ∨ 255 < r) (h2 : w.cell? ⟨T, oT, none⟩ = some (.slice (some ⟨R, oR, none⟩) 7 7)) (h3 : w.cell? ⟨T, oT + 1, none⟩ = some (.slice none 0 0)) (h4 : w.cell? ⟨T, oT + 2, none⟩ = some (.int .i64 2)) (h5 : ∀ i, i < 21 → w.cell? ⟨R, oR + i, none⟩ = some (.int .u16 (whiteT.getD i 0))) :
    Calls Tryz.prog 269 #[.pointer (some ⟨T, oT, none⟩), .int .i32 r] w fun e w' => e = .returned (.bool (Lib.isSpaceZ r)) ∧ Below w.heap.size w w' := Any.unicode_isExcludingLatin_white Tryz.lays261 T oT R oR r w hlo hhi hr h2 h3 h4 h5
open Go.RowKit Go.Lib in
/-- **unicode.IsSpace AT EVERY int32.** (LAID: no walk: one application.) -/
theorem Tryz.unicode_IsSpace_any (r : Int) (w : World) (hlo : -2147483648 ≤ r) (hhi : r ≤ 2147483647) (hW : Lib.WhiteTab 2 w) :
    Calls Tryz.prog 241 #[.int .i32 r] w fun e w' => e = .returned (.bool (Lib.isSpaceZ r)) ∧ Below w.heap.size w w' := Any.unicode_IsSpace_any Tryz.lays199 r w hlo hhi hW
open Go.RowKit Go.Lib in
theorem Tryz.unicode_is16_white_d (R oR : Nat) (z : Nat) (w : World) (hz : z < 65536) (hz0 : 255 < z) (c6 : w.cell? ⟨R, oR + 6, none⟩ = some (.int .u16 160)) (c7 : w.cell? ⟨R, oR + 7, none⟩ = some (.int .u16 5760)) (c8 : w.cell? ⟨R, oR + 8, none⟩ = some (.int .u16 5600)) (c9 : w.cell? ⟨R, oR + 9, none⟩ = some (.int .u16 8192)) (c10 : w.cell? ⟨R, oR + 10, none⟩ = some (.int .u16 8202)) (c11 : w.cell? ⟨R, oR + 11, none⟩ = some (.int .u16 1)) (c12 : w.cell? ⟨R, oR + 12, none⟩ = some (.int .u16 8232)) (c13 : w.cell? ⟨R, oR + 13, none⟩ = some (.int .u16 8233)) (c14 : w.cell? ⟨R, oR + 14, none⟩ = some (.int .u16 1)) (c15 : w.cell? ⟨R, oR + 15, none⟩ = some (.int .u16 8239)) (c16 : w.cell? ⟨R, oR + 16, none⟩ = some (.int .u16 8287)) (c17 : w.cell? ⟨R, oR + 17, none⟩ = some (.int .u16 48)) (c18 : w.cell? ⟨R, oR + 18, none⟩ = some (.int .u16 12288)) (c19 : w.cell? ⟨R, oR + 19, none⟩ = some (.int .u16 12288)) (c20 : w.cell? ⟨R, oR + 20, none⟩ = some (.int .u16 1)) :
    Calls Tryz.prog 292 #[.slice (some ⟨R, oR + 6, none⟩) 5 5, .int .u16 z] w fun e w' => e = .returned (.bool (Lib.isSpaceR z)) ∧ ∃ q, w' = w.drewN q := Any.unicode_is16_white_d Tryz.lays311 R oR z w hz hz0 c6 c7 c8 c9 c10 c11 c12 c13 c14 c15 c16 c17 c18 c19 c20
open Go.RowKit Go.Lib in
/-- unicode.isExcludingLatin(White_Space, r), r beyond U+00FF or negative. (LAID: no walk: one application.) -/
theorem Tryz.unicode_isExcludingLatin_white_d (T oT R oR : Nat) (r : Int) (w : World) (hlo : -2147483648 ≤ r) (hhi : r ≤ 2147483647) (hr : r < 0 ∨ 255 < r) (h2 : w.cell? ⟨T, oT, none⟩ = some (.slice (some ⟨R, oR, none⟩) 7 7)) (h3 : w.cell? ⟨T, oT + 1, none⟩ = some (.slice none 0 0)) (h4 : w.cell? ⟨T, oT + 2, none⟩ = some (.int .i64 2)) (h5 : ∀ i, i < 21 → w.cell? ⟨R, oR + i, none⟩ = some (.int .u16 (whiteT.getD i 0))) :
    Calls Tryz.prog 269 #[.pointer (some ⟨T, oT, none⟩), .int .i32 r] w fun e w' => e = .returned (.bool (Lib.isSpaceZ r)) ∧ ∃ q, w' = w.drewN q := Any.unicode_isExcludingLatin_white_d Tryz.lays261 T oT R oR r w hlo hhi hr h2 h3 h4 h5
open Go.RowKit Go.Lib in
/-- **unicode.IsSpace AT EVERY int32.** (LAID: no walk: one application.) -/
theorem Tryz.unicode_IsSpace_any_d (r : Int) (w : World) (hlo : -2147483648 ≤ r) (hhi : r ≤ 2147483647) (hW : Lib.WhiteTab 2 w) :
    Calls Tryz.prog 241 #[.int .i32 r] w fun e w' => e = .returned (.bool (Lib.isSpaceZ r)) ∧ ∃ q, w' = w.drewN q := Any.unicode_IsSpace_any_d Tryz.lays199 r w hlo hhi hW
open Go.RowKit Go.Lib in
theorem Tryz.strings_Fields_beyond (s : ByteArray) (w : World) (hs : s.size < 4294967281) (hhigh : ∃ (j : Nat) (b : UInt8), s.data.toList[j]? = some b ∧ 128 ≤ b.toNat) (hT : ∀ c : Nat, c < 256 → w.cell? ⟨0, c, none⟩ = some (.int .u8 (if Lib.isSp (UInt8.ofNat c) then 1 else 0))) (hW : Lib.WhiteTab 2 w) :
    Calls Tryz.prog 202 #[.string s] w fun e w' => ∃ A, e = .returned (.slice (some ⟨A, 0, none⟩) (Lib.goFieldsP Lib.isSpaceR s).length (Lib.goFieldsP Lib.isSpaceR s).length) ∧ w.heap.size ≤ A ∧
      w'.ownsRow w.heap.size 9 1 (.slice (some ⟨A, 0, none⟩) (Lib.goFieldsP Lib.isSpaceR s).length (Lib.goFieldsP Lib.isSpaceR s).length) (Lib.goFieldsP Lib.isSpaceR s).length ((Lib.goFieldsP Lib.isSpaceR s).map Value.string) ∧ Below w.heap.size w w' := Any.strings_Fields_beyond Tryz.lays157 (by kernel_rfl) (by kernel_rfl) s w hs hhigh hT hW
open Go.RowKit Go.Lib in
/-- **strings.Fields AT EVERY STRING, VALID UTF-8 OR NOT.** (LAID: no walk: one application.) -/
theorem Tryz.strings_Fields_any (s : ByteArray) (w : World) (hs : s.size < 4294967281) (htab : Lib.TabIs Tryz.prog w "strings.asciiSpace" .u8 Lib.asciiSpaceTab) (hW : Lib.WhiteTab 2 w) :
    Calls Tryz.prog 202 #[.string s] w fun e w' => ∃ A, e = .returned (.slice (some ⟨A, 0, none⟩) (Lib.fieldsD s.data.toList).length (Lib.fieldsD s.data.toList).length) ∧ w.heap.size ≤ A ∧
      w'.ownsRow w.heap.size 9 1 (.slice (some ⟨A, 0, none⟩) (Lib.fieldsD s.data.toList).length (Lib.fieldsD s.data.toList).length) (Lib.fieldsD s.data.toList).length ((Lib.fieldsD s.data.toList).map fun x => Value.string ⟨x.toArray⟩) ∧ Below w.heap.size w w' := Any.strings_Fields_any Tryz.lays157 (by kernel_rfl) (by kernel_rfl) (by kernel_rfl) s w hs htab hW
def Tryz.lays229_ren : Go.Shelf.Ren := ⟨fun | 229 => 240 | n => n, fun | 9 => 9 | 40 => 181 | 31 => 27 | 152 => 196 | 3 => 3 | 0 => 0 | 4 => 4 | 21 => 21 | 154 => 198 | n => n, fun | n => n⟩
theorem Tryz.lays229 : Go.Proofs.Lays.n229 Tryz.prog Tryz.lays229_ren := {
  mixed := by kernel_rfl
  f229 := Tryz.func240.trans (congrArg some (by kernel_rfl))
  t0 := Tryz.underlying0
  a0 := Tryz.isAgg0
  z0 := Tryz.sizeOf0
  v0 := Tryz.zeroValue0
  t3 := Tryz.underlying3
  a3 := Tryz.isAgg3
  z3 := Tryz.sizeOf3
  v3 := Tryz.zeroValue3
  t4 := Tryz.underlying4
  a4 := Tryz.isAgg4
  z4 := Tryz.sizeOf4
  v4 := Tryz.zeroValue4
  t9 := Tryz.underlying9
  a9 := Tryz.isAgg9
  z9 := Tryz.sizeOf9
  v9 := Tryz.zeroValue9
  t21 := Tryz.underlying21
  a21 := Tryz.isAgg21
  z21 := Tryz.sizeOf21
  v21 := Tryz.zeroValue21
  t31 := Tryz.underlying27
  a31 := Tryz.isAgg27
  z31 := Tryz.sizeOf27
  v31 := Tryz.zeroValue27
  t40 := Tryz.underlying181
  a40 := Tryz.isAgg181
  z40 := Tryz.sizeOf181
  v40 := Tryz.zeroValue181
  t152 := Tryz.underlying196
  a152 := Tryz.isAgg196
  z152 := Tryz.sizeOf196
  v152 := Tryz.zeroValue196
  t154 := Tryz.underlying198
  a154 := Tryz.isAgg198
  z154 := Tryz.sizeOf198
  v154 := Tryz.zeroValue198 }
open Go.RowKit Go.Lib in
theorem Tryz.strings_FieldsFunc_runes (g : Nat) (lb : Array Value) (eg : ∀ args w, (callFunc g args).run Tryz.prog w = .ok (.enter g args) w) (p : Nat → Bool) (s : ByteArray) (w : World) (hs : s.size ≤ 4294967296) (hp : PredAtRunes Tryz.prog g lb p w) :
    Calls Tryz.prog 240 #[.string s, .func (.func g) #[] lb] w fun e w' => ∃ A, e = .returned (.slice (some ⟨A, 0, none⟩) (Lib.goFieldsP p s).length (Lib.goFieldsP p s).length) ∧ w.heap.size ≤ A ∧
      w'.ownsRow w.heap.size 9 1 (.slice (some ⟨A, 0, none⟩) (Lib.goFieldsP p s).length (Lib.goFieldsP p s).length) (Lib.goFieldsP p s).length ((Lib.goFieldsP p s).map Value.string) ∧ Below w.heap.size w w' := Any.strings_FieldsFunc_runes Tryz.lays229 g lb eg p s w hs hp (by kernel_rfl) (by kernel_rfl)
open Go.RowKit Go.Lib in
/-- .. over a hand of the authors' house's premise as it stands. (LAID: no walk: one application.) -/
theorem Tryz.strings_FieldsFunc (g : Nat) (lb : Array Value) (eg : ∀ args w, (callFunc g args).run Tryz.prog w = .ok (.enter g args) w) (p : Nat → Bool) (s : ByteArray) (w : World) (hs : s.size ≤ 4294967296) (hp : PredAt Tryz.prog g lb encR p w) :
    Calls Tryz.prog 240 #[.string s, .func (.func g) #[] lb] w fun e w' => ∃ A, e = .returned (.slice (some ⟨A, 0, none⟩) (Lib.goFieldsP p s).length (Lib.goFieldsP p s).length) ∧ w.heap.size ≤ A ∧
      w'.ownsRow w.heap.size 9 1 (.slice (some ⟨A, 0, none⟩) (Lib.goFieldsP p s).length (Lib.goFieldsP p s).length) (Lib.goFieldsP p s).length ((Lib.goFieldsP p s).map Value.string) ∧ Below w.heap.size w w' := Any.strings_FieldsFunc Tryz.lays229 g lb eg p s w hs hp (by kernel_rfl) (by kernel_rfl)
open Go.RowKit Go.Lib in
theorem Tryz.unicode_is16_any (T : Array Rg) (R oR cap : Nat) (z : Nat) (w : World) (hz : z < 65536) (hT : RgTab .u16 R oR T w) (hok : RgOk 65536 T) (hn : T.size ≤ 1000000000) :
    Calls Tryz.prog 292 #[.slice (some ⟨R, oR, none⟩) T.size cap, .int .u16 z] w fun e w' => e = .returned (.bool (is16Go T z)) ∧ ∃ q, w' = w.drewN q := Any.unicode_is16_any Tryz.lays311 T R oR cap z w hz hT hok hn
def Tryz.lays312_ren : Go.Shelf.Ren := ⟨fun | 312 => 293 | n => n, fun | 194 => 217 | 51 => 164 | 4 => 4 | 3 => 3 | 0 => 0 | 227 => 233 | 201 => 225 | 46 => 134 | n => n, fun | n => n⟩
theorem Tryz.lays312 : Go.Proofs.Lays.n312 Tryz.prog Tryz.lays312_ren := {
  mixed := by kernel_rfl
  f312 := Tryz.func293.trans (congrArg some (by kernel_rfl))
  t0 := Tryz.underlying0
  a0 := Tryz.isAgg0
  z0 := Tryz.sizeOf0
  v0 := Tryz.zeroValue0
  t3 := Tryz.underlying3
  a3 := Tryz.isAgg3
  z3 := Tryz.sizeOf3
  v3 := Tryz.zeroValue3
  t4 := Tryz.underlying4
  a4 := Tryz.isAgg4
  z4 := Tryz.sizeOf4
  v4 := Tryz.zeroValue4
  t46 := Tryz.underlying134
  a46 := Tryz.isAgg134
  z46 := Tryz.sizeOf134
  v46 := Tryz.zeroValue134
  t51 := Tryz.underlying164
  a51 := Tryz.isAgg164
  z51 := Tryz.sizeOf164
  v51 := Tryz.zeroValue164
  t194 := Tryz.underlying217
  a194 := Tryz.isAgg217
  z194 := Tryz.sizeOf217
  v194 := Tryz.zeroValue217
  t201 := Tryz.underlying225
  a201 := Tryz.isAgg225
  z201 := Tryz.sizeOf225
  v201 := Tryz.zeroValue225
  t227 := Tryz.underlying233
  a227 := Tryz.isAgg233
  z227 := Tryz.sizeOf233
  v227 := Tryz.zeroValue233 }
open Go.RowKit Go.Lib in
theorem Tryz.unicode_is32_any (T : Array Rg) (R oR cap : Nat) (z : Nat) (w : World) (hz : z < 4294967296) (hT : RgTab .u32 R oR T w) (hok : RgOk 4294967296 T) (hn : T.size ≤ 1000000000) :
    Calls Tryz.prog 293 #[.slice (some ⟨R, oR, none⟩) T.size cap, .int .u32 z] w fun e w' => e = .returned (.bool (is32Go T z)) ∧ Below w.heap.size w w' := Any.unicode_is32_any Tryz.lays312 T R oR cap z w hz hT hok hn
open Go.RowKit Go.Lib in
theorem Tryz.unicode_isExcludingLatin_any (Tb oT : Nat) (T : RTab) (r : Int) (w : World) (hlo : -2147483648 ≤ r) (hhi : r ≤ 2147483647) (hA : RTabAt Tb oT T w) (hok : RTabOk T) :
    Calls Tryz.prog 269 #[.pointer (some ⟨Tb, oT, none⟩), .int .i32 r] w fun e w' => e = .returned (.bool (exclGo T r)) ∧ Below w.heap.size w w' := Any.unicode_isExcludingLatin_any Tryz.lays261 Tb oT T r w hlo hhi hA hok
def Tryz.lays108_ren : Go.Shelf.Ren := ⟨fun | 108 => 291 | n => n, fun | 28 => 135 | 3 => 3 | 0 => 0 | 4 => 4 | n => n, fun | n => n⟩
theorem Tryz.lays108 : Go.Proofs.Lays.n108 Tryz.prog Tryz.lays108_ren := {
  mixed := by kernel_rfl
  f108 := Tryz.func291.trans (congrArg some (by kernel_rfl))
  t0 := Tryz.underlying0
  a0 := Tryz.isAgg0
  z0 := Tryz.sizeOf0
  v0 := Tryz.zeroValue0
  t3 := Tryz.underlying3
  a3 := Tryz.isAgg3
  z3 := Tryz.sizeOf3
  v3 := Tryz.zeroValue3
  t4 := Tryz.underlying4
  a4 := Tryz.isAgg4
  z4 := Tryz.sizeOf4
  v4 := Tryz.zeroValue4
  t28 := Tryz.underlying135
  a28 := Tryz.isAgg135
  z28 := Tryz.sizeOf135
  v28 := Tryz.zeroValue135 }
open Go.Lib in
/-- slices.Index at []int: "Index returns the index of the first occurrence of v in s, or -1 if not present.": IT RETURNS 'Lib.idxOf (the elements) v'; the world is as it was. 'zs': what the cells behind the slice's address hold (its spare capacity too, if you have it); 'zs.take n': its elements. (LAID: no walk: one application.) -/
theorem Tryz.slices_Index_int (b off n c : Nat) (zs : List Int) (x : Int) (w : World) (hz : n ≤ zs.length) (hbig : n ≤ 9223372036854775807) (hc : ∀ j, j < zs.length → w.cell? ⟨b, off + j, none⟩ = some (.int .i64 (zs.getD j 0))) :
    Calls Tryz.prog 291 #[.slice (some ⟨b, off, none⟩) n c, .int .i64 x] w fun e w' => e = .returned (.int .i64 (Lib.idxOf (zs.take n) x)) ∧ w' = w := Any.slices_Index_int Tryz.lays108 b off n c zs x w hz hbig hc
open Go.Lib in
/-- The same at a slice of length 0, a nil one too: no cell is known, none is asked for. (LAID: no walk: one application.) -/
theorem Tryz.slices_Index_int_empty (a : Option Addr) (c : Nat) (x : Int) (w : World) :
    Calls Tryz.prog 291 #[.slice a 0 c, .int .i64 x] w fun e w' => e = .returned (.int .i64 (Lib.idxOf [] x)) ∧ w' = w := Any.slices_Index_int_empty Tryz.lays108 a c x w
def Tryz.lays107_ren : Go.Shelf.Ren := ⟨fun | 107 => 266 | 108 => 291 | n => n, fun | 28 => 135 | 3 => 3 | 4 => 4 | 0 => 0 | n => n, fun | n => n⟩
theorem Tryz.lays107 : Go.Proofs.Lays.n107 Tryz.prog Tryz.lays107_ren := {
  mixed := by kernel_rfl
  f107 := Tryz.func266.trans (congrArg some (by kernel_rfl))
  f108 := Tryz.func291.trans (congrArg some (by kernel_rfl))
  t0 := Tryz.underlying0
  a0 := Tryz.isAgg0
  z0 := Tryz.sizeOf0
  v0 := Tryz.zeroValue0
  t3 := Tryz.underlying3
  a3 := Tryz.isAgg3
  z3 := Tryz.sizeOf3
  v3 := Tryz.zeroValue3
  t4 := Tryz.underlying4
  a4 := Tryz.isAgg4
  z4 := Tryz.sizeOf4
  v4 := Tryz.zeroValue4
  t28 := Tryz.underlying135
  a28 := Tryz.isAgg135
  z28 := Tryz.sizeOf135
  v28 := Tryz.zeroValue135 }
open Go.Lib in
/-- slices.Contains at []int: "Contains reports whether v is present in s.": IT RETURNS 'elements.contains v'; the world is as it was. ITS CALLEE slices.Index IS MET BY ITS OWN CONTRACT OFF THE SHELF (lay that first): no loop is walked here. (LAID: no walk: one application.) -/
theorem Tryz.slices_Contains_int (b off n c : Nat) (zs : List Int) (x : Int) (w : World) (hz : n ≤ zs.length) (hbig : n ≤ 9223372036854775807) (hc : ∀ j, j < zs.length → w.cell? ⟨b, off + j, none⟩ = some (.int .i64 (zs.getD j 0))) :
    Calls Tryz.prog 266 #[.slice (some ⟨b, off, none⟩) n c, .int .i64 x] w fun e w' => e = .returned (.bool ((zs.take n).contains x)) ∧ w' = w := Any.slices_Contains_int Tryz.lays107 b off n c zs x w hz hbig hc
open Go.Lib in
/-- The same at a slice of length 0, a nil one too. (LAID: no walk: one application.) -/
theorem Tryz.slices_Contains_int_empty (a : Option Addr) (c : Nat) (x : Int) (w : World) :
    Calls Tryz.prog 266 #[.slice a 0 c, .int .i64 x] w fun e w' => e = .returned (.bool false) ∧ w' = w := Any.slices_Contains_int_empty Tryz.lays107 a c x w
def Tryz.lays109_ren : Go.Shelf.Ren := ⟨fun | 109 => 164 | n => n, fun | 31 => 27 | 9 => 9 | 3 => 3 | 0 => 0 | 4 => 4 | n => n, fun | n => n⟩
theorem Tryz.lays109 : Go.Proofs.Lays.n109 Tryz.prog Tryz.lays109_ren := {
  mixed := by kernel_rfl
  f109 := Tryz.func164.trans (congrArg some (by kernel_rfl))
  t0 := Tryz.underlying0
  a0 := Tryz.isAgg0
  z0 := Tryz.sizeOf0
  v0 := Tryz.zeroValue0
  t3 := Tryz.underlying3
  a3 := Tryz.isAgg3
  z3 := Tryz.sizeOf3
  v3 := Tryz.zeroValue3
  t4 := Tryz.underlying4
  a4 := Tryz.isAgg4
  z4 := Tryz.sizeOf4
  v4 := Tryz.zeroValue4
  t9 := Tryz.underlying9
  a9 := Tryz.isAgg9
  z9 := Tryz.sizeOf9
  v9 := Tryz.zeroValue9
  t31 := Tryz.underlying27
  a31 := Tryz.isAgg27
  z31 := Tryz.sizeOf27
  v31 := Tryz.zeroValue27 }
open Go.Lib in
/-- slices.Index at []string: "Index returns the index of the first occurrence of v in s, or -1 if not present.": IT RETURNS 'Lib.idxOfS (the elements) v'; the world is as it was. 'zs': what the cells behind the slice's address hold (its spare capacity too, if you have it); 'zs.take n': its elements. (LAID: no walk: one application.) -/
theorem Tryz.slices_Index_string (b off n c : Nat) (zs : List ByteArray) (x : ByteArray) (w : World) (hz : n ≤ zs.length) (hbig : n ≤ 9223372036854775807) (hc : ∀ j, j < zs.length → w.cell? ⟨b, off + j, none⟩ = some (.string (zs.getD j ByteArray.empty))) :
    Calls Tryz.prog 164 #[.slice (some ⟨b, off, none⟩) n c, .string x] w fun e w' => e = .returned (.int .i64 (Lib.idxOfS (zs.take n) x)) ∧ w' = w := Any.slices_Index_string Tryz.lays109 b off n c zs x w hz hbig hc
open Go.Lib in
/-- The same at a slice of length 0, a nil one too: no cell is known, none is asked for. (LAID: no walk: one application.) -/
theorem Tryz.slices_Index_string_empty (a : Option Addr) (c : Nat) (x : ByteArray) (w : World) :
    Calls Tryz.prog 164 #[.slice a 0 c, .string x] w fun e w' => e = .returned (.int .i64 (Lib.idxOfS [] x)) ∧ w' = w := Any.slices_Index_string_empty Tryz.lays109 a c x w
def Tryz.lays110_ren : Go.Shelf.Ren := ⟨fun | 110 => 125 | 109 => 164 | n => n, fun | 31 => 27 | 9 => 9 | 4 => 4 | 3 => 3 | 0 => 0 | n => n, fun | n => n⟩
theorem Tryz.lays110 : Go.Proofs.Lays.n110 Tryz.prog Tryz.lays110_ren := {
  mixed := by kernel_rfl
  f109 := Tryz.func164.trans (congrArg some (by kernel_rfl))
  f110 := Tryz.func125.trans (congrArg some (by kernel_rfl))
  t0 := Tryz.underlying0
  a0 := Tryz.isAgg0
  z0 := Tryz.sizeOf0
  v0 := Tryz.zeroValue0
  t3 := Tryz.underlying3
  a3 := Tryz.isAgg3
  z3 := Tryz.sizeOf3
  v3 := Tryz.zeroValue3
  t4 := Tryz.underlying4
  a4 := Tryz.isAgg4
  z4 := Tryz.sizeOf4
  v4 := Tryz.zeroValue4
  t9 := Tryz.underlying9
  a9 := Tryz.isAgg9
  z9 := Tryz.sizeOf9
  v9 := Tryz.zeroValue9
  t31 := Tryz.underlying27
  a31 := Tryz.isAgg27
  z31 := Tryz.sizeOf27
  v31 := Tryz.zeroValue27 }
open Go.Lib in
/-- slices.Contains at []string: "Contains reports whether v is present in s.": IT RETURNS 'Lib.containsS (the elements) v', which is true just where v is among them ('Lib.containsS_iff'); the world is as it was. ITS CALLEE slices.Index IS MET BY ITS OWN CONTRACT OFF THE SHELF (lay that first): no loop is walked here. (LAID: no walk: one application.) -/
theorem Tryz.slices_Contains_string (b off n c : Nat) (zs : List ByteArray) (x : ByteArray) (w : World) (hz : n ≤ zs.length) (hbig : n ≤ 9223372036854775807) (hc : ∀ j, j < zs.length → w.cell? ⟨b, off + j, none⟩ = some (.string (zs.getD j ByteArray.empty))) :
    Calls Tryz.prog 125 #[.slice (some ⟨b, off, none⟩) n c, .string x] w fun e w' => e = .returned (.bool (Lib.containsS (zs.take n) x)) ∧ w' = w := Any.slices_Contains_string Tryz.lays110 b off n c zs x w hz hbig hc
open Go.Lib in
/-- The same at a slice of length 0, a nil one too. (LAID: no walk: one application.) -/
theorem Tryz.slices_Contains_string_empty (a : Option Addr) (c : Nat) (x : ByteArray) (w : World) :
    Calls Tryz.prog 125 #[.slice a 0 c, .string x] w fun e w' => e = .returned (.bool false) ∧ w' = w := Any.slices_Contains_string_empty Tryz.lays110 a c x w
end Go.Proofs
/-
  class.lower: a text in small letters (the bytes turn in a block of their own).
-/
set_option linter.unusedSimpArgs false
set_option linter.unusedVariables false
set_option maxRecDepth 1000000
namespace Tg.Lo
def low (b : UInt8) : UInt8 := if (65 : Int) ≤ b.toNat ∧ (b.toNat : Int) ≤ 90 then b + 32 else b
def lower (s : List UInt8) : List UInt8 := s.map low
end Tg.Lo
namespace Go.Proofs.YtombmblgmbjieaaGreatDoor
open Go.RowKit Go.Lib Go.Tg
theorem low_w (b : UInt8) (w : World) : Calls Tryz.prog 280 #[.int .u8 b.toNat] w fun e w' => e = .returned (.int .u8 (Tg.Lo.low b).toNat) ∧ w' = w := by
  have hlt := b.toNat_lt
  have e1 : (65 : Int) ≤ b.toNat ∧ (b.toNat : Int) ≤ 90 → (b + 32).toNat = b.toNat + 32 := fun h => by rw [UInt8.toNat_add]; show (b.toNat + 32) % 256 = _; omega
  by_cases h1 : (65 : Int) ≤ b.toNat
  · by_cases h2 : (b.toNat : Int) ≤ 90
    · have e := e1 ⟨h1, h2⟩
      have hl : (Tg.Lo.low b).toNat = b.toNat + 32 := by unfold Tg.Lo.low; rw [if_pos ⟨h1, h2⟩, e]
      rw [hl]
      go_enter Tryz.func280, Tryz.ntmps280
      go_wp2
      go_ret
      exact ⟨by rw [show ((b.toNat + 32 : Nat) : Int) = (b.toNat : Int) + 32 by omega]; rfl, rfl⟩
    · have hl : (Tg.Lo.low b).toNat = b.toNat := by unfold Tg.Lo.low; rw [if_neg (fun h => h2 h.2)]
      rw [hl]
      go_enter Tryz.func280, Tryz.ntmps280
      go_wp2
      go_ret
      exact ⟨rfl, rfl⟩
  · have hl : (Tg.Lo.low b).toNat = b.toNat := by unfold Tg.Lo.low; rw [if_neg (fun h => h1 h.1)]
    rw [hl]
    go_enter Tryz.func280, Tryz.ntmps280
    go_wp2
    go_ret
    exact ⟨rfl, rfl⟩
/-- the block as it is when i bytes are small -/
def LowAt (k : Nat) (s : List UInt8) (i : Nat) (w w' : World) : Prop :=
  ∃ arr f, w'.heap[k]? = some (.cells arr 5 (f, f + 1)) ∧ arr.size = f ∧ s.length ≤ f ∧ (∀ (j : Nat) b, s[j]? = some b → arr[j]? = some (.int .u8 (if j < i then (Tg.Lo.low b).toNat else b.toNat : Nat))) ∧ Change (fun _ => False) w w'
set_option maxHeartbeats 4000000 in
theorem lower_w (s : ByteArray) (w : World) (hs : s.size ≤ maxLen) : Calls Tryz.prog 327 #[.string s] w fun e w' => e = .returned (.string ⟨(Tg.Lo.lower s.data.toList).toArray⟩) ∧ Change (fun _ => False) w w' := by
  have t3 := Tryz.underlying3
  have t4 := Tryz.underlying4
  have t5 := Tryz.underlying5
  have t9 := Tryz.underlying9
  have t81 := Tryz.underlying57
  have hcv := Lib.run_convert_string_bytes w 9 57 5 s t9 t81 t5
  go_enter Tryz.func327, Tryz.ntmps327
  go_wp2
  go_loopg [9, 4] s.size (fun g p _ wr => ∃ i : Nat, i + g = s.size ∧ p = .int .i64 i ∧ LowAt w.heap.size s.data.toList i w wr)
  case atStart =>
    refine ⟨0, by omega, rfl, Lib.bytesCells w 5 s, (Lib.bytesCells w 5 s).size, Lib.bytesWorld_at_new w 5 s, rfl, ?_, ?_, ?_⟩
    · simp [Lib.bytesCells, ← Lib.size_eq]
    · intro j b hb
      have hj : j < s.size := by have := (List.getElem?_eq_some_iff.1 hb).1; rw [Lib.size_eq]; exact this
      unfold Lib.bytesCells
      rw [Array.getElem?_append_left (by simpa using hj), Array.getElem?_map, ← Array.getElem?_toList, hb]
      simp
    · refine ⟨?_, ?_, ?_, by rw [Lib.bytesWorld_size]; omega, fun k hk _ => Lib.bytesWorld_at_old w 5 s k hk⟩ <;> (unfold Lib.bytesWorld World.freeze; split <;> rfl)
  case round =>
    obtain ⟨i, hig, rfl, hlow⟩ := hrel
    have HL : Aside (LowAt w.heap.size s.data.toList i w wr) := hlow
    cases gk with
    | zero =>
      obtain rfl : i = s.size := by omega
      obtain ⟨arr, f, h1, h2, h3, h4, h5⟩ := hlow
      have hlen : (Tg.Lo.lower s.data.toList).length = s.size := by rw [Lib.size_eq]; simp [Tg.Lo.lower]
      have hcs := run_convert_bytes_back (P := Tryz.prog) wr 57 9 5 ⟨w.heap.size, 0, none⟩ (grownCap w s.size 0 5) (Tg.Lo.lower s.data.toList) t81 t5 t9 (fun j hj => by
        have hj2 : j < s.data.toList.length := by rw [Lib.size_eq] at hlen; omega
        have := h4 j _ (List.getElem?_eq_getElem hj2)
        rw [if_pos (by rw [Lib.size_eq]; exact hj2)] at this
        have e : ((⟨w.heap.size, 0, none⟩ : Addr).add j) = ⟨w.heap.size, j, none⟩ := by
          unfold Addr.add; split
          · rename_i hz; subst hz; rfl
          · simp
        rw [e]
        simp only [World.cell?, h1]
        rw [show (if (none : Option Nat).isSome = true then none else arr[j]?) = arr[j]? from rfl, this]
        simp [Tg.Lo.lower])
      rw [hlen] at hcs
      have HC : Aside (Change (fun _ => False) w wr) := h5
      clear h1 h2 h3 h4 h5 HL
      go_wp2
      go_ret
      exact ⟨rfl, HC.out⟩
    | succ g =>
      have hi : i < s.size := by omega
      obtain ⟨x, hx⟩ : ∃ x : UInt8, s[i]'hi = x := ⟨_, rfl⟩
      have hxl : s.data.toList[i]? = some x := by rw [← hx]; exact Lib.data_getElem? s i hi
      obtain ⟨arr, f, h1, h2, h3, h4, h5⟩ := hlow
      have hc := h4 i x hxl
      rw [if_neg (Nat.lt_irrefl i)] at hc
      have hcell : wr.cell? ⟨w.heap.size, i, none⟩ = some (.int .u8 x.toNat) := by simp [World.cell?, h1, hc]
      have hfz : wr.frozen? ⟨w.heap.size, i, none⟩ = false := by
        have : i < f := by rw [Lib.size_eq] at hi; omega
        simp [World.frozen?, h1]; omega
      have HL2 : Aside (LowAt w.heap.size s.data.toList (i + 1) w (wr.setCell ⟨w.heap.size, i, none⟩ (.int .u8 (Tg.Lo.low x).toNat))) := by
        refine ⟨arr.setIfInBounds i (.int .u8 (Tg.Lo.low x).toNat), f, by simp [World.setCell, Array.getElem?_modify, h1], by simp [h2], h3, fun j b hb => ?_, ?_⟩
        · by_cases hji : j = i
          · subst hji
            rw [hxl] at hb
            injection hb with hb
            subst hb
            rw [Array.getElem?_setIfInBounds_self_of_lt (by rw [Lib.size_eq] at hi; omega), if_pos (Nat.lt_succ_self _)]
          · rw [Array.getElem?_setIfInBounds_ne (fun e => hji e.symm), h4 j b hb]
            by_cases hj : j < i
            · rw [if_pos hj, if_pos (by omega)]
            · rw [if_neg hj, if_neg (by omega)]
        · refine ⟨h5.os, h5.tape, h5.output, by simp [World.setCell]; exact h5.size, fun k hk hn => ?_⟩
          rw [← h5.block k hk hn]
          simp only [World.setCell, Array.getElem?_modify]
          rw [if_neg (by omega)]
      have hw1 : wrap64 ((i : Int) + 1) = ((i + 1 : Nat) : Int) := by
        rw [IntWalk.wrap64_in _ ⟨by omega, by unfold maxLen at hs; omega⟩]; omega
      clear h1 h2 h3 h4 h5 hc hxl hx
      go_wp2_with (go_at_call 280; refine (low_w x _).mono ?_; rintro e w' ⟨rfl, hw⟩; rw [hw])
      go_roundg g
      case measure => omega
      case rel => exact ⟨i + 1, by omega, by rw [hw1], HL2.out⟩
end Go.Proofs.YtombmblgmbjieaaGreatDoor
/-
  strings.Builder: what its String, its copyCheck leave of the world, exactly.
-/
set_option linter.unusedSimpArgs false
set_option linter.unusedVariables false
set_option maxRecDepth 1000000
namespace Go.Proofs.YtombmblgmbjieaaGreatDoor
open Go.RowKit Go.Lib Go.Tg Go.Shelf
theorem change_freeze {w : World} {g n : Nat} : Change (fun k => k = g) w (w.freeze ⟨g, 0, none⟩ n) := by
  unfold World.freeze
  split
  · exact Change.refl _ w
  · refine ⟨rfl, rfl, rfl, by simp, fun k hk hn => ?_⟩
    simp only [Array.getElem?_modify]
    rw [if_neg (fun e => hn e.symm)]
theorem change_drew {S : Nat → Prop} {w : World} : Change S w w.drew := ⟨rfl, rfl, rfl, Nat.le_refl _, fun _ _ _ => rfl⟩
set_option maxHeartbeats 2000000 in
theorem bld_string (b g cap : Nat) (l : List UInt8) (cur : Array Value) (w : World) (h0 : l ≠ []) (hbk : w.cell? ⟨b, 1, none⟩ = some (.slice (some ⟨g, 0, none⟩) l.length cap))
    (hg : w.heap[g]? = some (.cells cur 5 (0, 0))) (hcap : l.length ≤ cap) (hcs : l.length ≤ cur.size) (hcm : l.length ≤ maxLen) (hcell : ∀ (j : Nat) x, l[j]? = some x → cur[j]? = some (.int .u8 x.toNat)) :
    Calls Tryz.prog 201 #[.pointer (some ⟨b, 0, none⟩)] w fun e w' => e = .returned (.string ⟨l.toArray⟩) ∧ Change (fun k => k = g) w w' := by
  have hl0 : l.length ≠ 0 := by simpa using h0
  have c1 : w.drew.cell? ⟨b, 1, none⟩ = some (.slice (some ⟨g, 0, none⟩) l.length cap) := hbk
  have hSD : (Builtin.unsafeSliceData_ #[57] 178 #[.slice (some ⟨g, 0, none⟩) l.length cap]).run Tryz.prog w.drew = .ok (.pointer (some ⟨g, 0, none⟩)) w.drew :=
    Lib.run_unsafeSliceData_row _ _ _ _ _ _ (by omega)
  have hUS : (Builtin.unsafeString_ #[178, 3] 9 #[.pointer (some ⟨g, 0, none⟩), .int .i64 l.length]).run Tryz.prog w.drew = .ok (.string ⟨l.toArray⟩) (w.drew.freeze ⟨g, 0, none⟩ l.length) := by
    refine Lib.run_unsafeString_row w.drew 178 3 9 5 Tryz.underlying178 (by kernel_rfl) g cur.size (by have hg' : w.drew.heap[g]? = some (.cells cur 5 (0, 0)) := hg; simp [World.shape?, hg']) l h0 (by omega) (by unfold maxLen at hcm; omega) ?_
    intro j x hx
    have hg' : w.drew.heap[g]? = some (.cells cur 5 (0, 0)) := hg
    have e : ((⟨g, 0, none⟩ : Addr).add j) = ⟨g, j, none⟩ := by
      unfold Addr.add; split
      · rename_i hz; subst hz; rfl
      · simp
    rw [e, Lib.cell_of_heap hg']; exact hcell j x hx
  have hmix : Tryz.prog.follows .mixedOrders = true := by kernel_rfl
  go_enter Tryz.func201, Tryz.ntmps201
  go_wp2
  go_region_o
  all_goals (go_wp2; go_ret; exact ⟨rfl, change_drew.trans change_freeze (fun _ h => .inl h)⟩)
set_option maxHeartbeats 2000000 in
theorem bld_string_nil (b : Nat) (w : World) (hbk : w.cell? ⟨b, 1, none⟩ = some (.slice none 0 0)) :
    Calls Tryz.prog 201 #[.pointer (some ⟨b, 0, none⟩)] w fun e w' => e = .returned (.string ⟨#[]⟩) ∧ Change (fun _ => False) w w' := by
  have c1 : w.drew.cell? ⟨b, 1, none⟩ = some (.slice none 0 0) := hbk
  have hSD : (Builtin.unsafeSliceData_ #[57] 178 #[.slice none 0 0]).run Tryz.prog w.drew = .ok (.pointer none) w.drew := Lib.run_unsafeSliceData_nil _ _ _ _ _
  have hUS : (Builtin.unsafeString_ #[178, 3] 9 #[.pointer none, .int .i64 0]).run Tryz.prog w.drew = .ok (.string .empty) w.drew := Lib.run_unsafeString_none _ _ _ _ _
  have hmix : Tryz.prog.follows .mixedOrders = true := by kernel_rfl
  go_enter Tryz.func201, Tryz.ntmps201
  go_wp2
  go_region_o
  all_goals (go_wp2; go_ret; exact ⟨rfl, change_drew⟩)
theorem bld_lies (k : Nat) : liesAt Tryz.prog Tryz.prog.depth 144 ((2 + k * 2) / Tryz.prog.cellsOf 144) 0 144 1 = true := by
  have h1 : Tryz.prog.cellsOf 144 = 2 := by kernel_rfl
  have h2 : sameLayout Tryz.prog Tryz.prog.depth 144 144 = true := by kernel_rfl
  obtain ⟨d, hd⟩ : ∃ d, Tryz.prog.depth = d + 1 := ⟨Tryz.prog.depth - 1, by have : Tryz.prog.depth ≠ 0 := of_decide_eq_true (by kernel_rfl); omega⟩
  rw [hd] at h2 ⊢
  have e : (2 + k * 2) / Tryz.prog.cellsOf 144 = k + 1 := by rw [h1]; omega
  rw [e]
  unfold liesAt
  rw [hd]
  unfold rowAt
  simp only [h1, h2]
  simp
theorem bld_used (b : Nat) (w : World) (h0 : w.cell? ⟨b, 0, none⟩ = some (.pointer (some ⟨b, 0, none⟩))) :
    Calls Tryz.prog 238 #[.pointer (some ⟨b, 0, none⟩)] w fun e w' => e = .returned (.tuple #[]) ∧ w' = w := by
  obtain ⟨j, hj, _⟩ : ∃ j, Tryz.prog.info? 144 = some j ∧ j.size = 2 := Option.map_eq_some_iff.1 (show (Tryz.prog.info? 144).map (·.size) = some 2 by kernel_rfl)
  go_enter Tryz.func238, Tryz.ntmps238
  go_wp2
  rw [Lib.run_neq_ptr_same w _ Tryz.underlying142 hj]
  go_wp2
  go_end0
  exact ⟨rfl, rfl⟩
theorem bld_fresh (b k : Nat) (w : World) (h0 : w.cell? ⟨b, 0, none⟩ = some (.pointer none)) (hsh : w.shape? b = some (144, 2 + k * 2)) (hfz : w.frozen? ⟨b, 0, none⟩ = false) :
    Calls Tryz.prog 238 #[.pointer (some ⟨b, 0, none⟩)] w fun e w' => e = .returned (.tuple #[]) ∧ w' = w.setCell ⟨b, 0, none⟩ (.pointer (some ⟨b, 0, none⟩)) := by
  obtain ⟨j, hj, hjs⟩ : ∃ j, Tryz.prog.info? 144 = some j ∧ j.size = 2 := Option.map_eq_some_iff.1 (show (Tryz.prog.info? 144).map (·.size) = some 2 by kernel_rfl)
  go_enter Tryz.func238, Tryz.ntmps238
  go_wp2
  rw [Lib.run_to_unsafe w ⟨b, 0, none⟩ Tryz.underlying142 Tryz.underlying193 hj (by rw [hjs]; decide) hsh (show 0 < 2 + k * 2 by omega)]
  simp only [Result.andThen]
  rw [Oper.upon_value]
  go_wp2
  rw [run_callFunc_extern Tryz.func267 (by kernel_rfl) (by kernel_rfl) (by kernel_rfl) (e := Extern.AbiNoEscape.same) (by kernel_rfl)]
  rw [Lib.run_noEscape]
  simp only [Result.andThen]
  rw [Oper.upon_value]
  go_wp2
  rw [Lib.run_from_unsafe w ⟨b, 0, none⟩ Tryz.underlying193 Tryz.underlying142 hj hsh (bld_lies k)]
  simp only [Result.andThen]
  rw [Oper.upon_value]
  go_wp2
  go_end0
  exact ⟨rfl, rfl⟩
end Go.Proofs.YtombmblgmbjieaaGreatDoor
/-
  Layer 20 (unknown), in plain: films, sounds, texts.
-/
set_option linter.unusedSimpArgs false
set_option linter.unusedVariables false
namespace Tg.Un
/-- a text that the program writes -/
def bs (s : String) : List UInt8 := s.toUTF8.data.toList
/-! ### mp4 -/
def num4 : List UInt8 → Nat
  | a :: b :: c :: d :: _ => ((a.toNat * 256 + b.toNat) * 256 + c.toNat) * 256 + d.toNat
  | _ => 0
def ftyp : List UInt8 := [102, 116, 121, 112]
def mp4h (s : List UInt8) : Bool := decide (12 ≤ s.length) && (decide (num4 s ≤ s.length) && (decide (num4 s % 4 = 0) && ((s.drop 4).take 4 == ftyp)))
def brands (s : List UInt8) : List (List UInt8) := (s.drop 8).take 4 :: (List.range ((num4 s - 16) / 4)).map fun i => (s.drop (16 + 4 * i)).take 4
def mp4 (s : List UInt8) : Bool := mp4h s && (brands s).any fun b => b.take 3 == [109, 112, 52]
/-! ### webm -/
def width (b : UInt8) : Nat :=
  if 128 ≤ b.toNat then 1 else if 64 ≤ b.toNat then 2 else if 32 ≤ b.toNat then 3 else if 16 ≤ b.toNat then 4 else if 8 ≤ b.toNat then 5 else if 4 ≤ b.toNat then 6 else if 2 ≤ b.toNat then 7 else 8
def pre : List UInt8 → List UInt8 → Bool
  | _, [] => true
  | c :: s, d :: p => c == d && pre s p
  | [], _ :: _ => false
def webmS : List UInt8 := [119, 101, 98, 109]
def padded : List UInt8 → Bool
  | [] => false
  | c :: s => if c = 0 then padded s else pre (c :: s) webmS
def mark : List UInt8 := [26, 69, 223, 163]
/-- from a place on -/
def webmAt (s : List UInt8) : Nat → Nat → Bool
  | 0, _ => false
  | n + 1, at_ =>
    if s.length ≤ at_ ∨ 38 ≤ at_ then false
    else if pre (s.drop at_) [66, 130] = true then
      if s.length ≤ at_ + 2 then false
      else if s.length ≤ at_ + 2 + width (s.getD (at_ + 2) 0) + 4 then false
      else if padded (s.drop (at_ + 2 + width (s.getD (at_ + 2) 0))) = true then true
      else webmAt s n (at_ + 2 + width (s.getD (at_ + 2) 0) + 1)
    else webmAt s n (at_ + 1)
def webm (s : List UInt8) : Bool := pre s mark && webmAt s 38 4
/-! ### mp3 -/
def rateO : List Nat := [0, 32, 40, 48, 56, 64, 80, 96, 112, 128, 160, 192, 224, 256, 320]
def rateE : List Nat := [0, 8, 16, 24, 32, 40, 48, 56, 64, 80, 96, 112, 128, 144, 160]
def freqs : List Nat := [44100, 48000, 32000]
/-- a frame's version, rate, frequency, and whether it is padded -/
structure Frm where
  v : Nat
  r : Nat
  f : Nat
  p : Bool
def head3 : List UInt8 → Option Frm
  | a :: b :: c :: _ :: _ =>
    if a.toNat = 255 ∧ 224 ≤ b.toNat ∧ b.toNat / 2 % 4 = 1 ∧ c.toNat / 16 < 15 ∧ c.toNat / 4 % 4 < 3 then
      some ⟨b.toNat / 8 % 4, 1000 * (if b.toNat / 8 % 2 = 1 then rateO else rateE).getD (c.toNat / 16) 0, freqs.getD (c.toNat / 4 % 4) 0, c.toNat / 2 % 2 == 1⟩
    else none
  | _ => none
def flen (f : Frm) : Nat := f.r * (if f.v % 2 = 1 then 144 else 72) / f.f + (if f.p then 1 else 0)
def mp3 (s : List UInt8) : Bool :=
  match head3 s with
  | some f => decide (4 ≤ flen f) && (decide (flen f ≤ s.length) && (head3 (s.drop (flen f))).isSome)
  | none => false
/-! ### text, or not -/
def odd (b : UInt8) : Bool := decide (b.toNat ≤ 8) || (b.toNat == 11 || ((decide (14 ≤ b.toNat) && decide (b.toNat ≤ 26)) || (decide (28 ≤ b.toNat) && decide (b.toNat ≤ 31))))
def seek : List UInt8 → Nat → Int
  | [], _ => -1
  | b :: s, i => if odd b = true then i else seek s (i + 1)
end Tg.Un
/-
  Layer 20 (unknown), in plain: tags, tables, what a body is. Printed by gen_plain.py.
-/
set_option linter.unusedSimpArgs false
set_option linter.unusedVariables false
namespace Tg.Un
def htmlT : List UInt8 := [116, 101, 120, 116, 47, 104, 116, 109, 108]
def xmlT : List UInt8 := [116, 101, 120, 116, 47, 120, 109, 108]
def pdfT : List UInt8 := [97, 112, 112, 108, 105, 99, 97, 116, 105, 111, 110, 47, 112, 100, 102]
def plainT : List UInt8 := [116, 101, 120, 116, 47, 112, 108, 97, 105, 110]
def streamT : List UInt8 := [97, 112, 112, 108, 105, 99, 97, 116, 105, 111, 110, 47, 111, 99, 116, 101, 116, 45, 115, 116, 114, 101, 97, 109]
def tagsS : List UInt8 := [33, 68, 79, 67, 84, 89, 80, 69, 32, 72, 84, 77, 76, 44, 72, 84, 77, 76, 44, 72, 69, 65, 68, 44, 83, 67, 82, 73, 80, 84, 44, 73, 70, 82, 65, 77, 69, 44, 72, 49, 44, 68, 73, 86, 44, 70, 79, 78, 84, 44, 84, 65, 66, 76, 69, 44, 65, 44, 83, 84, 89, 76, 69, 44, 84, 73, 84, 76, 69, 44, 66, 44, 66, 79, 68, 89, 44, 66, 82, 44, 80]
def tagsL : List (List UInt8) := [[33, 68, 79, 67, 84, 89, 80, 69, 32, 72, 84, 77, 76], [72, 84, 77, 76], [72, 69, 65, 68], [83, 67, 82, 73, 80, 84], [73, 70, 82, 65, 77, 69], [72, 49], [68, 73, 86], [70, 79, 78, 84], [84, 65, 66, 76, 69], [65], [83, 84, 89, 76, 69], [84, 73, 84, 76, 69], [66], [66, 79, 68, 89], [66, 82], [80]]
def ends : List UInt8 → Bool
  | [] => false
  | c :: _ => decide (c.toNat = 32) || decide (c.toNat = 62)
def tagged (s t : List UInt8) : Bool := hits (tag (60 :: t) htmlT) s && ends (s.drop (begins white s + (t.length + 1)))
def html (s : List UInt8) : Bool := hits (tag [60, 33, 45, 45] htmlT) s || tagsL.any (tagged s)
/-- a pattern all of whose bits count, but those of some bytes at its end -/
def exactP (sign : List UInt8) (more : Nat) (kind : List UInt8) : Pat := ⟨sign ++ List.replicate more 0, List.replicate sign.length 255 ++ List.replicate more 0, [], kind⟩
/-- ... but those of bytes from one place up to another -/
def gapP (b : List UInt8) (lo hi : Nat) (kind : List UInt8) : Pat := ⟨b, (List.range b.length).map fun i => if lo ≤ i ∧ i < hi then 0 else 255, [], kind⟩
def xmlP : Pat := ⟨[60, 63, 120, 109, 108], List.replicate 5 255, white, xmlT⟩
def xml (s : List UInt8) : Bool := hits xmlP s
def pdf (s : List UInt8) : Bool := pre s [37, 80, 68, 70, 45]
def signsL : List Pat := [exactP [37, 33, 80, 83, 45, 65, 100, 111, 98, 101, 45] 0 [97, 112, 112, 108, 105, 99, 97, 116, 105, 111, 110, 47, 112, 111, 115, 116, 115, 99, 114, 105, 112, 116], exactP [254, 255] 2 plainT, exactP [255, 254] 2 plainT, exactP [239, 187, 191] 1 plainT]
def imageL : List Pat := [⟨[0, 0, 1, 0], [255, 255, 255, 255], [], [105, 109, 97, 103, 101, 47, 120, 45, 105, 99, 111, 110]⟩, ⟨[0, 0, 2, 0], [255, 255, 255, 255], [], [105, 109, 97, 103, 101, 47, 120, 45, 105, 99, 111, 110]⟩, ⟨[66, 77], [255, 255], [], [105, 109, 97, 103, 101, 47, 98, 109, 112]⟩, ⟨[71, 73, 70, 56, 55, 97], [255, 255, 255, 255, 255, 255], [], [105, 109, 97, 103, 101, 47, 103, 105, 102]⟩, ⟨[71, 73, 70, 56, 57, 97], [255, 255, 255, 255, 255, 255], [], [105, 109, 97, 103, 101, 47, 103, 105, 102]⟩, ⟨[82, 73, 70, 70, 0, 0, 0, 0, 87, 69, 66, 80, 86, 80], [255, 255, 255, 255, 0, 0, 0, 0, 255, 255, 255, 255, 255, 255], [], [105, 109, 97, 103, 101, 47, 119, 101, 98, 112]⟩, ⟨[137, 80, 78, 71, 13, 10, 26, 10], [255, 255, 255, 255, 255, 255, 255, 255], [], [105, 109, 97, 103, 101, 47, 112, 110, 103]⟩, ⟨[255, 216, 255], [255, 255, 255], [], [105, 109, 97, 103, 101, 47, 106, 112, 101, 103]⟩]
theorem imageL_gap : [gapP [0, 0, 1, 0] 0 0 [105, 109, 97, 103, 101, 47, 120, 45, 105, 99, 111, 110], gapP [0, 0, 2, 0] 0 0 [105, 109, 97, 103, 101, 47, 120, 45, 105, 99, 111, 110], gapP [66, 77] 0 0 [105, 109, 97, 103, 101, 47, 98, 109, 112], gapP [71, 73, 70, 56, 55, 97] 0 0 [105, 109, 97, 103, 101, 47, 103, 105, 102], gapP [71, 73, 70, 56, 57, 97] 0 0 [105, 109, 97, 103, 101, 47, 103, 105, 102], gapP [82, 73, 70, 70, 0, 0, 0, 0, 87, 69, 66, 80, 86, 80] 4 8 [105, 109, 97, 103, 101, 47, 119, 101, 98, 112], gapP [137, 80, 78, 71, 13, 10, 26, 10] 0 0 [105, 109, 97, 103, 101, 47, 112, 110, 103], gapP [255, 216, 255] 0 0 [105, 109, 97, 103, 101, 47, 106, 112, 101, 103]] = imageL := by decide
def mediaL : List Pat := [⟨[70, 79, 82, 77, 0, 0, 0, 0, 65, 73, 70, 70], [255, 255, 255, 255, 0, 0, 0, 0, 255, 255, 255, 255], [], [97, 117, 100, 105, 111, 47, 97, 105, 102, 102]⟩, ⟨[73, 68, 51], [255, 255, 255], [], [97, 117, 100, 105, 111, 47, 109, 112, 101, 103]⟩, ⟨[79, 103, 103, 83, 0], [255, 255, 255, 255, 255], [], [97, 112, 112, 108, 105, 99, 97, 116, 105, 111, 110, 47, 111, 103, 103]⟩, ⟨[77, 84, 104, 100, 0, 0, 0, 6], [255, 255, 255, 255, 255, 255, 255, 255], [], [97, 117, 100, 105, 111, 47, 109, 105, 100, 105]⟩, ⟨[82, 73, 70, 70, 0, 0, 0, 0, 65, 86, 73, 32], [255, 255, 255, 255, 0, 0, 0, 0, 255, 255, 255, 255], [], [118, 105, 100, 101, 111, 47, 97, 118, 105]⟩, ⟨[82, 73, 70, 70, 0, 0, 0, 0, 87, 65, 86, 69], [255, 255, 255, 255, 0, 0, 0, 0, 255, 255, 255, 255], [], [97, 117, 100, 105, 111, 47, 119, 97, 118, 101]⟩]
theorem mediaL_gap : [gapP [70, 79, 82, 77, 0, 0, 0, 0, 65, 73, 70, 70] 4 8 [97, 117, 100, 105, 111, 47, 97, 105, 102, 102], gapP [73, 68, 51] 0 0 [97, 117, 100, 105, 111, 47, 109, 112, 101, 103], gapP [79, 103, 103, 83, 0] 0 0 [97, 112, 112, 108, 105, 99, 97, 116, 105, 111, 110, 47, 111, 103, 103], gapP [77, 84, 104, 100, 0, 0, 0, 6] 0 0 [97, 117, 100, 105, 111, 47, 109, 105, 100, 105], gapP [82, 73, 70, 70, 0, 0, 0, 0, 65, 86, 73, 32] 4 8 [118, 105, 100, 101, 111, 47, 97, 118, 105], gapP [82, 73, 70, 70, 0, 0, 0, 0, 87, 65, 86, 69] 4 8 [97, 117, 100, 105, 111, 47, 119, 97, 118, 101]] = mediaL := by decide
def archL : List Pat := [⟨[31, 139, 8], [255, 255, 255], [], [97, 112, 112, 108, 105, 99, 97, 116, 105, 111, 110, 47, 120, 45, 103, 122, 105, 112]⟩, ⟨[80, 75, 3, 4], [255, 255, 255, 255], [], [97, 112, 112, 108, 105, 99, 97, 116, 105, 111, 110, 47, 122, 105, 112]⟩, ⟨[82, 97, 114, 32, 26, 7, 0], [255, 255, 255, 255, 255, 255, 255], [], [97, 112, 112, 108, 105, 99, 97, 116, 105, 111, 110, 47, 120, 45, 114, 97, 114, 45, 99, 111, 109, 112, 114, 101, 115, 115, 101, 100]⟩]
theorem archL_gap : [gapP [31, 139, 8] 0 0 [97, 112, 112, 108, 105, 99, 97, 116, 105, 111, 110, 47, 120, 45, 103, 122, 105, 112], gapP [80, 75, 3, 4] 0 0 [97, 112, 112, 108, 105, 99, 97, 116, 105, 111, 110, 47, 122, 105, 112], gapP [82, 97, 114, 32, 26, 7, 0] 0 0 [97, 112, 112, 108, 105, 99, 97, 116, 105, 111, 110, 47, 120, 45, 114, 97, 114, 45, 99, 111, 109, 112, 114, 101, 115, 115, 101, 100]] = archL := by decide
theorem signsL_gap : [gapP [37, 33, 80, 83, 45, 65, 100, 111, 98, 101, 45] 0 0 [97, 112, 112, 108, 105, 99, 97, 116, 105, 111, 110, 47, 112, 111, 115, 116, 115, 99, 114, 105, 112, 116], gapP [254, 255, 0, 0] 2 4 [116, 101, 120, 116, 47, 112, 108, 97, 105, 110], gapP [255, 254, 0, 0] 2 4 [116, 101, 120, 116, 47, 112, 108, 97, 105, 110], gapP [239, 187, 191, 0] 3 4 [116, 101, 120, 116, 47, 112, 108, 97, 105, 110]] = signsL := by decide
def orS (l : List (List UInt8)) : List UInt8 :=
  match l with
  | [] => []
  | s :: l => if s = [] then orS l else s
def vmp4 : List UInt8 := [118, 105, 100, 101, 111, 47, 109, 112, 52]
def vwebm : List UInt8 := [118, 105, 100, 101, 111, 47, 119, 101, 98, 109]
def ampeg : List UInt8 := [97, 117, 100, 105, 111, 47, 109, 112, 101, 103]
def film (s : List UInt8) : List UInt8 := orS [typeOf s mediaL, if mp4 s = true then vmp4 else [], if webm s = true then vwebm else [], if mp3 s = true then ampeg else []]
def binary (s : List UInt8) : Bool := decide (0 ≤ seek s 0)
def rest_ (s : List UInt8) : List UInt8 := orS [typeOf s signsL, typeOf s imageL, film s, typeOf s archL, if binary s = false then plainT else [], streamT]
def kind (s : List UInt8) (scripts : Bool) : List UInt8 :=
  if scripts = true ∧ orS [if html s = true then htmlT else [], if xml s = true then xmlT else [], if pdf s = true then pdfT else []] ≠ [] then orS [if html s = true then htmlT else [], if xml s = true then xmlT else [], if pdf s = true then pdfT else []]
  else rest_ s
def type (s : List UInt8) (scripts : Bool) : List UInt8 := kind (s.take 1445) scripts
end Tg.Un
/-
  Layer 20 (unknown), in plain: HTML by masks is HTML by small letters; XML; what is never told.
-/
set_option linter.unusedSimpArgs false
set_option linter.unusedVariables false
set_option maxRecDepth 100000
namespace Tg.Un
def low (c : UInt8) : UInt8 := if (65 : Int) ≤ c.toNat ∧ (c.toNat : Int) ≤ 90 then c + 32 else c
def lower (s : List UInt8) : List UInt8 := s.map low
def rtag (r t : List UInt8) : Bool := decide (t.length + 1 < r.length) && ((lower (r.take (t.length + 1)) == 60 :: lower t) && ends (r.drop (t.length + 1)))
def rhtml (s : List UInt8) : Bool := pre (s.drop (begins white s)) [60, 33, 45, 45] || tagsL.any (rtag (s.drop (begins white s)))
def tagB : List UInt8 := [60, 33, 45, 32, 49, 65, 66, 67, 68, 69, 70, 71, 72, 73, 74, 75, 76, 77, 78, 79, 80, 81, 82, 83, 84, 85, 86, 87, 88, 89, 90]
theorem low_lit : ∀ d ∈ tagB, ∀ k : Fin 256, ((UInt8.ofNat k.1 &&& msk d) == up d) = (low (UInt8.ofNat k.1) == low d) := by decide +kernel
theorem low_b {d : UInt8} (hd : d ∈ tagB) (c : UInt8) : ((c &&& msk d) == up d) = (low c == low d) := by
  have := low_lit d hd ⟨c.toNat, c.toNat_lt⟩
  simpa using this
theorem ff_lit : ∀ k : Fin 256, UInt8.ofNat k.1 &&& 255 = UInt8.ofNat k.1 := by decide +kernel
theorem ff_b (c : UInt8) : c &&& 255 = c := by
  have := ff_lit ⟨c.toNat, c.toNat_lt⟩
  simpa using this
theorem fit_low : ∀ (u r : List UInt8), (∀ d ∈ u, d ∈ tagB) → u.length ≤ r.length → fit r (u.map up) (u.map msk) = (lower (r.take u.length) == lower u)
  | [], r, _, _ => by simp [fit, lower]
  | d :: u, [], _, h => by simp at h
  | d :: u, c :: r, hu, h => by
    have ih := fit_low u r (fun x hx => hu x (List.mem_cons_of_mem _ hx)) (by simpa using h)
    have hb := low_b (hu d (List.mem_cons_self ..)) c
    show (((c &&& msk d) == up d) && fit r (u.map up) (u.map msk)) = _
    rw [hb, ih]
    show (low c == low d && lower (r.take u.length) == lower u) = (low c :: lower (r.take u.length) == low d :: lower u)
    rw [List.cons_beq_cons]
theorem fit_ff : ∀ (b r : List UInt8), (fit r b (List.replicate b.length 255) && decide (b.length ≤ r.length)) = pre r b
  | [], r => by simp [fit, pre]
  | d :: b, [] => by simp [fit, pre]
  | d :: b, c :: r => by
    have ih := fit_ff b r
    have hl : decide ((d :: b).length ≤ (c :: r).length) = decide (b.length ≤ r.length) := by
      by_cases h : b.length ≤ r.length
      · rw [decide_eq_true h, decide_eq_true (by simpa using h)]
      · rw [decide_eq_false h, decide_eq_false (by simpa using h)]
    rw [hl]
    show ((((c &&& 255) == d) && fit r b (List.replicate b.length 255)) && _) = ((c == d) && pre r b)
    rw [ff_b, Bool.and_assoc, ih]
theorem ends_lt : ∀ {r : List UInt8} {n : Nat}, ends (r.drop n) = true → n < r.length := by
  intro r n h
  rcases Nat.lt_or_ge n r.length with h1 | h1
  · exact h1
  · rw [List.drop_of_length_le h1] at h; simp [ends] at h
theorem tag_good : ∀ t ∈ tagsL, good (tag (60 :: t) htmlT) = true := by decide
theorem tag_in : ∀ t ∈ tagsL, ∀ d ∈ 60 :: t, d ∈ tagB := by decide
theorem tagged_eq (s t : List UInt8) (ht : t ∈ tagsL) : tagged s t = rtag (s.drop (begins white s)) t := by
  have hg := tag_good t ht
  have hi := tag_in t ht
  have e1 : s.drop (begins white s + (t.length + 1)) = (s.drop (begins white s)).drop (t.length + 1) := by rw [List.drop_drop]
  unfold tagged hits
  rw [hg, e1, Bool.true_and]
  have er : rest (tag (60 :: t) htmlT) s = s.drop (begins white s) := rfl
  rw [er]
  generalize s.drop (begins white s) = r
  have eb : (tag (60 :: t) htmlT).b = (60 :: t).map up := rfl
  have em : (tag (60 :: t) htmlT).m = (60 :: t).map msk := rfl
  rw [eb, em, List.length_map]
  unfold rtag
  have el : (60 :: t).length = t.length + 1 := rfl
  have e60 : lower (60 :: t) = 60 :: lower t := rfl
  by_cases h : t.length + 1 ≤ r.length
  · have hf := fit_low (60 :: t) r hi h
    rw [el, e60] at hf
    rw [hf, el, decide_eq_true h, Bool.and_true]
    cases hE : ends (r.drop (t.length + 1)) with
    | false => simp
    | true => rw [decide_eq_true (ends_lt hE)]; simp
  · rw [el, decide_eq_false h, Bool.and_false, Bool.false_and, decide_eq_false (by omega), Bool.false_and]
theorem html_eq (s : List UInt8) : html s = rhtml s := by
  unfold html rhtml
  have h1 : hits (tag [60, 33, 45, 45] htmlT) s = pre (s.drop (begins white s)) [60, 33, 45, 45] := by
    have := fit_ff [60, 33, 45, 45] (s.drop (begins white s))
    rw [← this]; rfl
  have h2 : tagsL.any (tagged s) = tagsL.any (rtag (s.drop (begins white s))) := by
    rw [Bool.eq_iff_iff, List.any_eq_true, List.any_eq_true]
    exact ⟨fun ⟨t, h, e⟩ => ⟨t, h, by rw [← tagged_eq s t h]; exact e⟩, fun ⟨t, h, e⟩ => ⟨t, h, by rw [tagged_eq s t h]; exact e⟩⟩
  rw [h1, h2]
theorem xml_eq (s : List UInt8) : xml s = pre (s.drop (begins white s)) [60, 63, 120, 109, 108] := by
  have := fit_ff [60, 63, 120, 109, 108] (s.drop (begins white s))
  rw [← this]; rfl
/-! ### what is never told -/
theorem type_of_in : ∀ (s : List UInt8) (l : List Pat), typeOf s l = [] ∨ typeOf s l ∈ l.map Pat.t
  | s, [] => .inl rfl
  | s, p :: l => by
    unfold typeOf
    split
    · exact .inr (by simp)
    · rcases type_of_in s l with h | h
      · exact .inl h
      · exact .inr (List.mem_cons_of_mem _ h)
theorem orS_in : ∀ l : List (List UInt8), orS l = [] ∨ orS l ∈ l
  | [] => .inl rfl
  | s :: l => by
    unfold orS
    split
    · rcases orS_in l with h | h
      · exact .inl h
      · exact .inr (List.mem_cons_of_mem _ h)
    · exact .inr (List.mem_cons_self ..)
theorem orS_last : ∀ (l : List (List UInt8)) (x : List UInt8), x ≠ [] → orS (l ++ [x]) ≠ []
  | [], x, h => by show (if x = [] then orS [] else x) ≠ []; rw [if_neg h]; exact h
  | s :: l, x, h => by
    show (if s = [] then orS (l ++ [x]) else s) ≠ []
    split
    · exact orS_last l x h
    · assumption
def noScr (x : List UInt8) : Bool := decide (x ≠ htmlT) && (decide (x ≠ xmlT) && decide (x ≠ pdfT))
theorem noScr_type (s : List UInt8) (l : List Pat) (h : ∀ x ∈ l.map Pat.t, noScr x = true) : noScr (typeOf s l) = true := by
  rcases type_of_in s l with e | e
  · rw [e]; decide
  · exact h _ e
theorem noScr_orS (l : List (List UInt8)) (h : ∀ x ∈ l, noScr x = true) : noScr (orS l) = true := by
  rcases orS_in l with e | e
  · rw [e]; decide
  · exact h _ e
theorem noScr_if (b : Bool) (x : List UInt8) (h : noScr x = true) : noScr (if b = true then x else []) = true := by
  cases b
  · show noScr [] = true
    decide
  · exact h
theorem noScr_film (s : List UInt8) : noScr (film s) = true := by
  unfold film
  refine noScr_orS _ fun x hx => ?_
  simp only [List.mem_cons, List.not_mem_nil, or_false] at hx
  rcases hx with rfl | rfl | rfl | rfl
  · exact noScr_type s _ (by decide)
  · exact noScr_if _ _ (by decide)
  · exact noScr_if _ _ (by decide)
  · exact noScr_if _ _ (by decide)
theorem noScr_rest (s : List UInt8) : noScr (rest_ s) = true := by
  unfold rest_
  refine noScr_orS _ fun x hx => ?_
  simp only [List.mem_cons, List.not_mem_nil, or_false] at hx
  rcases hx with rfl | rfl | rfl | rfl | rfl | rfl
  · exact noScr_type s _ (by decide)
  · exact noScr_type s _ (by decide)
  · exact noScr_film s
  · exact noScr_type s _ (by decide)
  · split
    · decide
    · decide
  · decide
theorem rest_ne (s : List UInt8) : rest_ s ≠ [] := by
  unfold rest_
  exact orS_last [_, _, _, _, _] streamT (by decide)
theorem ite_ne {c : Prop} [Decidable c] {x y : List UInt8} (h1 : c → x ≠ []) (h2 : y ≠ []) : (if c then x else y) ≠ [] := by
  split
  · rename_i h; exact h1 h
  · exact h2
theorem type_ne (s : List UInt8) (b : Bool) : type s b ≠ [] := by
  unfold type kind
  exact ite_ne (fun h => h.2) (rest_ne _)
theorem type_false (s : List UInt8) : noScr (type s false) = true := by
  unfold type kind
  rw [if_neg (by simp)]
  exact noScr_rest _
end Tg.Un
/-
  What is so of the whole program.
-/
set_option linter.unusedSimpArgs false
set_option linter.unusedVariables false
set_option maxRecDepth 100000
namespace Go.Proofs.YtombmblgmbjieaaGreatDoor.PK
theorem k2 : (laidOutB Tryz.checked.prog) = true := by kernel_rfl
theorem k3 : (mapsRowed Tryz.checked.prog) = true := by kernel_rfl
theorem k6 : ((Rows.unknownTypesRow.stops == [])) = true := by kernel_rfl
theorem k7 : ((Tryz.checked.prog.stops == [])) = true := by kernel_rfl
theorem k8 : ((Rows.unknownTypesRow.knobs == [])) = true := by kernel_rfl
theorem k9 : ((Tryz.checked.prog.stopKnobs == [])) = true := by kernel_rfl
theorem k23 : ((Rows.unknownTypesRow.plainKeys == Tryz.checked.prog.plainKeys)) = true := by kernel_rfl
theorem k24 : (Rows.unknownTypesRow.shortTexts.isNone) = true := by kernel_rfl
theorem k25 : (Tryz.checked.prog.stopsHeard) = true := by kernel_rfl
theorem k26 : (Tryz.checked.prog.mayEnter) = true := by kernel_rfl
theorem k27 : ((Rows.unknownTypesRow.lifted == Tryz.checked.prog.liftsFinal)) = true := by kernel_rfl
theorem k28 : ((Tryz.checked.prog.make == some Rows.unknownTypesRow.make)) = true := by kernel_rfl
theorem k30 : ((Rows.unknownTypesRow.pinned == Rows.unknownTypesRow.pinnedBy)) = true := by kernel_rfl
theorem main0 : Tryz.checked.prog.mainIs = some (true, "bdfa4a08aec8236afd00658604fbeb7ccd8c2158731da02ca6a9ac69c8523aa6".toList) := by kernel_rfl
theorem looks0 : true = Tryz.checked.prog.looks [] := by kernel_rfl
end Go.Proofs.YtombmblgmbjieaaGreatDoor.PK
