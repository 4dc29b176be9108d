/-
  Small laws on worlds and blocks, over any program: what a call may turn (a set of blocks, and what is new), one block known whole, rows that are owned.
-/
import Derived.WalkKit
import Derived.WalkSpells
import Derived.WalkLawsBesides
import Derived.Lib.Hide
import Derived.Lib.Strings
set_option linter.unusedSimpArgs false
set_option linter.unusedVariables false
namespace Go.Tg
open Go.RowKit

theorem ret_int {k : IntKind} {a b : Int} (h : a = b) : Ending.returned (.int k a) = .returned (.int k b) := by rw [h]
theorem ret_bool {a b : Bool} (h : a = b) : Ending.returned (.bool a) = .returned (.bool b) := by rw [h]
theorem ret_str {a b : ByteArray} (h : a = b) : Ending.returned (.string a) = .returned (.string b) := by rw [h]

/-- a byte of a kind, as the walk asks -/
theorem u8_is (c k : UInt8) (n : Int) (h : (k.toNat : Int) = n) : (c = k ∧ ((c.toNat : Int) == n) = true) ∨ (c ≠ k ∧ ((c.toNat : Int) == n) = false) := by
  by_cases e : c = k
  · exact .inl ⟨e, by rw [e, h]; simp⟩
  · refine .inr ⟨e, ?_⟩
    rw [beq_eq_false_iff_ne, ← h]
    intro h'
    exact e (UInt8.toNat_inj.1 (by omega))
theorem u8_lt (c : UInt8) : c.toNat < 256 := UInt8.toNat_lt c

theorem ba_get0 (d : UInt8) (r : List UInt8) (h : 0 < (⟨(d :: r).toArray⟩ : ByteArray).size) : (⟨(d :: r).toArray⟩ : ByteArray)[0]'h = d := rfl
theorem ba_toList (s : ByteArray) : s.toList = s.data.toList := by
  have := @ByteArray.toList_eq s
  exact this
theorem ba_ext {s t : ByteArray} (h : s.data.toList = t.data.toList) : s = t := by
  cases s; cases t; simp at h; simp [h]
theorem ba_tail (d : UInt8) (r : List UInt8) : (⟨(d :: r).toArray⟩ : ByteArray).extract 1 (r.length + 1) = ⟨r.toArray⟩ := by
  apply ba_ext; rw [Lib.extract_data]; simp
theorem ba_isEmpty (r : List UInt8) : (⟨r.toArray⟩ : ByteArray).toList.isEmpty = r.isEmpty := by rw [ba_toList]

/-- What a call may turn: the blocks of S, and what is new. -/
structure Change (S : Nat → Prop) (w w' : World) : Prop where
  os : w'.os = w.os
  tape : w'.tape = w.tape
  output : w'.output = w.output
  size : w.heap.size ≤ w'.heap.size
  block : ∀ k, k < w.heap.size → ¬ S k → w'.heap[k]? = w.heap[k]?

namespace Change
variable {S T U : Nat → Prop} {w w' w'' : World}
theorem refl (S : Nat → Prop) (w : World) : Change S w w := ⟨rfl, rfl, rfl, Nat.le_refl _, fun _ _ _ => rfl⟩
theorem trans (h : Change S w w') (k : Change T w' w'') (hT : ∀ i, T i → S i ∨ w.heap.size ≤ i) : Change S w w'' :=
  ⟨k.os.trans h.os, k.tape.trans h.tape, k.output.trans h.output, Nat.le_trans h.size k.size, fun i hi hn =>
    (k.block i (Nat.lt_of_lt_of_le hi h.size) (fun ht => by rcases hT i ht with h | h; exact hn h; omega)).trans (h.block i hi hn)⟩
theorem mono (h : Change S w w') (hT : ∀ i, i < w.heap.size → S i → T i) : Change T w w' :=
  ⟨h.os, h.tape, h.output, h.size, fun i hi hn => h.block i hi (fun hs => hn (hT i hi hs))⟩
theorem drew (h : Change S w w') : Change S w w'.drew := ⟨h.os, h.tape, h.output, h.size, h.block⟩
theorem drewN (h : Change S w w') (n : Nat) : Change S w (w'.drewN n) := ⟨h.os, h.tape, h.output, h.size, h.block⟩
theorem alloc (h : Change S w w') (o : Obj) : Change S w (w'.alloc o) :=
  ⟨h.os, h.tape, h.output, Nat.le_trans h.size (by simp), fun i hi hn => (Below.heap_alloc w' o i (Nat.lt_of_lt_of_le hi h.size)).trans (h.block i hi hn)⟩
theorem setCell (h : Change S w w') {p : Addr} (hp : S p.block ∨ w.heap.size ≤ p.block) (u : Value) : Change S w (w'.setCell p u) :=
  ⟨h.os, h.tape, h.output, by simpa [World.setCell] using h.size, fun i hi hn => (Below.heap_setCell w' p u i (by
    rintro rfl
    rcases hp with hp | hp
    · exact hn hp
    · omega)).trans (h.block i hi hn)⟩
theorem grown (h : Change S w w') {r : Option Nat} (g : w'.grownBy w'' r) (hr : ∀ k, r = some k → S k ∨ w.heap.size ≤ k) : Change S w w'' :=
  ⟨g.os.trans h.os, g.tape.trans h.tape, g.output.trans h.output, Nat.le_trans h.size g.size, fun i hi hn =>
    (g.block i (Nat.lt_of_lt_of_le hi h.size) (fun e => by rcases hr i e.symm with h | h; exact hn h; omega)).trans (h.block i hi hn)⟩
theorem below {B : Nat} (h : Change S w w') (hB : B ≤ w.heap.size) (hS : ∀ k, S k → B ≤ k) : Below B w w' :=
  ⟨h.os, h.tape, h.output, h.size, fun k hk => h.block k (by omega) (fun hs => by have := hS k hs; omega)⟩
theorem of_below {B : Nat} (h : Below B w w') : Change (fun k => B ≤ k) w w' :=
  ⟨h.os, h.tape, h.output, h.size, fun k _ hk => h.block k (by omega)⟩
theorem lt (h : Change S w w') {k : Nat} (hk : k < w.heap.size) : k < w'.heap.size := Nat.lt_of_lt_of_le hk h.size
theorem one (b : Nat) (w : World) : Change (fun k => k = b) w w := refl _ w
theorem set {b : Nat} (h : Change (fun k => k = b) w w') (i : Nat) (u : Value) : Change (fun k => k = b) w (w'.setCell ⟨b, i, none⟩ u) := h.setCell (.inl rfl) u
end Change

/-- One block of cells, known whole. -/
def Blk (w : World) (b : Nat) (t : TypeId) (cs : Array Value) : Prop := w.heap[b]? = some (.cells cs t (0, 0))
namespace Blk
variable {w w' : World} {b : Nat} {t : TypeId} {cs : Array Value}
theorem cell (h : Blk w b t cs) (i : Nat) : w.cell? ⟨b, i, none⟩ = cs[i]? := by
  unfold Blk at h; simp [World.cell?, h]
theorem free (h : Blk w b t cs) (i : Nat) : w.frozen? ⟨b, i, none⟩ = false := by
  unfold Blk at h; simp [World.frozen?, h]
theorem lt (h : Blk w b t cs) : b < w.heap.size := lt_of_block h
theorem set (h : Blk w b t cs) (i : Nat) (v : Value) : Blk (w.setCell ⟨b, i, none⟩ v) b t (cs.setIfInBounds i v) := by
  unfold Blk at h ⊢; simp only [World.setCell, Array.getElem?_modify, h]; simp
theorem setOther (h : Blk w b t cs) {a : Addr} (ha : b ≠ a.block) (v : Value) : Blk (w.setCell a v) b t cs := by
  unfold Blk at h ⊢; rw [Below.heap_setCell _ _ _ _ ha]; exact h
theorem setBlk {c : Nat} (h : Blk w b t cs) (hc : b ≠ c) (i : Nat) (v : Value) : Blk (w.setCell ⟨c, i, none⟩ v) b t cs := h.setOther hc v
theorem drew (h : Blk w b t cs) : Blk w.drew b t cs := h
theorem drewN (h : Blk w b t cs) (n : Nat) : Blk (w.drewN n) b t cs := h
theorem alloc (h : Blk w b t cs) (o : Obj) : Blk (w.alloc o) b t cs := by
  unfold Blk at h ⊢; rw [Below.heap_alloc _ _ _ (lt_of_block h)]; exact h
theorem of_change {S : Nat → Prop} (h : Blk w b t cs) (k : Change S w w') (hS : ¬ S b) : Blk w' b t cs := by
  unfold Blk at h ⊢; rw [k.block b (lt_of_block h) hS]; exact h
theorem new (w : World) (t : TypeId) (cs : Array Value) : Blk (w.alloc (.cells cs t)) w.heap.size t cs := by
  unfold Blk; exact (MapKept.heap_alloc w _).1
end Blk

/-- From w on, the block b alone has turned: it holds cs in W. -/
structure Upd (w : World) (b : Nat) (t : TypeId) (W : World) (cs : Array Value) : Prop where
  blk : Blk W b t cs
  chg : Change (fun k => k = b) w W
namespace Upd
variable {w W : World} {b : Nat} {t : TypeId} {cs : Array Value}
theorem base (h : Blk w b t cs) : Upd w b t w cs := ⟨h, Change.one b w⟩
theorem set {i : Nat} {v : Value} (h : Upd w b t W cs) : Upd w b t (W.setCell ⟨b, i, none⟩ v) (cs.setIfInBounds i v) := ⟨h.blk.set i v, h.chg.set i v⟩
theorem drew (h : Upd w b t W cs) : Upd w b t W.drew cs := ⟨h.blk, h.chg.drew⟩
theorem drewN {n : Nat} (h : Upd w b t W cs) : Upd w b t (W.drewN n) cs := ⟨h.blk, h.chg.drewN n⟩
theorem alloc {o : Obj} (h : Upd w b t W cs) : Upd w b t (W.alloc o) cs := ⟨h.blk.alloc o, h.chg.alloc o⟩
end Upd

theorem row_of_change {S : Nat → Prop} {w w' : World} {base e size n : Nat} {v : Value} {xs : List Value} (h : w.ownsRow base e size v n xs) (k : Change S w w') (hS : ∀ g, v.ownBlock = some g → ¬ S g) : w'.ownsRow base e size v n xs := by
  obtain ⟨h1, h2⟩ := h
  refine ⟨h1, ?_⟩
  rcases h2 with h2 | ⟨g, cap, cur, rfl, hg, hh, r⟩
  · exact .inl h2
  · exact .inr ⟨g, cap, cur, rfl, hg, by rw [k.block g (lt_of_block hh) (hS g rfl)]; exact hh, r⟩
theorem row_lt {w : World} {base e size n : Nat} {v : Value} {xs : List Value} (h : w.ownsRow base e size v n xs) {g : Nat} (hg : v.ownBlock = some g) : g < w.heap.size := by
  rcases h.2 with ⟨h2, _⟩ | ⟨g', cap, cur, rfl, _, hh, r⟩
  · rw [h2] at hg; cases hg
  · cases hg; exact lt_of_block hh

section
variable {P : Program} (w : World)
/-- append on an owned row: the new row lies where the old one lay, or in a new block. -/
theorem run_append2 (t ty e : TypeId) (i : TypeInfo) (z : Value) (size bytes : Nat) (ht : P.underlying t = some (.slice e)) (hi : P.info? e = some i) (hz : i.zero = some z)
    (hsize : i.size = size) (hby : i.bytes = bytes) (hzs : z.cells.size = size) (hsz : 0 < size)
    (v : Value) (n : Nat) (xs : List Value) (hown : w.ownsRow 0 e size v n xs)
    (a : Addr) (m c : Nat) (news : List Value) (hl : news.length = m * size) (hnews : ∀ j u, news[j]? = some u → w.cell? (a.add j) = some u) (h1 : ∀ u ∈ news, u.oneCell' = true)
    (hpos : 0 < n + m) (h63 : n + m ≤ maxLen) (hbytes : (n + m) * bytes ≤ 140737488355328) :
    ∃ g cap w', (Builtin.append_ #[t, t] ty #[v, .slice (some a) m c]).run P w = .ok (.slice (some ⟨g, 0, none⟩) (n + m) cap) w' ∧ w'.ownsRow 0 e size (.slice (some ⟨g, 0, none⟩) (n + m) cap) (n + m) (xs ++ news) ∧ w.grownBy w' v.ownBlock ∧
      (v.ownBlock = some g ∨ g = w.heap.size) := by
  obtain ⟨v', w', hr, h2, h3, h4⟩ := run_append_own (P := P) w 0 t ty e i z size bytes ht hi hz hsize hby hzs hsz v n xs hown a m c news hl hnews h1 h63 hbytes (Nat.zero_le _)
  have hv : ∃ g cap, v' = .slice (some ⟨g, 0, none⟩) (n + m) cap := by
    rcases h2.2 with ⟨_, h⟩ | ⟨g, cap, _, h, _⟩
    · omega
    · exact ⟨g, cap, h⟩
  obtain ⟨g, cap, rfl⟩ := hv
  refine ⟨g, cap, w', hr, h2, h3, ?_⟩
  subst hsize
  subst hby
  have hsmall : n + m ≤ 9223372036854775807 := by simp only [maxLen] at h63; omega
  rcases hown.2 with ⟨rfl, rfl⟩ | ⟨g0, cap0, cur, rfl, _, hh, hnc, hcm, hcs, htake⟩
  · have hr2 := run_append_nil (P := P) w t ty e i z ht hi hz a m c news hl hnews (by omega) (by omega) (by have hb := hbytes; simp only [Nat.zero_add] at hb; omega)
    rw [hr2] at hr
    injection hr with hr hw
    injection hr with hr
    injection hr with hr
    injection hr with hr
    exact .inr hr.symm
  · by_cases hroom : n + m ≤ cap0
    · have hfit : n * i.size + news.length ≤ cur.size := by rw [hl, hcs, ← Nat.add_mul]; exact Nat.mul_le_mul_right _ hroom
      have hr2 := run_append_room (P := P) w t ty e i ht hi g0 n cap0 cur hh a m c news hl hnews h1 hroom hfit
      rw [hr2] at hr
      injection hr with hr hw
      injection hr with hr
      injection hr with hr
      injection hr with hr
      exact .inl (by rw [← hr]; rfl)
    · have holds : ∀ j u, xs[j]? = some u → w.cell? ((⟨g0, 0, none⟩ : Addr).add j) = some u := hown.cells (g := g0) rfl
      have hr2 := run_append_grow (P := P) w t ty e i z ht hi hz ⟨g0, 0, none⟩ n cap0 xs hown.1 holds a m c news hl hnews (by omega) (by omega) (growslice_fits (by omega) hbytes)
      rw [hr2] at hr
      injection hr with hr hw
      injection hr with hr
      injection hr with hr
      injection hr with hr
      exact .inr hr.symm

theorem wpList_append2 {ops : Array Oper} {rest : List Oper} {o : Oper} {ac : Act} {Q : Exit → Act → World → Prop} (hgd : o.guard = none) (s x : Operand) (t : TypeId)
    (ho : o.op = .call { callee := .builtin .append, args := #[s, x], argTypes := #[t, t] })
    (e : TypeId) (i : TypeInfo) (z : Value) (size bytes : Nat) (ht : P.underlying t = some (.slice e)) (hi : P.info? e = some i) (hz : i.zero = some z)
    (hsize : i.size = size) (hby : i.bytes = bytes) (hzs : z.cells.size = size) (hsz : 0 < size)
    (v : Value) (n : Nat) (xs : List Value) (hs : ac.eval s = v) (hown : w.ownsRow 0 e size v n xs)
    (a : Addr) (m c : Nat) (news : List Value) (hx : ac.eval x = .slice (some a) m c) (hl : news.length = m * size) (hnews : ∀ j u, news[j]? = some u → w.cell? (a.add j) = some u) (h1 : ∀ u ∈ news, u.oneCell' = true)
    (hpos : 0 < n + m) (h63 : n + m ≤ maxLen) (hbytes : (n + m) * bytes ≤ 140737488355328)
    (h : ∀ g cap w', w'.ownsRow 0 e size (.slice (some ⟨g, 0, none⟩) (n + m) cap) (n + m) (xs ++ news) → w.grownBy w' v.ownBlock → (v.ownBlock = some g ∨ g = w.heap.size) → wpList P ops Q rest (ac.put o.dst (.slice (some ⟨g, 0, none⟩) (n + m) cap)) w') :
    wpList P ops Q (o :: rest) ac w :=
  wpList_plain hgd fun _ hK => by
    obtain ⟨g, cap, w', hr, h2, h3, h4⟩ := run_append2 (P := P) w t o.type e i z size bytes ht hi hz hsize hby hzs hsz v n xs hown a m c news hl hnews h1 hpos h63 hbytes
    unfold Oper.wp execOp
    simp only [ho, resolve, invoke, builtin, Sem.run_bind, Sem.run_pure, Result.andThen_ok, List.map_toArray, List.map_cons, List.map_nil, hs, hx, hr]
    exact hK _ _ (h g cap w' h2 h3 h4)
end
end Go.Tg
