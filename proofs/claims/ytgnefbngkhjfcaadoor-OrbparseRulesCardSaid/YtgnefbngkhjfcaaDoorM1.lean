/-
  Texts joined, part 1: Kit, End, JsPlain, JsonPlain, LxPlain, Lg, LgR, LgS, LgO.
-/
import Derived.WalkKit
import Derived.WalkSpells
import Derived.WalkLawsBesides
import Derived.Lib.Hide
import Derived.Lib.Strings
import Derived.Below
import Derived.ChangeSame
import Derived.Carry
import Derived.ShutString
import Derived.OpenShut
import Derived.Laws.Tables
import Derived.Laws.CopyRow
import Derived.Deep.Quiet
import Derived.StillTail
import Derived.Laws.BytesString
/-
  Small laws on worlds and blocks, over any program: what a call may turn (a set of blocks, and what is new), one block known whole, rows that are owned.
-/
set_option linter.unusedSimpArgs false
set_option linter.unusedVariables false
namespace Go.Tg
open Go.RowKit

theorem ret_int {k : IntKind} {a b : Int} (h : a = b) : Ending.returned (.int k a) = .returned (.int k b) := by rw [h]
theorem ret_bool {a b : Bool} (h : a = b) : Ending.returned (.bool a) = .returned (.bool b) := by rw [h]
theorem ret_str {a b : ByteArray} (h : a = b) : Ending.returned (.string a) = .returned (.string b) := by rw [h]

/-- a byte of a kind, as the walk asks -/
theorem u8_is (c k : UInt8) (n : Int) (h : (k.toNat : Int) = n) : (c = k ∧ ((c.toNat : Int) == n) = true) ∨ (c ≠ k ∧ ((c.toNat : Int) == n) = false) := by
  by_cases e : c = k
  · exact .inl ⟨e, by rw [e, h]; simp⟩
  · refine .inr ⟨e, ?_⟩
    rw [beq_eq_false_iff_ne, ← h]
    intro h'
    exact e (UInt8.toNat_inj.1 (by omega))
theorem u8_lt (c : UInt8) : c.toNat < 256 := UInt8.toNat_lt c

theorem ba_get0 (d : UInt8) (r : List UInt8) (h : 0 < (⟨(d :: r).toArray⟩ : ByteArray).size) : (⟨(d :: r).toArray⟩ : ByteArray)[0]'h = d := rfl
theorem ba_toList (s : ByteArray) : s.toList = s.data.toList := by
  have := @ByteArray.toList_eq s
  exact this
theorem ba_ext {s t : ByteArray} (h : s.data.toList = t.data.toList) : s = t := by
  cases s; cases t; simp at h; simp [h]
theorem ba_tail (d : UInt8) (r : List UInt8) : (⟨(d :: r).toArray⟩ : ByteArray).extract 1 (r.length + 1) = ⟨r.toArray⟩ := by
  apply ba_ext; rw [Lib.extract_data]; simp
theorem ba_isEmpty (r : List UInt8) : (⟨r.toArray⟩ : ByteArray).toList.isEmpty = r.isEmpty := by rw [ba_toList]

/-- What a call may turn: the blocks of S, and what is new. -/
structure Change (S : Nat → Prop) (w w' : World) : Prop where
  os : w'.os = w.os
  tape : w'.tape = w.tape
  output : w'.output = w.output
  size : w.heap.size ≤ w'.heap.size
  block : ∀ k, k < w.heap.size → ¬ S k → w'.heap[k]? = w.heap[k]?

namespace Change
variable {S T U : Nat → Prop} {w w' w'' : World}
theorem refl (S : Nat → Prop) (w : World) : Change S w w := ⟨rfl, rfl, rfl, Nat.le_refl _, fun _ _ _ => rfl⟩
theorem trans (h : Change S w w') (k : Change T w' w'') (hT : ∀ i, T i → S i ∨ w.heap.size ≤ i) : Change S w w'' :=
  ⟨k.os.trans h.os, k.tape.trans h.tape, k.output.trans h.output, Nat.le_trans h.size k.size, fun i hi hn =>
    (k.block i (Nat.lt_of_lt_of_le hi h.size) (fun ht => by rcases hT i ht with h | h; exact hn h; omega)).trans (h.block i hi hn)⟩
theorem mono (h : Change S w w') (hT : ∀ i, i < w.heap.size → S i → T i) : Change T w w' :=
  ⟨h.os, h.tape, h.output, h.size, fun i hi hn => h.block i hi (fun hs => hn (hT i hi hs))⟩
theorem drew (h : Change S w w') : Change S w w'.drew := ⟨h.os, h.tape, h.output, h.size, h.block⟩
theorem drewN (h : Change S w w') (n : Nat) : Change S w (w'.drewN n) := ⟨h.os, h.tape, h.output, h.size, h.block⟩
theorem alloc (h : Change S w w') (o : Obj) : Change S w (w'.alloc o) :=
  ⟨h.os, h.tape, h.output, Nat.le_trans h.size (by simp), fun i hi hn => (Below.heap_alloc w' o i (Nat.lt_of_lt_of_le hi h.size)).trans (h.block i hi hn)⟩
theorem setCell (h : Change S w w') {p : Addr} (hp : S p.block ∨ w.heap.size ≤ p.block) (u : Value) : Change S w (w'.setCell p u) :=
  ⟨h.os, h.tape, h.output, by simpa [World.setCell] using h.size, fun i hi hn => (Below.heap_setCell w' p u i (by
    rintro rfl
    rcases hp with hp | hp
    · exact hn hp
    · omega)).trans (h.block i hi hn)⟩
theorem grown (h : Change S w w') {r : Option Nat} (g : w'.grownBy w'' r) (hr : ∀ k, r = some k → S k ∨ w.heap.size ≤ k) : Change S w w'' :=
  ⟨g.os.trans h.os, g.tape.trans h.tape, g.output.trans h.output, Nat.le_trans h.size g.size, fun i hi hn =>
    (g.block i (Nat.lt_of_lt_of_le hi h.size) (fun e => by rcases hr i e.symm with h | h; exact hn h; omega)).trans (h.block i hi hn)⟩
theorem below {B : Nat} (h : Change S w w') (hB : B ≤ w.heap.size) (hS : ∀ k, S k → B ≤ k) : Below B w w' :=
  ⟨h.os, h.tape, h.output, h.size, fun k hk => h.block k (by omega) (fun hs => by have := hS k hs; omega)⟩
theorem of_below {B : Nat} (h : Below B w w') : Change (fun k => B ≤ k) w w' :=
  ⟨h.os, h.tape, h.output, h.size, fun k _ hk => h.block k (by omega)⟩
theorem lt (h : Change S w w') {k : Nat} (hk : k < w.heap.size) : k < w'.heap.size := Nat.lt_of_lt_of_le hk h.size
theorem one (b : Nat) (w : World) : Change (fun k => k = b) w w := refl _ w
theorem set {b : Nat} (h : Change (fun k => k = b) w w') (i : Nat) (u : Value) : Change (fun k => k = b) w (w'.setCell ⟨b, i, none⟩ u) := h.setCell (.inl rfl) u
end Change

/-- One block of cells, known whole. -/
def Blk (w : World) (b : Nat) (t : TypeId) (cs : Array Value) : Prop := w.heap[b]? = some (.cells cs t (0, 0))
namespace Blk
variable {w w' : World} {b : Nat} {t : TypeId} {cs : Array Value}
theorem cell (h : Blk w b t cs) (i : Nat) : w.cell? ⟨b, i, none⟩ = cs[i]? := by
  unfold Blk at h; simp [World.cell?, h]
theorem free (h : Blk w b t cs) (i : Nat) : w.frozen? ⟨b, i, none⟩ = false := by
  unfold Blk at h; simp [World.frozen?, h]
theorem lt (h : Blk w b t cs) : b < w.heap.size := lt_of_block h
theorem set (h : Blk w b t cs) (i : Nat) (v : Value) : Blk (w.setCell ⟨b, i, none⟩ v) b t (cs.setIfInBounds i v) := by
  unfold Blk at h ⊢; simp only [World.setCell, Array.getElem?_modify, h]; simp
theorem setOther (h : Blk w b t cs) {a : Addr} (ha : b ≠ a.block) (v : Value) : Blk (w.setCell a v) b t cs := by
  unfold Blk at h ⊢; rw [Below.heap_setCell _ _ _ _ ha]; exact h
theorem setBlk {c : Nat} (h : Blk w b t cs) (hc : b ≠ c) (i : Nat) (v : Value) : Blk (w.setCell ⟨c, i, none⟩ v) b t cs := h.setOther hc v
theorem drew (h : Blk w b t cs) : Blk w.drew b t cs := h
theorem drewN (h : Blk w b t cs) (n : Nat) : Blk (w.drewN n) b t cs := h
theorem alloc (h : Blk w b t cs) (o : Obj) : Blk (w.alloc o) b t cs := by
  unfold Blk at h ⊢; rw [Below.heap_alloc _ _ _ (lt_of_block h)]; exact h
theorem of_change {S : Nat → Prop} (h : Blk w b t cs) (k : Change S w w') (hS : ¬ S b) : Blk w' b t cs := by
  unfold Blk at h ⊢; rw [k.block b (lt_of_block h) hS]; exact h
theorem new (w : World) (t : TypeId) (cs : Array Value) : Blk (w.alloc (.cells cs t)) w.heap.size t cs := by
  unfold Blk; exact (MapKept.heap_alloc w _).1
end Blk

/-- From w on, the block b alone has turned: it holds cs in W. -/
structure Upd (w : World) (b : Nat) (t : TypeId) (W : World) (cs : Array Value) : Prop where
  blk : Blk W b t cs
  chg : Change (fun k => k = b) w W
namespace Upd
variable {w W : World} {b : Nat} {t : TypeId} {cs : Array Value}
theorem base (h : Blk w b t cs) : Upd w b t w cs := ⟨h, Change.one b w⟩
theorem set {i : Nat} {v : Value} (h : Upd w b t W cs) : Upd w b t (W.setCell ⟨b, i, none⟩ v) (cs.setIfInBounds i v) := ⟨h.blk.set i v, h.chg.set i v⟩
theorem drew (h : Upd w b t W cs) : Upd w b t W.drew cs := ⟨h.blk, h.chg.drew⟩
theorem drewN {n : Nat} (h : Upd w b t W cs) : Upd w b t (W.drewN n) cs := ⟨h.blk, h.chg.drewN n⟩
theorem alloc {o : Obj} (h : Upd w b t W cs) : Upd w b t (W.alloc o) cs := ⟨h.blk.alloc o, h.chg.alloc o⟩
end Upd

theorem row_of_change {S : Nat → Prop} {w w' : World} {base e size n : Nat} {v : Value} {xs : List Value} (h : w.ownsRow base e size v n xs) (k : Change S w w') (hS : ∀ g, v.ownBlock = some g → ¬ S g) : w'.ownsRow base e size v n xs := by
  obtain ⟨h1, h2⟩ := h
  refine ⟨h1, ?_⟩
  rcases h2 with h2 | ⟨g, cap, cur, rfl, hg, hh, r⟩
  · exact .inl h2
  · exact .inr ⟨g, cap, cur, rfl, hg, by rw [k.block g (lt_of_block hh) (hS g rfl)]; exact hh, r⟩
theorem row_lt {w : World} {base e size n : Nat} {v : Value} {xs : List Value} (h : w.ownsRow base e size v n xs) {g : Nat} (hg : v.ownBlock = some g) : g < w.heap.size := by
  rcases h.2 with ⟨h2, _⟩ | ⟨g', cap, cur, rfl, _, hh, r⟩
  · rw [h2] at hg; cases hg
  · cases hg; exact lt_of_block hh

section
variable {P : Program} (w : World)
/-- append on an owned row: the new row lies where the old one lay, or in a new block. -/
theorem run_append2 (t ty e : TypeId) (i : TypeInfo) (z : Value) (size bytes : Nat) (ht : P.underlying t = some (.slice e)) (hi : P.info? e = some i) (hz : i.zero = some z)
    (hsize : i.size = size) (hby : i.bytes = bytes) (hzs : z.cells.size = size) (hsz : 0 < size)
    (v : Value) (n : Nat) (xs : List Value) (hown : w.ownsRow 0 e size v n xs)
    (a : Addr) (m c : Nat) (news : List Value) (hl : news.length = m * size) (hnews : ∀ j u, news[j]? = some u → w.cell? (a.add j) = some u) (h1 : ∀ u ∈ news, u.oneCell' = true)
    (hpos : 0 < n + m) (h63 : n + m ≤ maxLen) (hbytes : (n + m) * bytes ≤ 140737488355328) :
    ∃ g cap w', (Builtin.append_ #[t, t] ty #[v, .slice (some a) m c]).run P w = .ok (.slice (some ⟨g, 0, none⟩) (n + m) cap) w' ∧ w'.ownsRow 0 e size (.slice (some ⟨g, 0, none⟩) (n + m) cap) (n + m) (xs ++ news) ∧ w.grownBy w' v.ownBlock ∧
      (v.ownBlock = some g ∨ g = w.heap.size) := by
  obtain ⟨v', w', hr, h2, h3, h4⟩ := run_append_own (P := P) w 0 t ty e i z size bytes ht hi hz hsize hby hzs hsz v n xs hown a m c news hl hnews h1 h63 hbytes (Nat.zero_le _)
  have hv : ∃ g cap, v' = .slice (some ⟨g, 0, none⟩) (n + m) cap := by
    rcases h2.2 with ⟨_, h⟩ | ⟨g, cap, _, h, _⟩
    · omega
    · exact ⟨g, cap, h⟩
  obtain ⟨g, cap, rfl⟩ := hv
  refine ⟨g, cap, w', hr, h2, h3, ?_⟩
  subst hsize
  subst hby
  have hsmall : n + m ≤ 9223372036854775807 := by simp only [maxLen] at h63; omega
  rcases hown.2 with ⟨rfl, rfl⟩ | ⟨g0, cap0, cur, rfl, _, hh, hnc, hcm, hcs, htake⟩
  · have hr2 := run_append_nil (P := P) w t ty e i z ht hi hz a m c news hl hnews (by omega) (by omega) (by have hb := hbytes; simp only [Nat.zero_add] at hb; omega)
    rw [hr2] at hr
    injection hr with hr hw
    injection hr with hr
    injection hr with hr
    injection hr with hr
    exact .inr hr.symm
  · by_cases hroom : n + m ≤ cap0
    · have hfit : n * i.size + news.length ≤ cur.size := by rw [hl, hcs, ← Nat.add_mul]; exact Nat.mul_le_mul_right _ hroom
      have hr2 := run_append_room (P := P) w t ty e i ht hi g0 n cap0 cur hh a m c news hl hnews h1 hroom hfit
      rw [hr2] at hr
      injection hr with hr hw
      injection hr with hr
      injection hr with hr
      injection hr with hr
      exact .inl (by rw [← hr]; rfl)
    · have holds : ∀ j u, xs[j]? = some u → w.cell? ((⟨g0, 0, none⟩ : Addr).add j) = some u := hown.cells (g := g0) rfl
      have hr2 := run_append_grow (P := P) w t ty e i z ht hi hz ⟨g0, 0, none⟩ n cap0 xs hown.1 holds a m c news hl hnews (by omega) (by omega) (growslice_fits (by omega) hbytes)
      rw [hr2] at hr
      injection hr with hr hw
      injection hr with hr
      injection hr with hr
      injection hr with hr
      exact .inr hr.symm

theorem wpList_append2 {ops : Array Oper} {rest : List Oper} {o : Oper} {ac : Act} {Q : Exit → Act → World → Prop} (hgd : o.guard = none) (s x : Operand) (t : TypeId)
    (ho : o.op = .call { callee := .builtin .append, args := #[s, x], argTypes := #[t, t] })
    (e : TypeId) (i : TypeInfo) (z : Value) (size bytes : Nat) (ht : P.underlying t = some (.slice e)) (hi : P.info? e = some i) (hz : i.zero = some z)
    (hsize : i.size = size) (hby : i.bytes = bytes) (hzs : z.cells.size = size) (hsz : 0 < size)
    (v : Value) (n : Nat) (xs : List Value) (hs : ac.eval s = v) (hown : w.ownsRow 0 e size v n xs)
    (a : Addr) (m c : Nat) (news : List Value) (hx : ac.eval x = .slice (some a) m c) (hl : news.length = m * size) (hnews : ∀ j u, news[j]? = some u → w.cell? (a.add j) = some u) (h1 : ∀ u ∈ news, u.oneCell' = true)
    (hpos : 0 < n + m) (h63 : n + m ≤ maxLen) (hbytes : (n + m) * bytes ≤ 140737488355328)
    (h : ∀ g cap w', w'.ownsRow 0 e size (.slice (some ⟨g, 0, none⟩) (n + m) cap) (n + m) (xs ++ news) → w.grownBy w' v.ownBlock → (v.ownBlock = some g ∨ g = w.heap.size) → wpList P ops Q rest (ac.put o.dst (.slice (some ⟨g, 0, none⟩) (n + m) cap)) w') :
    wpList P ops Q (o :: rest) ac w :=
  wpList_plain hgd fun _ hK => by
    obtain ⟨g, cap, w', hr, h2, h3, h4⟩ := run_append2 (P := P) w t o.type e i z size bytes ht hi hz hsize hby hzs hsz v n xs hown a m c news hl hnews h1 hpos h63 hbytes
    unfold Oper.wp execOp
    simp only [ho, resolve, invoke, builtin, Sem.run_bind, Sem.run_pure, Result.andThen_ok, List.map_toArray, List.map_cons, List.map_nil, hs, hx, hr]
    exact hK _ _ (h g cap w' h2 h3 h4)
end
end Go.Tg
/-
  The last step of a law's proof: a world in which nothing that was there has turned.
-/
set_option linter.unusedSimpArgs false
set_option linter.unusedVariables false
namespace Go.Tg
open Go.RowKit Go.WideShapes Go.ChangeShapes
section
variable {H : Type} {enc : TypeId × Value → H} {P : Program}
theorem post_of_below {f : Func} {s : ChangeSpec} {apart fresh handsOn again : Bool} {W W' : World} {args : Array Value} {v : Value} {ds gs : List (DataW H)} {before pa pv : List MemPlace}
    (hW : DataW.Whole enc P f.params.toList s.vars apart W args.toList ds gs before)
    (hres : ∀ (b : Nat) (sp : Nat → Bool) (hd : Bool), DataW.TrodAll enc P W' b sp hd f.resultTypes.toList (v.resultList f.resultTypes.size) (s.fn H (ds ++ gs)).results [])
    (hargs : ∀ sp : Nat → Bool, (∀ p ∈ before, sp p.block = true) → DataW.TrodAll enc P W' 0 sp true f.params.toList args.toList (s.fn H (ds ++ gs)).args pa)
    (hvars : ∀ sp : Nat → Bool, (∀ p ∈ before, sp p.block = true) → DataW.TrodVars enc P W' sp s.vars (s.fn H (ds ++ gs)).vars pv)
    (hps : before = pa ++ pv) (hb : Below W.heap.size W W')
    (hok : ∀ (j : Nat) (t : TypeId) (r : Value), f.resultTypes[j]? = some t → (v.resultList f.resultTypes.size)[j]? = some r → Value.okWide P W' .any 0 t r) :
    s.post enc P f apart fresh handsOn again W args v W' := by
  have hlt : ∀ p ∈ before, p.block < W.heap.size := fun p hp => hW.lt p hp
  have hold : ∀ p ∈ before, (fun b => decide (b < W.heap.size)) p.block = true := fun p hp => by simpa using hlt p hp
  refine ⟨ds, gs, before, [], pa, pv, hW, hres _ _ _, hargs _ hold, hvars _ hold, World.keptBut_mono (fun p hp => ⟨hp, ?_⟩) (hb.frame (· ∈ before)), fun _ => ?_⟩
  · rw [hps, List.mem_append] at hp
    exact Or.inr hp
  · obtain ⟨_, _, _, _, _, hz, hn⟩ := hW
    refine ⟨hok, _, _, ([] ++ pa) ++ pv, ⟨[] ++ pa, pv, trodAll_append (hargs _ (fun _ _ => rfl)) (hres _ _ _), hvars _ (fun _ _ => rfl), rfl, ?_, ?_⟩, ?_⟩
    · intro b off hp
      have hin : MemPlace.cell b off ∈ before := by rw [hps]; simpa using hp
      rw [hb.frozen (hlt _ hin)]
      exact hz b off hin
    · intro ha
      have := hn ha
      rw [hps] at this
      simpa using this
    · intro p hp _
      rw [hps]
      simpa using hp
end
theorem below_of_false {w w' : World} (h : Change (fun _ => False) w w') : Below w.heap.size w w' := h.below (Nat.le_refl _) (fun _ h => h.elim)

section
variable {H : Type} {enc : TypeId × Value → H} {P : Program}
theorem trodAll_stays {W W' : World} (hl : laidOutB P = true) (hb : Below W.heap.size W W') : ∀ {ts : List TypeId} {vs : List Value} {ds : List (DataW H)} {ps : List MemPlace} {sp : Nat → Bool},
    (∀ t ∈ ts, P.readableRec t = true ∧ t < P.types.size) → DataW.TrodAll enc P W 0 (fun _ => true) true ts vs ds ps → (∀ p ∈ ps, p.block < W.heap.size) → (∀ p ∈ ps, sp p.block = true) → DataW.TrodAll enc P W' 0 sp true ts vs ds ps
  | [], [], [], _, _, _, h, _, _ => h
  | t :: ts, v :: vs, d :: ds, ps, sp, hr, h, hlt, hs => by
    obtain ⟨p, q, h1, h2, rfl⟩ := h
    obtain ⟨hr1, hr2⟩ := hr t (by simp)
    exact ⟨p, q, WideElems.Trod_stays hl hr1 hr2 h1 (fun x hx => hb.same (hlt x (by simp [hx]))) (fun x hx => hs x (by simp [hx])),
      trodAll_stays hl hb (fun t' ht' => hr t' (by simp [ht'])) h2 (fun x hx => hlt x (by simp [hx])) (fun x hx => hs x (by simp [hx])), rfl⟩
  | [], _ :: _, _, _, _, _, h, _, _ => absurd h (by simp [DataW.TrodAll])
  | [], [], _ :: _, _, _, _, h, _, _ => absurd h (by simp [DataW.TrodAll])
  | _ :: _, [], _, _, _, _, h, _, _ => absurd h (by simp [DataW.TrodAll])
  | _ :: _, _ :: _, [], _, _, _, h, _, _ => absurd h (by simp [DataW.TrodAll])
/-- A law's last step: it returned true, nothing that was there has turned. -/
theorem law_post {f : Func} {s : ChangeSpec} {W W' : World} {args : Array Value} {ds gs : List (DataW H)} {before : List MemPlace} (hl : laidOutB P = true)
    (hW : DataW.Whole enc P f.params.toList s.vars false W args.toList ds gs before) (hv : s.vars = []) (hr : ∀ t ∈ f.params.toList, P.readableRec t = true ∧ t < P.types.size)
    {tb : TypeId} (hres : f.resultTypes = #[tb]) (htb : P.underlying tb = some .bool) (hfn : s.fn H ds = { results := [.lit (.bool true)], args := ds }) (hb : Below W.heap.size W W') :
    s.post enc P f false true false false W args (.bool true) W' := by
  have hlt : ∀ p ∈ before, p.block < W.heap.size := fun p hp => hW.lt p hp
  have hW0 := hW
  obtain ⟨p, q, hA, hV, rfl, hz, hn⟩ := hW
  rw [hv] at hV
  cases gs with
  | cons => exact absurd hV (by simp [DataW.TrodVars])
  | nil =>
    have hq : q = [] := hV
    subst hq
    refine ⟨ds, [], p ++ [], [], p, [], hW0, ?_, ?_, ?_, World.keptBut_mono (fun x hx => ⟨hx, ?_⟩) (hb.frame (· ∈ p ++ [])), fun h => by cases h⟩
    · rw [List.append_nil, hfn, hres]; exact trodAll_cons_mk (shut_bool htb _) trodAll_mk0
    · rw [List.append_nil, hfn]; exact trodAll_stays hl hb hr hA (fun x hx => hlt x (by simp [hx])) (fun x hx => by simpa using hlt x (by simp [hx]))
    · rw [List.append_nil, hfn, hv]; rfl
    · exact .inr (.inl (by simpa using hx))
end
end Go.Tg
/-
  The machine of layer 28 (jscript) in plain Lean.
-/
set_option linter.unusedSimpArgs false
set_option linter.unusedVariables false
namespace Tg.Js

abbrev w64 (n : Int) : Int := Go.IntKind.i64.wrap n
theorem w64_in {n : Int} (h1 : -9223372036854775808 ≤ n) (h2 : n ≤ 9223372036854775807) : w64 n = n := Go.IntWalk.i64_in _ ⟨h1, h2⟩
structure M where
  depth : Int
  stack : List UInt8
  at_ : Int
  by_ : UInt8
  taken : Bool
  said : List UInt8
  last : Int
  broken : Bool
  bad : Bool
  place : Int
  pieces : Int
  ends : Int
  seen : Int
deriving DecidableEq

def letter (b : UInt8) : Bool := decide (97 ≤ (b.toNat : Int)) && decide ((b.toNat : Int) ≤ 122) || decide (65 ≤ (b.toNat : Int)) && decide ((b.toNat : Int) ≤ 90)
def digit (b : UInt8) : Bool := decide (48 ≤ (b.toNat : Int)) && decide ((b.toNat : Int) ≤ 57)
def feedB (b : UInt8) : Bool := decide (b = 10) || decide (b = 13)
def white (b : UInt8) : Bool := decide (b = 32) || decide (9 ≤ (b.toNat : Int)) && decide ((b.toNat : Int) ≤ 13)
def inner (b : UInt8) : Bool := letter b || digit b || decide (b = 95) || decide (b = 36) || decide (128 ≤ (b.toNat : Int))
def w (s : String) : List UInt8 := s.toUTF8.data.toList
def keywords : List (List UInt8) := ["await", "break", "case", "catch", "class", "const", "continue", "default", "delete", "do", "else", "export", "extends", "finally", "for", "from", "function", "get", "if", "import", "in", "instanceof", "let", "new", "of", "return", "set", "static", "switch", "throw", "try", "typeof", "var", "void", "while", "with", "yield", "async", "as"].map w
def isKeyword (s : List UInt8) : Bool := keywords.contains s
def signs : List UInt8 := w "{}()[];,<>=!+-*/%&|^~?:."

namespace M
variable (m : M) (b : UInt8)
def fail : M := { m with bad := true, place := m.seen }
def piece : M := { m with pieces := w64 (m.pieces + 1) }
def joined : Bool := m.last == 1 && !m.broken
def ended (last : Int) : M := { m with at_ := 0, last := last, broken := false }
def push : M := if (m.stack.length : Int) = m.depth then m.fail else { m with stack := m.stack ++ [b] }.ended 0
def pair : UInt8 := if b = 41 then 40 else if b = 93 then 91 else 123
/-- the last sign that is open -/
def top : Option UInt8 := m.stack.getLast?
def pop : M :=
  match m.stack.getLast? with
  | none => m.fail
  | some t =>
    if b = 125 ∧ t = 96 then { m with stack := m.stack.dropLast, at_ := 4, by_ := 96 }
    else if t = pair b then
      let m' : M := { m with stack := m.stack.dropLast }
      if b ≠ 125 then m'.ended 1
      else
        let m2 := m'.ended 2
        if m.stack.length = 1 then { m2 with ends := w64 (m2.ends + 1) } else m2
    else m.fail
def sign : M :=
  let p := m.piece
  if b = 40 ∨ b = 91 ∨ b = 123 then p.push b
  else if b = 41 ∨ b = 93 ∨ b = 125 then p.pop b
  else if b = 59 then
    let q := p.ended 0
    if q.stack = [] then { q with ends := w64 (q.ends + 1) } else q
  else p.ended 0
def begin : M :=
  if feedB b then { m with broken := true }
  else if white b then m
  else if inner b then
    if m.joined then m.fail
    else { m.piece with at_ := if digit b then 2 else 1, said := [b] }
  else if b = 34 ∨ b = 39 then
    if m.joined then m.fail else { m.piece with at_ := 3, by_ := b }
  else if b = 96 then { m.piece with at_ := 4, by_ := b }
  else if b = 47 then { m with at_ := 9 }
  else if b = 60 ∧ m.pieces = 0 then { m with at_ := 13 }
  else if signs.contains b then m.sign b
  else m.fail
def inWord : M :=
  if inner b ∨ m.at_ = 2 ∧ b = 46 then (if (m.said.length : Int) ≤ 10 then { m with said := m.said ++ [b] } else m)
  else if m.at_ = 1 ∧ isKeyword m.said then (m.ended 3).begin b
  else (m.ended 1).begin b
def inText : M :=
  if m.taken then { m with taken := false }
  else if m.at_ ≠ 4 ∧ feedB b then m.fail
  else if b = 92 then { m with taken := true }
  else if m.at_ = 7 then (if b = 93 then { m with at_ := 6 } else m)
  else if m.at_ = 6 ∧ b = 91 then { m with at_ := 7 }
  else if m.at_ = 4 ∧ b = 36 then { m with at_ := 5 }
  else if b = m.by_ ∧ m.at_ = 6 then { m with at_ := 8 }
  else if b = m.by_ then m.ended 1
  else m
def inDollar : M :=
  let p : M := { m with at_ := 4 }
  if b = 123 then p.push 96 else p.inText b
def inSlash : M :=
  if b = 47 then { m with at_ := 10 }
  else if b = 42 then { m with at_ := 11 }
  else if m.last = 1 ∨ m.last = 2 then (m.sign 47).begin b
  else { m.piece with at_ := 6, by_ := 47 }.inText b
def inRemark : M :=
  let p : M := { m with broken := m.broken || feedB b }
  if m.at_ = 10 ∧ feedB b then { p with at_ := 0 }
  else if m.at_ = 12 ∧ b = 47 then { p with at_ := 0 }
  else if m.at_ ≠ 10 ∧ b = 42 then { p with at_ := 12 }
  else if m.at_ = 12 then { p with at_ := 11 }
  else p
def inLess : M :=
  if m.at_ = 13 ∧ b = 33 then { m with at_ := 14 }
  else if m.at_ = 14 ∧ b = 45 then { m with at_ := 15 }
  else if m.at_ = 15 ∧ b = 45 then { m with at_ := 10 }
  else m.fail
def byte : M :=
  if m.at_ = 0 then m.begin b
  else if m.at_ = 1 ∨ m.at_ = 2 ∨ m.at_ = 8 then m.inWord b
  else if m.at_ = 5 then m.inDollar b
  else if m.at_ = 9 then m.inSlash b
  else if m.at_ = 10 ∨ m.at_ = 11 ∨ m.at_ = 12 then m.inRemark b
  else if m.at_ = 13 ∨ m.at_ = 14 ∨ m.at_ = 15 then m.inLess b
  else m.inText b
def tell : Int :=
  if m.bad then 0
  else if m.stack = [] ∧ (m.at_ = 0 ∨ m.at_ = 1 ∨ m.at_ = 2 ∨ m.at_ = 8 ∨ m.at_ = 10) then 2
  else 1
/-- one byte of a piece -/
def step : M := let p := if m.bad then m else m.byte b
  { p with seen := w64 (p.seen + 1) }
def feed (m : M) (s : List UInt8) : M := s.foldl step m
end M
def new (depth : Int) : M := { depth := depth, stack := [], at_ := 0, by_ := 0, taken := false, said := [], last := 0, broken := false, bad := false, place := -1, pieces := 0, ends := 0, seen := 0 }
theorem lives1 : ((new 5).feed (w "var x = 1;")).tell = 2 ∧ ((new 5).feed (w "var x = 1;")).ends = 1 := by decide +kernel
theorem lives2 : ((new 5).feed (w "Hello world")).tell = 0 ∧ ((new 5).feed (w "Hello world")).place = 6 := by decide +kernel

/-! ### what stays -/
namespace M
theorem feed_append (m : M) (s t : List UInt8) : m.feed (s ++ t) = (m.feed s).feed t := by simp [feed]
/-- what a byte may do -/
structure Nx (c : Nat) (m m' : M) : Prop where
  seen : m'.seen = m.seen
  isBad : m'.bad = true → m'.place = m.seen ∨ m.bad = true ∧ m'.place = m.place
  good : m'.bad = false → m'.place = m.place ∧ m.bad = false
  ends : 0 ≤ m.ends → m.ends ≤ 4611686018427387904 → m.ends ≤ m'.ends ∧ m'.ends ≤ m.ends + c
theorem Nx.trans {c d e : Nat} {m m1 m2 : M} (h : Nx c m m1) (k : Nx d m1 m2) (hc : c ≤ 1) (he : c + d ≤ e) (hm : m1.ends ≤ 4611686018427387904 ∨ c = 0) : Nx e m m2 := by
  refine ⟨k.seen.trans h.seen, fun hb => ?_, fun hb => ?_, fun h0 h1 => ?_⟩
  · rcases k.isBad hb with k1 | ⟨k1, k2⟩
    · exact .inl (k1.trans h.seen)
    · rcases h.isBad k1 with h1 | ⟨h1, h2⟩
      · exact .inl (k2.trans h1)
      · exact .inr ⟨h1, k2.trans h2⟩
  · obtain ⟨k1, k2⟩ := k.good hb
    obtain ⟨h1, h2⟩ := h.good k2
    exact ⟨k1.trans h1, h2⟩
  · obtain ⟨a1, a2⟩ := h.ends h0 h1
    obtain ⟨b1, b2⟩ := k.ends (by omega) (by omega)
    omega
theorem Nx.same {c : Nat} {m m' : M} (h1 : m'.seen = m.seen) (h2 : m'.bad = m.bad) (h3 : m'.place = m.place) (h4 : m'.ends = m.ends) : Nx c m m' :=
  ⟨h1, fun h => .inr ⟨h2 ▸ h, h3⟩, fun h => ⟨h3, h2 ▸ h⟩, fun _ _ => by omega⟩
theorem Nx.fail {c : Nat} (m : M) : Nx c m m.fail := ⟨rfl, fun _ => .inl rfl, (fun h => by simp [M.fail] at h), fun _ _ => by simp only [M.fail]; omega⟩
theorem Nx.inc {m m' : M} (h1 : m'.seen = m.seen) (h2 : m'.bad = m.bad) (h3 : m'.place = m.place) (h4 : m'.ends = w64 (m.ends + 1)) : Nx 1 m m' :=
  ⟨h1, fun h => .inr ⟨h2 ▸ h, h3⟩, fun h => ⟨h3, h2 ▸ h⟩, fun h0 h5 => by rw [h4, w64_in (by omega) (by omega)]; omega⟩
theorem push_nx (m : M) (b : UInt8) : Nx 0 m (m.push b) := by
  unfold push
  split
  · exact Nx.fail m
  · exact Nx.same rfl rfl rfl rfl
theorem pop_nx (m : M) (b : UInt8) : Nx 1 m (m.pop b) := by
  unfold pop
  split
  · exact Nx.fail m
  · split
    · exact Nx.same rfl rfl rfl rfl
    · split
      · dsimp only
        split
        · exact Nx.same rfl rfl rfl rfl
        · split
          · exact Nx.inc rfl rfl rfl rfl
          · exact Nx.same rfl rfl rfl rfl
      · exact Nx.fail m
theorem sign_nx (m : M) (b : UInt8) : Nx 1 m (m.sign b) := by
  have hp : Nx 0 m m.piece := Nx.same rfl rfl rfl rfl
  unfold sign
  dsimp only
  split
  · exact hp.trans (push_nx _ b) (by omega) (by omega) (.inr rfl)
  · split
    · exact hp.trans (pop_nx _ b) (by omega) (by omega) (.inr rfl)
    · split
      · split
        · exact Nx.inc rfl rfl rfl rfl
        · exact Nx.same rfl rfl rfl rfl
      · exact Nx.same rfl rfl rfl rfl
theorem sign47 (m : M) : Nx 0 m (m.sign 47) := by
  unfold sign
  simp only [show ¬((47 : UInt8) = 40 ∨ (47 : UInt8) = 91 ∨ (47 : UInt8) = 123) by decide, show ¬((47 : UInt8) = 41 ∨ (47 : UInt8) = 93 ∨ (47 : UInt8) = 125) by decide, show ¬((47 : UInt8) = 59) by decide, if_false]
  exact Nx.same rfl rfl rfl rfl
theorem begin_nx (m : M) (b : UInt8) : Nx 1 m (m.begin b) := by
  unfold begin
  repeat' split
  all_goals first | exact Nx.fail m | exact sign_nx m b | exact Nx.same rfl rfl rfl rfl
theorem inText_nx (m : M) (b : UInt8) : Nx 1 m (m.inText b) := by
  unfold inText
  repeat' split
  all_goals first | exact Nx.fail m | exact Nx.same rfl rfl rfl rfl
theorem byte_nx (m : M) (b : UInt8) : Nx 1 m (m.byte b) := by
  unfold byte
  split
  · exact begin_nx m b
  split
  · unfold inWord
    split
    · split <;> exact Nx.same rfl rfl rfl rfl
    · split
      · exact (Nx.same (c := 0) (m := m) (m' := m.ended 3) rfl rfl rfl rfl).trans (begin_nx _ b) (by omega) (by omega) (.inr rfl)
      · exact (Nx.same (c := 0) (m := m) (m' := m.ended 1) rfl rfl rfl rfl).trans (begin_nx _ b) (by omega) (by omega) (.inr rfl)
  split
  · unfold inDollar
    dsimp only
    split
    · exact (Nx.same (c := 0) (m := m) (m' := { m with at_ := 4 }) rfl rfl rfl rfl).trans (push_nx _ 96) (by omega) (by omega) (.inr rfl)
    · exact (Nx.same (c := 0) (m := m) (m' := { m with at_ := 4 }) rfl rfl rfl rfl).trans (inText_nx _ b) (by omega) (by omega) (.inr rfl)
  split
  · unfold inSlash
    split
    · exact Nx.same rfl rfl rfl rfl
    split
    · exact Nx.same rfl rfl rfl rfl
    split
    · exact (sign47 m).trans (begin_nx _ b) (by omega) (by omega) (.inr rfl)
    · exact (Nx.same (c := 0) (m := m) (m' := { m.piece with at_ := 6, by_ := 47 }) rfl rfl rfl rfl).trans (inText_nx _ b) (by omega) (by omega) (.inr rfl)
  split
  · unfold inRemark
    dsimp only
    repeat' split
    all_goals exact Nx.same rfl rfl rfl rfl
  split
  · unfold inLess
    repeat' split
    all_goals first | exact Nx.fail m | exact Nx.same rfl rfl rfl rfl
  · exact inText_nx m b
/-- behind n bytes -/
structure Inv (n : Nat) (m : M) : Prop where
  seen : m.seen = n
  isBad : m.bad = true → 0 ≤ m.place ∧ m.place < n
  good : m.bad = false → m.place = -1
  e0 : 0 ≤ m.ends
  e1 : m.ends ≤ n
theorem step_bad (m : M) (b : UInt8) (h : m.bad = true) : m.step b = { m with seen := w64 (m.seen + 1) } := by
  unfold step; simp [h]
theorem step_good (m : M) (b : UInt8) (h : m.bad = false) : m.step b = { m.byte b with seen := w64 ((m.byte b).seen + 1) } := by
  unfold step; simp [h]
theorem step_inv {n : Nat} {m : M} (h : Inv n m) (hn : n < 1152921504606846976) (b : UInt8) : Inv (n + 1) (m.step b) ∧ m.ends ≤ (m.step b).ends ∧ (m.bad = true → (m.step b).bad = true ∧ (m.step b).place = m.place ∧ (m.step b).ends = m.ends) ∧ (m.bad = false → (m.step b).bad = true → (n : Int) ≤ (m.step b).place) := by
  have hs := h.seen
  have e0 := h.e0
  have e1 := h.e1
  cases hb : m.bad with
  | true =>
    rw [step_bad m b hb]
    obtain ⟨p1, p2⟩ := h.isBad hb
    refine ⟨⟨?_, fun _ => ⟨p1, ?_⟩, fun h2 => ?_, e0, ?_⟩, Int.le_refl _, fun _ => ⟨hb, rfl, rfl⟩, fun h2 => by cases h2⟩
    · show w64 (m.seen + 1) = _
      rw [hs, w64_in (by omega) (by omega)]; omega
    · show m.place < _; omega
    · have : m.bad = false := h2
      rw [hb] at this; cases this
    · show m.ends ≤ _; omega
  | false =>
    rw [step_good m b hb]
    have hx := byte_nx m b
    obtain ⟨g1, g2⟩ := hx.ends e0 (by omega)
    refine ⟨⟨?_, fun h2 => ?_, fun h2 => ?_, ?_, ?_⟩, g1, (fun h2 => by cases h2), fun _ h2 => ?_⟩
    · show w64 ((m.byte b).seen + 1) = _
      rw [hx.seen, hs, w64_in (by omega) (by omega)]; omega
    · show 0 ≤ (m.byte b).place ∧ (m.byte b).place < _
      rcases hx.isBad h2 with h3 | ⟨h3, _⟩
      · rw [h3, hs]; omega
      · rw [hb] at h3; cases h3
    · show (m.byte b).place = -1
      rw [(hx.good h2).1]; exact h.good hb
    · show 0 ≤ (m.byte b).ends; omega
    · show (m.byte b).ends ≤ _; omega
    · show _ ≤ (m.byte b).place
      rcases hx.isBad h2 with h3 | ⟨h3, _⟩
      · rw [h3, hs]; omega
      · rw [hb] at h3; cases h3
theorem feed_inv : ∀ (t : List UInt8) (n : Nat) (m : M), Inv n m → n + t.length ≤ 1152921504606846976 → Inv (n + t.length) (m.feed t) ∧ m.ends ≤ (m.feed t).ends ∧ (m.bad = true → (m.feed t).bad = true ∧ (m.feed t).place = m.place ∧ (m.feed t).ends = m.ends) ∧ (m.bad = false → (m.feed t).bad = true → (n : Int) ≤ (m.feed t).place)
  | [], n, m, h, _ => ⟨h, Int.le_refl _, fun h => ⟨h, rfl, rfl⟩, fun h1 h2 => by
      have : m.bad = true := h2
      rw [h1] at this; cases this⟩
  | b :: t, n, m, h, hn => by
    have hl : (b :: t).length = t.length + 1 := rfl
    obtain ⟨h1, h2, h3, h4⟩ := step_inv h (by omega) b
    obtain ⟨g1, g2, g3, g4⟩ := feed_inv t (n + 1) (m.step b) h1 (by omega)
    have e : m.feed (b :: t) = (m.step b).feed t := rfl
    rw [e]
    refine ⟨by rw [hl, show n + (t.length + 1) = n + 1 + t.length by omega]; exact g1, Int.le_trans h2 g2, fun hb => ?_, fun hb hb2 => ?_⟩
    · obtain ⟨a1, a2, a3⟩ := h3 hb
      obtain ⟨b1, b2, b3⟩ := g3 a1
      exact ⟨b1, b2.trans a2, b3.trans a3⟩
    · cases hs : (m.step b).bad with
      | true =>
        have := h4 hb hs
        rw [(g3 hs).2.1]; exact this
      | false =>
        have := g4 hs hb2
        omega
theorem new_inv (d : Int) : Inv 0 (new d) := ⟨rfl, (fun h => by cases h), fun _ => rfl, Int.le_refl 0, Int.le_refl 0⟩
theorem tell_bad {m : M} : m.tell = 0 ↔ m.bad = true := by
  unfold tell
  cases m.bad <;> simp
  split <;> decide
/-- the law -/
theorem stays (d : Int) (s t : List UInt8) (hs : s.length ≤ 1000) (ht : t.length ≤ 1000) :
    let m := (new d).feed s
    let m' := (new d).feed (s ++ t)
    (m.tell = 0 → m'.tell = 0 ∧ m'.place = m.place ∧ m'.ends = m.ends ∧ 0 ≤ m.place ∧ m.place < s.length) ∧
    (m.tell ≠ 0 → m.place = -1 ∧ (m'.place = -1 ∨ (s.length : Int) ≤ m'.place) ∧ m.ends ≤ m'.ends) := by
  dsimp only
  obtain ⟨i1, _, _, _⟩ := feed_inv s 0 (new d) (new_inv d) (by omega)
  rw [Nat.zero_add] at i1
  obtain ⟨j1, j2, j3, j4⟩ := feed_inv t s.length ((new d).feed s) i1 (by omega)
  rw [feed_append]
  constructor
  · intro h
    have hb := tell_bad.1 h
    obtain ⟨a1, a2, a3⟩ := j3 hb
    exact ⟨tell_bad.2 a1, a2, a3, i1.isBad hb⟩
  · intro h
    have hb : ((new d).feed s).bad = false := by
      cases hq : ((new d).feed s).bad with
      | true => exact absurd (tell_bad.2 hq) h
      | false => rfl
    refine ⟨i1.good hb, ?_, j2⟩
    cases hq : (((new d).feed s).feed t).bad with
    | true => exact .inr (j4 hb hq)
    | false => exact .inl (j1.good hq)
end M
end Tg.Js
/-
  The plain law of layer 27: the machine that reads JSON byte by byte comes to what the reference, value within value, comes to. No program in sight.
-/
set_option linter.unusedSimpArgs false
set_option linter.unusedVariables false
namespace Tg.Json

/-- bytes that part -/
def white (b : UInt8) : Bool := b == 32 || b == 9 || b == 10 || b == 13
def digit (b : UInt8) : Bool := 48 ≤ b && b ≤ 57
def hex (b : UInt8) : Bool := digit b || (97 ≤ b && b ≤ 102) || (65 ≤ b && b ≤ 70)
def esc (b : UInt8) : Bool := b == 34 || b == 92 || b == 47 || b == 98 || b == 102 || b == 110 || b == 114 || b == 116

/-- the machine of the program -/
structure M where
  depth : Nat
  stack : List UInt8
  pos : Nat
  key : Bool
  rest : List UInt8
  hex : Nat
  begun : Bool
  state : Nat
  place : Int
  seen : Nat

def M.start (d : Nat) : M := ⟨d, [], 0, false, [], 0, false, 1, -1, 0⟩

def M.top (m : M) : UInt8 := m.stack.getLast?.getD 0
def M.fail (m : M) (s : Nat) : M := { m with state := s, place := m.seen }
def M.push (m : M) (b : UInt8) (p : Nat) : M := if m.stack.length = m.depth then m.fail 3 else { m with stack := m.stack ++ [b], pos := p }
def M.pop (m : M) : M := { m with stack := m.stack.dropLast, pos := 5 }
def M.first (m : M) (b : UInt8) : M :=
  if b = 91 then m.push b 1
  else if b = 123 then m.push b 3
  else if b = 34 then { m with pos := 6, key := false }
  else if b = 45 then { m with pos := 10 }
  else if b = 48 then { m with pos := 11 }
  else if digit b then { m with pos := 12 }
  else if b = 116 then { m with pos := 9, rest := [114, 117, 101] }
  else if b = 102 then { m with pos := 9, rest := [97, 108, 115, 101] }
  else if b = 110 then { m with pos := 9, rest := [117, 108, 108] }
  else m.fail 0
def M.after (m : M) (b : UInt8) : M :=
  let m := { m with pos := 5 }
  if white b then m
  else if b = 44 ∧ m.top = 91 then { m with pos := 0 }
  else if b = 44 ∧ m.top = 123 then { m with pos := 2 }
  else if (b = 93 ∧ m.top = 91) ∨ (b = 125 ∧ m.top = 123) then m.pop
  else m.fail 0
def M.inText (m : M) (b : UInt8) : M :=
  if b = 34 then (if m.key then { m with pos := 4 } else { m with pos := 5 })
  else if b = 92 then { m with pos := 7 }
  else if b < 32 then m.fail 0
  else m
def M.inSlash (m : M) (b : UInt8) : M :=
  if b = 117 then { m with pos := 8, hex := 4 }
  else if esc b then { m with pos := 6 }
  else m.fail 0
def M.inUnicode (m : M) (b : UInt8) : M :=
  if Json.hex b then (if m.hex - 1 = 0 then { m with pos := 6, hex := m.hex - 1 } else { m with hex := m.hex - 1 })
  else m.fail 0
def M.inWord (m : M) (b : UInt8) : M :=
  if m.rest.head? = some b then (if m.rest.tail = [] then { m with rest := m.rest.tail, pos := 5 } else { m with rest := m.rest.tail })
  else m.fail 0
def ended (p : Nat) : Bool := p == 11 || p == 12 || p == 14 || p == 17
def isE (b : UInt8) : Bool := b == 101 || b == 69
def M.inNumber (m : M) (b : UInt8) : M :=
  if m.pos = 10 ∧ b = 48 then { m with pos := 11 }
  else if (m.pos = 10 ∨ m.pos = 12) ∧ digit b then { m with pos := 12 }
  else if (m.pos = 13 ∨ m.pos = 14) ∧ digit b then { m with pos := 14 }
  else if (m.pos = 15 ∨ m.pos = 16 ∨ m.pos = 17) ∧ digit b then { m with pos := 17 }
  else if m.pos = 15 ∧ (b = 43 ∨ b = 45) then { m with pos := 16 }
  else if (m.pos = 11 ∨ m.pos = 12) ∧ b = 46 then { m with pos := 13 }
  else if (m.pos = 11 ∨ m.pos = 12 ∨ m.pos = 14) ∧ isE b then { m with pos := 15 }
  else if ended m.pos then m.after b
  else m.fail 0
def M.names (m : M) (b : UInt8) : M :=
  if white b then m
  else if b = 34 then { m with pos := 6, key := true }
  else if b = 125 ∧ m.pos = 3 then m.pop
  else m.fail 0
def M.byte (m : M) (b : UInt8) : M :=
  if m.pos = 0 ∨ m.pos = 1 then
    (if white b then m else if b = 93 ∧ m.pos = 1 then m.pop else m.first b)
  else if m.pos = 2 ∨ m.pos = 3 then m.names b
  else if m.pos = 4 then (if white b then m else if b = 58 then { m with pos := 0 } else m.fail 0)
  else if m.pos = 5 then m.after b
  else if m.pos = 6 then m.inText b
  else if m.pos = 7 then m.inSlash b
  else if m.pos = 8 then m.inUnicode b
  else if m.pos = 9 then m.inWord b
  else m.inNumber b
def M.tell (m : M) : Nat := if m.state = 1 ∧ m.stack = [] ∧ (m.pos = 5 ∨ ended m.pos) then 2 else m.state
def M.feed1 (m : M) (b : UInt8) : M :=
  let m := { m with begun := m.begun || !white b }
  let m := if m.state = 1 then m.byte b else m
  { m with seen := m.seen + 1 }
def M.feed (m : M) (l : List UInt8) : M := l.foldl M.feed1 m

/-! The reference: what is read off the rest of the bytes: how many, and how it is: 0 bad, 1 open, 3 deep, 4 well. -/

def skip : List UInt8 → Nat
  | [] => 0
  | b :: r => if white b then skip r + 1 else 0
def word : List UInt8 → List UInt8 → Nat × Nat
  | _, [] => (0, 4)
  | [], _ :: _ => (0, 1)
  | b :: r, c :: w => if b = c then ((word r w).1 + 1, (word r w).2) else (0, 0)
def add (n : Nat) (x : Nat × Nat) : Nat × Nat := (x.1 + n, x.2)
/-- a text: 0 within it, 1 behind a backslash, 2 to 5: so many digits and one come -/
def quote : Nat → List UInt8 → Nat × Nat
  | _, [] => (0, 1)
  | k, b :: r =>
    if k = 0 then
      (if b < 32 then (0, 0) else if b = 34 then (1, 4) else if b = 92 then add 1 (quote 1 r) else add 1 (quote 0 r))
    else if k = 1 then
      (if b = 117 then add 1 (quote 5 r) else if esc b then add 1 (quote 0 r) else (0, 0))
    else (if hex b then add 1 (quote (if k = 2 then 0 else k - 1) r) else (0, 0))
/-- a number, from where it stands -/
def number : Nat → List UInt8 → Nat × Nat
  | p, [] => if ended p then (0, 4) else (0, 1)
  | p, b :: r =>
    if p = 10 ∧ b = 48 then add 1 (number 11 r)
    else if (p = 10 ∨ p = 12) ∧ digit b then add 1 (number 12 r)
    else if (p = 13 ∨ p = 14) ∧ digit b then add 1 (number 14 r)
    else if (p = 15 ∨ p = 16 ∨ p = 17) ∧ digit b then add 1 (number 17 r)
    else if p = 15 ∧ (b = 43 ∨ b = 45) then add 1 (number 16 r)
    else if (p = 11 ∨ p = 12) ∧ b = 46 then add 1 (number 13 r)
    else if (p = 11 ∨ p = 12 ∨ p = 14) ∧ isE b then add 1 (number 15 r)
    else if ended p then (0, 4)
    else (0, 0)
/-- a name and its colon, or nothing -/
def named : Bool → List UInt8 → Nat × Nat
  | false, _ => (0, 4)
  | true, [] => (0, 1)
  | true, b :: r =>
    if b ≠ 34 then (0, 0)
    else if (quote 0 r).2 ≠ 4 then add 1 (quote 0 r)
    else
      let n := (quote 0 r).1
      let k := skip (r.drop n)
      match (r.drop n).drop k with
      | [] => (1 + n + k, 1)
      | c :: _ => if c ≠ 58 then (1 + n + k, 0) else (1 + n + k + 1, 4)
def close (o : Bool) : UInt8 := if o then 125 else 93
/-- what comes behind an element -/
def behindElem (o : Bool) (next : List UInt8 → Nat × Nat) (l : List UInt8) : Nat × Nat :=
  match l.drop (skip l) with
  | [] => (skip l, 1)
  | c :: q => if c = close o then (skip l + 1, 4) else if c ≠ 44 then (skip l, 0) else add (skip l + 1) (next q)
/-- an array or an object, what opens it gone by -/
def list (val : List UInt8 → Nat × Nat) (o : Bool) : Nat → Bool → List UInt8 → Nat × Nat
  | 0, _, _ => (0, 1)
  | f + 1, one, l =>
    match l.drop (skip l) with
    | [] => (skip l, 1)
    | b :: r =>
      if one ∧ b = close o then (skip l + 1, 4)
      else add (skip l)
        (if (named o (b :: r)).2 ≠ 4 then named o (b :: r)
         else add (named o (b :: r)).1
          (let l1 := (b :: r).drop (named o (b :: r)).1
           if (val l1).2 ≠ 4 then val l1
           else add (val l1).1 (behindElem o (list val o f false) (l1.drop (val l1).1))))
def value : Nat → List UInt8 → Nat × Nat
  | 0, l =>
    match l.drop (skip l) with
    | [] => (skip l, 1)
    | b :: r =>
      if b = 91 ∨ b = 123 then (skip l, 3)
      else add (skip l) (flat b r)
  | d + 1, l =>
    match l.drop (skip l) with
    | [] => (skip l, 1)
    | b :: r =>
      if b = 91 ∨ b = 123 then add (skip l + 1) (list (value d) (b == 123) (r.length + 1) true r)
      else add (skip l) (flat b r)
where flat (b : UInt8) (r : List UInt8) : Nat × Nat :=
  if b = 34 then add 1 (quote 0 r)
  else if b = 45 then add 1 (number 10 r)
  else if digit b then number 10 (b :: r)
  else if b = 116 then word (b :: r) [116, 114, 117, 101]
  else if b = 102 then word (b :: r) [102, 97, 108, 115, 101]
  else if b = 110 then word (b :: r) [110, 117, 108, 108]
  else (0, 0)
/-- the state of all, and the place of the first byte that can't be -/
def whole (l : List UInt8) (d : Nat) : Nat × Int :=
  let x := value d l
  if x.2 = 1 then (1, -1)
  else if x.2 ≠ 4 then (x.2, x.1)
  else
    let k := skip (l.drop x.1)
    if x.1 + k < l.length then (0, (x.1 + k : Nat)) else (2, -1)

/-! The law. -/
theorem feed_nil (m : M) : m.feed [] = m := rfl
theorem feed_cons (m : M) (b : UInt8) (r : List UInt8) : m.feed (b :: r) = (m.feed1 b).feed r := rfl
theorem feed_append (m : M) (l k : List UInt8) : m.feed (l ++ k) = (m.feed l).feed k := by simp [M.feed, List.foldl_append]

theorem feed_stuck (l : List UInt8) : ∀ m : M, m.state ≠ 1 → (m.feed l).state = m.state ∧ (m.feed l).place = m.place := by
  induction l with
  | nil => intro m _; exact ⟨rfl, rfl⟩
  | cons b r ih =>
    intro m h
    have := ih (m.feed1 b) (by simp [M.feed1, h])
    rw [feed_cons]
    simp only [M.feed1, h] at this ⊢
    exact this

theorem seen_first (m : M) (b : UInt8) : (m.first b).seen = m.seen := by
  unfold M.first M.push M.fail; simp only [apply_ite M.seen, ite_self]
theorem seen_after (m : M) (b : UInt8) : (m.after b).seen = m.seen := by
  unfold M.after M.pop M.fail; simp only [apply_ite M.seen, ite_self]
theorem seen_inNumber (m : M) (b : UInt8) : (m.inNumber b).seen = m.seen := by
  unfold M.inNumber M.fail; simp only [apply_ite M.seen, ite_self, seen_after]
theorem seen_byte (m : M) (b : UInt8) : (m.byte b).seen = m.seen := by
  unfold M.byte M.names M.inText M.inSlash M.inUnicode M.inWord M.pop M.fail
  simp only [apply_ite M.seen, ite_self, seen_after, seen_first, seen_inNumber]
theorem seen_feed1 (m : M) (b : UInt8) : (m.feed1 b).seen = m.seen + 1 := by
  unfold M.feed1; simp only; split
  · rw [seen_byte]
  · rfl

/-- what has begun -/
def M.beg (m : M) (b : UInt8) : M := { m with begun := m.begun || !white b }
theorem feed1_open {m : M} {b : UInt8} (h : m.state = 1) : m.feed1 b = { (m.beg b).byte b with seen := m.seen + 1 } := by
  unfold M.feed1; simp only; rw [if_pos h]
  show _ = ({ (m.beg b).byte b with seen := (m.beg b).seen + 1 } : M)
  rw [← seen_byte (m.beg b) b]; rfl

/-- what reading comes to, and where the machine then stands -/
def Goes (m : M) (l : List UInt8) (x : Nat × Nat) (ok : M → List UInt8 → Prop) : Prop :=
  (x.2 = 4 ∧ x.1 ≤ l.length ∧ ∃ m' : M, m.feed l = m'.feed (l.drop x.1) ∧ m'.depth = m.depth ∧ m'.state = 1 ∧ m'.place = m.place ∧ m'.seen = m.seen + x.1 ∧ ok m' (l.drop x.1)) ∨
  (x.2 = 1 ∧ (m.feed l).tell = 1 ∧ (m.feed l).place = m.place) ∨
  ((x.2 = 0 ∨ x.2 = 3) ∧ (m.feed l).state = x.2 ∧ (m.feed l).place = ((m.seen + x.1 : Nat) : Int) ∧ x.1 < l.length)

theorem Goes.seq {m : M} {l : List UInt8} {n : Nat} {y : Nat × Nat} {ok ok' : M → List UInt8 → Prop} (h : Goes m l (n, 4) ok)
    (k : ∀ m' : M, m'.depth = m.depth → m'.state = 1 → m'.place = m.place → ok m' (l.drop n) → Goes m' (l.drop n) y ok') : Goes m l (add n y) ok' := by
  rcases h with ⟨_, hn, m', hf, hd, hs, hp, he, ho⟩ | ⟨h, _⟩ | ⟨h, _⟩
  · simp only at hn hf he ho
    rcases k m' hd hs hp ho with ⟨h4, hn', m'', hf', hd', hs', hp', he', ho'⟩ | ⟨h1, ht, hp'⟩ | ⟨h0, hs', hp', hl⟩
    · refine .inl ⟨h4, ?_, m'', ?_, hd'.trans hd, hs', hp'.trans hp, ?_, ?_⟩
      · simp only [add]; simp at hn'; omega
      · simp only [add]; rw [hf, hf', List.drop_drop, Nat.add_comm]
      · simp only [add]; omega
      · simp only [add]; rw [List.drop_drop, Nat.add_comm] at ho'; exact ho'
    · exact .inr (.inl ⟨h1, by rw [hf]; exact ht, by rw [hf, hp', hp]⟩)
    · refine .inr (.inr ⟨h0, by rw [hf]; exact hs', ?_, ?_⟩)
      · rw [hf, hp', he]; simp only [add]; congr 1; omega
      · simp only [add]; simp at hl; omega
  · simp at h
  · simp at h
theorem Goes.one {m : M} {b : UInt8} {r : List UInt8} {y : Nat × Nat} {ok : M → List UInt8 → Prop}
    (hd : (m.feed1 b).depth = m.depth) (hp : (m.feed1 b).place = m.place) (hs : (m.feed1 b).state = 1)
    (k : Goes (m.feed1 b) r y ok) : Goes m (b :: r) (add 1 y) ok := by
  have : Goes m (b :: r) (1, 4) (fun m' _ => m' = m.feed1 b) :=
    .inl ⟨rfl, by simp, m.feed1 b, by simp [feed_cons], hd, hs, hp, seen_feed1 m b, rfl⟩
  refine this.seq (fun m' _ _ _ h => ?_)
  subst h; exact k
theorem Goes.bad {m : M} {b : UInt8} {r : List UInt8} {s : Nat} {ok : M → List UInt8 → Prop} (hs : s = 0 ∨ s = 3)
    (h : (m.feed1 b).state = s) (hp : (m.feed1 b).place = m.seen) : Goes m (b :: r) (0, s) ok := by
  refine .inr (.inr ⟨hs, ?_, ?_, by simp⟩) <;> rw [feed_cons]
  · rw [(feed_stuck r _ (by rw [h]; omega)).1, h]
  · rw [(feed_stuck r _ (by rw [h]; omega)).2, hp]; simp
theorem Goes.here {m : M} {l : List UInt8} {ok : M → List UInt8 → Prop} (h1 : m.state = 1) (h : ok m l) : Goes m l (0, 4) ok :=
  .inl ⟨rfl, by simp, m, by simp, rfl, h1, rfl, by simp, by simpa using h⟩
theorem Goes.mono {m : M} {l : List UInt8} {x : Nat × Nat} {ok ok' : M → List UInt8 → Prop} (h : Goes m l x ok) (k : ∀ m' l', ok m' l' → ok' m' l') : Goes m l x ok' := by
  rcases h with ⟨h4, hn, m', hf, hd, hs, hp, he, ho⟩ | h | h
  · exact .inl ⟨h4, hn, m', hf, hd, hs, hp, he, k _ _ ho⟩
  · exact .inr (.inl h)
  · exact .inr (.inr h)

/-- where texts stand -/
def tpos (k : Nat) : Nat := if k = 0 then 6 else if k = 1 then 7 else 8
theorem quote_goes (l : List UInt8) : ∀ (k : Nat) (m : M), m.state = 1 → m.pos = tpos k → (2 ≤ k → m.hex = k - 1) → k ≤ 5 →
    Goes m l (quote k l) (fun m' _ => m'.stack = m.stack ∧ m'.pos = if m.key then 4 else 5) := by
  induction l with
  | nil =>
    intro k m h1 hp _ _
    refine .inr (.inl ⟨by simp [quote], ?_, rfl⟩)
    show m.tell = 1
    unfold M.tell
    rw [if_neg, h1]
    rw [hp]; unfold tpos; rintro ⟨_, _, h⟩; revert h; split <;> (try split) <;> decide
  | cons b r ih =>
    intro k m h1 hp hh hk
    unfold quote
    by_cases k0 : k = 0
    · subst k0
      simp only [tpos, if_true] at hp
      rw [if_pos rfl]
      by_cases c1 : b < 32
      · rw [if_pos c1]
        have c2 : b ≠ 34 := by rintro rfl; revert c1; decide
        have c3 : b ≠ 92 := by rintro rfl; revert c1; decide
        exact Goes.bad (.inl rfl) (by simp [M.feed1, h1, M.byte, hp, M.inText, c1, c2, c3, M.fail]) (by simp [M.feed1, h1, M.byte, hp, M.inText, c1, c2, c3, M.fail])
      · rw [if_neg c1]
        by_cases c2 : b = 34
        · rw [if_pos c2]
          have : (1, 4) = add 1 (0, 4) := rfl
          rw [this]
          refine Goes.one ?_ ?_ ?_ (Goes.here ?_ ⟨?_, ?_⟩) <;> cases hkey : m.key <;> simp [M.feed1, h1, M.byte, hp, M.inText, c2, hkey]
        · rw [if_neg c2]
          by_cases c3 : b = 92
          · rw [if_pos c3]
            refine Goes.one ?_ ?_ ?_ ((ih 1 _ ?_ ?_ (by omega) (by omega)).mono ?_)
            all_goals simp [M.feed1, h1, M.byte, hp, M.inText, c3, tpos]
          · rw [if_neg c3]
            refine Goes.one ?_ ?_ ?_ ((ih 0 _ ?_ ?_ (by omega) (by omega)).mono ?_)
            all_goals simp [M.feed1, h1, M.byte, hp, M.inText, c3, c2, c1, tpos]
    · rw [if_neg k0]
      by_cases k1 : k = 1
      · subst k1
        simp only [tpos] at hp
        rw [if_pos rfl]
        by_cases c1 : b = 117
        · rw [if_pos c1]
          refine Goes.one ?_ ?_ ?_ ((ih 5 _ ?_ ?_ (fun _ => ?_) (by omega)).mono ?_)
          all_goals simp [M.feed1, h1, M.byte, hp, M.inSlash, c1, tpos]
        · rw [if_neg c1]
          by_cases c2 : esc b
          · rw [if_pos c2]
            refine Goes.one ?_ ?_ ?_ ((ih 0 _ ?_ ?_ (fun _ => ?_) (by omega)).mono ?_)
            all_goals first | omega | simp [M.feed1, h1, M.byte, hp, M.inSlash, c1, c2, tpos]
          · rw [if_neg c2]
            exact Goes.bad (.inl rfl) (by simp [M.feed1, h1, M.byte, hp, M.inSlash, c1, c2, M.fail]) (by simp [M.feed1, h1, M.byte, hp, M.inSlash, c1, c2, M.fail])
      · rw [if_neg k1]
        have hx := hh (by omega)
        have hp8 : m.pos = 8 := by rw [hp]; simp [tpos, k0, k1]
        by_cases c1 : hex b
        · rw [if_pos c1]
          by_cases k2 : k = 2
          · subst k2
            rw [if_pos rfl]
            refine Goes.one ?_ ?_ ?_ ((ih 0 _ ?_ ?_ (fun _ => ?_) (by omega)).mono ?_)
            all_goals first | omega | simp [M.feed1, h1, M.byte, hp8, M.inUnicode, c1, hx, tpos]
          · rw [if_neg k2]
            have e1 : ¬ (k - 1 - 1 = 0) := by omega
            have e2 : ¬ (k - 1 = 0) := by omega
            have e3 : ¬ (k - 1 = 1) := by omega
            refine Goes.one ?_ ?_ ?_ ((ih (k - 1) _ ?_ ?_ (fun _ => ?_) (by omega)).mono ?_)
            all_goals simp [M.feed1, h1, M.byte, hp8, M.inUnicode, c1, hx, tpos, e1, e2, e3]
        · rw [if_neg c1]
          exact Goes.bad (.inl rfl) (by simp [M.feed1, h1, M.byte, hp8, M.inUnicode, c1, M.fail]) (by simp [M.feed1, h1, M.byte, hp8, M.inUnicode, c1, M.fail])

theorem number_goes (l : List UInt8) : ∀ (p : Nat) (m : M), m.state = 1 → m.pos = p → 10 ≤ p → p ≤ 17 →
    Goes m l (number p l) (fun m' l' => m'.stack = m.stack ∧ ended m'.pos = true ∧ ∀ b r, l' = b :: r → (m'.beg b).byte b = (m'.beg b).after b) := by
  induction l with
  | nil =>
    intro p m h1 hp _ _
    unfold number
    by_cases c : ended p = true
    · rw [if_pos c]
      exact Goes.here h1 ⟨rfl, by rw [hp]; exact c, fun b r h => by simp at h⟩
    · rw [if_neg c]
      refine .inr (.inl ⟨rfl, ?_, rfl⟩)
      show m.tell = 1
      unfold M.tell
      rw [if_neg, h1]
      rintro ⟨_, _, h | h⟩
      · omega
      · rw [hp] at h; exact c h
  | cons b r ih =>
    intro p m h1 hp h10 h17
    have hp' : (m.beg b).pos = p := hp
    have hb' : (m.beg b).byte b = (m.beg b).inNumber b := by
      unfold M.byte
      rw [if_neg (by omega), if_neg (by omega), if_neg (by omega), if_neg (by omega), if_neg (by omega), if_neg (by omega), if_neg (by omega), if_neg (by omega)]
    have go : ∀ q : Nat, 10 ≤ q → q ≤ 17 → (m.beg b).inNumber b = { m.beg b with pos := q } → 
        Goes m (b :: r) (add 1 (number q r)) (fun m' l' => m'.stack = m.stack ∧ ended m'.pos = true ∧ ∀ b r, l' = b :: r → (m'.beg b).byte b = (m'.beg b).after b) := by
      intro q hq hq' e
      refine Goes.one ?_ ?_ ?_ ((ih q _ ?_ ?_ hq hq').mono ?_)
      all_goals rw [feed1_open h1, hb', e]
      all_goals first | exact h1 | exact fun _ _ h => h | rfl
    unfold number
    by_cases c1 : p = 10 ∧ b = 48
    · rw [if_pos c1]; exact go 11 (by omega) (by omega) (by unfold M.inNumber; rw [hp', if_pos c1])
    rw [if_neg c1]
    by_cases c2 : (p = 10 ∨ p = 12) ∧ digit b
    · rw [if_pos c2]; exact go 12 (by omega) (by omega) (by unfold M.inNumber; rw [hp', if_neg c1, if_pos c2])
    rw [if_neg c2]
    by_cases c3 : (p = 13 ∨ p = 14) ∧ digit b
    · rw [if_pos c3]; exact go 14 (by omega) (by omega) (by unfold M.inNumber; rw [hp', if_neg c1, if_neg c2, if_pos c3])
    rw [if_neg c3]
    by_cases c4 : (p = 15 ∨ p = 16 ∨ p = 17) ∧ digit b
    · rw [if_pos c4]; exact go 17 (by omega) (by omega) (by unfold M.inNumber; rw [hp', if_neg c1, if_neg c2, if_neg c3, if_pos c4])
    rw [if_neg c4]
    by_cases c5 : p = 15 ∧ (b = 43 ∨ b = 45)
    · rw [if_pos c5]; exact go 16 (by omega) (by omega) (by unfold M.inNumber; rw [hp', if_neg c1, if_neg c2, if_neg c3, if_neg c4, if_pos c5])
    rw [if_neg c5]
    by_cases c6 : (p = 11 ∨ p = 12) ∧ b = 46
    · rw [if_pos c6]; exact go 13 (by omega) (by omega) (by unfold M.inNumber; rw [hp', if_neg c1, if_neg c2, if_neg c3, if_neg c4, if_neg c5, if_pos c6])
    rw [if_neg c6]
    by_cases c7 : (p = 11 ∨ p = 12 ∨ p = 14) ∧ isE b
    · rw [if_pos c7]; exact go 15 (by omega) (by omega) (by unfold M.inNumber; rw [hp', if_neg c1, if_neg c2, if_neg c3, if_neg c4, if_neg c5, if_neg c6, if_pos c7])
    rw [if_neg c7]
    by_cases c8 : ended p = true
    · rw [if_pos c8]
      refine Goes.here h1 ⟨rfl, by rw [hp]; exact c8, fun b' r' e => ?_⟩
      injection e with e1 e2
      subst e1
      rw [hb']; unfold M.inNumber; rw [hp', if_neg c1, if_neg c2, if_neg c3, if_neg c4, if_neg c5, if_neg c6, if_neg c7, if_pos c8]
    · rw [if_neg c8]
      have e : (m.beg b).inNumber b = (m.beg b).fail 0 := by
        unfold M.inNumber; rw [hp', if_neg c1, if_neg c2, if_neg c3, if_neg c4, if_neg c5, if_neg c6, if_neg c7, if_neg c8]
      exact Goes.bad (.inl rfl) (by rw [feed1_open h1, hb', e]; rfl) (by rw [feed1_open h1, hb', e]; rfl)

/-- the rest of a word: not empty -/
theorem word_goes (l : List UInt8) : ∀ (w : List UInt8) (m : M), m.state = 1 → m.pos = 9 → m.rest = w → w ≠ [] →
    Goes m l (word l w) (fun m' _ => m'.stack = m.stack ∧ m'.pos = 5) := by
  induction l with
  | nil =>
    intro w m h1 hp hr hw
    obtain ⟨c, w', rfl⟩ := List.exists_cons_of_ne_nil hw
    refine .inr (.inl ⟨rfl, ?_, rfl⟩)
    show m.tell = 1
    unfold M.tell
    rw [if_neg, h1]
    rw [hp]; rintro ⟨_, _, h⟩; revert h; decide
  | cons b r ih =>
    intro w m h1 hp hr hw
    obtain ⟨c, w', rfl⟩ := List.exists_cons_of_ne_nil hw
    unfold word
    by_cases e : b = c
    · subst e
      rw [if_pos rfl]
      by_cases hw' : w' = []
      · subst hw'
        have : ((word r []).1 + 1, (word r []).2) = add 1 (0, 4) := by cases r <;> rfl
        rw [this]
        refine Goes.one ?_ ?_ ?_ (Goes.here ?_ ⟨?_, ?_⟩)
        all_goals simp [M.feed1, h1, M.byte, hp, M.inWord, hr]
      · refine Goes.one (y := word r w') ?_ ?_ ?_ ((ih w' _ ?_ ?_ ?_ hw').mono ?_)
        all_goals simp [M.feed1, h1, M.byte, hp, M.inWord, hr, hw']
    · rw [if_neg e]
      have e' : ¬ c = b := fun h => e h.symm
      exact Goes.bad (.inl rfl) (by simp [M.feed1, h1, M.byte, hp, M.inWord, hr, e', M.fail]) (by simp [M.feed1, h1, M.byte, hp, M.inWord, hr, e', M.fail])

/-- blanks where nothing turns by them -/
theorem skip_le (l : List UInt8) : skip l ≤ l.length := by
  induction l with
  | nil => simp [skip]
  | cons b r ih => unfold skip; split <;> simp <;> omega
theorem skip_head (l : List UInt8) (b : UInt8) (r : List UInt8) (h : l.drop (skip l) = b :: r) : white b = false := by
  induction l with
  | nil => simp [skip] at h
  | cons c q ih =>
    unfold skip at h
    by_cases e : white c = true
    · rw [if_pos e] at h; exact ih h
    · rw [if_neg e] at h; simp at h; rw [← h.1]; simpa using e
theorem skip_goes (l : List UInt8) : ∀ (m : M), m.state = 1 → (∀ n : M, n.pos = m.pos → ∀ b, white b = true → n.byte b = n) →
    Goes m l (skip l, 4) (fun m' _ => m'.stack = m.stack ∧ m'.pos = m.pos) := by
  induction l with
  | nil => intro m h1 _; exact Goes.here h1 ⟨rfl, rfl⟩
  | cons b r ih =>
    intro m h1 hw
    unfold skip
    by_cases e : white b = true
    · rw [if_pos e]
      have hb := hw (m.beg b) rfl b e
      refine Goes.one (y := (skip r, 4)) ?_ ?_ ?_ ((ih _ ?_ ?_).mono ?_)
      all_goals rw [feed1_open h1, hb]
      all_goals first | exact h1 | exact hw | exact fun _ _ h => h | rfl
    · rw [if_neg e]; exact Goes.here h1 ⟨rfl, rfl⟩

def okB (st : List UInt8) (m : M) (l : List UInt8) : Prop :=
  m.stack = st ∧ (m.pos = 5 ∨ ended m.pos = true) ∧ ∀ b r, l = b :: r → (m.beg b).byte b = (m.beg b).after b
theorem okB_five {m : M} {l : List UInt8} (h : m.pos = 5) : okB m.stack m l := by
  refine ⟨rfl, .inl h, fun b r _ => ?_⟩
  have : (m.beg b).pos = 5 := h
  unfold M.byte
  rw [if_neg (by omega), if_neg (by omega), if_neg (by omega), if_pos this]
theorem okB_number {m m' : M} {l : List UInt8} (h : m'.stack = m.stack ∧ ended m'.pos = true ∧ ∀ b r, l = b :: r → (m'.beg b).byte b = (m'.beg b).after b) : okB m.stack m' l :=
  ⟨h.1, .inr h.2.1, h.2.2⟩
theorem okB_of {st : List UInt8} {m : M} {l : List UInt8} (h1 : m.stack = st) (h : m.pos = 5) : okB st m l := h1 ▸ okB_five h
theorem Goes.chok {m : M} {l : List UInt8} {x : Nat × Nat} {ok ok' : M → List UInt8 → Prop} (h : Goes m l x ok) (h4 : x.2 ≠ 4) : Goes m l x ok' := by
  rcases h with h | h | h
  · exact absurd h.1 h4
  · exact .inr (.inl h)
  · exact .inr (.inr h)
theorem Goes.open {m : M} {l : List UInt8} {n : Nat} {ok : M → List UInt8 → Prop} (h : m.tell = 1) (e : l = []) : Goes m l (n, 1) ok := by
  subst e; exact .inr (.inl ⟨rfl, h, rfl⟩)
/-- the second part is at hand where the first is gone by -/
theorem Goes.then {m : M} {l : List UInt8} {n : Nat} {ok : M → List UInt8 → Prop} {x : Nat × Nat} {ok' : M → List UInt8 → Prop} (h : Goes m l (n, 4) ok) (hx : x.1 = n + (x.1 - n))
    (k : ∀ m' : M, m'.depth = m.depth → m'.state = 1 → m'.place = m.place → ok m' (l.drop n) → Goes m' (l.drop n) (x.1 - n, x.2) ok') : Goes m l x ok' := by
  have := h.seq k
  have e : add n (x.1 - n, x.2) = x := by unfold add; ext <;> simp; omega
  rwa [e] at this

theorem after_white {n : M} (h : n.pos = 5) (b : UInt8) (hb : white b = true) : n.byte b = n := by
  unfold M.byte
  rw [if_neg (by omega), if_neg (by omega), if_neg (by omega), if_pos h]
  unfold M.after; rw [if_pos hb]; cases n; simp at h; simp [h]
theorem behind_goes {st : List UInt8} (l : List UInt8) (m : M) (h1 : m.state = 1) (h : okB st m l) : Goes m l (skip l, 4) (okB st) := by
  cases l with
  | nil => exact Goes.here h1 h
  | cons b r =>
    by_cases e : white b = true
    · have hb : (m.beg b).byte b = { m.beg b with pos := 5 } := by
        rw [h.2.2 b r rfl]; unfold M.after; rw [if_pos e]
      have : skip (b :: r) = skip r + 1 := by rw [skip, if_pos e]
      rw [this]
      refine Goes.one (y := (skip r, 4)) ?_ ?_ ?_ ((skip_goes r _ ?_ ?_).mono ?_)
      all_goals rw [feed1_open h1, hb]
      · rfl
      · rfl
      · exact h1
      · exact h1
      · exact fun n hn b hb => after_white hn b hb
      · rintro m' l' ⟨h2, h3⟩
        exact okB_of (h2.trans h.1) h3
    · have : skip (b :: r) = 0 := by rw [skip, if_neg e]
      rw [this]; exact Goes.here h1 h

def opn (o : Bool) : UInt8 := if o then 123 else 91
def lpos (o one : Bool) : Nat := if o then (if one then 3 else 2) else (if one then 1 else 0)
theorem top_opn {m : M} {st : List UInt8} {o : Bool} (h : m.stack = st ++ [opn o]) : m.top = opn o := by simp [M.top, h]

theorem named_goes {m : M} {b : UInt8} {r : List UInt8} (h1 : m.state = 1) (hp : m.pos = 2 ∨ m.pos = 3) (hw : white b = false) (h3 : m.pos = 3 → b ≠ 125) :
    Goes m (b :: r) (named true (b :: r)) (fun m' _ => m'.stack = m.stack ∧ m'.pos = 0) := by
  have hb : (m.beg b).byte b = (m.beg b).names b := by
    have : (m.beg b).pos = m.pos := rfl
    unfold M.byte; rw [if_neg (by omega), if_pos (by omega)]
  by_cases c : b = 34
  · have hb2 : (m.beg b).byte b = { m.beg b with pos := 6, key := true } := by rw [hb]; unfold M.names; rw [if_neg (by simp [hw]), if_pos c]
    have hq : Goes m (b :: r) (add 1 (quote 0 r)) (fun m' _ => m'.stack = m.stack ∧ m'.pos = 4) := by
      refine Goes.one ?_ ?_ ?_ ((quote_goes r 0 _ ?_ ?_ ?_ ?_).mono ?_)
      all_goals try rw [feed1_open h1, hb2]
      all_goals first | rfl | exact h1 | exact fun _ _ h => h | (intro h; omega) | omega
    simp only [named]
    rw [if_neg (by simp [c])]
    by_cases q : (quote 0 r).2 = 4
    · rw [if_neg (by simp [q])]
      have eq : add 1 (quote 0 r) = (1 + (quote 0 r).1, 4) := by unfold add; rw [q, Nat.add_comm]
      rw [eq] at hq
      generalize hn : (quote 0 r).1 = n at *
      have hdrop : (b :: r).drop (1 + n) = r.drop n := by rw [Nat.add_comm]; rfl
      have hk : Goes m (b :: r) (1 + n + skip (r.drop n), 4) (fun m' _ => m'.stack = m.stack ∧ m'.pos = 4) := by
        have := hq.seq (y := (skip (r.drop n), 4)) (ok' := fun m' _ => m'.stack = m.stack ∧ m'.pos = 4) (fun m' _ hs _ ho => by
          rw [hdrop]
          refine (skip_goes (r.drop n) m' hs (fun k hk b hb => ?_)).mono (fun _ _ h => ⟨h.1.trans ho.1, h.2.trans ho.2⟩)
          unfold M.byte
          rw [if_neg (by omega), if_neg (by omega), if_pos (by omega), if_pos hb])
        simpa [add, Nat.add_comm] using this
      have hd2 : (b :: r).drop (1 + n + skip (r.drop n)) = (r.drop n).drop (skip (r.drop n)) := by rw [← List.drop_drop, hdrop]
      split
      · rename_i e
        refine hk.then (by simp) (fun m' _ hs _ ho => Goes.open ?_ (by rw [hd2]; exact e))
        unfold M.tell; rw [if_neg, hs]
        rw [ho.2]; rintro ⟨_, _, h⟩; revert h; decide
      · rename_i c' q' e
        have hwc := skip_head _ _ _ e
        have hpos : ∀ m' : M, m'.pos = 4 → (m'.beg c').byte c' = if c' = 58 then { m'.beg c' with pos := 0 } else (m'.beg c').fail 0 := by
          intro m' h
          have : (m'.beg c').pos = 4 := h
          unfold M.byte
          rw [if_neg (by omega), if_neg (by omega), if_pos this, if_neg (by simp [hwc])]
        by_cases c58 : c' = 58
        · rw [if_neg (by simp [c58])]
          refine hk.then (by simp) (fun m' _ hs _ ho => ?_)
          rw [hd2, e]
          have hbb := hpos m' ho.2
          rw [if_pos c58] at hbb
          have : ((1 + n + skip (r.drop n) + 1, 4).1 - (1 + n + skip (r.drop n)), (1 + n + skip (r.drop n) + 1, 4).2) = add 1 (0, 4) := by simp [add]
          rw [this]
          refine Goes.one ?_ ?_ ?_ (Goes.here ?_ ⟨?_, ?_⟩)
          all_goals rw [feed1_open hs, hbb]
          · rfl
          · rfl
          · exact hs
          · exact hs
          · exact ho.1
        · rw [if_pos c58]
          refine hk.then (by simp) (fun m' _ hs _ ho => ?_)
          rw [hd2, e]
          have hbb := hpos m' ho.2
          rw [if_neg c58] at hbb
          simp only [Nat.sub_self]
          exact Goes.bad (.inl rfl) (by rw [feed1_open hs, hbb]; rfl) (by rw [feed1_open hs, hbb]; rfl)
    · rw [if_pos q]; exact hq.chok (by simpa [add] using q)
  · simp only [named]
    rw [if_pos c]
    have hb2 : (m.beg b).byte b = (m.beg b).fail 0 := by
      rw [hb]; unfold M.names
      rw [if_neg (by simp [hw]), if_neg c, if_neg (fun h => h3 h.2 h.1)]
    exact Goes.bad (.inl rfl) (by rw [feed1_open h1, hb2]; rfl) (by rw [feed1_open h1, hb2]; rfl)

theorem tell_open {m : M} (h1 : m.state = 1) (h : m.stack ≠ []) : m.tell = 1 := by
  unfold M.tell; rw [if_neg (fun x => h x.2.1), h1]
theorem tell_open' {m : M} (h1 : m.state = 1) (h : m.pos ≤ 10) (h5 : m.pos ≠ 5) : m.tell = 1 := by
  unfold M.tell; rw [if_neg, h1]
  rintro ⟨_, _, x | x⟩
  · exact h5 x
  · unfold ended at x; simp at x; omega
theorem behindElem_goes {st : List UInt8} {o : Bool} {next : List UInt8 → Nat × Nat} {m : M} {l : List UInt8} (h1 : m.state = 1) (h : okB (st ++ [opn o]) m l)
    (hn : ∀ (c : UInt8) (q : List UInt8) (m' : M), l.drop (skip l) = c :: q → m'.state = 1 → m'.stack = st ++ [opn o] → m'.depth = m.depth → m'.pos = lpos o false → Goes m' q (next q) (okB st)) :
    Goes m l (behindElem o next l) (okB st) := by
  have hk := behind_goes l m h1 h
  unfold behindElem
  split
  · rename_i e
    refine hk.then (by simp) (fun m' _ hs _ ho => Goes.open ?_ e)
    exact tell_open hs (by rw [ho.1]; simp)
  · rename_i c q e
    have hw := skip_head _ _ _ e
    have key : ∀ m' : M, okB (st ++ [opn o]) m' (l.drop (skip l)) → (m'.beg c).byte c = if c = close o then { m'.beg c with stack := st, pos := 5 } else if c = 44 then { m'.beg c with pos := lpos o false } else ({ m'.beg c with pos := 5 } : M).fail 0 := by
      intro m' ho
      rw [ho.2.2 c q e]
      have ht : ({ m'.beg c with pos := 5 } : M).top = opn o := by
        have : ({ m'.beg c with pos := 5 } : M).stack = st ++ [opn o] := ho.1
        exact top_opn this
      have hst : (m'.beg c).stack = st ++ [opn o] := ho.1
      unfold M.after
      simp only [ht, hw, M.pop, hst, List.dropLast_concat]
      cases o <;> by_cases c1 : c = 44 <;> by_cases c2 : c = 93 <;> by_cases c3 : c = 125 <;> simp_all [opn, close, lpos]
    by_cases c1 : c = close o
    · rw [if_pos c1]
      refine hk.then (by simp) (fun m' _ hs _ ho => ?_)
      have hb := key m' ho
      rw [if_pos c1] at hb
      rw [e]
      have : ((skip l + 1, 4).1 - skip l, (skip l + 1, 4).2) = add 1 (0, 4) := by simp [add]
      rw [this]
      refine Goes.one ?_ ?_ ?_ (Goes.here ?_ (okB_of ?_ ?_))
      all_goals rw [feed1_open hs, hb]
      all_goals first | rfl | exact hs
    · rw [if_neg c1]
      by_cases c2 : c = 44
      · rw [if_neg (by simp [c2])]
        have : add (skip l + 1) (next q) = add (skip l) (add 1 (next q)) := by simp [add]; omega
        rw [this]
        refine hk.seq (fun m' hd hs _ ho => ?_)
        have hb := key m' ho
        rw [if_neg c1, if_pos c2] at hb
        rw [e]
        refine Goes.one ?_ ?_ ?_ (hn c q _ e ?_ ?_ ?_ ?_)
        all_goals rw [feed1_open hs, hb]
        all_goals first | rfl | exact hs | exact ho.1 | exact hd
      · rw [if_pos c2]
        refine hk.then (by simp) (fun m' _ hs _ ho => ?_)
        have hb := key m' ho
        rw [if_neg c1, if_neg c2] at hb
        rw [e]
        simp only [Nat.sub_self]
        exact Goes.bad (.inl rfl) (by rw [feed1_open hs, hb]; rfl) (by rw [feed1_open hs, hb]; rfl)

/-- where a value may begin -/
def vpos (m : M) (l : List UInt8) : Prop := m.pos = 0 ∨ (m.pos = 1 ∧ ∀ b r, l.drop (skip l) = b :: r → b ≠ 93)
theorem list_goes {st : List UInt8} {o : Bool} {D : Nat} {val : List UInt8 → Nat × Nat}
    (hval : ∀ (m : M) (l : List UInt8), m.state = 1 → m.stack = st ++ [opn o] → m.depth = D → vpos m l → Goes m l (val l) (okB (st ++ [opn o]))) :
    ∀ (f : Nat) (l : List UInt8) (one : Bool) (m : M), l.length < f → m.state = 1 → m.stack = st ++ [opn o] → m.depth = D → m.pos = lpos o one →
      Goes m l (list val o f one l) (okB st) := by
  intro f
  induction f with
  | zero => intro l one m h; omega
  | succ f ih =>
    intro l one m hf h1 hst hd hp
    have hwhite : ∀ n : M, n.pos = m.pos → ∀ b, white b = true → n.byte b = n := by
      intro n hn b hb
      rw [hp] at hn
      unfold M.byte M.names
      rw [hn]
      cases o <;> cases one <;> simp [lpos, hb]
    have hk := skip_goes l m h1 hwhite
    unfold list
    split
    · rename_i e
      refine hk.then (by simp) (fun m' _ hs _ ho => Goes.open ?_ e)
      exact tell_open hs (by rw [ho.1, hst]; simp)
    · rename_i b r e
      have hw := skip_head _ _ _ e
      have hlen : r.length + 1 ≤ l.length := by
        have := congrArg List.length e; simp at this; omega
      by_cases c : one = true ∧ b = close o
      · rw [if_pos c]
        refine hk.then (by simp) (fun m' _ hs _ ho => ?_)
        rw [e]
        have hpp : (m'.beg b).pos = lpos o one := ho.2.trans hp
        have hss : (m'.beg b).stack = st ++ [opn o] := ho.1.trans hst
        have hb : (m'.beg b).byte b = { m'.beg b with stack := st, pos := 5 } := by
          unfold M.byte M.names M.pop
          rw [hpp, hss]
          obtain ⟨rfl, rfl⟩ := c
          cases o <;> simp [lpos, close, white]
        have : ((skip l + 1, 4).1 - skip l, (skip l + 1, 4).2) = add 1 (0, 4) := by simp [add]
        rw [this]
        refine Goes.one ?_ ?_ ?_ (Goes.here ?_ (okB_of ?_ ?_))
        all_goals rw [feed1_open hs, hb]
        all_goals first | rfl | exact hs
      · rw [if_neg c]
        refine hk.seq (fun m' hd' hs _ ho => ?_)
        rw [e]
        have hpp : m'.pos = lpos o one := ho.2.trans hp
        have hss : m'.stack = st ++ [opn o] := ho.1.trans hst
        have hname : Goes m' (b :: r) (named o (b :: r)) (fun m2 _ => m2.stack = st ++ [opn o] ∧ ((o = true ∧ m2.pos = 0) ∨ (o = false ∧ m2.pos = lpos o one))) := by
          cases o with
          | true =>
            refine (named_goes hs ?_ hw ?_).mono (fun _ _ h => ⟨h.1.trans hss, .inl ⟨rfl, h.2⟩⟩)
            · rw [hpp]; cases one <;> simp [lpos]
            · intro h3 h4
              rw [hpp] at h3
              cases one with
              | true => exact c ⟨rfl, h4⟩
              | false => simp [lpos] at h3
          | false => exact Goes.here hs ⟨hss, .inr ⟨rfl, hpp⟩⟩
        by_cases c4 : (named o (b :: r)).2 = 4
        · rw [if_neg (by simp [c4])]
          have eqn : named o (b :: r) = ((named o (b :: r)).1, 4) := by rw [← c4]
          rw [eqn] at hname
          have hn0 : o = false → (named o (b :: r)).1 = 0 := by rintro rfl; rfl
          generalize (named o (b :: r)).1 = n at *
          refine hname.seq (fun m2 hd2 hs2 _ ho2 => ?_)
          have hv : vpos m2 ((b :: r).drop n) := by
            rcases ho2.2 with ⟨_, h⟩ | ⟨h, h'⟩
            · exact .inl h
            · subst h
              cases one with
              | false => exact .inl h'
              | true =>
                refine .inr ⟨h', fun b' r' hbr => ?_⟩
                rw [hn0 rfl] at hbr
                have : skip (b :: r) = 0 := by rw [skip, if_neg (by simp [hw])]
                simp only [List.drop_zero, this] at hbr
                injection hbr with h1 h2
                rintro rfl
                exact c ⟨rfl, h1⟩
          have hg := hval m2 ((b :: r).drop n) hs2 ho2.1 ((hd2.trans hd').trans hd) hv
          have hl1 : ((b :: r).drop n).length ≤ r.length + 1 := by simp
          generalize hl : (b :: r).drop n = l1 at *
          simp only
          by_cases cv : (val l1).2 = 4
          · rw [if_neg (by simp [cv])]
            have eqv : val l1 = ((val l1).1, 4) := by rw [← cv]
            rw [eqv] at hg
            refine hg.seq (fun m3 hd3 hs3 _ ho3 => ?_)
            refine behindElem_goes hs3 ho3 (fun c' q' m4 e4 hs4 hst4 hd4 hp4 => ?_)
            refine ih q' false m4 ?_ hs4 hst4 ?_ hp4
            · have := congrArg List.length e4
              simp at this
              omega
            · rw [hd4, hd3, hd2, hd', hd]
          · rw [if_pos cv]; exact hg.chok cv
        · rw [if_pos c4]; exact hname.chok c4

theorem flat_goes {m : M} {b : UInt8} {r : List UInt8} (h1 : m.state = 1) (hp : m.pos = 0 ∨ (m.pos = 1 ∧ b ≠ 93)) (hw : white b = false) (c1 : b ≠ 91) (c2 : b ≠ 123) :
    Goes m (b :: r) (value.flat b r) (okB m.stack) := by
  have hb : (m.beg b).byte b = (m.beg b).first b := by
    have : (m.beg b).pos = m.pos := rfl
    unfold M.byte
    rw [if_pos (by omega), if_neg (by simp [hw]), if_neg (by rintro ⟨x, y⟩; rcases hp with h | h; omega; exact h.2 x)]
  unfold value.flat
  unfold M.first at hb
  rw [if_neg c1, if_neg c2] at hb
  by_cases d1 : b = 34
  · rw [if_pos d1] at hb ⊢
    refine Goes.one ?_ ?_ ?_ ((quote_goes r 0 _ ?_ ?_ ?_ ?_).mono ?_)
    all_goals try rw [feed1_open h1, hb]
    all_goals first | rfl | exact h1 | (intro h; omega) | omega | exact fun _ _ h => okB_of h.1 h.2
  rw [if_neg d1] at hb ⊢
  by_cases d2 : b = 45
  · rw [if_pos d2] at hb ⊢
    refine Goes.one ?_ ?_ ?_ ((number_goes r 10 _ ?_ ?_ ?_ ?_).mono ?_)
    all_goals try rw [feed1_open h1, hb]
    all_goals first | rfl | exact h1 | omega | exact fun _ _ h => ⟨h.1, .inr h.2.1, h.2.2⟩
  rw [if_neg d2] at hb ⊢
  by_cases d3 : b = 48
  · rw [if_pos d3] at hb
    have hdig : digit b = true := by rw [d3]; decide
    have : number 10 (b :: r) = add 1 (number 11 r) := by rw [number, if_pos ⟨rfl, d3⟩]
    rw [if_pos hdig, this]
    refine Goes.one ?_ ?_ ?_ ((number_goes r 11 _ ?_ ?_ ?_ ?_).mono ?_)
    all_goals try rw [feed1_open h1, hb]
    all_goals first | rfl | exact h1 | omega | exact fun _ _ h => ⟨h.1, .inr h.2.1, h.2.2⟩
  rw [if_neg d3] at hb
  by_cases d4 : digit b = true
  · rw [if_pos d4] at hb ⊢
    have : number 10 (b :: r) = add 1 (number 12 r) := by rw [number, if_neg (fun x => d3 x.2), if_pos ⟨.inl rfl, d4⟩]
    rw [this]
    refine Goes.one ?_ ?_ ?_ ((number_goes r 12 _ ?_ ?_ ?_ ?_).mono ?_)
    all_goals try rw [feed1_open h1, hb]
    all_goals first | rfl | exact h1 | omega | exact fun _ _ h => ⟨h.1, .inr h.2.1, h.2.2⟩
  rw [if_neg d4] at hb ⊢
  have wd : ∀ w : List UInt8, w ≠ [] → (m.beg b).byte b = { m.beg b with pos := 9, rest := w } → Goes m (b :: r) (word (b :: r) (b :: w)) (okB m.stack) := by
    intro w hne h
    have : word (b :: r) (b :: w) = add 1 (word r w) := by rw [word, if_pos rfl]; rfl
    rw [this]
    refine Goes.one ?_ ?_ ?_ ((word_goes r w _ ?_ ?_ ?_ hne).mono ?_)
    all_goals try rw [feed1_open h1, h]
    all_goals first | rfl | exact h1 | exact fun _ _ h => okB_of h.1 h.2
  by_cases d5 : b = 116
  · rw [if_pos d5] at hb ⊢; subst d5; exact wd _ (by simp) hb
  rw [if_neg d5] at hb ⊢
  by_cases d6 : b = 102
  · rw [if_pos d6] at hb ⊢; subst d6; exact wd _ (by simp) hb
  rw [if_neg d6] at hb ⊢
  by_cases d7 : b = 110
  · rw [if_pos d7] at hb ⊢; subst d7; exact wd _ (by simp) hb
  rw [if_neg d7] at hb ⊢
  exact Goes.bad (.inl rfl) (by rw [feed1_open h1, hb]; rfl) (by rw [feed1_open h1, hb]; rfl)

theorem value_skip {m : M} {l : List UInt8} (h1 : m.state = 1) (hp : vpos m l) : Goes m l (skip l, 4) (fun m' _ => m'.stack = m.stack ∧ m'.pos = m.pos) := by
  refine skip_goes l m h1 (fun n hn b hb => ?_)
  unfold M.byte
  rw [if_pos (by rcases hp with h | h <;> omega), if_pos hb]
theorem value_goes (D : Nat) : ∀ (d : Nat) (st : List UInt8), st.length + d = D → ∀ (m : M) (l : List UInt8), m.state = 1 → m.stack = st → m.depth = D → vpos m l →
    Goes m l (value d l) (okB st) := by
  intro d
  induction d with
  | zero =>
    intro st hD m l h1 hst hd hp
    have hk := value_skip h1 hp
    unfold value
    split
    · rename_i e
      refine hk.then (by simp) (fun m' _ hs _ ho => Goes.open ?_ e)
      have : m'.pos = m.pos := ho.2
      exact tell_open' hs (by rcases hp with h | h <;> omega) (by rcases hp with h | h <;> omega)
    · rename_i b r e
      have hw := skip_head _ _ _ e
      have hpos : ∀ m' : M, m'.pos = m.pos → (m'.pos = 0 ∨ (m'.pos = 1 ∧ b ≠ 93)) := by
        intro m' h
        rcases hp with h' | ⟨h', h''⟩
        · exact .inl (h.trans h')
        · exact .inr ⟨h.trans h', h'' b r e⟩
      by_cases c : b = 91 ∨ b = 123
      · rw [if_pos c]
        refine hk.then (by simp) (fun m' hd' hs _ ho => ?_)
        rw [e]
        simp only [Nat.sub_self]
        have hb : (m'.beg b).byte b = (m'.beg b).fail 3 := by
          have hx := hpos (m'.beg b) ho.2
          unfold M.byte
          rw [if_pos (by omega), if_neg (by simp [hw]), if_neg (by rintro ⟨x, y⟩; rcases hx with h | h; omega; exact h.2 x)]
          have hlen : (m'.beg b).stack.length = (m'.beg b).depth := by
            show m'.stack.length = m'.depth
            rw [ho.1, hst, hd', hd]; omega
          unfold M.first M.push
          rcases c with rfl | rfl <;> simp [hlen]
        exact Goes.bad (.inr rfl) (by rw [feed1_open hs, hb]; rfl) (by rw [feed1_open hs, hb]; rfl)
      · rw [if_neg c]
        refine hk.seq (fun m' hd' hs _ ho => ?_)
        rw [e]
        have := flat_goes (r := r) hs (hpos m' ho.2) hw (fun h => c (.inl h)) (fun h => c (.inr h))
        rwa [ho.1, hst] at this
  | succ d ih =>
    intro st hD m l h1 hst hd hp
    have hk := value_skip h1 hp
    unfold value
    split
    · rename_i e
      refine hk.then (by simp) (fun m' _ hs _ ho => Goes.open ?_ e)
      have : m'.pos = m.pos := ho.2
      exact tell_open' hs (by rcases hp with h | h <;> omega) (by rcases hp with h | h <;> omega)
    · rename_i b r e
      have hw := skip_head _ _ _ e
      have hpos : ∀ m' : M, m'.pos = m.pos → (m'.pos = 0 ∨ (m'.pos = 1 ∧ b ≠ 93)) := by
        intro m' h
        rcases hp with h' | ⟨h', h''⟩
        · exact .inl (h.trans h')
        · exact .inr ⟨h.trans h', h'' b r e⟩
      by_cases c : b = 91 ∨ b = 123
      · rw [if_pos c]
        have : add (skip l + 1) (list (value d) (b == 123) (r.length + 1) true r) = add (skip l) (add 1 (list (value d) (b == 123) (r.length + 1) true r)) := by simp [add]; omega
        rw [this]
        refine hk.seq (fun m' hd' hs _ ho => ?_)
        rw [e]
        have hb : (m'.beg b).byte b = { m'.beg b with stack := st ++ [opn (b == 123)], pos := lpos (b == 123) true } := by
          have hx := hpos (m'.beg b) ho.2
          have hstk : (m'.beg b).stack = st := ho.1.trans hst
          unfold M.byte
          rw [if_pos (by omega), if_neg (by simp [hw]), if_neg (by rintro ⟨x, y⟩; rcases hx with h | h; omega; exact h.2 x)]
          have hlen : ¬ (m'.beg b).stack.length = (m'.beg b).depth := by
            show ¬ m'.stack.length = m'.depth
            rw [ho.1, hst, hd', hd]; omega
          unfold M.first M.push
          rw [hstk] at hlen ⊢
          rcases c with rfl | rfl <;> simp [hlen, opn, lpos]
        refine Goes.one ?_ ?_ ?_ (list_goes (st := st) (o := b == 123) (D := D) (ih (st ++ [opn (b == 123)]) (by simp; omega)) (r.length + 1) r true _ (by omega) ?_ ?_ ?_ ?_)
        all_goals rw [feed1_open hs, hb]
        all_goals first | rfl | exact hs | exact hd'.trans hd
      · rw [if_neg c]
        refine hk.seq (fun m' hd' hs _ ho => ?_)
        rw [e]
        have := flat_goes (r := r) hs (hpos m' ho.2) hw (fun h => c (.inl h)) (fun h => c (.inr h))
        rwa [ho.1, hst] at this

/-- THE LAW: the machine tells what the reference tells. -/
theorem whole_eq (l : List UInt8) (d : Nat) : (((M.start d).feed l).tell, ((M.start d).feed l).place) = whole l d := by
  have h := value_goes d d [] (by simp) (M.start d) l rfl rfl rfl (.inl rfl)
  unfold whole
  rcases h with ⟨h4, hn, m', hf, hd, hs, hp, he, ho⟩ | ⟨h1, ht, hp⟩ | ⟨h0, hs, hp, hl⟩
  · simp only [h4]
    rw [if_neg (by decide), if_neg (by decide)]
    rw [hf]
    have hk := behind_goes _ m' hs ho
    generalize hl2 : l.drop (value d l).1 = l2 at *
    have hlen : l2.length = l.length - (value d l).1 := by rw [← hl2]; simp
    rcases hk with ⟨_, hn2, m2, hf2, hd2, hs2, hp2, he2, ho2⟩ | ⟨h, _⟩ | ⟨h, _⟩
    · simp only at hn2 hf2 he2 ho2
      rw [hf2]
      cases e : l2.drop (skip l2) with
      | nil =>
        have : ¬ ((value d l).1 + skip l2 < l.length) := by
          have := congrArg List.length e; simp at this; omega
        rw [if_neg this]
        show (m2.tell, m2.place) = (2, -1)
        have : m2.tell = 2 := by
          unfold M.tell; rw [if_pos ⟨hs2, ho2.1, ho2.2.1⟩]
        rw [this, hp2, hp]; rfl
      | cons c q =>
        have : (value d l).1 + skip l2 < l.length := by
          have := congrArg List.length e; simp at this; omega
        rw [if_pos this]
        have hw := skip_head _ _ _ e
        have hb : (m2.beg c).byte c = ({ m2.beg c with pos := 5 } : M).fail 0 := by
          rw [ho2.2.2 c q e]
          have ht : ({ m2.beg c with pos := 5 } : M).top = 0 := by
            have : ({ m2.beg c with pos := 5 } : M).stack = [] := ho2.1
            unfold M.top; rw [this]; rfl
          unfold M.after
          simp [ht, hw]
        rw [feed_cons]
        have hst : (m2.feed1 c).state = 0 := by rw [feed1_open hs2, hb]; rfl
        have hpl : (m2.feed1 c).place = m2.seen := by rw [feed1_open hs2, hb]; rfl
        have := feed_stuck q (m2.feed1 c) (by omega)
        have ht : ((m2.feed1 c).feed q).tell = 0 := by
          unfold M.tell; rw [if_neg (fun x => by rw [this.1, hst] at x; omega), this.1, hst]
        rw [ht, this.2, hpl, he2, he]
        simp [M.start]
    · simp at h
    · simp at h
  · rw [if_pos h1, ht, hp]; rfl
  · rw [if_neg (by rcases h0 with h | h <;> omega), if_pos (by rcases h0 with h | h <;> omega)]
    have : ((M.start d).feed l).tell = (value d l).2 := by
      unfold M.tell; rw [if_neg (fun x => by rw [hs] at x; rcases h0 with h | h <;> omega), hs]
    rw [this, hp]; simp [M.start]

/-! What holds of each machine that bytes are fed to. -/
structure JWF (m : M) : Prop where
  hex : m.hex ≤ 4
  hex1 : m.pos = 8 → 1 ≤ m.hex
  rest : m.pos = 9 → m.rest ≠ []
  rlen : m.rest.length ≤ 5
  first : m.pos = 1 ∨ m.pos = 3 → m.stack ≠ []
  len : m.stack.length ≤ m.depth
  depth : m.depth ≤ 200
  pos : m.pos ≤ 17
  state : m.state ≤ 3
theorem JWF.at {m : M} (h : JWF m) (p : Nat) (hp : p ≤ 17) (h1 : p ≠ 1) (h3 : p ≠ 3) (h8 : p ≠ 8) (h9 : p ≠ 9) : JWF { m with pos := p } :=
  ⟨h.hex, fun e => absurd e h8, fun e => absurd e h9, h.rlen, fun e => by rcases e with e | e; exact absurd e h1; exact absurd e h3, h.len, h.depth, hp, h.state⟩
theorem JWF.fail {m : M} (h : JWF m) (s : Nat) (hs : s ≤ 3) : JWF (m.fail s) := ⟨h.hex, h.hex1, h.rest, h.rlen, h.first, h.len, h.depth, h.pos, hs⟩
theorem JWF.pop {m : M} (h : JWF m) : JWF m.pop :=
  ⟨h.hex, fun e => by simp [M.pop] at e, fun e => by simp [M.pop] at e, h.rlen, fun e => by simp [M.pop] at e, by have := h.len; simp [M.pop]; omega, h.depth, by simp [M.pop], h.state⟩
theorem JWF.push {m : M} (h : JWF m) (b : UInt8) (p : Nat) (hp : p ≤ 17) (h8 : p ≠ 8) (h9 : p ≠ 9) : JWF (m.push b p) := by
  unfold M.push
  split
  · exact h.fail 3 (by omega)
  · exact ⟨h.hex, fun e => absurd e h8, fun e => absurd e h9, h.rlen, fun _ => by simp, by have := h.len; simp; omega, h.depth, hp, h.state⟩
theorem JWF.key {m : M} (h : JWF m) (k : Bool) : JWF { m with key := k } := ⟨h.hex, h.hex1, h.rest, h.rlen, h.first, h.len, h.depth, h.pos, h.state⟩
theorem JWF.beg {m : M} (h : JWF m) (b : UInt8) : JWF (m.beg b) := ⟨h.hex, h.hex1, h.rest, h.rlen, h.first, h.len, h.depth, h.pos, h.state⟩
theorem JWF.saw {m : M} (h : JWF m) (n : Nat) : JWF { m with seen := n } := ⟨h.hex, h.hex1, h.rest, h.rlen, h.first, h.len, h.depth, h.pos, h.state⟩
theorem JWF.after {m : M} (h : JWF m) (b : UInt8) : JWF (m.after b) := by
  have h5 := h.at 5 (by omega) (by omega) (by omega) (by omega) (by omega)
  unfold M.after
  simp only
  repeat' split
  · exact h5
  · exact h.at 0 (by omega) (by omega) (by omega) (by omega) (by omega)
  · exact h.at 2 (by omega) (by omega) (by omega) (by omega) (by omega)
  · exact h5.pop
  · exact h5.fail 0 (by omega)
theorem jwf_ite {c : Prop} [Decidable c] {a b : M} (h1 : JWF a) (h2 : JWF b) : JWF (if c then a else b) := by split <;> assumption
theorem JWF.byte {m : M} (h : JWF m) (b : UInt8) : JWF (m.byte b) := by
  unfold M.byte
  by_cases c1 : m.pos = 0 ∨ m.pos = 1
  · rw [if_pos c1]
    unfold M.first
    have w : ∀ r : List UInt8, r ≠ [] → r.length ≤ 5 → JWF { m with pos := 9, rest := r } := fun r hr hl =>
      ⟨h.hex, fun e => by simp at e, fun _ => hr, hl, fun e => by simp at e, h.len, h.depth, by simp, h.state⟩
    repeat' (with_reducible refine jwf_ite ?_ ?_)
    · exact h
    · exact h.pop
    · exact h.push _ _ (by omega) (by omega) (by omega)
    · exact h.push _ _ (by omega) (by omega) (by omega)
    · exact (h.at 6 (by omega) (by omega) (by omega) (by omega) (by omega)).key false
    · exact h.at 10 (by omega) (by omega) (by omega) (by omega) (by omega)
    · exact h.at 11 (by omega) (by omega) (by omega) (by omega) (by omega)
    · exact h.at 12 (by omega) (by omega) (by omega) (by omega) (by omega)
    · exact w _ (by simp) (by simp)
    · exact w _ (by simp) (by simp)
    · exact w _ (by simp) (by simp)
    · exact h.fail 0 (by omega)
  rw [if_neg c1]
  by_cases c2 : m.pos = 2 ∨ m.pos = 3
  · rw [if_pos c2]
    unfold M.names
    repeat' split
    · exact h
    · exact (h.at 6 (by omega) (by omega) (by omega) (by omega) (by omega)).key true
    · exact h.pop
    · exact h.fail 0 (by omega)
  rw [if_neg c2]
  by_cases c3 : m.pos = 4
  · rw [if_pos c3]
    repeat' split
    · exact h
    · exact h.at 0 (by omega) (by omega) (by omega) (by omega) (by omega)
    · exact h.fail 0 (by omega)
  rw [if_neg c3]
  by_cases c4 : m.pos = 5
  · rw [if_pos c4]; exact h.after b
  rw [if_neg c4]
  by_cases c5 : m.pos = 6
  · rw [if_pos c5]
    unfold M.inText
    repeat' split
    · exact h.at 4 (by omega) (by omega) (by omega) (by omega) (by omega)
    · exact h.at 5 (by omega) (by omega) (by omega) (by omega) (by omega)
    · exact h.at 7 (by omega) (by omega) (by omega) (by omega) (by omega)
    · exact h.fail 0 (by omega)
    · exact h
  rw [if_neg c5]
  by_cases c6 : m.pos = 7
  · rw [if_pos c6]
    unfold M.inSlash
    repeat' split
    · exact ⟨by simp, fun _ => by simp, fun e => by simp at e, h.rlen, fun e => by simp at e, h.len, h.depth, by simp, h.state⟩
    · exact h.at 6 (by omega) (by omega) (by omega) (by omega) (by omega)
    · exact h.fail 0 (by omega)
  rw [if_neg c6]
  by_cases c7 : m.pos = 8
  · rw [if_pos c7]
    unfold M.inUnicode
    have := h.hex
    repeat' split
    · exact ⟨by simp; omega, fun e => by simp at e, fun e => by simp at e, h.rlen, fun e => by simp at e, h.len, h.depth, by simp, h.state⟩
    · exact ⟨by simp; omega, fun _ => by simp; omega, fun e => by simp [c7] at e, h.rlen, fun e => by simp [c7] at e, h.len, h.depth, h.pos, h.state⟩
    · exact h.fail 0 (by omega)
  rw [if_neg c7]
  by_cases c8 : m.pos = 9
  · rw [if_pos c8]
    unfold M.inWord
    have := h.rlen
    repeat' split
    · exact ⟨h.hex, fun e => by simp at e, fun e => by simp at e, by simp; omega, fun e => by simp at e, h.len, h.depth, by simp, h.state⟩
    · exact ⟨h.hex, fun e => by simp [c8] at e, fun _ => by assumption, by simp; omega, fun e => by simp [c8] at e, h.len, h.depth, h.pos, h.state⟩
    · exact h.fail 0 (by omega)
  rw [if_neg c8]
  unfold M.inNumber
  repeat' split
  · exact h.at 11 (by omega) (by omega) (by omega) (by omega) (by omega)
  · exact h.at 12 (by omega) (by omega) (by omega) (by omega) (by omega)
  · exact h.at 14 (by omega) (by omega) (by omega) (by omega) (by omega)
  · exact h.at 17 (by omega) (by omega) (by omega) (by omega) (by omega)
  · exact h.at 16 (by omega) (by omega) (by omega) (by omega) (by omega)
  · exact h.at 13 (by omega) (by omega) (by omega) (by omega) (by omega)
  · exact h.at 15 (by omega) (by omega) (by omega) (by omega) (by omega)
  · exact h.after b
  · exact h.fail 0 (by omega)
theorem JWF.feed1 {m : M} (h : JWF m) (b : UInt8) : JWF (m.feed1 b) := by
  unfold M.feed1
  simp only
  split
  · exact ((h.beg b).byte b).saw _
  · exact (h.beg b).saw _
theorem JWF.feed {l : List UInt8} : ∀ {m : M}, JWF m → JWF (m.feed l) := by
  induction l with
  | nil => intro m h; exact h
  | cons b r ih => intro m h; exact ih (h.feed1 b)
theorem JWF.start {d : Nat} (h : d ≤ 200) : JWF (M.start d) := ⟨by simp [M.start], fun _ => by simp_all [M.start], fun _ => by simp_all [M.start], by simp [M.start], fun e => by simp [M.start] at e, by simp [M.start], h, by simp [M.start], by simp [M.start]⟩
theorem seen_feed (l : List UInt8) : ∀ m : M, (m.feed l).seen = m.seen + l.length := by
  induction l with
  | nil => intro m; rfl
  | cons b r ih => intro m; rw [feed_cons, ih, seen_feed1]; simp; omega
theorem depth_feed1 (m : M) (b : UInt8) : (m.feed1 b).depth = m.depth := by
  have : ∀ n : M, (n.byte b).depth = n.depth := by
    intro n
    unfold M.byte M.names M.inText M.inSlash M.inUnicode M.inWord M.first M.inNumber M.after M.push M.pop M.fail
    simp only [apply_ite M.depth, ite_self]
  unfold M.feed1
  simp only
  split
  · exact this _
  · rfl
theorem depth_feed (l : List UInt8) : ∀ m : M, (m.feed l).depth = m.depth := by
  induction l with
  | nil => intro m; rfl
  | cons b r ih => intro m; rw [feed_cons, ih, depth_feed1]
/-- the first byte but what parts -/
theorem begun_byte (m : M) (b : UInt8) : (m.byte b).begun = m.begun := by
  unfold M.byte M.names M.inText M.inSlash M.inUnicode M.inWord M.first M.inNumber M.after M.push M.pop M.fail
  simp only [apply_ite M.begun, ite_self]
theorem begun_feed (l : List UInt8) : ∀ m : M, (m.feed l).begun = (m.begun || decide (skip l < l.length)) := by
  induction l with
  | nil => intro m; simp [feed_nil]
  | cons b r ih =>
    intro m
    have h1 : (m.feed1 b).begun = (m.begun || !white b) := by
      unfold M.feed1; simp only; split
      · rw [begun_byte]
      · rfl
    have hs : skip (b :: r) = if white b = true then skip r + 1 else 0 := rfl
    rw [feed_cons, ih, h1, hs]
    by_cases e : white b = true
    · simp [e]
    · simp [e]
/-- where it is bad, once it is -/
theorem place_byte (m : M) (b : UInt8) (h1 : m.state = 1) : (m.byte b).state = 1 ∧ (m.byte b).place = m.place ∨ (m.byte b).state ≠ 1 ∧ (m.byte b).place = m.seen := by
  have hf : ∀ s : Nat, s ≠ 1 → (m.fail s).state ≠ 1 ∧ (m.fail s).place = m.seen := fun s hs => ⟨hs, rfl⟩
  have hp : ∀ (c : UInt8) (p : Nat), (m.push c p).state = 1 ∧ (m.push c p).place = m.place ∨ (m.push c p).state ≠ 1 ∧ (m.push c p).place = m.seen := by
    intro c p; unfold M.push; split
    · exact .inr (hf 3 (by omega))
    · exact .inl ⟨h1, rfl⟩
  have ha : (m.after b).state = 1 ∧ (m.after b).place = m.place ∨ (m.after b).state ≠ 1 ∧ (m.after b).place = m.seen := by
    unfold M.after; simp only; repeat' split
    all_goals first | exact .inl ⟨h1, rfl⟩ | exact .inr (hf 0 (by omega)) | exact .inr ⟨by simp [M.fail], rfl⟩
  have hi : ∀ (c : Prop) [Decidable c] (x y : M), (x.state = 1 ∧ x.place = m.place ∨ x.state ≠ 1 ∧ x.place = m.seen) → (y.state = 1 ∧ y.place = m.place ∨ y.state ≠ 1 ∧ y.place = m.seen) →
      ((if c then x else y).state = 1 ∧ (if c then x else y).place = m.place ∨ (if c then x else y).state ≠ 1 ∧ (if c then x else y).place = m.seen) := by
    intro c _ x y hx hy; split <;> assumption
  unfold M.byte
  by_cases c1 : m.pos = 0 ∨ m.pos = 1
  · rw [if_pos c1]; unfold M.first; repeat' (with_reducible refine hi _ _ _ ?_ ?_)
    all_goals first | exact .inl ⟨h1, rfl⟩ | exact .inr (hf 0 (by omega)) | exact hp _ _
  rw [if_neg c1]
  by_cases c2 : m.pos = 2 ∨ m.pos = 3
  · rw [if_pos c2]; unfold M.names; repeat' split
    all_goals first | exact .inl ⟨h1, rfl⟩ | exact .inr (hf 0 (by omega))
  rw [if_neg c2]
  by_cases c3 : m.pos = 4
  · rw [if_pos c3]; repeat' split
    all_goals first | exact .inl ⟨h1, rfl⟩ | exact .inr (hf 0 (by omega))
  rw [if_neg c3]
  by_cases c4 : m.pos = 5
  · rw [if_pos c4]; exact ha
  rw [if_neg c4]
  by_cases c5 : m.pos = 6
  · rw [if_pos c5]; unfold M.inText; repeat' split
    all_goals first | exact .inl ⟨h1, rfl⟩ | exact .inr (hf 0 (by omega))
  rw [if_neg c5]
  by_cases c6 : m.pos = 7
  · rw [if_pos c6]; unfold M.inSlash; repeat' split
    all_goals first | exact .inl ⟨h1, rfl⟩ | exact .inr (hf 0 (by omega))
  rw [if_neg c6]
  by_cases c7 : m.pos = 8
  · rw [if_pos c7]; unfold M.inUnicode; repeat' split
    all_goals first | exact .inl ⟨h1, rfl⟩ | exact .inr (hf 0 (by omega))
  rw [if_neg c7]
  by_cases c8 : m.pos = 9
  · rw [if_pos c8]; unfold M.inWord; repeat' split
    all_goals first | exact .inl ⟨h1, rfl⟩ | exact .inr (hf 0 (by omega))
  rw [if_neg c8]
  unfold M.inNumber; repeat' split
  all_goals first | exact .inl ⟨h1, rfl⟩ | exact ha | exact .inr (hf 0 (by omega))
theorem place_feed (l : List UInt8) : ∀ m : M, m.state = 1 → (m.feed l).state = 1 ∧ (m.feed l).place = m.place ∨ (m.feed l).state ≠ 1 ∧ (m.seen : Int) ≤ (m.feed l).place ∧ (m.feed l).place < m.seen + l.length := by
  induction l with
  | nil => intro m h; exact .inl ⟨h, rfl⟩
  | cons b r ih =>
    intro m h
    rw [feed_cons]
    have hb := place_byte (m.beg b) b h
    have he : m.feed1 b = { (m.beg b).byte b with seen := m.seen + 1 } := feed1_open h
    rcases hb with ⟨h1, h2⟩ | ⟨h1, h2⟩
    · have hs : (m.feed1 b).state = 1 := by rw [he]; exact h1
      have hp : (m.feed1 b).place = m.place := by rw [he]; exact h2
      have hn := seen_feed1 m b
      rcases ih (m.feed1 b) hs with ⟨k1, k2⟩ | ⟨k1, k2, k3⟩
      · exact .inl ⟨k1, by rw [k2, hp]⟩
      · refine .inr ⟨k1, ?_, ?_⟩
        · rw [hn] at k2; omega
        · rw [hn] at k3; simp; omega
    · have hs : (m.feed1 b).state ≠ 1 := by rw [he]; exact h1
      have hp : (m.feed1 b).place = m.seen := by rw [he]; exact h2
      have := feed_stuck r _ hs
      refine .inr ⟨by rw [this.1]; exact hs, ?_, ?_⟩
      · rw [this.2, hp]; omega
      · rw [this.2, hp]; simp; omega
end Tg.Json
/-
  The machine of layer 29 (lexer) in plain Lean, and plain laws on it. No program in sight.
-/
set_option linter.unusedSimpArgs false
set_option linter.unusedVariables false
namespace Tg.Lx

structure L where
  j : Tg.Json.M
  s : Tg.Js.M
  verdict : Int
  reason : List UInt8
  at_ : Int
  seen : Int
  ended : Bool

namespace L
def settle (m : L) (v : Int) (r : List UInt8) : L := { m with verdict := v, reason := r, at_ := m.seen }
def rDeep : List UInt8 := [100, 101, 101, 112]
def rNo : List UInt8 := [110, 111, 32, 115, 99, 114, 105, 112, 116]
def rScript : List UInt8 := [115, 99, 114, 105, 112, 116]
def rBlank : List UInt8 := [98, 108, 97, 110, 107]
def rJson : List UInt8 := [106, 115, 111, 110]
def rCut : List UInt8 := [99, 117, 116, 32, 111, 102, 102]
def rLimit : List UInt8 := [108, 105, 109, 105, 116]
def look (m : L) : L :=
  if m.j.tell = 3 then m.settle 2 rDeep
  else if m.s.tell = 0 then m.settle 2 rNo
  else if m.j.tell = 0 ∧ 0 < m.s.ends then m.settle 1 rScript
  else m
def see (m : L) : L := { m with seen := Tg.Js.w64 (m.seen + 1) }
def take1 (m : L) (b : UInt8) : L := { m with j := m.j.feed [b], s := m.s.feed [b] }
def step (m : L) (b : UInt8) : L := if m.verdict ≠ 0 ∨ m.ended = true then m.see else (m.see.take1 b).look
def feed (m : L) (s : List UInt8) : L := s.foldl step m
def fin (m : L) : L :=
  if m.verdict ≠ 0 then { m with ended := true }
  else if m.j.begun = false then ({ m with ended := true } : L).settle 1 rBlank
  else if m.j.tell ≠ 0 then ({ m with ended := true } : L).settle 2 rJson
  else if m.s.tell = 2 then ({ m with ended := true } : L).settle 1 rScript
  else ({ m with ended := true } : L).settle 2 rCut
def new (d : Nat) : L := ⟨Tg.Json.M.start d, Tg.Js.new d, 0, [], -1, 0, false⟩

theorem feed_append (m : L) (s t : List UInt8) : m.feed (s ++ t) = (m.feed s).feed t := by simp [feed]
theorem feed_take (m : L) (s : List UInt8) {i : Nat} (h : i < s.length) : m.feed (s.take (i + 1)) = (m.feed (s.take i)).step s[i] := by
  rw [List.take_succ_eq_append_getElem h, feed_append]; rfl
/-- a verdict stays -/
theorem stuck (t : List UInt8) : ∀ m : L, m.verdict ≠ 0 → (m.feed t).verdict = m.verdict ∧ (m.feed t).reason = m.reason ∧ (m.feed t).at_ = m.at_ := by
  induction t with
  | nil => intro m _; exact ⟨rfl, rfl, rfl⟩
  | cons b r ih =>
    intro m h
    have e : m.step b = m.see := by unfold step; rw [if_pos (.inl h)]
    have := ih m.see h
    have e2 : m.feed (b :: r) = (m.step b).feed r := rfl
    rw [e2, e]; exact this
theorem fin_verdict (m : L) : m.fin.verdict ≠ 0 := by
  unfold fin settle
  by_cases h : m.verdict ≠ 0
  · rw [if_pos h]; exact h
  · rw [if_neg h]
    repeat' split
    all_goals simp
theorem fin_stuck (m : L) (h : m.verdict ≠ 0) : m.fin.verdict = m.verdict ∧ m.fin.reason = m.reason ∧ m.fin.at_ = m.at_ := by
  unfold fin; rw [if_pos h]; exact ⟨rfl, rfl, rfl⟩
/-- what holds behind n bytes -/
structure Inv (n : Nat) (m : L) : Prop where
  seen : m.seen = n
  at1 : m.at_ ≤ n
  at0 : -1 ≤ m.at_
  at2 : m.verdict ≠ 0 → 0 ≤ m.at_
  v : m.verdict = 0 ∨ m.verdict = 1 ∨ m.verdict = 2
theorem look_cases (m : L) : m.look = m ∨ ∃ v r, (v = 1 ∨ v = 2) ∧ m.look = m.settle v r := by
  unfold look
  repeat' split
  · exact .inr ⟨2, rDeep, .inr rfl, rfl⟩
  · exact .inr ⟨2, rNo, .inr rfl, rfl⟩
  · exact .inr ⟨1, rScript, .inl rfl, rfl⟩
  · exact .inl rfl
theorem fin_cases (m : L) : m.fin = { m with ended := true } ∧ m.verdict ≠ 0 ∨ ∃ v r, (v = 1 ∨ v = 2) ∧ m.fin = ({ m with ended := true } : L).settle v r := by
  unfold fin
  by_cases h : m.verdict ≠ 0
  · rw [if_pos h]; exact .inl ⟨rfl, h⟩
  · rw [if_neg h]
    repeat' split
    · exact .inr ⟨_, _, .inl rfl, rfl⟩
    · exact .inr ⟨_, _, .inr rfl, rfl⟩
    · exact .inr ⟨_, _, .inl rfl, rfl⟩
    · exact .inr ⟨_, _, .inr rfl, rfl⟩
theorem Inv.step {n : Nat} {m : L} (h : Inv n m) (hn : n < 1152921504606846976) (b : UInt8) : Inv (n + 1) (m.step b) := by
  have hw : Tg.Js.w64 (m.seen + 1) = ((n + 1 : Nat) : Int) := by rw [h.seen]; rw [Tg.Js.w64_in (by omega) (by omega)]; omega
  have hs : Inv (n + 1) m.see := ⟨hw, by have := h.at1; show m.at_ ≤ _; omega, h.at0, h.at2, h.v⟩
  unfold L.step
  split
  · exact hs
  · have ht : Inv (n + 1) (m.see.take1 b) := ⟨hs.seen, hs.at1, hs.at0, hs.at2, hs.v⟩
    rcases look_cases (m.see.take1 b) with e | ⟨v, r, hv, e⟩
    · rw [e]; exact ht
    · rw [e]
      have e1 := ht.seen
      refine ⟨e1, ?_, ?_, ?_, ?_⟩
      · show (m.see.take1 b).seen ≤ _; omega
      · show -1 ≤ (m.see.take1 b).seen; omega
      · intro _; show 0 ≤ (m.see.take1 b).seen; omega
      · exact .inr hv
theorem Inv.feed (t : List UInt8) : ∀ {n : Nat} {m : L}, Inv n m → n + t.length ≤ 1152921504606846976 → Inv (n + t.length) (m.feed t) := by
  induction t with
  | nil => intro n m h _; exact h
  | cons b r ih =>
    intro n m h hn
    simp only [List.length_cons] at hn
    have := ih (h.step (by omega) b) (by omega)
    rw [show n + 1 + r.length = n + (b :: r).length by simp; omega] at this
    exact this
theorem Inv.new (d : Nat) : Inv 0 (new d) := ⟨rfl, by show (-1 : Int) ≤ 0; omega, Int.le_refl _, fun h => absurd rfl h, .inl rfl⟩
theorem Inv.fin {n : Nat} {m : L} (h : Inv n m) : Inv n m.fin := by
  rcases fin_cases m with ⟨e, _⟩ | ⟨v, r, hv, e⟩
  · rw [e]; exact ⟨h.seen, h.at1, h.at0, h.at2, h.v⟩
  · rw [e]
    have e1 := h.seen
    exact ⟨e1, by show m.seen ≤ _; omega, by show -1 ≤ m.seen; omega, fun _ => by show 0 ≤ m.seen; omega, .inr hv⟩
/-- both machines as long as there is no verdict -/
theorem feed_open (t : List UInt8) : ∀ m : L, m.ended = false → (m.feed t).verdict = 0 → (m.feed t).j = m.j.feed t ∧ (m.feed t).s = m.s.feed t ∧ (m.feed t).ended = false := by
  induction t with
  | nil => intro m h _; exact ⟨rfl, rfl, h⟩
  | cons b r ih =>
    intro m he hv
    have hv' : ((m.step b).feed r).verdict = 0 := hv
    have hm : m.verdict = 0 := by
      refine Classical.byContradiction (fun hne => ?_)
      have := (stuck (b :: r) m hne).1
      rw [hv] at this; exact hne this.symm
    have e : m.step b = (m.see.take1 b).look := by unfold step; rw [if_neg (by rintro (h | h); exact h hm; rw [he] at h; cases h)]
    rcases look_cases (m.see.take1 b) with e2 | ⟨v, r', hvv, e2⟩
    · rw [e2] at e
      have := ih (m.step b) (by rw [e]; exact he) hv'
      rw [e] at this
      show ((m.step b).feed r).j = _ ∧ ((m.step b).feed r).s = _ ∧ ((m.step b).feed r).ended = _
      rw [e]
      exact this
    · rw [e2] at e
      have : (m.step b).verdict ≠ 0 := by rw [e]; show v ≠ 0; rcases hvv with rfl | rfl <;> decide
      have h2 := (stuck r (m.step b) this).1
      rw [hv'] at h2
      exact absurd h2.symm this
/-- what is let through ahead of the end has a beginning that is no JSON -/
theorem allowed (t : List UInt8) : ∀ m : L, m.ended = false → m.verdict = 0 → (m.feed t).verdict = 1 → ∃ u k, t = u ++ k ∧ (m.j.feed u).tell = 0 := by
  induction t with
  | nil => intro m _ hv h; rw [show m.feed [] = m from rfl, hv] at h; cases h
  | cons b r ih =>
    intro m he hv h
    have e : m.step b = (m.see.take1 b).look := by unfold step; rw [if_neg (by rintro (h | h); exact h hv; rw [he] at h; cases h)]
    have h' : ((m.step b).feed r).verdict = 1 := h
    have hj : (m.see.take1 b).j = m.j.feed [b] := rfl
    by_cases hz : (m.step b).verdict = 0
    · have e3 : m.step b = m.see.take1 b := by
        rcases look_cases (m.see.take1 b) with e2 | ⟨v, r', hvv, e2⟩
        · rw [e, e2]
        · rw [e, e2] at hz
          have hz' : v = 0 := hz
          rcases hvv with rfl | rfl <;> cases hz'
      obtain ⟨u, k, hu, ht⟩ := ih (m.step b) (by rw [e3]; exact he) hz h'
      refine ⟨b :: u, k, by rw [hu]; rfl, ?_⟩
      rw [e3] at ht
      exact ht
    · have h2 := (stuck r (m.step b) hz).1
      rw [h'] at h2
      refine ⟨[b], r, rfl, ?_⟩
      rw [e] at h2
      unfold look at h2
      split at h2
      · cases h2
      · split at h2
        · cases h2
        · split at h2
          · rename_i h3; exact h3.1
          · rw [show (m.see.take1 b).verdict = m.verdict from rfl, hv] at h2; cases h2
theorem bad_stays (m : Tg.Json.M) (u k : List UInt8) (h : (m.feed u).tell = 0) : (m.feed (u ++ k)).tell = 0 := by
  have hs : (m.feed u).state = 0 := by
    unfold Tg.Json.M.tell at h
    split at h
    · cases h
    · exact h
  rw [Tg.Json.feed_append]
  have := (Tg.Json.feed_stuck k (m.feed u) (by omega)).1
  unfold Tg.Json.M.tell
  rw [if_neg (fun hx => by omega), this, hs]
theorem done_begun (s : List UInt8) (d : Nat) (h : ((Tg.Json.M.start d).feed s).tell = 2) : ((Tg.Json.M.start d).feed s).begun = true := by
  rw [Tg.Json.begun_feed]
  have hw := congrArg Prod.fst (Tg.Json.whole_eq s d)
  simp only [h] at hw
  refine Classical.byContradiction (fun hne => ?_)
  have hge : s.length ≤ Tg.Json.skip s := by
    simp [Tg.Json.M.start] at hne; omega
  have hd : s.drop (Tg.Json.skip s) = [] := List.drop_eq_nil_of_le hge
  have hv : (Tg.Json.value d s).2 = 1 := by
    cases d <;> (unfold Tg.Json.value; rw [hd])
  unfold Tg.Json.whole at hw
  simp [hv] at hw
/-- what is JSON as a whole never is let through -/
theorem json_blocks (d : Nat) (u r : List UInt8) (h : ((Tg.Json.M.start d).feed (u ++ r)).tell = 2) :
    ((new d).feed u).verdict ≠ 1 ∧ (((new d).feed u).feed r).verdict ≠ 1 ∧ (((new d).feed u).feed r).fin.verdict = 2 := by
  have key : ∀ t k, t ++ k = u ++ r → ((new d).feed t).verdict ≠ 1 := by
    intro t k ht hv
    obtain ⟨u', k', e, hb⟩ := allowed t (new d) rfl rfl hv
    have := bad_stays _ u' (k' ++ k) hb
    rw [← List.append_assoc, ← e, ht] at this
    have h' : ((new d).j.feed (u ++ r)).tell = 2 := h
    rw [this] at h'; cases h'
  have k2 := key (u ++ r) [] (by simp)
  refine ⟨key u r rfl, by rw [← feed_append]; exact k2, ?_⟩
  rw [← feed_append]
  have hi := (Inv.new d).feed (u ++ r)
  generalize hm : (new d).feed (u ++ r) = m at *
  by_cases hv : m.verdict = 0
  · obtain ⟨hj, _, _⟩ := feed_open (u ++ r) (new d) rfl (by rw [hm]; exact hv)
    rw [hm] at hj
    have hj' : m.j = (Tg.Json.M.start d).feed (u ++ r) := hj
    unfold fin
    rw [if_neg (fun hx => hx hv), hj', done_begun _ _ h, if_neg (by simp), h, if_pos (by decide)]
    rfl
  · rw [(fin_stuck m hv).1]
    have : m.verdict = 0 ∨ m.verdict = 1 ∨ m.verdict = 2 := by
      rw [← hm]
      have : ∀ (t : List UInt8) (n : L), (n.verdict = 0 ∨ n.verdict = 1 ∨ n.verdict = 2) → ((n.feed t).verdict = 0 ∨ (n.feed t).verdict = 1 ∨ (n.feed t).verdict = 2) := by
        intro t
        induction t with
        | nil => intro n hn; exact hn
        | cons b q ih =>
          intro n hn
          refine ih (n.step b) ?_
          unfold step
          split
          · exact hn
          · rcases look_cases (n.see.take1 b) with e | ⟨v, r', hvv, e⟩
            · rw [e]; exact hn
            · rw [e]; exact .inr hvv
      exact this (u ++ r) (new d) (.inl rfl)
    omega
end L
end Tg.Lx
/-
  A logical run of Go code: blocks are numbered by the run itself, slices grow into new blocks, library functions come in by what they compute. Definitions.
-/
set_option linter.unusedSimpArgs false
set_option linter.unusedVariables false
namespace Go.Lg

/-- a block as the logical run sees it -/
structure LB where
  cells : List Value
  elem : TypeId
  rw : Bool
/-- the logical heap -/
structure LH where
  n : Nat
  get : Nat → Option LB
  hole : Nat → Prop
  /-- the world in which all began, and how many of its first blocks (the package's variables) stay as they were -/
  base : World
  ng : Nat
def LH.empty (w : World) (g : Nat) : LH := ⟨0, fun _ => none, fun _ => False, w, g⟩
/-- the numbers that a value may mention -/
def LH.D (H : LH) (l : Nat) : Prop := l < H.n ∧ ¬ H.hole l
def LH.new (H : LH) (b : LB) : LH := ⟨H.n + 1, fun l => if l = H.n then some b else H.get l, H.hole, H.base, H.ng⟩
def LH.set (H : LH) (l : Nat) (b : LB) : LH := ⟨H.n, fun k => if k = l then some b else H.get k, H.hole, H.base, H.ng⟩
def LH.kill (H : LH) (l : Nat) : LH := ⟨H.n, fun k => if k = l then none else H.get k, H.hole, H.base, H.ng⟩
/-- all blocks to be read only -/
def LH.ro (H : LH) : LH := ⟨H.n, fun l => (H.get l).map fun b => { b with rw := false }, H.hole, H.base, H.ng⟩
def LH.le (H H' : LH) : Prop := H.n ≤ H'.n ∧ ∀ l, l < H.n → H'.get l = H.get l

/-- a value of which nothing is known -/
def unk : Value := .chan (some 0)
/-- one cell that leads nowhere -/
def atomB : Value → Bool
  | .bool _ | .int _ _ | .float _ _ | .complex _ _ _ | .string _ | .nilFunc | .nilIface => true
  | .pointer none => true
  | .slice none n c => n == 0 && c == 0
  | .map none => true
  | .func (.func _) first captured => first.size == 0 && captured.size == 0
  | _ => false
def flat1B : Value → Bool
  | .agg cs => cs.toList.all atomB
  | v => atomB v
def flatB : Value → Bool
  | .tuple vs => vs.toList.all flat1B
  | v => flat1B v
/-- known to be of one cell -/
def cellB : Value → Bool
  | .agg _ | .tuple _ | .chan _ => false
  | _ => true
def knownB : Value → Bool
  | .chan _ => false
  | _ => true

abbrev Fr := Nat → Value
def upd (fr : Fr) (d : Nat) (v : Value) : Fr := fun t => if t = d then v else fr t
def ev (fr : Fr) : Operand → Value
  | .tmp t => fr t
  | .const v => if flatB v then v else unk
  | .global _ => unk
  | .func f => .func (.func f) #[] #[]

/-- what a computation yields that asks nothing of memory -/
def pureVal {α : Type} (P : Program) : Sem α → Option α
  | .pure a => some a
  | .program k => pureVal P (k P)
  | .mark _ k => pureVal P k
  | _ => none

def pureFlat (P : Program) (s : Sem Value) : Option Value :=
  match pureVal P s with
  | some v => if flatB v then some v else none
  | none => none

abbrev Callee := FuncId → List Value → LH → Option (Value × LH)

def sz (P : Program) (t : TypeId) : Option Nat := (P.info? t).map (·.size)
def zr (P : Program) (t : TypeId) : Option Value := (P.info? t).bind (·.zero)
def byts (P : Program) (t : TypeId) : Option Nat := (P.info? t).map (·.bytes)
def aggD : TypeDesc → Bool
  | .struct _ | .array _ _ => true
  | _ => false
def aggB (P : Program) (t : TypeId) : Option Bool := (P.underlying t).map aggD
def lcells (b : LB) (o n : Nat) : Option (List Value) := if o + n ≤ b.cells.length then some ((b.cells.drop o).take n) else none
def lload (P : Program) (t : TypeId) (l o : Nat) (H : LH) : Option Value :=
  match H.get l with
  | some b =>
    match aggB P t, sz P t with
    | some true, some s => (lcells b o s).map fun cs => .agg cs.toArray
    | some false, _ => b.cells[o]?
    | _, _ => none
  | none => none
def splice (cs : List Value) (o : Nat) (vs : List Value) : List Value := cs.take o ++ vs ++ cs.drop (o + vs.length)
def lstore (P : Program) (t : TypeId) (l o : Nat) (v : Value) (H : LH) : Option LH :=
  match H.get l, sz P t with
  | some b, some s =>
    if b.rw && v.cells.toList.length == s && v.cells.toList.all cellB && decide (o + v.cells.toList.length ≤ b.cells.length) then some (H.set l { b with cells := splice b.cells o v.cells.toList })
    else none
  | _, _ => none

/-- operations on two values -/
def lbin (P : Program) (op : BinOp) (t : TypeId) (x y : Value) : Option Value :=
  match x, y with
  | .pointer none, .pointer b => match P.underlying t, op with
    | some (.pointer _), .eql => some (.bool b.isNone)
    | some (.pointer _), .neq => some (.bool (!b.isNone))
    | _, _ => none
  | .pointer a, .pointer none => match P.underlying t, op with
    | some (.pointer _), .eql => some (.bool a.isNone)
    | some (.pointer _), .neq => some (.bool (!a.isNone))
    | _, _ => none
  | .slice none _ _, .slice b _ _ => match P.underlying t, op with
    | some (.slice _), .eql => some (.bool b.isNone)
    | some (.slice _), .neq => some (.bool (!b.isNone))
    | _, _ => none
  | .slice a _ _, .slice none _ _ => match P.underlying t, op with
    | some (.slice _), .eql => some (.bool a.isNone)
    | some (.slice _), .neq => some (.bool (!a.isNone))
    | _, _ => none
  | .nilIface, _ => none
  | x, y => if flatB x && flatB y then pureFlat P (do eqGuard op t (.tmp 0) (.tmp 0) x y; binOp op t x y) else none

/-- a bound of a slice expression -/
def lbound (fr : Fr) (dflt : Nat) : Option Operand → Option Nat
  | none => some dflt
  | some x => match ev fr x with
    | .int _ i => if 0 ≤ i then some i.toNat else none
    | _ => none
def lslice (P : Program) (t : TypeId) (x : Value) (fr : Fr) (lo hi : Option Operand) : Option Value :=
  match P.underlying t, x with
  | some .string, .string s =>
    match lbound fr 0 lo, lbound fr s.size hi with
    | some a, some b => if a ≤ b ∧ b ≤ s.size then some (.string (s.extract a b)) else none
    | _, _ => none
  | some (.slice e), .slice a n c =>
    match lbound fr 0 lo, lbound fr n hi, sz P e with
    | some i, some j, some s => if i ≤ j ∧ j ≤ n then
        match a with
        | some ⟨l, o, none⟩ => some (.slice (some ⟨l, o + i * s, none⟩) (j - i) (c - i))
        | none => some (.slice none 0 0)
        | _ => none
      else none
    | _, _, _ => none
  | _, _ => none

def lbuild (P : Program) (t : TypeId) (parts : List (Nat × Value)) : Option Value :=
  if parts.all (fun p => knownB p.2) && (zr P t).any flatB then
    match P.underlying t with
    | some (.struct _) => (P.built t parts).map .agg
    | _ => none
  else none
def lbuildSlice (P : Program) (t : TypeId) (len : Nat) (parts : List (Nat × Value)) (H : LH) : Option (Value × LH) :=
  match P.underlying t with
  | some (.slice e) =>
    match sz P e, zr P e with
    | some s, some z =>
      if flatB z && decide (0 < s) && decide (len * s ≤ 65536) && z.cells.size == s && parts.all (fun p => knownB p.2) then
        match Instr.fill (fun j => some (j * s, s)) ((Array.range (len * s)).map fun j => z.cells[j % z.cells.size]!) parts with
        | some cs => if cs.size = len * s then some (.slice (some ⟨H.n, 0, none⟩) len len, H.new ⟨cs.toList, e, true⟩) else none
        | none => none
      else none
    | _, _ => none
  | _ => none

def lmake (P : Program) (t : TypeId) (l c : Value) (H : LH) : Option (Value × LH) :=
  match P.underlying t, l, c with
  | some (.slice e), .int _ l, .int _ c =>
    match P.info? e with
    | some i =>
      match i.zero with
      | some z =>
        if flatB z && decide (0 < i.size) && decide (0 ≤ l) && decide (l ≤ c) && decide (c.toNat * i.size ≤ 1048576) && decide (i.bytes ≤ 1048576) && z.cells.size == i.size then
          some (.slice (some ⟨H.n, 0, none⟩) l.toNat c.toNat, H.new ⟨((Array.range (c.toNat * i.size)).map fun j => z.cells[j % z.cells.size]!).toList, e, true⟩)
        else none
      | none => none
    | none => none
  | _, _, _ => none

/-- the most elements that a slice may come to -/
def maxElems : Nat := 1048576
def lsrc (s : Nat) (y : Value) (H : LH) : Option (Nat × List Value) :=
  match y with
  | .slice none 0 0 => some (0, [])
  | .slice (some ⟨l, o, none⟩) m _ => match H.get l with
    | some b => (lcells b o (m * s)).map fun cs => (m, cs)
    | none => none
  | _ => none
/-- are elements of this type of a size that append takes? gives the size -/
def lesz (P : Program) (e : TypeId) : Option Nat :=
  match P.info? e with
  | some i => match i.zero with
    | some z => if z.cells.size = i.size ∧ 0 < i.size ∧ i.bytes ≤ 1048576 then some i.size else none
    | none => none
  | none => none
def lappend (P : Program) (t : TypeId) (x y : Value) (H : LH) : Option (Value × LH) :=
  match P.underlying t with
  | some (.slice e) =>
    match lesz P e with
    | some s =>
      match lsrc s y H with
      | some (m, new) =>
        if new.all cellB then
          match x with
          | .slice none 0 0 => if m = 0 then some (x, H) else if m ≤ maxElems then some (.slice (some ⟨H.n, 0, none⟩) m m, H.new ⟨new, e, true⟩) else none
          | .slice (some ⟨l, o, none⟩) n c =>
            match H.get l with
            | some b =>
              if b.rw = true ∧ b.elem = e ∧ o = 0 ∧ b.cells.length = c * s ∧ n ≤ c then
                if m = 0 then some (x, H)
                else if n + m ≤ c then some (.slice (some ⟨l, 0, none⟩) (n + m) c, H.set l { b with cells := splice b.cells (n * s) new })
                else if n = c ∧ n + m ≤ maxElems then some (.slice (some ⟨H.n, 0, none⟩) (n + m) (n + m), (H.kill l).new ⟨b.cells ++ new, e, true⟩)
                else none
              else none
            | none => none
          | _ => none
        else none
      | none => none
    | none => none
  | _ => none

def lbuiltin (P : Program) (b : Builtin) (argTypes : List TypeId) (args : List Value) (H : LH) : Option (Value × LH) :=
  match b, argTypes, args with
  | .len, [t], [x] => match P.underlying t, x with
    | some .string, .string s => some (.int .i64 s.size, H)
    | some (.slice _), .slice _ n _ => some (.int .i64 n, H)
    | _, _ => none
  | .append, [t, u], [x, y] => if t = u then lappend P t x y H else none
  | .min, _, [.int k x, .int _ y] => some (.int k (if y < x then y else x), H)
  | .max, _, [.int k x, .int _ y] => some (.int k (if x < y then y else x), H)
  | _, _, _ => none

def lcallee (P : Program) (T : Callee) (f : Value) (args : List Value) (H : LH) : Option (Value × LH) :=
  match f with
  | .func (.func g) first captured => if first.size = 0 then T g (args ++ captured.toList) H else none
  | _ => none

/-- bytes as a string -/
def lbyte : Value → Option UInt8
  | .int .u8 n => some (UInt8.ofNat n.toNat)
  | _ => none
def lbstr (P : Program) (src dst : TypeId) (x : Value) (H : LH) : Option Value :=
  match P.underlying src, P.underlying dst, x with
  | some (.slice e), some .string, .slice (some ⟨l, o, none⟩) n _ =>
    match P.underlying e with
    | some (.int .u8) => match H.get l with
      | some b => match lcells b o n with
        | some cs => (cs.mapM lbyte).map fun bs => .string ⟨bs.toArray⟩
        | none => none
      | none => none
    | _ => none
  | _, _, _ => none
/-- one operation: what it yields, and the heap behind it -/
def lop (P : Program) (T : Callee) (o : Oper) (fr : Fr) (H : LH) : Option (Value × LH) :=
  match o.op with
  | .move x | .assign x => some (ev fr x, H)
  | .pick c a b => match ev fr c with
    | .bool t => some (if t then ev fr a else ev fr b, H)
    | _ => none
  | .box e x => if knownB (ev fr x) && sz P e == some (ev fr x).cells.size then some (.pointer (some ⟨H.n, 0, none⟩), H.new ⟨(ev fr x).cells.toList, e, true⟩) else none
  | .alloc e => match zr P e with
    | some z => if flatB z && sz P e == some z.cells.size then some (.pointer (some ⟨H.n, 0, none⟩), H.new ⟨z.cells.toList, e, true⟩) else none
    | none => none
  | .load t a => match ev fr a with
    | .pointer (some ⟨l, off, none⟩) => (lload P t l off H).map fun v => (v, H)
    | _ => none
  | .store t a x => match ev fr a with
    | .pointer (some ⟨l, off, none⟩) => (lstore P t l off (ev fr x) H).map fun H' => (undef, H')
    | _ => none
  | .nilCheck x => match ev fr x with
    | .pointer (some a) => some (.pointer (some a), H)
    | .func (.func g) first captured => some (.func (.func g) first captured, H)
    | _ => none
  | .fieldAddr s x f => match ev fr x, P.underlying s with
    | .pointer (some ⟨l, off, none⟩), some (.struct fs) => match fs[f]? with
      | some fd => match sz P fd.type with
        | some s => if s = 0 then none else some (.pointer (some ⟨l, off + fd.offset, none⟩), H)
        | none => none
      | none => none
    | _, _ => none
  | .indexAddr t x i => match ev fr x, ev fr i, P.underlying t with
    | .slice (some ⟨l, off, none⟩) n _, .int _ k, some (.slice e) => match sz P e with
      | some s => if 0 ≤ k ∧ k < n then some (.pointer (some ⟨l, off + k.toNat * s, none⟩), H) else none
      | none => none
    | _, _, _ => none
  | .slice t x lo hi none => (lslice P t (ev fr x) fr lo hi).map fun v => (v, H)
  | .field t x f => match P.underlying t, ev fr x with
    | some (.struct fs), .agg cs => match fs[f]? with
      | some fd => match aggB P fd.type, sz P fd.type with
        | some true, some s => some (.agg (cs.extract fd.offset (fd.offset + s)), H)
        | some false, _ => (cs[fd.offset]?).map fun v => (v, H)
        | _, _ => none
      | none => none
    | _, _ => none
  | .extract x i => match ev fr x with
    | .tuple vs => (vs[i]?).map fun v => (v, H)
    | _ => none
  | .build t parts => (lbuild P t (parts.toList.map fun p => (p.1, ev fr p.2))).map fun v => (v, H)
  | .buildSlice t len parts => lbuildSlice P t len (parts.toList.map fun p => (p.1, ev fr p.2)) H
  | .makeSlice t l c => lmake P t (ev fr l) (ev fr c) H
  | .makeFunc (.func g) first captured => if first.size = 0 then some (.func (.func g) #[] (captured.map (ev fr)), H) else none
  | .binOp op t x y _ => (lbin P op t (ev fr x) (ev fr y)).map fun v => (v, H)
  | .unOp op _ x => if flatB (ev fr x) then (pureFlat P (Op.unary op (ev fr x))).map fun v => (v, H) else none
  | .convert src dst x => if flatB (ev fr x) then (pureFlat P (convert src dst (ev fr x))).map fun v => (v, H) else (lbstr P src dst (ev fr x) H).map fun v => (v, H)
  | .index t x i => if flatB (ev fr x) && flatB (ev fr i) then (pureFlat P (Instr.index t (ev fr x) (ev fr i))).map fun v => (v, H) else none
  | .call c => match c.callee with
    | .value f => lcallee P T (ev fr f) (c.args.toList.map (ev fr)) H
    | .builtin b => lbuiltin P b c.argTypes.toList (c.args.toList.map (ev fr)) H
    | .invoke _ _ => none
  | _ => none

/-- is the operation carried out? -/
def lwant (ops : Array Oper) (fr : Fr) (o : Oper) : Option Bool :=
  match o.guard with
  | none => some true
  | some (j, want) => match (ops[j]?).bind (·.dst) with
    | none => some false
    | some d => match fr d with
      | .bool b => some (b == want)
      | v => if flatB v then some false else none
def lput (N : Nat) (fr : Fr) (d : Option Tmp) (v : Value) : Option Fr :=
  match d with
  | some d => if d < N then some (upd fr d v) else none
  | none => some fr
/-- operations, one behind the other -/
def lops (P : Program) (T : Callee) (N : Nat) (all : Array Oper) : List Oper → Fr → LH → Option (Fr × LH)
  | [], fr, H => some (fr, H)
  | o :: os, fr, H =>
    match lwant all fr o with
    | some true =>
      match lop P T o fr H with
      | some (v, H') => match lput N fr o.dst v with
        | some fr' => lops P T N all os fr' H'
        | none => none
      | none => none
    | some false => match lput N fr o.dst undef with
      | some fr' => lops P T N all os fr' H
      | none => none
    | none => none
/-- an operation that leaves memory as it is -/
def lquiet (P : Program) (T : Callee) (o : Oper) (fr : Fr) (H : LH) : Option Value :=
  match o.op with
  | .store _ _ _ | .box _ _ | .alloc _ | .buildSlice _ _ _ | .makeSlice _ _ _ => none
  | .call c => match c.callee with
    | .value f => match lcallee P T (ev fr f) (c.args.toList.map (ev fr)) H.ro with
      | some (v, _) => if flatB v then some v else none
      | none => none
    | .builtin .append => none
    | .builtin b => (lbuiltin P b c.argTypes.toList (c.args.toList.map (ev fr)) H).map (·.1)
    | .invoke _ _ => none
  | _ => (lop P T o fr H).map (·.1)
def lquiets (P : Program) (T : Callee) (N : Nat) (all : Array Oper) (H : LH) : List Oper → Fr → Option Fr
  | [], fr => some fr
  | o :: os, fr =>
    match lwant all fr o with
    | some true =>
      match lquiet P T o fr H with
      | some v => match lput N fr o.dst v with
        | some fr' => lquiets P T N all H os fr'
        | none => none
      | none => none
    | some false => match lput N fr o.dst undef with
      | some fr' => lquiets P T N all H os fr'
      | none => none
    | none => none

/-- functions whose calls stand at the end of a region whose order is open -/
abbrev Loud := FuncId → Bool
/-- an operation with which what is carried out in order begins, in a region whose order is open -/
def loudOp (L : Loud) : Op → Bool
  | .store _ _ _ => true
  | .call c => match c.callee with
    | .builtin .append => true
    | .value (.func g) => L g
    | _ => false
  | _ => false
/-- an operation ahead of these: what it yields, and the heap behind it -/
def lmixop (P : Program) (T : Callee) (o : Oper) (fr : Fr) (H0 H : LH) : Option (Value × LH) :=
  match o.op with
  | .store _ _ _ | .makeSlice _ _ _ => none
  | .call c => match c.callee with
    | .value f => if H.n == H0.n || (flatB (ev fr f) && (c.args.toList.map (ev fr)).all flatB) then (lquiet P T o fr H0).map fun v => (v, H) else none
    | .builtin .append => none
    | .builtin b => (lbuiltin P b c.argTypes.toList (c.args.toList.map (ev fr)) H).map fun r => (r.1, H)
    | .invoke _ _ => none
  | _ => lop P T o fr H
/-- a region whose order is open -/
def lmix (P : Program) (L : Loud) (T : Callee) (N : Nat) (all : Array Oper) (H0 : LH) : List Oper → Fr → LH → Option (Fr × LH)
  | [], fr, H => some (fr, H)
  | o :: os, fr, H =>
    if loudOp L o.op then lops P T N all (o :: os) fr H
    else match o.dst with
    | none => none
    | some d => if d < N then
        match lwant all fr o with
        | some true =>
          match lmixop P T o fr H0 H with
          | some (v, H') => lmix P L T N all H0 os (upd fr d v) H'
          | none => none
        | some false => lmix P L T N all H0 os (upd fr d undef) H
        | none => none
      else none
/-- how many operations stand ahead -/
def headN (L : Loud) : List Oper → Nat
  | [] => 0
  | o :: os => if loudOp L o.op then 0 else headN L os + 1
/-- may a region be carried out so? -/
def mixB (L : Loud) (ops : Array Oper) : Bool :=
  let n := headN L ops.toList
  ((List.range ops.size).all fun i => match ops[i]? with
    | some o => o.after.toList.all fun e => !Region.binds .any e || decide (e.on < i)
    | none => true) &&
  ((List.range n).all fun i => match ops[i]? with
    | some o => (Oper.looksAt ops o).all fun t => (List.range ops.size).all fun k => (ops[k]?).bind (·.dst) != some t || (decide (k < i) && Region.waitsFor .any ops i k)
    | none => true) &&
  ((List.range n).all fun i => (List.range n).all fun k => i == k || (ops[i]?).bind (·.dst) != (ops[k]?).bind (·.dst)) &&
  (decide (ops.size ≤ n) || (Region.sinkB .any ops n && Region.chainB .any ops n))

def lresult (P : Program) (fr : Fr) (H : LH) : ResultVar → Option Value
  | .tmp t => some (fr t)
  | .cell a t => match fr a with
    | .pointer (some ⟨l, off, none⟩) => lload P t l off H
    | _ => none
def lresults (P : Program) (fn : Func) (fr : Fr) (H : LH) : Option Value :=
  match fn.results.toList.mapM (lresult P fr H) with
  | some [v] => some v
  | some vs => some (.tuple vs.toArray)
  | none => none

/-- a run of code, item by item -/
def run (P : Program) (L : Loud) (T : Callee) (fn : Func) : Nat → List Item → Fr → LH → Option (Value × LH)
  | 0, _, _, _ => none
  | n + 1, [], fr, H => (lresults P fn fr H).map fun v => (v, H)
  | n + 1, .code .skip :: k, fr, H => run P L T fn n k fr H
  | n + 1, .code (.label _) :: k, fr, H => run P L T fn n k fr H
  | n + 1, .code (.seq a b) :: k, fr, H => run P L T fn n (.code a :: .code b :: k) fr H
  | n + 1, .code (.cond c x y) :: k, fr, H => match ev fr c with
    | .bool t => if t then run P L T fn n (.code x :: k) fr H else run P L T fn n (.code y :: k) fr H
    | _ => none
  | n + 1, .code (.block id c) :: k, fr, H => run P L T fn n (.code c :: .inBlock id :: k) fr H
  | n + 1, .code (.loop c) :: k, fr, H => run P L T fn n (.code c :: .inLoop c :: k) fr H
  | n + 1, .code (.exit id) :: k, fr, H => match exitTo id k with
    | some k' => run P L T fn n k' fr H
    | none => none
  | n + 1, .code .ret :: _, fr, H => (lresults P fn fr H).map fun v => (v, H)
  | n + 1, .code (.region _ ops false) :: k, fr, H => match lops P T fn.ntmps ops ops.toList fr H with
    | some (fr', H') => run P L T fn n k fr' H'
    | none => none
  | n + 1, .code (.region _ ops true) :: k, fr, H => match lmix P L T fn.ntmps ops H ops.toList fr H with
    | some (fr', H') => run P L T fn n k fr' H'
    | none => none
  | n + 1, .inBlock _ :: k, fr, H => run P L T fn n k fr H
  | n + 1, .inLoop c :: k, fr, H => run P L T fn n (.code c :: .inLoop c :: k) fr H
  | _ + 1, _, _, _ => none

/-- regions whose order is open are such that one order serves for all -/
def codeOk (L : Loud) : Code → Bool
  | .region _ ops true => mixB L ops
  | .seq a b => codeOk L a && codeOk L b
  | .cond _ a b => codeOk L a && codeOk L b
  | .block _ c => codeOk L c
  | .loop c => codeOk L c
  | .scope c => codeOk L c
  | _ => true
/-- library functions by what they compute; and the loud ones -/
structure Env where
  ext : FuncId → Option (List Value → LH → Option (Value × LH))
  loud : Loud
instance : CoeFun Env (fun _ => FuncId → Option (List Value → LH → Option (Value × LH))) := ⟨Env.ext⟩
open Classical in
/-- what a call leaves: where nothing that was there has turned and the value leads nowhere, just that -/
noncomputable def trunc (H : LH) (r : Value × LH) : Value × LH := if flatB r.1 = true ∧ H.le r.2 then (r.1, H) else r
def enter (args : List Value) : Fr := fun t => args.getD t undef
noncomputable def lcall (P : Program) (ext : Env) : Nat → Callee
  | 0, _, _, _ => none
  | n + 1, f, args, H =>
    match ext f with
    | some s => s args H
    | none =>
      match P.funcs[f]? with
      | some fn => match fn.body with
        | some c => if args.length ≤ fn.ntmps ∧ fn.name ≠ "runtime.NumGoroutine" ∧ codeOk ext.loud c = true then (run P ext.loud (lcall P ext n) fn n [.code c] (enter args) H).map (trunc H) else none
        | none => none
      | none => none
end Go.Lg
/-
  A logical run of Go code: how its values and its heap stand to a real world.
-/
set_option linter.unusedSimpArgs false
set_option linter.unusedVariables false
namespace Go.Lg
open Go.Tg Go.RowKit

/-- where a logical block lies: the real block, the cell with which it begins there, and how many elements more its row has room for -/
structure Im where
  blk : Nat
  off : Nat
  slack : Nat
abbrev Ren := Nat → Im

inductive VR (n : Nat → Prop) (ι : Ren) : Value → Value → Prop
  | any (v) : VR n ι (.chan (some 0)) v
  | flat (v) : flatB v = true → VR n ι v v
  | ptr (l o) : n l → VR n ι (.pointer (some ⟨l, o, none⟩)) (.pointer (some ⟨(ι l).blk, (ι l).off + o, none⟩))
  | slice (l o k c) : n l → k ≤ c → VR n ι (.slice (some ⟨l, o, none⟩) k c) (.slice (some ⟨(ι l).blk, (ι l).off + o, none⟩) k (c + (ι l).slack))
  | slice0 (l o a) : n l → VR n ι (.slice (some ⟨l, o, none⟩) 0 0) (.slice (some a) 0 0)
  | agg (xs ys : Array Value) : xs.size = ys.size → (∀ (i : Nat) (v w : Value), xs[i]? = some v → ys[i]? = some w → VR n ι v w) → VR n ι (.agg xs) (.agg ys)
  | tuple (xs ys : Array Value) : xs.size = ys.size → (∀ (i : Nat) (v w : Value), xs[i]? = some v → ys[i]? = some w → VR n ι v w) → VR n ι (.tuple xs) (.tuple ys)
  | func (fn) (a b c d : Array Value) : a.size = b.size → c.size = d.size → (∀ (i : Nat) (v w : Value), a[i]? = some v → b[i]? = some w → VR n ι v w) → (∀ (i : Nat) (v w : Value), c[i]? = some v → d[i]? = some w → VR n ι v w) → VR n ι (.func fn a c) (.func fn b d)

theorem atom_eq {n : Nat → Prop} {ι : Ren} {v w : Value} (h : VR n ι v w) (hv : atomB v = true) : w = v := by
  cases h with
  | any => simp [atomB] at hv
  | flat => rfl
  | ptr => simp [atomB] at hv
  | slice => simp [atomB] at hv
  | slice0 => simp [atomB] at hv
  | agg => simp [atomB] at hv
  | tuple => simp [atomB] at hv
  | func fn a b c d h1 h2 h3 h4 =>
    cases fn <;> simp [atomB] at hv
    obtain ⟨e1, e2⟩ := hv
    have e3 : b = #[] := Array.eq_empty_of_size_eq_zero (by rw [← h1, e1]; rfl)
    have e4 : d = #[] := Array.eq_empty_of_size_eq_zero (by rw [← h2, e2]; rfl)
    rw [e1, e2, e3, e4]
theorem arr_eq {n : Nat → Prop} {ι : Ren} {xs ys : Array Value} (hs : xs.size = ys.size) (h : ∀ (i : Nat) (v w : Value), xs[i]? = some v → ys[i]? = some w → w = v) : ys = xs := by
  apply Array.ext hs.symm
  intro i h1 h2
  exact h i _ _ (Array.getElem?_eq_getElem h2) (Array.getElem?_eq_getElem h1)
theorem flat1_eq {n : Nat → Prop} {ι : Ren} {v w : Value} (h : VR n ι v w) (hv : flat1B v = true) : w = v := by
  cases h with
  | agg xs ys hs h =>
    rw [arr_eq (n := n) (ι := ι) hs fun i v w hx hy => atom_eq (h i v w hx hy) ?_]
    simp only [flat1B, List.all_eq_true] at hv
    exact hv v (by simpa using Array.mem_of_getElem? hx)
  | flat => rfl
  | any => simp [flat1B, atomB] at hv
  | ptr l o hl => exact atom_eq (n := n) (ι := ι) (.ptr l o hl) hv
  | slice l o k c hl hk => exact atom_eq (n := n) (ι := ι) (.slice l o k c hl hk) hv
  | slice0 l o a hl => exact atom_eq (n := n) (ι := ι) (.slice0 l o a hl) hv
  | tuple => simp [flat1B, atomB] at hv
  | func fn a b c d h1 h2 h3 h4 => exact atom_eq (n := n) (ι := ι) (.func fn a b c d h1 h2 h3 h4) hv
theorem flat_eq {n : Nat → Prop} {ι : Ren} {v w : Value} (h : VR n ι v w) (hv : flatB v = true) : w = v := by
  cases h with
  | tuple xs ys hs h =>
    rw [arr_eq (n := n) (ι := ι) hs fun i v w hx hy => flat1_eq (h i v w hx hy) ?_]
    simp only [flatB, List.all_eq_true] at hv
    exact hv v (by simpa using Array.mem_of_getElem? hx)
  | flat => rfl
  | any => simp [flatB, flat1B, atomB] at hv
  | ptr l o hl => exact flat1_eq (n := n) (ι := ι) (.ptr l o hl) hv
  | slice l o k c hl hk => exact flat1_eq (n := n) (ι := ι) (.slice l o k c hl hk) hv
  | slice0 l o a hl => exact flat1_eq (n := n) (ι := ι) (.slice0 l o a hl) hv
  | agg xs ys hs h => exact flat1_eq (n := n) (ι := ι) (.agg xs ys hs h) hv
  | func fn a b c d h1 h2 h3 h4 => exact flat1_eq (n := n) (ι := ι) (.func fn a b c d h1 h2 h3 h4) hv

/-- the same values under another numbering -/
theorem VR.mono {n n' : Nat → Prop} {ι ι' : Ren} {v w : Value} (h : VR n ι v w) (hn : ∀ l, n l → n' l) (hi : ∀ l, n l → ι' l = ι l) : VR n' ι' v w := by
  induction h with
  | any v => exact .any v
  | flat v h => exact .flat v h
  | ptr l o hl => rw [← hi l hl]; exact .ptr l o (hn l hl)
  | slice l o k c hl hk => rw [← hi l hl]; exact .slice l o k c (hn l hl) hk
  | slice0 l o a hl => exact .slice0 l o a (hn l hl)
  | agg xs ys hs _ ih => exact .agg xs ys hs ih
  | tuple xs ys hs _ ih => exact .tuple xs ys hs ih
  | func fn a b c d h1 h2 _ _ ih1 ih2 => exact .func fn a b c d h1 h2 ih1 ih2
/-- back to fewer blocks, of a value that has been there before -/
theorem VR.back {n n' : Nat → Prop} {ι ι' : Ren} {v w x : Value} (h : VR n' ι' v w) (h0 : VR n ι v x) (hi : ∀ l, n l → ι' l = ι l) : VR n ι v w := by
  induction h0 generalizing w with
  | any v => exact .any w
  | flat v hv => rw [flat_eq h hv]; exact .flat v hv
  | ptr l o hl =>
    cases h with
    | flat _ hv => simp [flatB, flat1B, atomB] at hv
    | ptr _ _ _ => rw [hi l hl]; exact .ptr l o hl
  | slice l o k c hl hk =>
    cases h with
    | flat _ hv => simp [flatB, flat1B, atomB] at hv
    | slice _ _ _ _ _ _ => rw [hi l hl]; exact .slice l o k c hl hk
    | slice0 _ _ a _ => exact .slice0 l o a hl
  | slice0 l o a hl =>
    cases h with
    | flat _ hv => simp [flatB, flat1B, atomB] at hv
    | slice _ _ _ _ _ _ => rw [hi l hl]; exact .slice l o 0 0 hl (Nat.le_refl _)
    | slice0 _ _ a _ => exact .slice0 l o a hl
  | agg xs ys hs _ ih =>
    cases h with
    | flat _ hv => exact .flat _ hv
    | agg _ zs hz hh =>
      refine .agg _ _ hz (fun i v w hx hy => ?_)
      have : i < ys.size := by rw [← hs]; exact (Array.getElem?_eq_some_iff.1 hx).1
      exact ih i v _ hx (Array.getElem?_eq_getElem this) (hh i v w hx hy)
  | tuple xs ys hs _ ih =>
    cases h with
    | flat _ hv => exact .flat _ hv
    | tuple _ zs hz hh =>
      refine .tuple _ _ hz (fun i v w hx hy => ?_)
      have : i < ys.size := by rw [← hs]; exact (Array.getElem?_eq_some_iff.1 hx).1
      exact ih i v _ hx (Array.getElem?_eq_getElem this) (hh i v w hx hy)
  | func fn a b c d h1 h2 _ _ ih1 ih2 =>
    cases h with
    | flat _ hv => exact .flat _ hv
    | func _ _ b' _ d' g1 g2 g3 g4 =>
      refine .func _ _ _ _ _ g1 g2 (fun i v w hx hy => ?_) (fun i v w hx hy => ?_)
      · have : i < b.size := by rw [← h1]; exact (Array.getElem?_eq_some_iff.1 hx).1
        exact ih1 i v _ hx (Array.getElem?_eq_getElem this) (g3 i v w hx hy)
      · have : i < d.size := by rw [← h2]; exact (Array.getElem?_eq_some_iff.1 hx).1
        exact ih2 i v _ hx (Array.getElem?_eq_getElem this) (g4 i v w hx hy)

/-- the real blocks that may be written -/
def RW (H : LH) (ι : Ren) (k : Nat) : Prop := ∃ l b, H.get l = some b ∧ b.rw = true ∧ (ι l).blk = k
/-- The logical heap H lies in the world w. -/
structure Rel (P : Program) (H : LH) (ι : Ren) (w : World) : Prop where
  dom : ∀ l, H.n ≤ l → H.get l = none
  hol : ∀ l, H.hole l → l < H.n ∧ H.get l = none
  blk : ∀ l b, H.get l = some b → ∃ arr t fr, w.heap[(ι l).blk]? = some (.cells arr t fr) ∧ (ι l).off + b.cells.length ≤ arr.size ∧
    (∀ i v, b.cells[i]? = some v → ∃ v', arr[(ι l).off + i]? = some v' ∧ VR H.D ι v v') ∧
    (b.rw = true → (ι l).off = 0 ∧ t = b.elem ∧ fr = (0, 0) ∧ ∃ s, sz P b.elem = some s ∧ arr.size = b.cells.length + (ι l).slack * s ∧ ∀ n, s ≠ 0 → b.cells.length = n * s → n + (ι l).slack ≤ maxLen)
  sep : ∀ l l' b b', H.get l = some b → H.get l' = some b' → b.rw = true → l ≠ l' → (ι l).blk ≠ (ι l').blk
  pin : ∀ g, g < H.ng → w.heap[g]? = H.base.heap[g]? ∧ g < w.heap.size ∧ ¬ RW H ι g

theorem Rel.live {P : Program} {H : LH} {ι : Ren} {w : World} (h : Rel P H ι w) {l : Nat} {b : LB} (hb : H.get l = some b) : H.D l := by
  refine ⟨?_, fun hh => ?_⟩
  · rcases Nat.lt_or_ge l H.n with h1 | h1
    · exact h1
    · rw [h.dom l h1] at hb; cases hb
  · rw [(h.hol l hh).2] at hb; cases hb

theorem pin_step {P : Program} {H H' : LH} {ι ι' : Ren} {w w' : World} (h : Rel P H ι w) (hc : Change (RW H ι) w w') (hrw : ∀ k, RW H' ι' k → RW H ι k ∨ w.heap.size ≤ k) (hb : H'.base = H.base) (hg : H'.ng = H.ng) : ∀ g, g < H'.ng → w'.heap[g]? = H'.base.heap[g]? ∧ g < w'.heap.size ∧ ¬ RW H' ι' g := by
  intro g hg'
  rw [hg] at hg'
  obtain ⟨h1, h2, h3⟩ := h.pin g hg'
  refine ⟨by rw [hb, hc.block g h2 h3]; exact h1, Nat.lt_of_lt_of_le h2 hc.size, fun h4 => ?_⟩
  rcases hrw g h4 with h5 | h5
  · exact h3 h5
  · omega
/-- What a step may do. -/
structure Out (P : Program) (H : LH) (ι : Ren) (w : World) (H' : LH) (ι' : Ren) (w' : World) : Prop where
  rel : Rel P H' ι' w'
  n : H.n ≤ H'.n
  sub : ∀ l, H.D l → H'.D l
  same : ∀ l, H.D l → ι' l = ι l
  chg : Change (RW H ι) w w'
  rw : ∀ k, RW H' ι' k → RW H ι k ∨ w.heap.size ≤ k

theorem Out.refl {P : Program} {H : LH} {ι : Ren} {w : World} (h : Rel P H ι w) : Out P H ι w H ι w := ⟨h, Nat.le_refl _, fun _ h => h, fun _ _ => rfl, Change.refl _ _, fun _ h => .inl h⟩
theorem Out.trans {P : Program} {H H1 H2 : LH} {ι ι1 ι2 : Ren} {w w1 w2 : World} (h : Out P H ι w H1 ι1 w1) (k : Out P H1 ι1 w1 H2 ι2 w2) : Out P H ι w H2 ι2 w2 :=
  ⟨k.rel, Nat.le_trans h.n k.n, fun l hl => k.sub l (h.sub l hl), fun l hl => (k.same l (h.sub l hl)).trans (h.same l hl), h.chg.trans k.chg h.rw,
    fun x hx => by
      rcases k.rw x hx with h1 | h1
      · exact h.rw x h1
      · exact .inr (Nat.le_trans h.chg.size h1)⟩

/-- frames -/
def FrR (n : Nat → Prop) (ι : Ren) (N : Nat) (fr : Fr) (tmps : Array Value) : Prop := tmps.size = N ∧ ∀ t, VR n ι (fr t) (tmps.getD t undef)
theorem FrR.mono {n n' : Nat → Prop} {ι ι' : Ren} {N : Nat} {fr : Fr} {tmps : Array Value} (h : FrR n ι N fr tmps) (hn : ∀ l, n l → n' l) (hi : ∀ l, n l → ι' l = ι l) : FrR n' ι' N fr tmps := ⟨h.1, fun t => (h.2 t).mono hn hi⟩
theorem FrR.ev {n : Nat → Prop} {ι : Ren} {N : Nat} {fr : Fr} {a : Act} (h : FrR n ι N fr a.tmps) (x : Operand) : VR n ι (ev fr x) (a.eval x) := by
  cases x with
  | tmp t => exact h.2 t
  | const v =>
    unfold Lg.ev; simp only
    split
    · exact .flat v ‹_›
    · exact .any _
  | global g => exact .any _
  | func f => exact .flat _ rfl
theorem flat_undef : flatB undef = true := rfl
theorem FrR.put {n : Nat → Prop} {ι : Ren} {N : Nat} {fr fr' : Fr} {a : Act} {d : Option Tmp} {v v' : Value} (h : FrR n ι N fr a.tmps) (hp : lput N fr d v = some fr') (hv : VR n ι v v') : FrR n ι N fr' (a.put d v').tmps := by
  cases d with
  | none => simp only [lput, Option.some.injEq] at hp; subst hp; exact h
  | some d =>
    simp only [lput] at hp
    split at hp
    · rename_i hd
      simp only [Option.some.injEq] at hp
      subst hp
      refine ⟨by simp [Act.put, h.1], fun t => ?_⟩
      have ht := h.2 t
      simp only [upd, Act.put, Array.getD_eq_getD_getElem?, Array.getElem?_setIfInBounds] at ht ⊢
      by_cases e : t = d
      · subst e; simp [h.1, hd]; exact hv
      · rw [if_neg e, if_neg (fun h => e h.symm)]; exact ht
    · cases hp
theorem put_defers (a : Act) (d : Option Tmp) (v : Value) : (a.put d v).defers = a.defers := by cases d <;> rfl
theorem FrR.undef (n : Nat → Prop) (ι : Ren) {N : Nat} {fr fr' : Fr} {a : Act} {d : Option Tmp} (h : FrR n ι N fr a.tmps) (hp : lput N fr d undef = some fr') : FrR n ι N fr' (a.put d Go.undef).tmps := h.put hp (.flat _ rfl)
/-- guards -/
theorem want_eq {n : Nat → Prop} {ι : Ren} {N : Nat} {fr : Fr} {a : Act} {ops : Array Oper} (h : FrR n ι N fr a.tmps) {o : Oper} {b : Bool} (hw : lwant ops fr o = some b) : Region.wanted o (yielded ops a.tmps) = b := by
  unfold lwant at hw
  unfold Region.wanted
  cases hg : o.guard with
  | none => simp only [hg, Option.some.injEq] at hw ⊢; exact hw
  | some g =>
    obtain ⟨j, want⟩ := g
    simp only [hg] at hw ⊢
    cases hd : (ops[j]?).bind (·.dst) with
    | none =>
      simp only [hd, Option.some.injEq] at hw; subst hw
      unfold yielded; rw [hd]; rfl
    | some d =>
      simp only [hd] at hw
      have ht := h.2 d
      have key : ∀ v, fr d = v → flatB v = true → yielded ops a.tmps j = (match v with | .bool b => some b | _ => none) := by
        intro v hv hf
        rw [hv] at ht
        have := flat_eq ht hf
        simp only [Array.getD_eq_getD_getElem?] at this
        unfold yielded
        rw [hd]
        simp only [Option.bind_some]
        cases hx : a.tmps[d]? with
        | none => rw [hx] at this; simp at this; subst this; simp [Go.undef]
        | some z => rw [hx] at this; simp at this; subst this; cases z <;> rfl
      cases hf : fr d with
      | bool c =>
        simp only [hf, Option.some.injEq] at hw
        rw [key _ hf rfl, ← hw]
        cases c <;> cases want <;> rfl
      | _ =>
        simp only [hf] at hw
        split at hw
        · simp only [Option.some.injEq] at hw
          rw [key _ hf ‹_›, ← hw]; rfl
        · cases hw
end Go.Lg
/-
  A logical run of Go code: each operation does to the real world what it does to the logical one.
-/
set_option linter.unusedSimpArgs false
set_option linter.unusedVariables false
namespace Go.Lg
open Go.Tg Go.RowKit

theorem pureVal_run {α : Type} {P : Program} {s : Sem α} {x : α} (h : pureVal P s = some x) (w : World) : s.run P w = .ok x w := by
  induction s with
  | pure a => simp only [pureVal, Option.some.injEq] at h; subst h; rfl
  | program k ih => exact ih P h
  | mark m k ih => exact ih h
  | _ => simp [pureVal] at h

/-- An operation is carried out: the value v, the heap H' behind it. -/
def OpOk (P : Program) (H : LH) (ι : Ren) (o : Oper) (a : Act) (w : World) (v : Value) (H' : LH) : Prop :=
  ∀ (K : Act → World → Prop) (Q : Exit → Act → World → Prop), (∀ ι' v' w', Out P H ι w H' ι' w' → VR H'.D ι' v v' → K (a.put o.dst v') w') → o.wp P a w K Q

section
variable {P : Program} {H H' : LH} {ι : Ren} {o : Oper} {a : Act} {w : World} {v v' : Value} {N : Nat} {fr : Fr}
theorem opok_world {w' : World} {ι' : Ren} (hrun : (execOp a.eval o).run P w = .ok (.value v') w') (hr : Out P H ι w H' ι' w') (hv : VR H'.D ι' v v') : OpOk P H ι o a w v H' := by
  intro K Q hK
  unfold Oper.wp
  rw [hrun]
  exact hK _ _ _ hr hv
theorem opok_value (hrun : (execOp a.eval o).run P w = .ok (.value v') w) (hr : Rel P H ι w) (hv : VR H.D ι v v') : OpOk P H ι o a w v H := opok_world hrun (Out.refl hr) hv
theorem opok_skip {w' : World} {ι' : Ren} (hrun : (execOp a.eval o).run P w = .ok .skip w') (hr : Out P H ι w H' ι' w') : OpOk P H ι o a w undef H' := by
  intro K Q hK
  unfold Oper.wp
  rw [hrun]
  exact hK _ _ _ hr (.flat _ rfl)

theorem vr_ptr {n : Nat → Prop} {l off : Nat} (h : VR n ι (.pointer (some ⟨l, off, none⟩)) v') : n l ∧ v' = .pointer (some ⟨(ι l).blk, (ι l).off + off, none⟩) := by
  cases h with
  | flat _ hv => simp [flatB, flat1B, atomB] at hv
  | ptr _ _ hl => exact ⟨hl, rfl⟩
theorem vr_agg {n : Nat → Prop} {cs : Array Value} (h : VR n ι (.agg cs) v') : ∃ ds, v' = .agg ds ∧ cs.size = ds.size ∧ ∀ (i : Nat) (x y : Value), cs[i]? = some x → ds[i]? = some y → VR n ι x y := by
  cases h with
  | flat _ hv =>
    refine ⟨cs, rfl, rfl, fun i x y hx hy => ?_⟩
    rw [hx] at hy
    injection hy with hy
    subst hy
    have hx2 : x ∈ cs.toList := by simpa using Array.mem_of_getElem? hx
    simp only [flatB, flat1B, List.all_eq_true] at hv
    have := hv x hx2
    refine .flat _ ?_
    cases x <;> first | exact this | (simp [atomB] at this)
  | agg _ ys hs h => exact ⟨ys, rfl, hs, h⟩
theorem flatB_of_flat1B {x : Value} (h : flat1B x = true) : flatB x = true := by
  cases x <;> first | exact h | (simp [flat1B, atomB] at h)
theorem vr_tuple {n : Nat → Prop} {cs : Array Value} (h : VR n ι (.tuple cs) v') : ∃ ds, v' = .tuple ds ∧ cs.size = ds.size ∧ ∀ (i : Nat) (x y : Value), cs[i]? = some x → ds[i]? = some y → VR n ι x y := by
  cases h with
  | flat _ hv =>
    refine ⟨cs, rfl, rfl, fun i x y hx hy => ?_⟩
    rw [hx] at hy
    injection hy with hy
    subst hy
    have hx2 : x ∈ cs.toList := by simpa using Array.mem_of_getElem? hx
    simp only [flatB, List.all_eq_true] at hv
    exact .flat _ (flatB_of_flat1B (hv x hx2))
  | tuple _ ys hs h => exact ⟨ys, rfl, hs, h⟩
theorem vr_cells {n : Nat → Prop} (h : VR n ι v v') (hk : knownB v = true) : v.cells.size = v'.cells.size ∧ ∀ (i : Nat) (x y : Value), v.cells[i]? = some x → v'.cells[i]? = some y → VR n ι x y := by
  have one : ∀ {u u' : Value}, VR n ι u u' → (∀ cs, u ≠ .agg cs) → (∀ cs, u' ≠ .agg cs) → u.cells.size = u'.cells.size ∧ ∀ (i : Nat) (x y : Value), u.cells[i]? = some x → u'.cells[i]? = some y → VR n ι x y := by
    intro u u' hh h1 h2
    have e1 : u.cells = #[u] := by cases u <;> first | rfl | exact absurd rfl (h1 _)
    have e2 : u'.cells = #[u'] := by cases u' <;> first | rfl | exact absurd rfl (h2 _)
    rw [e1, e2]
    refine ⟨rfl, fun i x y hx hy => ?_⟩
    match i, hx, hy with
    | 0, hx, hy =>
      simp at hx hy
      subst hx hy
      exact hh
  cases h with
  | any => simp [knownB] at hk
  | flat _ hv =>
    cases v with
    | agg cs =>
      obtain ⟨ds, e, hs, hh⟩ := vr_agg (n := n) (ι := ι) (.flat (.agg cs) hv)
      injection e with e
      subst e
      exact ⟨rfl, hh⟩
    | _ => exact one (.flat _ hv) (by simp) (by simp)
  | agg xs ys hs hh => exact ⟨hs, hh⟩
  | ptr l o hl => exact one (.ptr l o hl) (by simp) (by simp)
  | slice l o k c hl hkc => exact one (.slice l o k c hl hkc) (by simp) (by simp)
  | slice0 l o ad hl => exact one (.slice0 l o ad hl) (by simp) (by simp)
  | tuple xs ys hs hh => exact one (.tuple xs ys hs hh) (by simp) (by simp)
  | func fn a b c d h1 h2 h3 h4 => exact one (.func fn a b c d h1 h2 h3 h4) (by simp) (by simp)
theorem cell_one {n : Nat → Prop} {x y : Value} (h : VR n ι x y) (hc : cellB x = true) : y.oneCell' = true := by
  cases h with
  | any => simp [cellB] at hc
  | flat => cases x <;> first | rfl | (simp [cellB] at hc)
  | ptr => rfl
  | slice => rfl
  | slice0 => rfl
  | agg => simp [cellB] at hc
  | tuple => simp [cellB] at hc
  | func => rfl

/-- the cells of a block, as they lie in the world -/
theorem Rel.cell (h : Rel P H ι w) {l : Nat} {b : LB} (hb : H.get l = some b) {i : Nat} {x : Value} (hx : b.cells[i]? = some x) :
    ∃ y, w.cell? ⟨(ι l).blk, (ι l).off + i, none⟩ = some y ∧ VR H.D ι x y := by
  obtain ⟨arr, t, f, hw, hsz, hc, _⟩ := h.blk l b hb
  obtain ⟨y, hy, hv⟩ := hc i x hx
  exact ⟨y, by simp [World.cell?, hw, hy], hv⟩
theorem addr_add (b o i : Nat) : (⟨b, o, none⟩ : Addr).add i = ⟨b, o + i, none⟩ := by
  unfold Addr.add; split <;> simp_all
theorem run_isAgg {t : TypeId} {c : Bool} (h : aggB P t = some c) (w : World) : (isAgg t).run P w = .ok c w := by
  unfold aggB at h
  cases hu : P.underlying t with
  | none => simp [hu] at h
  | some d =>
    simp only [hu, Option.map_some, Option.some.injEq] at h
    unfold isAgg
    rw [Sem.run_bind, run_underlying hu w]
    cases d <;> (simp only [Result.andThen_ok, aggD] at *; subst h; rfl)
theorem run_sizeOf' {t : TypeId} {s : Nat} (h : sz P t = some s) (w : World) : (sizeOf t).run P w = .ok s w := by
  unfold sz at h
  cases hi : P.info? t with
  | none => simp [hi] at h
  | some i => simp [hi] at h; simp [sizeOf, typeInfo, hi, h]
theorem run_zero {t : TypeId} {z : Value} (h : zr P t = some z) (w : World) : (zeroValue t).run P w = .ok z w := by
  unfold zr at h
  cases hi : P.info? t with
  | none => simp [hi] at h
  | some i =>
    simp only [hi, Option.bind_some] at h
    simp [zeroValue, typeInfo, hi, h]

theorem load_sound (h : Rel P H ι w) {t : TypeId} {l off : Nat} (hl : lload P t l off H = some v) :
    ∃ v', (∀ w' : World, w'.heap[(ι l).blk]? = w.heap[(ι l).blk]? → (loadVar t ⟨(ι l).blk, (ι l).off + off, none⟩).run P w' = .ok v' w') ∧ VR H.D ι v v' := by
  unfold lload at hl
  split at hl
  · rename_i b hb
    split at hl
    · rename_i s ha hs
      simp only [lcells, Option.map_eq_some_iff] at hl
      obtain ⟨cs, hcs, rfl⟩ := hl
      split at hcs
      · rename_i hle
        simp only [Option.some.injEq] at hcs
        have hlen : cs.length = s := by rw [← hcs]; simp; omega
        have hget : ∀ j x, cs[j]? = some x → b.cells[off + j]? = some x := by
          intro j x hx
          rw [← hcs, List.getElem?_take] at hx
          split at hx
          · rw [List.getElem?_drop] at hx; exact hx
          · cases hx
        have hall : ∀ j, j < s → ∃ y, w.cell? ⟨(ι l).blk, (ι l).off + off + j, none⟩ = some y ∧ ∀ x, cs[j]? = some x → VR H.D ι x y := by
          intro j hj
          have hx : cs[j]? = some (cs[j]'(by omega)) := List.getElem?_eq_getElem (by omega)
          obtain ⟨y, hy, hv⟩ := h.cell hb (hget j _ hx)
          exact ⟨y, by rw [Nat.add_assoc]; exact hy, fun x hx' => by rw [hx] at hx'; injection hx' with hx'; rw [← hx']; exact hv⟩
        obtain ⟨f, hf⟩ : ∃ f : Nat → Value, ∀ j, j < s → w.cell? ⟨(ι l).blk, (ι l).off + off + j, none⟩ = some (f j) ∧ ∀ x, cs[j]? = some x → VR H.D ι x (f j) := by
          classical
          refine ⟨fun j => if hj : j < s then Classical.choose (hall j hj) else undef, fun j hj => ?_⟩
          simp only [dif_pos hj]
          exact Classical.choose_spec (hall j hj)
        have hrun := fun (w' : World) (hw' : w'.heap[(ι l).blk]? = w.heap[(ι l).blk]?) => run_loadCells (P := P) w' ⟨(ι l).blk, (ι l).off + off, none⟩ s f (fun j hj => by rw [addr_add, World.cell?_of_block (w := w) hw']; exact (hf j hj).1)
        refine ⟨.agg ((List.range s).map f).toArray, ?_, ?_⟩
        · intro w' hw'
          unfold loadVar
          rw [Sem.run_bind, run_isAgg ha]
          simp only [Result.andThen_ok, if_true, Sem.run_bind, run_sizeOf' hs]
          rw [hrun w' hw']
          rfl
        · refine .agg _ _ (by simp [hlen]) (fun i x y hx hy => ?_)
          simp only [List.getElem?_toArray] at hx
          have hi : i < s := by rw [← hlen]; exact (List.getElem?_eq_some_iff.1 hx).1
          simp [hi] at hy
          subst hy
          exact (hf i hi).2 x hx
      · cases hcs
    · rename_i ha
      obtain ⟨y, hy, hv⟩ := h.cell hb hl
      refine ⟨y, fun w' hw' => ?_, hv⟩
      unfold loadVar
      rw [Sem.run_bind, run_isAgg ha]
      have hy' := (World.cell?_of_block (w := w) (w' := w') (a := ⟨(ι l).blk, (ι l).off + off, none⟩) hw').trans hy
      simp [load, Sem.run, hy']
    · cases hl
  · cases hl

/-- a new block -/
def Ren.add (ι : Ren) (n : Nat) (x : Im) : Ren := fun l => if l = n then x else ι l
theorem rel_at (h : Rel P H ι w) {b : LB} {arr : Array Value} {slack s l0 : Nat} (hrw : b.rw = true) (hs : sz P b.elem = some s) (hsz : arr.size = b.cells.length + slack * s)
    (hm : ∀ n, s ≠ 0 → b.cells.length = n * s → n + slack ≤ maxLen) (hc : ∀ (i : Nat) x, b.cells[i]? = some x → ∃ y, arr[i]? = some y ∧ VR H.D ι x y)
    (hget : ∀ k, H'.get k = if k = l0 then some b else H.get k) (hD : ∀ k, H'.D k ↔ H.D k ∨ k = l0) (hfr : ¬ H.D l0) (hdom : ∀ l, H'.n ≤ l → H'.get l = none) (hhol : ∀ l, H'.hole l → l < H'.n ∧ H'.get l = none) (hn : H.n ≤ H'.n) (hbase : H'.base = H.base) (hng : H'.ng = H.ng) :
    Out P H ι w H' (ι.add l0 ⟨w.heap.size, 0, slack⟩) (w.alloc (.cells arr b.elem)) := by
  have hne0 : ∀ l, H.D l → l ≠ l0 := fun l hl e => hfr (e ▸ hl)
  have hsame : ∀ l, H.D l → (ι.add l0 ⟨w.heap.size, 0, slack⟩) l = ι l := fun l hl => by unfold Ren.add; rw [if_neg (hne0 l hl)]
  have hsub : ∀ l, H.D l → H'.D l := fun l hl => (hD l).2 (.inl hl)
  have hold : ∀ l b', H.get l = some b' → (ι l).blk < w.heap.size := fun l b' hb => by
    obtain ⟨arr', t, f, hw, _⟩ := h.blk l b' hb
    exact lt_of_block hw
  have hrwk : ∀ k, RW H' (ι.add l0 ⟨w.heap.size, 0, slack⟩) k → RW H ι k ∨ w.heap.size ≤ k := by
    rintro k ⟨l, b', hb', hrw', rfl⟩
    rw [hget] at hb'
    split at hb'
    · rename_i e; subst e; right; simp [Ren.add]
    · left; rw [hsame l (h.live hb')]; exact ⟨l, b', hb', hrw', rfl⟩
  refine ⟨⟨hdom, hhol, ?_, ?_, pin_step h ((Change.refl _ w).alloc _) hrwk hbase hng⟩, hn, hsub, hsame, (Change.refl _ w).alloc _, hrwk⟩
  · intro l b' hb'
    rw [hget] at hb'
    split at hb'
    · rename_i e
      subst e
      injection hb' with hb'
      subst hb'
      have e : (ι.add l ⟨w.heap.size, 0, slack⟩) l = ⟨w.heap.size, 0, slack⟩ := by simp [Ren.add]
      rw [e]
      refine ⟨arr, b.elem, (0, 0), heap_alloc_new w _, by simp; omega, fun i x hx => ?_, fun _ => ⟨rfl, rfl, rfl, s, hs, hsz, hm⟩⟩
      obtain ⟨y, hy, hv⟩ := hc i x hx
      exact ⟨y, by simpa using hy, hv.mono hsub hsame⟩
    · rw [hsame l (h.live hb')]
      obtain ⟨arr', t, f, hw, h1, h2, h3⟩ := h.blk l b' hb'
      refine ⟨arr', t, f, by rw [Below.heap_alloc _ _ _ (hold l b' hb')]; exact hw, h1, fun i x hx => ?_, h3⟩
      obtain ⟨y, hy, hv⟩ := h2 i x hx
      exact ⟨y, hy, hv.mono hsub hsame⟩
  · intro l l' b1 b2 h1 h2 hrw1 hne
    rw [hget] at h1 h2
    split at h1 <;> split at h2
    · omega
    · rename_i e1 e2
      rw [hsame l' (h.live h2), e1]
      have := hold l' b2 h2
      simp only [Ren.add, if_true]; omega
    · rename_i e1 e2
      rw [hsame l (h.live h1), e2]
      have := hold l b1 h1
      simp only [Ren.add, if_true]; omega
    · rw [hsame l (h.live h1), hsame l' (h.live h2)]
      exact h.sep l l' b1 b2 h1 h2 hrw1 hne
theorem Rel.top (h : Rel P H ι w) : ¬ H.hole H.n := fun hh => Nat.lt_irrefl _ (h.hol _ hh).1
theorem D_new (h : Rel P H ι w) {b : LB} (k : Nat) : (H.new b).D k ↔ H.D k ∨ k = H.n := by
  have := h.top
  show k < H.n + 1 ∧ ¬ H.hole k ↔ _
  unfold LH.D
  constructor
  · rintro ⟨h1, h2⟩
    rcases Nat.lt_or_ge k H.n with h3 | h3
    · exact .inl ⟨h3, h2⟩
    · exact .inr (by omega)
  · rintro (⟨h1, h2⟩ | rfl)
    · exact ⟨by omega, h2⟩
    · exact ⟨by omega, this⟩
theorem dom_new (h : Rel P H ι w) {b : LB} : (∀ l, (H.new b).n ≤ l → (H.new b).get l = none) ∧ (∀ l, (H.new b).hole l → l < (H.new b).n ∧ (H.new b).get l = none) ∧ ¬ H.D H.n := by
  refine ⟨fun l hl => ?_, fun l hl => ?_, fun hd => Nat.lt_irrefl _ hd.1⟩
  · show (if l = H.n then some b else H.get l) = none
    have : H.n + 1 ≤ l := hl
    rw [if_neg (by omega)]
    exact h.dom l (by omega)
  · have h1 : H.hole l := hl
    obtain ⟨h2, h3⟩ := h.hol l h1
    refine ⟨Nat.lt_succ_of_lt h2, ?_⟩
    show (if l = H.n then some b else H.get l) = none
    rw [if_neg (by omega), h3]
theorem rel_new (h : Rel P H ι w) {b : LB} {arr : Array Value} {slack s : Nat} (hrw : b.rw = true) (hs : sz P b.elem = some s) (hsz : arr.size = b.cells.length + slack * s)
    (hm : ∀ n, s ≠ 0 → b.cells.length = n * s → n + slack ≤ maxLen) (hc : ∀ (i : Nat) x, b.cells[i]? = some x → ∃ y, arr[i]? = some y ∧ VR H.D ι x y) :
    Out P H ι w (H.new b) (ι.add H.n ⟨w.heap.size, 0, slack⟩) (w.alloc (.cells arr b.elem)) :=
  let ⟨h1, h2, h3⟩ := dom_new h (b := b)
  rel_at h hrw hs hsz hm hc (fun _ => rfl) (D_new h) h3 h1 h2 (Nat.le_succ _) rfl rfl

/-- cells of a block are written -/
theorem rel_set (h : Rel P H ι w) {l : Nat} {b b' : LB} (hb : H.get l = some b) (hrw : b.rw = true) (he : b'.elem = b.elem) (hrw' : b'.rw = true) (hlen : b'.cells.length = b.cells.length)
    {arr arr' : Array Value} (hw : w.heap[(ι l).blk]? = some (.cells arr b.elem (0, 0))) (hsz : arr'.size = arr.size) (hc : ∀ (i : Nat) x, b'.cells[i]? = some x → ∃ y, arr'[i]? = some y ∧ VR H.D ι x y)
    {w' : World} (hw' : w'.heap[(ι l).blk]? = some (.cells arr' b.elem (0, 0))) (hch : Change (fun k => k = (ι l).blk) w w') : Out P H ι w (H.set l b') ι w' := by
  have hold : ∀ l b', H.get l = some b' → (ι l).blk < w.heap.size := fun l b' hb => by
    obtain ⟨arr', t, f, hw, _⟩ := h.blk l b' hb
    exact lt_of_block hw
  have hrwk : ∀ k, RW (H.set l b') ι k → RW H ι k ∨ w.heap.size ≤ k := by
    rintro k ⟨m, c, hk, hc1, rfl⟩
    change (if m = l then some b' else H.get m) = some c at hk
    left
    split at hk
    · rename_i e; subst e; exact ⟨m, b, hb, hrw, rfl⟩
    · exact ⟨m, c, hk, hc1, rfl⟩
  have hch2 : Change (RW H ι) w w' := hch.mono (fun k _ hk => ⟨l, b, hb, hrw, hk.symm⟩)
  refine ⟨⟨?_, ?_, ?_, ?_, pin_step h hch2 hrwk rfl rfl⟩, Nat.le_refl _, fun _ h => h, fun _ _ => rfl, hch2, hrwk⟩
  · intro k hk
    show (if k = l then some b' else H.get k) = none
    have := (h.live hb).1
    have hk' : H.n ≤ k := hk
    rw [if_neg (by omega)]
    exact h.dom k hk
  · intro k hk
    have hk' : H.hole k := hk
    refine ⟨(h.hol k hk').1, ?_⟩
    show (if k = l then some b' else H.get k) = none
    have hne : k ≠ l := fun e => (h.live hb).2 (e ▸ hk')
    rw [if_neg hne]
    exact (h.hol k hk').2
  · intro k c hk
    change (if k = l then some b' else H.get k) = some c at hk
    split at hk
    · rename_i e
      subst e
      injection hk with hk
      subst hk
      obtain ⟨arr0, t0, f0, hw0, h1, h2, h3⟩ := h.blk k b hb
      obtain ⟨g1, g2, g3, s, g4, g5, g6⟩ := h3 hrw
      rw [hw] at hw0
      injection hw0 with hw0
      injection hw0 with e1 e2 e3
      subst e1
      refine ⟨arr', b.elem, (0, 0), hw', by rw [hlen, hsz]; exact h1, fun i x hx => ?_, fun _ => ⟨g1, he.symm, rfl, s, by rw [he]; exact g4, by rw [hsz, hlen]; exact g5, by rw [hlen]; exact g6⟩⟩
      obtain ⟨y, hy, hv⟩ := hc i x hx
      exact ⟨y, by rw [g1, Nat.zero_add]; exact hy, hv⟩
    · rename_i hne
      obtain ⟨arr0, t0, f0, hw0, h1, h2, h3⟩ := h.blk k c hk
      exact ⟨arr0, t0, f0, by rw [hch.block _ (hold k c hk) (h.sep l k b c hb hk hrw (fun e => hne e.symm)).symm]; exact hw0, h1, h2, h3⟩
  · intro k k' c c' h1 h2 h3 hne
    change (if k = l then some b' else H.get k) = some c at h1
    change (if k' = l then some b' else H.get k') = some c' at h2
    split at h1 <;> split at h2
    · omega
    · rename_i e1 e2; subst e1; exact h.sep k k' b c' hb h2 hrw hne
    · rename_i e1 e2; subst e2; exact h.sep k k' c b h1 hb h3 hne
    · exact h.sep k k' c c' h1 h2 h3 hne
theorem splice_length {cs vs : List Value} {o : Nat} (h : o + vs.length ≤ cs.length) : (splice cs o vs).length = cs.length := by
  simp [splice]; omega
theorem splice_get {cs vs : List Value} {o : Nat} (h : o + vs.length ≤ cs.length) (i : Nat) : (splice cs o vs)[i]? = if i < o then cs[i]? else if i < o + vs.length then vs[i - o]? else cs[i]? := by
  unfold splice
  rw [List.append_assoc, List.getElem?_append, List.length_take, Nat.min_eq_left (by omega)]
  split
  · rw [List.getElem?_take, if_pos ‹_›]
  · rw [List.getElem?_append]
    split
    · rw [if_pos (by omega)]
    · rw [if_neg (by omega), List.getElem?_drop]
      congr 1; omega
theorem setRow_change {w : World} {g : Nat} (cs : Array Value) : Change (fun k => k = g) w (w.setRow g cs) := by
  refine ⟨rfl, rfl, rfl, by simp [World.setRow], fun k hk hne => ?_⟩
  simp only [World.setRow, Array.getElem?_modify]
  rw [if_neg (by omega)]
/-- cells of a row's block are written -/
theorem row_out (h : Rel P H ι w) {l o : Nat} {b : LB} {vs us : List Value} {arr : Array Value} (hb : H.get l = some b) (hrw : b.rw = true) (hle : o + vs.length ≤ b.cells.length) (hlen : us.length = vs.length)
    (hv : ∀ (i : Nat) x y, vs[i]? = some x → us[i]? = some y → VR H.D ι x y) (hw : w.heap[(ι l).blk]? = some (.cells arr b.elem (0, 0))) (hin : o + us.length ≤ arr.size) :
    Out P H ι w (H.set l { b with cells := splice b.cells o vs }) ι (w.setRow (ι l).blk (splice arr.toList o us).toArray) := by
  obtain ⟨arr1, t, f, hw1, h1, h2, h3⟩ := h.blk l b hb
  obtain ⟨g1, g2, g3, s, g4, g5, g6⟩ := h3 hrw
  rw [hw] at hw1
  injection hw1 with hw1
  injection hw1 with e1 e2 e3
  subst e1
  have hin' : o + us.length ≤ arr.toList.length := by simpa using hin
  have hsz : (splice arr.toList o us).toArray.size = arr.size := by simp [splice_length hin']
  refine rel_set (b' := { b with cells := splice b.cells o vs }) h hb hrw rfl hrw (splice_length hle) hw hsz (fun i x hx => ?_) ?_ (setRow_change _)
  · have hx' := hx
    simp only at hx'
    rw [splice_get hle] at hx'
    have ha := splice_get (cs := arr.toList) (vs := us) (o := o) hin' i
    rw [List.getElem?_toArray, ha]
    by_cases c1 : i < o
    · rw [if_pos c1] at hx' ⊢
      obtain ⟨y, hy, hv'⟩ := h2 i x hx'
      rw [g1, Nat.zero_add] at hy
      exact ⟨y, by simpa using hy, hv'⟩
    · rw [if_neg c1] at hx' ⊢
      by_cases c2 : i < o + vs.length
      · rw [if_pos c2] at hx'
        rw [if_pos (by omega)]
        have : i - o < us.length := by omega
        exact ⟨us[i - o], List.getElem?_eq_getElem this, hv _ _ _ hx' (List.getElem?_eq_getElem this)⟩
      · rw [if_neg c2] at hx'
        rw [if_neg (by omega)]
        obtain ⟨y, hy, hv'⟩ := h2 i x hx'
        rw [g1, Nat.zero_add] at hy
        exact ⟨y, by simpa using hy, hv'⟩
  · simp only [World.setRow, Array.getElem?_modify, hw]
    simp
theorem row_sound (h : Rel P H ι w) {l o : Nat} {b : LB} {vs us : List Value} (hb : H.get l = some b) (hrw : b.rw = true) (hle : o + vs.length ≤ b.cells.length) (hlen : us.length = vs.length)
    (hv : ∀ (i : Nat) x y, vs[i]? = some x → us[i]? = some y → VR H.D ι x y) (hone : ∀ u ∈ us, u.oneCell' = true) :
    ∃ w', (storeCells ⟨(ι l).blk, (ι l).off + o, none⟩ us).run P w = .ok () w' ∧ Out P H ι w (H.set l { b with cells := splice b.cells o vs }) ι w' := by
  obtain ⟨arr, t, f, hw, h1, h2, h3⟩ := h.blk l b hb
  obtain ⟨g1, rfl, rfl, s, g4, g5, g6⟩ := h3 hrw
  rw [g1] at h1 ⊢
  have hrun := run_storeCells_at (P := P) (ι l).blk (0 + o) b.elem us 0 arr w hw (by omega) hone
  refine ⟨_, hrun, ?_⟩
  have := row_out h hb hrw hle hlen hv hw (by omega)
  have e : (arr.toList.take (0 + o + 0) ++ us ++ arr.toList.drop (0 + o + 0 + us.length)) = splice arr.toList o us := by simp [splice]
  rw [e]
  exact this
theorem store_sound (h : Rel P H ι w) {t : TypeId} {l off : Nat} (hv : VR H.D ι v v') (hl : lstore P t l off v H = some H') :
    ∃ w', (storeVar t ⟨(ι l).blk, (ι l).off + off, none⟩ v').run P w = .ok () w' ∧ Out P H ι w H' ι w' := by
  unfold lstore at hl
  split at hl
  · rename_i b s hb hs
    split at hl
    · rename_i hc
      simp only [Bool.and_eq_true, beq_iff_eq, decide_eq_true_eq, List.all_eq_true] at hc
      obtain ⟨⟨⟨c1, c2⟩, c3⟩, c4⟩ := hc
      simp only [Option.some.injEq] at hl
      subst hl
      have hk : knownB v = true := by
        cases v <;> first | rfl | skip
        rename_i r
        have := c3 (.chan r) (by simp [Value.cells])
        simp [cellB] at this
      obtain ⟨k1, k2⟩ := vr_cells hv hk
      obtain ⟨w', hr, ho⟩ := row_sound (o := off) (vs := v.cells.toList) (us := v'.cells.toList) h hb c1 c4 (by simp [k1]) (fun i x y hx hy => k2 i x y (by simpa using hx) (by simpa using hy))
        (fun u hu => by
          obtain ⟨i, hi⟩ := List.getElem?_of_mem hu
          have hlt : i < v.cells.size := by rw [k1]; simpa using (List.getElem?_eq_some_iff.1 hi).1
          have hx : v.cells[i]? = some v.cells[i] := Array.getElem?_eq_getElem hlt
          exact cell_one (k2 i _ u hx (by simpa using hi)) (c3 _ (by simp)))
      refine ⟨w', ?_, ho⟩
      unfold storeVar
      have hz : v'.cells.size = s := by rw [← k1, ← c2]; simp
      simp only [Sem.run_bind, run_sizeOf' hs, Result.andThen_ok, hz, ne_eq, not_true_eq_false, if_false]
      exact hr
    · cases hl
  · cases hl
end
end Go.Lg
/-
  A logical run of Go code: the operations, one by one.
-/
set_option linter.unusedSimpArgs false
set_option linter.unusedVariables false
namespace Go.Lg
open Go.Tg Go.RowKit

/-- a call: what it hands back, and what becomes of memory -/
def CallOk (P : Program) (f : FuncId) (args : List Value) (H : LH) (v : Value) (H' : LH) : Prop :=
  ∀ (ι : Ren) (w : World) (args' : Array Value), Rel P H ι w → args.length = args'.size → (∀ (i : Nat) (x y : Value), args[i]? = some x → args'[i]? = some y → VR H.D ι x y) →
    Calls P f args' w (fun e w' => ∃ ι' v', e = .returned v' ∧ Out P H ι w H' ι' w' ∧ VR H'.D ι' v v')
def Entered (P : Program) (f : FuncId) : Prop := ∃ fn, P.funcs[f]? = some fn ∧ fn.body.isSome = true ∧ fn.name ≠ "runtime.NumGoroutine"
def TOk (P : Program) (T : Callee) : Prop := ∀ f args H v H', T f args H = some (v, H') → Entered P f ∧ CallOk P f args H v H'

section
variable {P : Program} {T : Callee} {H H' : LH} {ι : Ren} {o : Oper} {a : Act} {w : World} {v v' : Value} {N : Nat} {fr : Fr}

theorem vr_bool {n : Nat → Prop} {b : Bool} (h : VR n ι (.bool b) v') : v' = .bool b := flat_eq h rfl
theorem vr_int {n : Nat → Prop} {k : IntKind} {i : Int} (h : VR n ι (.int k i) v') : v' = .int k i := flat_eq h rfl
theorem vr_isNone {n : Nat → Prop} {b : Option Addr} (h : VR n ι (.pointer b) v') : ∃ b', v' = .pointer b' ∧ b'.isNone = b.isNone := by
  cases h with
  | flat _ hv => exact ⟨b, rfl, rfl⟩
  | ptr _ _ hl => exact ⟨_, rfl, rfl⟩
theorem vr_slice {n : Nat → Prop} {b : Option Addr} {k c : Nat} (h : VR n ι (.slice b k c) v') : ∃ b' c', v' = .slice b' k c' ∧ b'.isNone = b.isNone := by
  cases h with
  | flat _ hv => exact ⟨b, _, rfl, rfl⟩
  | slice _ _ _ _ hl _ => exact ⟨_, _, rfl, rfl⟩
  | slice0 _ _ _ hl => exact ⟨_, _, rfl, rfl⟩

/-- an operation that asks nothing of memory -/
def PureOk (P : Program) (n : Nat → Prop) (ι : Ren) (o : Oper) (a : Act) (v : Value) : Prop := ∃ v', VR n ι v v' ∧ ∀ w : World, (execOp a.eval o).run P w = .ok (.value v') w
/-- an operation that only reads -/
def ReadOk (P : Program) (n : Nat → Prop) (ι : Ren) (o : Oper) (a : Act) (w : World) (v : Value) : Prop := ∃ v', VR n ι v v' ∧ ∀ w' : World, Change (fun _ => False) w w' → (execOp a.eval o).run P w' = .ok (.value v') w'
theorem pureok {n : Nat → Prop} (hrun : ∀ w : World, (execOp a.eval o).run P w = .ok (.value v') w) (hv : VR n ι v v') : PureOk P n ι o a v := ⟨v', hv, hrun⟩
theorem PureOk.read {n : Nat → Prop} (h : PureOk P n ι o a v) : ReadOk P n ι o a w v := let ⟨v', hv, hr⟩ := h; ⟨v', hv, fun w' _ => hr w'⟩
theorem ReadOk.opok (h : ReadOk P H.D ι o a w v) (hrel : Rel P H ι w) : OpOk P H ι o a w v H := let ⟨v', hv, hr⟩ := h; opok_value (hr w (Change.refl _ w)) hrel hv
theorem PureOk.opok (h : PureOk P H.D ι o a v) (hrel : Rel P H ι w) : OpOk P H ι o a w v H := h.read.opok hrel
theorem rel_lt (h : Rel P H ι w) {l : Nat} {b : LB} (hb : H.get l = some b) : (ι l).blk < w.heap.size := by
  obtain ⟨arr', t, f, hw, _⟩ := h.blk l b hb
  exact lt_of_block hw
theorem move_ok (hfr : FrR H.D ι N fr a.tmps) {x : Operand} (ho : o.op = .move x ∨ o.op = .assign x) : PureOk P H.D ι o a (ev fr x) := by
  refine pureok (v' := a.eval x) (fun w => ?_) (hfr.ev x)
  rcases ho with ho | ho <;> (unfold execOp; simp only [ho]; rfl)
theorem pick_ok (hfr : FrR H.D ι N fr a.tmps) {c x y : Operand} {t : Bool} (ho : o.op = .pick c x y) (hc : ev fr c = .bool t) : PureOk P H.D ι o a (if t then ev fr x else ev fr y) := by
  have h1 := hfr.ev c
  rw [hc] at h1
  have h2 := vr_bool h1
  refine pureok (v' := if t then a.eval x else a.eval y) (fun w => ?_) ?_
  · unfold execOp; simp only [ho, h2, asBool, Sem.run_bind, Sem.run_pure, Result.andThen_ok]
  · cases t
    · exact hfr.ev y
    · exact hfr.ev x
theorem load_ok (hrel : Rel P H ι w) (hfr : FrR H.D ι N fr a.tmps) {t : TypeId} {x : Operand} {l off : Nat} (ho : o.op = .load t x) (hx : ev fr x = .pointer (some ⟨l, off, none⟩)) (hl : lload P t l off H = some v) :
    ReadOk P H.D ι o a w v := by
  have h1 := hfr.ev x
  rw [hx] at h1
  obtain ⟨_, h2⟩ := vr_ptr h1
  obtain ⟨v', hr, hv⟩ := load_sound hrel hl
  have hlt : (ι l).blk < w.heap.size := by
    unfold lload at hl
    split at hl
    · exact rel_lt hrel ‹_›
    · cases hl
  refine ⟨v', hv, fun w' hw' => ?_⟩
  unfold execOp; simp only [ho, h2, Instr.loadAt, Instr.sureAddr, Sem.run_bind, Sem.run_pure, Result.andThen_ok, hr w' (hw'.block _ hlt (fun h => h))]
theorem store_ok (hrel : Rel P H ι w) (hfr : FrR H.D ι N fr a.tmps) {t : TypeId} {x y : Operand} {l off : Nat} (ho : o.op = .store t x y) (hx : ev fr x = .pointer (some ⟨l, off, none⟩)) (hl : lstore P t l off (ev fr y) H = some H') :
    OpOk P H ι o a w undef H' := by
  have h1 := hfr.ev x
  rw [hx] at h1
  obtain ⟨_, h2⟩ := vr_ptr h1
  obtain ⟨w', hr, hout⟩ := store_sound hrel (hfr.ev y) hl
  refine opok_skip (w' := w') ?_ hout
  unfold execOp; simp only [ho, h2, Instr.storeAt, Instr.sureAddr, Sem.run_bind, Sem.run_pure, Result.andThen_ok, hr]
theorem box_ok (hrel : Rel P H ι w) (hfr : FrR H.D ι N fr a.tmps) {e : TypeId} {x : Operand} (ho : o.op = .box e x) (hk : knownB (ev fr x) = true) (hs : sz P e = some (ev fr x).cells.size) :
    OpOk P H ι o a w (.pointer (some ⟨H.n, 0, none⟩)) (H.new ⟨(ev fr x).cells.toList, e, true⟩) := by
  obtain ⟨k1, k2⟩ := vr_cells (hfr.ev x) hk
  have hout := rel_new (slack := 0) (arr := (a.eval x).cells) (b := ⟨(ev fr x).cells.toList, e, true⟩) hrel rfl hs (by simp [k1])
    (fun n h0 h1 => by
      have h1' : (ev fr x).cells.size = n * (ev fr x).cells.size := by simpa using h1
      have : n = 1 := by
        rcases Nat.eq_zero_or_pos n with h | h
        · subst h; omega
        · rcases Nat.lt_or_ge 1 n with h2 | h2
          · have := Nat.mul_le_mul_right (ev fr x).cells.size h2
            omega
          · omega
      subst this; simp [maxLen])
    (fun i y hy => by
      have hy' : (ev fr x).cells[i]? = some y := by simpa using hy
      have hlt : i < (a.eval x).cells.size := by rw [← k1]; exact (Array.getElem?_eq_some_iff.1 hy').1
      exact ⟨_, Array.getElem?_eq_getElem hlt, k2 i _ _ hy' (Array.getElem?_eq_getElem hlt)⟩)
  refine opok_world (v' := .pointer (some ⟨w.heap.size, 0, none⟩)) ?_ hout ?_
  · unfold execOp; simp only [ho, Instr.box, newVar, newRow, newObj, Sem.run_bind, Sem.run_pure, Result.andThen_ok]; rfl
  · have := VR.ptr (n := (H.new ⟨(ev fr x).cells.toList, e, true⟩).D) (ι := ι.add H.n ⟨w.heap.size, 0, 0⟩) H.n 0 ((D_new hrel H.n).2 (.inr rfl))
    simpa [Ren.add] using this
theorem flat_cells {z : Value} (hz : flatB z = true) (n : Nat → Prop) (ι : Ren) (hk : knownB z = true) {i : Nat} {x : Value} (hx : z.cells[i]? = some x) : VR n ι x x :=
  (vr_cells (n := n) (ι := ι) (.flat z hz) hk).2 i x x hx hx
theorem flat_known {z : Value} (hz : flatB z = true) : knownB z = true := by
  cases z <;> first | rfl | (simp [flatB, flat1B, atomB] at hz)
theorem alloc_ok (hrel : Rel P H ι w) {e : TypeId} {z : Value} (ho : o.op = .alloc e) (hz : zr P e = some z) (hf : flatB z = true) (hs : sz P e = some z.cells.size) :
    OpOk P H ι o a w (.pointer (some ⟨H.n, 0, none⟩)) (H.new ⟨z.cells.toList, e, true⟩) := by
  have hout := rel_new (slack := 0) (arr := z.cells) (b := ⟨z.cells.toList, e, true⟩) hrel rfl hs (by simp)
    (fun n h0 h1 => by
      have h1' : z.cells.size = n * z.cells.size := by simpa using h1
      have : n = 1 := by
        rcases Nat.eq_zero_or_pos n with h | h
        · subst h; omega
        · rcases Nat.lt_or_ge 1 n with h2 | h2
          · have := Nat.mul_le_mul_right z.cells.size h2
            omega
          · omega
      subst this; simp [maxLen])
    (fun i y hy => by
      have hy' : z.cells[i]? = some y := by simpa using hy
      exact ⟨y, hy', flat_cells hf _ _ (flat_known hf) hy'⟩)
  refine opok_world (v' := .pointer (some ⟨w.heap.size, 0, none⟩)) ?_ hout ?_
  · unfold execOp; simp only [ho, Instr.alloc, Sem.run_bind, run_zero hz, newVar, newRow, newObj, Sem.run_pure, Result.andThen_ok]; rfl
  · have := VR.ptr (n := (H.new ⟨z.cells.toList, e, true⟩).D) (ι := ι.add H.n ⟨w.heap.size, 0, 0⟩) H.n 0 ((D_new hrel H.n).2 (.inr rfl))
    simpa [Ren.add] using this
theorem nilCheck_ok (hfr : FrR H.D ι N fr a.tmps) {x : Operand} {ad : Addr} (ho : o.op = .nilCheck x) (hx : ev fr x = .pointer (some ad)) : PureOk P H.D ι o a (.pointer (some ad)) := by
  have h1 := hfr.ev x
  rw [hx] at h1
  refine pureok (v' := a.eval x) (fun w => ?_) h1
  unfold execOp; simp only [ho]
  generalize a.eval x = y at *
  cases h1 with
  | flat _ hv => simp [flatB, flat1B, atomB] at hv
  | ptr l off hl => rfl
theorem nilCheckF_ok (hfr : FrR H.D ι N fr a.tmps) {x : Operand} {g : FuncId} {c d : Array Value} (ho : o.op = .nilCheck x) (hx : ev fr x = .func (.func g) c d) : PureOk P H.D ι o a (.func (.func g) c d) := by
  have h1 := hfr.ev x
  rw [hx] at h1
  refine pureok (v' := a.eval x) (fun w => ?_) h1
  unfold execOp; simp only [ho]
  generalize a.eval x = y at *
  cases h1 with
  | flat _ hv => rfl
  | func fn _ b _ d h1 h2 h3 h4 => rfl
theorem fieldAddr_ok (hfr : FrR H.D ι N fr a.tmps) {s : TypeId} {x : Operand} {f l off m : Nat} {fs : Array Field} {fd : Field} (ho : o.op = .fieldAddr s x f) (hx : ev fr x = .pointer (some ⟨l, off, none⟩))
    (hu : P.underlying s = some (.struct fs)) (hf : fs[f]? = some fd) (hs : sz P fd.type = some m) (hm : m ≠ 0) : PureOk P H.D ι o a (.pointer (some ⟨l, off + fd.offset, none⟩)) := by
  have h1 := hfr.ev x
  rw [hx] at h1
  obtain ⟨hl, h2⟩ := vr_ptr h1
  refine pureok (v' := .pointer (some ⟨(ι l).blk, (ι l).off + (off + fd.offset), none⟩)) (fun w => ?_) (.ptr l _ hl)
  unfold execOp; simp only [ho, h2, Instr.fieldAt, Instr.sureAddr, Sem.run_bind, run_underlying hu, Sem.run_pure, Result.andThen_ok, hf, fieldPlace, run_sizeOf' hs, if_neg hm, addr_add, Nat.add_assoc]
theorem indexAddr_ok (hfr : FrR H.D ι N fr a.tmps) {t e : TypeId} {x i : Operand} {l off n c m : Nat} {kd : IntKind} {k : Int} (ho : o.op = .indexAddr t x i) (hx : ev fr x = .slice (some ⟨l, off, none⟩) n c)
    (hi : ev fr i = .int kd k) (hu : P.underlying t = some (.slice e)) (hs : sz P e = some m) (hk : 0 ≤ k ∧ k < n) : PureOk P H.D ι o a (.pointer (some ⟨l, off + k.toNat * m, none⟩)) := by
  have h1 := hfr.ev x
  rw [hx] at h1
  have h2 := hfr.ev i
  rw [hi] at h2
  have h3 := vr_int h2
  generalize hy : a.eval x = y at *
  cases h1 with
  | flat _ hv => simp [flatB, flat1B, atomB] at hv
  | slice0 => omega
  | slice _ _ _ _ hl hc =>
    refine pureok (v' := .pointer (some ⟨(ι l).blk, (ι l).off + (off + k.toNat * m), none⟩)) (fun w => ?_) (.ptr l _ hl)
    unfold execOp; simp only [ho, hy, h3, Instr.indexAt, asIntOf, Sem.run_bind, run_underlying hu, Sem.run_pure, Result.andThen_ok, run_sizeOf' hs, if_pos hk, addr_add, Nat.add_assoc]
theorem extract_ok (hfr : FrR H.D ι N fr a.tmps) {x : Operand} {i : Nat} {vs : Array Value} (ho : o.op = .extract x i) (hx : ev fr x = .tuple vs) (hv : vs[i]? = some v) : PureOk P H.D ι o a v := by
  have h1 := hfr.ev x
  rw [hx] at h1
  obtain ⟨ds, h2, h3, h4⟩ := vr_tuple h1
  have hlt : i < ds.size := by rw [← h3]; exact (Array.getElem?_eq_some_iff.1 hv).1
  have h5 := Array.getElem?_eq_getElem hlt
  refine pureok (v' := ds[i]) (fun w => ?_) (h4 i _ _ hv h5)
  unfold execOp; simp only [ho, h2, Instr.extract, Sem.run_bind, h5, Sem.run_pure, Result.andThen_ok]
theorem field_ok (hfr : FrR H.D ι N fr a.tmps) {t : TypeId} {x : Operand} {f : Nat} {cs : Array Value} {fs : Array Field} {fd : Field} (ho : o.op = .field t x f) (hx : ev fr x = .agg cs)
    (hu : P.underlying t = some (.struct fs)) (hf : fs[f]? = some fd)
    (hr : (∃ s, aggB P fd.type = some true ∧ sz P fd.type = some s ∧ v = .agg (cs.extract fd.offset (fd.offset + s))) ∨ (aggB P fd.type = some false ∧ cs[fd.offset]? = some v)) : PureOk P H.D ι o a v := by
  have h1 := hfr.ev x
  rw [hx] at h1
  obtain ⟨ds, h2, h3, h4⟩ := vr_agg h1
  rcases hr with ⟨s, ha, hs, rfl⟩ | ⟨ha, hv⟩
  · refine pureok (v' := .agg (ds.extract fd.offset (fd.offset + s))) (fun w => ?_) (.agg _ _ (by simp [h3]) (fun i p q hp hq => ?_))
    · unfold execOp; simp only [ho, h2, Instr.field, asAgg, Sem.run_bind, run_underlying hu, hf, Sem.run_pure, Result.andThen_ok, part, run_isAgg ha, if_true, run_sizeOf' hs]
    · rw [Array.getElem?_extract] at hp hq
      split at hp
      · rename_i c1
        split at hq
        · exact h4 _ _ _ hp hq
        · cases hq
      · cases hp
  · have hlt : fd.offset < ds.size := by rw [← h3]; exact (Array.getElem?_eq_some_iff.1 hv).1
    have h5 := Array.getElem?_eq_getElem hlt
    refine pureok (v' := ds[fd.offset]) (fun w => ?_) (h4 _ _ _ hv h5)
    unfold execOp; simp only [ho, h2, Instr.field, asAgg, Sem.run_bind, run_underlying hu, hf, Sem.run_pure, Result.andThen_ok, part, run_isAgg ha, if_false, Bool.false_eq_true, h5]
theorem makeFunc_ok (hfr : FrR H.D ι N fr a.tmps) {g : FuncId} {c d : Array Operand} (ho : o.op = .makeFunc (.func g) c d) (hc : c.size = 0) : PureOk P H.D ι o a (.func (.func g) #[] (d.map (ev fr))) := by
  have e : c = #[] := Array.eq_empty_of_size_eq_zero hc
  subst e
  refine pureok (v' := .func (.func g) #[] (d.map a.eval)) (fun w => ?_) (.func _ _ _ _ _ rfl (by simp) (by simp) (fun i p q hp hq => ?_))
  · unfold execOp; simp only [ho, Instr.makeFunc]; simp [Sem.run_bind, Sem.run_pure, Result.andThen_ok]
  · rw [Array.getElem?_map] at hp hq
    cases hd : d[i]? with
    | none => simp [hd] at hp
    | some y =>
      simp only [hd, Option.map_some, Option.some.injEq] at hp hq
      rw [← hp, ← hq]; exact hfr.ev y
theorem flatEv (hfr : FrR H.D ι N fr a.tmps) {x : Operand} (hx : flatB (ev fr x) = true) : a.eval x = ev fr x := flat_eq (hfr.ev x) hx
theorem pureFlat_spec {s : Sem Value} (h : pureFlat P s = some v) : pureVal P s = some v ∧ flatB v = true := by
  unfold pureFlat at h
  split at h
  · split at h
    · injection h with h; subst h; exact ⟨‹_›, ‹_›⟩
    · cases h
  · cases h
theorem unOp_ok (hfr : FrR H.D ι N fr a.tmps) {op : UnOp} {t : TypeId} {x : Operand} (ho : o.op = .unOp op t x) (hx : flatB (ev fr x) = true) (hv : pureFlat P (Op.unary op (ev fr x)) = some v) : PureOk P H.D ι o a v := by
  obtain ⟨hv, hf⟩ := pureFlat_spec hv
  refine pureok (v' := v) (fun w => ?_) (.flat _ hf)
  unfold execOp; simp only [ho, flatEv hfr hx, Sem.run_bind, pureVal_run hv, Sem.run_pure, Result.andThen_ok]
theorem convert_ok (hfr : FrR H.D ι N fr a.tmps) {s d : TypeId} {x : Operand} (ho : o.op = .convert s d x) (hx : flatB (ev fr x) = true) (hv : pureFlat P (convert s d (ev fr x)) = some v) : PureOk P H.D ι o a v := by
  obtain ⟨hv, hf⟩ := pureFlat_spec hv
  refine pureok (v' := v) (fun w => ?_) (.flat _ hf)
  unfold execOp; simp only [ho, flatEv hfr hx, Sem.run_bind, pureVal_run hv, Sem.run_pure, Result.andThen_ok]
theorem bytes_nums : ∀ (cs : List Value) (bs : List UInt8), cs.mapM lbyte = some bs → ∃ ns : List Int, cs = ns.map (Value.int .u8) ∧ bs = ns.map fun n => UInt8.ofNat n.toNat
  | [], bs, h => by
    simp only [List.mapM_nil, Option.pure_def, Option.some.injEq] at h
    exact ⟨[], rfl, h.symm⟩
  | u :: us, bs, h => by
    simp only [List.mapM_cons, Option.bind_eq_bind, Option.pure_def] at h
    cases hu : lbyte u with
    | none => simp [hu] at h
    | some x =>
      simp only [hu, Option.bind_some] at h
      cases hus : us.mapM lbyte with
      | none => simp [hus] at h
      | some xs =>
        simp only [hus, Option.bind_some, Option.some.injEq] at h
        subst h
        obtain ⟨ns, rfl, rfl⟩ := bytes_nums us xs hus
        unfold lbyte at hu
        split at hu
        · rename_i n
          injection hu with hu
          subst hu
          exact ⟨n :: ns, rfl, rfl⟩
        · cases hu
theorem push_fold : ∀ (ns : List Int) (s : ByteArray), ns.foldl (fun r n => r.push (UInt8.ofNat n.toNat)) s = ⟨s.data ++ (ns.map fun n => UInt8.ofNat n.toNat).toArray⟩
  | [], s => by cases s; simp
  | n :: ns, s => by
    rw [List.foldl_cons, push_fold ns]
    cases s; simp [ByteArray.push]
theorem bstr_ok (hrel : Rel P H ι w) (hfr : FrR H.D ι N fr a.tmps) {s d : TypeId} {x : Operand} (ho : o.op = .convert s d x) (hv : lbstr P s d (ev fr x) H = some v) : ReadOk P H.D ι o a w v := by
  have hx := hfr.ev x
  unfold lbstr at hv
  split at hv
  · rename_i e l off n c hs hd e1
    rw [e1] at hx
    split at hv
    · rename_i he
      split at hv
      · rename_i b hb
        split at hv
        · rename_i cs hcs
          obtain ⟨bs, hbs, rfl⟩ := Option.map_eq_some_iff.1 hv
          obtain ⟨ns, rfl, rfl⟩ := bytes_nums cs bs hbs
          simp only [lcells] at hcs
          split at hcs
          · rename_i hle
            simp only [Option.some.injEq] at hcs
            have hlen : ns.length = n := by
              have := congrArg List.length hcs
              simp at this; omega
            have conv : ∀ (ad : Addr) (cp : Nat), (∀ w' : World, Change (fun _ => False) w w' → (loadCells ad n).run P w' = .ok (ns.map (Value.int .u8)).toArray w') → a.eval x = .slice (some ad) n cp → ReadOk P H.D ι o a w (.string ⟨(ns.map fun n => UInt8.ofNat n.toNat).toArray⟩) := by
              intro ad cp hl hy
              refine ⟨_, .flat _ rfl, fun w' hw' => ?_⟩
              have hr := run_bytesToString (P := P) w' ad n cp ns (hl w' hw')
              rw [push_fold] at hr
              unfold execOp; simp only [ho, hy, convert, Sem.run_bind, run_underlying hs, run_underlying hd, run_underlying he, Result.andThen_ok, hr, Sem.run_pure]
              simp
            generalize hy : a.eval x = y at hx
            cases hx with
            | flat _ hf => simp [flatB, flat1B, atomB] at hf
            | slice0 _ _ ad hl =>
              have h0 : ns = [] := List.eq_nil_of_length_eq_zero hlen
              subst h0
              exact conv ad 0 (fun w' _ => rfl) hy
            | slice _ _ _ _ hl hc =>
              refine conv _ _ (fun w' hw' => ?_) hy
              have := run_loadCells_list (P := P) w' ⟨(ι l).blk, (ι l).off + off, none⟩ (ns.map (Value.int .u8)) (fun j u hj => by
                have hj2 : b.cells[off + j]? = some u := by
                  rw [← hcs, List.getElem?_take] at hj
                  split at hj
                  · rw [List.getElem?_drop] at hj; exact hj
                  · cases hj
                obtain ⟨y, hy, hv⟩ := (hrel.cell hb hj2)
                have hu : y = u := by
                  rw [List.getElem?_map] at hj
                  cases hn : ns[j]? with
                  | none => simp [hn] at hj
                  | some k =>
                    simp only [hn, Option.map_some, Option.some.injEq] at hj
                    rw [← hj] at hv ⊢
                    exact flat_eq hv rfl
                rw [addr_add, World.cell?_of_block (w := w) (hw'.block _ (rel_lt hrel hb) (fun h => h)), Nat.add_assoc, hy, hu])
              rw [List.length_map, hlen] at this
              exact this
          · cases hcs
        · cases hv
      · cases hv
    · cases hv
  · cases hv
theorem index_ok (hfr : FrR H.D ι N fr a.tmps) {t : TypeId} {x i : Operand} (ho : o.op = .index t x i) (hx : flatB (ev fr x) = true) (hi : flatB (ev fr i) = true) (hv : pureFlat P (Instr.index t (ev fr x) (ev fr i)) = some v) : PureOk P H.D ι o a v := by
  obtain ⟨hv, hf⟩ := pureFlat_spec hv
  refine pureok (v' := v) (fun w => ?_) (.flat _ hf)
  unfold execOp; simp only [ho, flatEv hfr hx, flatEv hfr hi, Sem.run_bind, pureVal_run hv, Sem.run_pure, Result.andThen_ok]
theorem eqGuard_pure {op : BinOp} {t : TypeId} {x y : Value} (X Y : Operand) (hx : x ≠ .nilIface) : eqGuard op t X Y x y = eqGuard op t (.tmp 0) (.tmp 0) x y := by
  unfold eqGuard
  cases x <;> first | exact absurd rfl hx | (cases y <;> rfl)
theorem eqGuard_ptr {op : BinOp} {t : TypeId} {x y : Value} (X Y : Operand) (hx : x ≠ .nilIface) (hx2 : ∀ cs, x ≠ .agg cs) (w : World) : (eqGuard op t X Y x y).run P w = .ok () w := by
  unfold eqGuard
  cases x <;> first | exact absurd rfl hx | exact absurd rfl (hx2 _) | (cases op <;> rfl)
theorem binOp_run (w : World) {op : BinOp} {t yt : TypeId} {x y : Operand} (ho : o.op = .binOp op t x y yt) {r : Value} (h : (do eqGuard op t x y (a.eval x) (a.eval y); binOp op t (a.eval x) (a.eval y) : Sem Value).run P w = .ok r w) : (execOp a.eval o).run P w = .ok (.value r) w := by
  unfold execOp; simp only [ho, Sem.run_bind, Sem.run_pure, Result.andThen_ok] at h ⊢
  rw [h]; rfl
theorem nil_ok {n : Nat → Prop} {op : BinOp} {t yt : TypeId} {x y : Operand} {q : Bool} (ho : o.op = .binOp op t x y yt) {X Y : Value} (hx : a.eval x = X) (hy : a.eval y = Y) (h1 : X ≠ .nilIface) (h2 : ∀ cs, X ≠ .agg cs)
    (hop : op = .eql ∨ op = .neq) (hq : ∀ w : World, (Op.equal t X Y).run P w = .ok q w) (b1 : binOp .eql t X Y = (do pure (.bool (← Op.equal t X Y)))) (b2 : binOp .neq t X Y = (do pure (.bool (!(← Op.equal t X Y))))) :
    PureOk P n ι o a (.bool (if op = .eql then q else !q)) := by
  refine pureok (v' := .bool (if op = .eql then q else !q)) (fun w => binOp_run w ho ?_) (.flat _ rfl)
  rw [hx, hy, Sem.run_bind, eqGuard_ptr _ _ h1 h2 w]
  rcases hop with rfl | rfl
  · simp only [Result.andThen_ok, b1, Sem.run_bind, hq w, Sem.run_pure, if_true]
  · simp only [Result.andThen_ok, b2, Sem.run_bind, hq w, Sem.run_pure]; rfl
theorem equal_ptr_l {t e : TypeId} {b : Option Addr} (h : P.underlying t = some (.pointer e)) (w : World) : (Op.equal t (.pointer none) (.pointer b)).run P w = .ok b.isNone w := by
  show (Op.equalIn (9999 + 1) t _ _).run P w = _
  rw [Op.equalIn, Sem.run_bind, run_underlying h]
  cases b <;> rfl
theorem equal_ptr_r {t e : TypeId} {b : Option Addr} (h : P.underlying t = some (.pointer e)) (w : World) : (Op.equal t (.pointer b) (.pointer none)).run P w = .ok b.isNone w := by
  show (Op.equalIn (9999 + 1) t _ _).run P w = _
  rw [Op.equalIn, Sem.run_bind, run_underlying h]
  cases b <;> rfl
theorem equal_sl_l {t e : TypeId} {b : Option Addr} {k c k' c' : Nat} (h : P.underlying t = some (.slice e)) (w : World) : (Op.equal t (.slice none k c) (.slice b k' c')).run P w = .ok b.isNone w := by
  show (Op.equalIn (9999 + 1) t _ _).run P w = _
  rw [Op.equalIn, Sem.run_bind, run_underlying h]
  cases b <;> rfl
theorem equal_sl_r {t e : TypeId} {b : Option Addr} {k c k' c' : Nat} (h : P.underlying t = some (.slice e)) (w : World) : (Op.equal t (.slice b k c) (.slice none k' c')).run P w = .ok b.isNone w := by
  show (Op.equalIn (9999 + 1) t _ _).run P w = _
  rw [Op.equalIn, Sem.run_bind, run_underlying h]
  cases b <;> rfl
theorem binOp_ok (hfr : FrR H.D ι N fr a.tmps) {op : BinOp} {t yt : TypeId} {x y : Operand} (ho : o.op = .binOp op t x y yt) (hv : lbin P op t (ev fr x) (ev fr y) = some v) : PureOk P H.D ι o a v := by
  have hx := hfr.ev x
  have hy := hfr.ev y
  unfold lbin at hv
  split at hv
  · rename_i b e1 e2
    rw [e1] at hx
    rw [e2] at hy
    have hx' := flat_eq hx rfl
    obtain ⟨b', hy', hn⟩ := vr_isNone hy
    split at hv
    · rename_i e hu
      injection hv with hv
      subst hv
      have := nil_ok (q := b'.isNone) (n := H.D) (ι := ι) ho hx' hy' (by simp) (by simp) (.inl rfl) (fun w => equal_ptr_l hu w) (by cases b' <;> rfl) (by cases b' <;> rfl)
      rw [hn] at this; exact this
    · rename_i e hu
      injection hv with hv
      subst hv
      have := nil_ok (q := b'.isNone) (n := H.D) (ι := ι) ho hx' hy' (by simp) (by simp) (.inr rfl) (fun w => equal_ptr_l hu w) (by cases b' <;> rfl) (by cases b' <;> rfl)
      rw [hn] at this; exact this
    · cases hv
  · rename_i e1 e2
    rw [e1] at hx
    rw [e2] at hy
    have hy' := flat_eq hy rfl
    obtain ⟨b', hx', hn⟩ := vr_isNone hx
    split at hv
    · rename_i e hu
      injection hv with hv
      subst hv
      have := nil_ok (q := b'.isNone) (n := H.D) (ι := ι) ho hx' hy' (by simp) (by simp) (.inl rfl) (fun w => equal_ptr_r hu w) (by cases b' <;> rfl) (by cases b' <;> rfl)
      rw [hn] at this; exact this
    · rename_i e hu
      injection hv with hv
      subst hv
      have := nil_ok (q := b'.isNone) (n := H.D) (ι := ι) ho hx' hy' (by simp) (by simp) (.inr rfl) (fun w => equal_ptr_r hu w) (by cases b' <;> rfl) (by cases b' <;> rfl)
      rw [hn] at this; exact this
    · cases hv
  · rename_i b k c e1 e2
    rw [e1] at hx
    rw [e2] at hy
    obtain ⟨x', cx, hx', hnx⟩ := vr_slice hx
    obtain ⟨b', cy, hy', hn⟩ := vr_slice hy
    have : x' = none := by cases x' with | none => rfl | some => simp at hnx
    subst this
    split at hv
    · rename_i e hu
      injection hv with hv
      subst hv
      have := nil_ok (q := b'.isNone) (n := H.D) (ι := ι) ho hx' hy' (by simp) (by simp) (.inl rfl) (fun w => equal_sl_l hu w) (by cases b' <;> rfl) (by cases b' <;> rfl)
      rw [hn] at this; exact this
    · rename_i e hu
      injection hv with hv
      subst hv
      have := nil_ok (q := b'.isNone) (n := H.D) (ι := ι) ho hx' hy' (by simp) (by simp) (.inr rfl) (fun w => equal_sl_l hu w) (by cases b' <;> rfl) (by cases b' <;> rfl)
      rw [hn] at this; exact this
    · cases hv
  · rename_i e1 e2
    rw [e1] at hx
    rw [e2] at hy
    obtain ⟨b', cx, hx', hn⟩ := vr_slice hx
    obtain ⟨y', cy, hy', hny⟩ := vr_slice hy
    have : y' = none := by cases y' with | none => rfl | some => simp at hny
    subst this
    split at hv
    · rename_i e hu
      injection hv with hv
      subst hv
      have := nil_ok (q := b'.isNone) (n := H.D) (ι := ι) ho hx' hy' (by simp) (by simp) (.inl rfl) (fun w => equal_sl_r hu w) (by cases b' <;> rfl) (by cases b' <;> rfl)
      rw [hn] at this; exact this
    · rename_i e hu
      injection hv with hv
      subst hv
      have := nil_ok (q := b'.isNone) (n := H.D) (ι := ι) ho hx' hy' (by simp) (by simp) (.inr rfl) (fun w => equal_sl_r hu w) (by cases b' <;> rfl) (by cases b' <;> rfl)
      rw [hn] at this; exact this
    · cases hv
  · cases hv
  · rename_i h1 h2 h3 h4 h5
    split at hv
    · rename_i hf
      rw [Bool.and_eq_true] at hf
      obtain ⟨hv1, hv2⟩ := pureFlat_spec hv
      have ex := flat_eq hx hf.1
      have ey := flat_eq hy hf.2
      refine pureok (v' := v) (fun w => binOp_run w ho ?_) (.flat _ hv2)
      rw [ex, ey, eqGuard_pure x y (fun e => h1 e)]
      exact pureVal_run hv1 w
    · cases hv
end
end Go.Lg
