/-
  The walks of the JSON machine's methods: each does to the machine in memory what its plain function says.
-/
import Derived.Test.YtpelmepidboikaaRows
import Derived.Test.YtpelmepidboikaaKit
import Derived.Test.YtpelmepidboikaaJsonPlain
import Derived.BigQuiet
import Derived.BigRegion
import Derived.Deep.QuietTactic
import Derived.RegionTactic
import Derived.StillTailTactics
set_option linter.unusedSimpArgs false
set_option linter.unusedVariables false
namespace Go.Proofs.Ytpelmepidboikaa
open Go.RowKit Go.Tg Tg.Json

/-- a byte as a value -/
def u8v (c : UInt8) : Value := .int .u8 c.toNat
/-- the machine's fields -/
def jcells (m : M) (sl : Value) : Array Value := #[.int .i64 m.depth, sl, .int .i64 m.pos, .bool m.key, .string ⟨m.rest.toArray⟩, .int .i64 m.hex, .bool m.begun, .int .i64 m.state, .int .i64 m.place, .int .i64 m.seen]

/-- The machine lies at block b, its own blocks are those of S. -/
def JMach (w : World) (b : Nat) (m : M) (S : Nat → Prop) : Prop :=
  ∃ sl, Blk w b 43 (jcells m sl) ∧ w.ownsRow 0 5 1 sl m.stack.length (m.stack.map u8v) ∧ sl.ownBlock ≠ some b ∧ (∀ k, S k ↔ k = b ∨ sl.ownBlock = some k)

theorem JMach.of_change {w w' : World} {b : Nat} {m : M} {S T : Nat → Prop} (h : JMach w b m S) (k : Change T w w') (hd : ∀ i, S i → ¬ T i) : JMach w' b m S := by
  obtain ⟨sl, hb, hr, hne, hS⟩ := h
  exact ⟨sl, hb.of_change k (hd _ ((hS _).2 (.inl rfl))), row_of_change hr k (fun g hg => hd _ ((hS _).2 (.inr hg))), hne, hS⟩
theorem JMach.lt {w : World} {b : Nat} {m : M} {S : Nat → Prop} (h : JMach w b m S) {k : Nat} (hk : S k) : k < w.heap.size := by
  obtain ⟨sl, hb, hr, hne, hS⟩ := h
  rcases (hS k).1 hk with rfl | h
  · exact hb.lt
  · exact row_lt hr h

/-- What a method does: the machine is m' now, nothing else has turned. -/
def JTo (w : World) (b : Nat) (S : Nat → Prop) (m' : M) (w' : World) : Prop :=
  ∃ S', JMach w' b m' S' ∧ Change S w w' ∧ ∀ k, S' k → S k ∨ w.heap.size ≤ k

theorem JTo.trans {w w1 w2 : World} {b : Nat} {S S1 : Nat → Prop} {m : M} (h : Change S w w1) (hs : ∀ k, S1 k → S k ∨ w.heap.size ≤ k) (k : JTo w1 b S1 m w2) : JTo w b S m w2 := by
  obtain ⟨S2, h2, c2, s2⟩ := k
  refine ⟨S2, h2, h.trans c2 hs, fun k hk => ?_⟩
  rcases s2 k hk with h' | h'
  · exact hs k h'
  · exact .inr (Nat.le_trans h.size h')

/-- the machine's own block alone has turned, its stack has not -/
theorem jto_block {w w' : World} {b : Nat} {m m' : M} {sl : Value} {S : Nat → Prop}
    (hr : w.ownsRow 0 5 1 sl m.stack.length (m.stack.map u8v)) (hne : sl.ownBlock ≠ some b) (hS : ∀ k, S k ↔ k = b ∨ sl.ownBlock = some k)
    (hb : Blk w' b 43 (jcells m' sl)) (hc : Change (fun k => k = b) w w') (hst : m'.stack = m.stack) : JTo w b S m' w' :=
  ⟨S, ⟨sl, hb, by rw [hst]; exact row_of_change hr hc (fun g hg e => hne (by rw [hg, e])), hne, hS⟩, hc.mono (fun i _ h => (hS i).2 (.inl h)), fun k hk => .inl hk⟩

theorem jto_block' {w w' : World} {b : Nat} {m m' : M} {sl : Value} {S : Nat → Prop} {cs : Array Value}
    (hr : w.ownsRow 0 5 1 sl m.stack.length (m.stack.map u8v)) (hne : sl.ownBlock ≠ some b) (hS : ∀ k, S k ↔ k = b ∨ sl.ownBlock = some k)
    (hb : Blk w' b 43 cs) (he : jcells m' sl = cs) (hc : Change (fun k => k = b) w w') (hst : m'.stack = m.stack) : JTo w b S m' w' :=
  jto_block hr hne hS (he ▸ hb) hc hst

theorem jto_upd {w w' : World} {b : Nat} {m m' : M} {sl : Value} {S : Nat → Prop} {cs : Array Value}
    (hr : w.ownsRow 0 5 1 sl m.stack.length (m.stack.map u8v)) (hne : sl.ownBlock ≠ some b) (hS : ∀ k, S k ↔ k = b ∨ sl.ownBlock = some k)
    (hb : Upd w b 43 w' cs) (he : jcells m' sl = cs) (hst : m'.stack = m.stack) : JTo w b S m' w' :=
  jto_block hr hne hS (he ▸ hb.blk) hb.chg hst

theorem JMach.drewN {w : World} {b : Nat} {m : M} {S : Nat → Prop} (h : JMach w b m S) (n : Nat) : JMach (w.drewN n) b m S := h
theorem JTo.of_drewN {w w' : World} {b n : Nat} {m : M} {S : Nat → Prop} (h : JTo (w.drewN n) b S m w') : JTo w b S m w' := by
  obtain ⟨S', h1, h2, h3⟩ := h
  exact ⟨S', h1, ⟨h2.os, h2.tape, h2.output, h2.size, h2.block⟩, h3⟩

theorem fail_any (b : Nat) (m : M) (S : Nat → Prop) (w : World) (st : Nat) (h : JMach w b m S) :
    Calls Try.prog 35 #[.pointer (some ⟨b, 0, none⟩), .int .i64 st] w fun e w' => e = .returned (.tuple #[]) ∧ JTo w b S (m.fail st) w' := by
  obtain ⟨sl, hb, hr, hne, hS⟩ := h
  have hf := hb.free
  have c7 : w.cell? ⟨b, 7, none⟩ = some (.int .i64 m.state) := hb.cell 7
  have c8 : w.cell? ⟨b, 8, none⟩ = some (.int .i64 m.place) := hb.cell 8
  have c9 : w.cell? ⟨b, 9, none⟩ = some (.int .i64 m.seen) := hb.cell 9
  go_enter Try.func35, Try.ntmps35
  go_wp2
  go_end0
  exact ⟨rfl, jto_block hr hne hS ((hb.set 7 _).set 8 _) (((Change.one _ _).set 7 _).set 8 _) rfl⟩

theorem top_any (b : Nat) (m : M) (S : Nat → Prop) (w : World) (h : JMach w b m S) (hlen : m.stack.length ≤ 200) :
    Calls Try.prog 47 #[.pointer (some ⟨b, 0, none⟩)] w fun e w' => e = .returned (.int .u8 m.top.toNat) ∧ ∃ n, w.drewN n = w' := by
  obtain ⟨sl, hb, hr, hne, hS⟩ := h
  have c1 : w.cell? ⟨b, 1, none⟩ = some sl := hb.cell 1
  rcases List.eq_nil_or_concat m.stack with hn | ⟨st, c, hst⟩
  · have hsl : ∃ a cap, sl = .slice a 0 cap := by
      rcases hr.2 with ⟨h1, _⟩ | ⟨g, cap, cur, h1, _⟩
      · exact ⟨_, _, h1⟩
      · exact ⟨_, _, by rw [h1, hn]; rfl⟩
    obtain ⟨a, cap, hsl⟩ := hsl
    subst hsl
    have ht : m.top = 0 := by simp [M.top, hn]
    clear hr hn hb hS hne
    have HT := Lib.hid ht
    clear ht
    go_enter Try.func47, Try.ntmps47
    go_wp2
    go_ret
    exact ⟨by rw [HT.out]; rfl, 0, rfl⟩
  · rw [List.concat_eq_append] at hst
    have ht : m.top = c := by simp [M.top, hst]
    have hl : m.stack.length = st.length + 1 := by rw [hst]; simp
    rw [hl] at hr hlen
    rcases hr.2 with ⟨_, h1⟩ | ⟨g, cap, cur, h1, _, hh, hcap, hmax, hsz, htake⟩
    · omega
    subst h1
    have hc : w.cell? ⟨g, st.length, none⟩ = some (.int .u8 c.toNat) := by
      have := hr.cellAt st.length (by omega)
      rw [this, hst]; simp [u8v]
    unfold maxLen at hmax
    have HT := Lib.hid ht
    clear ht hl hst hr hb hS hne htake hsz hh
    have e0 : ((st.length : Int) + 1 == 0) = false := by rw [beq_eq_false_iff_ne]; omega
    have e1 : ((st.length : Int) + 1 - 1) = st.length := by omega
    go_enter Try.func47, Try.ntmps47
    go_wp2_with fail
    go_quiet (fail)
    go_wp2
    go_ret
    exact ⟨by rw [HT.out]; rfl, _, rfl⟩

theorem pop_any (b : Nat) (m : M) (S : Nat → Prop) (w : World) (h : JMach w b m S) (hlen : m.stack.length ≤ 200) (hne0 : m.stack ≠ []) :
    Calls Try.prog 32 #[.pointer (some ⟨b, 0, none⟩)] w fun e w' => e = .returned (.tuple #[]) ∧ JTo w b S m.pop w' := by
  obtain ⟨sl, hb, hr, hne, hS⟩ := h
  have hf := hb.free
  have c1 : w.cell? ⟨b, 1, none⟩ = some sl := hb.cell 1
  have c2 : w.cell? ⟨b, 2, none⟩ = some (.int .i64 m.pos) := hb.cell 2
  rcases List.eq_nil_or_concat m.stack with hn | ⟨st, c, hst⟩
  · exact absurd hn hne0
  rw [List.concat_eq_append] at hst
  have hl : m.stack.length = st.length + 1 := by rw [hst]; simp
  rw [hl] at hr hlen
  rcases hr.2 with ⟨_, h1⟩ | ⟨g, cap, cur, h1, _, hh, hcap, hmax, hsz, htake⟩
  · omega
  subst h1
  unfold maxLen at hmax
  have hr' : w.ownsRow 0 5 1 (.slice (some ⟨g, 0, none⟩) st.length cap) st.length (st.map u8v) := by
    rw [hst, List.map_append] at hr
    exact ownsRow_pop (by simp) hr
  have Hst := Lib.hid hst
  have Hfin : Hid (∀ w', Blk w' b 43 (((jcells m (.slice (some ⟨g, 0, none⟩) (st.length + 1) cap)).setIfInBounds 1 (.slice (some ⟨g, 0, none⟩) st.length cap)).setIfInBounds 2 (.int .i64 (5 : Nat))) → Change (fun k => k = b) w w' → JTo w b S m.pop w') := by
    intro w' hb' hc
    refine jto_block (m := { m with stack := st }) (m' := m.pop) (sl := .slice (some ⟨g, 0, none⟩) st.length cap) hr' hne hS ?_ hc ?_
    · have e : (⟨m.depth, st, 5, m.key, m.rest, m.hex, m.begun, m.state, m.place, m.seen⟩ : M) = m.pop := by simp [M.pop, hst]
      rw [← e]; exact hb'
    · simp [M.pop, hst]
  have Hb := Lib.hid hb
  clear hst hl hr hr' hne hS htake hsz hh hb
  go_enter Try.func32, Try.ntmps32
  go_wp2_with fail
  go_region
  all_goals go_wp2
  all_goals go_end0
  all_goals exact ⟨rfl, Hfin.out _ ((Hb.out.set 1 _).set 2 _) (((Change.one _ _).set 1 _).set 2 _).drew⟩

theorem info_u8 : (Try.prog.info? 5).map (fun i => (i.zero, i.size, i.bytes)) = some (some (.int .u8 0), 1, 1) := by kernel_rfl

theorem push_full (b : Nat) (m : M) (S : Nat → Prop) (w : World) (c : UInt8) (p : Nat) (h : JMach w b m S) (hlen : m.stack.length = m.depth) (hd : m.depth ≤ 200) :
    Calls Try.prog 45 #[.pointer (some ⟨b, 0, none⟩), .int .u8 c.toNat, .int .i64 p] w fun e w' => e = .returned (.tuple #[]) ∧ JTo w b S (m.push c p) w' := by
  have hh := h
  obtain ⟨sl, hb, hr, hne, hS⟩ := h
  have c1 : w.cell? ⟨b, 1, none⟩ = some sl := hb.cell 1
  have c0 : w.cell? ⟨b, 0, none⟩ = some (.int .i64 m.depth) := hb.cell 0
  have hsl : ∃ a cap, sl = .slice a m.depth cap := by
    rcases hr.2 with ⟨h1, h2⟩ | ⟨g, cap, cur, h1, _⟩
    · exact ⟨_, 0, by rw [h1, ← hlen, h2]⟩
    · exact ⟨_, _, by rw [h1, hlen]⟩
  obtain ⟨a, cap, rfl⟩ := hsl
  have e : m.push c p = m.fail 3 := by simp [M.push, hlen]
  rw [e]
  have Hh := Lib.hid hh
  clear hr hb hne hS hlen e hh
  go_enter Try.func45, Try.ntmps45
  go_wp2_with fail
  go_quiet (fail)
  go_wp2_with fail
  refine (fail_any b m S _ 3 (Hh.out.drewN _)).mono ?_
  rintro e w' ⟨rfl, hto⟩
  go_wp2
  refine bodyPost_ret (results_none rfl _ _ _) rfl ?_
  exact ⟨rfl, hto.of_drewN⟩

set_option maxHeartbeats 400000 in
theorem push_room (b : Nat) (m : M) (S : Nat → Prop) (w : World) (c : UInt8) (p : Nat) (h : JMach w b m S) (hlen : m.stack.length < m.depth) (hd : m.depth ≤ 200) :
    Calls Try.prog 45 #[.pointer (some ⟨b, 0, none⟩), .int .u8 c.toNat, .int .i64 p] w fun e w' => e = .returned (.tuple #[]) ∧ JTo w b S (m.push c p) w' := by
  obtain ⟨i0, hi, hz0, hz1, hz2⟩ := info_parts info_u8
  obtain ⟨sl, hb, hr, hne, hS⟩ := h
  have hbl := hb.lt
  have c1 : w.cell? ⟨b, 1, none⟩ = some sl := hb.cell 1
  have c0 : w.cell? ⟨b, 0, none⟩ = some (.int .i64 m.depth) := hb.cell 0
  have c2 : w.cell? ⟨b, 2, none⟩ = some (.int .i64 m.pos) := hb.cell 2
  have hf := hb.free
  have hsl : ∃ a cap, sl = .slice a m.stack.length cap := by
    rcases hr.2 with ⟨h1, h2⟩ | ⟨g, cap, cur, h1, _⟩
    · exact ⟨_, 0, by rw [h1, h2]⟩
    · exact ⟨_, _, by rw [h1]⟩
  obtain ⟨a, cap, rfl⟩ := hsl
  have e : m.push c p = { m with stack := m.stack ++ [c], pos := p } := by rw [M.push, if_neg (by omega)]
  rw [e]
  have ed : ((m.stack.length : Int) == m.depth) = false := by rw [beq_eq_false_iff_ne]; omega
  have Hb := Lib.hid hb
  have Hr := Lib.hid hr
  have HS := Lib.hid hS
  clear hr hb hS e
  go_enter Try.func45, Try.ntmps45
  go_wp2_with fail
  go_quiet (fail)
  go_wp2_with (at_builtin; refine wpList_append2 _ rfl (.tmp 22) (.tmp 24) 41 rfl 5 i0 (.int .u8 0) 1 1 Try.underlying41 hi hz0 hz1 hz2 rfl (by decide) _ _ _ rfl (Hr.out.alloc _) ⟨w.heap.size, 0, none⟩ 1 1 [.int .u8 c.toNat] rfl rfl ?c1 ?c2 ?c0 ?c3 ?c4 ?_)
  case c1 => exact cell_one_new _ _ _
  case c2 => intro u hu; simp at hu; subst hu; rfl
  case c0 => omega
  case c3 => unfold maxLen; omega
  case c4 => omega
  intro g cap' w' hown hgrow hg
  have hch : Change (fun k => (Value.slice a m.stack.length cap).ownBlock = some k) w w' := ((Change.refl _ w).alloc _ |>.drewN nq).grown hgrow (fun k hk => .inl hk)
  have hb' : Blk w' b 43 (jcells m (.slice a m.stack.length cap)) := Hb.out.of_change hch hne
  have hgb : g ≠ b := by
    rintro rfl
    rcases hg with hg | hg
    · exact hne hg
    · omega
  have d1 : w'.cell? ⟨b, 1, none⟩ = some (.slice a m.stack.length cap) := hb'.cell 1
  have d2 : w'.cell? ⟨b, 2, none⟩ = some (.int .i64 m.pos) := hb'.cell 2
  have hf' := hb'.free
  have Hb' := Lib.hid hb'
  have Hown := Lib.hid hown
  have Hch := Lib.hid hch
  have Hg := Lib.hid hg
  clear hb' hown hch hgrow hf c0 c1 c2 hg
  go_wp2
  go_end0
  refine ⟨rfl, fun k => k = b ∨ g = k, ⟨.slice (some ⟨g, 0, none⟩) (m.stack.length + 1) cap', (Hb'.out.set 1 _).set 2 _, ?_, ?_, ?_⟩, ?_, ?_⟩
  · have := row_of_change (w' := (w'.setCell ⟨b, 1, none⟩ (.slice (some ⟨g, 0, none⟩) (m.stack.length + 1) cap')).setCell ⟨b, 2, none⟩ (.int .i64 p)) Hown.out (((Change.one b w').set 1 _).set 2 _) (fun k hk e => by subst e; simp [Value.ownBlock] at hk; exact hgb hk)
    simpa [u8v] using this
  · simp [Value.ownBlock]; omega
  · intro k; simp [Value.ownBlock]
  · refine (((Change.mono Hch.out (T := S) ?_).setCell (p := ⟨b, 1, none⟩) ?_ _).setCell (p := ⟨b, 2, none⟩) ?_ _)
    · exact fun i _ h => (HS.out i).2 (.inr h)
    · exact .inl ((HS.out b).2 (.inl rfl))
    · exact .inl ((HS.out b).2 (.inl rfl))
  · rintro k (rfl | rfl)
    · exact .inl ((HS.out _).2 (.inl rfl))
    · rcases Hg.out with h | h
      · exact .inl ((HS.out _).2 (.inr h))
      · refine .inr ?_
        omega
end Go.Proofs.Ytpelmepidboikaa
