/-
  However bytes are cut, they come to the same: the walk of the statement's function.
-/
import Derived.Test.YtpelmepidboikaaJsonLives
import Derived.Test.YtpelmepidboikaaJsonRefG
set_option linter.unusedSimpArgs false
set_option linter.unusedVariables false
namespace Go.Proofs.Ytpelmepidboikaa
open Go.RowKit Go.Tg Tg.Json

theorem feeds_bad (v : Value) (d : Int) (w : World) (hd : d < 0 ∨ 200 < d) :
    Calls Try.prog 5 #[v, .int .i64 d] w fun e w' => e = .returned (.bool true) ∧ Change (fun _ => False) w w' := by
  rcases hd with hd | hd
  all_goals
    go_enter Try.func5, Try.ntmps5
    go_wp2_with fail
    refine (new_bad d _ (by omega)).mono ?_
    rintro e w1 ⟨rfl, rfl⟩
    go_wp2_with (go_at_call 11; refine (lives_any _).mono ?_; rintro e w6 ⟨rfl, hc5⟩)
    go_ret
    exact ⟨rfl, hc5⟩

def LHead (w : World) (b d len : Nat) (sv i : Value) (wr : World) : Prop :=
  ∃ (k : Nat) (S1 : Nat → Prop) (s : ByteArray), k ≤ len ∧ k ≤ 12 ∧ i = .int .i64 k ∧ sv = .string s ∧ s.size ≤ 60 * k ∧ JMach wr b ((M.start d).feed s.data.toList) S1 ∧ (∀ j, S1 j → w.heap.size ≤ j) ∧ Change (fun _ => False) w wr

set_option maxRecDepth 100000 in
set_option maxHeartbeats 2000000 in
theorem feeds_good (A : Option Addr) (len cap : Nat) (ss : Nat → ByteArray) (d : Nat) (w : World) (hd : d ≤ 200) (hlen : len ≤ maxLen)
    (hA : 0 < len → ∃ ab ao, A = some ⟨ab, ao, none⟩ ∧ ab < w.heap.size ∧ ∀ i, i < len → w.cell? ⟨ab, ao + i, none⟩ = some (.string (ss i)) ∧ (ss i).size ≤ maxLen) :
    Calls Try.prog 5 #[.slice A len cap, .int .i64 d] w fun e w' => e = .returned (.bool true) ∧ Change (fun _ => False) w w' := by
  have hA' : len = 0 ∨ ∃ ab ao, A = some ⟨ab, ao, none⟩ ∧ ab < w.heap.size ∧ ∀ i, i < len → w.cell? ⟨ab, ao + i, none⟩ = some (.string (ss i)) ∧ (ss i).size ≤ maxLen := by
    rcases Nat.eq_zero_or_pos len with h | h
    · exact .inl h
    · exact .inr (hA h)
  clear hA
  unfold maxLen at hlen
  rcases hA' with rfl | ⟨ab, ao, rfl, hab, hcell⟩
  · go_enter Try.func5, Try.ntmps5
    go_wp2_with fail
    refine (new_good d _ hd).mono ?_
    rintro e w1 ⟨b, S, rfl, hm, hc, hS⟩
    go_wp2_with (go_at_call 11; refine (lives_any _).mono ?_; rintro e w6 ⟨rfl, hc5⟩)
    go_loopw [7, 8] (fun sv i wr => sv = .string ⟨#[]⟩ ∧ i = .int .i64 (0 : Nat) ∧ wr = w1) (fun _ _ _ => 0)
    case atStart => exact ⟨rfl, rfl, rfl⟩
    case round =>
      obtain ⟨rfl, rfl, rfl⟩ := hrel
      go_wp2_with (go_at_call 11; refine (lives_any _).mono ?_; rintro e w6 ⟨rfl, hc5⟩)
      go_ret
      exact ⟨rfl, hc.trans hc5 (fun i h => h.elim)⟩
  · have HC0 := Lib.hid hcell
    clear hcell
    go_enter Try.func5, Try.ntmps5
    go_wp2_with fail
    refine (new_good d _ hd).mono ?_
    rintro e w1 ⟨b, S, rfl, hm, hc, hS⟩
    have HM := Lib.hid hm
    have HC := Lib.hid hc
    have HS := Lib.hid hS
    clear hm hc hS
    go_wp2_with fail
    go_loopw [7, 8] (fun sv i wr => LHead w b d len sv i wr) (fun _ i _ => 12 - (intOf i).toNat)
    case atStart => exact ⟨0, S, ⟨#[]⟩, Nat.zero_le _, by omega, rfl, rfl, Nat.le_refl 0, HM.out, HS.out, HC.out⟩
    case round =>
      obtain ⟨k, S1, s, hk, hk12, rfl, rfl, hsz, hmach, hS1, hch⟩ := hrel
      by_cases hlt : k < len ∧ k < 12
      · obtain ⟨hl1, hl2⟩ := hlt
        obtain ⟨hc1, hc2⟩ := HC0.out k hl1
        have hcw : wr.cell? ⟨ab, ao + k, none⟩ = some (.string (ss k)) := by
          rw [← hc1]; exact World.cell?_of_block (w := w) (hch.block ab hab (fun h => h))
        clear hc1
        have HM1 := Lib.hid hmach
        have HS1 := Lib.hid hS1
        have HCH := Lib.hid hch
        clear hmach hS1 hch
        go_wp2_with fail
        refine (cut_any (ss k) 60 _ hc2).mono ?_
        rintro e w2 ⟨rfl, rfl⟩
        obtain ⟨t, ht⟩ : ∃ t, t = (ss k).extract 0 60 := ⟨_, rfl⟩
        have htz : t.size ≤ 60 := by rw [ht, ByteArray.size_extract]; omega
        rw [← ht]
        clear ht hc2
        have hwf : JWF ((M.start d).feed s.data.toList) := (JWF.start hd).feed
        have hseen : ((M.start d).feed s.data.toList).seen = s.size := by rw [seen_feed]; simp [M.start]
        have hseen2 : ((M.start d).feed s.data.toList).seen ≤ 1099511627776 := by rw [hseen]; omega
        have HW := Lib.hid hwf
        clear hwf hseen
        go_wp2_with fail
        refine (feed_any b _ S1 _ t HM1.out HW.out (by omega) hseen2).mono ?_
        rintro e w2 ⟨rfl, S2, hm2, hc2, hs2⟩
        obtain ⟨u, hu⟩ : ∃ u, u = s ++ t := ⟨_, rfl⟩
        have he : ((M.start d).feed s.data.toList).feed t.data.toList = (M.start d).feed u.data.toList := by
          rw [← feed_append, hu]; simp
        have huz : u.size = s.size + t.size := by rw [hu, ByteArray.size_append]
        have hul : u.data.toList.length = u.size := rfl
        rw [he] at hm2 ⊢
        rw [← hu]
        clear he
        have hus : u.size ≤ 60 * (k + 1) := by omega
        have hwf2 : JWF ((M.start d).feed u.data.toList) := (JWF.start hd).feed
        have hdepth : ((M.start d).feed u.data.toList).depth = d := by rw [depth_feed]; rfl
        have hlen2 := hwf2.len
        rw [hdepth] at hlen2
        have hbeg := begun_feed u.data.toList (M.start d)
        have hseen : ((M.start d).feed u.data.toList).seen = u.size := by rw [seen_feed]; simp [M.start]
        have e1 : ((M.start d).feed u.data.toList).tell = wholeN u.data.toList d := congrArg (fun n : Nat => (n : Int)) (congrArg Prod.fst (whole_eq u.data.toList d))
        have e2 : ((M.start d).feed u.data.toList).place = wholeP u.data.toList d := congrArg Prod.snd (whole_eq u.data.toList d)
        have e3 : ((M.start d).feed u.data.toList).begun = decide (skip u.data.toList < u.size) := by rw [hbeg, hul]; simp [M.start]
        rw [e1]
        have hc3 := HCH.out.trans hc2 (fun i h => .inr (HS1.out i h))
        have hs3 : ∀ j, S2 j → w.heap.size ≤ j := fun j hj => by
          rcases hs2 j hj with h | h
          · exact HS1.out j h
          · have := HCH.out.size; omega
        clear hc2 hs2 huz hul hdepth hbeg HM1 HW
        have HU := Lib.hid hu
        have HM2 := Lib.hid hm2
        have HW2 := Lib.hid hwf2
        have E1 := Lib.hid e1
        have E2 := Lib.hid e2
        have E3 := Lib.hid e3
        have HSEEN := Lib.hid hseen
        have HC3 := Lib.hid hc3
        have HS3 := Lib.hid hs3
        clear hu hm2 hwf2 e1 e2 e3 hseen hc3 hs3 HCH HS1
        go_wp2_with fail
        refine (rwhole_any u d _ (by omega) hd).mono ?_
        rintro e w3 ⟨rfl, hc4⟩
        have hm3 := HM2.out.of_change hc4 (fun _ _ h => h)
        have hc5 := HC3.out.trans hc4 (fun i h => h.elim)
        have HM3 := Lib.hid hm3
        have HC5 := Lib.hid hc5
        clear hc4 hm3 hc5 HM2 HC3
        go_wp2_with fail
        refine (state_any b _ S2 _ HM3.out HW2.out).mono ?_
        rintro e w4 ⟨rfl, rfl⟩
        rw [E1.out]
        go_wp2_with fail
        refine (place_any b _ S2 _ HM3.out).mono ?_
        rintro e w4 ⟨rfl, rfl⟩
        rw [E2.out]
        go_wp2_with fail
        refine (seen_any b _ S2 _ HM3.out).mono ?_
        rintro e w4 ⟨rfl, rfl⟩
        rw [HSEEN.out]
        go_wp2_with fail
        refine (begun_any b _ S2 _ HM3.out).mono ?_
        rintro e w4 ⟨rfl, rfl⟩
        rw [E3.out]
        go_wp2_with fail
        refine (rbegun_any u _ (by omega)).mono ?_
        rintro e w4 ⟨rfl, rfl⟩
        obtain ⟨bb, hbb⟩ : ∃ bb, bb = decide (skip u.data.toList < u.size) := ⟨_, rfl⟩
        rw [← hbb]
        clear hbb
        go_wp2_with fail
        refine (depth_any b _ S2 _ HM3.out HW2.out).mono ?_
        rintro e w4 ⟨rfl, rfl⟩
        go_wp2_with fail
        refine (depth_any b _ S2 _ HM3.out HW2.out).mono ?_
        rintro e w4 ⟨rfl, rfl⟩
        go_wp2_with fail
        exact ⟨⟨k + 1, S2, u, by omega, by omega, by go_num, rfl, hus, HM3.out, HS3.out, HC5.out⟩, by simp [intOf]; omega⟩
      · have HCH := Lib.hid hch
        clear hch hmach hS1
        have hx : len ≤ k ∨ 12 ≤ k := by omega
        clear hlt
        rcases hx with hx | hx
        all_goals
          go_wp2_with (go_at_call 11; refine (lives_any _).mono ?_; rintro e w6 ⟨rfl, hc5⟩)
          all_goals go_ret
          all_goals exact ⟨rfl, HCH.out.trans hc5 (fun i h => h.elim)⟩
end Go.Proofs.Ytpelmepidboikaa
