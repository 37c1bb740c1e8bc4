/- record.Same (slices.Equal), and the walk of the law RecordSame. -/
import Derived.Test.YteaedcjnfigigaaRcO
namespace Go.Proofs.Yteaedcjnfigigaa
open Go Go.RowKit

theorem sameN_comm (L M : Nat → Int × Int) (n : Nat) : sameN L M n = sameN M L n := by
  rw [Bool.eq_iff_iff, sameN_iff, sameN_iff]
  exact ⟨fun h i hi => (h i hi).symm, fun h i hi => (h i hi).symm⟩
theorem sameE_comm (n m : Nat) (L M : Nat → Int × Int) : sameE m n M L = sameE n m L M := by
  unfold sameE
  by_cases h : n = m
  · rw [if_pos h.symm, if_pos h, h, sameN_comm]
  · rw [if_neg (fun e => h e.symm), if_neg h]
theorem sameE_refl (n : Nat) (L : Nat → Int × Int) : sameE n n L L = true := by
  unfold sameE
  rw [if_pos rfl, sameN_iff]
  exact fun _ _ => rfl

set_option maxRecDepth 100000 in
set_option maxHeartbeats 1000000 in
theorem sl_equal (ao bo : Option Addr) (n m cap cap' : Nat) (L M : Nat → Int × Int) (w : World) (hp : Puts w ao n L) (hq : Puts w bo m M) (hn : n ≤ 9223372036854775807) (hm : m ≤ 9223372036854775807) :
    Calls Try.prog 26 #[.slice ao n cap, .slice bo m cap'] w fun e w' => e = .returned (.bool (sameE n m L M)) ∧ Ext [] w w' := by
  have HP := Lib.hid hp
  have HQ := Lib.hid hq
  have hne := nePut
  clear hp hq
  go_enter Try.func26, Try.ntmps26
  by_cases hnm : n = m
  · subst hnm
    have hr : sameE n n L M = sameN L M n := by unfold sameE; rw [if_pos rfl]
    rw [hr]
    clear hr
    go_wp2
    go_loopg [13] n (fun k i wr => ∃ (j : Nat), i = .int .i64 j ∧ j + k = n ∧ sameN L M j = true ∧ Ext [] w wr)
    case atStart => exact ⟨0, rfl, by omega, rfl, Ext.refl _ _⟩
    case round =>
      obtain ⟨j, rfl, hjk, hs, hE⟩ := hrel
      have HR := Lib.hid (And.intro hs hE)
      clear hs hE
      by_cases hlt : j < n
      · obtain ⟨b, off, rfl, k1, k2⟩ : ∃ b off, ao = some ⟨b, off, none⟩ ∧ wr.cell? ⟨b, off + j * 2, none⟩ = some (.int .i64 (L j).1) ∧ wr.cell? ⟨b, off + j * 2 + 1, none⟩ = some (.int .u64 (L j).2) := by
          rcases HP.out.ext HR.out.2 with h | ⟨b, off, h1, h2⟩
          · omega
          · exact ⟨b, off, h1, h2 j hlt⟩
        obtain ⟨b', off', rfl, k3, k4⟩ : ∃ b off, bo = some ⟨b, off, none⟩ ∧ wr.cell? ⟨b, off + j * 2, none⟩ = some (.int .i64 (M j).1) ∧ wr.cell? ⟨b, off + j * 2 + 1, none⟩ = some (.int .u64 (M j).2) := by
          rcases HQ.out.ext HR.out.2 with h | ⟨b, off, h1, h2⟩
          · omega
          · exact ⟨b, off, h1, h2 j hlt⟩
        cases hq : ((L j).1 == (M j).1 && (L j).2 == (M j).2) with
        | true =>
          have hs' : Hid (sameN L M (j + 1) = true) := by show sameN L M (j + 1) = true; simp only [sameN, HR.out.1, hq, Bool.and_true]
          go_wp2
          go_region
          all_goals
            go_wp2
            go_roundg (n - (j + 1))
            case measure => omega
            case rel => exact ⟨j + 1, by go_num, by omega, hs'.out, HR.out.2.drew⟩
        | false =>
          have hs' : Hid (sameN L M n = false) := by
            show sameN L M n = false
            rw [Bool.eq_false_iff]
            intro h
            have := sameN_le h (show j + 1 ≤ n from hlt)
            simp only [sameN, hq, Bool.and_false] at this
            cases this
          go_wp2
          go_region
          all_goals
            go_wp2
            go_ret
            exact ⟨by rw [hs'.out]; rfl, HR.out.2.drew⟩
      · have hge : n ≤ j := by omega
        have hs' : Hid (sameN L M n = true) := by have := HR.out.1; rwa [show j = n from by omega] at this
        go_wp2
        go_ret
        exact ⟨by rw [hs'.out]; rfl, HR.out.2⟩
  · have hr : Hid (sameE n m L M = false) := by show sameE n m L M = false; unfold sameE; rw [if_neg hnm]
    have hb : ((n : Int) == (m : Int)) = false := by simpa using fun h => hnm (by omega)
    go_wp2
    go_ret
    exact ⟨by rw [hr.out]; rfl, Ext.refl _ _⟩

set_option maxHeartbeats 400000 in
theorem rc_same (ao bo : Option Addr) (n m cap cap' : Nat) (L M : Nat → Int × Int) (w : World) (hp : Puts w ao n L) (hq : Puts w bo m M) (hn : n ≤ 9223372036854775807) (hm : m ≤ 9223372036854775807) :
    Calls Try.prog 17 #[.slice ao n cap, .slice bo m cap'] w fun e w' => e = .returned (.bool (sameE n m L M)) ∧ Ext [] w w' := by
  have H := Lib.hid (sl_equal ao bo n m cap cap' L M w hp hq hn hm)
  clear hp hq
  go_enter Try.func17, Try.ntmps17
  go_wp2_with (go_at_call 26; refine H.out.mono ?_; rintro e w' ⟨rfl, hE⟩)
  go_ret
  exact ⟨rfl, hE⟩

set_option maxRecDepth 100000 in
set_option maxHeartbeats 4000000 in
theorem rc_lawsame (ao bo : Option Addr) (n m cap cap' : Nat) (L M : Nat → Int × Int) (w : World) (hp : Puts w ao n L) (hq : Puts w bo m M) (hn : n ≤ 9223372036854775807) (hm : m ≤ 9223372036854775807) :
    Calls Try.prog 5 #[.slice ao n cap, .slice bo m cap'] w fun e w' => e = .returned (.bool true) ∧ Ext [] w w' := by
  have HW := Lib.hid (rc_works)
  have HP := Lib.hid hp
  have HQ := Lib.hid hq
  clear hp hq
  by_cases g1 : 20 < n
  · go_enter Try.func5, Try.ntmps5
    go_wp2_with (go_at_call 8; refine (HW.out _).mono ?_; rintro e w' ⟨rfl, hE⟩)
    go_ret
    exact ⟨rfl, hE⟩
  by_cases g2 : 20 < m
  · go_enter Try.func5, Try.ntmps5
    go_wp2_with (go_at_call 8; refine (HW.out _).mono ?_; rintro e w' ⟨rfl, hE⟩)
    go_ret
    exact ⟨rfl, hE⟩
  go_enter Try.func5, Try.ntmps5
  go_wp2_with fail
  refine (rc_same ao bo n m cap cap' L M w HP.out HQ.out hn hm).mono ?_
  rintro e W1 ⟨rfl, hE1⟩
  have HE1 := Lib.hid hE1
  clear hE1
  go_wp2_with fail
  refine (ref_same ao bo n m cap cap' L M W1 (HP.out.ext HE1.out) (HQ.out.ext HE1.out) hn hm).mono ?_
  rintro e W2 ⟨rfl, hE2⟩
  have HE2 := Lib.hid (HE1.out.trans hE2)
  clear hE2
  have hc := sameE_comm n m L M
  have HC := Lib.hid hc
  clear hc
  generalize hs : sameE n m L M = s at *
  have HS := Lib.hid hs
  clear hs
  cases s
  all_goals
    go_wp2_with fail
    refine (rc_same bo ao m n cap' cap M L W2 (HQ.out.ext HE2.out) (HP.out.ext HE2.out) hm hn).mono ?_
    rintro e W3 ⟨rfl, hE3⟩
    rw [HC.out]
    have HE3 := Lib.hid (HE2.out.trans hE3)
    clear hE3
    go_wp2_with fail
    refine (ref_same ao bo n m cap cap' L M W3 (HP.out.ext HE3.out) (HQ.out.ext HE3.out) hn hm).mono ?_
    rintro e W4 ⟨rfl, hE4⟩
    rw [HS.out]
    have HE4 := Lib.hid (HE3.out.trans hE4)
    clear hE4
    go_wp2_with fail
    refine (rc_same ao ao n n cap cap L L W4 (HP.out.ext HE4.out) (HP.out.ext HE4.out) hn hn).mono ?_
    rintro e W5 ⟨rfl, hE5⟩
    rw [sameE_refl]
    have HE5 := Lib.hid (HE4.out.trans hE5)
    clear hE5
    go_wp2_with (go_at_call 8; refine (HW.out _).mono ?_; rintro e w' ⟨rfl, hE⟩)
    go_ret
    exact ⟨rfl, HE5.out.trans hE⟩
end Go.Proofs.Yteaedcjnfigigaa
