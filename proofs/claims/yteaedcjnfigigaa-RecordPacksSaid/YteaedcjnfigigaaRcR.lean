/- The walk of the law RecordPacks. -/
import Derived.Test.YteaedcjnfigigaaRow
import Derived.Deep.RegionLaw
namespace Go.Proofs.Yteaedcjnfigigaa
open Go Go.RowKit

attribute [local go_sem ↓] wp_load25

theorem eqZ (w : World) : (binOp .eql 25 (.agg (arrF 24 fun _ => 0)) (.agg #[.int .u64 0, .int .u64 0, .int .u64 0, .int .u64 0, .int .u64 0, .int .u64 0, .int .u64 0, .int .u64 0, .int .u64 0, .int .u64 0, .int .u64 0, .int .u64 0, .int .u64 0, .int .u64 0, .int .u64 0, .int .u64 0, .int .u64 0, .int .u64 0, .int .u64 0, .int .u64 0, .int .u64 0, .int .u64 0, .int .u64 0, .int .u64 0])).run Try.prog w = .ok (.bool true) w := by
  have h := eq25 (fun _ => 0) (fun _ => 0) w
  rw [eqB_refl] at h
  rw [arr0] at h ⊢
  exact h

set_option maxRecDepth 100000 in
set_option maxHeartbeats 4000000 in
theorem rc_packs (ao : Option Addr) (n cap : Nat) (L : Nat → Int × Int) (w : World) (hp : Puts w ao n L) (hU : PutsU L n) (hn : n ≤ 9223372036854775807) :
    Calls Try.prog 3 #[.slice ao n cap] w fun e w' => e = .returned (.bool true) ∧ Ext [] w w' := by
  have HW := Lib.hid (rc_works)
  have HP := Lib.hid hp
  have HU := Lib.hid hU
  clear hp hU
  by_cases g1 : 20 < n
  · go_enter Try.func3, Try.ntmps3
    go_wp2_with (go_at_call 8; refine (HW.out _).mono ?_; rintro e w' ⟨rfl, hE⟩)
    go_ret
    exact ⟨rfl, hE⟩
  rcases checkE_cases L n with hc | hc
  · have HC := Lib.hid hc
    obtain ⟨_, hn11, _⟩ := checkE_ok hc
    clear hc
    obtain ⟨F, hF⟩ : ∃ F, F = packW n L := ⟨_, rfl⟩
    have HFU : Hid (∀ i, U64 (F i)) := by rw [hF]; exact packW_U hn11 (checkE_ok HC.out).1 HU.out
    have hu : unpE F = 0 := by rw [hF]; exact unpE_pack HC.out
    have hun : unpN F = n := by rw [hF]; exact unpN_pack hn11
    have hk : kindE F = 1 := by rw [hF]; exact kind_pack HC.out HU.out
    have hsm : sameE n n (unpL F) L = true := by
      unfold sameE
      rw [if_pos rfl, sameN_iff, hF]
      exact unpL_pack (checkE_ok HC.out).1
    have HH := Lib.hid (And.intro hu (And.intro hun (And.intro hk hsm)))
    clear hu hun hk hsm
    have HFF := Lib.hid hF
    clear hF
    have heq := eq25 F F
    rw [eqB_refl] at heq
    go_enter Try.func3, Try.ntmps3
    go_wp2_with fail
    refine (rc_pack ao n cap L w HP.out hn).mono ?_
    rintro e W1 ⟨rfl, hE1⟩
    rw [if_pos HC.out, HC.out, ← HFF.out]
    go_wp2_with ((with_reducible refine store25z (g := W1.heap.size) (G := F) ?_ ?_ ?_ ?_); exact rfl; exact rfl; exact rfl; intro W2 hE2 hs2 hb2; clear hs2)
    refine (ref_check ao n cap L W2 (HP.out.ext (hE1.trans hE2)) hn).mono ?_
    rintro e W3 ⟨rfl, hE3⟩
    rw [HC.out]
    go_wp2_with fail
    refine (rc_check ao n cap L W3 (HP.out.ext (hE1.trans (hE2.trans hE3))) hn).mono ?_
    rintro e W4 ⟨rfl, hE4⟩
    rw [HC.out]
    have b4 := hE4.at (hE3.at hb2 (by simp)) (by simp)
    have HE4 := Lib.hid (hE1.trans (hE2.trans (hE3.trans hE4)))
    clear hE1 hE2 hE3 hE4 hb2
    go_wp2_with (first
      | ((with_reducible refine load25 b4 ?_ ?_); exact rfl)
      | (go_at_call 11; refine (rc_num _ _ (by omega)).mono ?_; rintro e w' ⟨rfl, rfl⟩))
    refine (rc_unpack F W4 (fun i => (HFU.out i).1)).mono ?_
    rintro e W5 ⟨bo, m, cap', rfl, hE5, _, h0⟩
    obtain ⟨rfl, hP5⟩ := h0 HH.out.1
    rw [HH.out.1]
    rw [HH.out.2.1] at hP5 ⊢
    have HP5 := Lib.hid hP5
    have b5 := hE5.at b4 (by simp)
    have HE5 := Lib.hid (HE4.out.trans hE5)
    clear hP5 h0 hE5 b4
    go_wp2
    obtain ⟨A, hlv⟩ : ∃ A : Array Value, arrF 24 F = A := ⟨_, rfl⟩
    obtain ⟨ro5, rv5⟩ := row_of (w := W5.drew) b5
    rw [hlv] at rv5
    have heqL : ∀ w, (binOp .eql 25 (.agg A) (.agg A)).run Try.prog w = .ok (.bool true) w := by rw [← hlv]; exact heq
    have heqG : ∀ x y w, (eqGuard .eql 25 x y (.agg A) (.agg A)).run Try.prog w = .ok () w := by intro x y w; simp [eqGuard, go_sem]
    have hkV : Hid (∀ w, Calls Try.prog 16 #[.agg A] w fun e w' => e = .returned (.int .i64 1) ∧ Ext [] w w') := by
      show ∀ w, _
      rw [← hlv]
      intro w
      have := rc_kind F w (fun i => (HFU.out i).1)
      rw [HH.out.2.2.1] at this
      exact this
    rw [hlv]
    clear heq
    go_region_law (first
      | (go_simp; go_at_call 14; refine (ref_pack ao n cap L _ (HP.out.ext HE5.out.drew) HC.out).mono ?_; rintro e W6 ⟨rfl, hE6⟩; rw [← HFF.out, hlv]; have b6 := hE6.at b5 (by simp); obtain ⟨ro6, rv6⟩ := row_of b6; rw [hlv] at rv6)
      | (go_simp; go_at_call 15; refine (ref_same bo ao n n cap' cap (unpL F) L W6 ((HP5.out.ext (Ext.refl [] W5).drew).ext hE6) ((HP.out.ext HE5.out.drew).ext hE6) hn hn).mono ?_; rintro e W7 ⟨rfl, hE7⟩; rw [HH.out.2.2.2]; have b7 := hE7.at b6 (by simp); obtain ⟨ro7, rv7⟩ := row_of b7; rw [hlv] at rv7)
      | (go_simp; go_at_call 16; refine (hkV.out _).mono ?_; rintro e W8 ⟨rfl, hE8⟩)
      | (go_simp; go_at_call 11; refine (rc_num _ _ (by omega)).mono ?_; rintro e w' ⟨rfl, rfl⟩)
      | (go_simp; go_at_call 8; refine (HW.out _).mono ?_; rintro e w' ⟨rfl, hE⟩))
    all_goals
      go_wp2
      go_ret
      exact ⟨rfl, HE5.out.drew.trans (hE6.trans (hE7.trans (hE8.trans hE)))⟩
  · rcases hc with h | h | h
    all_goals
      have HC := Lib.hid h
      clear h
      have heq := eqZ
      go_enter Try.func3, Try.ntmps3
      go_wp2_with fail
      refine (rc_pack ao n cap L w HP.out hn).mono ?_
      rintro e W1 ⟨rfl, hE1⟩
      rw [HC.out, if_neg (by decide)]
      go_wp2_with ((with_reducible refine store25z (g := W1.heap.size) (G := fun _ => 0) ?_ ?_ ?_ ?_); exact rfl; exact rfl; exact rfl; intro W2 hE2 hs2 hb2; clear hs2)
      refine (ref_check ao n cap L W2 (HP.out.ext (hE1.trans hE2)) hn).mono ?_
      rintro e W3 ⟨rfl, hE3⟩
      rw [HC.out]
      go_wp2_with fail
      refine (rc_check ao n cap L W3 (HP.out.ext (hE1.trans (hE2.trans hE3))) hn).mono ?_
      rintro e W4 ⟨rfl, hE4⟩
      rw [HC.out]
      have b4 := hE4.at (hE3.at hb2 (by simp)) (by simp)
      have HE4 := Lib.hid (hE1.trans (hE2.trans (hE3.trans hE4)))
      clear hE1 hE2 hE3 hE4 hb2
      go_wp2_with (first
        | ((with_reducible refine load25 b4 ?_ ?_); exact rfl)
        | (go_at_call 11; refine (rc_num _ _ (by omega)).mono ?_; rintro e w' ⟨rfl, rfl⟩)
        | (go_at_call 8; refine (HW.out _).mono ?_; rintro e w' ⟨rfl, hE⟩))
      go_ret
      exact ⟨rfl, HE4.out.trans hE⟩
end Go.Proofs.Yteaedcjnfigigaa
