/- The chapter 13 rows hold (works). -/
import Derived.Test.YtgpoplnfhlfogaaAlI
namespace Go.Proofs.Ytgpoplnfhlfogaa
open Go Go.RowKit Go.Shelf

set_option maxRecDepth 100000 in
set_option maxHeartbeats 4000000 in
theorem al_works (w : World) : Calls Try.prog 21 #[] w fun e w' => e = .returned (.bool true) ∧ Ext [] w w' := by
  go_enter Try.func21, Try.ntmps21
  go_wp2_with fail
  refine (al_New 4 7 w (by omega) (by omega) (by omega)).mono ?_
  rintro e w0 ⟨rfl, hE0, hp0⟩
  obtain ⟨c, hc⟩ : ∃ c, c = w.heap.size + 1 := ⟨_, rfl⟩
  rw [← hc] at hp0 ⊢
  have hcw : w.heap.size ≤ c := by omega
  have hcl0 : c < w0.heap.size := lt_of_block hp0.1
  have H0 := Lib.hid hp0
  have HE0 := Lib.hid (hE0.wide (m := [c]))
  clear hE0 hp0 hc
  go_wp2_with fail
  refine (al_take_ok c _ 4 4 S0 W1 2 0 [4, 5] _ (by omega) (by omega) (by omega) H0.out (w_b w_cnt0 (by omega)) (by omega) w_take1).mono ?_
  rintro e w1 ⟨ao1, cap1, rfl, hE1, hI1, hN1, mb1, hp1, _⟩
  have hcl1 : c < w1.heap.size := Nat.lt_of_lt_of_le hcl0 hE1.size
  have H1 := Lib.hid hp1
  have HE1 := Lib.hid (HE0.out.trans hE1)
  have HF1 := Lib.hid hE1
  have HI1 := Lib.hid (And.intro hI1 hN1)
  clear hE1 hI1 hN1 hp1
  go_wp2_with fail
  have hL2 : IntsAt (w1.alloc (.cells #[.int .i64 4] 3)) (some ⟨w1.heap.size, 0, none⟩) 1 (fun i => [4].getD i 0) := ints_lit w1 [4] 3
  refine (al_give_ok c _ 4 4 W1 W2 0 (some ⟨w1.heap.size, 0, none⟩) 1 1 (fun i => [4].getD i 0) _ (H1.out.ext ((Ext.refl [] _).alloc _) (by simp) (by simp)) hL2 (by omega) (w_b w_cnt1 (by omega)) w_give1).mono ?_
  rintro e w2 ⟨rfl, hE2, mb2, hp2, _⟩
  have hcl2 : c < w2.heap.size := Nat.lt_of_lt_of_le hcl1 (Nat.le_trans (by simp) hE2.size)
  have H2 := Lib.hid hp2
  have HF2 := Lib.hid (((Ext.refl [c] w1).alloc (.cells #[.int .i64 4] 3)).trans hE2)
  have HE2 := Lib.hid (HE1.out.trans HF2.out)
  clear hE2 hp2 hL2
  go_wp2_with fail
  refine (al_take_ok c _ 4 4 W2 W3 3 0 [4, 6, 7] _ (by omega) (by omega) (by omega) H2.out (w_b w_cnt2 (by omega)) (by omega) w_take2).mono ?_
  rintro e w3 ⟨ao3, cap3, rfl, hE3, hI3, hN3, mb3, hp3, _⟩
  have hcl3 : c < w3.heap.size := Nat.lt_of_lt_of_le hcl2 hE3.size
  have H3 := Lib.hid hp3
  have HE3 := Lib.hid (HE2.out.trans hE3)
  have HF3 := Lib.hid hE3
  have HI3 := Lib.hid (And.intro hI3 hN3)
  clear hE3 hI3 hN3 hp3
  go_wp2_with fail
  refine (al_take_ok c _ 4 4 W3 W3 4 230 [] _ (by omega) (by omega) (by omega) H3.out (w_b w_cnt3 (by omega)) (by omega) w_take3).mono ?_
  rintro e w4 ⟨ao4, cap4, rfl, hE4, hI4, hN4, mb4, hp4, _⟩
  have hcl4 : c < w4.heap.size := Nat.lt_of_lt_of_le hcl3 hE4.size
  have H4 := Lib.hid hp4
  have HE4 := Lib.hid (HE3.out.trans hE4)
  have HF4 := Lib.hid hE4
  have HI4 := Lib.hid (And.intro hI4 hN4)
  clear hE4 hI4 hN4 hp4
  go_wp2_with fail
  have hL5 : IntsAt (w4.alloc (.cells #[.int .i64 4] 3)) (some ⟨w4.heap.size, 0, none⟩) 1 (fun i => [4].getD i 0) := ints_lit w4 [4] 3
  refine (al_claim_ok c _ 4 4 W3 W3 231 (some ⟨w4.heap.size, 0, none⟩) 1 1 (fun i => [4].getD i 0) _ (H4.out.ext ((Ext.refl [] _).alloc _) (by simp) (by simp)) hL5 (by omega) (w_b w_cnt3 (by omega)) w_claim).mono ?_
  rintro e w5 ⟨rfl, hE5, mb5, hp5, _⟩
  have hcl5 : c < w5.heap.size := Nat.lt_of_lt_of_le hcl4 (Nat.le_trans (by simp) hE5.size)
  have H5 := Lib.hid hp5
  have HF5 := Lib.hid (((Ext.refl [c] w4).alloc (.cells #[.int .i64 4] 3)).trans hE5)
  have HE5 := Lib.hid (HE4.out.trans HF5.out)
  clear hE5 hp5 hL5
  go_wp2_with fail
  have hL6 : IntsAt (w5.alloc (.cells #[.int .i64 9] 3)) (some ⟨w5.heap.size, 0, none⟩) 1 (fun i => [9].getD i 0) := ints_lit w5 [9] 3
  refine (al_give_ok c _ 4 4 W3 W3 4 (some ⟨w5.heap.size, 0, none⟩) 1 1 (fun i => [9].getD i 0) _ (H5.out.ext ((Ext.refl [] _).alloc _) (by simp) (by simp)) hL6 (by omega) (w_b w_cnt3 (by omega)) w_give2).mono ?_
  rintro e w6 ⟨rfl, hE6, mb6, hp6, _⟩
  have hcl6 : c < w6.heap.size := Nat.lt_of_lt_of_le hcl5 (Nat.le_trans (by simp) hE6.size)
  have H6 := Lib.hid hp6
  have HF6 := Lib.hid (((Ext.refl [c] w5).alloc (.cells #[.int .i64 9] 3)).trans hE6)
  have HE6 := Lib.hid (HE5.out.trans HF6.out)
  clear hE6 hp6 hL6
  go_wp2_with fail
  have hL7 : IntsAt (w6.alloc (.cells #[.int .i64 5, .int .i64 5] 3)) (some ⟨w6.heap.size, 0, none⟩) 2 (fun i => [5, 5].getD i 0) := ints_lit w6 [5, 5] 3
  refine (al_give_ok c _ 4 4 W3 W3 5 (some ⟨w6.heap.size, 0, none⟩) 2 2 (fun i => [5, 5].getD i 0) _ (H6.out.ext ((Ext.refl [] _).alloc _) (by simp) (by simp)) hL7 (by omega) (w_b w_cnt3 (by omega)) w_give3).mono ?_
  rintro e w7 ⟨rfl, hE7, mb7, hp7, _⟩
  have hcl7 : c < w7.heap.size := Nat.lt_of_lt_of_le hcl6 (Nat.le_trans (by simp) hE7.size)
  have H7 := Lib.hid hp7
  have HF7 := Lib.hid (((Ext.refl [c] w6).alloc (.cells #[.int .i64 5, .int .i64 5] 3)).trans hE7)
  have HE7 := Lib.hid (HE6.out.trans HF7.out)
  clear hE7 hp7 hL7
  go_wp2_with fail
  refine (al_Count c _ 4 7 W3 4 _ H7.out).mono ?_
  rintro e w8 ⟨rfl, hE8⟩
  rw [w_count]
  have hcl8 : c < w8.heap.size := Nat.lt_of_lt_of_le hcl7 hE8.size
  have H8 := Lib.hid (H7.out.ext hE8 (by simp) (by simp))
  have HF8 := Lib.hid (hE8.wide (m := [c]))
  have HE8 := Lib.hid (HE7.out.trans HF8.out)
  clear hE8
  go_wp2_with fail
  refine (al_take_ok c _ 4 4 W3 (allL W3 true []) 0 0 [] _ (by omega) (by omega) (by omega) H8.out (w_b w_cnt3 (by omega)) (by omega) w_take4).mono ?_
  rintro e w9 ⟨ao9, cap9, rfl, hE9, hI9, hN9, mb9, hp9, _⟩
  have hcl9 : c < w9.heap.size := Nat.lt_of_lt_of_le hcl8 hE9.size
  have H9 := Lib.hid hp9
  have HE9 := Lib.hid (HE8.out.trans hE9)
  have HF9 := Lib.hid hE9
  have HI9 := Lib.hid (And.intro hI9 hN9)
  clear hE9 hI9 hN9 hp9
  have hA : IntsAt w9 ao1 2 (fun i => [4, 5].getD i 0) := HI1.out.1.keep ((HF2.out.trans (HF3.out.trans (HF4.out.trans (HF5.out.trans (HF6.out.trans (HF7.out.trans (HF8.out.trans HF9.out)))))))) HI1.out.2 hcl0
  have hB : IntsAt w9 ao3 3 (fun i => [4, 6, 7].getD i 0) := HI3.out.1.keep ((HF4.out.trans (HF5.out.trans (HF6.out.trans (HF7.out.trans (HF8.out.trans HF9.out)))))) HI3.out.2 hcl2
  have HA := Lib.hid hA
  have HB := Lib.hid hB
  have h30 : ((List.length ([] : List Int) : Nat) : Int) = 0 := rfl
  clear hA hB
  go_wp2_with (go_at_call 25; refine (al_num _ _).mono ?_; rintro e w' ⟨rfl, rfl⟩)
  have hL1 : IntsAt (w9.alloc (.cells #[.int .i64 4, .int .i64 5] 3)) (some ⟨w9.heap.size, 0, none⟩) 2 (fun i => [4, 5].getD i 0) := ints_lit w9 [4, 5] 3
  refine (rf_Ints ao1 (some ⟨w9.heap.size, 0, none⟩) 2 2 _ 2 (fun i => [4, 5].getD i 0) (fun i => [4, 5].getD i 0) _ (HA.out.ext ((Ext.refl [] _).alloc _)) hL1 (by omega) (by omega)).mono ?_
  rintro e w10 ⟨rfl, hE10⟩
  rw [eqI_true (fun i _ => rfl)]
  have HF10 := Lib.hid (((Ext.refl [] w9).alloc (.cells #[.int .i64 4, .int .i64 5] 3)).trans hE10)
  clear hE10 hL1
  go_wp2_with (go_at_call 25; refine (al_num _ _).mono ?_; rintro e w' ⟨rfl, rfl⟩)
  have hL2 : IntsAt (w10.alloc (.cells #[.int .i64 4, .int .i64 6, .int .i64 7] 3)) (some ⟨w10.heap.size, 0, none⟩) 3 (fun i => [4, 6, 7].getD i 0) := ints_lit w10 [4, 6, 7] 3
  refine (rf_Ints ao3 (some ⟨w10.heap.size, 0, none⟩) 3 3 _ 3 (fun i => [4, 6, 7].getD i 0) (fun i => [4, 6, 7].getD i 0) _ ((HB.out.ext HF10.out).ext ((Ext.refl [] _).alloc _)) hL2 (by omega) (by omega)).mono ?_
  rintro e w11 ⟨rfl, hE11⟩
  rw [eqI_true (fun i _ => rfl)]
  have HF11 := Lib.hid (HF10.out.trans (((Ext.refl [] w10).alloc (.cells #[.int .i64 4, .int .i64 6, .int .i64 7] 3)).trans hE11))
  have H11 := Lib.hid (H9.out.ext HF11.out (by simp) (by simp))
  clear hE11 hL2
  go_wp2_with (go_at_call 25; refine (al_num _ _).mono ?_; rintro e w' ⟨rfl, rfl⟩)
  refine (al_Free c _ 4 4 (allL W3 true []) _ (by omega) (by omega) H11.out).mono ?_
  rintro e w12 ⟨rfl, hE12⟩
  rw [w_free]
  have HF12 := Lib.hid (HF11.out.trans hE12)
  clear hE12
  go_wp2
  go_ret
  exact ⟨rfl, HE9.out.trans' HF12.out (fun j hj => by cases hj) |>.mono (fun j hj => .inr (by simp at hj; omega))⟩
end Go.Proofs.Ytgpoplnfhlfogaa

