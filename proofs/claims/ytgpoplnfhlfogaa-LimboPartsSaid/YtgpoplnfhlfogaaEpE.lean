/- The chapter 14 rows hold (works). -/
import Derived.Test.YtgpoplnfhlfogaaEpD
namespace Go.Proofs.Ytgpoplnfhlfogaa
open Go Go.RowKit

theorem ep_pin_ok (c m : Nat) (now : Int) (l : Ents) (t : Int) (w : World) (h : Clk w c m now l) (hz : pinErr l t = 0) :
    Calls Try.prog 15 #[.pointer (some ⟨c, 0, none⟩), .int .i64 t] w fun e w' =>
      e = .returned (.tuple #[.int .i64 now, .int .i64 0]) ∧ Ext [m] w w' ∧ Clk w' c m now (upd l t (.int .i64 now)) :=
  (ep_pin c m now l t w h).mono fun e w' ⟨h1, h2, h3⟩ => ⟨by rw [h1, hz]; rfl, h2, by rw [if_pos hz] at h3; exact h3⟩
theorem ep_pin_er (c m : Nat) (now : Int) (l : Ents) (t er : Int) (w : World) (h : Clk w c m now l) (hz : pinErr l t = er) (hne : er ≠ 0) :
    Calls Try.prog 15 #[.pointer (some ⟨c, 0, none⟩), .int .i64 t] w fun e w' =>
      e = .returned (.tuple #[.int .i64 0, .int .i64 er]) ∧ Ext [m] w w' ∧ Clk w' c m now l :=
  (ep_pin c m now l t w h).mono fun e w' ⟨h1, h2, h3⟩ => ⟨by rw [h1, hz, if_neg hne], h2, by rw [if_neg (by rw [hz]; exact hne)] at h3; exact h3⟩
theorem ep_unpin_ok (c m : Nat) (now : Int) (l : Ents) (t : Int) (w : World) (h : Clk w c m now l) (hz : unpinErr l t = 0) :
    Calls Try.prog 16 #[.pointer (some ⟨c, 0, none⟩), .int .i64 t] w fun e w' =>
      e = .returned (.int .i64 0) ∧ Ext [m] w w' ∧ Clk w' c m now (del l t) :=
  (ep_unpin c m now l t w h).mono fun e w' ⟨h1, h2, h3⟩ => ⟨by rw [h1, hz], h2, by rw [if_pos hz] at h3; exact h3⟩
theorem ep_unpin_er (c m : Nat) (now : Int) (l : Ents) (t er : Int) (w : World) (h : Clk w c m now l) (hz : unpinErr l t = er) (hne : er ≠ 0) :
    Calls Try.prog 16 #[.pointer (some ⟨c, 0, none⟩), .int .i64 t] w fun e w' =>
      e = .returned (.int .i64 er) ∧ Ext [m] w w' ∧ Clk w' c m now l :=
  (ep_unpin c m now l t w h).mono fun e w' ⟨h1, h2, h3⟩ => ⟨by rw [h1, hz], h2, by rw [if_neg (by rw [hz]; exact hne)] at h3; exact h3⟩
theorem ep_adv_yes (c m : Nat) (now : Int) (l : Ents) (w : World) (h : Clk w c m now l) (hv : ∀ p ∈ l, ∃ n, p.2 = .int .i64 n) (h0 : 0 ≤ now) (h1 : now ≤ 1073741824) (hz : advOk now l = true) :
    Calls Try.prog 17 #[.pointer (some ⟨c, 0, none⟩)] w fun e w' =>
      e = .returned (.tuple #[.bool true, .int .i64 0]) ∧ Ext [c] w w' ∧ Clk w' c m (now + 1) l :=
  (ep_advance c m now l w h hv h0 h1).mono fun e w' ⟨h1, h2, h3⟩ => ⟨by rw [h1, hz], h2, by rw [if_pos hz] at h3; exact h3⟩
theorem ep_adv_no (c m : Nat) (now : Int) (l : Ents) (w : World) (h : Clk w c m now l) (hv : ∀ p ∈ l, ∃ n, p.2 = .int .i64 n) (h0 : 0 ≤ now) (h1 : now ≤ 1073741824) (hz : advOk now l = false) :
    Calls Try.prog 17 #[.pointer (some ⟨c, 0, none⟩)] w fun e w' =>
      e = .returned (.tuple #[.bool false, .int .i64 0]) ∧ Ext [c] w w' ∧ Clk w' c m now l :=
  (ep_advance c m now l w h hv h0 h1).mono fun e w' ⟨h1, h2, h3⟩ => ⟨by rw [h1, hz], h2, by rw [if_neg (by rw [hz]; simp)] at h3; exact h3⟩

set_option maxRecDepth 100000 in
set_option maxHeartbeats 4000000 in
theorem law14_works (w : World) : Calls Try.prog 13 #[] w fun e w' => e = .returned (.bool true) ∧ Ext [] w w' := by
  go_enter Try.func13, Try.ntmps13
  go_wp2_with fail
  refine (ep_new w).mono ?_
  rintro e W1 ⟨rfl, hE1, hc1⟩
  have HE1 := Lib.hid hE1
  obtain ⟨c, hc⟩ : ∃ c, c = w.heap.size + 1 := ⟨_, rfl⟩
  obtain ⟨m, hm⟩ : ∃ m, m = w.heap.size := ⟨_, rfl⟩
  rw [← hc] at hc1 ⊢
  rw [← hm] at hc1
  have HC := Lib.hid hc
  have HM := Lib.hid hm
  clear hc hm hE1
  go_wp2_with fail
  refine (ep_pin_ok c m 0 [] 1 _ hc1 (by decide)).mono ?_
  rintro e W2 ⟨rfl, hE2, hc2⟩
  go_wp2_with fail
  refine (ep_adv_yes c m 0 [(1, .int .i64 0)] _ hc2 (by simp) (by omega) (by omega) (by decide)).mono ?_
  rintro e W3 ⟨rfl, hE3, hc3⟩
  go_wp2_with fail
  refine (ep_adv_no c m 1 [(1, .int .i64 0)] _ hc3 (by simp) (by omega) (by omega) (by decide)).mono ?_
  rintro e W4 ⟨rfl, hE4, hc4⟩
  go_wp2_with fail
  refine (ep_pin_er c m 1 [(1, .int .i64 0)] 1 240 _ hc4 (by decide) (by decide)).mono ?_
  rintro e W5 ⟨rfl, hE5, hc5⟩
  go_wp2_with fail
  refine (ep_pin_ok c m 1 [(1, .int .i64 0)] 2 _ hc5 (by decide)).mono ?_
  rintro e W6 ⟨rfl, hE6, hc6⟩
  go_wp2_with fail
  refine (ep_unpin_ok c m 1 [(1, .int .i64 0), (2, .int .i64 1)] 1 _ hc6 (by decide)).mono ?_
  rintro e W7 ⟨rfl, hE7, hc7⟩
  go_wp2_with fail
  refine (ep_adv_yes c m 1 [(2, .int .i64 1)] _ hc7 (by simp) (by omega) (by omega) (by decide)).mono ?_
  rintro e W8 ⟨rfl, hE8, hc8⟩
  go_wp2_with fail
  refine (ep_unpin_er c m 2 [(2, .int .i64 1)] 1 5 _ hc8 (by decide) (by decide)).mono ?_
  rintro e W9 ⟨rfl, hE9, hc9⟩
  go_wp2_with fail
  refine (ep_At c m 2 [(2, .int .i64 1)] 2 _ hc9).mono ?_
  rintro e W10 ⟨rfl, rfl⟩
  rw [show ((look [(2, .int .i64 1)] 2).getD (.int .i64 0)) = .int .i64 1 from rfl, show (look [(2, .int .i64 1)] 2).isSome = true from rfl]
  go_wp2
  go_ret
  refine ⟨rfl, ?_⟩
  have hcc := HC.out
  have hmm := HM.out
  have f : ∀ {X Y : World} {k : List Nat}, Ext [] w X → Ext k X Y → (∀ j ∈ k, j = c ∨ j = m) → Ext [] w Y := fun h k hk => h.trans' k (fun j hj => .inr (by rcases hk j hj with e | e <;> omega))
  exact f (f (f (f (f (f (f (f HE1.out hE2 (by simp)) hE3 (by simp)) hE4 (by simp)) hE5 (by simp)) hE6 (by simp)) hE7 (by simp)) hE8 (by simp)) hE9 (by simp)
end Go.Proofs.Ytgpoplnfhlfogaa
