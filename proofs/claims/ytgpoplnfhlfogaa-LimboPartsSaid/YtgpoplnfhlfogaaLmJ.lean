/- The limbo's law: works (printed by wip/mkLmJ.py). -/
import Derived.Test.YtgpoplnfhlfogaaLmI
namespace Go.Proofs.Ytgpoplnfhlfogaa
open Go Go.RowKit Go.Shelf
attribute [local go_sem] Oper.semAt_some

def jG1 : Nat → List Int := gon (fun _ => []) (q3 0) ((fun _ => ([] : List Int)) (q3 0) ++ [4])
def jS2 : Lns := (turnN W1 4 6 false 5 (jG1 (q3 (0 + 2)))).2
def jG2 : Nat → List Int := gon jG1 (q3 (0 + 2)) []
def jS3 : Lns := (turnN jS2 4 6 false 5 (jG2 (q3 (1 + 2)))).2
def jG3 : Nat → List Int := gon jG2 (q3 (1 + 2)) []
theorem j_take : takeN S0 4 6 (2 : Nat) = (0, [4, 5], W1) := rfl
theorem j_ret1 : retE W1 4 6 0 (fun _ => []) [4] = 0 := rfl
theorem j_pass1 : (jG1 (q3 (0 + 2))).length = 0 ∧ (turnN W1 4 6 false 5 (jG1 (q3 (0 + 2)))).1 = 0 := ⟨rfl, rfl⟩
theorem j_pass3 : (jG2 (q3 (1 + 2))).length = 1 ∧ (turnN jS2 4 6 false 5 (jG2 (q3 (1 + 2)))).1 = 0 := ⟨rfl, rfl⟩
theorem j_free : (thoseL jS3 false 4 6).length = 5 := rfl
theorem j_ret2 : retE jS3 4 6 2 jG3 [4] = 250 := rfl
theorem cnt_turn {S : Lns} {lo : Int} {n : Nat} {t : Bool} {e : Int} {ks : List Int} {b : Int} (h : ∀ q, 0 ≤ (S q).2 ∧ (S q).2 ≤ b) : ∀ q, 0 ≤ ((turnN S lo n t e ks).2 q).2 ∧ ((turnN S lo n t e ks).2 q).2 ≤ b + 1 := by
  have hup : ∀ q, 0 ≤ (S q).2 ∧ (S q).2 ≤ b + 1 := fun q => by have := h q; omega
  unfold turnN
  split
  · cases hs : turnS t ks S with
    | none => exact hup
    | some S' =>
      obtain ⟨_, _, rfl⟩ := (turnS_iff t ks S S').1 hs
      exact cntB_all h
  · exact hup
theorem j_len {G : Nat → List Int} (q : Nat) (L : List Int) (hG : ∀ k, (G k).length ≤ 1000) (hL : L.length ≤ 1000) : ∀ k, (gon G q L k).length ≤ 1000 := fun k => by
  unfold gon
  split
  · exact hL
  · exact hG k
theorem j_l1 : ∀ k, (jG1 k).length ≤ 1000 := j_len _ _ (fun _ => by simp) (by simp)
theorem j_l2 : ∀ k, (jG2 k).length ≤ 1000 := j_len _ _ j_l1 (by simp)
theorem j_l3 : ∀ k, (jG3 k).length ≤ 1000 := j_len _ _ j_l2 (by simp)

set_option maxRecDepth 100000 in
set_option maxHeartbeats 16000000 in
theorem law15_works (w : World) : Calls Try.prog 41 #[] w fun e w' => e = .returned (.bool true) ∧ Ext [] w w' := by
  have HN := Lib.hid (lm_New 4 6 w (by omega) (by omega) (by omega))
  rw [show (4 : Int) + ((6 : Nat) : Int) - 1 = 9 from rfl] at HN
  go_enter Try.func41, Try.ntmps41
  go_wp2_with fail
  refine HN.out.mono ?_
  rintro e V1 ⟨b, c, m, p, mb, rfl, hE1, hL1, hb, hc, hm, hp, _⟩
  have HB : Hid ((w.heap.size ≤ b ∧ w.heap.size ≤ c ∧ w.heap.size ≤ m ∧ w.heap.size ≤ p) ∧ b < V1.heap.size ∧ c < V1.heap.size ∧ m < V1.heap.size ∧ p < V1.heap.size) := by
    have hlt := hL1.lt
    exact ⟨⟨hb, hc, hm, hp⟩, hlt b (.inl rfl), hlt c (.inr (.inl rfl)), hlt m (.inr (.inr (.inl rfl))), hlt p (.inr (.inr (.inr (.inl rfl))))⟩
  have H1 := Lib.hid (And.intro hE1 hL1)
  clear hE1 hL1 hb hc hm hp HN
  go_wp2_with fail
  refine (lm_take b c m p mb 4 6 0 [] S0 (fun _ => []) (fun _ => none) (fun _ => 0) 2 V1 H1.out.2 (fun v u w' => ∃ ao cap mb', v = .slice ao 2 cap ∧ u = .int .i64 0 ∧ Ext [p] V1 w' ∧ IntsB w' ao 2 (fun i => [4, 5].getD i 0) ∧ (∀ q, ao = some q → V1.heap.size ≤ q.block) ∧ LimAt w' b c m p mb' 4 6 0 [] W1 (fun _ => []) (fun _ => none) (fun _ => 0)) (fun X hX => (al_take_ok p mb 4 6 S0 W1 2 0 [4, 5] X (by omega) (by omega) (by omega) (H1.out.2.ext0 hX).pool (w_b w_cnt0 (by omega)) (by omega) j_take).mono ?_)).mono ?_
  · rintro e w' ⟨ao, cap, rfl, hE, hI, hf, mb', hP, hmb⟩
    exact ⟨_, _, rfl, hE, ao, cap, mb', rfl, rfl, hX.wide.trans hE, hI, fun q hq => Nat.le_trans hX.size (hf q hq), (H1.out.2.ext0 hX).pooled hE hP hmb⟩
  rintro e V2 ⟨v, u, rfl, ao, cap, mb2, rfl, rfl, hE2, hI2, hf2, hL2⟩
  have HF := Lib.hid hf2
  have H2 := Lib.hid (And.intro (H1.out.1.trans' hE2 (fun x hx => .inr (by simp at hx; have := HB.out; omega))) (And.intro hI2 hL2))
  clear hE2 hI2 hf2 hL2
  go_wp2_with fail
  refine (lm_pin b c m p mb2 4 6 0 [] W1 (fun _ => []) (fun _ => none) (fun _ => 0) 0 V2 H2.out.2.2 (fun v u w' => v = .int .i64 0 ∧ u = .int .i64 0 ∧ Ext [m] V2 w' ∧ LimAt w' b c m p mb2 4 6 0 [(0, .int .i64 0)] W1 (fun _ => []) (fun _ => none) (fun _ => 0)) (fun X hX => (ep_pin_ok c m 0 [] 0 X (H2.out.2.2.ext0 hX).clk (by decide)).mono ?_)).mono ?_
  · rintro e w' ⟨rfl, hE, hcl⟩
    exact ⟨_, _, rfl, hE, rfl, rfl, hX.wide.trans hE, (H2.out.2.2.ext0 hX).pins hE hcl⟩
  rintro e V3 ⟨v, u, rfl, rfl, rfl, hE3, hL3⟩
  have HX : ∀ q, ao = some q → q.block ≠ b ∧ q.block ≠ c ∧ q.block ≠ m ∧ q.block ≠ p := fun q hq => by
    have := HF.out q hq
    have := HB.out
    omega
  have HX := Lib.hid HX
  have H3 := Lib.hid (And.intro (H2.out.1.trans' hE3 (fun x hx => .inr (by simp at hx; have := HB.out; omega))) (And.intro (H2.out.2.1.extm hE3 (fun q hq => by have := HX.out q hq; simp; omega)) hL3))
  clear hE3 hL3
  have hI4 := ints_lit V3 [4] 3
  have hE4 : Ext [] V3 (V3.alloc (.cells (ints [4]).toArray 3)) := (Ext.refl _ _).alloc _
  have HR4 := Lib.hid (lm_Retire b c m p mb2 4 6 0 [(0, .int .i64 0)] W1 (fun _ => []) (fun _ => none) (fun _ => 0) (some ⟨V3.heap.size, 0, none⟩) 1 [4] _ (H3.out.2.2.ext0 hE4) (by omega) (by omega) (fun _ _ => by simp) hI4 (by simp))
  have HE4 := Lib.hid hE4
  clear hI4 hE4
  go_wp2_with fail
  refine HR4.out.mono ?_
  rintro e V4 ⟨rfl, _, hr4⟩
  rw [j_ret1]
  obtain ⟨hE5, a4, c4, hL5, _⟩ := hr4 j_ret1
  have H4 := Lib.hid (And.intro (H3.out.1.trans' (HE4.out.wide.trans hE5) (fun x hx => .inr (by simp at hx; have := HB.out; omega))) (And.intro (H3.out.2.1.extm (HE4.out.wide.trans hE5) (fun q hq => by have := HX.out q hq; simp; omega)) (show LimAt V4 b c m p mb2 4 6 0 [(0, .int .i64 0)] W1 jG1 _ _ from hL5)))
  clear hr4 hE5 hL5 HR4 HE4
  go_wp2_with fail
  refine (lm_pass_yes b c m p mb2 4 6 0 [(0, .int .i64 0)] W1 jG1 _ _ V4 H4.out.2.2 (by omega) (by omega) (fun x hx => by simp at hx; exact ⟨0, by rw [hx]⟩) (by rfl) (w_b w_cnt1 (by omega)) (fun k _ => by have := j_l1 k; omega)).mono ?_
  rintro e V5 ⟨rfl, hE5, mb5, hL5, _⟩
  rw [j_pass1.1, j_pass1.2]
  obtain ⟨ga5, gc5, hL5⟩ : ∃ ga5 gc5, LimAt V5 b c m p mb5 4 6 1 [(0, .int .i64 0)] jS2 jG2 ga5 gc5 := ⟨_, _, hL5⟩
  have H5 := Lib.hid (And.intro (H4.out.1.trans' hE5 (fun x hx => .inr (by simp at hx; have := HB.out; omega))) (And.intro (H4.out.2.1.extm hE5 (fun q hq => by have := HX.out q hq; simp; omega)) hL5))
  clear hE5 hL5
  go_wp2_with fail
  refine (lm_pass_no b c m p mb5 4 6 1 [(0, .int .i64 0)] jS2 jG2 ga5 gc5 V5 H5.out.2.2 (by omega) (by omega) (fun x hx => by simp at hx; exact ⟨0, by rw [hx]⟩) (by rfl)).mono ?_
  rintro e V6 ⟨rfl, hE6, hL6⟩
  have H6 := Lib.hid (And.intro (H5.out.1.trans' hE6 (fun x hx => .inr (by simp at hx; have := HB.out; omega))) (And.intro (H5.out.2.1.extm hE6 (fun q hq => by have := HX.out q hq; simp; omega)) hL6))
  clear hE6 hL6
  go_wp2_with fail
  refine (lm_unpin b c m p mb5 4 6 1 [(0, .int .i64 0)] jS2 jG2 ga5 gc5 0 V6 H6.out.2.2 (fun v u w' => u = .int .i64 0 ∧ Ext [m] V6 w' ∧ LimAt w' b c m p mb5 4 6 1 [] jS2 jG2 ga5 gc5) (fun X hX => (ep_unpin_ok c m 1 [(0, .int .i64 0)] 0 X (H6.out.2.2.ext0 hX).clk (by decide)).mono ?_)).mono ?_
  · rintro e w' ⟨rfl, hE, hcl⟩
    exact ⟨_, rfl, hE, rfl, hX.wide.trans hE, (H6.out.2.2.ext0 hX).pins hE hcl⟩
  rintro e V7 ⟨v, u, rfl, rfl, hE7, hL7⟩
  have H7 := Lib.hid (And.intro (H6.out.1.trans' hE7 (fun x hx => .inr (by simp at hx; have := HB.out; omega))) (And.intro (H6.out.2.1.extm hE7 (fun q hq => by have := HX.out q hq; simp; omega)) hL7))
  clear hE7 hL7
  go_wp2_with fail
  refine (lm_pass_yes b c m p mb5 4 6 1 [] jS2 jG2 ga5 gc5 V7 H7.out.2.2 (by omega) (by omega) (fun x hx => by cases hx) (by rfl) (w_b (cnt_turn w_cnt1) (by omega)) (fun k _ => by have := j_l2 k; omega)).mono ?_
  rintro e V8 ⟨rfl, hE8, mb8, hL8, _⟩
  rw [j_pass3.1, j_pass3.2]
  have H8 := Lib.hid (And.intro (H7.out.1.trans' hE8 (fun x hx => .inr (by simp at hx; have := HB.out; omega))) (And.intro (H7.out.2.1.extm hE8 (fun q hq => by have := HX.out q hq; simp; omega)) (show LimAt V8 b c m p mb8 4 6 2 [] jS3 jG3 _ _ from hL8)))
  clear hE8 hL8
  go_wp2_with fail
  refine (lm_Free b c m p mb8 4 6 2 [] jS3 jG3 _ _ V8 H8.out.2.2 (by omega)).mono ?_
  rintro e V9 ⟨rfl, hE9⟩
  rw [j_free]
  have H9 := Lib.hid (And.intro (H8.out.1.trans hE9) (And.intro (H8.out.2.1.ext hE9) (H8.out.2.2.ext0 hE9)))
  clear hE9
  have hI4 := ints_lit V9 [4] 3
  have hE4 : Ext [] V9 (V9.alloc (.cells (ints [4]).toArray 3)) := (Ext.refl _ _).alloc _
  have HR4 := Lib.hid (lm_Retire b c m p mb8 4 6 2 [] jS3 jG3 _ _ (some ⟨V9.heap.size, 0, none⟩) 1 [4] _ (H9.out.2.2.ext0 hE4) (by omega) (by omega) (fun k _ => by have := j_l3 k; omega) hI4 (by simp))
  have HE4 := Lib.hid hE4
  clear hI4 hE4
  go_wp2_with fail
  refine HR4.out.mono ?_
  rintro e V10 ⟨rfl, hr4, _⟩
  rw [j_ret2]
  have hE10 := HE4.out.trans (hr4 (by rw [j_ret2]; decide))
  have H10 := Lib.hid (And.intro (H9.out.1.trans hE10) (H9.out.2.1.ext hE10))
  clear hr4 hE10 HR4 HE4
  have hI5 := ints_lit V10 [4, 5] 3
  have hE5 : Ext [] V10 (V10.alloc (.cells (ints [4, 5]).toArray 3)) := (Ext.refl _ _).alloc _
  have HIN := Lib.hid (rf_Ints ao (some ⟨V10.heap.size, 0, none⟩) 2 2 cap 2 (fun i => [4, 5].getD i 0) (fun i => [4, 5].getD i 0) _ (H10.out.2.ext hE5) hI5 (by omega) (by omega))
  have HE5 := Lib.hid hE5
  clear hI5 hE5
  go_wp2_with (go_at_call 49; refine (num15 _ _).mono ?_; rintro e w' ⟨rfl, rfl⟩)
  refine HIN.out.mono ?_
  rintro e V11 ⟨rfl, hE11⟩
  rw [show eqI 2 2 (fun i => [4, 5].getD i 0) (fun i => [4, 5].getD i 0) = true from by decide]
  have H11 := Lib.hid (H10.out.1.trans (HE5.out.trans hE11))
  clear hE11
  go_wp2_with (go_at_call 49; refine (num15 _ _).mono ?_; rintro e w' ⟨rfl, rfl⟩)
  go_ret
  exact ⟨rfl, H11.out⟩
end Go.Proofs.Ytgpoplnfhlfogaa
