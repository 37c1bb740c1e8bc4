/- The document's Unpack and Kind of records: what they answer. -/
import Derived.Test.YteaedcjnfigigaaRcT
import Derived.Deep.RegionHeld3
import Derived.Deep.AppendLies
namespace Go.Proofs.Yteaedcjnfigigaa
open Go Go.RowKit
attribute [local go_sem ↓] wp_load25

def RefPost (w : World) (F : Nat → Int) (e : Ending) (w' : World) : Prop :=
  ∃ ao n cap b, e = .returned (.tuple #[.slice ao n cap, .bool b]) ∧ Ext [] w w' ∧ ((b = false ∧ unpE F = 5 ∧ n = 0) ∨ (b = true ∧ unpE F = 0 ∧ n = unpN F ∧ Puts w' ao n (unpL F) ∧ ∀ p, ao = some p → w.heap.size ≤ p.block))

theorem owns_far {w : World} {B e k : Nat} {v : Value} {n : Nat} {xs : List Value} (h : w.ownsRow B e 2 v n xs) (hk : k < B) : v.ownBlock ≠ some k := fun hv => by
  have := (h.lt _ hv).1
  omega

set_option maxRecDepth 100000 in
set_option maxHeartbeats 4000000 in
theorem ref_unpack (F : Nat → Int) (w : World) (hF : ∀ i, U64 (F i)) :
    Calls Try.prog 18 #[.agg (arrF 24 F)] w (RefPost w F) := by
  have HF := Lib.hid hF
  have hF0 := unpN_eq F (hF 1).1
  have hF1 : (F 1).tmod 16 = ((unpN F : Nat) : Int) := by rw [Int.tmod_eq_emod_of_nonneg (hF 1).1, hF0]
  obtain ⟨N, hN⟩ : ∃ N, N = unpN F := ⟨_, rfl⟩
  rw [← hN] at hF1 hF0
  have hN16 : N < 16 := by omega
  have HF0 := Lib.hid hF0
  have HN := Lib.hid hN
  clear hN hF0
  have hne := ne25
  have a1 : (w.alloc (.cells (arrF 24 F) 25)).heap[w.heap.size]? = some (.cells (arrF 24 F) 25 (0, 0)) := World.alloc_heap_new _ _
  have hwr : wrap64 ((F 1).tmod 16) = (N : Int) := by rw [hF1]; exact IntWalk.wrap64_in _ (by omega)
  have HE0 := Lib.hid ((Ext.refl [] w).alloc (.cells (arrF 24 F) 25))
  have A1 := Lib.hid a1
  have c1 := cell_of a1 (arrF_get 24 F 1 (by omega))
  clear hF a1
  by_cases h0 : N = 0
  · have hlt : decide ((F 1).tmod 16 < (1 : Int)) = true := by rw [hF1]; simp; omega
    have hu : Hid (unpE F = 5) := by
      show unpE F = 5
      unfold unpE; rw [HF0.out, if_neg (by omega), ← HN.out, h0]
      rfl
    go_enter Try.func18, Try.ntmps18
    go_wp2
    go_ret2
    exact ⟨none, 0, 0, false, rfl, HE0.out, .inl ⟨rfl, hu.out, rfl⟩⟩
  have hlt : decide ((F 1).tmod 16 < (1 : Int)) = false := by rw [hF1]; simp; omega
  by_cases h11 : 11 < N
  · have hgt : decide ((11 : Int) < (F 1).tmod 16) = true := by rw [hF1]; simp; omega
    have hu : Hid (unpE F = 5) := by
      show unpE F = 5
      unfold unpE; rw [HF0.out, if_pos (by omega)]
    go_enter Try.func18, Try.ntmps18
    go_wp2
    go_ret2
    exact ⟨none, 0, 0, false, rfl, HE0.out, .inl ⟨rfl, hu.out, rfl⟩⟩
  have hgt : decide ((11 : Int) < (F 1).tmod 16) = false := by rw [hF1]; simp; omega
  go_enter Try.func18, Try.ntmps18
  go_wp2
  obtain ⟨i0, hi, hz0, hz1, hz2⟩ := info_parts infoPut
  clear c1
  go_loopg [4, 5] N (fun k v i wr => ∃ (j : Nat), i = .int .i64 j ∧ j + k = N ∧ (∀ t, t < j → F (2 * t + 2) ≤ 8191) ∧ wr.ownsRow (w.heap.size + 1) 47 2 v j (putCells (unpL F) j) ∧ Ext [] (w.alloc (.cells (arrF 24 F) 25)) wr)
  case atStart => exact ⟨0, rfl, by omega, fun t ht => absurd ht (Nat.not_lt_zero _), World.ownsRow_nil _ _ _ _, Ext.refl _ _⟩
  case round =>
    obtain ⟨j, rfl, hjk, hsm, hown, hE⟩ := hrel
    have HR := Lib.hid (And.intro hsm (And.intro hown hE))
    have b1 := hE.at A1.out (by simp)
    have c1 := cell_of b1 (arrF_get 24 F 1 (by omega))
    clear hsm hown hE
    by_cases hjn : j < N
    · have q1 := cell_of b1 (arrF_get 24 F (2 + 2 * j) (by omega))
      have q2 := cell_of b1 (arrF_get 24 F (3 + 2 * j) (by omega))
      have hr := HF.out (2 + 2 * j)
      have hu1 : (unpL F j).2 = F (3 + 2 * j) := by unfold unpL; rw [show 3 + 2 * j = 2 * j + 3 from by omega]
      have hu0 : (unpL F j).1 = min (F (2 + 2 * j)) 8192 := by unfold unpL; rw [show 2 + 2 * j = 2 * j + 2 from by omega]
      obtain ⟨x, hx⟩ : ∃ x, x = F (2 + 2 * j) := ⟨_, rfl⟩
      obtain ⟨y, hy⟩ : ∃ y, y = F (3 + 2 * j) := ⟨_, rfl⟩
      rw [← hx] at q1 hr hu0
      rw [← hy] at q2 hu1
      have HX := Lib.hid (And.intro hx (And.intro hu0 hu1))
      have hx0 : 0 ≤ x := hr.1
      clear hx hy hu0 hu1 hr b1
      by_cases hbig : 8191 < x
      · have hdb : decide ((8191 : Int) < x) = true := by simpa using hbig
        have hu : Hid (unpE F = 5) := by
          show unpE F = 5
          unfold unpE
          rw [HF0.out, if_neg (by omega), ← HN.out]
          by_cases hz : checkE (unpL F) N = 0
          · have := (okN_at (checkE_ok hz).1 j hjn).2
            rw [HX.out.2.1] at this
            omega
          · rw [if_pos hz]
        go_wp2
        go_ret2
        exact ⟨none, 0, 0, false, rfl, HE0.out.trans HR.out.2.2, .inl ⟨rfl, hu.out, rfl⟩⟩
      · have hdb : decide ((8191 : Int) < x) = false := by simpa using hbig
        have hwx : wrap64 x = x := IntWalk.wrap64_in _ (by omega)
        have hm : Hid ((unpL F j).1 = x) := by show (unpL F j).1 = x; rw [HX.out.2.1]; omega
        have hws : w.heap.size + 1 ≤ wr.heap.size := by have := HR.out.2.2.size; simpa using this
        have hv := owns_far HR.out.2.1 (show w.heap.size < w.heap.size + 1 by omega)
        have hw1 : IntKind.i64.wrap (2 * (j : Int)) = 2 * (j : Int) := IntWalk.i64_in _ (by omega)
        have hw2 : IntKind.i64.wrap (2 + 2 * (j : Int)) = 2 + 2 * (j : Int) := IntWalk.i64_in _ (by omega)
        have hw3 : IntKind.i64.wrap (3 + 2 * (j : Int)) = 3 + 2 * (j : Int) := IntWalk.i64_in _ (by omega)
        have q1' : wr.cell? ⟨w.heap.size, (2 + 2 * (j : Int)).toNat, none⟩ = some (.int .u64 x) := by rw [show (2 + 2 * (j : Int)).toNat = 2 + 2 * j from by omega]; exact q1
        have q2' : wr.cell? ⟨w.heap.size, (3 + 2 * (j : Int)).toNat, none⟩ = some (.int .u64 y) := by rw [show (3 + 2 * (j : Int)).toNat = 3 + 2 * j from by omega]; exact q2
        have hwx' : IntKind.i64.wrap x = x := IntWalk.i64_in _ (by omega)
        have hi0 : (0 : Int) ≤ 2 + 2 * (j : Int) := by omega
        have hi1 : 2 + 2 * (j : Int) < 24 := by omega
        have hi2 : (0 : Int) ≤ 3 + 2 * (j : Int) := by omega
        have hi3 : 3 + 2 * (j : Int) < 24 := by omega
        go_wp2
        go_region_held3 (fun w' => w'.cell? ⟨w.heap.size, (2 + 2 * (j : Int)).toNat, none⟩ = some (.int .u64 x) ∧ w'.cell? ⟨w.heap.size, (3 + 2 * (j : Int)).toNat, none⟩ = some (.int .u64 y))
          (first
            | go_keep
            | (go_split_ands
               refine ⟨?_, ?_⟩
               · (rw [hgrow.cell_far _ (by simp; omega) (Ne.symm hv)]; assumption)
               · (rw [hgrow.cell_far _ (by simp; omega) (Ne.symm hv)]; assumption)))
          ((refine step_append_lies _ (by rfl) _ _ _ (by rfl) (w.heap.size + 1) 47 i0 _ 2 16 Try.underlying22 hi hz0 hz1 hz2 rfl (by omega) _ j (putCells (unpL F) j) (by rfl) ((HR.out.2.1.alloc _).drew)
              ⟨wr.heap.size, 0, none⟩ 1 1 [.int .i64 x, .int .u64 y] (by rfl) (by rfl) (World.news_of_block (cs := #[.int .i64 x, .int .u64 y]) (t := 47) (fr := (0, 0)) (heap_alloc_new wr _)) (by simp [Value.oneCell'])
              (by omega) (by unfold maxLen; omega) (by omega) (by simp; omega) (wr.heap.size + 1) (by simp) ?_; intro gg cap w1 hown1 hgrow hat hlt1))
        go_wp2
        go_roundg (N - (j + 1))
        case measure => omega
        case rel =>
          refine ⟨j + 1, by go_num, by omega, fun t ht => ?_, ?_, ext_grown ((HR.out.2.2.alloc _).drew) hgrow ((HR.out.2.1.alloc _).drew) (by simp)⟩
          · by_cases htj : t = j
            · subst htj
              have := HX.out.1
              rw [show 2 * t + 2 = 2 + 2 * t from by omega]
              omega
            · exact HR.out.1 t (by omega)
          · show w1.ownsRow _ _ _ _ _ (putCells (unpL F) j ++ [.int .i64 (unpL F j).1, .int .u64 (unpL F j).2])
            rw [hm.out, HX.out.2.2]
            exact hown1
    · have hge : N ≤ j := by omega
      obtain ⟨ao, cap, rfl, hputs⟩ := puts_of_owns HR.out.2.1
      obtain rfl : j = N := by omega
      have hnew := owns_new HR.out.2.1
      have HP := Lib.hid (And.intro hputs hnew)
      have B1 := Lib.hid b1
      clear hputs hnew b1
      rcases checkE_cases (unpL F) j with hc | hc
      · cases hq : eqB (packW j (unpL F)) F with
        | true =>
          have hu : Hid (unpE F = 0) := by
            show unpE F = 0
            unfold unpE
            rw [HF0.out, if_neg (by omega), ← HN.out, if_neg (by rw [hc]; decide), if_pos hq]
          have HC := Lib.hid hc
          obtain ⟨A, hA⟩ : ∃ A : Array Value, arrF 24 F = A := ⟨_, rfl⟩
          obtain ⟨B, hB⟩ : ∃ A : Array Value, arrF 24 (packW j (unpL F)) = A := ⟨_, rfl⟩
          have hneq : ∀ w, (binOp .neq 25 (.agg B) (.agg A)).run Try.prog w = .ok (.bool false) w := by
            rw [← hA, ← hB]
            intro w
            have := ne25 (packW j (unpL F)) F w
            rw [hq] at this
            exact this
          have b1 := B1.out
          rw [hA] at b1
          have B1' := Lib.hid b1
          clear hc hq hne b1 B1
          rw [hA]
          go_wp2
          go_region_law (first
            | (go_simp; go_at_call 10; refine (ref_check ao j cap (unpL F) _ (HP.out.1.ext (Ext.refl [] wr).drew) (by omega)).mono ?_; rintro e W1 ⟨rfl, hE1⟩; rw [HC.out]; obtain ⟨ro1, rv1⟩ : rowOk W1 (.pointer (some ⟨w.heap.size, 0, none⟩)) = true ∧ rowVal W1 (.pointer (some ⟨w.heap.size, 0, none⟩)) = .agg A := (by rw [← hA]; exact row_of (by rw [hA]; exact hE1.at (w := wr.drew) B1'.out (by simp))))
            | (go_simp; go_at_call 14; refine (ref_pack ao j cap (unpL F) W1 ((HP.out.1.ext (Ext.refl [] wr).drew).ext hE1) HC.out).mono ?_; rintro e W2 ⟨rfl, hE2⟩; rw [hB]; obtain ⟨ro2, rv2⟩ : rowOk W2 (.pointer (some ⟨w.heap.size, 0, none⟩)) = true ∧ rowVal W2 (.pointer (some ⟨w.heap.size, 0, none⟩)) = .agg A := (by rw [← hA]; exact row_of (by rw [hA]; exact hE2.at (hE1.at (w := wr.drew) B1'.out (by simp)) (by simp)))))
          all_goals
            go_wp2
            go_ret2
            exact ⟨ao, j, cap, true, rfl, HE0.out.trans (HR.out.2.2.drew.trans (hE1.trans hE2)), .inr ⟨rfl, hu.out, HN.out, (HP.out.1.ext (Ext.refl [] wr).drew).ext (hE1.trans hE2), fun p h => by have := HP.out.2 p h; omega⟩⟩
        | false =>
          have hu : Hid (unpE F = 5) := by
            show unpE F = 5
            unfold unpE
            rw [HF0.out, if_neg (by omega), ← HN.out, if_neg (by rw [hc]; decide), if_neg (by rw [hq]; decide)]
          have HC := Lib.hid hc
          obtain ⟨A, hA⟩ : ∃ A : Array Value, arrF 24 F = A := ⟨_, rfl⟩
          obtain ⟨B, hB⟩ : ∃ A : Array Value, arrF 24 (packW j (unpL F)) = A := ⟨_, rfl⟩
          have hneq : ∀ w, (binOp .neq 25 (.agg B) (.agg A)).run Try.prog w = .ok (.bool true) w := by
            rw [← hA, ← hB]
            intro w
            have := ne25 (packW j (unpL F)) F w
            rw [hq] at this
            exact this
          have b1 := B1.out
          rw [hA] at b1
          have B1' := Lib.hid b1
          clear hc hq hne b1 B1
          rw [hA]
          go_wp2
          go_region_law (first
            | (go_simp; go_at_call 10; refine (ref_check ao j cap (unpL F) _ (HP.out.1.ext (Ext.refl [] wr).drew) (by omega)).mono ?_; rintro e W1 ⟨rfl, hE1⟩; rw [HC.out]; obtain ⟨ro1, rv1⟩ : rowOk W1 (.pointer (some ⟨w.heap.size, 0, none⟩)) = true ∧ rowVal W1 (.pointer (some ⟨w.heap.size, 0, none⟩)) = .agg A := (by rw [← hA]; exact row_of (by rw [hA]; exact hE1.at (w := wr.drew) B1'.out (by simp))))
            | (go_simp; go_at_call 14; refine (ref_pack ao j cap (unpL F) W1 ((HP.out.1.ext (Ext.refl [] wr).drew).ext hE1) HC.out).mono ?_; rintro e W2 ⟨rfl, hE2⟩; rw [hB]; obtain ⟨ro2, rv2⟩ : rowOk W2 (.pointer (some ⟨w.heap.size, 0, none⟩)) = true ∧ rowVal W2 (.pointer (some ⟨w.heap.size, 0, none⟩)) = .agg A := (by rw [← hA]; exact row_of (by rw [hA]; exact hE2.at (hE1.at (w := wr.drew) B1'.out (by simp)) (by simp)))))
          all_goals
            go_wp2
            go_ret2
            exact ⟨none, 0, 0, false, rfl, HE0.out.trans (HR.out.2.2.drew.trans (hE1.trans hE2)), .inl ⟨rfl, hu.out, rfl⟩⟩
      · have hu : Hid (unpE F = 5) := by
          show unpE F = 5
          unfold unpE
          rw [HF0.out, if_neg (by omega), ← HN.out]
          rw [if_pos (by rcases hc with h | h | h <;> rw [h] <;> decide)]
        rcases hc with hc | hc | hc
        all_goals
          have HC := Lib.hid hc
          clear hc
          go_wp2
          first
            | go_region_law (go_simp; go_at_call 10; refine (ref_check ao j cap (unpL F) _ (HP.out.1.ext (Ext.refl [] wr).drew) (by omega)).mono ?_; rintro e W1 ⟨rfl, hE1⟩; rw [HC.out])
            | fail
          all_goals
            go_wp2
            go_ret2
            exact ⟨none, 0, 0, false, rfl, HE0.out.trans (HR.out.2.2.drew.trans hE1), .inl ⟨rfl, hu.out, rfl⟩⟩

theorem kind_of (F : Nat → Int) : kindE F = if F 0 = 0 then 0 else if unpE F = 0 then 1 else 2 := rfl

set_option maxRecDepth 100000 in
set_option maxHeartbeats 1000000 in
theorem ref_kind (F : Nat → Int) (w : World) (hF : ∀ i, U64 (F i)) :
    Calls Try.prog 19 #[.agg (arrF 24 F)] w fun e w' => e = .returned (.int .i64 (kindE F)) ∧ Ext [] w w' := by
  have HF := Lib.hid hF
  have a1 : (w.alloc (.cells (arrF 24 F) 25)).heap[w.heap.size]? = some (.cells (arrF 24 F) 25 (0, 0)) := World.alloc_heap_new _ _
  have HE0 := Lib.hid ((Ext.refl [] w).alloc (.cells (arrF 24 F) 25))
  have c0 := cell_of a1 (arrF_get 24 F 0 (by omega))
  clear hF
  rw [kind_of]
  by_cases h0 : F 0 = 0
  · rw [if_pos h0]
    have hd : (F 0 == 0) = true := by simpa using h0
    go_enter Try.func19, Try.ntmps19
    go_wp2
    go_ret
    exact ⟨rfl, HE0.out⟩
  · rw [if_neg h0]
    have hd : (F 0 == 0) = false := by simpa using h0
    have HD := Lib.hid h0
    clear h0
    rcases unpE_cases F with hu0 | hu0
    all_goals
      rw [hu0]
      have HU := Lib.hid hu0
      clear hu0
      first | rw [if_pos rfl] | rw [if_neg (show ¬ (5 : Int) = 0 by decide)]
      go_enter Try.func19, Try.ntmps19
      go_wp2_with ((with_reducible refine load25 a1 ?_ ?_); exact rfl)
      refine (ref_unpack F _ HF.out).mono ?_
      rintro e W ⟨ao, n, cap, b, rfl, hE, hb⟩
      rcases hb with ⟨rfl, hu, _⟩ | ⟨rfl, hu, _⟩
      all_goals
        first
          | (exfalso; have := HU.out; omega)
          | (go_wp2
             go_ret
             exact ⟨rfl, HE0.out.trans hE⟩)
end Go.Proofs.Yteaedcjnfigigaa
