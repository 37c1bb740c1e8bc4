/- The document's device: New, State. The document's device: Same. -/
import Derived.Test.YtfojmjkcjdehaaaPhE
namespace Go.Proofs.Ytfojmjkcjdehaaa
open Go Go.RowKit Go.Shelf
attribute [local go_sem] Oper.semAt_some

theorem lnR_zero (k : Nat) : lnR (fun _ => 0) k = [.int .u64 0, .int .u64 0, .int .u64 0, .int .u64 0, .int .u64 0, .int .u64 0, .int .u64 0, .int .u64 0] := rfl
theorem LnB.made {w : World} {g n : Nat} (h1 : n ≤ 1024) (h : w.heap[g]? = some (.cells (madeCells (Value.agg #[.int .u64 0, .int .u64 0, .int .u64 0, .int .u64 0, .int .u64 0, .int .u64 0, .int .u64 0, .int .u64 0]).cells (n * 8)) 68 (0, 0))) : LnB w g n n (fun _ => 0) := by
  refine ⟨⟨Nat.le_refl _, _, h, by simp [madeCells], fun i hi j v hv => ?_⟩, by unfold maxLen; omega⟩
  have hj : j < 8 := by
    have := (List.getElem?_eq_some_iff.1 hv).1
    simpa [lnR] using this
  refine cell_of h ?_
  rw [lnR_get _ _ _ hj] at hv
  cases hv
  exact made_words (n * 8) (i * 8 + j) (by omega)

set_option maxRecDepth 100000 in
set_option maxHeartbeats 800000 in
theorem rf_New (n : Nat) (w : World) (h0 : 1 ≤ n) (h1 : n ≤ 1024) :
    Calls Try.prog 27 #[.int .i64 n] w fun e w' => ∃ v', e = .returned v' ∧ Ext [] w w' ∧ RefAt w' v' (dvNew n) := by
  obtain ⟨i0, hi, hz0, hz1, hz2⟩ := info_parts infoL8
  have hmk : ∀ w, (Instr.makeSlice 30 (.int .i64 (n : Int)) (.int .i64 (n : Int))).run Try.prog w = .ok (.slice (some ⟨w.heap.size, 0, none⟩) n n) (w.alloc (.cells (madeCells (Value.agg #[.int .u64 0, .int .u64 0, .int .u64 0, .int .u64 0, .int .u64 0, .int .u64 0, .int .u64 0, .int .u64 0]).cells (n * 8)) 68)) := by
    intro w
    have := run_make (P := Try.prog) w 30 68 i0 _ Try.underlying30 hi hz0 .i64 .i64 (n : Int) (n : Int) (by omega) (by omega) (by rw [hz2]; omega) (by omega)
    rw [hz1] at this
    simpa using this
  have HL := Lib.hid (fun (W : World) (b : Nat) => LnB.made (w := W) (g := b) h1)
  generalize madeCells _ (n * 8) = Z at *
  obtain ⟨W0, hw0⟩ : ∃ W0, w.alloc (.cells #[.slice none 0 0, .slice none 0 0, .slice none 0 0] 33) = W0 := ⟨_, rfl⟩
  have hE0 : Ext [] w W0 := by rw [← hw0]; exact (Ext.refl [] w).alloc _
  have hb0 : W0.heap[w.heap.size]? = some (.cells #[.slice none 0 0, .slice none 0 0, .slice none 0 0] 33 (0, 0)) := by rw [← hw0]; exact World.alloc_heap_new _ _
  have hlt := lt_of_block hb0
  obtain ⟨m0, m1, m2⟩ := three hb0
  have f0 := free_of hb0 0
  have f1 := free_of hb0 1
  have f2 := free_of hb0 2
  have H0 := Lib.hid (And.intro hE0 hb0)
  have HH := Lib.hid (And.intro h0 h1)
  clear hi hz0 hz1 hz2 h0 h1 i0 hE0 hb0
  go_enter Try.func27, Try.ntmps27
  go_wp2
  clear hw0
  go_region
  all_goals go_wp2
  · obtain ⟨W1, hW1⟩ : ∃ W1, ((W0.setCell ⟨w.heap.size, 0, none⟩ (.slice (some ⟨W0.heap.size, 0, none⟩) n n)).setCell ⟨w.heap.size, 1, none⟩ (.slice (some ⟨W0.heap.size + 1, 0, none⟩) n n)).setCell ⟨w.heap.size, 2, none⟩ (.slice none 0 0) = W1 := ⟨_, rfl⟩
    have hs : W1.heap.size = W0.heap.size := by rw [← hW1]; simp [World.setCell]
    have hE1 : Ext [] w W1 := by rw [← hW1]; exact ext_three H0.out.1 (.inr (Nat.le_refl _)) _ _ _
    have hb1 := tri_set H0.out.2 (.slice (some ⟨W0.heap.size, 0, none⟩) n n) (.slice (some ⟨W0.heap.size + 1, 0, none⟩) n n) (.slice none 0 0)
    rw [hW1] at hb1 ⊢
    obtain ⟨a1, a2, _⟩ := al2_heap (w := W1) Z Z 68 68
    rw [hs] at a1 a2
    refine bodyPost_ret (results_agg Try.results27 _ _ w.heap.size _ #[.slice (some ⟨W0.heap.size, 0, none⟩) n n, .slice (some ⟨W0.heap.size + 1, 0, none⟩) n n, .slice none 0 0] _ _ rfl (block_al (block_al hb1)) Try.underlying33 rfl (by kernel_rfl)) rfl ?_
    exact ⟨_, rfl, ((hE1.alloc _).alloc _).drew, W0.heap.size, n, W0.heap.size + 1, n, none, 0, rfl, HL.out _ _ a1, HL.out _ _ a2, World.ownsRow_nil _ _ _ _⟩
  · obtain ⟨W1, hW1⟩ : ∃ W1, ((W0.setCell ⟨w.heap.size, 0, none⟩ (.slice (some ⟨W0.heap.size + 1, 0, none⟩) n n)).setCell ⟨w.heap.size, 1, none⟩ (.slice (some ⟨W0.heap.size, 0, none⟩) n n)).setCell ⟨w.heap.size, 2, none⟩ (.slice none 0 0) = W1 := ⟨_, rfl⟩
    have hs : W1.heap.size = W0.heap.size := by rw [← hW1]; simp [World.setCell]
    have hE1 : Ext [] w W1 := by rw [← hW1]; exact ext_three H0.out.1 (.inr (Nat.le_refl _)) _ _ _
    have hb1 := tri_set H0.out.2 (.slice (some ⟨W0.heap.size + 1, 0, none⟩) n n) (.slice (some ⟨W0.heap.size, 0, none⟩) n n) (.slice none 0 0)
    rw [hW1] at hb1 ⊢
    obtain ⟨a1, a2, _⟩ := al2_heap (w := W1) Z Z 68 68
    rw [hs] at a1 a2
    refine bodyPost_ret (results_agg Try.results27 _ _ w.heap.size _ #[.slice (some ⟨W0.heap.size + 1, 0, none⟩) n n, .slice (some ⟨W0.heap.size, 0, none⟩) n n, .slice none 0 0] _ _ rfl (block_al (block_al hb1)) Try.underlying33 rfl (by kernel_rfl)) rfl ?_
    exact ⟨_, rfl, ((hE1.alloc _).alloc _).drew, W0.heap.size + 1, n, W0.heap.size, n, none, 0, rfl, HL.out _ _ a2, HL.out _ _ a1, World.ownsRow_nil _ _ _ _⟩

theorem neLineR (G H : Wd) (w : World) : (binOp .neq 68 (.agg #[.int .u64 (G 0), .int .u64 (G 1), .int .u64 (G 2), .int .u64 (G 3), .int .u64 (G 4), .int .u64 (G 5), .int .u64 (G 6), .int .u64 (G 7)]) (.agg #[.int .u64 (H 0), .int .u64 (H 1), .int .u64 (H 2), .int .u64 (H 3), .int .u64 (H 4), .int .u64 (H 5), .int .u64 (H 6), .int .u64 (H 7)])).run Try.prog w = .ok (.bool (!eqW G H)) w :=
  run_neArr (P := Try.prog) w 68 8 23 .u64 Try.underlying68 Try.underlying23 (sizeU w) G H

set_option maxRecDepth 100000 in
set_option maxHeartbeats 1600000 in
theorem rf_State (v : Value) (D : Dv) (w : World) (h : RefAt w v D) (hn : DvOk D) :
    Calls Try.prog 83 #[v] w fun e w' => e = .returned (mediaV D) ∧ Ext [] w w' := by
  obtain ⟨sg, sc, tg, tc, wo, wc, rfl, hS, hT, hW⟩ := h
  obtain ⟨W0, hw0⟩ : ∃ W0, ((w.alloc (.cells #[.slice (some ⟨sg, 0, none⟩) D.n sc, .slice (some ⟨tg, 0, none⟩) D.n tc, .slice wo D.W.length wc] 33)).alloc (.cells #[.int .i64 0, .int .i64 0, .int .i64 0] 49)).alloc (.cells #[.int .i64 (D.n : Int), .int .i64 (D.W.length : Int), .int .i64 0] 49) = W0 := ⟨_, rfl⟩
  have hE0 : Ext [] w W0 := by rw [← hw0]; exact (((Ext.refl [] w).alloc _).alloc _).alloc _
  obtain ⟨hb1, hb2, hb3, hs0⟩ := al3_heap (w := w) #[.slice (some ⟨sg, 0, none⟩) D.n sc, .slice (some ⟨tg, 0, none⟩) D.n tc, .slice wo D.W.length wc] #[.int .i64 0, .int .i64 0, .int .i64 0] #[.int .i64 (D.n : Int), .int .i64 (D.W.length : Int), .int .i64 0] 33 49 49
  rw [hw0] at hb1 hb2 hb3 hs0
  have hNT : NoT W0 68 [w.heap.size + 2] := fun g cur hg hm => by simp at hm; subst hm; rw [hb3] at hg; simp at hg
  have H0 := Lib.hid (And.intro hE0 (And.intro hb1 (And.intro hb2 (And.intro hb3 (And.intro (hS.ext hE0 (NoT.nil _ _)) (And.intro (hT.ext hE0 (NoT.nil _ _)) hNT))))))
  have HD := Lib.hid hn
  have hn1 := hn.n1
  clear hE0 hb1 hb2 hb3 hs0 hS hT hW hNT hn
  go_enter Try.func83, Try.ntmps83
  have HW0 := Lib.hid hw0
  clear hw0
  go_wp2
  rw [show w.heap.size + 1 + 1 = w.heap.size + 2 from rfl, HW0.out]
  go_loopg [4] D.n (fun cnt i wr => ∃ j : Nat, i = .int .i64 j ∧ j + cnt = D.n ∧ Ext [w.heap.size + 2] W0 wr ∧ wr.heap[w.heap.size + 2]? = some (.cells #[.int .i64 (D.n : Int), .int .i64 (D.W.length : Int), .int .i64 (dirtyN D.L D.S j : Int)] 49 (0, 0)))
  case atStart => exact ⟨0, rfl, by omega, Ext.refl _ _, H0.out.2.2.2.1⟩
  case round =>
    obtain ⟨j, rfl, hj, hE, hb⟩ := hrel
    obtain ⟨k0, k1, k2⟩ := three (hE.at H0.out.2.1 (by simp))
    by_cases hlt : j < D.n
    · obtain ⟨x0, x1, x2, x3, x4, x5, x6, x7⟩ := (H0.out.2.2.2.2.1.ext hE H0.out.2.2.2.2.2.2).eight hlt
      obtain ⟨y0, y1, y2, y3, y4, y5, y6, y7⟩ := (H0.out.2.2.2.2.2.1.ext hE H0.out.2.2.2.2.2.2).eight hlt
      obtain ⟨r, hr⟩ : ∃ r, eqW (lineOf D.L j) (lineOf D.S j) = r := ⟨_, rfl⟩
      have hne := neLineR (lineOf D.L j) (lineOf D.S j)
      rw [hr] at hne
      simp only [lineOf, Nat.add_zero] at hne
      have hst : Hid (dirtyN D.L D.S (j + 1) = dirtyN D.L D.S j + (if r then 0 else 1)) := by
        unfold Hid
        rw [dirtyN, hr]
      have hdj := dirtyN_le D.L D.S j
      have hi0 : (0 : Int) ≤ (j : Int) := by omega
      have hi1 : (j : Int) < (D.n : Int) := by omega
      have hjm : (j : Int) ≤ 1024 := by omega
      have m2 := cell_of (j := 2) (v := .int .i64 (dirtyN D.L D.S j : Int)) hb rfl
      have f2 := free_of hb 2
      have hdm : (dirtyN D.L D.S j : Int) ≤ 1024 := by omega
      have HJ := Lib.hid (And.intro hj (And.intro hlt (And.intro hE hb)))
      obtain ⟨T, hT⟩ : ∃ T, dirtyN D.L D.S j = T := ⟨_, rfl⟩
      rw [hT] at m2 hdm
      have hdm0 : (0 : Int) ≤ (T : Int) := by omega
      have HT := Lib.hid hT
      clear hj hE hb hr hdj hT
      cases r with
      | true =>
        simp only [Bool.not_true] at hne
        go_wp2
        go_quiet (fail)
        go_wp2
        go_roundg (D.n - (j + 1))
        case measure => have := HJ.out.1; omega
        case rel =>
          refine ⟨j + 1, by go_num, by have := HJ.out; omega, HJ.out.2.2.1.drewN _, ?_⟩
          rw [hst.out]
          exact HJ.out.2.2.2
      | false =>
        simp only [Bool.not_false] at hne
        go_wp2
        go_quiet (fail)
        go_wp2
        go_roundg (D.n - (j + 1))
        case measure => have := HJ.out.1; omega
        case rel =>
          refine ⟨j + 1, by go_num, by have := HJ.out; omega, (HJ.out.2.2.1.drewN _).setCell (.inl (by simp)) _, ?_⟩
          rw [hst.out, HT.out]
          have hb := HJ.out.2.2.2
          rw [HT.out] at hb
          exact tri_set2 (w := wr.drewN _) hb _
    · have hd : decide (j < D.n) = false := by simpa using hlt
      obtain rfl : j = D.n := by omega
      have hb2 := hE.at H0.out.2.2.1 (by simp)
      have HJ := Lib.hid (And.intro hE (And.intro hb hb2))
      obtain ⟨m0, m1, m2⟩ := three hb
      obtain ⟨q0, q1, q2⟩ := three hb2
      have f0 := free_of hb2 0
      have f1 := free_of hb2 1
      have f2 := free_of hb2 2
      clear hj hE hb hlt hb2
      go_wp2
      refine bodyPost_ret (results_agg Try.results83 _ _ (w.heap.size + 1) _ #[.int .i64 (D.n : Int), .int .i64 (D.W.length : Int), .int .i64 (dirtyN D.L D.S D.n : Int)] _ _ rfl (tri_set HJ.out.2.2 _ _ _) Try.underlying49 rfl (by kernel_rfl)) rfl ⟨rfl, ?_⟩
      exact ext_three (H0.out.1.trans' HJ.out.1 (fun q hq => .inr (by simp at hq; omega))) (.inr (by omega)) _ _ _
end Go.Proofs.Ytfojmjkcjdehaaa
namespace Go.Proofs.Ytfojmjkcjdehaaa
open Go Go.RowKit Go.Shelf
attribute [local go_sem] Oper.semAt_some

theorem neWaitR (a b : Int) (G H : Wd) (w : World) : (binOp .neq 70 (.agg #[.int .i64 a, .int .u64 (G 0), .int .u64 (G 1), .int .u64 (G 2), .int .u64 (G 3), .int .u64 (G 4), .int .u64 (G 5), .int .u64 (G 6), .int .u64 (G 7)]) (.agg #[.int .i64 b, .int .u64 (H 0), .int .u64 (H 1), .int .u64 (H 2), .int .u64 (H 3), .int .u64 (H 4), .int .u64 (H 5), .int .u64 (H 6), .int .u64 (H 7)])).run Try.prog w = .ok (.bool (!(a == b && eqW G H))) w := by
  have u3 := Try.underlying3
  have u4 := Try.underlying68
  have hS : Try.prog.underlying 70 = some (.struct (Try.prog.fieldsOf 70)) := by kernel_rfl
  have hp : Try.prog.stoodInHeld 70 = false := by kernel_rfl
  have ha := run_equalIn_arr (P := Try.prog) w 9997 68 8 23 .u64 Try.underlying68 Try.underlying23 (sizeU w) G H
  rw [run_neq_struct, show (10000 : Nat) = 9999 + 1 from rfl, run_equalIn_agg w 9999 70 _ _ hS hp]
  simp only [Program.fieldsOf, Try.underlying70]
  go_simp
  rw [show (Sem.run Try.prog (Op.equalIn 9999 68 (.agg #[.int .u64 (G 0), .int .u64 (G 1), .int .u64 (G 2), .int .u64 (G 3), .int .u64 (G 4), .int .u64 (G 5), .int .u64 (G 6), .int .u64 (G 7)]) (.agg #[.int .u64 (H 0), .int .u64 (H 1), .int .u64 (H 2), .int .u64 (H 3), .int .u64 (H 4), .int .u64 (H 5), .int .u64 (H 6), .int .u64 (H 7)])) w) = .ok (eqW G H) w from ha]
  by_cases hab : a = b
  · cases hq : eqW G H <;> simp [hab]
  · simp [hab]
theorem eqL_false {n : Nat} {F G : Wd} {j : Nat} (hj : j < n) (h : eqW (lineOf F j) (lineOf G j) = false) : eqL n F G = false := by
  unfold eqL
  rw [Bool.eq_false_iff]
  intro hh
  have := List.all_eq_true.1 hh j (List.mem_range.2 hj)
  rw [h] at this
  cases this
theorem eqL_true {n : Nat} {F G : Wd} (h : ∀ t, t < n → eqW (lineOf F t) (lineOf G t) = true) : eqL n F G = true := by
  unfold eqL
  rw [List.all_eq_true]
  exact fun t ht => h t (List.mem_range.1 ht)
theorem eqWs_false {A B : List Wt} {j : Nat} (hj : j < A.length) (h : eqWt (A.getD j wtD) (B.getD j wtD) = false) : eqWs A B = false := by
  unfold eqWs
  rw [Bool.eq_false_iff]
  intro hh
  have := List.all_eq_true.1 (Bool.and_eq_true_iff.1 hh).2 j (List.mem_range.2 hj)
  rw [h] at this
  cases this
theorem eqWs_len {A B : List Wt} (h : A.length ≠ B.length) : eqWs A B = false := by unfold eqWs; rw [decide_eq_false h, Bool.false_and]
theorem eqWs_true {A B : List Wt} (hl : A.length = B.length) (h : ∀ t, t < A.length → eqWt (A.getD t wtD) (B.getD t wtD) = true) : eqWs A B = true := by
  unfold eqWs
  rw [decide_eq_true hl, Bool.true_and, List.all_eq_true]
  exact fun t ht => h t (List.mem_range.1 ht)

set_option maxRecDepth 100000 in
set_option maxHeartbeats 3200000 in
theorem rf_Same (u v : Value) (A B : Dv) (w : World) (hA : RefAt w u A) (hB : RefAt w v B) (hnA : DvOk A) (hnn : A.n = B.n) :
    Calls Try.prog 32 #[u, v] w fun e w' => e = .returned (.bool (A.eqB B)) ∧ Ext [] w w' := by
  obtain ⟨sg, sc, tg, tc, wo, wc, rfl, hS, hT, hW⟩ := hA
  obtain ⟨sg2, sc2, tg2, tc2, wo2, wc2, rfl, hS2, hT2, hW2⟩ := hB
  have hR : Hid (A.eqB B = (eqL A.n A.L B.L && eqL A.n A.S B.S && eqWs A.W B.W)) := by
    unfold Hid Dv.eqB
    rw [show decide (A.n = B.n) = true from by simpa using hnn, Bool.true_and]
  generalize A.eqB B = res at *
  rw [← hnn] at hS2 hT2 ⊢
  obtain ⟨W0, hw0⟩ : ∃ W0, (w.alloc (.cells #[.slice (some ⟨sg, 0, none⟩) A.n sc, .slice (some ⟨tg, 0, none⟩) A.n tc, .slice wo A.W.length wc] 33)).alloc (.cells #[.slice (some ⟨sg2, 0, none⟩) A.n sc2, .slice (some ⟨tg2, 0, none⟩) A.n tc2, .slice wo2 B.W.length wc2] 33) = W0 := ⟨_, rfl⟩
  have hE0 : Ext [] w W0 := by rw [← hw0]; exact ((Ext.refl [] w).alloc _).alloc _
  obtain ⟨hb1, hb2, _⟩ := al2_heap (w := w) #[.slice (some ⟨sg, 0, none⟩) A.n sc, .slice (some ⟨tg, 0, none⟩) A.n tc, .slice wo A.W.length wc] #[.slice (some ⟨sg2, 0, none⟩) A.n sc2, .slice (some ⟨tg2, 0, none⟩) A.n tc2, .slice wo2 B.W.length wc2] 33 33
  rw [hw0] at hb1 hb2
  have hwl := hnA.wl
  have hn1 := hnA.n1
  have H0 := Lib.hid (And.intro hE0 (And.intro hb1 (And.intro hb2 (And.intro (hS.ext hE0 (NoT.nil _ _)) (And.intro (hT.ext hE0 (NoT.nil _ _)) (And.intro (hS2.ext hE0 (NoT.nil _ _)) (And.intro (hT2.ext hE0 (NoT.nil _ _)) (And.intro (hW.ext hE0 (NoT.nil _ _)) (hW2.ext hE0 (NoT.nil _ _))))))))))
  obtain ⟨k0, k1, k2⟩ := three hb1
  obtain ⟨q0, q1, q2⟩ := three hb2
  clear hE0 hb1 hb2 hS hT hS2 hT2 hW hW2 hnn hnA
  obtain ⟨n, hn⟩ : ∃ n, A.n = n := ⟨_, rfl⟩
  rw [hn] at k0 k1 q0 q1 hn1 hw0 H0 hR ⊢
  obtain ⟨m1, hm1⟩ : ∃ m1, A.W.length = m1 := ⟨_, rfl⟩
  obtain ⟨m2, hm2⟩ : ∃ m2, B.W.length = m2 := ⟨_, rfl⟩
  rw [hm1] at k2 hwl hw0 H0 ⊢
  rw [hm2] at q2 hw0 H0 ⊢
  have hnn : ((n : Int) != (n : Int)) = false := by simp
  by_cases hm : m1 = m2
  · have hmm : ((m1 : Int) != (m2 : Int)) = false := by simp [hm]
    have HM := Lib.hid (And.intro hm1 (And.intro hm2 hm))
    clear hm1 hm2 hm hn
    go_enter Try.func32, Try.ntmps32
    go_wp2
    clear hw0
    go_loopg [5] n (fun cnt i wr => ∃ j : Nat, i = .int .i64 j ∧ j + cnt = n ∧ (∃ q, wr = W0.drewN q) ∧ (∀ t, t < j → eqW (lineOf A.L t) (lineOf B.L t) = true) ∧ ∀ t, t < j → eqW (lineOf A.S t) (lineOf B.S t) = true)
    case atStart => exact ⟨0, rfl, by omega, ⟨0, rfl⟩, (fun t ht => by omega), fun t ht => by omega⟩
    case round =>
      obtain ⟨j, rfl, hj, ⟨q, hq⟩, hno, hno2⟩ := hrel
      have hE : Ext [] W0 wr := by rw [hq]; exact (Ext.refl [] W0).drewN q
      have k0 := hE.cell k0 (by simp)
      have k1 := hE.cell k1 (by simp)
      have k2 := hE.cell k2 (by simp)
      have q0 := hE.cell q0 (by simp)
      have q1 := hE.cell q1 (by simp)
      have q2 := hE.cell q2 (by simp)
      by_cases hlt : j < n
      · obtain ⟨x0, x1, x2, x3, x4, x5, x6, x7⟩ := (H0.out.2.2.2.1.ext hE (NoT.nil _ _)).eight hlt
        obtain ⟨y0, y1, y2, y3, y4, y5, y6, y7⟩ := (H0.out.2.2.2.2.2.1.ext hE (NoT.nil _ _)).eight hlt
        obtain ⟨X0, X1, X2, X3, X4, X5, X6, X7⟩ := (H0.out.2.2.2.2.1.ext hE (NoT.nil _ _)).eight hlt
        obtain ⟨Y0, Y1, Y2, Y3, Y4, Y5, Y6, Y7⟩ := (H0.out.2.2.2.2.2.2.1.ext hE (NoT.nil _ _)).eight hlt
        obtain ⟨r, hr⟩ : ∃ r, eqW (lineOf A.L j) (lineOf B.L j) = r := ⟨_, rfl⟩
        obtain ⟨s, hs⟩ : ∃ s, eqW (lineOf A.S j) (lineOf B.S j) = s := ⟨_, rfl⟩
        have hne := neLineR (lineOf A.L j) (lineOf B.L j)
        have hne2 := neLineR (lineOf A.S j) (lineOf B.S j)
        rw [hr] at hne
        rw [hs] at hne2
        simp only [lineOf, Nat.add_zero] at hne hne2
        have HRR := Lib.hid (And.intro hr hs)
        have hi0 : (0 : Int) ≤ (j : Int) := by omega
        have hi1 : (j : Int) < (n : Int) := by omega
        have hjm : (j : Int) ≤ 1024 := by omega
        have HJ := Lib.hid (And.intro hj (And.intro hlt (And.intro hq (And.intro hno hno2))))
        clear hj hE hno hno2 hq hr hs
        cases r with
        | true =>
          cases s with
          | true =>
            simp only [Bool.not_true] at hne hne2
            go_wp2
            go_quiet (fail)
            go_wp2
            go_roundg (n - (j + 1))
            case measure => have := HJ.out.1; omega
            case rel =>
              refine ⟨j + 1, by go_num, by have := HJ.out; omega, by rw [HJ.out.2.2.1]; exact ⟨_, World.drewN_drewN ..⟩, fun t ht => ?_, fun t ht => ?_⟩
              · by_cases htj : t = j
                · subst htj; exact HRR.out.1
                · exact HJ.out.2.2.2.1 t (by omega)
              · by_cases htj : t = j
                · subst htj; exact HRR.out.2
                · exact HJ.out.2.2.2.2 t (by omega)
          | false =>
            simp only [Bool.not_true, Bool.not_false] at hne hne2
            go_wp2
            go_quiet (fail)
            go_wp2
            go_ret
            refine ⟨?_, by rw [HJ.out.2.2.1]; exact (H0.out.1.drewN _).drewN _⟩
            rw [hR.out, eqL_false HJ.out.2.1 HRR.out.2, Bool.and_false, Bool.false_and]
            rfl
        | false =>
          simp only [Bool.not_false] at hne
          go_wp2
          go_quiet (fail)
          go_wp2
          go_ret
          refine ⟨?_, by rw [HJ.out.2.2.1]; exact (H0.out.1.drewN _).drewN _⟩
          rw [hR.out, eqL_false HJ.out.2.1 HRR.out.1, Bool.false_and, Bool.false_and]
          rfl
      · have hd : decide (j < n) = false := by simpa using hlt
        obtain rfl : j = n := by omega
        have HJ := Lib.hid (And.intro hq (And.intro (eqL_true hno) (eqL_true hno2)))
        clear hj hlt hE hno hno2 hq hnn
        go_wp2
        go_loopg [6] m1 (fun cnt i wr => ∃ j : Nat, i = .int .i64 j ∧ j + cnt = m1 ∧ (∃ q, wr = W0.drewN q) ∧ (∀ t, t < j → eqWt (A.W.getD t wtD) (B.W.getD t wtD) = true))
        case atStart => exact ⟨0, rfl, by omega, ⟨_, HJ.out.1⟩, fun t ht => by omega⟩
        case round =>
          obtain ⟨j2, rfl, hj, ⟨q3, hq⟩, hno⟩ := hrel
          have hE : Ext [] W0 wr := by rw [hq]; exact (Ext.refl [] W0).drewN q3
          obtain ⟨k0, k1, k2⟩ := three (hE.at H0.out.2.1 (by simp))
          obtain ⟨q0, q1, q2⟩ := three (hE.at H0.out.2.2.1 (by simp))
          by_cases hlt : j2 < m1
          · obtain ⟨g, rfl, x0, x1, x2, x3, x4, x5, x6, x7, x8⟩ := (H0.out.2.2.2.2.2.2.2.1.ext hE (NoT.nil _ _)).nine (i := j2) (by have := HM.out; omega)
            obtain ⟨g2, rfl, y0, y1, y2, y3, y4, y5, y6, y7, y8⟩ := (H0.out.2.2.2.2.2.2.2.2.ext hE (NoT.nil _ _)).nine (i := j2) (by have := HM.out; omega)
            obtain ⟨r, hr⟩ : ∃ r, eqWt (A.W.getD j2 wtD) (B.W.getD j2 wtD) = r := ⟨_, rfl⟩
            have hne := neWaitR (A.W.getD j2 wtD).1 (B.W.getD j2 wtD).1 (A.W.getD j2 wtD).2 (B.W.getD j2 wtD).2
            rw [show (((A.W.getD j2 wtD).1 : Int) == ((B.W.getD j2 wtD).1 : Int) && eqW (A.W.getD j2 wtD).2 (B.W.getD j2 wtD).2) = r from hr] at hne
            have HR := Lib.hid hr
            clear hr
            obtain ⟨pa, hpa⟩ : ∃ pa, A.W.getD j2 wtD = pa := ⟨_, rfl⟩
            obtain ⟨pb, hpb⟩ : ∃ pb, B.W.getD j2 wtD = pb := ⟨_, rfl⟩
            rw [hpa, hpb] at hne
            rw [hpa] at x0 x1 x2 x3 x4 x5 x6 x7 x8
            rw [hpb] at y0 y1 y2 y3 y4 y5 y6 y7 y8
            clear hpa hpb
            have hi0 : (0 : Int) ≤ (j2 : Int) := by omega
            have hi1 : (j2 : Int) < (m1 : Int) := by omega
            have hi2 : (j2 : Int) < (m2 : Int) := by have := HM.out; omega
            have hjm : (j2 : Int) ≤ 1024 := by omega
            have HJ2 := Lib.hid (And.intro hj (And.intro hlt (And.intro hq hno)))
            clear hj hE hno hq
            cases r with
            | true =>
              simp only [Bool.not_true] at hne
              go_wp2
              go_quiet (fail)
              go_wp2
              go_roundg (m1 - (j2 + 1))
              case measure => have := HJ2.out.1; omega
              case rel =>
                refine ⟨j2 + 1, by go_num, by have := HJ2.out; omega, by rw [HJ2.out.2.2.1]; exact ⟨_, World.drewN_drewN ..⟩, fun t ht => ?_⟩
                by_cases htj : t = j2
                · subst htj; exact HR.out
                · exact HJ2.out.2.2.2 t (by omega)
            | false =>
              simp only [Bool.not_false] at hne
              go_wp2
              go_quiet (fail)
              go_wp2
              go_ret
              refine ⟨?_, by rw [HJ2.out.2.2.1]; exact (H0.out.1.drewN _).drewN _⟩
              rw [hR.out, eqWs_false (by have := HM.out; have := HJ2.out.2.1; omega) HR.out, Bool.and_false]
              rfl
          · have hd2 : decide (j2 < m1) = false := by simpa using hlt
            have HJ2 := Lib.hid (And.intro hj (And.intro hlt (And.intro hq hno)))
            clear hj hlt hE hno hq
            go_wp2
            go_ret
            refine ⟨?_, by rw [HJ2.out.2.2.1]; exact H0.out.1.drewN _⟩
            rw [hR.out, HJ.out.2.1, HJ.out.2.2, eqWs_true (by have := HM.out; omega) (fun t ht => HJ2.out.2.2.2 t (by have := HM.out; have := HJ2.out; omega))]
            rfl
  · have hmm : ((m1 : Int) != (m2 : Int)) = true := by simp; omega
    have hres : res = false := by rw [hR.out, eqWs_len (by rw [hm1, hm2]; exact hm), Bool.and_false]
    rw [hres]
    clear hm1 hm2 hm hn hres
    go_enter Try.func32, Try.ntmps32
    go_wp2
    go_ret
    exact ⟨rfl, H0.out.1⟩
end Go.Proofs.Ytfojmjkcjdehaaa
