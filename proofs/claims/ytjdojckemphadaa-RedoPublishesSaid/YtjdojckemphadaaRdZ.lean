/- The document's journal: Journal, store, flush, fence, first, apply. -/
import Derived.Test.YtjdojckemphadaaRdU
import Derived.Test.YtjdojckemphadaaTsB
import Derived.Test.YtjdojckemphadaaRnw
import Derived.Test.YtjdojckemphadaaRcM
namespace Go.Proofs.Ytjdojckemphadaa
open Go Go.RowKit Go.Shelf
attribute [local go_sem] Oper.semAt_some

theorem TcOwn.lit {w : World} {base b n : Nat} {L : List Tch} (hn : L.length = n) (hm : n ≤ 1000) (h : w.heap[b]? = some (.cells (rowC (tR L) L.length).toArray 44 (0, 0))) (hb : base ≤ b) : TcOwn w base (.slice (some ⟨b, 0, none⟩) n n) L := by
  subst hn
  have hl : (rowC (tR L) L.length).length = L.length * 3 := rowC_len (fun i hi => (tR_ok L.length L).len i hi)
  refine ⟨hl, .inr ⟨b, L.length, _, rfl, hb, h, Nat.le_refl _, by unfold maxLen; omega, by simpa using hl, ?_⟩⟩
  rw [← hl]
  simp
set_option maxHeartbeats 400000 in
theorem rf_Journal (j : Int) (w : World) : Calls Try.prog 21 #[.int .i64 j] w fun e w' => e = .returned (.bool (jOk j)) ∧ w = w' := by
  unfold jOk
  obtain ⟨A, hA⟩ : ∃ A, decide (0 ≤ j) = A := ⟨_, rfl⟩
  obtain ⟨B, hB⟩ : ∃ B, decide (j ≤ 1021) = B := ⟨_, rfl⟩
  rw [hA, hB]
  cases A <;> cases B
  all_goals
    go_enter Try.func21, Try.ntmps21
    go_wp2
    go_ret
    exact ⟨rfl, rfl⟩
set_option maxHeartbeats 400000 in
theorem rf_store (a x : Int) (w : World) : Calls Try.prog 25 #[.int .i64 a, .int .u64 x] w fun e w' => e = .returned (.agg #[.int .i64 2, .int .i64 a, .int .u64 x]) ∧ Ext [] w w' := by
  go_enter Try.func25, Try.ntmps25
  go_wp2
  refine bodyPost_ret (results_agg Try.results25 _ _ w.heap.size 44 #[.int .i64 2, .int .i64 a, .int .u64 x] (0, 0) _ rfl (World.alloc_heap_new _ _) Try.underlying44 rfl (by kernel_rfl)) rfl ?_
  exact ⟨rfl, (Ext.refl _ _).alloc _⟩
set_option maxHeartbeats 400000 in
theorem rf_flush (a : Int) (w : World) : Calls Try.prog 26 #[.int .i64 a] w fun e w' => e = .returned (.agg #[.int .i64 3, .int .i64 a, .int .u64 0]) ∧ Ext [] w w' := by
  go_enter Try.func26, Try.ntmps26
  go_wp2
  refine bodyPost_ret (results_agg Try.results26 _ _ w.heap.size 44 #[.int .i64 3, .int .i64 a, .int .u64 0] (0, 0) _ rfl (World.alloc_heap_new _ _) Try.underlying44 rfl (by kernel_rfl)) rfl ?_
  exact ⟨rfl, (Ext.refl _ _).alloc _⟩
set_option maxHeartbeats 400000 in
theorem rf_fence (w : World) : Calls Try.prog 27 #[] w fun e w' => e = .returned (.agg #[.int .i64 4, .int .i64 0, .int .u64 0]) ∧ Ext [] w w' := by
  go_enter Try.func27, Try.ntmps27
  go_wp2
  refine bodyPost_ret (results_agg Try.results27 _ _ w.heap.size 44 #[.int .i64 4, .int .i64 0, .int .u64 0] (0, 0) _ rfl (World.alloc_heap_new _ _) Try.underlying44 rfl (by kernel_rfl)) rfl ?_
  exact ⟨rfl, (Ext.refl _ _).alloc _⟩
/-- touches that a document's function answers -/
def ROwn (w : World) (L : List Tch) (e : Ending) (w' : World) : Prop := ∃ v, e = .returned v ∧ TcOwn w' w.heap.size v L ∧ Ext [] w w'
set_option maxRecDepth 100000 in
set_option maxHeartbeats 800000 in
theorem rf_first (j x : Int) (w : World) (hj : 0 ≤ j ∧ j ≤ 1024) : Calls Try.prog 28 #[.int .i64 j, .int .u64 x] w (ROwn w (fstT j x)) := by
  have hw1 : wrap64 (8 * j) = 8 * j := IntWalk.wrap64_in _ (by omega)
  have hX : Ext [] w w := Ext.refl _ _
  clear hj
  go_enter Try.func28, Try.ntmps28
  go_wp2_with fail
  try rw [hw1]
  refine (rf_store _ _ _).mono ?_
  rintro e w1 ⟨rfl, hE⟩
  replace hX := hX.trans hE
  clear hE
  go_wp2_with fail
  refine (rf_flush _ _).mono ?_
  rintro e w2 ⟨rfl, hE⟩
  replace hX := hX.trans hE
  clear hE
  go_wp2_with fail
  refine (rf_fence _).mono ?_
  rintro e w3 ⟨rfl, hE⟩
  replace hX := hX.trans hE
  clear hE
  have HX := Lib.hid hX
  clear hX
  go_wp2
  go_ret
  exact ⟨_, rfl, TcOwn.lit rfl (by decide) (World.alloc_heap_new _ _) HX.out.size, HX.out.alloc _⟩

theorem stoT_kd (n : Nat) (P : Nat → Int × Int) : (stoT n P).filter (fun t => t.kd == 2) = stoT n P := by
  rw [List.filter_eq_self]
  intro t ht
  obtain ⟨i, _, rfl⟩ := List.mem_map.1 ht
  rfl
/-- stores, and the flushes of the first of their lines -/
def apF (n : Nat) (P : Nat → Int × Int) (j : Nat) : List Tch := stoT n P ++ flK ((storedL (stoT n P)).take j)
theorem apF_len {n j : Nat} {P : Nat → Int × Int} (h : j ≤ (storedL (stoT n P)).length) : (apF n P j).length = n + j := by
  unfold apF flK
  rw [List.length_append, List.length_map, List.length_take, stoT_len]
  omega
theorem apF_snoc {n j : Nat} {P : Nat → Int × Int} (h : j < (storedL (stoT n P)).length) : apF n P (j + 1) = apF n P j ++ [⟨3, (storedL (stoT n P)).getD j 0, 0⟩] := by
  unfold apF
  rw [flK_succ h, List.append_assoc]
theorem apF_zero (n : Nat) (P : Nat → Int × Int) : apF n P 0 = stoT n P := by unfold apF flK; simp
theorem apF_all (n : Nat) (P : Nat → Int × Int) : appT n P = apF n P (storedL (stoT n P)).length ++ [⟨4, 0, 0⟩] := by
  unfold apF
  rw [List.take_length, appT_eq]
set_option maxRecDepth 100000 in
set_option maxHeartbeats 4000000 in
theorem rf_apply (ao : Option Addr) (n cap : Nat) (P : Nat → Int × Int) (w : World) (hp : Puts w ao n P) (hn : n ≤ 10000) (hP : ∀ i, i < n → 0 ≤ (P i).1 ∧ (P i).1 < 8192) :
    Calls Try.prog 23 #[.slice ao n cap] w (ROwn w (appT n P)) := by
  obtain ⟨i0, hi, hz0, hz1, hz2⟩ := info_parts infoTch
  have HI := Lib.hid (And.intro hi (And.intro hz0 (And.intro hz1 hz2)))
  have HP := Lib.hid (And.intro hp (And.intro hn (stoT_right hP)))
  have hn18 : (n : Int) ≤ 10000 := by omega
  clear hp hn hP hi hz0 hz1 hz2
  go_enter Try.func23, Try.ntmps23
  go_wp2
  go_loopg [3, 4] n (fun cnt v i wr => ∃ j : Nat, i = .int .i64 j ∧ j + cnt = n ∧ TcOwn wr w.heap.size v (stoT j P) ∧ Ext [] w wr)
  case atStart => exact ⟨0, rfl, by omega, TcOwn.nil _ _, Ext.refl _ _⟩
  case round =>
    obtain ⟨j, rfl, hjk, hO, hE⟩ := hrel
    obtain ⟨vo, vcap, rfl, hT, _, _⟩ := hO.at (N := w.heap.size)
    have hO2 := hO
    unfold TcOwn at hO2
    rw [stoT_len] at hO2 ⊢
    by_cases hlt : j < n
    · obtain ⟨b, off, rfl, HRD⟩ : ∃ b off, ao = some ⟨b, off, none⟩ ∧ Hid (∀ W, Ext [] w W → W.cell? ⟨b, off + j * 2, none⟩ = some (.int .i64 (P j).1) ∧ W.cell? ⟨b, off + j * 2 + 1, none⟩ = some (.int .u64 (P j).2)) := by
        rcases HP.out.1 with h0 | ⟨b, off, h1, h2⟩
        · omega
        · exact ⟨b, off, h1, fun W hW => ⟨hW.cell (h2 j hlt).1 (by simp), hW.cell (h2 j hlt).2 (by simp)⟩⟩
      have hss := stoT_succ j P
      obtain ⟨a, ha⟩ : ∃ a, (P j).1 = a := ⟨_, rfl⟩
      obtain ⟨x, hx⟩ : ∃ x, (P j).2 = x := ⟨_, rfl⟩
      rw [ha] at HRD hss
      rw [hx] at HRD hss
      have hj0 : (0 : Int) ≤ (j : Int) := by omega
      have hj1 : (j : Int) < (n : Int) := by omega
      have hwj : wrap64 ((j : Int) + 1) = (j : Int) + 1 := succ_wrap hlt (by have := HP.out.2.1; omega)
      have HJ := Lib.hid (And.intro hjk (And.intro hlt (And.intro hO2 (And.intro hE hss))))
      clear hjk hlt hO hO2 hT hE hss ha hx hn18
      go_upto_region 5 with fail
      refine wp_region_p4 [] (hds4 [0, 1, 2, 3, 4, 5, 6, 7, 8, 9, 10] (tls4 [11, 12, 13, 14] .done)) (Ext [] w) (by kernel_rfl) (by kernel_rfl) (fun _ d _ _ _ h => by cases d <;> exact h) (HJ.out.2.2.2.1.trans (Ext.refl _ _).drew) ?_
      repeat (first
        | (refine wpPl_hd4 ?_ rfl (by rfl) (fun w hSw => ?_) ?_
           rotate_left
           · (obtain ⟨r0, r1⟩ := HRD.out _ hSw; clear hSw; go_simp; first | exact ⟨rfl, rfl⟩ | exact rfl)
           simp only [Act.put, List.setIfInBounds_toArray, List.set_cons_zero, List.set_cons_succ]))
      refine wpPl_tl4 rfl (by rfl) (fun K hK => ?_)
      go_simp
      go_at_call 25
      refine (rf_store _ _ _).mono ?_
      rintro e W3 ⟨rfl, hE3⟩
      have H3 := Lib.hid (And.intro (HJ.out.2.2.2.1.trans ((Ext.refl _ _).drew.trans hE3)) (show Ext [] wr W3 from (Ext.refl _ _).drew.trans hE3))
      refine hK _ _ (fun _ => H3.out.1) ?_
      clear hK K hE3
      try simp only [Act.put, List.setIfInBounds_toArray, List.set_cons_zero, List.set_cons_succ]
      refine wpPl_tl4 rfl (by rfl) (fun K hK => ?_)
      go_simp
      obtain ⟨W4, hW4⟩ : ∃ W4, W3.alloc (.cells #[.int .i64 2, .int .i64 a, .int .u64 x] 44) = W4 := ⟨_, rfl⟩
      obtain ⟨sb, hsb⟩ : ∃ b, W3.heap.size = b := ⟨_, rfl⟩
      have hE4 : Ext [] W3 W4 := by rw [← hW4]; exact (Ext.refl _ _).alloc _
      have hb4 : W4.heap[sb]? = some (.cells #[.int .i64 2, .int .i64 a, .int .u64 x] 44 (0, 0)) := by rw [← hW4, ← hsb]; exact World.alloc_heap_new _ _
      try rw [hW4]
      try rw [hsb]
      have H4 := Lib.hid (And.intro (H3.out.1.trans hE4) (And.intro (H3.out.2.trans hE4) hb4))
      refine hK _ _ (fun _ => H4.out.1) ?_
      clear hK K hE4 hb4 hW4 hsb
      try simp only [Act.put, List.setIfInBounds_toArray, List.set_cons_zero, List.set_cons_succ]
      refine wpPl_tl4 rfl (by rfl) (fun K hK => ?_)
      refine of_step (by rfl) (step_append_any (ops := #[]) (E := True) (by rfl) (.tmp 13) (.tmp 25) 24 (by rfl) w.heap.size 44 i0 (.agg #[.int .i64 0, .int .i64 0, .int .u64 0]) 3 24 Try.underlying24 HI.out.1 HI.out.2.1 HI.out.2.2.1 HI.out.2.2.2 rfl (by omega) (.slice vo j vcap) j _ (by rfl) (owns_ext HJ.out.2.2.1 H4.out.2.1 (fun _ _ => by simp)) (some ⟨sb, 0, none⟩) 1 1 (tchR ⟨2, a, x⟩) (by rfl) (tch_src ⟨2, a, x⟩ H4.out.2.2) ?_ ?_ ?_ ?_)
      · have := HP.out.2.1; have := HJ.out.2.1; unfold maxLen; omega
      · have := HP.out.2.1; have := HJ.out.2.1; omega
      · exact H4.out.1.size
      intro v5 w5 ho5 hE5 hX5
      have H5 : Hid (TcOwn w5 w.heap.size v5 (stoT (j + 1) P) ∧ Ext [] w w5) := ⟨by rw [HJ.out.2.2.2.2]; exact TcOwn.snoc ⟨2, a, x⟩ (stoT_len j P) ho5, hX5 w H4.out.1 (Nat.le_refl _)⟩
      refine hK _ _ (fun _ => H5.out.2) ?_
      clear hK K ho5 hE5 hX5
      try simp only [Act.put, List.setIfInBounds_toArray, List.set_cons_zero, List.set_cons_succ]
      refine wpPl_tl4 rfl (by rfl) (fun K hK => ?_)
      go_simp
      refine hK _ _ (fun _ => H5.out.2) ?_
      clear hK K
      try simp only [Act.put, List.setIfInBounds_toArray, List.set_cons_zero, List.set_cons_succ]
      refine wpPl_done4 ?_
      go_wp2
      go_roundg (n - (j + 1))
      case measure => have := HJ.out.1; have := HJ.out.2.1; clear hwj; omega
      case rel => exact ⟨j + 1, by first | (rw [hwj]; rfl) | rfl, by have := HJ.out.1; have := HJ.out.2.1; clear hwj; omega, H5.out⟩
    · have hjn : ¬ ((j : Int) < (n : Int)) := by omega
      obtain rfl : j = n := by omega
      obtain ⟨S, hS⟩ : ∃ S, storedL (stoT j P) = S := ⟨_, rfl⟩
      obtain ⟨q, hq⟩ : ∃ q, S.length = q := ⟨_, rfl⟩
      have hSl : q ≤ 1024 := by rw [← hq, ← hS]; exact upto_len _ _
      have HL := Lib.hid (ts_Lines w.heap.size vo vcap (stoT j P) wr hT (by rw [stoT_len]; have := HP.out.2.1; omega) HP.out.2.2)
      rw [stoT_len, ← stoT_kd, storedL_filter, hS] at HL
      have hct : appT j P = apF j P q ++ [⟨4, 0, 0⟩] := by rw [apF_all, hS, hq]
      have HQ := Lib.hid (And.intro hS (And.intro hq (And.intro hSl hct)))
      have HW := Lib.hid (And.intro hO hE)
      clear hlt hjk hO hO2 hT hE hS hq hSl hct hn18
      go_wp2_with fail
      refine HL.out.mono ?_
      rintro e w5 ⟨vs, rfl, hI, hE5⟩
      obtain ⟨bo, bcap, rfl, hI5, hb5⟩ := hI.at
      rw [HQ.out.2.1]
      have H5 := Lib.hid (And.intro (HW.out.2.trans hE5) (And.intro (HW.out.1.ext hE5) (And.intro hI5 (show ∀ p, bo = some p → p.block < w5.heap.size ∧ ∀ g, (Value.slice vo j vcap).ownBlock = some g → g ≠ p.block from fun p hp => ⟨(hb5 p hp).2, fun g hg => by
        have h1 := (hb5 p hp).1
        have h2 := (World.ownsRow.lt (by have := HW.out.1; unfold TcOwn at this; rw [stoT_len] at this; exact this) g hg).2
        omega⟩))))
      clear hI5 hI hE5 hb5 HL
      go_wp2
      go_loopg [3, 6] q (fun cnt v i wr => ∃ k : Nat, i = .int .i64 k ∧ k + cnt = q ∧ TcOwn wr w.heap.size v (apF j P k) ∧ Ext [] w wr ∧ IntsAt wr bo S ∧ (∀ p, bo = some p → p.block < wr.heap.size ∧ ∀ g, v.ownBlock = some g → g ≠ p.block))
      case atStart => exact ⟨0, rfl, by omega, by rw [apF_zero]; have h := H5.out.2.1; rw [stoT_len] at h; exact h, H5.out.1, H5.out.2.2.1, H5.out.2.2.2⟩
      case round =>
        obtain ⟨k, rfl, hjk, hO, hE, hI, hA⟩ := hrel
        have hol : (apF j P k).length = j + k := apF_len (by rw [HQ.out.1, HQ.out.2.1]; omega)
        obtain ⟨vo, vcap, rfl, hT, hle, hge⟩ := hO.at (N := w.heap.size)
        have hO2 := hO
        unfold TcOwn at hO2
        rw [hol] at hO2 hA hle ⊢
        have HO' := Lib.hid (And.intro hO2 (And.intro hE (And.intro hI hA)))
        clear hO hT hge hO2 hI hA
        have hsz := hE.size
        by_cases hlt : k < q
        · obtain ⟨g, off, rfl, c0⟩ := HO'.out.2.2.1 k (by rw [HQ.out.2.1]; exact hlt)
          have hjn : (k : Int) < (q : Int) := by omega
          have hj0 : (0 : Int) ≤ (k : Int) := by omega
          have hwj : wrap64 ((k : Int) + 1) = (k : Int) + 1 := IntWalk.wrap64_in _ (by have := HQ.out.2.2.1; omega)
          obtain ⟨x, hx⟩ : ∃ x, S.getD k 0 = x := ⟨_, rfl⟩
          have hsn := apF_snoc (n := j) (P := P) (j := k) (by rw [HQ.out.1, HQ.out.2.1]; exact hlt)
          rw [hx] at c0
          rw [HQ.out.1, hx] at hsn
          have HJ := Lib.hid (And.intro hjk (And.intro hlt (And.intro hsn (And.intro hsz hol))))
          clear hjk hlt hsn hx hE hol hsz hle
          go_wp2_with fail
          refine (rf_flush _ _).mono ?_
          rintro e w6 ⟨rfl, hE6⟩
          have hb1 := World.alloc_heap_new w6 (.cells #[.int .i64 3, .int .i64 x, .int .u64 0] 44)
          have HB := Lib.hid (And.intro hb1 (And.intro (hE6.trans ((Ext.refl [] w6).alloc (.cells #[.int .i64 3, .int .i64 x, .int .u64 0] 44))) hE6.size))
          clear hb1 hE6
          go_wp2_with (at_builtin; refine wpList_append_any rfl _ _ 24 rfl w.heap.size 44 i0 _ 3 24 Try.underlying24 HI.out.1 HI.out.2.1 HI.out.2.2.1 HI.out.2.2.2 rfl (by omega) (.slice vo (j + k) vcap) (j + k) _ rfl (owns_ext HO'.out.1 HB.out.2.1 (fun _ _ => by simp)) (some ⟨w6.heap.size, 0, none⟩) 1 1 (tchR ⟨3, x, 0⟩) rfl (tch_src ⟨3, x, 0⟩ HB.out.1) ?c1 ?c2 ?c3 ?_)
          case c1 => have h1 := HQ.out.2.2.1; have h2 := HP.out.2.1; have h3 := HJ.out.2.1; unfold maxLen; omega
          case c2 => have h1 := HQ.out.2.2.1; have h2 := HP.out.2.1; have h3 := HJ.out.2.1; omega
          case c3 => have h1 := HJ.out.2.2.2.1; have h2 := HB.out.2.2; simp; omega
          intro v1 wA ho1 hEA hbA
          have HR : Hid (TcOwn wA w.heap.size v1 (apF j P (k + 1)) ∧ Ext [] w wA ∧ IntsAt wA (some ⟨g, off, none⟩) S ∧ (∀ p, some (⟨g, off, none⟩ : Addr) = some p → p.block < wA.heap.size ∧ ∀ g, v1.ownBlock = some g → g ≠ p.block)) := by
            obtain ⟨h1, h2, h3, h4⟩ := HO'.out
            have h5 := h2.trans HB.out.2.1
            have hz := hEA.size
            have hz2 := HB.out.2.2
            simp only [World.size_alloc] at hz
            refine ⟨?_, h5.trans' hEA (fun b hb => .inr (h1.lt b (by simpa using hb)).1), (h3.ext HB.out.2.1 (fun _ _ => by simp)).ext hEA (fun p hp hm => (h4 p hp).2 _ (by simpa using hm) rfl), fun p hp => ⟨by have := (h4 p hp).1; omega, fun b hb => ?_⟩⟩
            · rw [HJ.out.2.2.1]
              exact TcOwn.snoc ⟨3, x, 0⟩ HJ.out.2.2.2.2 ho1
            · rcases hbA b hb with h | h
              · exact (h4 p hp).2 b h
              · have := (h4 p hp).1
                try simp only [World.size_alloc] at h
                omega
          clear ho1 hEA hbA
          go_wp2
          go_roundg (q - (k + 1))
          case measure => have := HJ.out.1; have := HJ.out.2.1; clear hwj; omega
          case rel => exact ⟨k + 1, by first | (rw [hwj]; rfl) | rfl, by have := HJ.out.1; have := HJ.out.2.1; clear hwj; omega, HR.out⟩
        · have hd : decide (k < q) = false := by simpa using hlt
          have hjn : ¬ ((k : Int) < (q : Int)) := by omega
          obtain rfl : k = q := by omega
          have HJ := Lib.hid (And.intro hol hsz)
          clear hol hE hsz hjk hle hlt
          go_wp2_with fail
          refine (rf_fence _).mono ?_
          rintro e w6 ⟨rfl, hE6⟩
          have hb1 := World.alloc_heap_new w6 (.cells #[.int .i64 4, .int .i64 0, .int .u64 0] 44)
          have HB := Lib.hid (And.intro hb1 (And.intro (hE6.trans ((Ext.refl [] w6).alloc (.cells #[.int .i64 4, .int .i64 0, .int .u64 0] 44))) hE6.size))
          clear hb1 hE6
          go_wp2_with (at_builtin; refine wpList_append_any rfl _ _ 24 rfl w.heap.size 44 i0 _ 3 24 Try.underlying24 HI.out.1 HI.out.2.1 HI.out.2.2.1 HI.out.2.2.2 rfl (by omega) (.slice vo (j + k) vcap) (j + k) _ rfl (owns_ext HO'.out.1 HB.out.2.1 (fun _ _ => by simp)) (some ⟨w6.heap.size, 0, none⟩) 1 1 (tchR ⟨4, 0, 0⟩) rfl (tch_src ⟨4, 0, 0⟩ HB.out.1) ?c1 ?c2 ?c3 ?_)
          case c1 => have h1 := HQ.out.2.2.1; have h2 := HP.out.2.1; unfold maxLen; omega
          case c2 => have h1 := HQ.out.2.2.1; have h2 := HP.out.2.1; omega
          case c3 => have h1 := HJ.out.2; have h2 := HB.out.2.2; simp; omega
          intro v1 wA ho1 hEA hbA
          have hT1 : TcOwn wA w.heap.size v1 (appT j P) := by
            rw [HQ.out.2.2.2]
            exact TcOwn.snoc ⟨4, 0, 0⟩ HJ.out.1 ho1
          have HR := Lib.hid (And.intro hT1 ((HO'.out.2.1.trans HB.out.2.1).trans' hEA (fun b hb => .inr (HO'.out.1.lt b (by simpa using hb)).1)))
          clear ho1 hEA hbA hT1
          go_wp2
          go_ret
          exact ⟨_, rfl, HR.out⟩
end Go.Proofs.Ytjdojckemphadaa
