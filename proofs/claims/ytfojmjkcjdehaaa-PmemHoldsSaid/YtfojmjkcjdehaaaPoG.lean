/- The walk of the law PmemHolds. -/
import Derived.Test.YtfojmjkcjdehaaaPoB
import Derived.Test.YtfojmjkcjdehaaaPnW
import Derived.Test.YtfojmjkcjdehaaaOrd
import Derived.Test.YtfojmjkcjdehaaaPoC
import Derived.Test.YtfojmjkcjdehaaaPoD
import Derived.Test.YtfojmjkcjdehaaaPoE
import Derived.Test.YtfojmjkcjdehaaaPoF
namespace Go.Proofs.Ytfojmjkcjdehaaa
open Go Go.RowKit Go.Shelf
attribute [local go_sem] Oper.semAt_some

set_option maxRecDepth 100000 in
set_option maxHeartbeats 8000000 in
theorem pm_holds (ao : Option Addr) (n cap : Nat) (A : Nat → PAct) (mo : Option Addr) (mn mcap : Nat) (Mk : Nat → Bool) (w : World) (hp : PActs w ao n A) (hn : n ≤ maxLen) (hA : ∀ i, i < n → PActOk (A i)) (hM : BoolsAt w mo mn Mk) (hmn : mn ≤ maxLen) :
    Calls Try.prog 7 #[.slice ao n cap, .slice mo mn mcap] w fun e w' => e = .returned (.bool true) ∧ Ext [] w w' := by
  unfold maxLen at hmn
  unfold maxLen at hn
  unfold PActOk maxLen at hA
  have HF := Lib.hid (pm_few ao n cap A 40 w hp hn hA)
  have HW := Lib.hid pm_works
  have HP := Lib.hid (And.intro hp hA)
  have HN5 : Hid (∀ w : World, Calls Try.prog 14 #[.int .i64 5] w fun e w' => e = .returned (.tuple #[.pointer (some ⟨w.heap.size + 2, 0, none⟩), .int .i64 0]) ∧ Ext [] w w' ∧ ∃ lb sb, DevAt w' (w.heap.size + 2) lb sb (dvNew 5) ∧ w.heap.size ≤ lb ∧ w.heap.size ≤ sb) := fun w => pm_New 5 w (by omega) (by omega)
  have HMK := Lib.hid (And.intro hM hmn)
  have fin : Hid (∀ (Ds : List Nat) (W : World), (∀ D ∈ Ds, W.heap[D]? = some (.deferred (some [])) ∧ w.heap.size ≤ D) → Ds.Nodup → Ext [] w W → ∀ tmps : Array Value, tmps.getD 4 undef = .bool true →
      LeavesInM Fence.wide 0 Try.prog Try.f7 tmps (fun e w' => e = .returned (.bool true) ∧ Ext [] w w') (Ds.map fun D => { target := .collected D, args := #[] }) .returning W) := by
    intro Ds W hD hnd hE tmps ht
    exact leaves_marks (v := .bool true) Ds W (fun D hd => (hD D hd).1) hnd (fun w' hE' => ⟨results_tmp Try.results7 _ _ _ ht, rfl, hE.trans' hE' (fun j hj => .inr (hD j hj).2)⟩)
  clear hp hA hM
  cases hf : fewP n A 40 with
  | false =>
    rw [hf] at HF
    clear hf
    refine (callsIn_wide (n := 0)).1 (callsIn_of_wp_marks Try.func7 rfl trivial ?_ rfl)
    simp only [Try.ntmps7, List.size_toArray, List.length_cons, List.length_nil, Nat.reduceAdd, Nat.reduceSub, Array.replicate_succ, Array.replicate_zero, List.push_toArray, List.append_toArray, List.nil_append, List.cons_append]
    refine wpIn_wide.2 (wp_mono (Q := NoPanic (bodyPostM Fence.wide 0 Try.prog Try.f7 fun e w' => e = .returned (.bool true) ∧ Ext [] w w')) ?_ NoPanic.out)
    go_wp2_with fail
    refine HF.out.mono ?_
    rintro e w' ⟨rfl, rfl⟩
    go_wp2_with fail
    refine (HW.out _).mono ?_
    rintro e w2 ⟨rfl, hE2⟩
    have H2 := Lib.hid hE2
    clear hE2
    go_wp2
    show LeavesInM _ _ _ _ _ _ _ _ _
    refine fin.out [] w2 (fun D hD => by cases hD) (by simp) H2.out _ ?_
    rfl
  | true =>
    have HFW := Lib.hid (fewP_true hf)
    rw [hf] at HF
    clear hf
    by_cases hbig : 60 < mn
    · have hd : decide (60 < mn) = true := by simpa using hbig
      have hd2 : decide ((60 : Int) < (mn : Int)) = true := by simp; omega
      refine (callsIn_wide (n := 0)).1 (callsIn_of_wp_marks Try.func7 rfl trivial ?_ rfl)
      simp only [Try.ntmps7, List.size_toArray, List.length_cons, List.length_nil, Nat.reduceAdd, Nat.reduceSub, Array.replicate_succ, Array.replicate_zero, List.push_toArray, List.append_toArray, List.nil_append, List.cons_append]
      refine wpIn_wide.2 (wp_mono (Q := NoPanic (bodyPostM Fence.wide 0 Try.prog Try.f7 fun e w' => e = .returned (.bool true) ∧ Ext [] w w')) ?_ NoPanic.out)
      go_wp2_with fail
      refine HF.out.mono ?_
      rintro e w' ⟨rfl, rfl⟩
      go_wp2_with fail
      refine (HW.out _).mono ?_
      rintro e w2 ⟨rfl, hE2⟩
      have H2 := Lib.hid hE2
      clear hE2
      go_wp2
      show LeavesInM _ _ _ _ _ _ _ _ _
      refine fin.out [] w2 (fun D hD => by cases hD) (by simp) H2.out _ ?_
      rfl
    have hd : decide (60 < mn) = false := by simpa using hbig
    have hd2 : decide ((60 : Int) < (mn : Int)) = false := by simp; omega
    clear hbig
    refine (callsIn_wide (n := 0)).1 (callsIn_of_wp_marks Try.func7 rfl trivial ?_ rfl)
    simp only [Try.ntmps7, List.size_toArray, List.length_cons, List.length_nil, Nat.reduceAdd, Nat.reduceSub, Array.replicate_succ, Array.replicate_zero, List.push_toArray, List.append_toArray, List.nil_append, List.cons_append]
    refine wpIn_wide.2 (wp_mono (Q := NoPanic (bodyPostM Fence.wide 0 Try.prog Try.f7 fun e w' => e = .returned (.bool true) ∧ Ext [] w w')) ?_ NoPanic.out)
    go_wp2_with fail
    refine HF.out.mono ?_
    rintro e w' ⟨rfl, rfl⟩
    go_wp2_with fail
    refine (HN5.out _).mono ?_
    rintro e w1 ⟨rfl, hE1, lb, sb, hD1, hl1, hs1⟩
    obtain ⟨d, hd0⟩ : ∃ d0, w.heap.size + 2 = d0 := ⟨_, rfl⟩
    rw [hd0] at hD1 ⊢
    have H1 := Lib.hid (And.intro hE1 (And.intro hD1 (And.intro (show w.heap.size ≤ d by omega) (And.intro hl1 hs1))))
    clear hE1 hD1 hl1 hs1 hd0 HN5 HF hd hd2
    go_wp2_with fail
    refine (pm_num _ _).mono ?_
    rintro e w' ⟨rfl, rfl⟩
    go_wp2_with fail
    obtain ⟨w2, hw2⟩ : ∃ w2, w1.alloc (.cells #[.slice none 0 0, .slice none 0 0, .slice none 0 0, .slice none 0 0, .slice none 0 0] 72) = w2 := ⟨_, rfl⟩
    obtain ⟨b7, hb7⟩ : ∃ b7, w1.heap.size = b7 := ⟨_, rfl⟩
    have H2 : Hid (MayR w w2 b7 0 (fun _ => [fun _ => 0]) (fun _ => .slice none 0 0) (fun _ => 0) (fun _ => 0) (fun _ => 0) ∧ Ext [] w1 w2 ∧ w.heap.size ≤ b7 ∧ w1.heap.size ≤ b7) := by
      refine ⟨⟨?_, fun k hk => by omega, fun k hk => by omega, fun k hk => by omega, fun k hk => by omega⟩, ?_, ?_, by omega⟩
      · rw [← hw2, ← hb7]
        exact World.alloc_heap_new _ _
      · rw [← hw2]
        exact (Ext.refl _ _).alloc _
      · rw [← hb7]
        exact H1.out.1.size
    try rw [hw2]
    try rw [hb7]
    clear hw2 hb7
    go_loopg [8] 5 (fun cnt i wr => ∃ (k : Nat) (V : Nat → Value) (B O C : Nat → Nat), i = .int .i64 k ∧ k + cnt = 5 ∧ MayR w wr b7 k (fun _ => [fun _ => 0]) V B O C ∧ Ext [] w1 wr ∧ DevAt wr d lb sb (dvNew 5))
    case atStart => exact ⟨0, _, _, _, _, rfl, by omega, H2.out.1, H2.out.2.1, H1.out.2.1.ext0 H2.out.2.1⟩
    case round =>
      obtain ⟨k, V, B, O, C, rfl, hk, hr, hE, hD⟩ := hrel
      by_cases hk5 : k < 5
      · have hi0 : (0 : Int) ≤ (k : Int) := by omega
        have hi1 : (k : Int) < 5 := by omega
        have hlt7 := lt_of_block hr.blk
        have c7 : wr.cell? ⟨b7, k, none⟩ = some (V k) := cell_of hr.blk (v5_at V hk5)
        have f7 : wr.frozen? ⟨b7, k, none⟩ = false := free_of hr.blk k
        have hwk : wrap64 ((k : Int) + 1) = (k : Int) + 1 := IntWalk.wrap64_in _ (by omega)
        obtain ⟨W0, hW0⟩ : ∃ W0, wr.alloc (.cells #[.int .u64 0, .int .u64 0, .int .u64 0, .int .u64 0, .int .u64 0, .int .u64 0, .int .u64 0, .int .u64 0] 68) = W0 := ⟨_, rfl⟩
        have c70 : W0.cell? ⟨b7, k, none⟩ = some (V k) := by rw [← hW0]; exact cell_al c7
        have f70 : W0.frozen? ⟨b7, k, none⟩ = false := by rw [← hW0]; exact free_of (block_al hr.blk) k
        have hE0 : Ext [] wr W0 := by rw [← hW0]; exact (Ext.refl _ _).alloc _
        have hb0 : W0.heap[wr.heap.size]? = some (.cells #[.int .u64 0, .int .u64 0, .int .u64 0, .int .u64 0, .int .u64 0, .int .u64 0, .int .u64 0, .int .u64 0] 68 (0, 0)) := by rw [← hW0]; exact World.alloc_heap_new _ _
        have HK := Lib.hid (And.intro hk (And.intro hk5 (And.intro hr (And.intro hE (And.intro hD (And.intro hE0 hb0))))))
        clear hk hk5 hr hE hD hE0 hb0
        go_wp2
        try rw [hW0]
        go_roundg (5 - (k + 1))
        case measure => have := HK.out.1; have := HK.out.2.1; omega
        case rel =>
          obtain ⟨hk, hk5, hr, hE, hD, hE0, hb0⟩ := HK.out
          have hrow : RowO W0 wr.heap.size 68 0 ([fun _ => 0] : List Wd).length 1 8 (flat [fun _ => 0]) :=
            ⟨⟨_, hb0, by simp⟩, Nat.le_refl _, by unfold maxLen; simp, rfl, fun j u hu => by
              rw [Nat.zero_add]
              exact cell_of hb0 (by simpa [flat, w8] using hu)⟩
          have hEb : Ext [wr.heap.size] wr W0 := hE0.sub (fun q hq => by cases hq)
          obtain ⟨V', B', O', C', hr'⟩ := hr.set (K' := k + 1) hk5 (.inr ⟨rfl, rfl⟩) (H1.out.1.trans hE).size hEb (fun q hq => .inr (by simp at hq; omega)) (.inr (Nat.le_refl _)) hrow
          have hM : updM (fun _ => [fun _ => 0]) k [fun _ => 0] = fun _ => ([fun _ => 0] : List Wd) := by
            funext j
            unfold updM
            split <;> rfl
          rw [hM] at hr'
          have hb7T : b7 ∉ [d, lb, sb] := hD.noT (e := 72) (by decide) (by decide) (m := [d, lb, sb]) (fun j hj => by simpa using hj) _ _ hr.blk
          have hE7 : Ext [b7] W0 (W0.setCell ⟨b7, k, none⟩ (.slice (some ⟨wr.heap.size, 0, none⟩) 1 1)) := (Ext.refl [b7] W0).setCell (.inl (by simp)) _
          have hb7L := lt_of_block hr.blk
          have hb7w := H2.out.2.2.2
          simp at hb7T
          refine ⟨k + 1, V', B', O', C', by first | (rw [hwk]; rfl) | rfl, by omega, hr', (hE.trans hE0).trans' hE7 (fun q hq => .inr (by simp at hq; omega)), (hD.ext0 hE0).ext hE7 (by simp; omega) (by simp; omega) (by simp; omega) (fun g cur hg hm => ?_)⟩
          simp at hm
          subst hm
          rw [hE0.at hr.blk (by simp)] at hg
          simp at hg
      · obtain rfl : k = 5 := by omega
        have H5 : Hid (HoSt w wr d lb sb b7 0 (dvNew 5) (fun _ => [fun _ => 0])) :=
          ⟨hD, dvNew_ok (by omega) (by omega), may_new, ⟨V, B, O, C, hr⟩, H1.out.1.trans hE, H1.out.2.2.1, H1.out.2.2.2.1, H1.out.2.2.2.2, H2.out.2.2.1, fun k _ => by simp⟩
        have hn40 : n ≤ 40 := by have := HFW.out.2; omega
        clear hk hk5 hr hE hD H1 H2
        go_wp2
        refine wp_loop_ghost_k (HoI ao n cap mo mn mcap w d lb sb b7) n ?_ ?_
        · unfold HoI
          (repeat apply Exists.intro)
          refine ⟨⟨0, dvNew 5, _, [], rfl, by omega, rfl, H5.out, ⟨fun D hD => (by cases hD), List.nodup_nil⟩⟩, rfl⟩
        intro gk _ wr hinv
        unfold HoI at hinv
        obtain ⟨defs, hinv⟩ := hinv
        obtain ⟨u2, hinv⟩ := hinv
        obtain ⟨u3, hinv⟩ := hinv
        obtain ⟨u6, hinv⟩ := hinv
        obtain ⟨u8, hinv⟩ := hinv
        obtain ⟨u9, hinv⟩ := hinv
        obtain ⟨u10, hinv⟩ := hinv
        obtain ⟨u11, hinv⟩ := hinv
        obtain ⟨u12, hinv⟩ := hinv
        obtain ⟨u13, hinv⟩ := hinv
        obtain ⟨u14, hinv⟩ := hinv
        obtain ⟨u15, hinv⟩ := hinv
        obtain ⟨u16, hinv⟩ := hinv
        obtain ⟨u17, hinv⟩ := hinv
        obtain ⟨u18, hinv⟩ := hinv
        obtain ⟨u19, hinv⟩ := hinv
        obtain ⟨u20, hinv⟩ := hinv
        obtain ⟨u21, hinv⟩ := hinv
        obtain ⟨u22, hinv⟩ := hinv
        obtain ⟨u23, hinv⟩ := hinv
        obtain ⟨u24, hinv⟩ := hinv
        obtain ⟨u25, hinv⟩ := hinv
        obtain ⟨u26, hinv⟩ := hinv
        obtain ⟨u27, hinv⟩ := hinv
        obtain ⟨u28, hinv⟩ := hinv
        obtain ⟨u29, hinv⟩ := hinv
        obtain ⟨u30, hinv⟩ := hinv
        obtain ⟨u31, hinv⟩ := hinv
        obtain ⟨u32, hinv⟩ := hinv
        obtain ⟨u33, hinv⟩ := hinv
        obtain ⟨u34, hinv⟩ := hinv
        obtain ⟨u35, hinv⟩ := hinv
        obtain ⟨u36, hinv⟩ := hinv
        obtain ⟨u37, hinv⟩ := hinv
        obtain ⟨u38, hinv⟩ := hinv
        obtain ⟨u39, hinv⟩ := hinv
        obtain ⟨u40, hinv⟩ := hinv
        obtain ⟨u41, hinv⟩ := hinv
        obtain ⟨u42, hinv⟩ := hinv
        obtain ⟨u43, hinv⟩ := hinv
        obtain ⟨u44, hinv⟩ := hinv
        obtain ⟨u45, hinv⟩ := hinv
        obtain ⟨u46, hinv⟩ := hinv
        obtain ⟨u47, hinv⟩ := hinv
        obtain ⟨u48, hinv⟩ := hinv
        obtain ⟨u49, hinv⟩ := hinv
        obtain ⟨u50, hinv⟩ := hinv
        obtain ⟨u51, hinv⟩ := hinv
        obtain ⟨u52, hinv⟩ := hinv
        obtain ⟨u53, hinv⟩ := hinv
        obtain ⟨u54, hinv⟩ := hinv
        obtain ⟨u55, hinv⟩ := hinv
        obtain ⟨u56, hinv⟩ := hinv
        obtain ⟨u57, hinv⟩ := hinv
        obtain ⟨u58, hinv⟩ := hinv
        obtain ⟨u59, hinv⟩ := hinv
        obtain ⟨u60, hinv⟩ := hinv
        obtain ⟨u61, hinv⟩ := hinv
        obtain ⟨u62, hinv⟩ := hinv
        obtain ⟨u63, hinv⟩ := hinv
        obtain ⟨u64, hinv⟩ := hinv
        obtain ⟨u65, hinv⟩ := hinv
        obtain ⟨u66, hinv⟩ := hinv
        obtain ⟨u67, hinv⟩ := hinv
        obtain ⟨u68, hinv⟩ := hinv
        obtain ⟨u69, hinv⟩ := hinv
        obtain ⟨u70, hinv⟩ := hinv
        obtain ⟨u71, hinv⟩ := hinv
        obtain ⟨u72, hinv⟩ := hinv
        obtain ⟨u73, hinv⟩ := hinv
        obtain ⟨u74, hinv⟩ := hinv
        obtain ⟨u75, hinv⟩ := hinv
        obtain ⟨u76, hinv⟩ := hinv
        obtain ⟨u77, hinv⟩ := hinv
        obtain ⟨u78, hinv⟩ := hinv
        obtain ⟨u79, hinv⟩ := hinv
        obtain ⟨u80, hinv⟩ := hinv
        obtain ⟨u81, hinv⟩ := hinv
        obtain ⟨u82, hinv⟩ := hinv
        obtain ⟨u83, hinv⟩ := hinv
        obtain ⟨u84, hinv⟩ := hinv
        obtain ⟨u85, hinv⟩ := hinv
        obtain ⟨u86, hinv⟩ := hinv
        obtain ⟨u87, hinv⟩ := hinv
        obtain ⟨u88, hinv⟩ := hinv
        obtain ⟨u89, hinv⟩ := hinv
        obtain ⟨u90, hinv⟩ := hinv
        obtain ⟨u91, hinv⟩ := hinv
        obtain ⟨u92, hinv⟩ := hinv
        obtain ⟨u93, hinv⟩ := hinv
        obtain ⟨u94, hinv⟩ := hinv
        obtain ⟨u95, hinv⟩ := hinv
        obtain ⟨u96, hinv⟩ := hinv
        obtain ⟨u97, hinv⟩ := hinv
        obtain ⟨u98, hinv⟩ := hinv
        obtain ⟨u99, hinv⟩ := hinv
        obtain ⟨u100, hinv⟩ := hinv
        obtain ⟨u101, hinv⟩ := hinv
        obtain ⟨u102, hinv⟩ := hinv
        obtain ⟨u103, hinv⟩ := hinv
        obtain ⟨u104, hinv⟩ := hinv
        obtain ⟨u105, hinv⟩ := hinv
        obtain ⟨u106, hinv⟩ := hinv
        obtain ⟨u107, hinv⟩ := hinv
        obtain ⟨u108, hinv⟩ := hinv
        obtain ⟨u109, hinv⟩ := hinv
        obtain ⟨u110, hinv⟩ := hinv
        obtain ⟨u111, hinv⟩ := hinv
        obtain ⟨u112, hinv⟩ := hinv
        obtain ⟨u113, hinv⟩ := hinv
        obtain ⟨u114, hinv⟩ := hinv
        obtain ⟨u115, hinv⟩ := hinv
        obtain ⟨u116, hinv⟩ := hinv
        obtain ⟨u117, hinv⟩ := hinv
        obtain ⟨u118, hinv⟩ := hinv
        obtain ⟨u119, hinv⟩ := hinv
        obtain ⟨u120, hinv⟩ := hinv
        obtain ⟨u121, hinv⟩ := hinv
        obtain ⟨u122, hinv⟩ := hinv
        obtain ⟨u123, hinv⟩ := hinv
        obtain ⟨u124, hinv⟩ := hinv
        obtain ⟨u125, hinv⟩ := hinv
        obtain ⟨u126, hinv⟩ := hinv
        obtain ⟨u127, hinv⟩ := hinv
        obtain ⟨u128, hinv⟩ := hinv
        obtain ⟨u129, hinv⟩ := hinv
        obtain ⟨u130, hinv⟩ := hinv
        obtain ⟨u131, hinv⟩ := hinv
        obtain ⟨u132, hinv⟩ := hinv
        obtain ⟨u133, hinv⟩ := hinv
        obtain ⟨u134, hinv⟩ := hinv
        obtain ⟨u135, hinv⟩ := hinv
        obtain ⟨u136, hinv⟩ := hinv
        obtain ⟨u137, hinv⟩ := hinv
        obtain ⟨u138, hinv⟩ := hinv
        obtain ⟨u139, hinv⟩ := hinv
        obtain ⟨u140, hinv⟩ := hinv
        obtain ⟨u141, hinv⟩ := hinv
        obtain ⟨u142, hinv⟩ := hinv
        obtain ⟨u143, hinv⟩ := hinv
        obtain ⟨u144, hinv⟩ := hinv
        obtain ⟨u145, hinv⟩ := hinv
        obtain ⟨u146, hinv⟩ := hinv
        obtain ⟨u147, hinv⟩ := hinv
        obtain ⟨u148, hinv⟩ := hinv
        obtain ⟨u149, hinv⟩ := hinv
        obtain ⟨u150, hinv⟩ := hinv
        obtain ⟨u151, hinv⟩ := hinv
        obtain ⟨u152, hinv⟩ := hinv
        obtain ⟨u153, hinv⟩ := hinv
        obtain ⟨u154, hinv⟩ := hinv
        obtain ⟨u155, hinv⟩ := hinv
        obtain ⟨u156, hinv⟩ := hinv
        obtain ⟨u157, hinv⟩ := hinv
        obtain ⟨u158, hinv⟩ := hinv
        obtain ⟨u159, hinv⟩ := hinv
        obtain ⟨u160, hinv⟩ := hinv
        obtain ⟨u161, hinv⟩ := hinv
        obtain ⟨u162, hinv⟩ := hinv
        obtain ⟨u163, hinv⟩ := hinv
        obtain ⟨u164, hinv⟩ := hinv
        obtain ⟨u165, hinv⟩ := hinv
        obtain ⟨u166, hinv⟩ := hinv
        obtain ⟨u167, hinv⟩ := hinv
        obtain ⟨u168, hinv⟩ := hinv
        obtain ⟨u169, hinv⟩ := hinv
        obtain ⟨u170, hinv⟩ := hinv
        obtain ⟨u171, hinv⟩ := hinv
        obtain ⟨u172, hinv⟩ := hinv
        obtain ⟨u173, hinv⟩ := hinv
        obtain ⟨u174, hinv⟩ := hinv
        obtain ⟨u175, hinv⟩ := hinv
        obtain ⟨u176, hinv⟩ := hinv
        obtain ⟨u177, hinv⟩ := hinv
        obtain ⟨u178, hinv⟩ := hinv
        obtain ⟨u179, hinv⟩ := hinv
        obtain ⟨u180, hinv⟩ := hinv
        obtain ⟨u181, hinv⟩ := hinv
        obtain ⟨u182, hinv⟩ := hinv
        obtain ⟨u183, hinv⟩ := hinv
        obtain ⟨u184, hinv⟩ := hinv
        obtain ⟨u185, hinv⟩ := hinv
        obtain ⟨u186, hinv⟩ := hinv
        obtain ⟨u187, hinv⟩ := hinv
        obtain ⟨u188, hinv⟩ := hinv
        obtain ⟨u189, hinv⟩ := hinv
        obtain ⟨u190, hinv⟩ := hinv
        obtain ⟨u191, hinv⟩ := hinv
        obtain ⟨u192, hinv⟩ := hinv
        obtain ⟨u193, hinv⟩ := hinv
        obtain ⟨u194, hinv⟩ := hinv
        obtain ⟨u195, hinv⟩ := hinv
        obtain ⟨u196, hinv⟩ := hinv
        obtain ⟨u197, hinv⟩ := hinv
        obtain ⟨u198, hinv⟩ := hinv
        obtain ⟨u199, hinv⟩ := hinv
        obtain ⟨u200, hinv⟩ := hinv
        obtain ⟨u201, hinv⟩ := hinv
        obtain ⟨u202, hinv⟩ := hinv
        obtain ⟨u203, hinv⟩ := hinv
        obtain ⟨u204, hinv⟩ := hinv
        obtain ⟨u205, hinv⟩ := hinv
        obtain ⟨u206, hinv⟩ := hinv
        obtain ⟨u207, hinv⟩ := hinv
        obtain ⟨u208, hinv⟩ := hinv
        obtain ⟨u209, hinv⟩ := hinv
        obtain ⟨u210, hinv⟩ := hinv
        obtain ⟨u211, hinv⟩ := hinv
        obtain ⟨u212, hinv⟩ := hinv
        obtain ⟨u213, hinv⟩ := hinv
        obtain ⟨u214, hinv⟩ := hinv
        obtain ⟨u215, hinv⟩ := hinv
        obtain ⟨u216, hinv⟩ := hinv
        obtain ⟨u217, hinv⟩ := hinv
        obtain ⟨hrel, ha⟩ := hinv
        subst ha
        try dsimp only
        intro J0 K0 hJ0 hK0
        obtain ⟨j, D, M, Ds, rfl, hj, rfl, hst, hmk⟩ := hrel
        by_cases hlt : j < n
        · by_cases h1 : (A j).what = 1
          · exact ho_arm1 ao n cap mo mn mcap w d lb sb b7 A gk j D M Ds wr HP hst hmk hj hlt hn40 h1 J0 K0 hJ0 hK0 _ (fun _ _ _ h => h)
          by_cases h2 : (A j).what = 2
          · exact ho_arm2 ao n cap mo mn mcap w d lb sb b7 A gk j D M Ds wr HP hst hmk hj hlt hn40 h2 J0 K0 hJ0 hK0 _ (fun _ _ _ h => h)
          by_cases h3 : (A j).what = 3
          · exact ho_arm3 ao n cap mo mn mcap w d lb sb b7 A gk j D M Ds wr HP hst hmk hj hlt hn40 h3 J0 K0 hJ0 hK0 _ (fun _ _ _ h => h)
          by_cases h4 : (A j).what = 4
          · exact ho_arm4 ao n cap mo mn mcap w d lb sb b7 A gk j D M Ds wr HP hst hmk hj hlt hn40 h4 J0 K0 hJ0 hK0 _ (fun _ _ _ h => h)
          by_cases h5 : (A j).what = 5
          · exact ho_arm5 ao n cap mo mn mcap w d lb sb b7 A gk j D M Ds wr HP hst hmk hj hlt hn40 h5 J0 K0 hJ0 hK0 _ (fun _ _ _ h => h)
          exact ho_else ao n cap mo mn mcap w d lb sb b7 A gk j D M Ds wr HP hst hmk hj hlt hn40 h1 h2 h3 h4 h5 J0 K0 hJ0 hK0 _ (fun _ _ _ h => h)
        · have HST := Lib.hid (And.intro hst hmk)
          clear hst hmk
          have hd : decide (j < n) = false := by simpa using hlt
          have hnl : ¬ ((j : Int) < (n : Int)) := by omega
          have HCR := Lib.hid (pm_Crash_in d lb sb mo mn mcap Mk D wr HST.out.1.dev HST.out.1.ok (fun W hE => HMK.out.1.ext (HST.out.1.ext.trans' hE (fun q hq => .inr (by have := HST.out.1.hd; have := HST.out.1.hs; simp at hq; omega)))) (by have := HMK.out.2; omega))
          have HD1 : Hid (∃ D1, D.crash (markS mn Mk) = D1 ∧ DvOk D1 ∧ D1.n = 5 ∧ (∀ k, k < 5 → ∃ H ∈ M k, ∀ i, i < 8 → H i = lineOf D1.L k i) ∧ (∀ sel, (D1.crash sel).eqB D1 = true) ∧ mediaV D1 = .agg #[.int .i64 5, .int .i64 0, .int .i64 0]) := by
            have h5 : (D.crash (markS mn Mk)).n = 5 := HST.out.1.may.n5
            refine ⟨_, rfl, Dv.crash_ok HST.out.1.ok _, h5, fun k hk => HST.out.1.may.crash _ hk, fun sel => crash_same rfl (fun _ _ => rfl) sel, ?_⟩
            unfold mediaV
            rw [show dirtyN (D.crash (markS mn Mk)).L (D.crash (markS mn Mk)).S (D.crash (markS mn Mk)).n = 0 from dirty_zero _ (fun _ _ => rfl), h5]
            rfl
          obtain ⟨D1, hD1, HOK⟩ := HD1.out
          have HK1 := Lib.hid HOK
          have hrows := HST.out.1.rows
          have hm7 := HST.out.1.h7
          rw [hD1] at HCR
          clear hj hlt hn hmn HD1 hD1 HOK HFW HP HMK
          go_wp2_with fail
          refine HCR.out.mono ?_
          rintro e w1' ⟨rfl, lb', hD1, hE1, hl1⟩
          obtain ⟨V, B, O, C, hr⟩ := hrows
          have hE1' : Ext [d, lb, sb] wr w1' := hE1.sub (fun q hq => by simp at hq ⊢; omega)
          have HZ := Lib.hid (And.intro hD1 (And.intro (HST.out.1.rowsD hr hE1') (And.intro (HST.out.1.extD hE1') (And.intro (HST.out.2.extD HST.out.1.dev hE1') (And.intro HST.out.1.hd (And.intro (Nat.le_trans HST.out.1.ext.size hl1) HST.out.1.hs))))))
          clear hD1 hE1 hE1' hl1 hr HCR hm7 HST
          go_wp2_with fail
          refine (pm_num _ _).mono ?_
          rintro e w' ⟨rfl, rfl⟩
          go_wp2
          go_loopg [14] 5 (fun cnt i wr2 => ∃ k : Nat, i = .int .i64 k ∧ k + cnt = 5 ∧ Ext [] w1' wr2)
          case atStart => exact ⟨0, rfl, rfl, Ext.refl _ _⟩
          case round =>
            obtain ⟨k, rfl, hk, hE⟩ := hrel
            have HE := Lib.hid hE
            clear hE
            by_cases hk5 : k < 5
            · have hi0 : (0 : Int) ≤ (k : Int) := by omega
              have hi1 : (k : Int) < 5 := by omega
              have HSL := Lib.hid (pm_seenline d lb' sb D1 k wr (HZ.out.1.ext0 HE.out) HK1.out.1 (by have := HK1.out.2.1; omega))
              have HF := Lib.hid (fnd_all (HK1.out.2.2.1 k hk5))
              have HJ := Lib.hid (And.intro hk hk5)
              clear hk
              generalize lineOf D1.L k = G at *
              unfold w8 at HSL
              go_wp2_with fail
              refine HSL.out.mono ?_
              rintro e w2 ⟨rfl, hE2⟩
              have H2 := Lib.hid (HE.out.trans hE2)
              clear hE2 HSL
              go_upto_region 45 with fail
              obtain ⟨w3, hw3⟩ : ∃ w3, w2.alloc (.cells #[.int .u64 (G 0), .int .u64 (G 1), .int .u64 (G 2), .int .u64 (G 3), .int .u64 (G 4), .int .u64 (G 5), .int .u64 (G 6), .int .u64 (G 7)] 68) = w3 := ⟨_, rfl⟩
              obtain ⟨nb, hnb⟩ : ∃ nb, w2.heap.size = nb := ⟨_, rfl⟩
              have H3 : Hid (Ext [] w1' w3 ∧ w3.heap[nb]? = some (.cells #[.int .u64 (G 0), .int .u64 (G 1), .int .u64 (G 2), .int .u64 (G 3), .int .u64 (G 4), .int .u64 (G 5), .int .u64 (G 6), .int .u64 (G 7)] 68 (0, 0))) := by
                refine ⟨?_, ?_⟩
                · rw [← hw3]; exact H2.out.alloc _
                · rw [← hw3, ← hnb]; exact World.alloc_heap_new _ _
              try rw [hw3]
              try rw [hnb]
              clear hw3 hnb
              have hmx : (M k).length ≤ 9223372036854775807 := by
                have := (HZ.out.2.1.row k hk5).le
                have := (HZ.out.2.1.row k hk5).max
                unfold maxLen at this
                omega
              have HMX := Lib.hid (And.intro hmx hk5)
              clear hmx hk5
              go_wp2
              go_loopg [16, 17] (M k).length (fun cnt f i wr3 => ∃ q : Nat, f = .bool (fnd (M k) G q) ∧ i = .int .i64 q ∧ q + cnt = (M k).length ∧ Ext [] w3 wr3)
              case atStart => exact ⟨0, rfl, rfl, by omega, Ext.refl _ _⟩
              case round =>
                obtain ⟨q, rfl, rfl, hq, hE⟩ := hrel
                have hr3 := HZ.out.2.1.ext0 (H3.out.1.trans hE)
                have hc := cell_of hr3.blk (v5_at V HMX.out.2)
                rw [hr3.val k HMX.out.2] at hc
                have hmx := HMX.out.1
                by_cases hql : q < (M k).length
                · obtain ⟨G2, hG2⟩ : ∃ G2, (M k).getD q (fun _ => 0) = G2 := ⟨_, rfl⟩
                  obtain ⟨x0, x1, x2, x3, x4, x5, x6, x7⟩ := (hr3.row k HMX.out.2).eight hql hG2
                  have hb3 := hE.at H3.out.2 (by simp)
                  obtain ⟨y0, y1, y2, y3, y4, y5, y6, y7⟩ := eightA (G := G) hb3
                  have hfs := fnd_succ (G := G) hql
                  rw [hG2] at hfs
                  have heq := eqArr8 G2 G
                  have hq0 : (0 : Int) ≤ (q : Int) := by omega
                  have hq1 : (q : Int) < ((M k).length : Int) := by omega
                  have hwq : wrap64 ((q : Int) + 1) = (q : Int) + 1 := IntWalk.wrap64_in _ (by omega)
                  have HQ := Lib.hid (And.intro hq (And.intro hql (And.intro hE hfs)))
                  clear hq hql hE hfs hr3 hG2 hb3 hmx
                  cases hff : fnd (M k) G q with
                  | true =>
                    have HFF := Lib.hid hff
                    clear hff heq x0 x1 x2 x3 x4 x5 x6 x7 y0 y1 y2 y3 y4 y5 y6 y7
                    go_wp2
                    go_quiet (fail)
                    go_wp2
                    go_roundg ((M k).length - (q + 1))
                    case measure => have := HQ.out.1; have := HQ.out.2.1; omega
                    case rel => exact ⟨q + 1, by rw [HQ.out.2.2.2, HFF.out]; rfl, by first | (rw [hwq]; rfl) | rfl, by have := HQ.out.1; have := HQ.out.2.1; omega, HQ.out.2.2.1.trans ((Ext.refl _ _).drewN _)⟩
                  | false =>
                    have HFF := Lib.hid hff
                    clear hff
                    go_wp2
                    go_quiet (fail)
                    go_wp2
                    go_roundg ((M k).length - (q + 1))
                    case measure => have := HQ.out.1; have := HQ.out.2.1; omega
                    case rel => exact ⟨q + 1, by rw [HQ.out.2.2.2, HFF.out]; rfl, by first | (rw [hwq]; rfl) | rfl, by have := HQ.out.1; have := HQ.out.2.1; omega, HQ.out.2.2.1.trans ((Ext.refl _ _).drewN _)⟩
                · obtain rfl : q = (M k).length := by omega
                  have hff := HF.out
                  have hwk : wrap64 ((k : Int) + 1) = (k : Int) + 1 := IntWalk.wrap64_in _ (by omega)
                  have HQ := Lib.hid hE
                  rw [hff]
                  clear hq hql hE hr3 hmx hff
                  go_wp2
                  go_roundg (5 - (k + 1))
                  case measure => have := HJ.out; omega
                  case rel => exact ⟨k + 1, by first | (rw [hwk]; rfl) | rfl, by have := HJ.out; omega, H3.out.1.trans HQ.out⟩
            · obtain rfl : k = 5 := by omega
              have HCP := Lib.hid (pm_Copy d lb' sb D1 wr (HZ.out.1.ext0 HE.out) HK1.out.1)
              clear hk hk5
              go_wp2_with fail
              refine HCP.out.mono ?_
              rintro e w8' ⟨d2, lb2, sb2, rfl, hE8, hD8, hd8, hl8, hs8⟩
              obtain ⟨w9, hw9⟩ : ∃ w9, w8'.alloc (.cells #[.bool true, .bool true] 4) = w9 := ⟨_, rfl⟩
              obtain ⟨nb, hnb⟩ : ∃ nb, w8'.heap.size = nb := ⟨_, rfl⟩
              have hE9 : Ext [] w8' w9 := by rw [← hw9]; exact (Ext.refl _ _).alloc _
              have hb9 : w9.heap[nb]? = some (.cells #[.bool true, .bool true] 4 (0, 0)) := by rw [← hw9, ← hnb]; exact World.alloc_heap_new _ _
              have hD9 : DevAt w9 d lb' sb D1 := (HZ.out.1.ext0 HE.out).ext0 (hE8.trans hE9)
              have hlt := (HZ.out.1.ext0 HE.out).lt
              have hd2 := hD8.ext0 hE9
              have hlt2 := hD8.lt
              have HC9 := Lib.hid (pm_Crash_in d2 lb2 sb2 (some ⟨nb, 0, none⟩) 2 2 (fun _ => true) D1 w9 hd2 HK1.out.1 (fun W hE => .inr ⟨nb, 0, rfl, fun i hi => by
                have hb := hE.at hb9 (by simp; omega)
                match i, hi with
                | 0, _ => exact cell_of hb rfl
                | 1, _ => exact cell_of hb rfl⟩) (by omega))
              have H9 := Lib.hid (And.intro hD9 (And.intro (HE.out.trans (hE8.trans hE9)) (And.intro (show d ≠ d2 ∧ d ≠ sb2 ∧ lb' ≠ d2 ∧ lb' ≠ sb2 ∧ sb ≠ d2 ∧ sb ≠ sb2 by omega) (And.intro hd2 (show wr.heap.size ≤ d2 ∧ wr.heap.size ≤ sb2 from ⟨hd8, hs8⟩)))))
              clear hE8 hD8 hd8 hl8 hs8 hE9 hb9 hD9 hlt hd2 hlt2 HCP
              go_wp2_with fail
              refine HC9.out.mono ?_
              rintro e w10 ⟨rfl, lb3, hD10, hE10, hl10⟩
              have hne := H9.out.2.2.1
              have hD10b : DevAt w10 d lb' sb D1 := H9.out.1.ext hE10 (by simp; omega) (by simp; omega) (by simp; omega) (fun g cur hg hm => H9.out.2.2.2.1.noW g cur hg (by simp at hm; simp; omega))
              have HSM := Lib.hid (pm_Same d2 lb3 sb2 d lb' sb (D1.crash (markS 2 fun _ => true)) D1 w10 hD10 hD10b (Dv.crash_ok HK1.out.1 _) rfl)
              rw [HK1.out.2.2.2.1] at HSM
              have HMD := Lib.hid (fun (W : World) (hE : Ext [] w10 W) => pm_State d lb' sb D1 W (hD10b.ext0 hE) HK1.out.1)
              rw [HK1.out.2.2.2.2] at HMD
              have heqm : ∀ w, (binOp .eql 49 (.agg #[.int .i64 5, .int .i64 0, .int .i64 0]) (.agg #[.int .i64 5, .int .i64 0, .int .i64 0])).run Try.prog w = .ok (.bool true) w := fun w => by rw [eqMediaB]; rfl
              have H10 := Lib.hid (And.intro (show Ext [] w w10 from (HZ.out.2.2.1.trans H9.out.2.1).trans' hE10 (fun q hq => .inr (by have := HZ.out.2.2.1.size; have := HE.out.size; have := H9.out.2.2.2.2; simp at hq; omega)))
                ((HZ.out.2.2.2.1.ext0 H9.out.2.1).extD H9.out.2.2.2.1 (hE10.sub (fun q hq => by simp at hq ⊢; omega))))
              clear hw9 hnb hD10 hE10 hl10 hne hD10b HC9 H9
              go_wp2_with (first
                | (go_at_call 19; refine (pm_num _ _).mono ?_; rintro e w' ⟨rfl, rfl⟩)
                | (go_at_call 26; refine HSM.out.mono ?_; rintro e w11 ⟨rfl, hE11⟩; have H11 := Lib.hid hE11; clear hE11)
                | (go_at_call 24; refine (HMD.out _ H11.out).mono ?_; rintro e w12 ⟨rfl, hE12⟩; have H12 := Lib.hid (H11.out.trans hE12); clear hE12)
                | (go_at_call 13; refine (HW.out _).mono ?_; rintro e w13 ⟨rfl, hE13⟩; have H13 := Lib.hid (H12.out.trans hE13); clear hE13))
              show LeavesInM _ _ _ _ _ _ _ _ _
              have hmk := H10.out.2.ext0 H13.out
              refine fin.out Ds _ hmk.at' hmk.nd (H10.out.1.trans H13.out) _ ?_
              rfl
end Go.Proofs.Ytfojmjkcjdehaaa
