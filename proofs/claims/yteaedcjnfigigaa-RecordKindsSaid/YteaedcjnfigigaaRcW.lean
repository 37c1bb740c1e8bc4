/- The chapter's rows hold: works answers true. -/
import Derived.Test.YteaedcjnfigigaaRcN
namespace Go.Proofs.Yteaedcjnfigigaa
open Go Go.RowKit

theorem puts1 {w : World} {t : TypeId} (x y : Int) : Puts (w.alloc (.cells #[.int .i64 x, .int .u64 y] t)) (some ⟨w.heap.size, 0, none⟩) 1 (fun _ => (x, y)) :=
  .inr ⟨_, 0, rfl, fun i hi => by obtain rfl : i = 0 := by omega
                                  exact ⟨cell_of (World.alloc_heap_new _ _) rfl, cell_of (World.alloc_heap_new _ _) rfl⟩⟩
def two (x y x' y' : Int) (i : Nat) : Int × Int := if i = 0 then (x, y) else (x', y')
theorem puts2 {w : World} {t : TypeId} (x y x' y' : Int) : Puts (w.alloc (.cells #[.int .i64 x, .int .u64 y, .int .i64 x', .int .u64 y'] t)) (some ⟨w.heap.size, 0, none⟩) 2 (two x y x' y') :=
  .inr ⟨_, 0, rfl, fun i hi => by
    have h : i = 0 ∨ i = 1 := by omega
    rcases h with rfl | rfl <;> exact ⟨cell_of (World.alloc_heap_new _ _) rfl, cell_of (World.alloc_heap_new _ _) rfl⟩⟩
def L1 (_ : Nat) : Int × Int := (9, 5)
def L12 (i : Nat) : Int × Int := ((i : Int), 0)
def F1 : Nat → Int := packW 1 L1
def F6 (i : Nat) : Int := if i = 3 then 6 else F1 i
theorem chk1 : checkE L1 1 = 0 := by decide
theorem chk2 : checkE (two 9 1 9 2) 2 = 2 := by decide
theorem chk3 : checkE (fun _ => (8192, 0)) 1 = 2 := by decide
theorem chk12 : checkE L12 12 = 3 := by decide
theorem chk0 (L : Nat → Int × Int) : checkE L 0 = 5 := rfl
theorem puts1U : PutsU L1 1 := fun i _ => by unfold U64 L1; omega
theorem F1_U (i : Nat) : U64 (F1 i) := packW_U (n := 1) (L := L1) (by omega) (checkE_ok chk1).1 puts1U i
theorem F1_2 : F1 2 = 9 := (packW_put (n := 1) (L := L1) 0 (by omega)).1
theorem F1_3 : F1 3 = 5 := (packW_put (n := 1) (L := L1) 0 (by omega)).2
theorem own1 : own0 (recF 1 L1 1) ≠ 0 := by decide +kernel
theorem F1_1 : F1 1 = 1 := by
  unfold F1
  rw [packW_ne _ _ _ (by omega)]
  unfold recG
  rw [if_neg own1]
  rfl
theorem F1_4 : F1 4 = 0 := by
  unfold F1
  rw [packW_ne _ _ _ (by omega), recG_ne _ _ _ (by omega)]
  rfl
theorem F6_U (i : Nat) : U64 (F6 i) := by
  unfold F6
  split
  · unfold U64; omega
  · exact F1_U i
theorem kind6 : kindE F6 = 2 := by
  unfold kindE
  have h0 : F6 0 = F1 0 := rfl
  rw [if_neg (by rw [h0]; exact packW_zero (n := 1) (L := L1) (by omega) (checkE_ok chk1).1 puts1U)]
  have := unpE_one (n := 1) (L := L1) (F := F6) (k := 3) chk1 puts1U (fun i _ => F6_U i) (by omega) (fun i _ hi => if_neg hi) (by
    have : F6 3 = 6 := rfl
    rw [this, show packW 1 L1 3 = 5 from F1_3]; omega)
  rw [this]
  rfl
theorem kind0 : kindE (fun _ => 0) = 0 := if_pos rfl
theorem unp1 : unpE F1 = 0 := unpE_pack chk1
theorem unpN1 : unpN F1 = 1 := unpN_pack (by omega)
theorem same1 : sameE 1 1 (unpL F1) L1 = true := by
  unfold sameE
  rw [if_pos rfl, sameN_iff]
  intro i hi
  exact unpL_pack (n := 1) (L := L1) (checkE_ok chk1).1 i hi

set_option maxRecDepth 100000 in
set_option maxHeartbeats 4000000 in
theorem rc_works (w : World) :
    Calls Try.prog 8 #[] w fun e w' => e = .returned (.bool true) ∧ Ext [] w w' := by
  obtain ⟨i0, hi, hz0, hz1, hz2⟩ := info_parts infoPut
  go_enter Try.func8, Try.ntmps8
  go_wp2_with fail
  refine (rc_pack _ 1 1 L1 _ (puts1 9 5) (by omega)).mono ?_
  rintro e W1 ⟨rfl, hE1⟩
  rw [if_pos chk1, chk1]
  have HP1 := Lib.hid ((puts1 9 5).ext hE1)
  have HE1 := Lib.hid (((Ext.refl [] w).alloc _).trans hE1)
  clear hE1
  go_wp2_with (first | ((with_reducible refine load25 hb2 ?_ ?_); exact rfl) | ((with_reducible refine store25z (g := W1.heap.size) (G := F1) ?_ ?_ ?_ ?_); exact rfl; exact rfl; exact rfl; intro W2 hE2 hs2 hb2; clear hs2))
  refine (rc_unpack F1 _ (fun i => (F1_U i).1)).mono ?_
  rintro e W3 ⟨ao, n, cap, rfl, hE3, _, h0⟩
  obtain ⟨rfl, hP3⟩ := h0 unp1
  rw [unp1]
  rw [unpN1] at hP3 ⊢
  have HP3 := Lib.hid hP3
  have HE3 := Lib.hid (hE2.trans hE3)
  have b3 := hE3.at hb2 (by simp)
  clear hP3 h0 hE2 hE3 hb2
  go_wp2_with (first | ((with_reducible refine load25 b3 ?_ ?_); exact rfl) | ((with_reducible refine store25z (g := W3.heap.size) (G := F1) ?_ ?_ ?_ ?_); exact rfl; exact rfl; exact rfl; intro W4 hE4 hs4 hb4; clear hs4; have k4 := cell_of hb4 (arrF_get 24 F1 3 (by omega)); have f4 := free_of hb4 3))
  have HB5 : Hid ((W4.setCell ⟨W3.heap.size, 3, none⟩ (.int .u64 6)).heap[W3.heap.size]? = some (.cells (arrF 24 F6) 25 (0, 0)) ∧ Ext [] W3 (W4.setCell ⟨W3.heap.size, 3, none⟩ (.int .u64 6))) := by
    refine ⟨?_, hE4.setCell (.inr (Nat.le_refl _)) _⟩
    simp only [World.setCell, Array.getElem?_modify, if_true, hb4]
    simp only [Option.map_some, Option.isSome_none, Bool.false_eq_true, if_false, arrF_set]
    rw [show (fun i => if i = 3 then (6 : Int) else F1 i) = F6 from rfl]
  generalize W4.setCell ⟨W3.heap.size, 3, none⟩ (.int .u64 6) = W5 at *
  clear k4 f4 hE4 hb4
  refine (rc_pack none 0 0 L1 W5 (.inl rfl) (by omega)).mono ?_
  rintro e W6 ⟨rfl, hE6⟩
  rw [chk0, if_neg (show ¬ (5 : Int) = 0 by decide)]
  have HE6 := Lib.hid hE6
  clear hE6
  go_wp2_with ((with_reducible refine store25z (g := W6.heap.size) (G := fun _ => 0) ?_ ?_ ?_ ?_); exact rfl; exact rfl; exact rfl; intro W7 hE7 hs7 hb7; clear hs7)
  refine (rc_pack _ 2 2 (two 9 1 9 2) _ (puts2 9 1 9 2) (by omega)).mono ?_
  rintro e W8 ⟨rfl, hE8⟩
  rw [chk2, if_neg (show ¬ (2 : Int) = 0 by decide)]
  have HE8 := Lib.hid (HE6.out.trans (hE7.trans (((Ext.refl [] W7).alloc _).trans hE8)))
  clear hE7 hE8 hb7
  go_wp2_with ((with_reducible refine store25z (g := W8.heap.size) (G := fun _ => 0) ?_ ?_ ?_ ?_); exact rfl; exact rfl; exact rfl; intro W9 hE9 hs9 hb9; clear hs9)
  refine (rc_pack _ 1 1 (fun _ => (8192, 0)) _ (puts1 8192 0) (by omega)).mono ?_
  rintro e W10 ⟨rfl, hE10⟩
  rw [chk3, if_neg (show ¬ (2 : Int) = 0 by decide)]
  have HE10 := Lib.hid (HE8.out.trans (hE9.trans (((Ext.refl [] W9).alloc _).trans hE10)))
  clear hE9 hE10 hb9
  go_wp2_with ((with_reducible refine store25z (g := W10.heap.size) (G := fun _ => 0) ?_ ?_ ?_ ?_); exact rfl; exact rfl; exact rfl; intro W11 hE11 hs11 hb11; clear hs11)
  have HE11 := Lib.hid (HE10.out.trans hE11)
  clear hE11 hb11
  go_loopg [13, 14] 12 (fun k v i wr => ∃ (j : Nat), i = .int .i64 j ∧ j + k = 12 ∧ wr.ownsRow W11.heap.size 47 2 v j (putCells L12 j) ∧ Ext [] W11 wr)
  case atStart => exact ⟨0, rfl, by omega, World.ownsRow_nil _ _ _ _, Ext.refl _ _⟩
  case round =>
    obtain ⟨j, rfl, hjk, hown, hE⟩ := hrel
    have HR := Lib.hid (And.intro hown hE)
    clear hown hE
    by_cases hlt : j < 12
    · go_wp2_with (at_builtin; refine wpList_append_own _ rfl _ _ 22 rfl W11.heap.size 47 i0 (.agg #[.int .i64 0, .int .u64 0]) 2 16 Try.underlying22 hi hz0 hz1 hz2 rfl (by decide) _ _ _ rfl (HR.out.1.alloc _) ⟨wr.heap.size, 0, none⟩ 1 1 [.int .i64 j, .int .u64 0] rfl rfl (cell_two_new _ _ _ _) (by simp [Value.oneCell']) (by unfold maxLen; omega) (by omega) (by have := HR.out.2.size; simp; omega) ?_; intro v' w1 hown' hgrow _)
      go_roundg (12 - (j + 1))
      case measure => omega
      case rel =>
        refine ⟨j + 1, by go_num, by omega, ?_, ext_grown (HR.out.2.alloc _) hgrow (HR.out.1.alloc _) (Nat.le_refl _)⟩
        show w1.ownsRow _ _ _ _ _ (putCells L12 j ++ [.int .i64 (L12 j).1, .int .u64 (L12 j).2])
        exact hown'
    · obtain rfl : j = 12 := by omega
      obtain ⟨bo, cap', rfl, hp12⟩ := puts_of_owns HR.out.1
      have HP12 := Lib.hid hp12
      clear hp12
      go_wp2_with fail
      refine (rc_pack bo 12 cap' L12 wr HP12.out (by omega)).mono ?_
      rintro e W13 ⟨rfl, hE13⟩
      rw [chk12, if_neg (show ¬ (3 : Int) = 0 by decide)]
      have HE13 := Lib.hid (HR.out.2.trans hE13)
      clear hE13
      go_wp2_with (first
        | ((with_reducible refine store25z (g := W13.heap.size) (G := fun _ => 0) ?_ ?_ ?_ ?_); exact rfl; exact rfl; exact rfl; intro W14 hE14 hs14 hb14; clear hs14 hb14;
           have E14 := Lib.hid (HE11.out.trans (HE13.out.trans hE14)); clear hE14;
           have b2 := E14.out.at (HB5.out.2.at b3 (by simp)) (by simp); have b6 := E14.out.at HB5.out.1 (by simp);
           have k1 := cell_of b2 (arrF_get 24 F1 1 (by omega)); have k2 := cell_of b2 (arrF_get 24 F1 2 (by omega)); have k3 := cell_of b2 (arrF_get 24 F1 3 (by omega)); have k4 := cell_of b2 (arrF_get 24 F1 4 (by omega));
           rw [F1_1] at k1; rw [F1_2] at k2; rw [F1_3] at k3; rw [F1_4] at k4)
        | (go_at_call 11; refine (rc_num _ _ (by omega)).mono ?_; rintro e w' ⟨rfl, rfl⟩))
      refine (ref_same _ _ 1 1 _ _ (unpL F1) L1 W14 (HP3.out.ext (HB5.out.2.trans E14.out)) (HP1.out.ext (HE3.out.trans (HB5.out.2.trans E14.out))) (by omega) (by omega)).mono ?_
      rintro e W15 ⟨rfl, hE15⟩
      rw [same1]
      have b6' := hE15.at b6 (by simp)
      go_wp2_with ((with_reducible refine load25g b6' ?_ ?_ ?_); exact rfl; exact rfl)
      refine (rc_kind F6 W15 (fun i => (F6_U i).1)).mono ?_
      rintro e W16 ⟨rfl, hE16⟩
      rw [kind6]
      go_wp2_with fail
      rw [← arr0]
      refine (rc_kind (fun _ => 0) W16 (fun _ => Int.le_refl _)).mono ?_
      rintro e W17 ⟨rfl, hE17⟩
      rw [kind0]
      go_wp2_with (go_at_call 11; refine (rc_num _ _ (by omega)).mono ?_; rintro e w' ⟨rfl, rfl⟩)
      go_ret
      exact ⟨rfl, HE1.out.trans (HE3.out.trans (HB5.out.2.trans (E14.out.trans (hE15.trans (hE16.trans hE17)))))⟩
end Go.Proofs.Yteaedcjnfigigaa
