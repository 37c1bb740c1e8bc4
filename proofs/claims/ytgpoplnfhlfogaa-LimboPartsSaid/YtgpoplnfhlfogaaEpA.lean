/- Clock.none and Clock.asked: what they answer. -/
import Derived.Test.YtgpoplnfhlfogaaOps
import Derived.Test.YtgpoplnfhlfogaaChecked
namespace Go.Proofs.Ytgpoplnfhlfogaa
open Go Go.RowKit

theorem eqlMapS (m : Nat) (w : World) : (binOp .eql 42 (.map (some m)) (.map none)).run Try.prog w = .ok (.bool false) w := run_eql_map_nil _ _ _ _ (some m) Try.underlying42
set_option maxHeartbeats 400000 in
theorem ep_none_no (c m : Nat) (w : World) (h1 : w.cell? ⟨c, 1, none⟩ = some (.map (some m))) :
    Calls Try.prog 66 #[.pointer (some ⟨c, 0, none⟩)] w fun e w' => e = .returned (.bool false) ∧ w = w' := by
  have he := eqlMapS
  go_enter Try.func66, Try.ntmps66
  go_wp2
  go_ret
  exact ⟨rfl, rfl⟩

theorem infoAsk : (Try.prog.info? 107).map (fun i => (i.zero, i.size, i.bytes)) = some (some (.agg #[.nilFunc, .int .i64 0]), 2, 16) := by kernel_rfl

set_option maxHeartbeats 400000 in
theorem ep_range (t : Int) (bt : Nat) (w : World) (h1 : w.cell? ⟨bt, 0, none⟩ = some (.int .i64 t)) :
    Calls Try.prog 105 #[.pointer (some ⟨bt, 0, none⟩)] w fun e w' => e = .returned (.bool (decide (t < 0 ∨ 8 ≤ t))) ∧ w = w' := by
  by_cases h : t < 0
  · go_enter Try.func105, Try.ntmps105
    go_wp2
    go_ret
    simp [h]
  · by_cases h' : 8 ≤ t
    · go_enter Try.func105, Try.ntmps105
      go_wp2
      go_ret
      simp
    · go_enter Try.func105, Try.ntmps105
      go_wp2
      go_ret
      simp [h']; omega

set_option maxRecDepth 100000 in
set_option maxHeartbeats 1000000 in
theorem ep_asked (c m : Nat) (t : Int) (bl K : Nat) (lb : Array Value) (er : Int) (b : Bool) (w : World) (f0 : Nat × Nat) (eb : TypeId)
    (h1 : w.cell? ⟨c, 1, none⟩ = some (.map (some m)))
    (hbl : w.heap[bl]? = some (.cells #[.func (.func K) #[] lb, .int .i64 er] eb f0))
    (hcf : ∀ w', (callFunc K lb).run Try.prog w' = .ok (.enter K lb) w')
    (hK : ∀ w', Ext [] w w' → Calls Try.prog K lb w' fun e w'' => e = .returned (.bool b) ∧ w' = w'') :
    Calls Try.prog 62 #[.pointer (some ⟨c, 0, none⟩), .int .i64 t, .slice (some ⟨bl, 0, none⟩) 1 1] w fun e w' =>
      e = .returned (.int .i64 (if t < 0 ∨ 8 ≤ t then 2 else if b then er else 0)) ∧ Ext [] w w' := by
  obtain ⟨i0, hi, hz0, hz1, hz2⟩ := info_parts infoAsk
  have hbl1 : bl < w.heap.size := lt_of_block hbl
  have hc1 : c < w.heap.size := World.block_lt_of_cell? _ _ h1
  go_enter Try.func62, Try.ntmps62
  go_wp2_with fail
  refine wp_scope_ahead 0 rfl ?_
  go_wp2_with (at_builtin; refine wpList_append_grown 144 107 i0 _ 2 16 Try.underlying144 hi hz0 hz1 hz2 ⟨w.heap.size + 1, 0, none⟩ 2 2 [.func (.func 66) #[.pointer (some ⟨c, 0, none⟩)] #[], .int .i64 1, .func (.func 105) #[] #[.pointer (some ⟨w.heap.size, 0, none⟩)], .int .i64 2] ⟨bl, 0, none⟩ 1 1 [.func (.func K) #[] lb, .int .i64 er] rfl rfl rfl rfl (by omega) (by omega) (by omega) ?c1 ?c2 ?c4)
  case c1 =>
    have hown := World.alloc_heap_new (w.alloc (.cells #[.int .i64 t] 3)) (.cells #[.func (.func 66) #[.pointer (some ⟨c, 0, none⟩)] #[], .int .i64 1, .func (.func 105) #[] #[.pointer (some ⟨w.heap.size, 0, none⟩)], .int .i64 2] 145)
    rw [World.size_alloc] at hown
    exact holds_of_block hown _ (fun j v h => by simpa using h)
  case c2 =>
    exact holds_of_block (((Ext.refl [] w).alloc _).alloc _ |>.at hbl (by simp)) _ (fun j v h => by simpa using h)
  intro cap W' more hE hsz hcap hb
  have hE' : Ext [] w W' := (((Ext.refl [] w).alloc _).alloc _).trans hE
  have hc1' := hE'.cell h1 (by simp)
  have ht : W'.cell? ⟨w.heap.size, 0, none⟩ = some (.int .i64 t) := hE.cell (by simp [go_sem]) (by simp)
  simp at hsz
  rw [World.size_alloc, World.size_alloc] at hb
  have d0 := cell_of hb (j := 0) rfl
  have d1 := cell_of hb (j := 1) rfl
  have d2 := cell_of hb (j := 2) rfl
  have d3 := cell_of hb (j := 3) rfl
  have d4 := cell_of hb (j := 4) rfl
  have d5 := cell_of hb (j := 5) rfl
  have hcl : c < W'.heap.size := by omega
  have hlt : w.heap.size < W'.heap.size := by omega
  clear hbl h1 hb hE
  have hN : ∀ W, W.cell? ⟨c, 1, none⟩ = some (.map (some m)) → Calls Try.prog 66 #[.pointer (some ⟨c, 0, none⟩)] W fun e w' => e = .returned (.bool false) ∧ W = w' := fun W h => ep_none_no c m W h
  have HN := Lib.hid hN
  have HK := Lib.hid hK
  clear hN hK
  have HR := Lib.hid (fun W h => ep_range t w.heap.size W h)
  by_cases hr : t < 0 ∨ 8 ≤ t
  · have hrb : decide (t < 0 ∨ 8 ≤ t) = true := by simpa using hr
    rw [hrb] at HR
    have HP := Lib.hid hr
    clear hrb hr
    go_wp2_with fail
    refine wp_loop_rounds 4 ?_
    rw [rounds_succ]
    go_wp2_with (first | (go_at_call 66; refine (HN.out _ (by repeat (first | exact hc1' | refine cell_al ?_))).mono ?_; rintro e w' ⟨rfl, rfl⟩) | (go_at_call 105; refine (HR.out _ (by repeat (first | exact ht | refine cell_al ?_))).mono ?_; rintro e w' ⟨rfl, rfl⟩) | ((with_reducible refine (HK.out _ (by repeat (first | exact hE' | refine Ext.alloc ?_ _))).mono ?_); rintro e w' ⟨rfl, rfl⟩))
    rw [rounds_succ]
    go_wp2_with (first | (go_at_call 66; refine (HN.out _ (by repeat (first | exact hc1' | refine cell_al ?_))).mono ?_; rintro e w' ⟨rfl, rfl⟩) | (go_at_call 105; refine (HR.out _ (by repeat (first | exact ht | refine cell_al ?_))).mono ?_; rintro e w' ⟨rfl, rfl⟩) | ((with_reducible refine (HK.out _ (by repeat (first | exact hE' | refine Ext.alloc ?_ _))).mono ?_); rintro e w' ⟨rfl, rfl⟩))
    go_step3
    simp only [Exit.inBlock, Exit.then]
    refine ⟨rfl, ?_⟩
    go_wp2
    rw [Exit.noGoto_ret]
    go_ret
    exact ⟨ret_int (by rw [if_pos HP.out]), by repeat (first | exact hE' | refine Ext.alloc ?_ _)⟩
  · have hrb : decide (t < 0 ∨ 8 ≤ t) = false := by simpa using hr
    rw [hrb] at HR
    have HP := Lib.hid hr
    clear hrb hr
    go_wp2_with fail
    refine wp_loop_rounds 4 ?_
    rw [rounds_succ]
    go_wp2_with (first | (go_at_call 66; refine (HN.out _ (by repeat (first | exact hc1' | refine cell_al ?_))).mono ?_; rintro e w' ⟨rfl, rfl⟩) | (go_at_call 105; refine (HR.out _ (by repeat (first | exact ht | refine cell_al ?_))).mono ?_; rintro e w' ⟨rfl, rfl⟩) | ((with_reducible refine (HK.out _ (by repeat (first | exact hE' | refine Ext.alloc ?_ _))).mono ?_); rintro e w' ⟨rfl, rfl⟩))
    rw [rounds_succ]
    go_wp2_with (first | (go_at_call 66; refine (HN.out _ (by repeat (first | exact hc1' | refine cell_al ?_))).mono ?_; rintro e w' ⟨rfl, rfl⟩) | (go_at_call 105; refine (HR.out _ (by repeat (first | exact ht | refine cell_al ?_))).mono ?_; rintro e w' ⟨rfl, rfl⟩) | ((with_reducible refine (HK.out _ (by repeat (first | exact hE' | refine Ext.alloc ?_ _))).mono ?_); rintro e w' ⟨rfl, rfl⟩))
    rw [rounds_succ]
    cases b
    · go_wp2_with (first | (go_at_call 66; refine (HN.out _ (by repeat (first | exact hc1' | refine cell_al ?_))).mono ?_; rintro e w' ⟨rfl, rfl⟩) | (go_at_call 105; refine (HR.out _ (by repeat (first | exact ht | refine cell_al ?_))).mono ?_; rintro e w' ⟨rfl, rfl⟩) | ((with_reducible refine (HK.out _ (by repeat (first | exact hE' | refine Ext.alloc ?_ _))).mono ?_); rintro e w' ⟨rfl, rfl⟩))
      rw [rounds_succ]
      go_wp2_with (first | (go_at_call 66; refine (HN.out _ (by repeat (first | exact hc1' | refine cell_al ?_))).mono ?_; rintro e w' ⟨rfl, rfl⟩) | (go_at_call 105; refine (HR.out _ (by repeat (first | exact ht | refine cell_al ?_))).mono ?_; rintro e w' ⟨rfl, rfl⟩) | ((with_reducible refine (HK.out _ (by repeat (first | exact hE' | refine Ext.alloc ?_ _))).mono ?_); rintro e w' ⟨rfl, rfl⟩))
      rw [jump_ret]
      go_ret
      exact ⟨ret_int (by rw [if_neg HP.out]; simp), by repeat (first | exact hE' | refine Ext.alloc ?_ _)⟩
    · go_wp2_with (first | (go_at_call 66; refine (HN.out _ (by repeat (first | exact hc1' | refine cell_al ?_))).mono ?_; rintro e w' ⟨rfl, rfl⟩) | (go_at_call 105; refine (HR.out _ (by repeat (first | exact ht | refine cell_al ?_))).mono ?_; rintro e w' ⟨rfl, rfl⟩) | ((with_reducible refine (HK.out _ (by repeat (first | exact hE' | refine Ext.alloc ?_ _))).mono ?_); rintro e w' ⟨rfl, rfl⟩))
      go_step3
      simp only [Exit.inBlock, Exit.then]
      refine ⟨rfl, ?_⟩
      go_wp2
      rw [Exit.noGoto_ret]
      go_ret
      exact ⟨ret_int (by rw [if_neg HP.out]; simp), by repeat (first | exact hE' | refine Ext.alloc ?_ _)⟩
end Go.Proofs.Ytgpoplnfhlfogaa
