/- Package epoch: what a clock that is none answers. -/
import Derived.Test.YtgpoplnfhlfogaaEpS
namespace Go.Proofs.Ytgpoplnfhlfogaa
open Go Go.RowKit Go.Shelf
attribute [local go_sem] Oper.semAt_some

/-- no clock, or one that was never made -/
def NoneC (w : World) (p : Option Addr) : Prop := p = none ∨ ∃ b, p = some ⟨b, 0, none⟩ ∧ w.heap[b]? = some (.cells #[.int .i64 0, .map none] 98 (0, 0))
theorem NoneC.ext {w w' : World} {p : Option Addr} (h : NoneC w p) (hE : Ext [] w w') : NoneC w' p := h.imp id (fun ⟨b, h1, h2⟩ => ⟨b, h1, hE.at h2 (by simp)⟩)
theorem eqlMapN (w : World) : (binOp .eql 42 (.map none) (.map none)).run Try.prog w = .ok (.bool true) w := run_eql_map_nil _ _ _ _ none Try.underlying42
set_option maxHeartbeats 400000 in
theorem no_none (p : Option Addr) (w : World) (h : NoneC w p) : Calls Try.prog 66 #[.pointer p] w fun e w' => e = .returned (.bool true) ∧ w = w' := by
  rcases h with rfl | ⟨b, rfl, h⟩
  · go_enter Try.func66, Try.ntmps66
    go_wp2
    go_ret
    exact ⟨rfl, rfl⟩
  · have he := eqlMapN
    have k1 := cell_of (j := 1) h rfl
    go_enter Try.func66, Try.ntmps66
    go_wp2
    go_ret
    exact ⟨rfl, rfl⟩
theorem NoneC.fn {w : World} {p : Option Addr} (h : NoneC w p) : Hid (∀ W, Ext [] w W → Calls Try.prog 66 #[.pointer p] W fun e w' => e = .returned (.bool true) ∧ W = w') := fun W hE => no_none p W (h.ext hE)
set_option maxRecDepth 100000 in
set_option maxHeartbeats 1000000 in
theorem no_asked (p : Option Addr) (t : Int) (bl K : Nat) (lb : Array Value) (er : Int) (w : World) (f0 : Nat × Nat) (eb : TypeId)
    (hN : ∀ W, Ext [] w W → Calls Try.prog 66 #[.pointer p] W fun e w' => e = .returned (.bool true) ∧ W = w')
    (hbl : w.heap[bl]? = some (.cells #[.func (.func K) #[] lb, .int .i64 er] eb f0)) :
    Calls Try.prog 62 #[.pointer p, .int .i64 t, .slice (some ⟨bl, 0, none⟩) 1 1] w fun e w' => e = .returned (.int .i64 1) ∧ Ext [] w w' := by
  obtain ⟨i0, hi, hz0, hz1, hz2⟩ := info_parts infoAsk
  have hbl1 : bl < w.heap.size := lt_of_block hbl
  go_enter Try.func62, Try.ntmps62
  go_wp2_with fail
  refine wp_scope_ahead 0 rfl ?_
  go_wp2_with (at_builtin; refine wpList_append_grown 144 107 i0 _ 2 16 Try.underlying144 hi hz0 hz1 hz2 ⟨w.heap.size + 1, 0, none⟩ 2 2 [.func (.func 66) #[.pointer p] #[], .int .i64 1, .func (.func 105) #[] #[.pointer (some ⟨w.heap.size, 0, none⟩)], .int .i64 2] ⟨bl, 0, none⟩ 1 1 [.func (.func K) #[] lb, .int .i64 er] rfl rfl rfl rfl (by omega) (by omega) (by omega) ?c1 ?c2 ?c4)
  case c1 =>
    have hown := World.alloc_heap_new (w.alloc (.cells #[.int .i64 t] 3)) (.cells #[.func (.func 66) #[.pointer p] #[], .int .i64 1, .func (.func 105) #[] #[.pointer (some ⟨w.heap.size, 0, none⟩)], .int .i64 2] 145)
    rw [World.size_alloc] at hown
    exact holds_of_block hown _ (fun j v h => by simpa using h)
  case c2 =>
    exact holds_of_block (((Ext.refl [] w).alloc _).alloc _ |>.at hbl (by simp)) _ (fun j v h => by simpa using h)
  intro cap W' more hE hsz hcap hb
  have hE' : Ext [] w W' := (((Ext.refl [] w).alloc _).alloc _).trans hE
  have HN := Lib.hid hN
  rw [World.size_alloc, World.size_alloc] at hb
  have d0 := cell_of hb (j := 0) rfl
  have d1 := cell_of hb (j := 1) rfl
  have d2 := cell_of hb (j := 2) rfl
  have d3 := cell_of hb (j := 3) rfl
  have d4 := cell_of hb (j := 4) rfl
  have d5 := cell_of hb (j := 5) rfl
  clear hbl hb hE hN
  go_wp2_with fail
  refine wp_loop_rounds 4 ?_
  rw [rounds_succ]
  go_wp2_with ((go_at_call 66; refine (HN.out _ (by repeat (first | exact hE' | refine Ext.alloc ?_ _))).mono ?_; rintro e w' ⟨rfl, rfl⟩))
  go_step3
  simp only [Exit.inBlock, Exit.then]
  refine ⟨rfl, ?_⟩
  go_wp2
  rw [Exit.noGoto_ret]
  go_ret
  exact ⟨rfl, by repeat (first | exact hE' | refine Ext.alloc ?_ _)⟩
set_option maxRecDepth 100000 in
set_option maxHeartbeats 2000000 in
theorem no_Pin (p : Option Addr) (t : Int) (w : World) (h : NoneC w p) :
    Calls Try.prog 15 #[.pointer p, .int .i64 t] w fun e w' => e = .returned (.tuple #[.int .i64 0, .int .i64 1]) ∧ Ext [] w w' := by
  go_enter Try.func15, Try.ntmps15
  go_wp2_with fail
  have hs1 : (w.alloc (.cells #[.pointer p] 24)).heap.size = w.heap.size + 1 := World.size_alloc _ _
  have hown := World.alloc_heap_new ((w.alloc (.cells #[.pointer p] 24)).alloc (.cells #[.int .i64 t] 3)) (.cells #[.func (.func 63) #[] #[.pointer (some ⟨w.heap.size, 0, none⟩), .pointer (some ⟨w.heap.size + 1, 0, none⟩)], .int .i64 240] 107)
  rw [World.size_alloc, hs1] at hown
  have hE : Ext [] w (((w.alloc (.cells #[.pointer p] 24)).alloc (.cells #[.int .i64 t] 3)).alloc (.cells #[.func (.func 63) #[] #[.pointer (some ⟨w.heap.size, 0, none⟩), .pointer (some ⟨w.heap.size + 1, 0, none⟩)], .int .i64 240] 107)) := ((Ext.refl _ _).alloc _ |>.alloc _).alloc _
  refine (no_asked p t (w.heap.size + 1 + 1) 63 #[.pointer (some ⟨w.heap.size, 0, none⟩), .pointer (some ⟨w.heap.size + 1, 0, none⟩)] 240 _ (0, 0) 107 (fun W hW => no_none p W (h.ext (hE.trans hW))) hown).mono ?_
  rintro e W1 ⟨rfl, hE1⟩
  have HE := Lib.hid (hE.trans hE1)
  clear hown hs1 hE hE1 h
  go_wp2
  go_ret2
  exact ⟨rfl, HE.out⟩
set_option maxRecDepth 100000 in
set_option maxHeartbeats 2000000 in
theorem no_Unpin (p : Option Addr) (t : Int) (w : World) (h : NoneC w p) :
    Calls Try.prog 16 #[.pointer p, .int .i64 t] w fun e w' => e = .returned (.int .i64 1) ∧ Ext [] w w' := by
  go_enter Try.func16, Try.ntmps16
  go_wp2_with fail
  have hs1 : (w.alloc (.cells #[.pointer p] 24)).heap.size = w.heap.size + 1 := World.size_alloc _ _
  have hown := World.alloc_heap_new ((w.alloc (.cells #[.pointer p] 24)).alloc (.cells #[.int .i64 t] 3)) (.cells #[.func (.func 65) #[] #[.pointer (some ⟨w.heap.size, 0, none⟩), .pointer (some ⟨w.heap.size + 1, 0, none⟩)], .int .i64 5] 107)
  rw [World.size_alloc, hs1] at hown
  have hE : Ext [] w (((w.alloc (.cells #[.pointer p] 24)).alloc (.cells #[.int .i64 t] 3)).alloc (.cells #[.func (.func 65) #[] #[.pointer (some ⟨w.heap.size, 0, none⟩), .pointer (some ⟨w.heap.size + 1, 0, none⟩)], .int .i64 5] 107)) := ((Ext.refl _ _).alloc _ |>.alloc _).alloc _
  refine (no_asked p t (w.heap.size + 1 + 1) 65 #[.pointer (some ⟨w.heap.size, 0, none⟩), .pointer (some ⟨w.heap.size + 1, 0, none⟩)] 5 _ (0, 0) 107 (fun W hW => no_none p W (h.ext (hE.trans hW))) hown).mono ?_
  rintro e W1 ⟨rfl, hE1⟩
  have HE := Lib.hid (hE.trans hE1)
  clear hown hs1 hE hE1 h
  go_wp2
  go_ret
  exact ⟨rfl, HE.out⟩
set_option maxRecDepth 100000 in
set_option maxHeartbeats 1000000 in
theorem no_Advance (p : Option Addr) (w : World) (h : NoneC w p) :
    Calls Try.prog 17 #[.pointer p] w fun e w' => e = .returned (.tuple #[.bool false, .int .i64 1]) ∧ w = w' := by
  have HN := h.fn
  go_enter Try.func17, Try.ntmps17
  go_wp2_with fail
  refine (HN.out _ (Ext.refl _ _)).mono ?_
  rintro e w' ⟨rfl, rfl⟩
  go_wp2
  go_ret2
  exact ⟨rfl, rfl⟩
set_option maxRecDepth 100000 in
set_option maxHeartbeats 1000000 in
theorem no_Now (p : Option Addr) (w : World) (h : NoneC w p) :
    Calls Try.prog 18 #[.pointer p] w fun e w' => e = .returned (.int .i64 0) ∧ w = w' := by
  have HN := h.fn
  go_enter Try.func18, Try.ntmps18
  go_wp2_with fail
  refine (HN.out _ (Ext.refl _ _)).mono ?_
  rintro e w' ⟨rfl, rfl⟩
  go_wp2
  go_ret
  exact ⟨rfl, rfl⟩
set_option maxRecDepth 100000 in
set_option maxHeartbeats 1000000 in
theorem no_At (p : Option Addr) (t : Int) (w : World) (h : NoneC w p) :
    Calls Try.prog 54 #[.pointer p, .int .i64 t] w fun e w' => e = .returned (.tuple #[.int .i64 0, .bool false]) ∧ w = w' := by
  have HN := h.fn
  go_enter Try.func54, Try.ntmps54
  go_wp2_with fail
  refine (HN.out _ (Ext.refl _ _)).mono ?_
  rintro e w' ⟨rfl, rfl⟩
  go_wp2
  go_ret2
  exact ⟨rfl, rfl⟩
set_option maxRecDepth 100000 in
set_option maxHeartbeats 1000000 in
theorem no_Copy (p : Option Addr) (w : World) (h : NoneC w p) :
    Calls Try.prog 55 #[.pointer p] w fun e w' => e = .returned (.pointer none) ∧ w = w' := by
  have HN := h.fn
  go_enter Try.func55, Try.ntmps55
  go_wp2_with fail
  refine (HN.out _ (Ext.refl _ _)).mono ?_
  rintro e w' ⟨rfl, rfl⟩
  go_wp2
  go_ret
  exact ⟨rfl, rfl⟩
set_option maxRecDepth 100000 in
set_option maxHeartbeats 1000000 in
theorem no_Pinned (p : Option Addr) (w : World) (h : NoneC w p) :
    Calls Try.prog 51 #[.pointer p] w fun e w' => ∃ B b, e = .returned (.func (.func 96) #[] #[.pointer (some ⟨B, 0, none⟩)]) ∧ Ext [] w w' ∧ PKB B b [] w' ∧ w.heap.size ≤ B ∧ w.heap.size ≤ b := by
  have HN := h.fn
  have hcf := enters_of Try.func96 (by kernel_rfl) rfl
  have hmm := @run_makeMap Try.prog
  clear h
  go_enter Try.func51, Try.ntmps51
  go_wp2_with fail
  refine (HN.out _ (by repeat (first | exact Ext.refl _ _ | refine Ext.alloc ?_ _ | refine Ext.setCell ?_ (.inr (by simp)) _))).mono ?_
  rintro e w' ⟨rfl, rfl⟩
  have hE1 : Ext [] w ((w.alloc (.map #[] 0)).alloc (.cells #[.map (some w.heap.size)] 42)) := ((Ext.refl _ _).alloc _).alloc _
  have hb1 : ((w.alloc (.map #[] 0)).alloc (.cells #[.map (some w.heap.size)] 42)).heap[w.heap.size + 1]? = some (.cells #[.map (some w.heap.size)] 42 (0, 0)) := by
    have := World.alloc_heap_new (w.alloc (.map #[] 0)) (.cells #[.map (some w.heap.size)] 42); rwa [World.size_alloc] at this
  have HF := Lib.hid (And.intro hE1 hb1)
  clear hE1 hb1
  go_wp2
  go_ret
  exact ⟨_, w.heap.size, rfl, HF.out.1, ⟨cell_of HF.out.2 rfl, (IMap.made w).alloc _⟩, by omega, by omega⟩
set_option maxRecDepth 100000 in
set_option maxHeartbeats 2000000 in
theorem ep_SameN (b1 b2 : Option Addr) (x y : Bool) (w : World) (hxy : (x || y) = true)
    (hN1 : ∀ W, Ext [] w W → Calls Try.prog 66 #[.pointer b1] W fun e w' => e = .returned (.bool x) ∧ W = w')
    (hN2 : ∀ W, Ext [] w W → Calls Try.prog 66 #[.pointer b2] W fun e w' => e = .returned (.bool y) ∧ W = w') :
    Calls Try.prog 56 #[.pointer b1, .pointer b2] w fun e w' => e = .returned (.bool (x && y)) ∧ w = w' := by
  have HN1 := Lib.hid (hN1 w (Ext.refl _ _))
  have HN2 := Lib.hid (hN2 w (Ext.refl _ _))
  clear hN1 hN2
  cases x <;> cases y
  · cases hxy
  · go_enter Try.func56, Try.ntmps56
    go_wp2_with fail
    refine HN1.out.mono ?_
    rintro e w' ⟨rfl, rfl⟩
    go_wp2_with fail
    refine HN2.out.mono ?_
    rintro e w' ⟨rfl, rfl⟩
    go_wp2_with fail
    refine HN1.out.mono ?_
    rintro e w' ⟨rfl, rfl⟩
    go_wp2
    go_ret
    exact ⟨rfl, rfl⟩
  · go_enter Try.func56, Try.ntmps56
    go_wp2_with fail
    refine HN1.out.mono ?_
    rintro e w' ⟨rfl, rfl⟩
    go_wp2_with fail
    refine HN1.out.mono ?_
    rintro e w' ⟨rfl, rfl⟩
    go_wp2_with fail
    refine HN2.out.mono ?_
    rintro e w' ⟨rfl, rfl⟩
    go_wp2
    go_ret
    exact ⟨rfl, rfl⟩
  · go_enter Try.func56, Try.ntmps56
    go_wp2_with fail
    refine HN1.out.mono ?_
    rintro e w' ⟨rfl, rfl⟩
    go_wp2_with fail
    refine HN1.out.mono ?_
    rintro e w' ⟨rfl, rfl⟩
    go_wp2_with fail
    refine HN2.out.mono ?_
    rintro e w' ⟨rfl, rfl⟩
    go_wp2
    go_ret
    exact ⟨rfl, rfl⟩
end Go.Proofs.Ytgpoplnfhlfogaa
