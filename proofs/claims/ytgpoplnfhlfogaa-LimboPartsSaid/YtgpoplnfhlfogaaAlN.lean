/- Package alloc: Copy, Same. -/
import Derived.Test.YtgpoplnfhlfogaaAlI
import Derived.Deep.RegionLaw
import Derived.RegionTactic
import Derived.Test.YtgpoplnfhlfogaaArr
namespace Go.Proofs.Ytgpoplnfhlfogaa
open Go Go.RowKit Go.Shelf
attribute [local go_sem] Oper.semAt_some

set_option maxRecDepth 100000 in
set_option maxHeartbeats 1000000 in
theorem al_Copy (c mb : Nat) (lo hi : Int) (S : Lns) (w : World) (h : Pool w c mb lo hi S) :
    Calls Try.prog 28 #[.pointer (some ⟨c, 0, none⟩)] w fun e w' => ∃ c' mb', e = .returned (.pointer (some ⟨c', 0, none⟩)) ∧ Ext [] w w' ∧ Pool w' c' mb' lo hi S ∧ w.heap.size ≤ c' ∧ w.heap.size ≤ mb' := by
  have HN := Lib.hid (al_none c mb lo hi S w h)
  obtain ⟨l, hl, hS⟩ := h.2
  have HCL : Hid (∀ W, Ext [] w W → Calls Try.prog 75 #[.map (some mb)] W fun e w' => ∃ nb, e = .returned (.map (some nb)) ∧ Ext [] w w' ∧ w.heap.size ≤ nb ∧ Lines w' nb S) := by
    intro W hE
    refine (mp_clone mb l W (hl.ext hE (by simp))).mono ?_
    rintro e w' ⟨rfl, hE2, _, hI⟩
    exact ⟨_, rfl, hE.trans hE2, hE.size, l, hI, hS⟩
  have k1 := cell_of (j := 0) (v := .int .i64 lo) h.1 rfl
  have k2 := cell_of (j := 1) (v := .int .i64 hi) h.1 rfl
  have k3 := cell_of (j := 2) (v := .map (some mb)) h.1 rfl
  clear h hl hS
  go_enter Try.func28, Try.ntmps28
  go_wp2_with fail
  refine HN.out.mono ?_
  rintro e w' ⟨rfl, rfl⟩
  go_wp2
  go_region_with (go_at_call 75; refine (HCL.out _ ?_).mono ?_; exact Ext.drew (Ext.refl _ _); rintro e w5 ⟨nb, rfl, hE5, hnb, hL5⟩; have q1 := hE5.cell k1 (by simp); have q2 := hE5.cell k2 (by simp); have q3 := hE5.cell k3 (by simp); have HE5 := Lib.hid (And.intro hE5 hL5); clear hE5 hL5)
  all_goals go_wp2
  all_goals
    go_ret
    exact ⟨_, nb, rfl, HE5.out.1.alloc _, ⟨World.alloc_heap_new _ _, HE5.out.2.ext ((Ext.refl [] _).alloc _) (by simp)⟩, HE5.out.1.size, hnb⟩

theorem neqLine (a b : Bool) (x y : Int) (w : World) : (binOp .neq 114 (.agg #[.bool a, .int .i64 x]) (.agg #[.bool b, .int .i64 y])).run Try.prog w = .ok (.bool (!(a == b && x == y))) w := by
  have u3 := Try.underlying3
  have u4 := Try.underlying4
  have hS : Try.prog.underlying 114 = some (.struct (Try.prog.fieldsOf 114)) := by kernel_rfl
  have hp : Try.prog.stoodInHeld 114 = false := by kernel_rfl
  rw [run_neq_struct, show (10000 : Nat) = 9999 + 1 from rfl, run_equalIn_agg w 9999 114 _ _ hS hp]
  simp only [Program.fieldsOf, Try.underlying114]
  go_simp
  cases hab : (a == b) <;> cases hxy : (x == y) <;> simp_all

/-- whether two lines say the same -/
def lnEq (S1 S2 : Lns) (k : Int) : Bool := (S1 k).1 == (S2 k).1 && (S1 k).2 == (S2 k).2
set_option maxRecDepth 100000 in
set_option maxHeartbeats 1000000 in
theorem al_same1 (b1 b2 c1 c2 mb1 mb2 : Nat) (lo1 hi1 lo2 hi2 : Int) (S1 S2 : Lns) (k : Int) (w : World) (hp1 : w.cell? ⟨b1, 0, none⟩ = some (.pointer (some ⟨c1, 0, none⟩))) (hp2 : w.cell? ⟨b2, 0, none⟩ = some (.pointer (some ⟨c2, 0, none⟩)))
    (h1 : Pool w c1 mb1 lo1 hi1 S1) (h2 : Pool w c2 mb2 lo2 hi2 S2) :
    Calls Try.prog 76 #[.int .i64 k, .pointer (some ⟨b1, 0, none⟩), .pointer (some ⟨b2, 0, none⟩)] w fun e w' => e = .returned (.bool (!lnEq S1 S2 k)) ∧ Ext [] w w' := by
  have hl1 := fun n => look_line (h1.ext ((Ext.refl [] w).drewN n) (by simp) (by simp)).2 k
  have hl2 := fun n => look_line (h2.ext ((Ext.refl [] w).drewN n) (by simp) (by simp)).2 k
  have k1 := cell_of (j := 2) (v := .map (some mb1)) h1.1 rfl
  have k2 := cell_of (j := 2) (v := .map (some mb2)) h2.1 rfl
  have hq := neqLine (S1 k).1 (S2 k).1 (S1 k).2 (S2 k).2
  unfold lnEq
  clear h1 h2
  generalize (S1 k).1 = t1 at *
  generalize (S1 k).2 = u1 at *
  generalize (S2 k).1 = t2 at *
  generalize (S2 k).2 = u2 at *
  go_enter Try.func76, Try.ntmps76
  go_wp2
  go_quiet (fail)
  go_wp2
  go_ret
  exact ⟨ret_bool (Bool.not_and _ _), Ext.drewN (Ext.refl _ _) _⟩

theorem eqBounds (a b : Int) (w : World) : (binOp .eql 62 (.agg #[.int .i64 a, .int .i64 b]) (.agg #[.int .i64 a, .int .i64 b])).run Try.prog w = .ok (.bool true) w := by
  have p0 := run_partInt w 3 .i64 Try.underlying3 #[.int .i64 a, .int .i64 b] 0 (.int .i64 a) rfl
  have p1 := run_partInt w 3 .i64 Try.underlying3 #[.int .i64 a, .int .i64 b] 1 (.int .i64 b) rfl
  have e0 := run_equalIn_int w 9998 3 .i64 .i64 a a Try.underlying3
  have e1 := run_equalIn_int w 9998 3 .i64 .i64 b b Try.underlying3
  rw [run_eql_struct, show (10000 : Nat) = 9998 + 2 from rfl, Op.equalIn]
  simp only [Sem.run_bind, run_underlying Try.underlying62, Result.andThen_ok, Try.sizeOf3]
  rw [Std.Legacy.Range.forIn_eq_forIn_range']
  simp only [Std.Legacy.Range.size, Nat.sub_zero, Nat.add_sub_cancel, Nat.div_one, Nat.mul_one]
  rw [show List.range' 0 2 1 = [0, 1] from rfl]
  simp [Sem.run_bind, p0, p1, e0, e1]
end Go.Proofs.Ytgpoplnfhlfogaa
