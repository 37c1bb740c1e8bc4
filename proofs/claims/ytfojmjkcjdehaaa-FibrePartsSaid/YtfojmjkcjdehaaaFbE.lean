/- Package fibre: Same, Then, Copy. -/
import Derived.Test.YtfojmjkcjdehaaaFbD
namespace Go.Proofs.Ytfojmjkcjdehaaa
open Go Go.RowKit Go.Shelf
attribute [local go_sem] Oper.semAt_some

set_option maxHeartbeats 400000 in
theorem fb_Same_nn (a b : Option Addr) (w : World) (ha : NoneF w (.pointer a)) (hb : NoneF w (.pointer b)) :
    Calls Try.prog 41 #[.pointer a, .pointer b] w fun e w' => e = .returned (.bool true) ∧ w = w' := by
  have HA := Lib.hid (fb_isnone _ w ha)
  have HB := Lib.hid (fb_isnone _ w hb)
  clear ha hb
  go_enter Try.func41, Try.ntmps41
  go_wp2_with fail
  refine HA.out.mono ?_
  rintro e w' ⟨rfl, rfl⟩
  go_wp2_with fail
  refine HA.out.mono ?_
  rintro e w' ⟨rfl, rfl⟩
  go_wp2_with fail
  refine HB.out.mono ?_
  rintro e w' ⟨rfl, rfl⟩
  go_wp2
  go_ret
  exact ⟨rfl, rfl⟩
set_option maxHeartbeats 400000 in
theorem fb_Same_fn (b : Option Addr) (f N : Nat) (L dn : List Tch) (w : World) (ha : FibAt w N f L dn) (hb : NoneF w (.pointer b)) :
    Calls Try.prog 41 #[.pointer (some ⟨f, 0, none⟩), .pointer b] w fun e w' => e = .returned (.bool false) ∧ w = w' := by
  have HA := Lib.hid (fb_none f N L dn w ha)
  have HB := Lib.hid (fb_isnone _ w hb)
  clear ha hb
  go_enter Try.func41, Try.ntmps41
  go_wp2_with fail
  refine HA.out.mono ?_
  rintro e w' ⟨rfl, rfl⟩
  go_wp2_with fail
  refine HB.out.mono ?_
  rintro e w' ⟨rfl, rfl⟩
  go_wp2_with fail
  refine HA.out.mono ?_
  rintro e w' ⟨rfl, rfl⟩
  go_wp2
  go_ret
  exact ⟨rfl, rfl⟩
set_option maxHeartbeats 400000 in
theorem fb_Same_nf (a : Option Addr) (f N : Nat) (L dn : List Tch) (w : World) (ha : NoneF w (.pointer a)) (hb : FibAt w N f L dn) :
    Calls Try.prog 41 #[.pointer a, .pointer (some ⟨f, 0, none⟩)] w fun e w' => e = .returned (.bool false) ∧ w = w' := by
  have HA := Lib.hid (fb_isnone _ w ha)
  have HB := Lib.hid (fb_none f N L dn w hb)
  clear ha hb
  go_enter Try.func41, Try.ntmps41
  go_wp2_with fail
  refine HA.out.mono ?_
  rintro e w' ⟨rfl, rfl⟩
  go_wp2_with fail
  refine HA.out.mono ?_
  rintro e w' ⟨rfl, rfl⟩
  go_wp2_with fail
  refine HB.out.mono ?_
  rintro e w' ⟨rfl, rfl⟩
  go_wp2
  go_ret
  exact ⟨rfl, rfl⟩
set_option maxRecDepth 100000 in
set_option maxHeartbeats 1600000 in
theorem fb_Same (f1 f2 N N' : Nat) (A da B db : List Tch) (w : World) (hA : FibAt w N f1 A da) (hB : FibAt w N' f2 B db) (l1 : A.length ≤ 1000000) (l2 : da.length ≤ 1000000) (l3 : B.length ≤ 1000000) (l4 : db.length ≤ 1000000) :
    Calls Try.prog 41 #[.pointer (some ⟨f1, 0, none⟩), .pointer (some ⟨f2, 0, none⟩)] w fun e w' => e = .returned (.bool (decide (da = db) && decide (A = B))) ∧ Ext [] w w' := by
  have HA := Lib.hid (fb_none f1 N A da w hA)
  have HB := Lib.hid (fb_none f2 N' B db w hB)
  obtain ⟨_, lo1, lc1, po1, pc1, h1, ha, hda, _⟩ := hA
  obtain ⟨_, lo2, lc2, po2, pc2, h2, hb, hdb, _⟩ := hB
  obtain ⟨k0, k1, k2⟩ := three' h1
  obtain ⟨q0, q1, q2⟩ := three' h2
  have HD := Lib.hid (fun n => tc_equal N N' po1 po2 pc1 pc2 da db (w.drewN n) (hda.ext0 ((Ext.refl _ _).drewN n)) (hdb.ext0 ((Ext.refl _ _).drewN n)) (by omega) (by omega))
  have HL := Lib.hid (fun n => tc_equal N N' lo1 lo2 lc1 lc2 A B (w.drewN n) (ha.ext0 ((Ext.refl _ _).drewN n)) (hb.ext0 ((Ext.refl _ _).drewN n)) (by omega) (by omega))
  generalize A.length = nA at *
  generalize da.length = nda at *
  generalize B.length = nB at *
  generalize db.length = ndb at *
  generalize decide (da = db) = e1 at *
  generalize decide (A = B) = e2 at *
  clear h1 h2 ha hda hb hdb l1 l2 l3 l4
  cases e1 <;> cases e2
  all_goals
    go_enter Try.func41, Try.ntmps41
    go_wp2_with fail
    refine HA.out.mono ?_
    rintro e w' ⟨rfl, rfl⟩
    go_wp2_with fail
    refine HB.out.mono ?_
    rintro e w' ⟨rfl, rfl⟩
    go_wp2
    go_quiet ((first
      | (go_at_call_of 94 (Value.slice po1 nda pc1); exact Calls.quiet_of (HD.out _))
      | (go_at_call_of 94 (Value.slice lo1 nA lc1); exact Calls.quiet_of (HL.out _))))
    go_wp2
    go_ret
    exact ⟨rfl, (Ext.refl [] w).drewN _⟩
end Go.Proofs.Ytfojmjkcjdehaaa
