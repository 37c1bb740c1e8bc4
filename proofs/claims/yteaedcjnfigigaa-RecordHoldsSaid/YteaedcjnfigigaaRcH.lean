/- The walk of the law RecordHolds. -/
import Derived.Test.YteaedcjnfigigaaRcO
namespace Go.Proofs.Yteaedcjnfigigaa
open Go Go.RowKit

theorem xor_ne {x y : Int} (hx : U64 x) (hy : U64 y) (h : y ≠ 0) : bits .xor .u64 x y ≠ x := by
  obtain ⟨a, rfl, ha⟩ := hx.nat
  obtain ⟨b, rfl, hb⟩ := hy.nat
  rw [bits_xor_u64_nat a b ha hb]
  intro h2
  have h3 : a ^^^ b = a ^^^ 0 := by rw [Nat.xor_zero]; exact Int.ofNat_inj.1 h2
  exact h (by rw [nat_xor_inj _ _ _ h3]; rfl)
theorem xor_U {x y : Int} (hx : U64 x) (hy : U64 y) : U64 (bits .xor .u64 x y) := by
  obtain ⟨a, rfl, ha⟩ := hx.nat
  obtain ⟨b, rfl, hb⟩ := hy.nat
  rw [bits_xor_u64_nat a b ha hb]
  have := xor_lt a b ha hb
  unfold U64
  omega
/-- words of which one is another one -/
def bentF (F : Nat → Int) (k : Nat) (y : Int) (i : Nat) : Int := if i = k then bits .xor .u64 (F k) y else F i
theorem bent_set {w : World} {g k : Nat} {F : Nat → Int} {y : Int} {e : TypeId} (h : w.heap[g]? = some (.cells (arrF 24 F) e (0, 0))) : (w.setCell ⟨g, k, none⟩ (.int .u64 (bits .xor .u64 (F k) y))).heap[g]? = some (.cells (arrF 24 (bentF F k y)) e (0, 0)) := by
  simp only [World.setCell, Array.getElem?_modify, if_true, h]
  simp only [Option.map_some, Option.isSome_none, Bool.false_eq_true, if_false, arrF_set]
  rw [show (fun i => if i = k then bits .xor .u64 (F k) y else F i) = bentF F k y from rfl]
theorem bent_ext (F : Nat → Int) (k : Nat) (y : Int) {w0 w : World} (h : Ext [] w0 w) : Ext [] w0 (w.setCell ⟨w0.heap.size, k, none⟩ (.int .u64 (bits .xor .u64 (F k) y))) :=
  h.setCell (.inr (Nat.le_refl _)) _
theorem bent_U {F : Nat → Int} {k : Nat} {y : Int} (hF : ∀ i, U64 (F i)) (hy : U64 y) (i : Nat) : U64 (bentF F k y i) := by
  unfold bentF
  split
  · exact xor_U (hF k) hy
  · exact hF i
theorem bent_unp {n : Nat} {L : Nat → Int × Int} {k : Nat} {y : Int} (h : checkE L n = 0) (hL : PutsU L n) (hk : k < 24) (hy : U64 y) (h0 : y ≠ 0) : unpE (bentF (packW n L) k y) = 5 := by
  have hU : ∀ i, U64 (packW n L i) := packW_U (checkE_ok h).2.1 (checkE_ok h).1 hL
  refine unpE_one h hL (fun i _ => bent_U hU hy i) hk (fun i _ hi => if_neg hi) ?_
  rw [show bentF (packW n L) k y k = bits .xor .u64 (packW n L k) y from if_pos rfl]
  exact xor_ne (hU k) hy h0

set_option maxRecDepth 100000 in
set_option maxHeartbeats 4000000 in
theorem rc_holds (ao : Option Addr) (n cap : Nat) (L : Nat → Int × Int) (at' y : Int) (w : World) (hp : Puts w ao n L) (hU : PutsU L n) (hn : n ≤ 9223372036854775807) (hy : U64 y) :
    Calls Try.prog 4 #[.slice ao n cap, .int .i64 at', .int .u64 y] w fun e w' => e = .returned (.bool true) ∧ Ext [] w w' := by
  have HW := Lib.hid (rc_works)
  have HP := Lib.hid hp
  have HU := Lib.hid hU
  have HY := Lib.hid hy
  clear hp hU hy
  by_cases g1 : 20 < n
  · go_enter Try.func4, Try.ntmps4
    go_wp2_with (go_at_call 8; refine (HW.out _).mono ?_; rintro e w' ⟨rfl, hE⟩)
    go_ret
    exact ⟨rfl, hE⟩
  by_cases g2 : at' < 0
  · go_enter Try.func4, Try.ntmps4
    go_wp2_with (go_at_call 8; refine (HW.out _).mono ?_; rintro e w' ⟨rfl, hE⟩)
    go_ret
    exact ⟨rfl, hE⟩
  obtain ⟨k, rfl⟩ : ∃ k : Nat, at' = k := ⟨at'.toNat, by omega⟩
  by_cases g3 : 23 < k
  · go_enter Try.func4, Try.ntmps4
    go_wp2_with (go_at_call 8; refine (HW.out _).mono ?_; rintro e w' ⟨rfl, hE⟩)
    go_ret
    exact ⟨rfl, hE⟩
  by_cases g4 : y = 0
  · subst g4
    go_enter Try.func4, Try.ntmps4
    go_wp2_with (go_at_call 8; refine (HW.out _).mono ?_; rintro e w' ⟨rfl, hE⟩)
    go_ret
    exact ⟨rfl, hE⟩
  have hy0 : (y == 0) = false := by simpa using g4
  have G4 := Lib.hid g4
  clear g4
  rcases checkE_cases L n with hc | hc
  · have HC := Lib.hid hc
    clear hc
    obtain ⟨hok, hn11, _⟩ := checkE_ok HC.out
    clear hok
    obtain ⟨F, hF⟩ : ∃ F, F = packW n L := ⟨_, rfl⟩
    have HFU : Hid (∀ i, U64 (F i)) := by rw [hF]; exact packW_U hn11 (checkE_ok HC.out).1 HU.out
    have hc' : checkE (unpL F) n = 0 := by rw [hF, checkE_congr _ L n (fun i hi => by rw [unpL_pack (checkE_ok HC.out).1 i hi])]; exact HC.out
    have hpk : packW n (unpL F) = F := by rw [hF]; exact packW_congr n _ L (unpL_pack (checkE_ok HC.out).1)
    have hu : unpE F = 0 := by rw [hF]; exact unpE_pack HC.out
    have hun : unpN F = n := by rw [hF]; exact unpN_pack hn11
    have hV : unpE (bentF F k y) = 5 := by rw [hF]; exact bent_unp HC.out HU.out (by omega) HY.out G4.out
    have HH := Lib.hid (And.intro hc' (And.intro hpk (And.intro hu (And.intro hun hV))))
    clear hc' hpk hu hun hV
    have HFF := Lib.hid hF
    clear hF
    have hxr : IntKind.u64.wrap (k : Int) = k := IntWalk.u64_in _ (by omega)
    go_enter Try.func4, Try.ntmps4
    go_wp2_with fail
    refine (rc_pack ao n cap L w HP.out (by omega)).mono ?_
    rintro e W1 ⟨rfl, hE1⟩
    rw [if_pos HC.out, HC.out, ← HFF.out]
    have HE1 := Lib.hid hE1
    clear hE1
    go_wp2_with (first
      | ((with_reducible refine load25 hb2 ?_ ?_); exact rfl) | ((with_reducible refine store25z (g := W1.heap.size) (G := F) ?_ ?_ ?_ ?_); exact rfl; exact rfl; exact rfl; intro W2 hE2 hs2 hb2; clear hs2)
      | (go_at_call 11; refine (rc_num _ _ (by omega)).mono ?_; rintro e w' ⟨rfl, rfl⟩))
    refine (rc_unpack F W2 (fun i => (HFU.out i).1)).mono ?_
    rintro e W3 ⟨bo, m, cap', rfl, hE3, _, h0⟩
    obtain ⟨rfl, hP3⟩ := h0 HH.out.2.2.1
    rw [HH.out.2.2.1]
    rw [HH.out.2.2.2.1] at hP3 ⊢
    have HP3 := Lib.hid hP3
    have HE3 := Lib.hid (HE1.out.trans (hE2.trans hE3))
    have b3 := hE3.at hb2 (by simp)
    clear hP3 h0 hE2 hE3 hb2
    go_wp2_with fail
    refine (rc_pack bo n cap' (unpL F) W3 HP3.out (by omega)).mono ?_
    rintro e W4 ⟨rfl, hE4⟩
    rw [if_pos HH.out.1, HH.out.1, HH.out.2.1]
    have b4 := hE4.at b3 (by simp)
    have HE4 := Lib.hid hE4
    clear hE4 b3
    go_wp2_with (first
      | ((with_reducible refine load25 b5 ?_ ?_); exact rfl)
      | ((with_reducible refine store25z (g := W4.heap.size) (G := F) ?_ ?_ ?_ ?_); exact rfl; exact rfl; exact rfl; intro W5 hE5 hs5 c5; clear hs5; have b5 := hE5.at b4 (by simp))
      | ((with_reducible refine store25z (g := W5.heap.size) (G := F) ?_ ?_ ?_ ?_); exact rfl; exact rfl; exact rfl; intro W6 hE6 hs6 hb6; clear hs6; have k6 := cell_of hb6 (arrF_get 24 F k (by omega)); have f6 := free_of hb6 k; have hb7 := bent_set (y := y) (k := k) hb6; have hE7 := bent_ext F k y hE6)
      | ((with_reducible refine load25 hb7 ?_ ?_); exact rfl))
    have HE7 := Lib.hid (HE3.out.trans (HE4.out.trans (hE5.trans hE7)))
    have b57 := hE7.at b5 (by simp)
    have c57 := hE7.at c5 (by simp)
    clear k6 f6 hb6 hE6 hE5 hE7 b4 b5 c5
    obtain ⟨V, hV⟩ : ∃ V, V = bentF F k y := ⟨_, rfl⟩
    rw [← hV] at hb7 ⊢
    have HV := Lib.hid hV
    clear hV
    obtain ⟨W7, hW7⟩ : ∃ W7, W7 = W6.setCell ⟨W5.heap.size, k, none⟩ (.int .u64 (bits .xor .u64 (F k) y)) := ⟨_, rfl⟩
    rw [← hW7] at HE7 b57 c57 hb7 ⊢
    clear hW7
    have hV0 : ∀ i, 0 ≤ V i := fun i => by rw [HV.out]; exact (bent_U HFU.out HY.out i).1
    have HV0 := Lib.hid hV0
    clear hV0
    refine (rc_unpack V W7 HV0.out).mono ?_
    rintro e W8 ⟨bo8, m8, cap8, rfl, hE8, hz8, _⟩
    have hu8 : unpE V = 5 := by rw [HV.out]; exact HH.out.2.2.2.2
    obtain ⟨rfl, rfl, rfl⟩ := hz8 hu8
    have hk8 : kindE V = if V 0 = 0 then 0 else 2 := by unfold kindE; rw [hu8, if_neg (show ¬ (5 : Int) = 0 by decide)]
    rw [hu8]
    have HK8 := Lib.hid hk8
    have b58 := hE8.at b57 (by simp)
    have c58 := hE8.at c57 (by simp)
    have b78 := hE8.at hb7 (by simp)
    have HE8 := Lib.hid (HE7.out.trans hE8)
    clear hE8 b57 c57 hb7 hz8 hu8 hk8
    go_wp2_with ((with_reducible refine load25 b78 ?_ ?_); exact rfl)
    refine (rc_kind V W8 HV0.out).mono ?_
    rintro e W9 ⟨rfl, hE9⟩
    rw [HK8.out]
    have b59 := hE9.at b58 (by simp)
    have c59 := hE9.at c58 (by simp)
    have b79 := hE9.at b78 (by simp)
    have k0 := cell_of b79 (arrF_get 24 V 0 (by omega))
    have HE9 := Lib.hid (HE8.out.trans hE9)
    have heq := eq25 F F
    rw [eqB_refl] at heq
    clear hE9 b58 c58 b78 b79
    generalize V 0 = z at *
    by_cases hz : z = 0
    · subst hz
      rw [if_pos rfl]
      go_wp2_with (first
        | ((with_reducible refine load25g b59 ?_ ?_ ?_); exact rfl; exact rfl)
        | ((with_reducible refine load25g c59 ?_ ?_ ?_); exact rfl; exact rfl)
        | (go_at_call 11; refine (rc_num _ _ (by omega)).mono ?_; rintro e w' ⟨rfl, rfl⟩)
        | (go_at_call 8; refine (HW.out _).mono ?_; rintro e w' ⟨rfl, hE⟩))
      go_ret
      exact ⟨rfl, HE9.out.trans hE⟩
    · rw [if_neg hz]
      have hz' : (z == 0) = false := by simpa using hz
      clear hz
      go_wp2_with (first
        | ((with_reducible refine load25g b59 ?_ ?_ ?_); exact rfl; exact rfl)
        | ((with_reducible refine load25g c59 ?_ ?_ ?_); exact rfl; exact rfl)
        | (go_at_call 11; refine (rc_num _ _ (by omega)).mono ?_; rintro e w' ⟨rfl, rfl⟩)
        | (go_at_call 8; refine (HW.out _).mono ?_; rintro e w' ⟨rfl, hE⟩))
      go_ret
      exact ⟨rfl, HE9.out.trans hE⟩
  · rcases hc with h | h | h
    all_goals
      have HC := Lib.hid h
      clear h
      go_enter Try.func4, Try.ntmps4
      go_wp2_with fail
      refine (rc_pack ao n cap L w HP.out (by omega)).mono ?_
      rintro e W1 ⟨rfl, hE1⟩
      rw [HC.out, if_neg (by decide)]
      go_wp2_with (first
        | ((with_reducible refine store25z (g := W1.heap.size) (G := fun _ => 0) ?_ ?_ ?_ ?_); exact rfl; exact rfl; exact rfl; intro W2 hE2 hs2 hb2; clear hs2)
        | (go_at_call 11; refine (rc_num _ _ (by omega)).mono ?_; rintro e w' ⟨rfl, rfl⟩)
        | (go_at_call 8; refine (HW.out _).mono ?_; rintro e w' ⟨rfl, hE⟩))
      go_ret
      exact ⟨rfl, hE1.trans (hE2.trans hE)⟩
end Go.Proofs.Yteaedcjnfigigaa
