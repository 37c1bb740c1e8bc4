/- The document's pool: Those, Take. -/
import Derived.Test.YtgpoplnfhlfogaaAlS
import Derived.Test.YtgpoplnfhlfogaaAlH
import Derived.RegionTactic
namespace Go.Proofs.Ytgpoplnfhlfogaa
open Go Go.RowKit Go.Shelf

theorem thoseL_yes {S : Lns} {t : Bool} {lo : Int} {n : Nat} (h : (S (lo + (n : Int))).1 = t) : thoseL S t lo (n + 1) = thoseL S t lo n ++ [lo + (n : Int)] := by
  unfold thoseL; rw [lnsOf_succ, List.filter_append]; simp [h]
theorem thoseL_no {S : Lns} {t : Bool} {lo : Int} {n : Nat} (h : (S (lo + (n : Int))).1 ≠ t) : thoseL S t lo (n + 1) = thoseL S t lo n := by
  unfold thoseL; rw [lnsOf_succ, List.filter_append]; simp [h]
theorem thoseL_le (S : Lns) (t : Bool) (lo : Int) (n : Nat) : (thoseL S t lo n).length ≤ n := by
  unfold thoseL; exact Nat.le_trans (List.length_filter_le _ _) (by simp [lnsOf])

theorem owns_base {w : World} {B B' : Nat} {e : TypeId} {size : Nat} {v : Value} {n : Nat} {xs : List Value} (h : w.ownsRow B e size v n xs) (hB : B' ≤ B) : w.ownsRow B' e size v n xs := by
  refine ⟨h.1, ?_⟩
  rcases h.2 with h2 | ⟨g, cap, cur, h1, h2, h3⟩
  · exact .inl h2
  · exact .inr ⟨g, cap, cur, h1, Nat.le_trans hB h2, h3⟩
set_option maxRecDepth 100000 in
set_option maxHeartbeats 2000000 in
theorem rf_Those (lo : Int) (ao : Option Addr) (n cap : Nat) (S : Lns) (t : Bool) (w : World) (h0 : -1000000000 ≤ lo) (h1 : lo + n ≤ 1000000000) (hn : n ≤ 1000000) (hR : RPl w ao lo n S) :
    Calls Try.prog 39 #[.agg #[.int .i64 lo, .slice ao n cap], .bool t] w fun e w' => ∃ v, e = .returned v ∧ OwnI w' w.heap.size v (thoseL S t lo n) ∧ Ext [] w w' := by
  obtain ⟨i0, hi, hz0, hz1, hz2⟩ := info_parts infoInt
  have HR := Lib.hid hR
  have hb0 : (w.alloc (.cells #[.int .i64 lo, .slice ao n cap] 56)).heap[w.heap.size]? = some (.cells #[.int .i64 lo, .slice ao n cap] 56 (0, 0)) := World.alloc_heap_new _ _
  have hE0 := (Ext.refl [] w).alloc (.cells #[.int .i64 lo, .slice ao n cap] 56)
  have hs0 : (w.alloc (.cells #[.int .i64 lo, .slice ao n cap] 56)).heap.size = w.heap.size + 1 := by simp
  generalize hw0 : w.alloc (.cells #[.int .i64 lo, .slice ao n cap] 56) = w0 at *
  have H0 := Lib.hid (And.intro hb0 (And.intro hE0 hs0))
  clear hR hb0 hE0 hs0
  go_enter Try.func39, Try.ntmps39
  go_wp2
  go_loopg [5, 6] n (fun k v i wr => ∃ j : Nat, i = .int .i64 j ∧ j + k = n ∧ OwnI wr (w.heap.size + 1) v (thoseL S t lo j) ∧ Ext [] w0 wr)
  case atStart => exact ⟨0, rfl, by omega, World.ownsRow_nil _ _ _ _, Ext.refl _ _⟩
  case round =>
    obtain ⟨j, rfl, hjk, hown, hE⟩ := hrel
    obtain ⟨co, cc, rfl, _, _⟩ := ints_of_owns hown
    have b0 := hE.at H0.out.1 (by simp)
    have k0 := cell_of (j := 0) (v := .int .i64 lo) b0 rfl
    have k1 := cell_of (j := 1) (v := .slice ao n cap) b0 rfl
    have hsz := hE.size
    have hs0 := H0.out.2.2
    have HE := Lib.hid (And.intro hown hE)
    have hz : w.heap.size + 1 ≤ wr.heap.size := by omega
    clear hown hE b0 hsz hs0
    by_cases hlt : j < n
    · obtain ⟨b, off, rfl, q0⟩ : ∃ b off, ao = some ⟨b, off, none⟩ ∧ wr.cell? ⟨b, off + j * 2, none⟩ = some (.bool (S (lo + (j : Int))).1) := by
        rcases HR.out.ext0 (H0.out.2.1.trans HE.out.2) with h | ⟨b, off, h1, h2⟩
        · omega
        · exact ⟨b, off, h1, (h2 j hlt).1⟩
      have hll := thoseL_le S t lo j
      by_cases hst : (S (lo + (j : Int))).1 = t
      · have HY := Lib.hid (thoseL_yes (n := j) hst)
        rw [hst] at q0
        clear hst
        have hown' := HE.out.1.alloc (.cells #[.int .i64 (lo + (j : Int))] 3)
        have hsrc : RowSrc (wr.alloc (.cells #[.int .i64 (lo + (j : Int))] 3)) (some ⟨wr.heap.size, 0, none⟩) 1 1 [.int .i64 (lo + (j : Int))] := .inr ⟨_, rfl, rfl, holds_of_block (World.alloc_heap_new _ _) _ (fun j v h => by simpa using h), by simp [Value.oneCell']⟩
        have HO := Lib.hid (And.intro hown' hsrc)
        have hbt : (t == t) = true := by cases t <;> rfl
        clear hown' hsrc
        go_wp2_with (at_builtin; refine wpList_append_any rfl _ _ 43 rfl (w.heap.size + 1) 3 i0 (.int .i64 0) 1 8 Try.underlying43 hi hz0 hz1 hz2 rfl (by decide) _ _ _ rfl HO.out.1 (some ⟨wr.heap.size, 0, none⟩) 1 1 _ rfl HO.out.2 (by unfold maxLen; omega) (by omega) (by simp; omega) ?_)
        intro v' w1 ho1 hE1 hl1
        have H1 : Hid (OwnI w1 (w.heap.size + 1) v' (thoseL S t lo (j + 1)) ∧ Ext [] w0 w1) := by
          refine ⟨?_, ?_⟩
          · show World.ownsRow _ _ _ _ _ (thoseL S t lo (j + 1)).length (ints (thoseL S t lo (j + 1)))
            rw [HY.out, List.length_append, ints_snoc]
            exact ho1
          · refine (HE.out.2.alloc _).trans' hE1 (fun k hk => ?_)
            have := HE.out.1.lt
            have hs0 := H0.out.2.2
            cases hv : (Value.slice co (thoseL S t lo j).length cc).ownBlock with
            | none => rw [hv] at hk; cases hk
            | some g => rw [hv] at hk; simp at hk; subst hk; exact .inr (by have := (this _ hv).1; omega)
        obtain ⟨ro, rc, rfl⟩ := slice_of_owns ho1
        clear ho1 hE1 hl1
        go_wp2
        go_roundg (n - (j + 1))
        case measure => omega
        case rel => exact ⟨j + 1, by go_num, by omega, H1.out.1, H1.out.2⟩
      · have HY := Lib.hid (thoseL_no (n := j) hst)
        have hbt : ((S (lo + (j : Int))).1 == t) = false := by simpa using hst
        generalize (S (lo + (j : Int))).1 = tt at *
        clear hst
        go_wp2
        go_roundg (n - (j + 1))
        case measure => omega
        case rel => exact ⟨j + 1, by go_num, by omega, by rw [HY.out]; exact HE.out.1, HE.out.2⟩
    · have hge : n ≤ j := by omega
      have hjn : j = n := by omega
      have HJ : Hid (OwnI wr w.heap.size (.slice co (thoseL S t lo j).length cc) (thoseL S t lo n)) := by
        unfold Hid
        have := HE.out.1
        rw [hjn] at this ⊢
        exact owns_base this (by omega)
      clear hjn
      go_wp2
      go_ret
      exact ⟨_, rfl, HJ.out, H0.out.2.1.trans HE.out.2⟩
end Go.Proofs.Ytgpoplnfhlfogaa
