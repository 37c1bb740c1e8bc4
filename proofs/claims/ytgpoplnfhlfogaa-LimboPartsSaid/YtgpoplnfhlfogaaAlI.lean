/- The chapter 13 rows hold (works); few; the document's Ints. -/
import Derived.Test.YtgpoplnfhlfogaaAlH
import Derived.Deep.QuietTactic
import Derived.BigQuiet
namespace Go.Proofs.Ytgpoplnfhlfogaa
open Go Go.RowKit Go.Shelf

set_option maxHeartbeats 400000 in
theorem al_num (e : Int) (w : World) : Calls Try.prog 25 #[.int .i64 e] w fun x w' => x = .returned (.int .i64 e) ∧ w = w' := by
  go_enter Try.func25, Try.ntmps25
  go_wp2
  go_ret
  exact ⟨rfl, rfl⟩

def fewB (n : Nat) (A : Nat → ActV) (most : Int) : Bool := ((List.range n).all fun i => decide ((A i).n ≤ 20)) && decide ((n : Int) ≤ most)
theorem fewB_true {n : Nat} {A : Nat → ActV} {most : Int} (h : fewB n A most = true) : (∀ i, i < n → (A i).n ≤ 20) ∧ (n : Int) ≤ most := by
  unfold fewB at h
  rw [Bool.and_eq_true, List.all_eq_true] at h
  exact ⟨fun i hi => by simpa using h.1 i (by simpa using hi), by simpa using h.2⟩
theorem fewB_false {n : Nat} {A : Nat → ActV} {most : Int} {i : Nat} (hi : i < n) (h : 20 < (A i).n) : fewB n A most = false := by
  cases hf : fewB n A most with
  | false => rfl
  | true => have := (fewB_true hf).1 i hi; omega
theorem fewB_all {n : Nat} {A : Nat → ActV} {most : Int} (h : ∀ i, i < n → (A i).n ≤ 20) : fewB n A most = decide ((n : Int) ≤ most) := by
  unfold fewB
  rw [List.all_eq_true.2 (fun i hi => by simpa using h i (by simpa using hi))]
  rfl
set_option maxRecDepth 100000 in
set_option maxHeartbeats 1000000 in
theorem al_few (ao : Option Addr) (n cap : Nat) (A : Nat → ActV) (most : Int) (w : World) (hp : Acts w ao n A) (hn : n ≤ 9223372036854775807) (hA : ∀ i, i < n → (A i).n ≤ 9223372036854775807) :
    Calls Try.prog 20 #[.slice ao n cap, .int .i64 most] w fun e w' => e = .returned (.bool (fewB n A most)) ∧ w = w' := by
  have HP := Lib.hid hp
  have HA := Lib.hid hA
  clear hp hA
  go_enter Try.func20, Try.ntmps20
  go_wp2
  go_loopg [5] n (fun k i wr => ∃ j : Nat, i = .int .i64 j ∧ j + k = n ∧ w = wr ∧ ∀ i, i < j → (A i).n ≤ 20)
  case atStart => exact ⟨0, rfl, by omega, rfl, fun i hi => absurd hi (Nat.not_lt_zero _)⟩
  case round =>
    obtain ⟨j, rfl, hjk, rfl, hall⟩ := hrel
    have HR := Lib.hid hall
    clear hall
    by_cases hlt : j < n
    · obtain ⟨b, off, rfl, k1⟩ : ∃ b off, ao = some ⟨b, off, none⟩ ∧ w.cell? ⟨b, off + j * 3 + 2, none⟩ = some (.slice (A j).bo (A j).n (A j).cap) := by
        rcases HP.out with h | ⟨b, off, h1, h2⟩
        · omega
        · exact ⟨b, off, h1, (h2 j hlt).2.2.1⟩
      have hAj := HA.out j hlt
      obtain ⟨a, ha⟩ : ∃ a, a = (A j).n := ⟨_, rfl⟩
      rw [← ha] at k1 hAj
      have HAJ := Lib.hid ha
      clear ha
      by_cases hbig : a ≤ 20
      · go_wp2
        go_roundg (n - (j + 1))
        case measure => omega
        case rel =>
          refine ⟨j + 1, by go_num, by omega, rfl, fun i hi => ?_⟩
          rcases Nat.lt_succ_iff_lt_or_eq.1 hi with h | h
          · exact HR.out i h
          · rw [h, ← HAJ.out]; exact hbig
      · have HF := Lib.hid (fewB_false (most := most) hlt (show 20 < (A j).n by rw [← HAJ.out]; omega))
        go_wp2
        go_ret
        exact ⟨ret_bool HF.out, rfl⟩
    · have hge : n ≤ j := by omega
      have HF := Lib.hid (fewB_all (n := n) (A := A) (most := most) (fun i hi => HR.out i (by omega)))
      go_wp2
      go_ret
      exact ⟨ret_bool HF.out, rfl⟩

def eqI (n m : Nat) (L M : Nat → Int) : Bool := decide (n = m) && (List.range n).all fun i => decide (L i = M i)
theorem eqI_true {n : Nat} {L M : Nat → Int} (h : ∀ i, i < n → L i = M i) : eqI n n L M = true := by
  unfold eqI
  rw [Bool.and_eq_true, List.all_eq_true]
  exact ⟨by simp, fun i hi => by simpa using h i (by simpa using hi)⟩
theorem eqI_len {n m : Nat} {L M : Nat → Int} (h : n ≠ m) : eqI n m L M = false := by unfold eqI; simp [h]
theorem eqI_false {n m : Nat} {L M : Nat → Int} {i : Nat} (hi : i < n) (h : L i ≠ M i) : eqI n m L M = false := by
  cases hf : eqI n m L M with
  | false => rfl
  | true =>
    unfold eqI at hf
    rw [Bool.and_eq_true, List.all_eq_true] at hf
    exact absurd (by simpa using hf.2 i (by simpa using hi)) h
set_option maxRecDepth 100000 in
set_option maxHeartbeats 1000000 in
theorem rf_Ints (ao bo : Option Addr) (n m capa capb : Nat) (L M : Nat → Int) (w : World) (ha : IntsB w ao n L) (hb : IntsB w bo m M) (hn : n ≤ 9223372036854775807) (hm : m ≤ 9223372036854775807) :
    Calls Try.prog 29 #[.slice ao n capa, .slice bo m capb] w fun e w' => e = .returned (.bool (eqI n m L M)) ∧ Ext [] w w' := by
  by_cases hnm : n = m
  · subst hnm
    have HA := Lib.hid ha
    have HB := Lib.hid hb
    clear ha hb
    go_enter Try.func29, Try.ntmps29
    go_wp2
    go_loopg [5] n (fun k i wr => ∃ j : Nat, i = .int .i64 j ∧ j + k = n ∧ Ext [] w wr ∧ ∀ i, i < j → L i = M i)
    case atStart => exact ⟨0, rfl, by omega, Ext.refl _ _, fun i hi => absurd hi (Nat.not_lt_zero _)⟩
    case round =>
      obtain ⟨j, rfl, hjk, hE, hall⟩ := hrel
      have HR := Lib.hid (And.intro hE hall)
      clear hE hall
      by_cases hlt : j < n
      · obtain ⟨b, off, rfl, k1⟩ : ∃ b off, ao = some ⟨b, off, none⟩ ∧ wr.cell? ⟨b, off + j, none⟩ = some (.int .i64 (L j)) := by
          rcases HA.out.ext HR.out.1 with h | ⟨b, off, h1, h2⟩
          · omega
          · exact ⟨b, off, h1, h2 j hlt⟩
        obtain ⟨b2, off2, rfl, k2⟩ : ∃ b off, bo = some ⟨b, off, none⟩ ∧ wr.cell? ⟨b, off + j, none⟩ = some (.int .i64 (M j)) := by
          rcases HB.out.ext HR.out.1 with h | ⟨b, off, h1, h2⟩
          · omega
          · exact ⟨b, off, h1, h2 j hlt⟩
        obtain ⟨x, hx⟩ : ∃ x, x = L j := ⟨_, rfl⟩
        obtain ⟨y, hy⟩ : ∃ y, y = M j := ⟨_, rfl⟩
        rw [← hx] at k1
        rw [← hy] at k2
        have HX := Lib.hid (And.intro hx hy)
        clear hx hy
        have hi0 : (0 : Int) ≤ (j : Int) := by omega
        have hi1 : (j : Int) < (n : Int) := by omega
        by_cases hxy : x = y
        · subst hxy
          have hb : (x != x) = false := by simp
          go_wp2
          go_quiet (fail)
          go_wp2
          go_roundg (n - (j + 1))
          case measure => omega
          case rel =>
            refine ⟨j + 1, by go_num, by omega, HR.out.1.drewN _, fun i hi => ?_⟩
            rcases Nat.lt_succ_iff_lt_or_eq.1 hi with h | h
            · exact HR.out.2 i h
            · rw [h, ← HX.out.1, ← HX.out.2]
        · have hb : (x != y) = true := by simpa using hxy
          have HF := Lib.hid (eqI_false (m := n) hlt (show L j ≠ M j by rw [← HX.out.1, ← HX.out.2]; exact hxy))
          clear hxy
          go_wp2
          go_quiet (fail)
          go_wp2
          go_ret
          exact ⟨ret_bool HF.out, HR.out.1.drewN _⟩
      · have hge : n ≤ j := by omega
        have HF := Lib.hid (eqI_true (n := n) (fun i hi => HR.out.2 i (by omega)))
        go_wp2
        go_ret
        exact ⟨ret_bool HF.out, HR.out.1⟩
  · have HF := Lib.hid (eqI_len (L := L) (M := M) hnm)
    have hb : ((n : Int) != (m : Int)) = true := by simp; omega
    go_enter Try.func29, Try.ntmps29
    go_wp2
    go_ret
    exact ⟨ret_bool HF.out, Ext.refl _ _⟩
theorem IntsB.keep {w0 w w' : World} {c : Nat} {ao : Option Addr} {n : Nat} {L : Nat → Int} (h : IntsB w ao n L) (hE : Ext [c] w w') (hp : ∀ p, ao = some p → w0.heap.size ≤ p.block) (hc : c < w0.heap.size) : IntsB w' ao n L :=
  h.extm hE (fun p hq => by have := hp p hq; simp; omega)
theorem ints_lit (w : World) (ks : List Int) (t : TypeId) : IntsB (w.alloc (.cells (ints ks).toArray t)) (some ⟨w.heap.size, 0, none⟩) ks.length (fun i => ks.getD i 0) := by
  refine .inr ⟨w.heap.size, 0, rfl, fun i hi => ?_⟩
  refine cell_of (World.alloc_heap_new _ _) ?_
  simp [ints, hi]

/-- Take, its answer told -/
theorem al_take_ok (c mb : Nat) (lo : Int) (n : Nat) (S S' : Lns) (q : Nat) (er : Int) (ks : List Int) (w : World) (hlo : -1000000000 ≤ lo) (hhi : lo + n ≤ 1000000000) (hn : n ≤ 1000000) (h : Pool w c mb lo (lo + (n : Int) - 1) S) (hB : CntB S) (hq : q ≤ 9223372036854775807)
    (hr : takeN S lo n q = (er, ks, S')) :
    Calls Try.prog 24 #[.pointer (some ⟨c, 0, none⟩), .int .i64 q] w fun e w' => ∃ ao cap, e = .returned (.tuple #[.slice ao ks.length cap, .int .i64 er]) ∧ Ext [c] w w' ∧ IntsB w' ao ks.length (fun i => ks.getD i 0) ∧ (∀ p, ao = some p → w.heap.size ≤ p.block) ∧
      ∃ mb', Pool w' c mb' lo (lo + (n : Int) - 1) S' ∧ (mb' = mb ∨ w.heap.size ≤ mb') :=
  (al_take_pos c mb lo n S q w hlo hhi hn h hB hq).mono fun e w' h => by
    unfold TakePost at h
    rw [hr] at h
    exact h
theorem al_give_ok (c mb : Nat) (lo : Int) (n : Nat) (S S' : Lns) (er : Int) (ao : Option Addr) (m cap : Nat) (L : Nat → Int) (w : World) (h : Pool w c mb lo (lo + (n : Int) - 1) S) (hp : IntsB w ao m L) (hm : m ≤ 9223372036854775807) (hB : CntB S) (hr : turnN S lo n false 5 (lst L m) = (er, S')) :
    Calls Try.prog 26 #[.pointer (some ⟨c, 0, none⟩), .slice ao m cap] w fun e w' => e = .returned (.int .i64 er) ∧ Ext [c] w w' ∧ ∃ mb', Pool w' c mb' lo (lo + (n : Int) - 1) S' ∧ (mb' = mb ∨ w.heap.size ≤ mb') :=
  (al_Give c mb lo n S ao m cap L w h hp hm hB).mono fun e w' h => by
    unfold TurnPost at h
    rw [hr] at h
    exact h
theorem al_claim_ok (c mb : Nat) (lo : Int) (n : Nat) (S S' : Lns) (er : Int) (ao : Option Addr) (m cap : Nat) (L : Nat → Int) (w : World) (h : Pool w c mb lo (lo + (n : Int) - 1) S) (hp : IntsB w ao m L) (hm : m ≤ 9223372036854775807) (hB : CntB S) (hr : turnN S lo n true 231 (lst L m) = (er, S')) :
    Calls Try.prog 27 #[.pointer (some ⟨c, 0, none⟩), .slice ao m cap] w fun e w' => e = .returned (.int .i64 er) ∧ Ext [c] w w' ∧ ∃ mb', Pool w' c mb' lo (lo + (n : Int) - 1) S' ∧ (mb' = mb ∨ w.heap.size ≤ mb') :=
  (al_Claim c mb lo n S ao m cap L w h hp hm hB).mono fun e w' h => by
    unfold TurnPost at h
    rw [hr] at h
    exact h

def W1 : Lns := allL S0 true [4, 5]
def W2 : Lns := allL W1 false [4]
def W3 : Lns := allL W2 true [4, 6, 7]
theorem cntB_all {S : Lns} {t : Bool} {ks : List Int} {b : Int} (h : ∀ q, 0 ≤ (S q).2 ∧ (S q).2 ≤ b) : ∀ q, 0 ≤ (allL S t ks q).2 ∧ (allL S t ks q).2 ≤ b + 1 := fun q => by
  have := h q
  unfold allL
  by_cases hq : q ∈ ks
  · rw [if_pos hq]; cases t <;> simp <;> omega
  · rw [if_neg hq]; omega
theorem w_cnt0 : ∀ q, 0 ≤ (S0 q).2 ∧ (S0 q).2 ≤ 0 := fun _ => ⟨Int.le_refl _, Int.le_refl _⟩
theorem w_cnt1 : ∀ q, 0 ≤ (W1 q).2 ∧ (W1 q).2 ≤ 1 := cntB_all w_cnt0
theorem w_cnt2 : ∀ q, 0 ≤ (W2 q).2 ∧ (W2 q).2 ≤ 2 := cntB_all w_cnt1
theorem w_cnt3 : ∀ q, 0 ≤ (W3 q).2 ∧ (W3 q).2 ≤ 3 := cntB_all w_cnt2
theorem w_b {S : Lns} {b : Int} (h : ∀ q, 0 ≤ (S q).2 ∧ (S q).2 ≤ b) (hb : b ≤ 1000000000000) : CntB S := fun q => ⟨(h q).1, by have := (h q).2; omega⟩
theorem w_take1 : takeN S0 4 4 (2 : Nat) = (0, [4, 5], W1) := rfl
theorem w_give1 : turnN W1 4 4 false 5 (lst (fun i => [4].getD i 0) 1) = (0, W2) := by
  unfold turnN
  rw [if_pos (by decide)]
  rw [(turnS_iff false (lst (fun i => [4].getD i 0) 1) W1 W2).2 ⟨by decide, by decide, rfl⟩]
theorem w_take2 : takeN W2 4 4 (3 : Nat) = (0, [4, 6, 7], W3) := rfl
theorem w_take3 : takeN W3 4 4 (4 : Nat) = (230, [], W3) := rfl
theorem w_claim : turnN W3 4 4 true 231 (lst (fun i => [4].getD i 0) 1) = (231, W3) := rfl
theorem w_give2 : turnN W3 4 4 false 5 (lst (fun i => [9].getD i 0) 1) = (4, W3) := rfl
theorem w_give3 : turnN W3 4 4 false 5 (lst (fun i => [5, 5].getD i 0) 2) = (5, W3) := rfl
theorem w_count : countN W3 4 7 4 = (2, 0) := rfl
theorem w_take4 : takeN W3 4 4 (0 : Nat) = (0, [], allL W3 true []) := rfl
theorem w_free : ((thoseL (allL W3 true []) false 4 4).length : Int) = 0 := rfl
end Go.Proofs.Ytgpoplnfhlfogaa
