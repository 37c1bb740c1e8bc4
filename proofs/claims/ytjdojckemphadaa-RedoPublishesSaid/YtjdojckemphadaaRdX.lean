/- redo.Publish's question: does a put lie in the journal? -/
import Derived.Test.YtjdojckemphadaaRdV
namespace Go.Proofs.Ytjdojckemphadaa
open Go Go.RowKit Go.Shelf
attribute [local go_sem] Oper.semAt_some

/-- an address of the journal -/
def jHas (j : Int) (a : Int) : Bool := decide (8 * j ≤ a) && decide (a < 8 * j + 24)
set_option maxRecDepth 100000 in
set_option maxHeartbeats 800000 in
theorem rd_has (j a : Int) (w : World) (hj : 0 ≤ j ∧ j ≤ 1021) : Calls Try.prog 16 #[.agg #[.int .i64 j], .int .i64 a] w fun e w' => e = .returned (.bool (jHas j a)) ∧ Ext [] w w' := by
  unfold jHas
  obtain ⟨A, hA⟩ : ∃ A, decide (8 * j ≤ a) = A := ⟨_, rfl⟩
  obtain ⟨B, hB⟩ : ∃ B, decide (a < 8 * j + 24) = B := ⟨_, rfl⟩
  rw [hA, hB]
  obtain ⟨w0, hw0⟩ : ∃ w0, w.alloc (.cells #[.int .i64 j] 47) = w0 := ⟨_, rfl⟩
  have hb0 : w0.heap[w.heap.size]? = some (.cells #[.int .i64 j] 47 (0, 0)) := by rw [← hw0]; exact World.alloc_heap_new _ _
  have H0 : Hid (Ext [] w w0) := by rw [← hw0]; exact (Ext.refl _ _).alloc _
  have k0 := cell_of (j := 0) (v := .int .i64 j) hb0 rfl
  have h8 : (8 * j + 0 : Int) = 8 * j := Int.add_zero _
  have HA0 := Lib.hid (fun w => rd_at j 0 w (by omega) (by omega))
  have HA1 := Lib.hid (fun w => rd_at j 24 w (by omega) (by omega))
  clear hb0 hj
  rw [h8] at HA0
  clear h8
  cases A <;> cases B
  all_goals
    go_enter Try.func16, Try.ntmps16
    go_wp2_with (go_at_call 30; (first | refine (HA0.out _).mono ?_ | refine (HA1.out _).mono ?_); rintro e w' ⟨rfl, rfl⟩)
    go_ret
    exact ⟨rfl, H0.out⟩
set_option maxRecDepth 100000 in
set_option maxHeartbeats 800000 in
theorem rd_in (j : Int) (jb : Nat) (q : Int × Int) (W : World) (hj : 0 ≤ j ∧ j ≤ 1021) (hb : W.heap[jb]? = some (.cells #[.int .i64 j] 47 (0, 0))) :
    Calls Try.prog 15 (#[.agg #[.int .i64 q.1, .int .u64 q.2]] ++ #[.pointer (some ⟨jb, 0, none⟩)]) W fun e w' => e = .returned (.bool (jHas j q.1)) ∧ Ext [] W w' := by
  obtain ⟨a, x⟩ := q
  obtain ⟨w0, hw0⟩ : ∃ w0, W.alloc (.cells #[.int .i64 a, .int .u64 x] 36) = w0 := ⟨_, rfl⟩
  have hb0 : w0.heap[W.heap.size]? = some (.cells #[.int .i64 a, .int .u64 x] 36 (0, 0)) := by rw [← hw0]; exact World.alloc_heap_new _ _
  have hE0 : Ext [] W w0 := by rw [← hw0]; exact (Ext.refl _ _).alloc _
  have H0 := Lib.hid hE0
  have k0 := cell_of (j := 0) (v := .int .i64 a) hb0 rfl
  have k1 := cell_of (j := 1) (v := .int .u64 x) hb0 rfl
  have k2 := cell_of (j := 0) (v := .int .i64 j) (hE0.at hb (by simp)) rfl
  have HA := Lib.hid (fun w => rd_has j a w hj)
  clear hb0 hE0 hb hj
  simp only [List.append_toArray, List.cons_append, List.nil_append]
  go_enter Try.func15, Try.ntmps15
  go_wp2_with fail
  refine (HA.out _).mono ?_
  rintro e w1 ⟨rfl, hE⟩
  go_wp2
  go_ret
  exact ⟨rfl, H0.out.trans hE⟩

/-- is one of them such? -/
def anyP (p : Int × Int → Bool) (P : Nat → Int × Int) (n : Nat) : Bool := (List.range n).any fun i => p (P i)
theorem anyP_true {p : Int × Int → Bool} {P : Nat → Int × Int} {n : Nat} : anyP p P n = true ↔ ∃ i, i < n ∧ p (P i) = true := by
  unfold anyP
  rw [List.any_eq_true]
  exact ⟨fun ⟨i, hi, h⟩ => ⟨i, List.mem_range.1 hi, h⟩, fun ⟨i, hi, h⟩ => ⟨i, List.mem_range.2 hi, h⟩⟩
theorem anyP_false {p : Int × Int → Bool} {P : Nat → Int × Int} {n : Nat} (h : ∀ i, i < n → p (P i) = false) : anyP p P n = false := by
  cases ha : anyP p P n with
  | false => rfl
  | true =>
    obtain ⟨i, hi, hp⟩ := anyP_true.1 ha
    rw [h i hi] at hp
    cases hp
def IdxP (p : Int × Int → Bool) (P : Nat → Int × Int) (n : Nat) (w : World) (e : Ending) (w' : World) : Prop :=
  ∃ ix : Int, e = .returned (.int .i64 ix) ∧ Ext [] w w' ∧ decide (0 ≤ ix) = anyP p P n

set_option maxRecDepth 100000 in
set_option maxHeartbeats 1600000 in
theorem pu_index (f : Nat) (flb : Array Value) (p : Int × Int → Bool) (KS : World → Prop) (ao : Option Addr) (n cap : Nat) (P : Nat → Int × Int) (w : World) (hp : Puts w ao n P) (hn : n ≤ 9223372036854775807)
    (hKS : ∀ W W', KS W → Ext [] W W' → KS W') (h0 : KS w) (hcf : ∀ args w', (callFunc f args).run Try.prog w' = .ok (.enter f args) w')
    (hf : ∀ W, KS W → ∀ q : Int × Int, Calls Try.prog f (#[.agg #[.int .i64 q.1, .int .u64 q.2]] ++ flb) W fun e w' => e = .returned (.bool (p q)) ∧ Ext [] W w') :
    Calls Try.prog 32 #[.slice ao n cap, .func (.func f) #[] flb] w (IdxP p P n w) := by
  have HP := Lib.hid hp
  have HK := Lib.hid hKS
  have HF := Lib.hid hf
  have H0 := Lib.hid h0
  clear hp hKS hf h0
  go_enter Try.func32, Try.ntmps32
  go_wp2
  go_loopg [8] n (fun k i wr => ∃ j : Nat, i = .int .i64 j ∧ j + k = n ∧ Ext [] w wr ∧ ∀ i, i < j → p (P i) = false)
  case atStart => exact ⟨0, rfl, by omega, Ext.refl _ _, fun i hi => absurd hi (Nat.not_lt_zero _)⟩
  case round =>
    obtain ⟨j, rfl, hjk, hE, hno⟩ := hrel
    have HR := Lib.hid (And.intro hE hno)
    clear hE hno
    by_cases hlt : j < n
    · obtain ⟨b, off, rfl, c0, c1⟩ : ∃ b off, ao = some ⟨b, off, none⟩ ∧ wr.cell? ⟨b, off + j * 2, none⟩ = some (.int .i64 (P j).1) ∧ wr.cell? ⟨b, off + j * 2 + 1, none⟩ = some (.int .u64 (P j).2) := by
        rcases HP.out.ext HR.out.1 with h | ⟨b, off, h1, h2⟩
        · omega
        · exact ⟨b, off, h1, h2 j hlt⟩
      have HC := Lib.hid (HF.out wr (HK.out _ _ H0.out HR.out.1) (P j))
      have hj0 : (0 : Int) ≤ (j : Int) := by omega
      have hj1 : (j : Int) < (n : Int) := by omega
      have hwj : wrap64 ((j : Int) + 1) = (j : Int) + 1 := IntWalk.wrap64_in _ (by omega)
      have HJ := Lib.hid (And.intro hjk hlt)
      obtain ⟨q, hq⟩ : ∃ q, q = P j := ⟨_, rfl⟩
      rw [← hq] at HC c0 c1
      have HQ := Lib.hid hq
      clear hq hjk hlt hn
      cases hpq : p q with
      | false =>
        rw [hpq] at HC
        have HPQ := Lib.hid hpq
        clear hpq
        go_wp2_with fail
        refine HC.out.mono ?_
        rintro e W2 ⟨rfl, hE2⟩
        go_wp2
        go_roundg (n - (j + 1))
        case measure => have := HJ.out; clear hwj; omega
        case rel =>
          refine ⟨j + 1, by first | (rw [hwj]; rfl) | rfl, by have := HJ.out; clear hwj; omega, HR.out.1.trans hE2, fun i hi => ?_⟩
          rcases Nat.lt_succ_iff_lt_or_eq.1 hi with h | h
          · exact HR.out.2 i h
          · rw [h, ← HQ.out]; exact HPQ.out
      | true =>
        rw [hpq] at HC
        have HPQ := Lib.hid hpq
        clear hpq
        go_wp2_with fail
        refine HC.out.mono ?_
        rintro e W2 ⟨rfl, hE2⟩
        go_wp2
        go_ret
        exact ⟨j, rfl, HR.out.1.trans hE2, by rw [anyP_true.2 ⟨j, HJ.out.2, by rw [← HQ.out]; exact HPQ.out⟩]; simp⟩
    · have hjn : ¬ ((j : Int) < (n : Int)) := by omega
      have HA : Hid (anyP p P n = false) := anyP_false (fun i hi => HR.out.2 i (by omega))
      clear hjk hlt hn
      go_wp2
      go_ret
      exact ⟨-1, rfl, HR.out.1, by rw [HA.out]; rfl⟩
set_option maxRecDepth 100000 in
set_option maxHeartbeats 800000 in
theorem pu_has (f : Nat) (flb : Array Value) (p : Int × Int → Bool) (KS : World → Prop) (ao : Option Addr) (n cap : Nat) (P : Nat → Int × Int) (w : World) (hp : Puts w ao n P) (hn : n ≤ 9223372036854775807)
    (hKS : ∀ W W', KS W → Ext [] W W' → KS W') (h0 : KS w) (hcf : ∀ args w', (callFunc f args).run Try.prog w' = .ok (.enter f args) w')
    (hf : ∀ W, KS W → ∀ q : Int × Int, Calls Try.prog f (#[.agg #[.int .i64 q.1, .int .u64 q.2]] ++ flb) W fun e w' => e = .returned (.bool (p q)) ∧ Ext [] W w') :
    Calls Try.prog 14 #[.slice ao n cap, .func (.func f) #[] flb] w fun e w' => e = .returned (.bool (anyP p P n)) ∧ Ext [] w w' := by
  have hI := pu_index f flb p KS ao n cap P w hp hn hKS h0 hcf hf
  unfold IdxP at hI
  obtain ⟨B, hB⟩ : ∃ B, anyP p P n = B := ⟨_, rfl⟩
  rw [hB] at hI ⊢
  have HI := Lib.hid hI
  clear hI hp hn hKS h0 hcf hf hB
  go_enter Try.func14, Try.ntmps14
  go_wp2_with fail
  refine HI.out.mono ?_
  rintro e w1 ⟨ix, rfl, hE, hix⟩
  have HE := Lib.hid hE
  clear hE HI
  cases B
  all_goals
    go_wp2
    go_ret
    exact ⟨rfl, HE.out⟩
end Go.Proofs.Ytjdojckemphadaa
