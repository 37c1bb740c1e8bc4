/- Package alloc: those and first, as iterators. -/
import Derived.Test.YtgpoplnfhlfogaaRnd
import Derived.Test.YtgpoplnfhlfogaaOps
import Derived.Test.YtgpoplnfhlfogaaAlM
import Derived.Test.YtgpoplnfhlfogaaChecked
import Derived.RangeFuncLeaves
import Derived.Shelf.Abstract
namespace Go.Proofs.Ytgpoplnfhlfogaa
open Go Go.RowKit Go.Shelf
attribute [local go_sem] Oper.semAt_some

theorem Steady.mono {N N' : Nat} {I : World → Prop} (h : Steady N I) (hN : N ≤ N') : Steady N' I := fun w w' hi c => h w w' hi (c.mono hN)
theorem Steady.cell {N : Nat} {p : Addr} {v : Value} : Steady N (fun W => W.cell? p = some v) := fun w w' h c => by
  have hl := World.block_lt_of_cell? _ _ h
  cases hb : w.heap[p.block]? with
  | none => simp [World.cell?, hb] at h
  | some o =>
    have hd : dataB o = true := by
      cases o <;> first | rfl | (simp [World.cell?, hb] at h)
    exact (World.cell?_of_block (w := w) ((c.block _ _ hb (.inr hd)).trans hb.symm)).trans h

set_option maxRecDepth 100000 in
set_option maxHeartbeats 2000000 in
theorem those_seq (Bb Bs sf : Nat) (slb : Array Value) (lo : Int) (n : Nat) (sel : Int → Bool) (KS : World → Prop) (h0 : -1000000000 ≤ lo) (h1 : lo + n ≤ 1000000000)
    (hcf : ∀ args w', (callFunc sf args).run Try.prog w' = .ok (.enter sf args) w')
    (hsuch : ∀ W, KS W → ∀ i : Nat, i < n → Calls Try.prog sf (#[.int .i64 (lo + (i : Int))] ++ slb) W fun e w' => e = .returned (.bool (sel (lo + (i : Int)))) ∧ Ext [] W w') :
    SeqC Try.prog 106 #[.pointer (some ⟨Bb, 0, none⟩), .pointer (some ⟨Bs, 0, none⟩)] (okL sel lo n) (fun xs => xs = encI (selL sel lo n))
      (fun W => W.cell? ⟨Bb, 0, none⟩ = some (.int .i64 lo) ∧ W.cell? ⟨Bb, 1, none⟩ = some (.int .i64 (lo + (n : Int) - 1)) ∧ W.cell? ⟨Bs, 0, none⟩ = some (.func (.func sf) #[] slb) ∧ KS W) := by
  intro l N I Ix hI hIx hK hY w m hN hlw hm h0'
  refine callsIn_of_wp Try.func106 rfl trivial ?_ rfl
  simp only [Try.ntmps106, List.size_toArray, List.length_cons, List.length_nil, Nat.reduceAdd, Nat.reduceSub, Array.replicate_succ, Array.replicate_zero, List.push_toArray, List.append_toArray, List.nil_append, List.cons_append]
  have HI := Lib.hid hI
  have HX := Lib.hid hIx
  have HK := Lib.hid hK
  have HY := Lib.hid hY
  have HS := Lib.hid hsuch
  obtain ⟨kb, _⟩ := hK _ _ _ h0'
  have H0 := Lib.hid h0'
  clear hI hIx hK hY h0' hsuch
  gi_wp2
  gi_loopw [4] (fun i wr => ∃ (j : Nat) (m' : List Nat), j ≤ n ∧ i = .int .i64 (lo + (j : Int)) ∧ I m' (encI (selL sel lo j)) wr) (fun i _ => (lo + (n : Int) - intOf i).toNat)
  case atStart => exact ⟨0, m, Nat.zero_le _, by simp, H0.out⟩
  case round =>
    obtain ⟨j, m', hj, rfl, hJs⟩ := hrel
    obtain ⟨k1, k2, k3, k4⟩ := HK.out _ _ _ hJs
    have HJ := Lib.hid (And.intro hJs k4)
    clear hJs k4
    by_cases hlt : j < n
    · have hle : lo + (j : Int) ≤ lo + (n : Int) - 1 := by omega
      have hw1 : wrap64 (lo + (j : Int) + 1) = lo + (j : Int) + 1 := IntWalk.wrap64_in _ (by omega)
      obtain ⟨kk, hkk⟩ : ∃ kk, kk = lo + (j : Int) := ⟨_, rfl⟩
      have hc := HS.out wr HJ.out.2 j hlt
      rw [← hkk] at hc hle hw1 ⊢
      have HC := Lib.hid hc
      have HKK := Lib.hid hkk
      clear hc hkk
      gi_wp2
      refine ⟨trivial, rfl, (callsIn_wide.2 HC.out).mono ?_⟩
      rintro e W2 ⟨rfl, hE2⟩
      have hI2 := HI.out _ _ _ _ HJ.out.1 (hE2.calm N)
      have k1' := hE2.cell k1 (by simp)
      have k2' := hE2.cell k2 (by simp)
      cases hs : sel kk with
      | true =>
        have hpre : encI (selL sel lo (j + 1)) = encI (selL sel lo j) ++ [#[.int .i64 kk]] := by rw [selL_yes (by rw [← HKK.out]; exact hs), encI_snoc, ← HKK.out]
        obtain ⟨fn, tmps, assign, body, hy, hR⟩ := HY.out m' _ #[.int .i64 kk] W2 hI2 ⟨j + 1, by omega, hpre.symm⟩
        have HPRE := Lib.hid hpre
        have HI2 := Lib.hid hI2
        clear hpre hI2
        gi_wp2
        refine ⟨rfl, hR.mono ?_⟩
        rintro e W3 ⟨_, (⟨rfl, m2, _, hJ3⟩ | ⟨rfl, hJx3⟩)⟩
        · gi_wp2
          go_roundw
          case rel => exact ⟨j + 1, m2, by omega, by have := HKK.out; (first | rw [hw1] | skip); congr 1; omega, by rw [HPRE.out]; exact hJ3⟩
          case measure => have := HKK.out; simp [intOf, hw1]; omega
        · gi_wp2
          refine bodyPost_ret (results_none rfl _ _ _) rfl ?_
          exact ⟨⟨_, rfl⟩, .inr hJx3⟩
      | false =>
        have hpre : encI (selL sel lo (j + 1)) = encI (selL sel lo j) := by rw [selL_no (by rw [← HKK.out]; exact hs)]
        have HPRE := Lib.hid hpre
        have HI2 := Lib.hid hI2
        clear hpre hI2
        gi_wp2
        refine ⟨fun f hf => (by cases hf), ?_⟩
        gi_wp2
        go_roundw
        case rel => exact ⟨j + 1, m', by omega, by have := HKK.out; (first | rw [hw1] | skip); congr 1; omega, by rw [HPRE.out]; exact HI2.out⟩
        case measure => have := HKK.out; simp [intOf, hw1]; omega
    · have hjn : j = n := by omega
      have hle : ¬ lo + (j : Int) ≤ lo + (n : Int) - 1 := by omega
      gi_wp2
      go_end0
      exact ⟨⟨_, rfl⟩, .inl ⟨m', by rw [← hjn]; exact HJ.out.1⟩⟩
end Go.Proofs.Ytgpoplnfhlfogaa
