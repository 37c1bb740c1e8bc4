/- Package limbo: waits, Lent (printed by wip/mkLmC.py). -/
import Derived.Test.YtgpoplnfhlfogaaLmB
import Derived.Deep.CutRange
namespace Go.Proofs.Ytgpoplnfhlfogaa
open Go Go.RowKit Go.Shelf
attribute [local go_sem] Oper.semAt_some

/-- lines put down as waiting since an epoch -/
def putK (E : Ents) (at' : Int) (L : List Int) : Ents := L.foldl (fun a k => upd a k (.int .i64 at')) E
theorem putK_snoc (E : Ents) (at' : Int) (L : List Int) (k : Int) : putK E at' (L ++ [k]) = upd (putK E at' L) k (.int .i64 at') := by simp [putK]
/-- the epochs from a on, so many -/
def waitsK (G : Nat → List Int) (a : Nat) : Nat → Ents
  | 0 => []
  | j + 1 => putK (waitsK G a j) ((a + j : Nat) : Int) (G ((a + j) % 3))
/-- from which epoch on lines may wait -/
def from3 (now : Int) : Nat := (now - 2).toNat
def waitsE (now : Int) (G : Nat → List Int) : Ents := waitsK G (from3 now) (now.toNat + 1 - from3 now)
theorem take_succ_getD {L : List Int} {i : Nat} (h : i < L.length) : L.take (i + 1) = L.take i ++ [L.getD i 0] := by
  rw [List.take_succ_eq_append_getElem h]
  simp [h]
set_option maxRecDepth 100000 in
set_option maxHeartbeats 4000000 in
theorem lm_waits (b c m p mb : Nat) (lo : Int) (n : Nat) (now : Int) (l : Ents) (S : Lns) (G : Nat → List Int) (ga : Nat → Option Addr) (gc : Nat → Nat) (w : World) (h : LimAt w b c m p mb lo n now l S G ga gc) (hl0 : 0 ≤ now) (hl1 : now ≤ 1073741824) (hG : ∀ k, k < 3 → (G k).length ≤ 1000000) :
    Calls Try.prog 94 #[.pointer (some ⟨b, 0, none⟩)] w fun e w' => ∃ nb, e = .returned (.map (some nb)) ∧ Ext [] w w' ∧ IMap w' nb (waitsE now G) ∧ w.heap.size ≤ nb := by
  have hmm := @run_makeMap Try.prog
  obtain ⟨W, hW⟩ : ∃ W, w.alloc (.map #[] 0) = W := ⟨_, rfl⟩
  obtain ⟨nb, hnb⟩ : ∃ nb, w.heap.size = nb := ⟨_, rfl⟩
  have hE : Ext [] w W := by rw [← hW]; exact (Ext.refl _ _).alloc _
  have hM : IMap W nb [] := by rw [← hW, ← hnb]; exact IMap.made w
  have hL := h.ext0 hE
  have HN := Lib.hid (lm_none b c m p mb lo n now l S G ga gc W hL)
  have HNOW := Lib.hid (ep_now c m now l W hL.clk)
  have k0 := cell_of (j := 0) (v := .pointer (some ⟨c, 0, none⟩)) hL.blk rfl
  have hlt := h.lt
  have hw1 : wrap64 (now - 3) = now - 3 := IntWalk.wrap64_in _ (by omega)
  have hw2 : wrap64 (now - 3 + 1) = now - 2 := by rw [IntWalk.wrap64_in _ (by omega)]; omega
  have hmx : max (0 : Int) (now - 2) = ((from3 now : Nat) : Int) := by unfold from3; omega
  obtain ⟨N, hN⟩ : ∃ N : Nat, now = (N : Int) := ⟨now.toNat, by omega⟩
  obtain ⟨a, ha⟩ : ∃ a, from3 now = a := ⟨_, rfl⟩
  have haN : a ≤ N ∧ N ≤ a + 2 := by rw [← ha]; unfold from3; omega
  have hwe : waitsE now G = waitsK G a (N + 1 - a) := by unfold waitsE; rw [ha, hN]; rfl
  rw [hwe]
  rw [ha] at hmx
  have H := Lib.hid (And.intro hE (And.intro hM (And.intro h (And.intro hG (And.intro hnb (And.intro haN (And.intro hN hl1)))))))
  clear hE hM hL h hG hlt hwe ha haN hN hl0 hl1
  go_enter Try.func94, Try.ntmps94
  go_wp2_with (first | (go_at_call 86; (try rw [hW]); refine HN.out.mono ?_; rintro e w' ⟨rfl, rfl⟩) | (go_at_call 18; refine HNOW.out.mono ?_; rintro e w' ⟨rfl, rfl⟩))
  try rw [hnb]
  clear hW HN HNOW k0 hmm hnb hw1 hw2
  go_loopg [5] (N + 1 - a) (fun k i wr => ∃ j : Nat, i = .int .i64 ((a + j : Nat) : Int) ∧ a + j + k = N + 1 ∧ IMap wr nb (waitsK G a j) ∧ Ext [] w wr)
  case atStart => exact ⟨0, by first | rfl | (rw [hmx]; rfl), by have := H.out.2.2.2.2.2.1; omega, H.out.2.1, H.out.1⟩
  case round =>
    obtain ⟨j, rfl, hjk, hMj, hEj⟩ := hrel
    obtain ⟨hE, hM, h, hG, hnb, haN, hN, hl1⟩ := H.out
    obtain ⟨at', hat⟩ : ∃ x, a + j = x := ⟨_, rfl⟩
    rw [hat] at hjk ⊢
    by_cases hle : at' ≤ N
    · have hd : decide (((at' : Nat) : Int) ≤ now) = true := by simp; omega
      obtain ⟨q, hq⟩ : ∃ q, at' % 3 = q := ⟨_, rfl⟩
      have hq3 : q < 3 := by omega
      have hmod : ((at' : Nat) : Int).tmod 3 = (q : Int) := by rw [Int.tmod_eq_emod_of_nonneg (by omega)]; omega
      have HLI := Lib.hid (fun X => lm_list ((at' : Nat) : Int) X)
      rw [hmod] at HLI
      have hLj := h.ext0 hEj
      have hcell := cell_of (j := 2 + q) hLj.blk (limC_get c p G ga gc q hq3)
      obtain ⟨M, hMl⟩ : ∃ M, G q = M := ⟨_, rfl⟩
      obtain ⟨mm, hmm⟩ : ∃ mm, M.length = mm := ⟨_, rfl⟩
      have hint := hLj.gone q hq3
      obtain ⟨ao, hao⟩ : ∃ ao, ga q = ao := ⟨_, rfl⟩
      rw [hMl, hmm, hao] at hint hcell
      have HAO := Lib.hid hao
      have hml : mm ≤ 1000000 := by rw [← hmm, ← hMl]; exact hG q hq3
      obtain ⟨E0, hE0⟩ : ∃ E0, waitsK G a j = E0 := ⟨_, rfl⟩
      rw [hE0] at hMj
      have hnext : waitsK G a (j + 1) = putK E0 ((at' : Nat) : Int) M := by
        show putK (waitsK G a j) ((a + j : Nat) : Int) (G ((a + j) % 3)) = _
        rw [hE0, hat, hq, hMl]
      have HR8 : Hid (∀ X, Ext [] wr X → X.cell? ⟨b, 2 + q, none⟩ = some (.slice ao mm (gc q))) := fun X hX => hX.cell hcell (by simp)
      have hq0 : (0 : Int) ≤ (q : Int) := by omega
      have hq3' : (q : Int) < 3 := by omega
      have hwa : wrap64 (((at' : Nat) : Int) + 1) = ((at' + 1 : Nat) : Int) := by rw [IntWalk.wrap64_in _ (by omega)]; omega
      have HML := Lib.hid (And.intro hMl hmm)
      have HJ := Lib.hid (And.intro hjk (And.intro hMj (And.intro hEj (And.intro hint (And.intro hml (And.intro hnext (And.intro hmm (And.intro hat hle))))))))
      clear hjk hMj hEj hint hml hnext hmm hle hE hM h hG hnb haN hN hl1 hLj hcell hMl hE0 hat hmod hq hao
      go_upto_region 8 with fail
      clear hd
      refine wp_region_p4 [] (hds4 [0, 1, 3, 4, 8] (.tl 2 (hds4 [5, 6, 7] .done))) (Ext [] wr) (by kernel_rfl) (by kernel_rfl) (fun _ d _ _ _ h => by cases d <;> exact h) (Ext.refl _ _).drew ?_
      repeat (first
        | (refine wpPl_no4 rfl (by rfl) ?_; simp only [Act.put, List.setIfInBounds_toArray, List.set_cons_zero, List.set_cons_succ])
        | (refine wpPl_hd4 ?_ rfl (by rfl) (fun w hSw => ?_) ?_
           rotate_left
           · (have g1 := HR8.out _ hSw; clear hSw; go_simp; first | exact ⟨rfl, rfl⟩ | exact rfl)
           simp only [Act.put, List.setIfInBounds_toArray, List.set_cons_zero, List.set_cons_succ]))
      refine wpPl_tl4 rfl (by rfl) (fun K hK => ?_)
      go_simp
      go_at_call 88
      refine (HLI.out _).mono ?_
      rintro e w' ⟨rfl, rfl⟩
      refine hK _ _ (fun _ => (Ext.refl _ _).drew) ?_
      clear hK K
      try simp only [Act.put, List.setIfInBounds_toArray, List.set_cons_zero, List.set_cons_succ]
      repeat (first
        | (refine wpPl_no4 rfl (by rfl) ?_; simp only [Act.put, List.setIfInBounds_toArray, List.set_cons_zero, List.set_cons_succ])
        | (refine wpPl_hd4 ?_ rfl (by rfl) (fun w hSw => ?_) ?_
           rotate_left
           · (have g1 := HR8.out _ hSw; clear hSw; go_simp; first | exact ⟨rfl, rfl⟩ | exact rfl)
           simp only [Act.put, List.setIfInBounds_toArray, List.set_cons_zero, List.set_cons_succ]))
      refine wpPl_done4 ?_
      clear HR8 HLI hq0 hq3'
      go_wp2_with fail
      go_loopg [35] mm (fun k i wx => ∃ i0 : Nat, i = .int .i64 (i0 : Int) ∧ i0 + k = mm ∧ IMap wx nb (putK E0 ((at' : Nat) : Int) (M.take i0)) ∧ Ext [] w wx)
      case atStart => exact ⟨0, rfl, by omega, HJ.out.2.1.drew, HJ.out.2.2.1.drew⟩
      case round =>
        obtain ⟨i0, rfl, hik, hMi, hEi⟩ := hrel
        by_cases hil : i0 < mm
        · obtain ⟨g, off, e1, e2⟩ : ∃ g off, ao = some ⟨g, off, none⟩ ∧ wr.cell? ⟨g, off + i0, none⟩ = some (.int .i64 (M.getD i0 0)) := by
            have hx := (H.out.2.2.1.ext0 hEi).gone q hq3
            rw [HML.out.1, HML.out.2, HAO.out] at hx
            rcases hx with h0 | ⟨g, off, h1, h2⟩
            · omega
            · exact ⟨g, off, h1, h2 i0 hil⟩
          obtain ⟨key, hkey⟩ : ∃ key, M.getD i0 0 = key := ⟨_, rfl⟩
          rw [hkey] at e2
          obtain ⟨W2, hset, hE2, hm2, _⟩ := run_mapSet' (P := Try.prog) 42 3 3 Try.underlying42 Try.underlying3 hMi key (.int .i64 ((at' : Nat) : Int))
          have HN : Hid (IMap W2 nb (putK E0 ((at' : Nat) : Int) (M.take (i0 + 1))) ∧ Ext [] w W2) := by
            refine ⟨?_, hEi.trans' hE2 (fun x hx => .inr (by simp at hx; have := H.out.2.2.2.2.1; omega))⟩
            rw [take_succ_getD (by rw [HML.out.2]; exact hil), putK_snoc, hkey]
            exact hm2
          have hi0 : (0 : Int) ≤ (i0 : Int) := by omega
          have hi1 : (i0 : Int) < (mm : Int) := by omega
          have hwi : wrap64 ((i0 : Int) + 1) = (i0 : Int) + 1 := IntWalk.wrap64_in _ (by have := HJ.out.2.2.2.2.1; omega)
          have HK := Lib.hid (And.intro hik hil)
          subst e1
          clear hMi hEi hE2 hm2 hil hik hkey
          go_wp2
          go_roundg (mm - (i0 + 1))
          case measure => have := HK.out; omega
          case rel => exact ⟨i0 + 1, by first | (rw [hwi]; rfl) | rfl, by have := HK.out; omega, HN.out.1, HN.out.2⟩
        · obtain rfl : i0 = mm := by omega
          have HN : Hid (IMap wr nb (waitsK G a (j + 1)) ∧ Ext [] w wr) := by
            refine ⟨?_, hEi⟩
            rw [HJ.out.2.2.2.2.2.1]
            have := hMi
            rwa [List.take_of_length_le (by rw [HML.out.2]; exact Nat.le_refl _)] at this
          clear hMi hEi hik hil
          go_wp2
          go_roundg (N + 1 - (at' + 1))
          case measure => have := HJ.out; omega
          case rel => exact ⟨j + 1, by first | (rw [hwa]; exact congrArg (fun x : Nat => Value.int .i64 (x : Int)) (by have := HJ.out.2.2.2.2.2.2.2.1; omega)) | exact congrArg (fun x : Nat => Value.int .i64 (x : Int)) (by have := HJ.out.2.2.2.2.2.2.2.1; omega), by have := HJ.out; omega, HN.out.1, HN.out.2⟩
    · have hd : decide (((at' : Nat) : Int) ≤ now) = false := by simp; omega
      obtain rfl : j = N + 1 - a := by omega
      have HN := Lib.hid (And.intro hMj (And.intro hEj (show w.heap.size ≤ nb by omega)))
      clear hMj hEj hE hM h hG hnb haN hN hl1 hjk hle hat
      go_wp2
      go_ret
      exact ⟨nb, rfl, HN.out.2.1, HN.out.1, HN.out.2.2⟩
end Go.Proofs.Ytgpoplnfhlfogaa
