/- Package trace: lines. -/
import Derived.Test.YtmfbgkcphiomaaaTrB
namespace Go.Proofs.Ytmfbgkcphiomaaa
open Go Go.RowKit Go.Shelf
attribute [local go_sem] Oper.semAt_some

theorem take_snoc {L : List Tch} {j : Nat} (h : j < L.length) : L.take (j + 1) = L.take j ++ [L.getD j tch0] := by
  rw [List.take_add_one, List.getElem?_eq_getElem h, List.getD_eq_getElem?_getD, List.getElem?_eq_getElem h]
  rfl
theorem getD_mem {L : List Tch} {j : Nat} (h : j < L.length) : L.getD j tch0 ∈ L := by
  rw [List.getD_eq_getElem?_getD, List.getElem?_eq_getElem h]
  exact List.getElem_mem h
theorem Tch.right_at {t : Tch} (h : t.right = true) : 0 ≤ t.at' ∧ t.at' < 8192 := by
  unfold Tch.right at h
  simp only [Bool.and_eq_true, decide_eq_true_eq] at h
  obtain ⟨⟨h0, h1⟩, _⟩ := h
  refine ⟨h0, ?_⟩
  have hb : (bndT t.kd).1 ≤ 8192 := by
    unfold bndT
    split
    · decide
    · split
      · decide
      · split <;> decide
  omega
theorem raise_flush (f : Int → Int) (a x k : Int) : raiseF 1 2 (· == a) f k = stOne k (f k) ⟨3, a, x⟩ := by
  show (if f k = 1 ∧ (k == a) = true then 2 else f k) = (if a = k ∧ f k = 1 then 2 else f k)
  by_cases h : k = a
  · subst h
    by_cases h1 : f k = 1
    · rw [if_pos ⟨h1, by simp⟩, if_pos ⟨rfl, h1⟩]
    · rw [if_neg (fun h => h1 h.1), if_neg (fun h => h1 h.2)]
  · rw [if_neg (fun h' => h (by simpa using h'.2)), if_neg (fun h' => h h'.1.symm)]
theorem raise_fence (f : Int → Int) (a x k : Int) : raiseF 2 3 (fun _ => true) f k = stOne k (f k) ⟨4, a, x⟩ := by
  show (if f k = 2 ∧ true = true then 3 else f k) = (if f k = 2 then 3 else f k)
  by_cases h1 : f k = 2
  · rw [if_pos ⟨h1, rfl⟩, if_pos h1]
  · rw [if_neg (fun h => h1 h.1), if_neg h1]
/-- lines' work so far -/
structure LnI (w wr : World) (L : List Tch) (j : Nat) (cur : Ents) : Prop where
  ex : Ext [] w wr
  sz : w.heap.size + 2 ≤ wr.heap.size
  mc : wr.cell? ⟨w.heap.size + 1, 0, none⟩ = some (.map (some w.heap.size))
  im : IMap wr w.heap.size cur
  le : LE cur (stS (L.take j))

set_option maxRecDepth 100000 in
set_option maxHeartbeats 4000000 in
theorem tr_lines (N : Nat) (ao : Option Addr) (cap : Nat) (L : List Tch) (w : World) (hp : TcAt w N ao L) (hn : L.length ≤ 9223372036854775807) (hr : ∀ t ∈ L, t.right = true) :
    Calls Try.prog 31 #[.slice ao L.length cap] w fun e w' => e = .returned (.map (some w.heap.size)) ∧ Ext [] w w' ∧ ∃ l, IMap w' w.heap.size l ∧ LE l (stS L) := by
  have HP := Lib.hid (And.intro hp hr)
  obtain ⟨n, hnl⟩ : ∃ n, L.length = n := ⟨_, rfl⟩
  have HN := Lib.hid hnl
  rw [hnl] at hn ⊢
  clear hp hnl hr
  have hmm := @run_makeMap Try.prog
  have hcf1 := enters_of Try.func45 (by kernel_rfl) rfl
  go_enter Try.func31, Try.ntmps31
  go_wp2
  go_loopg [13] n (fun k i wr => ∃ j : Nat, i = .int .i64 j ∧ j + k = n ∧ ∃ cur, LnI w wr L j cur)
  case atStart =>
    have hn1 := World.alloc_heap_new (w.alloc (.map #[] 0)) (.cells #[.map (some w.heap.size)] 61)
    rw [World.size_alloc] at hn1
    exact ⟨0, rfl, by omega, [], ((Ext.refl _ _).alloc _).alloc _, by simp, cell_of hn1 rfl, (IMap.made w).alloc _, LE.nil⟩
  case round =>
    obtain ⟨j, rfl, hjk, cur, hI⟩ := hrel
    by_cases hlt : j < n
    · obtain ⟨b, off, rfl, c0, c1, c2⟩ := (HP.out.1.ext0 hI.ex).cells (i := j) (by rw [HN.out]; exact hlt)
      have hjn : (j : Int) < (n : Int) := by omega
      have hj0 : (0 : Int) ≤ (j : Int) := by omega
      have hwj : wrap64 ((j : Int) + 1) = (j : Int) + 1 := IntWalk.wrap64_in _ (by omega)
      have hts := take_snoc (L := L) (j := j) (by rw [HN.out]; exact hlt)
      have hrt := HP.out.2 _ (getD_mem (L := L) (j := j) (by rw [HN.out]; exact hlt))
      obtain ⟨q, hq⟩ : ∃ q, q = L.getD j tch0 := ⟨_, rfl⟩
      rw [← hq] at c0 c1 c2 hts hrt
      obtain ⟨k, a, x⟩ := q
      dsimp only at c0 c1 c2
      have ha : 0 ≤ a ∧ a ≤ 9223372036854775807 := by
        have := Tch.right_at hrt
        dsimp only at this
        omega
      have hk : k = 1 ∨ k = 2 ∨ k = 3 ∨ k = 4 := Tch.right_kind hrt
      obtain ⟨W0, hW0⟩ : ∃ W0, wr.alloc (.cells #[.int .i64 k, .int .i64 a, .int .u64 x] 45) = W0 := ⟨_, rfl⟩
      have hb0 : W0.heap[wr.heap.size]? = some (.cells #[.int .i64 k, .int .i64 a, .int .u64 x] 45 (0, 0)) := by rw [← hW0]; exact World.alloc_heap_new _ _
      have hE0 : Ext [] wr W0 := by rw [← hW0]; exact (Ext.refl _ _).alloc _
      have m0 := cell_of (j := 0) (v := .int .i64 k) hb0 rfl
      have m1 := cell_of (j := 1) (v := .int .i64 a) hb0 rfl
      have m2 := cell_of (j := 2) (v := .int .u64 x) hb0 rfl
      have hmc := hE0.cell hI.mc (by simp)
      have him := hI.im.ext hE0 (by simp)
      have hEw := hI.ex.trans hE0
      have hsz : w.heap.size + 2 ≤ W0.heap.size := Nat.le_trans hI.sz hE0.size
      have hlow : wr.heap.size ≠ w.heap.size := by have := hI.sz; omega
      have HJ := Lib.hid (And.intro hjk (And.intro hlt (And.intro hI.le (And.intro hts (And.intro hEw (And.intro hsz him))))))
      clear hjk hlt hn hI hts hrt hq hEw hsz him hb0 hE0
      have fin : ∀ W', Ext [w.heap.size] W0 W' → ∀ cur', IMap W' w.heap.size cur' → LE cur' (stS (L.take (j + 1))) → LnI w W' L (j + 1) cur' := fun W' hE cur' h1 h2 =>
        ⟨HJ.out.2.2.2.2.1.trans' hE (fun i hi => .inr (by simp at hi; omega)), Nat.le_trans HJ.out.2.2.2.2.2.1 hE.size, hE.cell hmc (by simp), h1, h2⟩
      have HF := Lib.hid fin
      clear fin
      by_cases h2 : k = 2
      · subst h2
        have HT := Lib.hid (tr_line 2 a x W0 ha.1 ha.2)
        clear hk ha
        generalize hlv : Tch.ln ⟨2, a, x⟩ = lv at HT
        have HLV := Lib.hid hlv
        clear hlv
        go_wp2_with fail
        refine HT.out.mono ?_
        rintro e W1 ⟨rfl, hE1⟩
        have hmc1 := hE1.cell hmc (by simp)
        obtain ⟨W2, hset, hE2, hm2, hs2⟩ := run_mapSet' (P := Try.prog) 61 3 3 Try.underlying61 Try.underlying3 (HJ.out.2.2.2.2.2.2.ext hE1 (by simp)) lv (.int .i64 1)
        have HR := Lib.hid (HF.out W2 (hE1.wide.trans hE2) _ hm2 ((HJ.out.2.2.1.set lv (s := 1) (by decide)).congr (fun k => by
          rw [HJ.out.2.2.2.1, stS_snoc]
          unfold stOne
          rw [if_pos rfl, HLV.out]
          by_cases h : k = lv
          · rw [if_pos h, if_pos h.symm]
          · rw [if_neg h, if_neg (Ne.symm h)])))
        clear hm2 hE2 hs2 hE1 hmc hlow
        go_wp2
        go_roundg (n - (j + 1))
        case measure => have := HJ.out.1; have := HJ.out.2.1; omega
        case rel => exact ⟨j + 1, by first | (rw [hwj]; rfl) | rfl, by have := HJ.out.1; have := HJ.out.2.1; omega, _, HR.out⟩
      by_cases h3 : k = 3
      · subst h3
        clear hk ha h2
        have HT := Lib.hid (tr_raise 1 2 (w.heap.size + 1) w.heap.size 46 #[.pointer (some ⟨wr.heap.size, 0, none⟩)] (· == a) (fun W => W.cell? ⟨wr.heap.size, 1, none⟩ = some (.int .i64 a)) (stS (L.take j)) cur W0 hmc HJ.out.2.2.2.2.2.2 HJ.out.2.2.1
          (by decide) (by decide) (fun W W' h hE => hE.cell h (by simpa using hlow)) m1 (fun args w' => enters_of Try.func46 (by kernel_rfl) rfl args w') (fun W h k => tr_such2 _ k a W h))
        have hcf2 := enters_of Try.func46 (by kernel_rfl) rfl
        go_wp2_with fail
        refine HT.out.mono ?_
        rintro e W1 ⟨rfl, hE1, l', hm1, hl1⟩
        have HR := Lib.hid (HF.out W1 hE1 _ hm1 (hl1.congr (fun k => by
          rw [HJ.out.2.2.2.1, stS_snoc]
          exact raise_flush _ _ _ _)))
        clear hE1 hm1 hl1 hmc hlow
        go_wp2
        go_roundg (n - (j + 1))
        case measure => have := HJ.out.1; have := HJ.out.2.1; omega
        case rel => exact ⟨j + 1, by first | (rw [hwj]; rfl) | rfl, by have := HJ.out.1; have := HJ.out.2.1; omega, _, HR.out⟩
      by_cases h4 : k = 4
      · subst h4
        clear hk ha h2 h3
        have HT := Lib.hid (tr_raise 2 3 (w.heap.size + 1) w.heap.size 47 #[] (fun _ => true) (fun _ => True) (stS (L.take j)) cur W0 hmc HJ.out.2.2.2.2.2.2 HJ.out.2.2.1
          (by decide) (by decide) (fun _ _ _ _ => trivial) trivial (fun args w' => enters_of Try.func47 (by kernel_rfl) rfl args w') (fun W _ k => tr_such3 k W))
        have hcf3 := enters_of Try.func47 (by kernel_rfl) rfl
        go_wp2_with fail
        refine HT.out.mono ?_
        rintro e W1 ⟨rfl, hE1, l', hm1, hl1⟩
        have HR := Lib.hid (HF.out W1 hE1 _ hm1 (hl1.congr (fun k => by
          rw [HJ.out.2.2.2.1, stS_snoc]
          exact raise_fence _ _ _ _)))
        clear hE1 hm1 hl1 hmc hlow
        go_wp2
        go_roundg (n - (j + 1))
        case measure => have := HJ.out.1; have := HJ.out.2.1; omega
        case rel => exact ⟨j + 1, by first | (rw [hwj]; rfl) | rfl, by have := HJ.out.1; have := HJ.out.2.1; omega, _, HR.out⟩
      · have h1 : k = 1 := by omega
        subst h1
        have HR := Lib.hid (HF.out W0 (Ext.refl _ _) cur HJ.out.2.2.2.2.2.2 (HJ.out.2.2.1.congr (fun k => by
          rw [HJ.out.2.2.2.1, stS_snoc]
          rfl)))
        clear hk ha h2 h3 h4 hmc hlow
        go_wp2
        go_roundg (n - (j + 1))
        case measure => have := HJ.out.1; have := HJ.out.2.1; omega
        case rel => exact ⟨j + 1, by first | (rw [hwj]; rfl) | rfl, by have := HJ.out.1; have := HJ.out.2.1; omega, _, HR.out⟩
    · have hd : decide (j < n) = false := by simpa using hlt
      have hjn : ¬ ((j : Int) < (n : Int)) := by omega
      have hj : j = n := by omega
      have hmc := hI.mc
      have HJ := Lib.hid (And.intro hj hI)
      clear hjk hlt hn hI hj
      go_wp2
      go_ret
      refine ⟨rfl, HJ.out.2.ex, cur, HJ.out.2.im, ?_⟩
      have := HJ.out.2.le
      rwa [HJ.out.1, ← HN.out, List.take_length] at this
end Go.Proofs.Ytmfbgkcphiomaaa
