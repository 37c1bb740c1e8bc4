/- The iterator of record.Each. -/
import Derived.Test.YteaedcjnfigigaaRcY
namespace Go.Proofs.Yteaedcjnfigigaa
open Go Go.RowKit
attribute [local go_sem] Oper.semAt_some
attribute [local go_sem ↓] wpIn_load25

theorem Puts.extm {w w' : World} {m : List Nat} {ao : Option Addr} {n : Nat} {L : Nat → Int × Int} (h : Puts w ao n L) (hE : Ext m w w') (hm : ∀ p, ao = some p → p.block ∉ m) : Puts w' ao n L := by
  rcases h with h | ⟨b, off, h1, h2⟩
  · exact .inl h
  · exact .inr ⟨b, off, h1, fun i hi => ⟨hE.cell (h2 i hi).1 (show b ∉ m from hm _ h1), hE.cell (h2 i hi).2 (show b ∉ m from hm _ h1)⟩⟩

set_option maxRecDepth 100000 in
set_option maxHeartbeats 4000000 in
theorem each_seq (Bw : Nat) (F : Nat → Int) (hF : ∀ i, 0 ≤ F i) :
    SeqC Try.prog 27 #[.pointer (some ⟨Bw, 0, none⟩)] (fun pre => ∃ k, k ≤ cntE F ∧ pre = encN (unpL F) k) (fun xs => xs = encN (unpL F) (cntE F))
      (fun W => W.heap[Bw]? = some (.cells (arrF 24 F) 25 (0, 0))) := by
  intro l N I Ix hI hIx hK hY w m hN hlw hm h0
  refine callsIn_of_wp_marks Try.func27 rfl trivial ?_ rfl
  simp only [Try.ntmps27, List.size_toArray, List.length_cons, List.length_nil, Nat.reduceAdd, Nat.reduceSub, Array.replicate_succ, Array.replicate_zero, List.push_toArray, List.append_toArray, List.nil_append, List.cons_append]
  refine wpIn_wide.2 ?_
  have HI := Lib.hid hI
  have HX := Lib.hid hIx
  have HY := Lib.hid hY
  have HKB := Lib.hid hK
  have HN := Lib.hid hN
  have hb := (hI _ _ _ _ h0 (Calm.alloc N w (.cells #[.func (.yield l) #[] #[]] 59)))
  have hb1 := hK _ _ _ hb
  have c2 : (w.alloc (.cells #[.func (.yield l) #[] #[]] 59)).cell? ⟨w.heap.size, 0, none⟩ = some (.func (.yield l) #[] #[]) := cell_of (World.alloc_heap_new _ _) rfl
  have H0 := Lib.hid (And.intro hb c2)
  have HM := Lib.hid (And.intro hlw hm)
  clear hI hIx hK hY h0 hb c2 hN hlw hm
  go_wp2_with fail
  refine wp_scope_ahead 0 rfl ?_
  go_wp2_with ((with_reducible refine load25 hb1 ?_ ?_); exact rfl)
  refine (rc_unpack' F _ hF).mono ?_
  rintro e W2 ⟨ao, n, cap, rfl, hE2, h5, h0', hnew⟩
  have HNEW := Lib.hid hnew
  clear hnew
  obtain ⟨HP, HC⟩ : Hid (Puts W2 ao n (unpL F)) ∧ Hid (n = cntE F) := by
    show Puts W2 ao n (unpL F) ∧ n = cntE F
    unfold cntE
    rcases unpE_cases F with hu | hu
    · obtain ⟨rfl, h⟩ := h0' hu
      exact ⟨h, by rw [if_pos hu]⟩
    · obtain ⟨rfl, rfl, rfl⟩ := h5 hu
      exact ⟨.inl rfl, by rw [if_neg (by omega)]⟩
  clear h5 h0'
  go_wp2_with fail
  refine wp_label ?_
  go_wp2_with fail
  refine (sl_values _ _ _ _).mono ?_
  rintro e w' ⟨rfl, rfl⟩
  go_wp2
  have hWs : w.heap.size + 1 ≤ W2.heap.size := by have := hE2.size; simp at this; omega
  have hkbox : (W2.alloc (.cells #[.slice ao n cap] 22)).cell? ⟨W2.heap.size, 0, none⟩ = some (.slice ao n cap) := cell_of (World.alloc_heap_new _ _) rfl
  have hn11 : n ≤ 16 := by rw [HC.out]; unfold cntE; split <;> (first | omega | (unfold unpN; omega))
  have HB := Lib.hid hkbox
  have HW := Lib.hid hWs
  have HE2 := Lib.hid hE2
  clear hkbox hWs hE2
  refine wpIn_wide.1 (wp_range (gf := 31) (lb := #[.pointer (some ⟨W2.heap.size, 0, none⟩)]) rfl (fun args w => enters_of Try.func31 (by kernel_rfl) rfl args w)
    (vals_seq W2.heap.size ao n cap (unpL F) (by omega)) (fun pre x h => by obtain ⟨k, _, _, rfl⟩ := enc_last h; rfl) (l :: m)
    (fun mm pre W => ∃ m, mm = l :: m ∧ (I m pre W ∧ W.cell? ⟨w.heap.size, 0, none⟩ = some (.func (.yield l) #[] #[]) ∧ W.cell? ⟨W2.heap.size, 0, none⟩ = some (.slice ao n cap) ∧ Puts W ao n (unpL F)) ∧ (∀ j ∈ m, j ≠ w.heap.size ∧ j ≠ W2.heap.size ∧ ∀ p, ao = some p → j ≠ p.block))
    (fun c W => c = .exit 0 ∧ Ix W) ?_ ?_ ?_ ?_ ?_ ?_ ?_ ?_)
  · exact fun mm pre => .ex fun m => (Steady.const _ _).and ((((HI.out m pre).mono (by have := HW.out; have := HN.out; simp; omega)).and (Steady.cell.and (Steady.cell.and Steady.puts))).and (Steady.const _ _))
  · exact fun c => (Steady.const _ _).and (HX.out.mono (by have := HW.out; have := HN.out; simp; omega))
  · rintro mm pre W ⟨m, _, h, _⟩
    exact h.2.2
  · intro j hj
    have h1 : j < w.heap.size := (List.mem_cons.1 hj).elim (fun h => h ▸ HM.out.1) (HM.out.2 j)
    have := HW.out; simp; omega
  · have hnew := HNEW.out
    simp at hnew
    refine ⟨m, rfl, ⟨HI.out _ _ _ _ (HI.out _ _ _ _ H0.out.1 (HE2.out.calm _)) (Calm.alloc _ _ _), (Ext.alloc HE2.out _).cell H0.out.2 (by simp), HB.out, HP.out.ext (Ext.alloc (Ext.refl [] _) _)⟩, fun j hj => ?_⟩
    have h1 := HM.out.2 j hj
    have h2 := HW.out
    exact ⟨by omega, by omega, fun p hp => by have := hnew p hp; omega⟩
  · rintro l2 mm pre x W hl2 ⟨m, rfl, ⟨hi, hb1, hb2, hp⟩, hm⟩ hok
    obtain ⟨k, hk, hpre, rfl⟩ := enc_last hok
    have c1 : (W.alloc (.cells #[.int .i64 (unpL F k).1, .int .u64 (unpL F k).2] 47)).cell? ⟨w.heap.size, 0, none⟩ = some (.func (.yield l) #[] #[]) := ((Ext.refl [] _).alloc _).cell hb1 (by simp)
    have c3 : (W.alloc (.cells #[.int .i64 (unpL F k).1, .int .u64 (unpL F k).2] 47)).cell? ⟨W2.heap.size, 0, none⟩ = some (.slice ao n cap) := ((Ext.refl [] _).alloc _).cell hb2 (by simp)
    have hp1 := hp.ext ((Ext.refl [] W).alloc (.cells #[.int .i64 (unpL F k).1, .int .u64 (unpL F k).2] 47))
    have HOK := Lib.hid hok
    have hpre := Lib.hid hpre
    clear hok
    intro K hK
    gi_wp2
    refine hK _ _ ((Ext.refl [] _).alloc _) ?_
    intro W' hC
    have hI' := HI.out _ _ _ _ (HI.out _ _ _ _ hi (Calm.alloc N _ (.cells #[.int .i64 (unpL F k).1, .int .u64 (unpL F k).2] 47))) (hC.mono (by have := HW.out; have := HN.out; simp; omega))
    have c2 := Steady.cell _ _ c1 hC
    have d1 := Steady.cell _ _ (cell_of (j := 0) (v := .int .i64 (unpL F k).1) (World.alloc_heap_new W (.cells #[.int .i64 (unpL F k).1, .int .u64 (unpL F k).2] 47)) rfl) hC
    have d2 := Steady.cell _ _ (cell_of (j := 1) (v := .int .u64 (unpL F k).2) (World.alloc_heap_new W (.cells #[.int .i64 (unpL F k).1, .int .u64 (unpL F k).2] 47)) rfl) hC
    have c4 := Lib.hid (Steady.cell _ _ c3 hC)
    have hp2 := Lib.hid (Steady.puts _ _ hp1 hC)
    obtain ⟨fn, tmps, assign, body, hy, hR⟩ := HY.out m pre #[.agg #[.int .i64 (unpL F k).1, .int .u64 (unpL F k).2]] W' hI' ⟨k + 1, by rw [← HC.out]; omega, by obtain ⟨k', h1, h2⟩ := HOK.out; rw [h2, show k' = k + 1 from by have := congrArg List.length h2; rw [hpre.out] at this; simp [encN_len] at this; omega]⟩
    gi_wp2
    refine ⟨rfl, hR.mono ?_⟩
    have hbl := HM.out
    have nb1 : w.heap.size ∉ l :: m := fun h => (List.mem_cons.1 h).elim (fun h => by have := HM.out.1; omega) (fun h => (hm _ h).1 rfl)
    have nb2 : W2.heap.size ∉ l :: m := fun h => (List.mem_cons.1 h).elim (fun h => by have := HM.out.1; have := HW.out; omega) (fun h => (hm _ h).2.1 rfl)
    have nb3 : ∀ p, ao = some p → p.block ∉ l :: m := fun p hp h => (List.mem_cons.1 h).elim (fun h => by have := HM.out.1; have := HNEW.out p hp; simp at this; omega) (fun h => (hm _ h).2.2 p hp rfl)
    have hl3 : ∀ p, ao = some p → p.block < W'.heap.size := by
      rintro p rfl
      rcases hp2.out with h | ⟨b, off, h1, h2⟩
      · omega
      · cases h1; have := World.block_lt_of_cell? _ _ (h2 k hk).1; exact this
    rintro e W3 ⟨hE3, (⟨rfl, m2, hs2, hJ3⟩ | ⟨rfl, hJx3⟩)⟩
    · gi_wp2
      have hsz := hC.size
      have hs1 := World.block_lt_of_cell? _ _ c2
      have hs3 := World.block_lt_of_cell? _ _ c4.out
      simp at hsz
      refine ⟨hE3, l :: m2, fun j hj => (List.mem_cons.1 hj).elim (fun h => .inl (by rw [h]; exact List.mem_cons_self ..)) (fun h => (hs2 j h).imp (List.mem_cons_of_mem _) (fun h => by omega)), m2, rfl, ⟨hJ3, hE3.cell c2 nb1, hE3.cell c4.out nb2, hp2.out.extm hE3 nb3⟩, fun j hj => (hs2 j hj).elim (hm j) (fun h => ⟨?_, ?_, fun p hp => ?_⟩)⟩
      · simp at hs1; omega
      · simp at hs3; omega
      · have := hl3 p hp; omega
    · gi_wp2
      exact ⟨hE3, rfl, hJx3⟩
  · intro D mm xs W hD hx hi hdD
    go_wp2
    simp only [Exit.jump]
    obtain ⟨m', rfl, ⟨hi, _⟩, _⟩ := hi
    refine leaves_mark hdD (results_none rfl _ _ _) ⟨⟨_, rfl⟩, .inl ⟨xs, m', by rw [hx, HC.out], HI.out _ _ _ _ hi (Calm.put hdD rfl (by have := HW.out; have := HN.out; simp at hD; omega) _)⟩⟩
  · intro D c W hD ⟨hc, hi⟩ hdD
    subst hc
    refine wpIn_exit ?_
    go_wp2
    simp only [Exit.jump]
    refine leaves_mark hdD (results_none rfl _ _ _) ⟨⟨_, rfl⟩, .inr (HX.out _ _ hi (Calm.put hdD rfl (by have := HW.out; have := HN.out; simp at hD; omega) _))⟩
end Go.Proofs.Yteaedcjnfigigaa
