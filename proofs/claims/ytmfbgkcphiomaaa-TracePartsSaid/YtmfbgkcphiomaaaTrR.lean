/- The law's own puts: the words that a list stores, as rows. -/
import Derived.Test.YtmfbgkcphiomaaaTrQ
import Derived.Test.YtmfbgkcphiomaaaTrN
import Derived.Test.YtmfbgkcphiomaaaApI
namespace Go.Proofs.Ytmfbgkcphiomaaa
open Go Go.RowKit Go.Shelf
attribute [local go_sem] Oper.semAt_some

set_option maxRecDepth 100000 in
set_option maxHeartbeats 4000000 in
theorem la_puts (N : Nat) (ao : Option Addr) (cap : Nat) (L : List Tch) (w : World) (hp : TcAt w N ao L) (hn : L.length ≤ 1000000) (hc : (putsL (stL L)).length ≤ 100) :
    Calls Try.prog 23 #[.slice ao L.length cap] w fun e w' => ∃ v, e = .returned v ∧ PutOwn w' w.heap.size v (putsL (stL L)) ∧ Ext [] w w' := by
  have HSt := Lib.hid (fun W (hE : Ext [] w W) => tr_Stores N ao cap L W (hp.ext0 hE) hn)
  obtain ⟨P, hP⟩ : ∃ P, putsL (stL L) = P := ⟨_, rfl⟩
  rw [hP] at HSt hc ⊢
  have HC := Lib.hid hc
  obtain ⟨i0, hi, hz0, hz1, hz2⟩ := info_parts infoPutB
  have HI := Lib.hid (And.intro hi (And.intro hz0 (And.intro hz1 hz2)))
  generalize L.length = n at *
  clear hp hn hP hc hi hz0 hz1 hz2
  obtain ⟨w0, hw0⟩ : ∃ w0, w.alloc (.cells #[.slice none 0 0] 34) = w0 := ⟨_, rfl⟩
  obtain ⟨nb, hnb⟩ : ∃ nb, w.heap.size = nb := ⟨_, rfl⟩
  have HB0 : Hid (w0.heap[nb]? = some (.cells #[.slice none 0 0] 34 (0, 0))) := by rw [← hw0, ← hnb]; exact World.alloc_heap_new _ _
  have HE0 : Hid (Ext [] w w0) := by rw [← hw0]; exact (Ext.refl _ _).alloc _
  refine (callsIn_wide (n := 0)).1 (callsIn_of_wp_marks Try.func23 rfl trivial ?_ rfl)
  simp only [Try.ntmps23, List.size_toArray, List.length_cons, List.length_nil, Nat.reduceAdd, Nat.reduceSub, Array.replicate_succ, Array.replicate_zero, List.push_toArray, List.append_toArray, List.nil_append, List.cons_append]
  refine wpIn_wide.2 (wp_mono (Q := NoPanic (bodyPostM Fence.wide 0 Try.prog Try.f23 fun e w' => ∃ v, e = .returned v ∧ PutOwn w' w.heap.size v P ∧ Ext [] w w')) ?_ NoPanic.out)
  go_wp2_with fail
  try rw [hw0]
  try rw [hnb]
  refine (HSt.out w0 HE0.out).mono ?_
  rintro e w3 ⟨B1, m1, es1, rfl, hE, _, _, _, _, _⟩
  have heq := eqfn2 35 #[.pointer (some ⟨B1, 0, none⟩)] w3
  have H3 := Lib.hid (HE0.out.trans hE)
  have HB3 := Lib.hid (hE.at HB0.out (by simp))
  have HNB := Lib.hid hnb
  clear hE hw0 hnb
  go_wp2_with fail
  refine (HSt.out w3 H3.out).mono ?_
  rintro e W4 ⟨B, bm, es, rfl, hE, hK, hLy, hwf, hBB, hbm⟩
  have hs3 := lt_of_block HB3.out
  have H4 := Lib.hid (And.intro (H3.out.trans hE) (And.intro (hE.at HB3.out (by simp)) (And.intro hK (And.intro hLy (And.intro hwf (show nb < B ∧ nb < bm from ⟨by omega, by omega⟩))))))
  clear hE hK hLy hwf hBB hbm heq hs3
  go_wp2
  have hlt4 := lt_of_block H4.out.2.1
  have HLT := Lib.hid hlt4
  clear hlt4
  refine wpIn_wide.1 (wp_range (gf := 35) (lb := #[.pointer (some ⟨B, 0, none⟩)]) rfl (fun args w => enters_of Try.func35 (by kernel_rfl) rfl args w)
    (stores_seq B bm es P H4.out.2.2.2.1 (by have := HC.out; omega) H4.out.2.2.2.2.1) (fun pre x h => by obtain ⟨k, _, _, rfl⟩ := okW_last h; rfl) [nb]
    (fun mm pre W => ∃ v, mm = nb :: v.ownBlock.toList ∧ (W.heap[nb]? = some (.cells #[v] 34 (0, 0)) ∧ PutOwn W W4.heap.size v (P.take pre.length) ∧ Ext [nb] W4 W)) (fun _ _ => False) ?_ ?_ ?_ ?_ ?_ ?_ ?_ ?_)
  · exact fun mm pre => .ex fun v => (Steady.const _ _).and ((Steady.block (.inr rfl)).and (steady_owns.and (Steady.ext (Nat.le_refl _))))
  · exact fun c => Steady.const _ _
  · rintro mm pre W' ⟨v, _, _, _, hE⟩
    obtain ⟨h1, h2⟩ := H4.out.2.2.1
    obtain ⟨h3, h4⟩ := H4.out.2.2.2.2.2
    exact ⟨hE.cell h1 (by simp; omega), h2.ext hE (by simp; omega)⟩
  · intro x hx
    simp at hx
    subst hx
    exact HLT.out
  · exact ⟨_, rfl, H4.out.2.1, PutOwn.nil _ _, Ext.refl _ _⟩
  · rintro l2 mm pre x W hl2 ⟨v, rfl, hb, hO, hE⟩ hok
    obtain ⟨k, hk, hpre, rfl⟩ := okW_last hok
    have hpl : pre.length = k := by rw [hpre, encW_len _ _ (Nat.le_of_lt hk)]
    rw [hpl] at hO
    have hts := takeP_snoc hk
    have hlk : (P.take k).length = k := by rw [List.length_take]; omega
    obtain ⟨vo, vcap, rfl, _, _⟩ := hO.at
    rw [hlk] at hO hb ⊢
    obtain ⟨p, hp⟩ : ∃ p, P.getD k (0, 0) = p := ⟨_, rfl⟩
    rw [hp] at hts ⊢
    have HS := Lib.hid (And.intro hpl (And.intro hk (And.intro hts (And.intro hlk hl2))))
    have HI1 := Lib.hid (And.intro hb (And.intro hO hE))
    clear hok hpre hpl hk hts hlk hb hO hE hl2 hp
    intro K hK
    unfold pairW
    gi_wp2
    refine hK _ _ (Ext.refl [] _) ?_
    intro W6 hC
    clear hK K
    obtain ⟨hb6, hO6, hE6⟩ := ((Steady.block (.inr rfl)).and (steady_owns.and (Steady.ext (Nat.le_refl _)))) _ _ HI1.out hC
    have hne : ∀ g, (Value.slice vo k vcap).ownBlock = some g → g ≠ nb := fun g hg => by have := (World.ownsRow.lt hO6 g hg).1; have := HLT.out; omega
    have hsz := hE6.size
    have hb1 := World.alloc_heap_new W6 (.cells #[.int .i64 p.1, .int .u64 p.2] 41)
    have q0 := cell_of (j := 0) (v := .slice vo k vcap) hb6 rfl
    have H6 := Lib.hid (And.intro hb6 (And.intro hO6 (And.intro hE6 (And.intro hne (And.intro hsz (And.intro hb1 hC.size))))))
    clear hb6 hO6 hE6 hne hsz hb1 hC
    gi_wp2_with (gi_at_builtin; refine wpListIn_append_any rfl _ _ 34 rfl W4.heap.size 41 i0 _ 2 16 Try.underlying34 HI.out.1 HI.out.2.1 HI.out.2.2.1 HI.out.2.2.2 rfl (by omega) (.slice vo k vcap) k (rowC (pR (P.take k)) k) rfl ?c0 (some ⟨W6.heap.size, 0, none⟩) 1 1 [.int .i64 p.1, .int .u64 p.2] rfl (put_src p.1 p.2 H6.out.2.2.2.2.2.1) ?c1 ?c2 ?c3 ?_)
    case c0 =>
      have h := H6.out.2.1
      unfold PutOwn at h
      rw [HS.out.2.2.2.1] at h
      exact owns_ext h ((Ext.refl [] W6).alloc _) (fun _ _ => by simp)
    case c1 => have h1 := HS.out.2.1; have h2 := HC.out; unfold maxLen; omega
    case c2 => have h1 := HS.out.2.1; have h2 := HC.out; omega
    case c3 => have h1 := H6.out.2.2.2.2.1; simp; omega
    intro v1 wA ho1 hEA hbA
    have hO7 : PutOwn wA W4.heap.size v1 (P.take (k + 1)) := by
      rw [HS.out.2.2.1]
      exact PutOwn.snoc p HS.out.2.2.2.1 ho1
    have hb7 : wA.heap[nb]? = some (.cells #[.slice vo k vcap] 34 (0, 0)) := hEA.at (block_al H6.out.1) (fun h => H6.out.2.2.2.1 nb (by simpa using h) rfl)
    have hlk1 : (P.take (k + 1)).length = k + 1 := by rw [List.length_take]; have := HS.out.2.1; omega
    obtain ⟨uo, ucap, rfl, _, _⟩ := hO7.at
    rw [hlk1] at hO7 ho1 hbA ⊢
    have q2 := cell_of (j := 0) (v := .slice vo k vcap) hb7 rfl
    have q3 := free_of hb7 0
    have hd : ¬ ((100 : Int) < ((k + 1 : Nat) : Int)) := by have h1 := HS.out.2.1; have h2 := HC.out; omega
    have hne1 : ∀ g, (Value.slice uo (k + 1) ucap).ownBlock = some g → g ≠ nb := fun g hg => by have := (World.ownsRow.lt hO7 g hg).1; have := HLT.out; omega
    have H7 := Lib.hid (And.intro hO7 (And.intro hb7 (And.intro hne1 (And.intro hbA hEA))))
    clear hO7 hb7 hne1 hbA hEA hlk1 ho1 q0
    gi_wp2
    obtain ⟨h1, h2, h3, h4, h5⟩ := H7.out
    have e1 : Ext (nb :: (Value.slice vo k vcap).ownBlock.toList) W6 (wA.setCell ⟨nb, 0, none⟩ (.slice uo (k + 1) ucap)) :=
      Ext.setCell (p := ⟨nb, 0, none⟩) ((((Ext.refl [] W6).alloc _).mono (fun j hj => by cases hj)).trans' h5 (fun j hj => .inl (List.mem_cons_of_mem nb hj))) (.inl (List.mem_cons_self ..)) _
    have hsz0 : W.heap.size ≤ W6.heap.size := H6.out.2.2.2.2.2.2
    refine ⟨e1, nb :: (Value.slice uo (k + 1) ucap).ownBlock.toList, fun j hj => ?_, _, rfl, cell1_set h2 _, ?_, ?_⟩
    · rcases List.mem_cons.1 hj with h | h
      · exact .inl (by rw [h]; exact List.mem_cons_self ..)
      · rcases h4 j (by simpa using h) with h6 | h6
        · exact .inl (List.mem_cons_of_mem _ (by simpa using h6))
        · right
          try simp only [World.size_alloc] at h6
          omega
    · try rw [List.length_append]
      show PutOwn _ _ _ (P.take (pre.length + 1))
      rw [HS.out.1]
      exact owns_ext h1 ((Ext.refl [nb] wA).setCell (.inl (by simp)) _) (fun g hg => by simpa using h3 g hg)
    · refine H6.out.2.2.1.trans' e1 (fun j hj => ?_)
      rcases List.mem_cons.1 hj with h | h
      · exact .inl (by simp [h])
      · exact .inr (World.ownsRow.lt H6.out.2.1 j (by simpa using h)).1
  · intro D mm xs W' hD hx hi hdD
    obtain ⟨v, rfl, hb, hO, hE⟩ := hi
    rw [show xs = _ from hx, encW_len _ _ (Nat.le_refl _), List.take_length] at hO
    obtain ⟨vo, vcap, rfl, _, _⟩ := hO.at
    have q0 := cell_of (j := 0) (v := .slice vo P.length vcap) hb rfl
    have HF := Lib.hid (And.intro hO (And.intro hE (And.intro hdD hD)))
    clear hb hO hE hdD hx hD
    go_wp2
    obtain ⟨h1, h2, h3, h4⟩ := HF.out
    have hX : Ext [] w W' := H4.out.1.trans' h2 (fun j hj => .inr (by simp at hj; have := HNB.out; omega))
    show LeavesInM _ _ _ _ _ _ _ _ _
    exact leaves_mark h3 (results_tmp Try.results23 _ _ _ rfl) ⟨_, rfl, PutOwn.low (steady_owns (N := 0) _ _ h1 (Calm.put h3 rfl (Nat.zero_le _) _)) H4.out.1.size, hX.put (.inr (Nat.le_trans H4.out.1.size h4)) _⟩
  · intro D c' W' hD h
    exact h.elim
end Go.Proofs.Ytmfbgkcphiomaaa
