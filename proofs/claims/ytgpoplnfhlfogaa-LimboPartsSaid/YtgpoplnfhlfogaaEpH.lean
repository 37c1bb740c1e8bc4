/- Clock.Pinned and its iterator. -/
import Derived.Test.YtgpoplnfhlfogaaEpG
import Derived.Test.YtgpoplnfhlfogaaRnd
import Derived.RangeFuncLeaves
namespace Go.Proofs.Ytgpoplnfhlfogaa
open Go Go.RowKit Go.Shelf
attribute [local go_sem] Oper.semAt_some

/-- a key and what lies there, as yield is handed them -/
def pairV (l : Ents) (k : Int) : Array Value := #[.int .i64 k, (look l k).getD (.int .i64 0)]
def encP (l : Ents) (k : Nat) : List (Array Value) := ((sortK l).take k).map (pairV l)
theorem encP_succ (l : Ents) (k : Nat) (h : k < l.length) : encP l (k + 1) = encP l k ++ [pairV l ((sortK l).getD k 0)] := by
  have h' : k < (sortK l).length := by rw [sortK_len]; exact h
  unfold encP
  rw [List.take_succ_eq_append_getElem h', List.map_append, show (sortK l).getD k 0 = (sortK l)[k] from by simp [h']]
  rfl
theorem encP_len (l : Ents) (k : Nat) (h : k ≤ l.length) : (encP l k).length = k := by simp [encP, sortK_len]; omega
def okP (l : Ents) (pre : List (Array Value)) : Prop := ∃ k, k ≤ l.length ∧ pre = encP l k
theorem okP_last {l : Ents} {pre : List (Array Value)} {x : Array Value} (h : okP l (pre ++ [x])) : ∃ k, k < l.length ∧ pre = encP l k ∧ x = pairV l ((sortK l).getD k 0) := by
  obtain ⟨k, hk, he⟩ := h
  cases k with
  | zero => simp [encP] at he
  | succ k =>
    rw [encP_succ l k (by omega)] at he
    obtain ⟨h1, h2⟩ := List.append_inj' he rfl
    exact ⟨k, by omega, h1, by simpa using h2⟩
/-- what the iterator reads -/
def PKB (B b : Nat) (l : Ents) (w : World) : Prop := w.cell? ⟨B, 0, none⟩ = some (.map (some b)) ∧ IMap w b l
theorem PKB.steady {M B b : Nat} {l : Ents} : Steady M (PKB B b l) := Steady.cell.and IMap.steady

set_option maxRecDepth 100000 in
set_option maxHeartbeats 4000000 in
theorem pinned_seq (Bw bm : Nat) (es : Ents) (hn : es.length ≤ 1000000) (hw : ∀ p ∈ es, (Lit.int .i64 p.1).wf = true) :
    SeqC Try.prog 96 #[.pointer (some ⟨Bw, 0, none⟩)] (okP es) (fun xs => xs = encP es es.length) (PKB Bw bm es) := by
  intro l N I Ix hI hIx hK hY w m hN hlw hm h0
  refine callsIn_of_wp_marks Try.func96 rfl trivial ?_ rfl
  simp only [Try.ntmps96, List.size_toArray, List.length_cons, List.length_nil, Nat.reduceAdd, Nat.reduceSub, Array.replicate_succ, Array.replicate_zero, List.push_toArray, List.append_toArray, List.nil_append, List.cons_append]
  refine wpIn_wide.2 ?_
  have HI := Lib.hid hI
  have HX := Lib.hid hIx
  have HY := Lib.hid hY
  have HKB := Lib.hid hK
  have HN := Lib.hid hN
  obtain ⟨w0, hw0⟩ : ∃ w0, w.alloc (.cells #[.func (.yield l) #[] #[]] 53) = w0 := ⟨_, rfl⟩
  have hb := (hI _ _ _ _ h0 (Calm.alloc N w (.cells #[.func (.yield l) #[] #[]] 53)))
  rw [hw0] at hb
  obtain ⟨kw, hM⟩ := hK _ _ _ hb
  have c2 : w0.cell? ⟨w.heap.size, 0, none⟩ = some (.func (.yield l) #[] #[]) := by rw [← hw0]; exact cell_of (World.alloc_heap_new _ _) rfl
  have hs0 : w0.heap.size = w.heap.size + 1 := by rw [← hw0]; simp
  have H0 := Lib.hid (And.intro hb (And.intro c2 (And.intro hs0 hM)))
  have HM := Lib.hid (And.intro hlw hm)
  clear hI hIx hK hY h0 hb hN hlw hm hs0 c2 hM
  go_wp2_with fail
  refine wp_scope_ahead 0 rfl ?_
  go_wp2_with fail
  refine wp_label ?_
  try rw [hw0]
  go_wp2_with fail
  refine (ep_sorted bm es w0 H0.out.2.2.2 hn hw).mono ?_
  rintro e w2 ⟨B, ao, cap, rfl, hB, hBl, hV, hE2, hao⟩
  have hI2 : I m [] w2 := HI.out _ _ _ _ H0.out.1 (hE2.calm _)
  have k2 := hE2.cell H0.out.2.1 (by simp)
  obtain ⟨s2, hs2⟩ : ∃ s2, w2.heap.size = s2 := ⟨_, rfl⟩
  have hz := hE2.size
  rw [hs2] at hBl hao hz
  have HB := Lib.hid (And.intro hB (And.intro hBl (And.intro hV (And.intro hao (And.intro hI2 (And.intro k2 (And.intro hs2 hz)))))))
  clear hB hBl hV hE2 hao hI2 k2 hs2 hz kw hw0
  go_wp2
  refine wpIn_wide.1 (wp_range (gf := 118) (lb := #[.pointer (some ⟨B, 0, none⟩)]) rfl (fun args w => enters_of Try.func118 (by kernel_rfl) rfl args w)
    (ivals_seq B ao cap (sortK es) (by rw [sortK_len]; exact hn)) (fun pre x h => by obtain ⟨k, _, _, rfl⟩ := okV_last h; rfl) (l :: m)
    (fun mm pre W => ∃ m, mm = l :: m ∧ (I m (encP es pre.length) W ∧ W.cell? ⟨w.heap.size, 0, none⟩ = some (.func (.yield l) #[] #[]) ∧ VKB B (.slice ao (sortK es).length cap) ao (sortK es) W ∧ s2 ≤ W.heap.size) ∧ (∀ j ∈ m, j < w.heap.size ∨ s2 ≤ j))
    (fun c W => c = .exit 0 ∧ Ix W) ?_ ?_ ?_ ?_ ?_ ?_ ?_ ?_)
  · exact fun mm pre => .ex fun m => (Steady.const _ _).and ((((HI.out m (encP es pre.length)).mono (by have := HB.out.2.2.2.2.2.2.1; have := HB.out.2.2.2.2.2.2.2; have := H0.out.2.2.1; have := HN.out; omega)).and (Steady.cell.and (VKB.steady.and (Steady.size _ _)))).and (Steady.const _ _))
  · exact fun c => (Steady.const _ _).and (HX.out.mono (by have := HB.out.2.2.2.2.2.2.1; have := HB.out.2.2.2.2.2.2.2; have := H0.out.2.2.1; have := HN.out; omega))
  · rintro mm pre W ⟨m, _, h, _⟩
    exact h.2.2.1
  · intro j hj
    have h1 : j < w.heap.size := (List.mem_cons.1 hj).elim (fun h => h ▸ HM.out.1) (HM.out.2 j)
    have := HB.out.2.2.2.2.2.2.1; have := HB.out.2.2.2.2.2.2.2; have := H0.out.2.2.1; omega
  · exact ⟨m, rfl, ⟨HB.out.2.2.2.2.1, HB.out.2.2.2.2.2.1, HB.out.2.2.1, Nat.le_of_eq HB.out.2.2.2.2.2.2.1.symm⟩, fun j hj => .inl (HM.out.2 j hj)⟩
  · rintro l2 mm pre x W hl2 ⟨m, rfl, ⟨hi, hb1, hb2, hb3⟩, hm⟩ hok
    obtain ⟨k, hk, hpre, rfl⟩ := okV_last hok
    rw [sortK_len] at hk
    obtain ⟨p, hp⟩ : ∃ p, (sortK es).getD k 0 = p := ⟨_, rfl⟩
    have hs := encP_succ es k hk
    rw [hp] at hs ⊢
    have hpl : pre.length = k := by rw [hpre, encV_len _ _ (by rw [sortK_len]; omega)]
    rw [hpl] at hi
    have HS := Lib.hid (And.intro hs (And.intro hpl (And.intro hk (And.intro hl2 hm))))
    clear hok hs hpl hpre hl2 hk hm
    have H1 := Lib.hid (And.intro hb1 (And.intro hb2 (And.intro hb3 hi)))
    clear hb1 hb2 hb3 hi hp
    intro K hK
    unfold intV
    gi_wp2
    refine hK _ _ (Ext.refl _ _) ?_
    intro W' hC
    clear hK K
    have hI' := HI.out _ _ _ _ H1.out.2.2.2 (hC.mono (by have := HB.out.2.2.2.2.2.2.1; have := HB.out.2.2.2.2.2.2.2; have := H0.out.2.2.1; have := HN.out; omega))
    have c1 := Steady.cell _ _ H1.out.1 hC
    have hV2 := VKB.steady _ _ H1.out.2.1 hC
    obtain ⟨kb, hM⟩ := HKB.out _ _ _ hI'
    have hz' := hC.size
    have hlk := run_look_at (P := Try.prog) 42 3 3 (.int .i64 0) Try.underlying42 Try.underlying3 (zeroI W') hM p
    obtain ⟨fn, tmps, assign, body, hy, hR⟩ := HY.out m (encP es k) (pairV es p) W' hI' ⟨k + 1, HS.out.2.2.1, HS.out.1.symm⟩
    unfold pairV at hy
    obtain ⟨u, hu⟩ : ∃ u, (look es p).getD (.int .i64 0) = u := ⟨_, rfl⟩
    rw [hu] at hlk hy
    have HC := Lib.hid (And.intro hV2 (And.intro hz' hM))
    clear hC hI' hV2 hz' hM hu
    gi_wp2
    refine ⟨rfl, hR.mono ?_⟩
    obtain ⟨hs1, hl2, hk, hl2', hm⟩ := HS.out
    rintro e W3 ⟨hE3, (⟨rfl, m2, hs2, hJ3⟩ | ⟨rfl, hJx3⟩)⟩
    · have HNB := Lib.hid (And.intro hs2 (And.intro hJ3 (And.intro hE3 (And.intro hs1 (And.intro hl2 hm)))))
      clear hs1 hl2 hk hl2' hm hE3 hs2 hJ3
      gi_wp2
      obtain ⟨hs2, hJ3, hE3, hs1, hl2, hm⟩ := HNB.out
      obtain ⟨q1, q2, q3, q4, q5, q6, q7, q8⟩ := HB.out
      have q9 := H0.out.2.2.1
      have q10 := H1.out.2.2.1
      have q11 := HC.out.2.1
      have hnb : ∀ x, w.heap.size ≤ x → x < s2 → x ∉ l :: m := fun x h1 h2 h => (List.mem_cons.1 h).elim (fun h => by have := HM.out.1; omega) (fun h => by have := hm x h; omega)
      refine ⟨hE3, l :: m2, fun j hj => (List.mem_cons.1 hj).elim (fun h => .inl (by rw [h]; exact List.mem_cons_self ..)) (fun h => (hs2 j h).imp (List.mem_cons_of_mem _) (fun h => by omega)), m2, rfl, ⟨?_, hE3.cell c1 (show w.heap.size ∉ l :: m from hnb _ (Nat.le_refl _) (by omega)), ⟨hE3.cell HC.out.1.1 (show B ∉ l :: m from hnb _ (by omega) q2), HC.out.1.2.ext hE3 (fun p hp => hnb _ (by have := (q4 p hp).1; omega) (q4 p hp).2)⟩, by have := hE3.size; omega⟩, fun j hj => (hs2 j hj).elim (hm j) (fun h => .inr (by omega))⟩
      rw [List.length_append, hl2]
      show I m2 (encP es (k + 1)) W3
      rw [hs1]
      exact hJ3
    · have HNB := Lib.hid hE3
      clear hE3
      gi_wp2
      exact ⟨HNB.out, rfl, hJx3⟩
  · intro D mm xs W hD hx hi hdD
    go_wp2
    simp only [Exit.jump]
    obtain ⟨m', rfl, ⟨hi, _⟩, _⟩ := hi
    refine leaves_mark hdD (results_none rfl _ _ _) ⟨⟨_, rfl⟩, .inl ⟨_, m', rfl, HI.out _ _ _ _ (by rw [show es.length = xs.length from by rw [hx, encV_len _ _ (Nat.le_refl _), sortK_len]]; exact hi) (Calm.put hdD rfl (by have := HB.out.2.2.2.2.2.2.1; have := HB.out.2.2.2.2.2.2.2; have := H0.out.2.2.1; have := HN.out; omega) _)⟩⟩
  · intro D c W hD ⟨hc, hi⟩ hdD
    subst hc
    refine wpIn_exit ?_
    go_wp2
    simp only [Exit.jump]
    refine leaves_mark hdD (results_none rfl _ _ _) ⟨⟨_, rfl⟩, .inr (HX.out _ _ hi (Calm.put hdD rfl (by have := HB.out.2.2.2.2.2.2.1; have := HB.out.2.2.2.2.2.2.2; have := H0.out.2.2.1; have := HN.out; omega) _))⟩

set_option maxRecDepth 100000 in
set_option maxHeartbeats 1000000 in
theorem ep_Pinned (c m : Nat) (now : Int) (es : Ents) (w : World) (h : Clk w c m now es) :
    Calls Try.prog 51 #[.pointer (some ⟨c, 0, none⟩)] w fun e w' => ∃ B b, e = .returned (.func (.func 96) #[] #[.pointer (some ⟨B, 0, none⟩)]) ∧ Ext [] w w' ∧ PKB B b es w' ∧ w.heap.size ≤ B ∧ w.heap.size ≤ b := by
  have HN := Lib.hid (fun W hE => ep_none_no c m W ((h.ext (k := []) hE (by simp) (by simp)).c1))
  have HCL : Hid (∀ W, Ext [] w W → Calls Try.prog 95 #[.map (some m)] W fun e w' => ∃ nb, e = .returned (.map (some nb)) ∧ Ext [] W w' ∧ nb = W.heap.size ∧ IMap w' nb es) := by
    intro W hE
    refine (ep_clone m es W (h.2.ext hE (by simp))).mono ?_
    rintro e w' ⟨rfl, hE2, _, hI⟩
    exact ⟨_, rfl, hE2, rfl, hI⟩
  have k1 := h.c1
  have hcf := enters_of Try.func96 (by kernel_rfl) rfl
  have hmm := @run_makeMap Try.prog
  clear h
  go_enter Try.func51, Try.ntmps51
  go_wp2_with fail
  refine (HN.out _ (by repeat (first | exact Ext.refl _ _ | refine Ext.alloc ?_ _ | refine Ext.setCell ?_ (.inr (by simp)) _))).mono ?_
  rintro e w' ⟨rfl, rfl⟩
  obtain ⟨W1, hW1⟩ : ∃ W1, (w.alloc (.map #[] 0)).alloc (.cells #[.map (some w.heap.size)] 42) = W1 := ⟨_, rfl⟩
  have hE1 : Ext [] w W1 := by rw [← hW1]; exact ((Ext.refl _ _).alloc _).alloc _
  have hb1 : W1.heap[w.heap.size + 1]? = some (.cells #[.map (some w.heap.size)] 42 (0, 0)) := by
    rw [← hW1]; have := World.alloc_heap_new (w.alloc (.map #[] 0)) (.cells #[.map (some w.heap.size)] 42); rwa [World.size_alloc] at this
  have hz1 : W1.heap.size = w.heap.size + 2 := by rw [← hW1]; simp
  try rw [hW1]
  clear hW1
  have k2 := hE1.cell k1 (by simp)
  clear k1
  go_wp2_with fail
  refine (HCL.out _ hE1).mono ?_
  rintro e w5 ⟨nb, rfl, hE5, hnb, hI5⟩
  have hb5 := hE5.at hb1 (by simp)
  have q1 := cell_of hb5 (j := 0) rfl
  have q2 := free_of hb5 0
  have HF := Lib.hid (And.intro hE1 (And.intro hz1 (And.intro hE5 (And.intro hnb (And.intro hI5 hb5)))))
  clear hE1 hz1 hE5 hnb hI5 hb5 k2 hb1
  go_wp2
  go_ret
  obtain ⟨hE1, hz1, hE5, hnb, hI5, hb5⟩ := HF.out
  refine ⟨_, nb, rfl, (hE1.trans hE5).setCell (.inr (by simp)) _, ⟨cell_of (cell1_set hb5 _) rfl, hI5.setCell (by simp; omega) _⟩, by omega, by omega⟩
end Go.Proofs.Ytgpoplnfhlfogaa
