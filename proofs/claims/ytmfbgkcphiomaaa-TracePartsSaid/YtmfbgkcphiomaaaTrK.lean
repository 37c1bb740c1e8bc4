/- Package trace: Stores and its iterator. -/
import Derived.Test.YtmfbgkcphiomaaaStc
import Derived.Test.YtmfbgkcphiomaaaTrJ
import Derived.Test.YtmfbgkcphiomaaaRnd
import Derived.RangeFuncLeaves
namespace Go.Proofs.Ytmfbgkcphiomaaa
open Go Go.RowKit Go.Shelf
attribute [local go_sem] Oper.semAt_some

set_option maxHeartbeats 1000000 in
/-- addressed: the keys, rising, as an iterator's source -/
theorem tr_addr (b : Nat) (l : Ents) (w : World) (h : IMap w b l) (hl : l.length ≤ 1000000) (hw : ∀ p ∈ l, (Lit.int .i64 p.1).wf = true) :
    Calls Try.prog 36 #[.map (some b)] w fun e w' => ∃ B ao cap, e = .returned (.func (.func 56) #[] #[.pointer (some ⟨B, 0, none⟩)]) ∧
      w.heap.size ≤ B ∧ B < w'.heap.size ∧ VKB B (.slice ao (sortK l).length cap) ao (sortK l) w' ∧ Ext [] w w' ∧ (∀ p, ao = some p → w.heap.size ≤ p.block ∧ p.block < w'.heap.size) := by
  have HS := Lib.hid (tr_sortedC b l w h hl hw)
  have HV := Lib.hid iv_values
  go_enter Try.func36, Try.ntmps36
  go_wp2_with fail
  refine HS.out.mono ?_
  rintro e w1 ⟨ao, cap, rfl, hI, hE, hb⟩
  have H1 := Lib.hid (And.intro hI (And.intro hE hb))
  clear hI hE hb
  go_wp2_with fail
  refine (HV.out _ _ _ _).mono ?_
  rintro e w2 ⟨rfl, rfl⟩
  go_wp2
  go_ret
  have hz := H1.out.2.1.size
  refine ⟨_, ao, cap, rfl, hz, by simp, ⟨cell_of (World.alloc_heap_new _ _) rfl, fun i hi => ?_⟩, H1.out.2.1.alloc _, fun p hp => ⟨(H1.out.2.2 p hp).1, by have := (H1.out.2.2 p hp).2; simp; omega⟩⟩
  obtain ⟨g, off, e1, e2⟩ := H1.out.1 i hi
  exact ⟨g, off, e1, cell_al e2⟩

/-- an address and a word, as yield is handed them -/
def pairW (p : Int × Int) : Array Value := #[.int .i64 p.1, .int .u64 p.2]
def encW (W : List (Int × Int)) (k : Nat) : List (Array Value) := (W.take k).map pairW
theorem encW_succ (W : List (Int × Int)) (k : Nat) (h : k < W.length) : encW W (k + 1) = encW W k ++ [pairW (W.getD k (0, 0))] := by
  unfold encW
  rw [List.take_succ_eq_append_getElem h, List.map_append, show W.getD k (0, 0) = W[k] from by simp [h]]
  rfl
theorem encW_len (W : List (Int × Int)) (k : Nat) (h : k ≤ W.length) : (encW W k).length = k := by simp [encW]; omega
def okW (W : List (Int × Int)) (pre : List (Array Value)) : Prop := ∃ k, k ≤ W.length ∧ pre = encW W k
theorem okW_last {W : List (Int × Int)} {pre : List (Array Value)} {x : Array Value} (h : okW W (pre ++ [x])) : ∃ k, k < W.length ∧ pre = encW W k ∧ x = pairW (W.getD k (0, 0)) := by
  obtain ⟨k, hk, he⟩ := h
  cases k with
  | zero => simp [encW] at he
  | succ k =>
    rw [encW_succ W k (by omega)] at he
    obtain ⟨h1, h2⟩ := List.append_inj' he rfl
    exact ⟨k, by omega, h1, by simpa using h2⟩
/-- the map's entries are these addresses and words -/
def Lays (es : Ents) (W : List (Int × Int)) : Prop := sortK es = W.map (·.1) ∧ ∀ p ∈ W, look es p.1 = some (.int .u64 p.2)
theorem Lays.len {es : Ents} {W : List (Int × Int)} (h : Lays es W) : es.length = W.length := by rw [← sortK_len, h.1, List.length_map]
theorem Lays.key {es : Ents} {W : List (Int × Int)} (h : Lays es W) {k : Nat} (hk : k < W.length) : (sortK es).getD k 0 = (W.getD k (0, 0)).1 := by
  rw [h.1, List.getD_eq_getElem?_getD, List.getD_eq_getElem?_getD, List.getElem?_map, List.getElem?_eq_getElem hk]
  rfl
theorem Lays.val {es : Ents} {W : List (Int × Int)} (h : Lays es W) {k : Nat} (hk : k < W.length) : look es (W.getD k (0, 0)).1 = some (.int .u64 (W.getD k (0, 0)).2) := by
  refine h.2 _ ?_
  rw [List.getD_eq_getElem?_getD, List.getElem?_eq_getElem hk]
  exact List.getElem_mem hk
theorem zeroU (w : World) : (zeroValue 39).run Try.prog w = .ok (.int .u64 0) w := by kernel_rfl
/-- what the iterator reads -/
def PKB (B b : Nat) (l : Ents) (w : World) : Prop := w.cell? ⟨B, 0, none⟩ = some (.map (some b)) ∧ IMap w b l
theorem PKB.steady {M B b : Nat} {l : Ents} : Steady M (PKB B b l) := Steady.cell.and IMap.steady

set_option maxRecDepth 100000 in
set_option maxHeartbeats 4000000 in
theorem stores_seq (Bw bm : Nat) (es : Ents) (W0 : List (Int × Int)) (hy : Lays es W0) (hn : W0.length ≤ 1000000) (hw : ∀ p ∈ es, (Lit.int .i64 p.1).wf = true) :
    SeqC Try.prog 35 #[.pointer (some ⟨Bw, 0, none⟩)] (okW W0) (fun xs => xs = encW W0 W0.length) (PKB Bw bm es) := by
  have HLY := Lib.hid hy
  have hel := hy.len
  rw [← hel] at hn
  have HEL := Lib.hid hel
  clear hy hel
  intro l N I Ix hI hIx hK hY w m hN hlw hm h0
  refine callsIn_of_wp_marks Try.func35 rfl trivial ?_ rfl
  simp only [Try.ntmps35, List.size_toArray, List.length_cons, List.length_nil, Nat.reduceAdd, Nat.reduceSub, Array.replicate_succ, Array.replicate_zero, List.push_toArray, List.append_toArray, List.nil_append, List.cons_append]
  refine wpIn_wide.2 ?_
  have HI := Lib.hid hI
  have HX := Lib.hid hIx
  have HY := Lib.hid hY
  have HKB := Lib.hid hK
  have HN := Lib.hid hN
  obtain ⟨w0, hw0⟩ : ∃ w0, w.alloc (.cells #[.func (.yield l) #[] #[]] 64) = w0 := ⟨_, rfl⟩
  have hb := (hI _ _ _ _ h0 (Calm.alloc N w (.cells #[.func (.yield l) #[] #[]] 64)))
  rw [hw0] at hb
  obtain ⟨kw, hM⟩ := hK _ _ _ hb
  have c2 : w0.cell? ⟨w.heap.size, 0, none⟩ = some (.func (.yield l) #[] #[]) := by rw [← hw0]; exact cell_of (World.alloc_heap_new _ _) rfl
  have hs0 : w0.heap.size = w.heap.size + 1 := by rw [← hw0]; simp
  have H0 := Lib.hid (And.intro hb (And.intro c2 (And.intro hs0 hM)))
  have HM := Lib.hid (And.intro hlw hm)
  clear hI hIx hK hY h0 hb hN hlw hm hs0 c2 hM
  go_wp2_with fail
  refine wp_scope_ahead 0 rfl ?_
  go_wp2_with fail
  refine wp_label ?_
  try rw [hw0]
  go_wp2_with fail
  refine (tr_addr bm es w0 H0.out.2.2.2 hn hw).mono ?_
  rintro e w2 ⟨B, ao, cap, rfl, hB, hBl, hV, hE2, hao⟩
  have hI2 : I m [] w2 := HI.out _ _ _ _ H0.out.1 (hE2.calm _)
  have k2 := hE2.cell H0.out.2.1 (by simp)
  obtain ⟨s2, hs2⟩ : ∃ s2, w2.heap.size = s2 := ⟨_, rfl⟩
  have hz := hE2.size
  rw [hs2] at hBl hao hz
  have HB := Lib.hid (And.intro hB (And.intro hBl (And.intro hV (And.intro hao (And.intro hI2 (And.intro k2 (And.intro hs2 hz)))))))
  clear hB hBl hV hE2 hao hI2 k2 hs2 hz kw hw0
  go_wp2
  refine wpIn_wide.1 (wp_range (gf := 56) (lb := #[.pointer (some ⟨B, 0, none⟩)]) rfl (fun args w => enters_of Try.func56 (by kernel_rfl) rfl args w)
    (ivals_seq B ao cap (sortK es) (by rw [sortK_len]; exact hn)) (fun pre x h => by obtain ⟨k, _, _, rfl⟩ := okV_last h; rfl) (l :: m)
    (fun mm pre W => ∃ m, mm = l :: m ∧ (I m (encW W0 pre.length) W ∧ W.cell? ⟨w.heap.size, 0, none⟩ = some (.func (.yield l) #[] #[]) ∧ VKB B (.slice ao (sortK es).length cap) ao (sortK es) W ∧ s2 ≤ W.heap.size) ∧ (∀ j ∈ m, j < w.heap.size ∨ s2 ≤ j))
    (fun c W => c = .exit 0 ∧ Ix W) ?_ ?_ ?_ ?_ ?_ ?_ ?_ ?_)
  · exact fun mm pre => .ex fun m => (Steady.const _ _).and ((((HI.out m (encW W0 pre.length)).mono (by have := HB.out.2.2.2.2.2.2.1; have := HB.out.2.2.2.2.2.2.2; have := H0.out.2.2.1; have := HN.out; omega)).and (Steady.cell.and (VKB.steady.and (Steady.size _ _)))).and (Steady.const _ _))
  · exact fun c => (Steady.const _ _).and (HX.out.mono (by have := HB.out.2.2.2.2.2.2.1; have := HB.out.2.2.2.2.2.2.2; have := H0.out.2.2.1; have := HN.out; omega))
  · rintro mm pre W ⟨m, _, h, _⟩
    exact h.2.2.1
  · intro j hj
    have h1 : j < w.heap.size := (List.mem_cons.1 hj).elim (fun h => h ▸ HM.out.1) (HM.out.2 j)
    have := HB.out.2.2.2.2.2.2.1; have := HB.out.2.2.2.2.2.2.2; have := H0.out.2.2.1; omega
  · exact ⟨m, rfl, ⟨HB.out.2.2.2.2.1, HB.out.2.2.2.2.2.1, HB.out.2.2.1, Nat.le_of_eq HB.out.2.2.2.2.2.2.1.symm⟩, fun j hj => .inl (HM.out.2 j hj)⟩
  · rintro l2 mm pre x W hl2 ⟨m, rfl, ⟨hi, hb1, hb2, hb3⟩, hm⟩ hok
    obtain ⟨k, hk, hpre, rfl⟩ := okV_last hok
    rw [sortK_len, HEL.out] at hk
    have hpk := HLY.out.key hk
    have hlkp := HLY.out.val hk
    have hs := encW_succ W0 k hk
    obtain ⟨p, hp⟩ : ∃ p, W0.getD k (0, 0) = p := ⟨_, rfl⟩
    rw [hp] at hs hpk hlkp
    rw [hpk]
    have HLK := Lib.hid hlkp
    clear hlkp hpk
    have hpl : pre.length = k := by rw [hpre, encV_len _ _ (by rw [sortK_len, HEL.out]; omega)]
    rw [hpl] at hi
    have HS := Lib.hid (And.intro hs (And.intro hpl (And.intro hk (And.intro hl2 hm))))
    clear hok hs hpl hpre hl2 hk hm
    have H1 := Lib.hid (And.intro hb1 (And.intro hb2 (And.intro hb3 hi)))
    clear hb1 hb2 hb3 hi hp
    intro K hK
    unfold intV
    gi_wp2
    refine hK _ _ (Ext.refl _ _) ?_
    intro W' hC
    clear hK K
    have hI' := HI.out _ _ _ _ H1.out.2.2.2 (hC.mono (by have := HB.out.2.2.2.2.2.2.1; have := HB.out.2.2.2.2.2.2.2; have := H0.out.2.2.1; have := HN.out; omega))
    have c1 := Steady.cell _ _ H1.out.1 hC
    have hV2 := VKB.steady _ _ H1.out.2.1 hC
    obtain ⟨kb, hM⟩ := HKB.out _ _ _ hI'
    have hz' := hC.size
    have hlk := run_look_at (P := Try.prog) 50 3 39 (.int .u64 0) Try.underlying50 Try.underlying3 (zeroU W') hM p.1
    rw [HLK.out] at hlk
    simp only [Option.getD_some] at hlk
    obtain ⟨fn, tmps, assign, body, hy, hR⟩ := HY.out m (encW W0 k) (pairW p) W' hI' ⟨k + 1, HS.out.2.2.1, HS.out.1.symm⟩
    unfold pairW at hy
    have HC := Lib.hid (And.intro hV2 (And.intro hz' hM))
    clear hC hI' hV2 hz' hM
    gi_wp2
    refine ⟨rfl, hR.mono ?_⟩
    obtain ⟨hs1, hl2, hk, hl2', hm⟩ := HS.out
    rintro e W3 ⟨hE3, (⟨rfl, m2, hs2, hJ3⟩ | ⟨rfl, hJx3⟩)⟩
    · have HNB := Lib.hid (And.intro hs2 (And.intro hJ3 (And.intro hE3 (And.intro hs1 (And.intro hl2 hm)))))
      clear hs1 hl2 hk hl2' hm hE3 hs2 hJ3
      gi_wp2
      obtain ⟨hs2, hJ3, hE3, hs1, hl2, hm⟩ := HNB.out
      obtain ⟨q1, q2, q3, q4, q5, q6, q7, q8⟩ := HB.out
      have q9 := H0.out.2.2.1
      have q10 := H1.out.2.2.1
      have q11 := HC.out.2.1
      have hnb : ∀ x, w.heap.size ≤ x → x < s2 → x ∉ l :: m := fun x h1 h2 h => (List.mem_cons.1 h).elim (fun h => by have := HM.out.1; omega) (fun h => by have := hm x h; omega)
      refine ⟨hE3, l :: m2, fun j hj => (List.mem_cons.1 hj).elim (fun h => .inl (by rw [h]; exact List.mem_cons_self ..)) (fun h => (hs2 j h).imp (List.mem_cons_of_mem _) (fun h => by omega)), m2, rfl, ⟨?_, hE3.cell c1 (show w.heap.size ∉ l :: m from hnb _ (Nat.le_refl _) (by omega)), ⟨hE3.cell HC.out.1.1 (show B ∉ l :: m from hnb _ (by omega) q2), HC.out.1.2.ext hE3 (fun p hp => hnb _ (by have := (q4 p hp).1; omega) (q4 p hp).2)⟩, by have := hE3.size; omega⟩, fun j hj => (hs2 j hj).elim (hm j) (fun h => .inr (by omega))⟩
      rw [List.length_append, hl2]
      show I m2 (encW W0 (k + 1)) W3
      rw [hs1]
      exact hJ3
    · have HNB := Lib.hid hE3
      clear hE3
      gi_wp2
      exact ⟨HNB.out, rfl, hJx3⟩
  · intro D mm xs W hD hx hi hdD
    go_wp2
    simp only [Exit.jump]
    obtain ⟨m', rfl, ⟨hi, _⟩, _⟩ := hi
    refine leaves_mark hdD (results_none rfl _ _ _) ⟨⟨_, rfl⟩, .inl ⟨_, m', rfl, HI.out _ _ _ _ (by rw [show W0.length = xs.length from by rw [hx, encV_len _ _ (Nat.le_refl _), sortK_len, HEL.out]]; exact hi) (Calm.put hdD rfl (by have := HB.out.2.2.2.2.2.2.1; have := HB.out.2.2.2.2.2.2.2; have := H0.out.2.2.1; have := HN.out; omega) _)⟩⟩
  · intro D c W hD ⟨hc, hi⟩ hdD
    subst hc
    refine wpIn_exit ?_
    go_wp2
    simp only [Exit.jump]
    refine leaves_mark hdD (results_none rfl _ _ _) ⟨⟨_, rfl⟩, .inr (HX.out _ _ hi (Calm.put hdD rfl (by have := HB.out.2.2.2.2.2.2.1; have := HB.out.2.2.2.2.2.2.2; have := H0.out.2.2.1; have := HN.out; omega) _))⟩

end Go.Proofs.Ytmfbgkcphiomaaa
