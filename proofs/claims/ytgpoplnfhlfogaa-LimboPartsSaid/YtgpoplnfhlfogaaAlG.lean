/- Package alloc: first, Take. -/
import Derived.Test.YtgpoplnfhlfogaaAlF
import Derived.Test.YtgpoplnfhlfogaaRes
namespace Go.Proofs.Ytgpoplnfhlfogaa
open Go Go.RowKit Go.Shelf
attribute [local go_sem] Oper.semAt_some

/-- a result that lies in a slot -/
def FirstPost (w : World) (m₀ : List Nat) (J : List Nat → List Int → World → Prop) (xs : List Int) (many : Nat) (e : Ending) (w' : World) : Prop :=
  e = .returned (.bool (decide (many ≤ xs.length))) ∧ Ext m₀ w w' ∧ ∃ m', Sub w m₀ m' ∧ J m' (xs.take many) w'

theorem selL_lt {sel : Int → Bool} {lo : Int} {n i : Nat} (h : i < n) (hs : sel (lo + (i : Int)) = true) : (selL sel lo i).length < (selL sel lo n).length := by
  have := selL_len_le sel lo n (i + 1) (by omega)
  rw [selL_yes hs] at this
  simp at this
  omega
theorem selL_len (sel : Int → Bool) (lo : Int) (n : Nat) : (selL sel lo n).length ≤ n := by
  unfold selL; exact Nat.le_trans (List.length_filter_le _ _) (by simp [lnsOf])

set_option maxRecDepth 100000 in
set_option maxHeartbeats 1000000 in
theorem al_first0 (lv : Value) (kf : Nat) (klb : Array Value) (w : World) :
    Calls Try.prog 71 #[.int .i64 0, lv, .func (.func kf) #[] klb] w fun e w' => e = .returned (.bool true) ∧ Ext [] w w' := by
  refine (callsIn_wide (n := 0)).1 (callsIn_of_wp_marks Try.func71 rfl trivial ?_ rfl)
  simp only [Try.ntmps71, List.size_toArray, List.length_cons, List.length_nil, Nat.reduceAdd, Nat.reduceSub, Array.replicate_succ, Array.replicate_zero, List.push_toArray, List.append_toArray, List.nil_append, List.cons_append]
  refine wpIn_wide.2 ?_
  go_wp2_with fail
  refine wp_scope_ahead 0 rfl ?_
  go_wp2
  simp only [Exit.jump]
  exact ⟨_, by simp [results, Try.results71, go_sem], rfl, ((Ext.refl _ _).alloc _).alloc _⟩

set_option maxRecDepth 100000 in
set_option maxHeartbeats 4000000 in
theorem al_first (gf kf : Nat) (lb klb : Array Value) (sel : Int → Bool) (lo : Int) (n : Nat) (many : Nat) (KB : World → Prop) (m₀ : List Nat) (J : List Nat → List Int → World → Prop) (w : World) (hn : n ≤ 1000000)
    (eg : ∀ args w, (callFunc gf args).run Try.prog w = .ok (.enter gf args) w) (ek : ∀ args w, (callFunc kf args).run Try.prog w = .ok (.enter kf args) w)
    (hseq : SeqC Try.prog gf lb (okL sel lo n) (fun xs => xs = encI (selL sel lo n)) KB) (hpos : 0 < many) (hmany : many ≤ 9223372036854775807)
    (hJ : ∀ m ks, Steady 0 (J m ks)) (hK : ∀ m ks W, J m ks W → KB W) (hm₀ : ∀ j ∈ m₀, j < w.heap.size) (h0 : J m₀ [] w)
    (hfar : ∀ m ks W W' nb, J m ks W → Ext [nb] W W' → w.heap.size ≤ nb → nb ∉ m → J m ks W')
    (hkeep : ∀ m ks k W, J m ks W → ks.length < 1000000 → Calls Try.prog kf (#[.int .i64 k] ++ klb) W fun e w' => (∃ v, e = .returned v) ∧ Ext m W w' ∧ ∃ m', Sub W m m' ∧ J m' (ks ++ [k]) w') :
    Calls Try.prog 71 #[.int .i64 many, .func (.func gf) #[] lb, .func (.func kf) #[] klb] w (FirstPost w m₀ J (selL sel lo n) many) := by
  have hE1 := ((Ext.refl [] w).alloc (.cells #[.int .i64 many] 3)).alloc (.cells #[.func (.func kf) #[] klb] 110)
  have hb1 : ((w.alloc (.cells #[.int .i64 many] 3)).alloc (.cells #[.func (.func kf) #[] klb] 110)).heap[w.heap.size]? = some (.cells #[.int .i64 many] 3 (0, 0)) := block_al (World.alloc_heap_new _ _)
  have hb2 : ((w.alloc (.cells #[.int .i64 many] 3)).alloc (.cells #[.func (.func kf) #[] klb] 110)).heap[w.heap.size + 1]? = some (.cells #[.func (.func kf) #[] klb] 110 (0, 0)) := by
    have := World.alloc_heap_new (w.alloc (.cells #[.int .i64 many] 3)) (.cells #[.func (.func kf) #[] klb] 110)
    rwa [World.size_alloc] at this
  have hs1 : ((w.alloc (.cells #[.int .i64 many] 3)).alloc (.cells #[.func (.func kf) #[] klb] 110)).heap.size = w.heap.size + 2 := by simp
  have HH := Lib.hid (And.intro hJ (And.intro hK (And.intro hm₀ (And.intro h0 (And.intro hfar hkeep)))))
  clear hJ hK hm₀ h0 hfar hkeep
  generalize hw1 : (w.alloc (.cells #[.int .i64 many] 3)).alloc (.cells #[.func (.func kf) #[] klb] 110) = w1 at *
  have H1 := Lib.hid (And.intro hE1 (And.intro hb1 (And.intro hb2 hs1)))
  have k1 := cell_of (j := 0) (v := .int .i64 many) hb1 rfl
  clear hE1 hb1 hb2 hs1
  refine (callsIn_wide (n := 0)).1 (callsIn_of_wp_marks Try.func71 rfl trivial ?_ rfl)
  simp only [Try.ntmps71, List.size_toArray, List.length_cons, List.length_nil, Nat.reduceAdd, Nat.reduceSub, Array.replicate_succ, Array.replicate_zero, List.push_toArray, List.append_toArray, List.nil_append, List.cons_append]
  refine wpIn_wide.2 ?_
  have hz' : ((many : Int) == 0) = false := by simp; omega
  go_wp2_with fail
  refine wp_scope_ahead 0 rfl ?_
  go_wp2_with fail
  refine wp_label ?_
  go_wp2
  have hE3 := H1.out.1.alloc (.cells #[.int .i64 0] 3)
  have hn3 : (w1.alloc (.cells #[.int .i64 0] 3)).heap[w.heap.size + 2]? = some (.cells #[.int .i64 0] 3 (0, 0)) := by
    have := World.alloc_heap_new w1 (.cells #[.int .i64 0] 3)
    rwa [H1.out.2.2.2] at this
  have hm3 := block_al (o := (.cells #[.int .i64 0] 3)) H1.out.2.1
  have hk3 := block_al (o := (.cells #[.int .i64 0] 3)) H1.out.2.2.1
  have hs3 : (w1.alloc (.cells #[.int .i64 0] 3)).heap.size = w.heap.size + 3 := by simp [H1.out.2.2.2]
  rw [show w1.heap.size = w.heap.size + 2 from H1.out.2.2.2]
  generalize hw3 : w1.alloc (.cells #[.int .i64 0] 3) = w3 at *
  have H3 := Lib.hid (And.intro hE3 (And.intro hn3 (And.intro hm3 (And.intro hk3 hs3))))
  clear hE3 hn3 hm3 hk3 hs3 hw3 k1
  obtain ⟨nb, hnb⟩ : ∃ nb, nb = w.heap.size + 2 := ⟨_, rfl⟩
  rw [← hnb] at H3 ⊢
  have HNB := Lib.hid hnb
  clear hnb
  have facts : ∀ W, Ext (nb :: m₀) w3 W → W.heap[w.heap.size]? = some (.cells #[.int .i64 many] 3 (0, 0)) ∧ W.heap[w.heap.size + 1]? = some (.cells #[.func (.func kf) #[] klb] 110 (0, 0))   := fun W hE => by
    have hm := HH.out.2.2.1
    have hnb := HNB.out
    exact ⟨hE.at H3.out.2.2.1 (fun h => (List.mem_cons.1 h).elim (fun h => by omega) (fun h => by have := hm _ h; omega)), hE.at H3.out.2.2.2.1 (fun h => (List.mem_cons.1 h).elim (fun h => by omega) (fun h => by have := hm _ h; omega))⟩
  have FACTS := Lib.hid facts
  clear facts
  refine wpIn_wide.1 (wp_range (gf := gf) (lb := lb) rfl eg hseq (fun pre x h => by obtain ⟨i, _, _, _, rfl⟩ := okL_last h; rfl) (nb :: m₀)
    (fun mm pre W => ∃ m, mm = nb :: m ∧ ∃ ks : List Int, pre = encI ks ∧ (ks.length < many ∧ J m ks W ∧ (Sub w3 m₀ m ∧ nb ∉ m) ∧ Ext (nb :: m₀) w3 W ∧ W.heap[nb]? = some (.cells #[.int .i64 ks.length] 3 (0, 0))))
    (fun c W => c = .exit 0 ∧ ∃ m, J m ((selL sel lo n).take many) W ∧ many ≤ (selL sel lo n).length ∧ Sub w3 m₀ m ∧ Ext (nb :: m₀) w3 W ∧ W.heap[nb]? = some (.cells #[.int .i64 many] 3 (0, 0))) ?_ ?_ ?_ ?_ ?_ ?_ ?_ ?_)
  · exact fun mm pre => .ex fun m => (Steady.const _ _).and (.ex fun ks => (Steady.const _ _).and ((Steady.const _ _).and (((HH.out.1 m ks).mono (Nat.zero_le _)).and ((Steady.const _ _).and ((Steady.ext (Nat.le_refl _)).and (Steady.block (.inr rfl)))))))
  · exact fun c => (Steady.const _ _).and (.ex fun m => ((HH.out.1 m _).mono (Nat.zero_le _)).and ((Steady.const _ _).and ((Steady.const _ _).and ((Steady.ext (Nat.le_refl _)).and (Steady.block (.inr rfl))))))
  · rintro mm pre W ⟨m, _, ks, _, _, hJ, _⟩
    exact HH.out.2.1 _ _ _ hJ
  · intro j hj
    have hnb := HNB.out
    have := H3.out.2.2.2.2
    rcases List.mem_cons.1 hj with h | h
    · omega
    · have := HH.out.2.2.1 _ h
      omega
  · exact ⟨m₀, rfl, [], rfl, by simp; omega, HH.out.1 _ _ _ _ HH.out.2.2.2.1 (H3.out.1.calm 0), ⟨Sub.refl _ _, fun h => by have := HH.out.2.2.1 _ h; have := HNB.out; omega⟩, Ext.refl _ _, H3.out.2.1⟩
  · rintro l mm pre x W hl ⟨m, rfl, ks, hpre, hlen, hJ, ⟨hsub, hnbm⟩, hE, hbn⟩ hok
    obtain ⟨i, hi, hsl, hpi, rfl⟩ := okL_last hok
    have hks : ks = selL sel lo i := encI_inj (hpre.symm.trans hpi)
    subst hks
    have hlt := selL_lt hi hsl
    have hle2 := selL_len sel lo i
    have htk := selL_take sel lo n (i + 1) (by omega)
    rw [selL_yes hsl, List.length_append] at htk
    obtain ⟨hfm, hfk⟩ := FACTS.out W hE
    have HA := Lib.hid (And.intro hpre (And.intro hJ (And.intro hsub (And.intro hnbm (And.intro hE (And.intro hbn (And.intro hfm (And.intro hfk (And.intro htk (selL_yes (n := i) hsl))))))))))
    generalize hq : (selL sel lo i).length = q at *
    clear hpre hJ hsub hnbm hE hbn hfm hfk htk hok hsl hpi
    intro K hK
    gi_wp2
    refine hK _ W (Ext.refl [] _) ?_
    intro W' hC
    clear hK K
    have bn := hC.block _ _ HA.out.2.2.2.2.2.1 (.inr rfl)
    have bm := hC.block _ _ HA.out.2.2.2.2.2.2.1 (.inr rfl)
    have bk := hC.block _ _ HA.out.2.2.2.2.2.2.2.1 (.inr rfl)
    have hJ' := HH.out.1 _ _ _ _ HA.out.2.1 (hC.mono (Nat.zero_le _))
    have kk1 := cell_of (j := 0) bk rfl
    have HB := Lib.hid (And.intro bn (And.intro bm (And.intro hJ' hC)))
    have HC := Lib.hid (HH.out.2.2.2.2.2 m _ (lo + (i : Int)) W' hJ' (by rw [hq]; omega))
    clear bn bm bk hJ' hC
    gi_wp2
    refine ⟨trivial, rfl, (CallsIn.inRound l (callsIn_wide.2 HC.out)).mono ?_⟩
    rintro e W2 ⟨⟨v, rfl⟩, hE2, m2, hs2, hJ2⟩
    have bn2 := hE2.at HB.out.1 HA.out.2.2.2.1
    have hw3 : w.heap.size < nb := by have := HNB.out; omega
    have hmold : w.heap.size ∉ m := fun h => (HA.out.2.2.1 _ h).elim (fun h => by have := HH.out.2.2.1 _ h; omega) (fun h => by have := H3.out.2.2.2.2; omega)
    have bm2 := hE2.at HB.out.2.1 hmold
    have k5 := cell_of (j := 0) (v := .int .i64 q) bn2 rfl
    have f5 := free_of bn2 0
    have k6 := cell_of (j := 0) (v := .int .i64 many) bm2 rfl
    have hnm2 : nb ∉ m2 := fun h => (hs2 _ h).elim HA.out.2.2.2.1 (fun h => by have := lt_of_block HB.out.1; omega)
    have hsubW : Sub W m m2 := fun j hj => (hs2 j hj).imp id (fun h => Nat.le_trans HB.out.2.2.2.size h)
    have hsub2 : Sub w3 m₀ m2 := fun j hj => (hsubW j hj).elim (HA.out.2.2.1 j) (fun h => .inr (Nat.le_trans HA.out.2.2.2.2.1.size h))
    have HD := Lib.hid (And.intro hE2 (And.intro hnm2 (And.intro hsubW (And.intro hsub2 (And.intro hJ2 bn2)))))
    have hfin : ∀ u, Ext (nb :: m) W' (W2.setCell ⟨nb, 0, none⟩ u) ∧ Ext (nb :: m₀) w3 (W2.setCell ⟨nb, 0, none⟩ u) ∧ J m2 (selL sel lo i ++ [lo + (i : Int)]) (W2.setCell ⟨nb, 0, none⟩ u) := fun u => by
      have e1 : Ext (nb :: m) W' W2 := hE2.sub (fun j hj => List.mem_cons_of_mem _ hj)
      have e2 : Ext (nb :: m₀) w3 W' := (Steady.ext (Nat.le_refl _)) _ _ HA.out.2.2.2.2.1 HB.out.2.2.2
      refine ⟨e1.setCell (.inl (List.mem_cons_self ..)) u, (e2.trans' e1 (fun j hj => ?_)).setCell (.inl (List.mem_cons_self ..)) u, HH.out.2.2.2.2.1 _ _ _ _ nb hJ2 ((Ext.refl [nb] W2).setCell (.inl (List.mem_cons_self ..)) u) (by omega) hnm2⟩
      rcases List.mem_cons.1 hj with h | h
      · exact .inl (by rw [h]; exact List.mem_cons_self ..)
      · exact (HA.out.2.2.1 j h).imp (List.mem_cons_of_mem _) id
    have HF := Lib.hid hfin
    have hne1 : ¬ (w.heap.size = nb) := by omega
    clear hE2 hs2 hJ2 bn2 bm2 hnm2 hsubW hsub2 hfin kk1 hmold
    have hlen' : (selL sel lo i ++ [lo + (i : Int)]).length = q + 1 := by simp [hq]
    have HLEN := Lib.hid hlen'
    clear hlen' hq
    by_cases hend : q + 1 = many
    · have htk : List.take many (selL sel lo n) = selL sel lo i ++ [lo + (i : Int)] := by rw [← hend]; exact HA.out.2.2.2.2.2.2.2.2.1
      have hne : ((q : Int) + 1 == (many : Int)) = true := by simp; omega
      have HEND := Lib.hid hend
      clear hend
      have HT := Lib.hid htk
      clear htk
      gi_wp2
      refine ⟨(HF.out _).1, rfl, m2, by rw [HT.out]; exact (HF.out _).2.2, by have := HEND.out; omega, HD.out.2.2.2.1, (HF.out _).2.1, ?_⟩
      rw [show (many : Int) = (q : Int) + 1 from by have := HEND.out; omega]
      exact cell1_set HD.out.2.2.2.2.2 _
    · have hne : ((q : Int) + 1 == (many : Int)) = false := by simp; omega
      have HEND := Lib.hid hend
      clear hend
      gi_wp2
      refine ⟨(HF.out _).1, nb :: m2, fun j hj => (List.mem_cons.1 hj).elim (fun h => .inl (by rw [h]; exact List.mem_cons_self ..)) (fun h => (HD.out.2.2.1 j h).imp (List.mem_cons_of_mem _) id), m2, rfl, selL sel lo i ++ [lo + (i : Int)],
        by rw [encI_snoc, HA.out.1], by rw [HLEN.out]; have := HEND.out; omega, (HF.out _).2.2, ⟨HD.out.2.2.2.1, HD.out.2.1⟩, (HF.out _).2.1, ?_⟩
      rw [HLEN.out]
      exact cell1_set HD.out.2.2.2.2.2 _
  · intro D mm xs W hD hx hi hdD
    obtain ⟨m, rfl, ks, hpre, hlen, hJ, ⟨hsub, hnbm⟩, hE, hbn⟩ := hi
    have hks : ks = selL sel lo n := encI_inj (hpre.symm.trans hx)
    subst hks
    obtain ⟨hfm, hfk⟩ := FACTS.out W hE
    have hne : (((selL sel lo n).length : Int) == (many : Int)) = false := by simp; omega
    have hdec : Hid (decide (many ≤ (selL sel lo n).length) = false) := by unfold Hid; simp; omega
    have htk : Hid ((selL sel lo n).take many = selL sel lo n) := by unfold Hid; rw [List.take_of_length_le (by omega)]
    have k5 := cell_of (j := 0) hbn rfl
    have k6 := cell_of (j := 0) hfm rfl
    have HA := Lib.hid (And.intro hJ (And.intro hsub (And.intro hE hdD)))
    clear hpre hlen hJ hsub hnbm hE hbn hfm hfk hdD hx
    go_wp2
    simp only [Exit.jump]
    have hnb := HNB.out
    have hs3 := H3.out.2.2.2.2
    have hEf : Ext m₀ w (W.putObj D (.deferred none)) := (H3.out.1.wide.trans' HA.out.2.2.1 (fun j hj => (List.mem_cons.1 hj).elim (fun h => .inr (by omega)) .inl)).put (.inr (by omega)) _
    have hJf : J m (selL sel lo n) (W.putObj D (.deferred none)) := HH.out.1 _ _ _ _ HA.out.1 (Calm.put HA.out.2.2.2 rfl (Nat.zero_le _) _)
    have hSf : Sub w m₀ m := fun j hj => (HA.out.2.1 j hj).imp id (fun h => by omega)
    show LeavesInM _ _ _ _ _ _ _ _ _
    exact leaves_mark (v := .bool false) HA.out.2.2.2 (results_tmp Try.results71 _ _ _ rfl) ⟨by rw [hdec.out], hEf, m, hSf, by rw [htk.out]; exact hJf⟩
  · intro D c W hD hi hdD
    obtain ⟨hc, m, hJ, hle, hsub, hE, hbn⟩ := hi
    subst hc
    obtain ⟨hfm, hfk⟩ := FACTS.out W hE
    have hne : ((many : Int) == (many : Int)) = true := by simp
    have hdec : Hid (decide (many ≤ (selL sel lo n).length) = true) := by unfold Hid; simp; omega
    have k5 := cell_of (j := 0) hbn rfl
    have k6 := cell_of (j := 0) hfm rfl
    have HA := Lib.hid (And.intro hJ (And.intro hsub (And.intro hE hdD)))
    clear hJ hsub hE hbn hfm hfk hdD
    refine wpIn_exit ?_
    go_wp2
    simp only [Exit.jump]
    have hnb := HNB.out
    have hs3 := H3.out.2.2.2.2
    have hEf : Ext m₀ w (W.putObj D (.deferred none)) := (H3.out.1.wide.trans' HA.out.2.2.1 (fun j hj => (List.mem_cons.1 hj).elim (fun h => .inr (by omega)) .inl)).put (.inr (by omega)) _
    have hJf : J m ((selL sel lo n).take many) (W.putObj D (.deferred none)) := HH.out.1 _ _ _ _ HA.out.1 (Calm.put HA.out.2.2.2 rfl (Nat.zero_le _) _)
    have hSf : Sub w m₀ m := fun j hj => (HA.out.2.1 j hj).imp id (fun h => by omega)
    show LeavesInM _ _ _ _ _ _ _ _ _
    exact leaves_mark (v := .bool true) HA.out.2.2.2 (results_tmp Try.results71 _ _ _ rfl) ⟨by rw [hdec.out], hEf, m, hSf, hJf⟩
theorem al_firstN (gf kf : Nat) (lb klb : Array Value) (sel : Int → Bool) (lo : Int) (n : Nat) (many : Nat) (KB : World → Prop) (m₀ : List Nat) (J : List Nat → List Int → World → Prop) (w : World) (hn : n ≤ 1000000)
    (eg : ∀ args w, (callFunc gf args).run Try.prog w = .ok (.enter gf args) w) (ek : ∀ args w, (callFunc kf args).run Try.prog w = .ok (.enter kf args) w)
    (hseq : SeqC Try.prog gf lb (okL sel lo n) (fun xs => xs = encI (selL sel lo n)) KB) (hmany : many ≤ 9223372036854775807)
    (hJ : ∀ m ks, Steady 0 (J m ks)) (hK : ∀ m ks W, J m ks W → KB W) (hm₀ : ∀ j ∈ m₀, j < w.heap.size) (h0 : J m₀ [] w)
    (hfar : ∀ m ks W W' nb, J m ks W → Ext [nb] W W' → w.heap.size ≤ nb → nb ∉ m → J m ks W')
    (hkeep : ∀ m ks k W, J m ks W → ks.length < 1000000 → Calls Try.prog kf (#[.int .i64 k] ++ klb) W fun e w' => (∃ v, e = .returned v) ∧ Ext m W w' ∧ ∃ m', Sub W m m' ∧ J m' (ks ++ [k]) w') :
    Calls Try.prog 71 #[.int .i64 many, .func (.func gf) #[] lb, .func (.func kf) #[] klb] w (FirstPost w m₀ J (selL sel lo n) many) := by
  by_cases hz : many = 0
  · subst hz
    refine (al_first0 (.func (.func gf) #[] lb) kf klb w).mono ?_
    rintro e w' ⟨rfl, hE⟩
    exact ⟨by simp, hE.wide, m₀, Sub.refl _ _, hJ _ _ _ _ h0 (hE.calm 0)⟩
  · exact al_first gf kf lb klb sel lo n many KB m₀ J w hn eg ek hseq (by omega) hmany hJ hK hm₀ h0 hfar hkeep
end Go.Proofs.Ytgpoplnfhlfogaa
