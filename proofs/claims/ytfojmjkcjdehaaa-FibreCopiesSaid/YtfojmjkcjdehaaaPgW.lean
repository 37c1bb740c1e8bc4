/- Package pmem: Same. Package pmem: Waits, and what it hands back: contracts as iterators. Package pmem: the iterator of Waits. -/
import Derived.Test.YtfojmjkcjdehaaaPgI
import Derived.RangeFuncLeaves
namespace Go.Proofs.Ytfojmjkcjdehaaa
open Go Go.RowKit Go.Shelf
attribute [local go_sem] Oper.semAt_some

set_option maxHeartbeats 400000 in
theorem pm_Same_nn (a b : Option Addr) (w : World) (ha : NoneD w (.pointer a)) (hb : NoneD w (.pointer b)) :
    Calls Try.prog 26 #[.pointer a, .pointer b] w fun e w' => e = .returned (.bool true) ∧ w = w' := by
  have HA := Lib.hid (pm_isnone _ w ha)
  have HB := Lib.hid (pm_isnone _ w hb)
  clear ha hb
  go_enter Try.func26, Try.ntmps26
  go_wp2_with fail
  refine HA.out.mono ?_
  rintro e w' ⟨rfl, rfl⟩
  go_wp2_with fail
  refine HA.out.mono ?_
  rintro e w' ⟨rfl, rfl⟩
  go_wp2_with fail
  refine HB.out.mono ?_
  rintro e w' ⟨rfl, rfl⟩
  go_wp2
  go_ret
  exact ⟨rfl, rfl⟩
set_option maxHeartbeats 400000 in
theorem pm_Same_dn (b : Option Addr) (d lb sb : Nat) (D : Dv) (w : World) (hD : DevAt w d lb sb D) (hb : NoneD w (.pointer b)) :
    Calls Try.prog 26 #[.pointer (some ⟨d, 0, none⟩), .pointer b] w fun e w' => e = .returned (.bool false) ∧ w = w' := by
  have HA := Lib.hid (pm_none d lb sb D w hD)
  have HB := Lib.hid (pm_isnone _ w hb)
  clear hD hb
  go_enter Try.func26, Try.ntmps26
  go_wp2_with fail
  refine HA.out.mono ?_
  rintro e w' ⟨rfl, rfl⟩
  go_wp2_with fail
  refine HB.out.mono ?_
  rintro e w' ⟨rfl, rfl⟩
  go_wp2_with fail
  refine HA.out.mono ?_
  rintro e w' ⟨rfl, rfl⟩
  go_wp2
  go_ret
  exact ⟨rfl, rfl⟩
set_option maxHeartbeats 400000 in
theorem pm_Same_nd (a : Option Addr) (d lb sb : Nat) (D : Dv) (w : World) (hD : DevAt w d lb sb D) (ha : NoneD w (.pointer a)) :
    Calls Try.prog 26 #[.pointer a, .pointer (some ⟨d, 0, none⟩)] w fun e w' => e = .returned (.bool false) ∧ w = w' := by
  have HB := Lib.hid (pm_none d lb sb D w hD)
  have HA := Lib.hid (pm_isnone _ w ha)
  clear hD ha
  go_enter Try.func26, Try.ntmps26
  go_wp2_with fail
  refine HA.out.mono ?_
  rintro e w' ⟨rfl, rfl⟩
  go_wp2_with fail
  refine HA.out.mono ?_
  rintro e w' ⟨rfl, rfl⟩
  go_wp2_with fail
  refine HB.out.mono ?_
  rintro e w' ⟨rfl, rfl⟩
  go_wp2
  go_ret
  exact ⟨rfl, rfl⟩

set_option maxRecDepth 100000 in
set_option maxHeartbeats 1600000 in
theorem pm_Same (d1 lb1 sb1 d2 lb2 sb2 : Nat) (A B : Dv) (w : World) (hA : DevAt w d1 lb1 sb1 A) (hB : DevAt w d2 lb2 sb2 B) (hnA : DvOk A) (hnn : A.n = B.n) :
    Calls Try.prog 26 #[.pointer (some ⟨d1, 0, none⟩), .pointer (some ⟨d2, 0, none⟩)] w fun e w' => e = .returned (.bool (A.eqB B)) ∧ Ext [] w w' := by
  have HA := Lib.hid (pm_none d1 lb1 sb1 A w hA)
  have HB := Lib.hid (pm_none d2 lb2 sb2 B w hB)
  have hlenA := hnA.len
  have hn1 := hnA.n1
  obtain ⟨⟨cl1, cs1, wv1, h1, hwv1⟩, hl1, hs1, _⟩ := hA
  obtain ⟨⟨cl2, cs2, wv2, h2, hwv2⟩, hl2, hs2, _⟩ := hB
  obtain ⟨wo1, wc1, rfl⟩ := slice_of_owns hwv1
  obtain ⟨wo2, wc2, rfl⟩ := slice_of_owns hwv2
  rw [← hnn] at h2 hl2 hs2
  have k0 := cell_of (j := 0) (v := .slice (some ⟨lb1, 0, none⟩) A.n cl1) h1 rfl
  have k1 := cell_of (j := 1) (v := .slice (some ⟨sb1, 0, none⟩) A.n cs1) h1 rfl
  have k2 := cell_of (j := 2) (v := .slice wo1 A.W.length wc1) h1 rfl
  have q0 := cell_of (j := 0) (v := .slice (some ⟨lb2, 0, none⟩) A.n cl2) h2 rfl
  have q1 := cell_of (j := 1) (v := .slice (some ⟨sb2, 0, none⟩) A.n cs2) h2 rfl
  have q2 := cell_of (j := 2) (v := .slice wo2 B.W.length wc2) h2 rfl
  have HL := Lib.hid (fun n => pm_equalL lb1 lb2 A.n cl1 cl2 A.L B.L (w.drewN n) hl1 hl2 hn1)
  have HS := Lib.hid (fun n => pm_equalL sb1 sb2 A.n cs1 cs2 A.S B.S (w.drewN n) hs1 hs2 hn1)
  have HW := Lib.hid (fun n => pm_equalW wo1 wo2 A.W.length B.W.length wc1 wc2 A.W B.W (w.drewN n) hwv1 hwv2 (by omega))
  unfold Dv.eqB
  rw [show decide (A.n = B.n) = true from by simpa using hnn, Bool.true_and]
  generalize A.W.length = m1 at *
  generalize B.W.length = m2 at *
  generalize A.n = n at *
  generalize eqL n A.L B.L = e1 at *
  generalize eqL n A.S B.S = e2 at *
  generalize eqWs A.W B.W = e3 at *
  clear h1 h2 hl1 hl2 hs1 hs2 hwv1 hwv2 hlenA hn1 hnn
  cases e1 <;> cases e2 <;> cases e3
  all_goals
    go_enter Try.func26, Try.ntmps26
    go_wp2_with fail
    refine HA.out.mono ?_
    rintro e w' ⟨rfl, rfl⟩
    go_wp2_with fail
    refine HB.out.mono ?_
    rintro e w' ⟨rfl, rfl⟩
    go_wp2
    go_quiet ((first
      | (go_at_call_of 77 (Value.slice (some ⟨lb1, 0, none⟩) n cl1); exact Calls.quiet_of (HL.out _))
      | (go_at_call_of 77 (Value.slice (some ⟨sb1, 0, none⟩) n cs1); exact Calls.quiet_of (HS.out _))
      | (go_at_call 78; exact Calls.quiet_of (HW.out _))))
    go_wp2
    go_ret
    exact ⟨rfl, (Ext.refl [] w).drewN _⟩
end Go.Proofs.Ytfojmjkcjdehaaa
namespace Go.Proofs.Ytfojmjkcjdehaaa
open Go Go.RowKit Go.Shelf
attribute [local go_sem] Oper.semAt_some

theorem Steady.mono {N N' : Nat} {I : World → Prop} (h : Steady N I) (hN : N ≤ N') : Steady N' I := fun w w' hi c => h w w' hi (c.mono hN)
theorem Steady.cell {N : Nat} {p : Addr} {v : Value} : Steady N (fun W => W.cell? p = some v) := fun w w' h c => by
  have hl := World.block_lt_of_cell? _ _ h
  cases hb : w.heap[p.block]? with
  | none => simp [World.cell?, hb] at h
  | some o =>
    have hd : dataB o = true := by
      cases o <;> first | rfl | (simp [World.cell?, hb] at h)
    exact (World.cell?_of_block (w := w) ((c.block _ _ hb (.inr hd)).trans hb.symm)).trans h
/-- what waits, as yield is handed it -/
def wtV (p : Wt) : Array Value := #[.agg #[.int .i64 p.1, .int .u64 (p.2 0), .int .u64 (p.2 1), .int .u64 (p.2 2), .int .u64 (p.2 3), .int .u64 (p.2 4), .int .u64 (p.2 5), .int .u64 (p.2 6), .int .u64 (p.2 7)]]
def encV (W : List Wt) (k : Nat) : List (Array Value) := (W.take k).map wtV
/-- the lines that wait, as yield is handed them -/
def encT (W : List Wt) (k : Nat) : List (Array Value) := (W.take k).map fun p => #[.int .i64 (p.1 : Int)]
theorem encV_succ (W : List Wt) (k : Nat) (h : k < W.length) : encV W (k + 1) = encV W k ++ [wtV (W.getD k wtD)] := by
  unfold encV
  rw [List.take_succ_eq_append_getElem h, List.map_append, show W.getD k wtD = W[k] from by simp [h]]
  rfl
theorem encT_succ (W : List Wt) (k : Nat) (h : k < W.length) : encT W (k + 1) = encT W k ++ [#[.int .i64 ((W.getD k wtD).1 : Int)]] := by
  unfold encT
  rw [List.take_succ_eq_append_getElem h, List.map_append, show W.getD k wtD = W[k] from by simp [h]]
  rfl
theorem encV_len (W : List Wt) (k : Nat) (h : k ≤ W.length) : (encV W k).length = k := by simp [encV]; omega
theorem encT_len (W : List Wt) (k : Nat) (h : k ≤ W.length) : (encT W k).length = k := by simp [encT]; omega
def okV (W : List Wt) (pre : List (Array Value)) : Prop := ∃ k, k ≤ W.length ∧ pre = encV W k
def okT (W : List Wt) (pre : List (Array Value)) : Prop := ∃ k, k ≤ W.length ∧ pre = encT W k
theorem okV_last {W : List Wt} {pre : List (Array Value)} {x : Array Value} (h : okV W (pre ++ [x])) : ∃ k, k < W.length ∧ pre = encV W k ∧ x = wtV (W.getD k wtD) := by
  obtain ⟨k, hk, he⟩ := h
  cases k with
  | zero => simp [encV] at he
  | succ k =>
    rw [encV_succ W k (by omega)] at he
    obtain ⟨h1, h2⟩ := List.append_inj' he rfl
    exact ⟨k, by omega, h1, by simpa using h2⟩
theorem okT_last {W : List Wt} {pre : List (Array Value)} {x : Array Value} (h : okT W (pre ++ [x])) : ∃ k, k < W.length ∧ pre = encT W k ∧ x = #[.int .i64 ((W.getD k wtD).1 : Int)] := by
  obtain ⟨k, hk, he⟩ := h
  cases k with
  | zero => simp [encT] at he
  | succ k =>
    rw [encT_succ W k (by omega)] at he
    obtain ⟨h1, h2⟩ := List.append_inj' he rfl
    exact ⟨k, by omega, h1, by simpa using h2⟩
/-- what the iterator reads -/
def WKB (Bs : Nat) (v : Value) (W : List Wt) (w : World) : Prop := w.cell? ⟨Bs, 0, none⟩ = some v ∧ WaitsV w v W
theorem WKB.steady {N Bs : Nat} {v : Value} {W : List Wt} : Steady N (WKB Bs v W) := Steady.cell.and steady_owns

set_option maxRecDepth 100000 in
set_option maxHeartbeats 2000000 in
theorem wvals_seq (Bs : Nat) (ao : Option Addr) (cap : Nat) (W : List Wt) (hn : W.length ≤ 1000000) :
    SeqC Try.prog 125 #[.pointer (some ⟨Bs, 0, none⟩)] (okV W) (fun xs => xs = encV W W.length) (WKB Bs (.slice ao W.length cap) W) := by
  intro l N I Ix hI hIx hK hY w m hN hlw hm h0
  refine callsIn_of_wp Try.func125 rfl trivial ?_ rfl
  simp only [Try.ntmps125, List.size_toArray, List.length_cons, List.length_nil, Nat.reduceAdd, Nat.reduceSub, Array.replicate_succ, Array.replicate_zero, List.push_toArray, List.append_toArray, List.nil_append, List.cons_append]
  have HI := Lib.hid hI
  have HX := Lib.hid hIx
  have HK := Lib.hid hK
  have HY := Lib.hid hY
  obtain ⟨kb, _⟩ := hK _ _ _ h0
  have H0 := Lib.hid h0
  obtain ⟨n, hnn⟩ : ∃ n, W.length = n := ⟨_, rfl⟩
  rw [hnn] at kb hn
  have HN := Lib.hid hnn
  clear hI hIx hK hY h0 hnn
  gi_wp2
  gi_loopw [7] (fun i wr => ∃ (k : Nat) (m' : List Nat), k ≤ n ∧ i = .int .i64 k ∧ I m' (encV W k) wr) (fun i _ => n - (intOf i).toNat)
  case atStart => exact ⟨0, m, Nat.zero_le _, rfl, H0.out⟩
  case round =>
    obtain ⟨k, m', hk, rfl, hJs⟩ := hrel
    have HJ := Lib.hid hJs
    clear hJs
    by_cases hlt : k < n
    · have hkl : k < W.length := by rw [HN.out]; exact hlt
      obtain ⟨g, rfl, x0, x1, x2, x3, x4, x5, x6, x7, x8⟩ := (HK.out _ _ _ HJ.out).2.nine hkl
      obtain ⟨p, hp⟩ : ∃ p, W.getD k wtD = p := ⟨_, rfl⟩
      rw [hp] at x0 x1 x2 x3 x4 x5 x6 x7 x8
      have hs := encV_succ W k hkl
      rw [hp] at hs
      obtain ⟨fn, tmps, assign, body, hy, hR⟩ := HY.out m' _ (wtV p) (wr.alloc (.cells #[.int .i64 p.1, .int .u64 (p.2 0), .int .u64 (p.2 1), .int .u64 (p.2 2), .int .u64 (p.2 3), .int .u64 (p.2 4), .int .u64 (p.2 5), .int .u64 (p.2 6), .int .u64 (p.2 7)] 125)) (HI.out _ _ _ _ HJ.out (Calm.alloc _ _ _)) ⟨k + 1, by omega, hs.symm⟩
      have HS := Lib.hid hs
      clear hs hp hkl
      unfold wtV at hy
      gi_wp2
      refine ⟨rfl, hR.mono ?_⟩
      rintro e W3 ⟨_, (⟨rfl, m2, _, hJ3⟩ | ⟨rfl, hJx3⟩)⟩
      · gi_wp2
        go_roundw
        case rel => exact ⟨k + 1, m2, by omega, by go_num, by rw [HS.out]; exact hJ3⟩
        case measure => simp [intOf]; omega
      · gi_wp2
        refine bodyPost_ret (results_none rfl _ _ _) rfl ?_
        exact ⟨⟨_, rfl⟩, .inr hJx3⟩
    · have hkn : k = n := by omega
      gi_wp2
      go_end0
      exact ⟨⟨_, rfl⟩, .inl ⟨_, m', rfl, by rw [HN.out, ← hkn]; exact HJ.out⟩⟩

set_option maxHeartbeats 400000 in
theorem wt_values (ao : Option Addr) (n cap : Nat) (w : World) :
    Calls Try.prog 111 #[.slice ao n cap] w fun e w' => e = .returned (.func (.func 125) #[] #[.pointer (some ⟨w.heap.size, 0, none⟩)]) ∧ w' = w.alloc (.cells #[.slice ao n cap] 57) := by
  have hcf := enters_of Try.func125 (by kernel_rfl) rfl
  go_enter Try.func111, Try.ntmps111
  go_wp2
  go_ret
  exact ⟨rfl, rfl⟩
set_option maxHeartbeats 400000 in
theorem pm_waiting (ao : Option Addr) (n cap : Nat) (w : World) :
    Calls Try.prog 82 #[.slice ao n cap] w fun e w' => e = .returned (.func (.func 125) #[] #[.pointer (some ⟨w.heap.size, 0, none⟩)]) ∧ w' = w.alloc (.cells #[.slice ao n cap] 57) := by
  go_enter Try.func82, Try.ntmps82
  go_wp2_with fail
  refine (wt_values _ _ _ _).mono ?_
  rintro e w' ⟨rfl, rfl⟩
  go_wp2
  go_ret
  exact ⟨rfl, rfl⟩
set_option maxHeartbeats 400000 in
theorem pm_Waits_none (bo : Option Addr) (w : World) (h : NoneD w (.pointer bo)) :
    Calls Try.prog 29 #[.pointer bo] w fun e w' => ∃ bw, e = .returned (.func (.func 81) #[] #[.pointer (some ⟨bw, 0, none⟩)]) ∧ Ext [] w w' ∧ WKB bw (.slice none 0 0) [] w' ∧ w.heap.size ≤ bw := by
  have HN := Lib.hid (fun W (hE : Ext [] w W) => pm_isnone _ W (h.ext hE))
  have hcf := enters_of Try.func81 (by kernel_rfl) rfl
  have hb := Lib.hid (World.alloc_heap_new w (.cells #[.slice none 0 0] 57))
  clear h
  go_enter Try.func29, Try.ntmps29
  go_wp2_with fail
  refine (HN.out _ ((Ext.refl _ _).alloc _)).mono ?_
  rintro e w' ⟨rfl, rfl⟩
  go_wp2
  go_ret
  exact ⟨w.heap.size, rfl, (Ext.refl _ _).alloc _, ⟨cell_of (j := 0) hb.out rfl, World.ownsRow_nil _ _ _ _⟩, Nat.le_refl _⟩
set_option maxHeartbeats 800000 in
theorem pm_Waits (d lb sb : Nat) (D : Dv) (w : World) (hD : DevAt w d lb sb D) (hn : DvOk D) :
    Calls Try.prog 29 #[.pointer (some ⟨d, 0, none⟩)] w fun e w' => ∃ bw ao cap, e = .returned (.func (.func 81) #[] #[.pointer (some ⟨bw, 0, none⟩)]) ∧ Ext [] w w' ∧ WKB bw (.slice ao D.W.length cap) D.W w' ∧ w.heap.size ≤ bw ∧ ∀ p, ao = some p → w.heap.size ≤ p.block := by
  have HN := Lib.hid (fun W (hE : Ext [] w W) => pm_none d lb sb D W (hD.ext0 hE))
  have hcf := enters_of Try.func81 (by kernel_rfl) rfl
  have hlen := hn.len
  have hn1 := hn.n1
  have HD := Lib.hid (And.intro hD hn)
  obtain ⟨⟨cl, cs, wv, h1, hwv⟩, _, _, _⟩ := hD
  obtain ⟨wo, wc, rfl⟩ := slice_of_owns hwv
  obtain ⟨W0, hw0⟩ : ∃ W0, w.alloc (.cells #[.slice none 0 0] 57) = W0 := ⟨_, rfl⟩
  have hE0 : Ext [] w W0 := by rw [← hw0]; exact (Ext.refl [] w).alloc _
  have hb0 : W0.heap[w.heap.size]? = some (.cells #[.slice none 0 0] 57 (0, 0)) := by rw [← hw0]; exact World.alloc_heap_new _ _
  have hs0 : W0.heap.size = w.heap.size + 1 := by rw [← hw0]; simp
  have k2 := hE0.cell (cell_of (j := 2) (v := .slice wo D.W.length wc) h1 rfl) (by simp)
  have HW := Lib.hid (fun W (hE : Ext [] W0 W) => pm_cloneW (.slice wo D.W.length wc) D.W W (hwv.ext (hE0.trans hE) (NoW.nil _)) (by omega))
  have H0 := Lib.hid (And.intro hE0 (And.intro hb0 hs0))
  clear hwv h1 hlen hn1 hE0 hb0 hs0 hn
  go_enter Try.func29, Try.ntmps29
  go_wp2_with fail
  refine (HN.out _ H0.out.1).mono ?_
  rintro e w' ⟨rfl, rfl⟩
  go_wp2_with fail
  refine (HW.out _ (Ext.refl _ _)).mono ?_
  rintro e w1 ⟨v, rfl, hE1, hO⟩
  obtain ⟨ao, cap, rfl⟩ := slice_of_owns hO
  have hb1 := hE1.at H0.out.2.1 (by simp)
  have k1 := cell_of (j := 0) (v := .slice none 0 0) hb1 rfl
  have f1 := free_of hb1 0
  have H1 := Lib.hid (And.intro hE1 (And.intro hO hb1))
  clear hE1 hO hb1 hw0 k2
  go_wp2
  go_ret
  have hne : ∀ g, w.heap.size + 1 ≤ g → g ∉ [w.heap.size] := fun g hg => by simp; omega
  have hEs : Ext [w.heap.size] w1 (w1.setCell ⟨w.heap.size, 0, none⟩ (.slice ao D.W.length cap)) := (Ext.refl [w.heap.size] w1).setCell (.inl (by simp)) _
  have hoB : ∀ g, (Value.slice ao D.W.length cap).ownBlock = some g → W0.heap.size ≤ g := fun g hg => (H1.out.2.1.lt g hg).1
  refine ⟨w.heap.size, ao, cap, rfl, (H0.out.1.trans H1.out.1).trans' hEs (fun j hj => .inr (by simp at hj; omega)), ⟨cell_of (j := 0) (cell1_set H1.out.2.2 _) rfl, ?_⟩, Nat.le_refl _, fun p hp => ?_⟩
  · exact owns_base (owns_ext H1.out.2.1 hEs (fun g hg => hne g (by have := hoB g hg; have := H0.out.2.2; omega))) (Nat.zero_le _)
  · subst hp
    have := hoB p.block rfl
    have := H0.out.2.2
    omega
end Go.Proofs.Ytfojmjkcjdehaaa
namespace Go.Proofs.Ytfojmjkcjdehaaa
open Go Go.RowKit Go.Shelf
attribute [local go_sem] Oper.semAt_some

set_option maxRecDepth 100000 in
set_option maxHeartbeats 4000000 in
theorem waits_seq (Bw : Nat) (ao : Option Addr) (cap : Nat) (Ws : List Wt) (hn : Ws.length ≤ 1000000) :
    SeqC Try.prog 81 #[.pointer (some ⟨Bw, 0, none⟩)] (okT Ws) (fun xs => xs = encT Ws Ws.length) (WKB Bw (.slice ao Ws.length cap) Ws) := by
  intro l N I Ix hI hIx hK hY w m hN hlw hm h0
  refine callsIn_of_wp_marks Try.func81 rfl trivial ?_ rfl
  simp only [Try.ntmps81, List.size_toArray, List.length_cons, List.length_nil, Nat.reduceAdd, Nat.reduceSub, Array.replicate_succ, Array.replicate_zero, List.push_toArray, List.append_toArray, List.nil_append, List.cons_append]
  refine wpIn_wide.2 ?_
  have HI := Lib.hid hI
  have HX := Lib.hid hIx
  have HY := Lib.hid hY
  have HKB := Lib.hid hK
  have HN := Lib.hid hN
  obtain ⟨w0, hw0⟩ : ∃ w0, w.alloc (.cells #[.func (.yield l) #[] #[]] 137) = w0 := ⟨_, rfl⟩
  have hb := (hI _ _ _ _ h0 (Calm.alloc N w (.cells #[.func (.yield l) #[] #[]] 137)))
  rw [hw0] at hb
  have hb1 := hK _ _ _ hb
  have c2 : w0.cell? ⟨w.heap.size, 0, none⟩ = some (.func (.yield l) #[] #[]) := by rw [← hw0]; exact cell_of (World.alloc_heap_new _ _) rfl
  have hs0 : w0.heap.size = w.heap.size + 1 := by rw [← hw0]; simp
  have hE0 : Ext [] w w0 := by rw [← hw0]; exact (Ext.refl _ _).alloc _
  obtain ⟨kw, hoW⟩ := hb1
  have hao : ∀ p, ao = some p → p.block < w.heap.size := by
    intro p hp
    have h := (hK _ _ _ h0).2
    subst hp
    exact (h.lt p.block rfl).2
  have H0 := Lib.hid (And.intro hb (And.intro c2 (And.intro hs0 (And.intro hE0 (And.intro hoW hao)))))
  have HM := Lib.hid (And.intro hlw hm)
  clear hI hIx hK hY h0 hb hN hlw hm hs0 hE0 hoW hao c2
  go_wp2_with fail
  refine wp_scope_ahead 0 rfl ?_
  go_wp2_with fail
  refine wp_label ?_
  go_wp2_with fail
  refine (pm_waiting _ _ _ _).mono ?_
  rintro e w' ⟨rfl, rfl⟩
  obtain ⟨W2, hW2⟩ : ∃ W2, w0.alloc (.cells #[.slice ao Ws.length cap] 57) = W2 := ⟨_, rfl⟩
  have hE2 : Ext [] w0 W2 := by rw [← hW2]; exact (Ext.refl _ _).alloc _
  have kb : W2.cell? ⟨w0.heap.size, 0, none⟩ = some (.slice ao Ws.length cap) := by rw [← hW2]; exact cell_of (World.alloc_heap_new _ _) rfl
  have hs2 : W2.heap.size = w.heap.size + 2 := by rw [← hW2]; simp; exact H0.out.2.2.1
  have hI2 : I m [] W2 := by rw [← hW2]; exact HI.out _ _ _ _ H0.out.1 (Calm.alloc _ _ _)
  rw [H0.out.2.2.1] at kb ⊢
  go_wp2
  have HB := Lib.hid (And.intro kb (And.intro hE2 (And.intro hs2 hI2)))
  clear kb hE2 hs2 hI2 kw hw0
  try rw [hW2]
  clear hW2
  refine wpIn_wide.1 (wp_range (gf := 125) (lb := #[.pointer (some ⟨w.heap.size + 1, 0, none⟩)]) rfl (fun args w => enters_of Try.func125 (by kernel_rfl) rfl args w)
    (wvals_seq (w.heap.size + 1) ao cap Ws hn) (fun pre x h => by obtain ⟨k, _, _, rfl⟩ := okV_last h; rfl) (l :: m)
    (fun mm pre W => ∃ m, mm = l :: m ∧ (I m (encT Ws pre.length) W ∧ W.cell? ⟨w.heap.size, 0, none⟩ = some (.func (.yield l) #[] #[]) ∧ W.cell? ⟨w.heap.size + 1, 0, none⟩ = some (.slice ao Ws.length cap)) ∧ (∀ j ∈ m, j ≠ w.heap.size ∧ j ≠ w.heap.size + 1))
    (fun c W => c = .exit 0 ∧ Ix W) ?_ ?_ ?_ ?_ ?_ ?_ ?_ ?_)
  · exact fun mm pre => .ex fun m => (Steady.const _ _).and ((((HI.out m (encT Ws pre.length)).mono (by have := HB.out.2.2.1; have := HN.out; omega)).and (Steady.cell.and Steady.cell)).and (Steady.const _ _))
  · exact fun c => (Steady.const _ _).and (HX.out.mono (by have := HB.out.2.2.1; have := HN.out; omega))
  · rintro mm pre W ⟨m, _, h, _⟩
    exact ⟨h.2.2, (HKB.out _ _ _ h.1).2⟩
  · intro j hj
    have h1 : j < w.heap.size := (List.mem_cons.1 hj).elim (fun h => h ▸ HM.out.1) (HM.out.2 j)
    have := HB.out.2.2.1; omega
  · refine ⟨m, rfl, ⟨HB.out.2.2.2, HB.out.2.1.cell H0.out.2.1 (by simp), HB.out.1⟩, fun j hj => ?_⟩
    have h1 := HM.out.2 j hj
    exact ⟨by omega, by omega⟩
  · rintro l2 mm pre x W hl2 ⟨m, rfl, ⟨hi, hb1, hb2⟩, hm⟩ hok
    obtain ⟨k, hk, hpre, rfl⟩ := okV_last hok
    obtain ⟨p, hp⟩ : ∃ p, Ws.getD k wtD = p := ⟨_, rfl⟩
    have hs := encT_succ Ws k hk
    rw [hp] at hs ⊢
    have hpl : pre.length = k := by rw [hpre, encV_len _ _ (by omega)]
    rw [hpl] at hi
    obtain ⟨W1, hW1⟩ : ∃ W1, W.alloc (.cells #[.int .i64 p.1, .int .u64 (p.2 0), .int .u64 (p.2 1), .int .u64 (p.2 2), .int .u64 (p.2 3), .int .u64 (p.2 4), .int .u64 (p.2 5), .int .u64 (p.2 6), .int .u64 (p.2 7)] 125) = W1 := ⟨_, rfl⟩
    have hE1 : Ext [] W W1 := by rw [← hW1]; exact (Ext.refl _ _).alloc _
    have c1 := hE1.cell hb1 (by simp)
    have c3 := hE1.cell hb2 (by simp)
    have c4 : W1.cell? ⟨W.heap.size, 0, none⟩ = some (.int .i64 p.1) := by rw [← hW1]; exact cell_of (World.alloc_heap_new _ _) rfl
    have hI1 : I m (encT Ws k) W1 := by rw [← hW1]; exact HI.out _ _ _ _ hi (Calm.alloc N _ _)
    have HS := Lib.hid (And.intro hs (And.intro hpl (And.intro hk (And.intro hl2 (And.intro hE1 hm)))))
    clear hok hs hpl hpre hi hb1 hb2 hE1 hl2 hk hm
    have H1 := Lib.hid (And.intro c1 (And.intro c3 (And.intro c4 hI1)))
    clear c1 c3 c4 hI1 hp
    intro K hK
    unfold wtV
    gi_wp2
    try rw [hW1]
    clear hW1
    refine hK _ _ HS.out.2.2.2.2.1 ?_
    intro W' hC
    clear hK K
    have hI' := HI.out _ _ _ _ H1.out.2.2.2 (hC.mono (by have := HB.out.2.2.1; have := HN.out; omega))
    have c1 := Steady.cell _ _ H1.out.1 hC
    have c3 := Lib.hid (Steady.cell _ _ H1.out.2.1 hC)
    have c4 := Steady.cell _ _ H1.out.2.2.1 hC
    obtain ⟨fn, tmps, assign, body, hy, hR⟩ := HY.out m (encT Ws k) #[.int .i64 (p.1 : Int)] W' hI' ⟨k + 1, HS.out.2.2.1, HS.out.1.symm⟩
    have HC := Lib.hid hC
    clear hC hI'
    gi_wp2
    refine ⟨rfl, hR.mono ?_⟩
    have hm := HS.out.2.2.2.2.2
    have nb1 : w.heap.size ∉ l :: m := fun h => (List.mem_cons.1 h).elim (fun h => by have := HM.out.1; omega) (fun h => (hm _ h).1 rfl)
    have nb2 : w.heap.size + 1 ∉ l :: m := fun h => (List.mem_cons.1 h).elim (fun h => by have := HM.out.1; omega) (fun h => (hm _ h).2 rfl)
    rintro e W3 ⟨hE3, (⟨rfl, m2, hs2, hJ3⟩ | ⟨rfl, hJx3⟩)⟩
    · have HNB := Lib.hid (And.intro nb1 (And.intro nb2 (And.intro hm (And.intro hs2 hE3))))
      clear nb1 nb2 hm hs2 hE3
      gi_wp2
      obtain ⟨nb1, nb2, hm, hs2, hE3⟩ := HNB.out
      have hs1 := World.block_lt_of_cell? _ _ c1
      have hs3 := World.block_lt_of_cell? _ _ c3.out
      refine ⟨hE3, l :: m2, fun j hj => (List.mem_cons.1 hj).elim (fun h => .inl (by rw [h]; exact List.mem_cons_self ..)) (fun h => (hs2 j h).imp (List.mem_cons_of_mem _) (fun h => by have := HC.out.size; have := HS.out.2.2.2.2.1.size; omega)), m2, rfl, ⟨?_, hE3.cell c1 nb1, hE3.cell c3.out nb2⟩, fun j hj => (hs2 j hj).elim (hm j) (fun h => ⟨?_, ?_⟩)⟩
      · rw [List.length_append, HS.out.2.1]
        show I m2 (encT Ws (k + 1)) W3
        rw [HS.out.1]
        exact hJ3
      · simp at hs1; omega
      · simp at hs3; omega
    · have HNB := Lib.hid hE3
      clear nb1 nb2 hm hE3
      gi_wp2
      exact ⟨HNB.out, rfl, hJx3⟩
  · intro D mm xs W hD hx hi hdD
    go_wp2
    simp only [Exit.jump]
    obtain ⟨m', rfl, ⟨hi, _⟩, _⟩ := hi
    refine leaves_mark hdD (results_none rfl _ _ _) ⟨⟨_, rfl⟩, .inl ⟨_, m', rfl, HI.out _ _ _ _ (by rw [show Ws.length = xs.length from by rw [hx, encV_len _ _ (Nat.le_refl _)]]; exact hi) (Calm.put hdD rfl (by have := HB.out.2.2.1; have := HN.out; omega) _)⟩⟩
  · intro D c W hD ⟨hc, hi⟩ hdD
    subst hc
    refine wpIn_exit ?_
    go_wp2
    simp only [Exit.jump]
    refine leaves_mark hdD (results_none rfl _ _ _) ⟨⟨_, rfl⟩, .inr (HX.out _ _ hi (Calm.put hdD rfl (by have := HB.out.2.2.1; have := HN.out; omega) _))⟩
end Go.Proofs.Ytfojmjkcjdehaaa
