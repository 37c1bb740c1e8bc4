/- Package fibre: Copy, Done; touches handed on one by one (printed by wip/mkFj.py). The document's fibre: One, Same (printed by wip/mkFk.py). The document's fibre: Step (printed by wip/mkFl.py). -/
import Derived.Test.YtfojmjkcjdehaaaFcG
import Derived.Test.YtfojmjkcjdehaaaPhI
import Derived.Test.YtfojmjkcjdehaaaFbP
import Derived.Test.YtfojmjkcjdehaaaPlA
import Derived.RangeFuncLeaves
namespace Go.Proofs.Ytfojmjkcjdehaaa
open Go Go.RowKit Go.Shelf
attribute [local go_sem] Oper.semAt_some

/-- a touch, as yield is handed it -/
def tchA (t : Tch) : Array Value := #[.agg #[.int .i64 t.kd, .int .i64 t.at', .int .u64 t.wd]]
def encC (L : List Tch) (k : Nat) : List (Array Value) := (L.take k).map tchA
theorem encC_succ (W : List Tch) (k : Nat) (h : k < W.length) : encC W (k + 1) = encC W k ++ [tchA (W.getD k tch0)] := by
  unfold encC
  rw [List.take_succ_eq_append_getElem h, List.map_append, show W.getD k tch0 = W[k] from by simp [h]]
  rfl
theorem encC_len (W : List Tch) (k : Nat) (h : k ≤ W.length) : (encC W k).length = k := by simp [encC]; omega
def okC (W : List Tch) (pre : List (Array Value)) : Prop := ∃ k, k ≤ W.length ∧ pre = encC W k
theorem okC_last {W : List Tch} {pre : List (Array Value)} {x : Array Value} (h : okC W (pre ++ [x])) : ∃ k, k < W.length ∧ pre = encC W k ∧ x = tchA (W.getD k tch0) := by
  obtain ⟨k, hk, he⟩ := h
  cases k with
  | zero => simp [encC] at he
  | succ k =>
    rw [encC_succ W k (by omega)] at he
    obtain ⟨h1, h2⟩ := List.append_inj' he rfl
    exact ⟨k, by omega, h1, by simpa using h2⟩
theorem RowAt.steady {M n c : Nat} {ao : Option Addr} {R : Nat → List Value} (ho : RowOk n c R) : Steady M (fun W => RowAt W ao n c R) := by
  intro w w' h hc
  rcases h with h | ⟨b, off, h1, h2⟩
  · exact .inl h
  · refine .inr ⟨b, off, h1, fun i hi j hj => ?_⟩
    have h3 := h2 i hi j hj
    rw [List.getElem?_eq_getElem (by rw [ho.1 i hi]; exact hj)] at h3 ⊢
    exact Steady.cell (N := M) w w' h3 hc
theorem TcAt.steady {M N : Nat} {ao : Option Addr} {L : List Tch} : Steady M (fun W => TcAt W N ao L) := by
  intro w w' h hc
  refine ⟨RowAt.steady (tR_ok _ _) w w' h.1 hc, h.2.imp id (fun h2 p hp => ?_)⟩
  exact ⟨Nat.lt_of_lt_of_le (h2 p hp).1 hc.size, (h2 p hp).2.imp id (fun ⟨cur, hb⟩ => ⟨cur, hc.block _ _ hb (.inr rfl)⟩)⟩
/-- what the iterator reads -/
def DKB (Bs N : Nat) (v : Value) (ao : Option Addr) (L : List Tch) (w : World) : Prop := w.cell? ⟨Bs, 0, none⟩ = some v ∧ TcAt w N ao L
theorem DKB.steady {M N Bs : Nat} {v : Value} {ao : Option Addr} {L : List Tch} : Steady M (DKB Bs N v ao L) := Steady.cell.and TcAt.steady

set_option maxRecDepth 100000 in
set_option maxHeartbeats 2000000 in
theorem tvals_seq (Bs N0 : Nat) (ao : Option Addr) (cap : Nat) (W : List Tch) (hn : W.length ≤ 1000000) :
    SeqC Try.prog 122 #[.pointer (some ⟨Bs, 0, none⟩)] (okC W) (fun xs => xs = encC W W.length) (DKB Bs N0 (.slice ao W.length cap) ao W) := by
  intro l N I Ix hI hIx hK hY w m hN hlw hm h0
  refine callsIn_of_wp Try.func122 rfl trivial ?_ rfl
  simp only [Try.ntmps122, List.size_toArray, List.length_cons, List.length_nil, Nat.reduceAdd, Nat.reduceSub, Array.replicate_succ, Array.replicate_zero, List.push_toArray, List.append_toArray, List.nil_append, List.cons_append]
  have HI := Lib.hid hI
  have HX := Lib.hid hIx
  have HK := Lib.hid hK
  have HY := Lib.hid hY
  obtain ⟨kb, _⟩ := hK _ _ _ h0
  have H0 := Lib.hid h0
  obtain ⟨n, hnn⟩ : ∃ n, W.length = n := ⟨_, rfl⟩
  rw [hnn] at kb hn
  have HN := Lib.hid hnn
  clear hI hIx hK hY h0 hnn
  gi_wp2
  gi_loopw [7] (fun i wr => ∃ (k : Nat) (m' : List Nat), k ≤ n ∧ i = .int .i64 k ∧ I m' (encC W k) wr) (fun i _ => n - (intOf i).toNat)
  case atStart => exact ⟨0, m, Nat.zero_le _, rfl, H0.out⟩
  case round =>
    obtain ⟨k, m', hk, rfl, hJs⟩ := hrel
    have HJ := Lib.hid hJs
    clear hJs
    by_cases hlt : k < n
    · have hkl : k < W.length := by rw [HN.out]; exact hlt
      obtain ⟨g, off, rfl, x0, x1, x2⟩ := (HK.out _ _ _ HJ.out).2.cells hkl
      obtain ⟨p, hp⟩ : ∃ p, W.getD k tch0 = p := ⟨_, rfl⟩
      rw [hp] at x0 x1 x2
      have hs := encC_succ W k hkl
      rw [hp] at hs
      obtain ⟨fn, tmps, assign, body, hy, hR⟩ := HY.out m' _ (tchA p) (wr.alloc (.cells #[.int .i64 p.kd, .int .i64 p.at', .int .u64 p.wd] 82)) (HI.out _ _ _ _ HJ.out (Calm.alloc _ _ _)) ⟨k + 1, by omega, hs.symm⟩
      have HS := Lib.hid hs
      clear hs hp hkl
      unfold tchA at hy
      gi_wp2
      refine ⟨rfl, hR.mono ?_⟩
      rintro e W3 ⟨_, (⟨rfl, m2, _, hJ3⟩ | ⟨rfl, hJx3⟩)⟩
      · gi_wp2
        go_roundw
        case rel => exact ⟨k + 1, m2, by omega, by go_num, by rw [HS.out]; exact hJ3⟩
        case measure => simp [intOf]; omega
      · gi_wp2
        refine bodyPost_ret (results_none rfl _ _ _) rfl ?_
        exact ⟨⟨_, rfl⟩, .inr hJx3⟩
    · have hkn : k = n := by omega
      gi_wp2
      go_end0
      exact ⟨⟨_, rfl⟩, .inl ⟨_, m', rfl, by rw [HN.out, ← hkn]; exact HJ.out⟩⟩

set_option maxHeartbeats 400000 in
theorem tv_values (ao : Option Addr) (n cap : Nat) (w : World) :
    Calls Try.prog 99 #[.slice ao n cap] w fun e w' => e = .returned (.func (.func 122) #[] #[.pointer (some ⟨w.heap.size, 0, none⟩)]) ∧ w' = w.alloc (.cells #[.slice ao n cap] 75) := by
  have hcf := enters_of Try.func122 (by kernel_rfl) rfl
  go_enter Try.func99, Try.ntmps99
  go_wp2
  go_ret
  exact ⟨rfl, rfl⟩
set_option maxRecDepth 100000 in
set_option maxHeartbeats 4000000 in
theorem done_seq (Bw N0 : Nat) (ao : Option Addr) (cap : Nat) (Ws : List Tch) (hn : Ws.length ≤ 1000000) :
    SeqC Try.prog 98 #[.pointer (some ⟨Bw, 0, none⟩)] (okC Ws) (fun xs => xs = encC Ws Ws.length) (DKB Bw N0 (.slice ao Ws.length cap) ao Ws) := by
  intro l N I Ix hI hIx hK hY w m hN hlw hm h0
  refine callsIn_of_wp_marks Try.func98 rfl trivial ?_ rfl
  simp only [Try.ntmps98, List.size_toArray, List.length_cons, List.length_nil, Nat.reduceAdd, Nat.reduceSub, Array.replicate_succ, Array.replicate_zero, List.push_toArray, List.append_toArray, List.nil_append, List.cons_append]
  refine wpIn_wide.2 ?_
  have HI := Lib.hid hI
  have HX := Lib.hid hIx
  have HY := Lib.hid hY
  have HKB := Lib.hid hK
  have HN := Lib.hid hN
  obtain ⟨w0, hw0⟩ : ∃ w0, w.alloc (.cells #[.func (.yield l) #[] #[]] 152) = w0 := ⟨_, rfl⟩
  have hb := (hI _ _ _ _ h0 (Calm.alloc N w (.cells #[.func (.yield l) #[] #[]] 152)))
  rw [hw0] at hb
  have hb1 := hK _ _ _ hb
  have c2 : w0.cell? ⟨w.heap.size, 0, none⟩ = some (.func (.yield l) #[] #[]) := by rw [← hw0]; exact cell_of (World.alloc_heap_new _ _) rfl
  have hs0 : w0.heap.size = w.heap.size + 1 := by rw [← hw0]; simp
  have hE0 : Ext [] w w0 := by rw [← hw0]; exact (Ext.refl _ _).alloc _
  obtain ⟨kw, hoW⟩ := hb1
  have H0 := Lib.hid (And.intro hb (And.intro c2 (And.intro hs0 (And.intro hE0 hoW))))
  have HM := Lib.hid (And.intro hlw hm)
  clear hI hIx hK hY h0 hb hN hlw hm hs0 hE0 hoW c2
  go_wp2_with fail
  refine wp_scope_ahead 0 rfl ?_
  go_wp2_with fail
  refine wp_label ?_
  go_wp2_with fail
  refine (tv_values _ _ _ _).mono ?_
  rintro e w' ⟨rfl, rfl⟩
  obtain ⟨W2, hW2⟩ : ∃ W2, w0.alloc (.cells #[.slice ao Ws.length cap] 75) = W2 := ⟨_, rfl⟩
  have hE2 : Ext [] w0 W2 := by rw [← hW2]; exact (Ext.refl _ _).alloc _
  have kb : W2.cell? ⟨w0.heap.size, 0, none⟩ = some (.slice ao Ws.length cap) := by rw [← hW2]; exact cell_of (World.alloc_heap_new _ _) rfl
  have hs2 : W2.heap.size = w.heap.size + 2 := by rw [← hW2]; simp; exact H0.out.2.2.1
  have hI2 : I m [] W2 := by rw [← hW2]; exact HI.out _ _ _ _ H0.out.1 (Calm.alloc _ _ _)
  rw [H0.out.2.2.1] at kb ⊢
  go_wp2
  have HB := Lib.hid (And.intro kb (And.intro hE2 (And.intro hs2 hI2)))
  clear kb hE2 hs2 hI2 kw hw0
  try rw [hW2]
  clear hW2
  refine wpIn_wide.1 (wp_range (gf := 122) (lb := #[.pointer (some ⟨w.heap.size + 1, 0, none⟩)]) rfl (fun args w => enters_of Try.func122 (by kernel_rfl) rfl args w)
    (tvals_seq (w.heap.size + 1) N0 ao cap Ws hn) (fun pre x h => by obtain ⟨k, _, _, rfl⟩ := okC_last h; rfl) (l :: m)
    (fun mm pre W => ∃ m, mm = l :: m ∧ (I m (encC Ws pre.length) W ∧ W.cell? ⟨w.heap.size, 0, none⟩ = some (.func (.yield l) #[] #[]) ∧ W.cell? ⟨w.heap.size + 1, 0, none⟩ = some (.slice ao Ws.length cap)) ∧ (∀ j ∈ m, j ≠ w.heap.size ∧ j ≠ w.heap.size + 1))
    (fun c W => c = .exit 0 ∧ Ix W) ?_ ?_ ?_ ?_ ?_ ?_ ?_ ?_)
  · exact fun mm pre => .ex fun m => (Steady.const _ _).and ((((HI.out m (encC Ws pre.length)).mono (by have := HB.out.2.2.1; have := HN.out; omega)).and (Steady.cell.and Steady.cell)).and (Steady.const _ _))
  · exact fun c => (Steady.const _ _).and (HX.out.mono (by have := HB.out.2.2.1; have := HN.out; omega))
  · rintro mm pre W ⟨m, _, h, _⟩
    exact ⟨h.2.2, (HKB.out _ _ _ h.1).2⟩
  · intro j hj
    have h1 : j < w.heap.size := (List.mem_cons.1 hj).elim (fun h => h ▸ HM.out.1) (HM.out.2 j)
    have := HB.out.2.2.1; omega
  · refine ⟨m, rfl, ⟨HB.out.2.2.2, HB.out.2.1.cell H0.out.2.1 (by simp), HB.out.1⟩, fun j hj => ?_⟩
    have h1 := HM.out.2 j hj
    exact ⟨by omega, by omega⟩
  · rintro l2 mm pre x W hl2 ⟨m, rfl, ⟨hi, hb1, hb2⟩, hm⟩ hok
    obtain ⟨k, hk, hpre, rfl⟩ := okC_last hok
    obtain ⟨p, hp⟩ : ∃ p, Ws.getD k tch0 = p := ⟨_, rfl⟩
    have hs := encC_succ Ws k hk
    rw [hp] at hs ⊢
    have hpl : pre.length = k := by rw [hpre, encC_len _ _ (by omega)]
    rw [hpl] at hi
    obtain ⟨W1, hW1⟩ : ∃ W1, W.alloc (.cells #[.int .i64 p.kd, .int .i64 p.at', .int .u64 p.wd] 82) = W1 := ⟨_, rfl⟩
    have hE1 : Ext [] W W1 := by rw [← hW1]; exact (Ext.refl _ _).alloc _
    have c1 := hE1.cell hb1 (by simp)
    have c3 := hE1.cell hb2 (by simp)
    have c4 : W1.heap[W.heap.size]? = some (.cells #[.int .i64 p.kd, .int .i64 p.at', .int .u64 p.wd] 82 (0, 0)) := by rw [← hW1]; exact World.alloc_heap_new _ _
    have hI1 : I m (encC Ws k) W1 := by rw [← hW1]; exact HI.out _ _ _ _ hi (Calm.alloc N _ _)
    have HS := Lib.hid (And.intro hs (And.intro hpl (And.intro hk (And.intro hl2 (And.intro hE1 hm)))))
    clear hok hs hpl hpre hi hb1 hb2 hE1 hl2 hk hm
    have H1 := Lib.hid (And.intro c1 (And.intro c3 (And.intro c4 hI1)))
    clear c1 c3 c4 hI1 hp
    intro K hK
    unfold tchA
    gi_wp2
    try rw [hW1]
    clear hW1
    refine hK _ _ HS.out.2.2.2.2.1 ?_
    intro W' hC
    clear hK K
    have hI' := HI.out _ _ _ _ H1.out.2.2.2 (hC.mono (by have := HB.out.2.2.1; have := HN.out; omega))
    have c1 := Steady.cell _ _ H1.out.1 hC
    have c3 := Lib.hid (Steady.cell _ _ H1.out.2.1 hC)
    have c4b := hC.block _ _ H1.out.2.2.1 (.inr rfl)
    obtain ⟨c4, c5, c6⟩ := three' c4b
    clear c4b
    obtain ⟨fn, tmps, assign, body, hy, hR⟩ := HY.out m (encC Ws k) (tchA p) W' hI' ⟨k + 1, HS.out.2.2.1, HS.out.1.symm⟩
    unfold tchA at hy
    have HC := Lib.hid hC
    clear hC hI'
    gi_wp2
    refine ⟨rfl, hR.mono ?_⟩
    have hm := HS.out.2.2.2.2.2
    have nb1 : w.heap.size ∉ l :: m := fun h => (List.mem_cons.1 h).elim (fun h => by have := HM.out.1; omega) (fun h => (hm _ h).1 rfl)
    have nb2 : w.heap.size + 1 ∉ l :: m := fun h => (List.mem_cons.1 h).elim (fun h => by have := HM.out.1; omega) (fun h => (hm _ h).2 rfl)
    rintro e W3 ⟨hE3, (⟨rfl, m2, hs2, hJ3⟩ | ⟨rfl, hJx3⟩)⟩
    · have HNB := Lib.hid (And.intro nb1 (And.intro nb2 (And.intro hm (And.intro hs2 hE3))))
      clear nb1 nb2 hm hs2 hE3
      gi_wp2
      obtain ⟨nb1, nb2, hm, hs2, hE3⟩ := HNB.out
      have hs1 := World.block_lt_of_cell? _ _ c1
      have hs3 := World.block_lt_of_cell? _ _ c3.out
      refine ⟨hE3, l :: m2, fun j hj => (List.mem_cons.1 hj).elim (fun h => .inl (by rw [h]; exact List.mem_cons_self ..)) (fun h => (hs2 j h).imp (List.mem_cons_of_mem _) (fun h => by have := HC.out.size; have := HS.out.2.2.2.2.1.size; omega)), m2, rfl, ⟨?_, hE3.cell c1 nb1, hE3.cell c3.out nb2⟩, fun j hj => (hs2 j hj).elim (hm j) (fun h => ⟨?_, ?_⟩)⟩
      · rw [List.length_append, HS.out.2.1]
        show I m2 (encC Ws (k + 1)) W3
        rw [HS.out.1]
        exact hJ3
      · simp at hs1; omega
      · simp at hs3; omega
    · have HNB := Lib.hid hE3
      clear nb1 nb2 hm hE3
      gi_wp2
      exact ⟨HNB.out, rfl, hJx3⟩
  · intro D mm xs W hD hx hi hdD
    go_wp2
    simp only [Exit.jump]
    obtain ⟨m', rfl, ⟨hi, _⟩, _⟩ := hi
    refine leaves_mark hdD (results_none rfl _ _ _) ⟨⟨_, rfl⟩, .inl ⟨_, m', rfl, HI.out _ _ _ _ (by rw [show Ws.length = xs.length from by rw [hx, encC_len _ _ (Nat.le_refl _)]]; exact hi) (Calm.put hdD rfl (by have := HB.out.2.2.1; have := HN.out; omega) _)⟩⟩
  · intro D c W hD ⟨hc, hi⟩ hdD
    subst hc
    refine wpIn_exit ?_
    go_wp2
    simp only [Exit.jump]
    refine leaves_mark hdD (results_none rfl _ _ _) ⟨⟨_, rfl⟩, .inr (HX.out _ _ hi (Calm.put hdD rfl (by have := HB.out.2.2.1; have := HN.out; omega) _))⟩

set_option maxRecDepth 100000 in
set_option maxHeartbeats 800000 in
theorem fb_Copy (f N : Nat) (L dn : List Tch) (w : World) (h : FibAt w N f L dn) (h1 : L.length ≤ 1000000) (h2 : dn.length ≤ 1000000) :
    Calls Try.prog 45 #[.pointer (some ⟨f, 0, none⟩)] w fun e w' => ∃ c, e = .returned (.pointer (some ⟨c, 0, none⟩)) ∧ FibAt w' N c L dn ∧ Ext [] w w' ∧ w.heap.size ≤ c := by
  have HN := Lib.hid (fb_none f N L dn w h)
  have hlt := h.lt
  obtain ⟨hNf, lo, lc, po, pc, hb, hL, hD, _⟩ := h
  obtain ⟨k0, k1, k2⟩ := three' hb
  have HC1 := Lib.hid (fun W (hE : Ext [] w W) => fb_clone N lo lc L W (hL.ext0 hE) h1)
  have HC2 := Lib.hid (fun W (hE : Ext [] w W) => fb_clone N po pc dn W (hD.ext0 hE) h2)
  have HB := Lib.hid (And.intro hb (And.intro hNf hlt))
  clear hNf hb hL hD h1 h2 hlt
  obtain ⟨n, hn⟩ : ∃ n, L.length = n := ⟨_, rfl⟩
  obtain ⟨m, hm⟩ : ∃ m, dn.length = m := ⟨_, rfl⟩
  have HNM := Lib.hid (And.intro hn hm)
  rw [hn] at k0 HC1
  rw [hm] at k1 HC2
  clear hn hm
  go_enter Try.func45, Try.ntmps45
  go_wp2_with fail
  refine HN.out.mono ?_
  rintro e w' ⟨rfl, rfl⟩
  go_upto_region 3 with fail
  refine wp_region_p (hds [0, 1, 2, 3, 4, 7, 8, 9, 10] (.tl 5 (.two 6 (tls [11, 12, 13, 14] .done) 11 (tls [6, 12, 13, 14] .done)))) (Ext [] w) (by kernel_rfl) (by kernel_rfl) (fun _ d _ _ _ h => by cases d <;> exact h) (Ext.refl _ _).drew ?_
  repeat (first
    | (refine wpPl_hd ?_ rfl (by rfl) (fun w hSw => ?_) ?_
       rotate_left
       · (have r0 := hSw.cell k0 (by simp); have r1 := hSw.cell k1 (by simp); clear hSw; go_simp; first | exact ⟨rfl, rfl⟩ | exact rfl)
       simp only [Act.put, List.setIfInBounds_toArray, List.set_cons_zero, List.set_cons_succ]))
  refine wpPl_tl rfl (by rfl) (fun K hK => ?_)
  go_simp
  go_at_call 86
  refine (HC1.out _ (Ext.refl _ _).drew).mono ?_
  rintro e w1 ⟨v, rfl, hE1, ho⟩
  obtain ⟨co, cc, rfl, hT, hcc, hcb⟩ := ho.at (N := N)
  rw [HNM.out.1]
  have H1 := Lib.hid (And.intro ((Ext.refl [] w).drew.trans hE1) (And.intro hT hcc))
  refine hK _ _ (fun _ => H1.out.1) ?_
  clear hK K hE1 ho hT hcc hcb
  try simp only [Act.put, List.setIfInBounds_toArray, List.set_cons_zero, List.set_cons_succ]
  refine wpPl_two ?_ ?_
  · refine wpPl_tl rfl (by rfl) (fun K hK => ?_)
    go_simp
    refine hK _ _ (fun _ => H1.out.1) ?_
    clear hK K
    try simp only [Act.put, List.setIfInBounds_toArray, List.set_cons_zero, List.set_cons_succ]
    refine wpPl_tl rfl (by rfl) (fun K hK => ?_)
    go_simp
    go_at_call 86
    refine (HC2.out _ H1.out.1).mono ?_
    rintro e w2 ⟨v, rfl, hE2, ho⟩
    obtain ⟨do', dc, rfl, hT, hcc, hcb⟩ := ho.at (N := N)
    rw [HNM.out.2]
    have H2 := Lib.hid (And.intro (H1.out.1.trans hE2) (And.intro hT (H1.out.2.1.ext0 hE2)))
    refine hK _ _ (fun _ => H2.out.1) ?_
    clear hK K hE2 ho hT hcc hcb
    try simp only [Act.put, List.setIfInBounds_toArray, List.set_cons_zero, List.set_cons_succ]
    refine wpPl_tl rfl (by rfl) (fun K hK => ?_)
    go_simp
    refine hK _ _ (fun _ => H2.out.1) ?_
    clear hK K
    try simp only [Act.put, List.setIfInBounds_toArray, List.set_cons_zero, List.set_cons_succ]
    refine wpPl_tl rfl (by rfl) (fun K hK => ?_)
    go_simp
    refine hK _ _ (fun _ => H2.out.1.alloc _) ?_
    clear hK K
    try simp only [Act.put, List.setIfInBounds_toArray, List.set_cons_zero, List.set_cons_succ]
    refine wpPl_last rfl (by rfl) ?_
    go_simp
    try simp only [Act.put, List.setIfInBounds_toArray, List.set_cons_zero, List.set_cons_succ]
    go_wp2
    go_ret
    have hE3 : Ext [] w2 (w2.alloc (.cells #[.slice co n cc, .slice do' m dc, .bool true] 109)) := (Ext.refl _ _).alloc _
    refine ⟨w2.heap.size, rfl, ⟨by have := HB.out.2; have := H2.out.1.size; omega, co, cc, do', dc, ?_, H2.out.2.2.ext0 hE3, H2.out.2.1.ext0 hE3, H1.out.2.2⟩, H2.out.1.trans hE3, H2.out.1.size⟩
    rw [HNM.out.1, HNM.out.2]
    exact World.alloc_heap_new _ _
  · refine wpPl_tl rfl (by rfl) (fun K hK => ?_)
    go_simp
    go_at_call 86
    refine (HC2.out _ H1.out.1).mono ?_
    rintro e w2 ⟨v, rfl, hE2, ho⟩
    obtain ⟨do', dc, rfl, hT, hcc, hcb⟩ := ho.at (N := N)
    rw [HNM.out.2]
    have H2 := Lib.hid (And.intro (H1.out.1.trans hE2) (And.intro hT (H1.out.2.1.ext0 hE2)))
    refine hK _ _ (fun _ => H2.out.1) ?_
    clear hK K hE2 ho hT hcc hcb
    try simp only [Act.put, List.setIfInBounds_toArray, List.set_cons_zero, List.set_cons_succ]
    refine wpPl_tl rfl (by rfl) (fun K hK => ?_)
    go_simp
    refine hK _ _ (fun _ => H2.out.1) ?_
    clear hK K
    try simp only [Act.put, List.setIfInBounds_toArray, List.set_cons_zero, List.set_cons_succ]
    refine wpPl_tl rfl (by rfl) (fun K hK => ?_)
    go_simp
    refine hK _ _ (fun _ => H2.out.1) ?_
    clear hK K
    try simp only [Act.put, List.setIfInBounds_toArray, List.set_cons_zero, List.set_cons_succ]
    refine wpPl_tl rfl (by rfl) (fun K hK => ?_)
    go_simp
    refine hK _ _ (fun _ => H2.out.1.alloc _) ?_
    clear hK K
    try simp only [Act.put, List.setIfInBounds_toArray, List.set_cons_zero, List.set_cons_succ]
    refine wpPl_last rfl (by rfl) ?_
    go_simp
    try simp only [Act.put, List.setIfInBounds_toArray, List.set_cons_zero, List.set_cons_succ]
    go_wp2
    go_ret
    have hE3 : Ext [] w2 (w2.alloc (.cells #[.slice co n cc, .slice do' m dc, .bool true] 109)) := (Ext.refl _ _).alloc _
    refine ⟨w2.heap.size, rfl, ⟨by have := HB.out.2; have := H2.out.1.size; omega, co, cc, do', dc, ?_, H2.out.2.2.ext0 hE3, H2.out.2.1.ext0 hE3, H1.out.2.2⟩, H2.out.1.trans hE3, H2.out.1.size⟩
    rw [HNM.out.1, HNM.out.2]
    exact World.alloc_heap_new _ _
set_option maxHeartbeats 400000 in
theorem fb_Copy_none (v : Value) (w : World) (h : NoneF w v) :
    Calls Try.prog 45 #[v] w fun e w' => e = .returned (.pointer none) ∧ Ext [] w w' := by
  have HN := Lib.hid (fb_isnone v w h)
  clear h
  go_enter Try.func45, Try.ntmps45
  go_wp2_with fail
  refine HN.out.mono ?_
  rintro e w' ⟨rfl, rfl⟩
  go_wp2
  go_ret
  exact ⟨rfl, Ext.refl _ _⟩
/-- there is no fibre: Done goes over nothing -/
theorem fb_Done_none (v : Value) (w : World) (h : NoneF w v) :
    Calls Try.prog 46 #[v] w fun e w' => ∃ bw, e = .returned (.func (.func 98) #[] #[.pointer (some ⟨bw, 0, none⟩)]) ∧ Ext [] w w' ∧ (∀ N, DKB bw N (.slice none 0 0) none [] w') ∧ w.heap.size ≤ bw := by
  obtain ⟨W0, hw0⟩ : ∃ W0, w.alloc (.cells #[.slice none 0 0] 75) = W0 := ⟨_, rfl⟩
  have hE0 : Ext [] w W0 := by rw [← hw0]; exact (Ext.refl [] w).alloc _
  have hb0 : W0.heap[w.heap.size]? = some (.cells #[.slice none 0 0] 75 (0, 0)) := by rw [← hw0]; exact World.alloc_heap_new _ _
  have HN := Lib.hid (fb_isnone v W0 (h.ext hE0))
  have hcf := enters_of Try.func98 (by kernel_rfl) rfl
  have H0 := Lib.hid (And.intro hE0 hb0)
  clear h hE0 hb0
  go_enter Try.func46, Try.ntmps46
  go_wp2_with fail
  refine HN.out.mono ?_
  rintro e w' ⟨rfl, rfl⟩
  clear hw0
  go_wp2
  go_ret
  exact ⟨w.heap.size, rfl, H0.out.1, fun N => ⟨cell_of (j := 0) H0.out.2 rfl, TcAt.nil' _ _⟩, Nat.le_refl _⟩
set_option maxHeartbeats 800000 in
theorem fb_Done (f N : Nat) (L dn : List Tch) (w : World) (h : FibAt w N f L dn) :
    Calls Try.prog 46 #[.pointer (some ⟨f, 0, none⟩)] w fun e w' => ∃ bw ao cap, e = .returned (.func (.func 98) #[] #[.pointer (some ⟨bw, 0, none⟩)]) ∧ Ext [] w w' ∧ DKB bw N (.slice ao dn.length cap) ao dn w' ∧ w.heap.size ≤ bw := by
  obtain ⟨W0, hw0⟩ : ∃ W0, w.alloc (.cells #[.slice none 0 0] 75) = W0 := ⟨_, rfl⟩
  have hE0 : Ext [] w W0 := by rw [← hw0]; exact (Ext.refl [] w).alloc _
  have hb0 : W0.heap[w.heap.size]? = some (.cells #[.slice none 0 0] 75 (0, 0)) := by rw [← hw0]; exact World.alloc_heap_new _ _
  have HN := Lib.hid (fb_none f N L dn W0 (h.ext0 hE0))
  have hcf := enters_of Try.func98 (by kernel_rfl) rfl
  have HLT := Lib.hid h.lt
  obtain ⟨_, lo, lc, po, pc, hb, _, hD, _⟩ := h
  obtain ⟨k0, k1, k2⟩ := three' (hE0.at hb (by simp))
  have c0 := cell_of (j := 0) (v := .slice none 0 0) hb0 rfl
  have f0 := free_of hb0 0
  have H0 := Lib.hid (And.intro hE0 (And.intro hb0 hD))
  clear hE0 hb0 hb hD
  generalize dn.length = m at *
  go_enter Try.func46, Try.ntmps46
  go_wp2_with fail
  refine HN.out.mono ?_
  rintro e w' ⟨rfl, rfl⟩
  clear hw0 k0
  go_wp2
  go_ret
  have hs := H0.out.1.setCell (p := ⟨w.heap.size, 0, none⟩) (.inr (Nat.le_refl _)) (.slice po m pc)
  exact ⟨w.heap.size, po, pc, rfl, hs, ⟨cell_of (j := 0) (cell1_set H0.out.2.1 _) rfl, H0.out.2.2.ext0 hs⟩, Nat.le_refl _⟩
end Go.Proofs.Ytfojmjkcjdehaaa
namespace Go.Proofs.Ytfojmjkcjdehaaa
open Go Go.RowKit Go.Shelf
attribute [local go_sem] Oper.semAt_some

set_option maxRecDepth 100000 in
set_option maxHeartbeats 2000000 in
theorem rf_One (v : Value) (D : Dv) (t : Tch) (w : World) (h : RefAt w v D) (hn : DvOk D) (hk : t.kd = 1 ∨ t.kd = 2 ∨ t.kd = 3 ∨ t.kd = 4) :
    Calls Try.prog 121 #[v, .agg #[.int .i64 t.kd, .int .i64 t.at', .int .u64 t.wd]] w fun e w' => ∃ v', e = .returned (.tuple #[v', .int .i64 (playOne D t).2]) ∧ Ext [] w w' ∧ RefAt w' v' (playOne D t).1 := by
  have HR := Lib.hid h
  obtain ⟨sg, sc, tg, tc, wo, wc, rfl, _, _, _⟩ := h
  obtain ⟨k, a, x⟩ := t
  dsimp only at hk ⊢
  obtain ⟨nb, hnb⟩ : ∃ nb, w.heap.size = nb := ⟨_, rfl⟩
  obtain ⟨W0, hw0⟩ : ∃ W0, ((w.alloc (.cells #[.slice (some ⟨sg, 0, none⟩) D.n sc, .slice (some ⟨tg, 0, none⟩) D.n tc, .slice wo D.W.length wc] 33)).alloc (.cells #[.int .i64 k, .int .i64 a, .int .u64 x] 82)).alloc (.cells #[.slice none 0 0, .slice none 0 0, .slice none 0 0] 33) = W0 := ⟨_, rfl⟩
  have hE0 : Ext [] w W0 := by rw [← hw0]; exact (((Ext.refl [] w).alloc _).alloc _).alloc _
  obtain ⟨hb1, hb2, hb3, hs0⟩ := al3_heap (w := w) #[.slice (some ⟨sg, 0, none⟩) D.n sc, .slice (some ⟨tg, 0, none⟩) D.n tc, .slice wo D.W.length wc] #[.int .i64 k, .int .i64 a, .int .u64 x] #[.slice none 0 0, .slice none 0 0, .slice none 0 0] 33 82 33
  rw [hw0, hnb] at hb1 hb2 hb3
  obtain ⟨k0, k1, k2⟩ := three hb1
  obtain ⟨t0, t1, t2⟩ := three hb2
  have H0 := Lib.hid (And.intro hE0 (And.intro hb3 (And.intro hb1 hnb)))
  clear hE0 hb1 hb2 hb3 hs0
  rcases hk with rfl | rfl | rfl | rfl
  · rw [show playOne D ⟨1, a, x⟩ = (D, (D.load a).2) from rfl]
    have HC := Lib.hid (rf_Load _ D a W0 (HR.out.ext0 H0.out.1) hn)
    go_enter Try.func121, Try.ntmps121
    go_wp2_with fail
    refine HC.out.mono ?_
    rintro e w1 ⟨rfl, hE1⟩
    have k0 := hE1.cell k0 (by simp)
    have k1 := hE1.cell k1 (by simp)
    have k2 := hE1.cell k2 (by simp)
    have hb4 := hE1.at H0.out.2.1 (by simp)
    obtain ⟨m0, m1, m2⟩ := three hb4
    have f0 := free_of hb4 0
    have f1 := free_of hb4 1
    have f2 := free_of hb4 2
    have H1 := Lib.hid (And.intro (H0.out.1.trans hE1) hb4)
    clear hE1 hw0 hb4 t0 t1 t2
    go_wp2
    have hE4 := ext_three H1.out.1 (g := nb + 2) (.inr (by have := H0.out.2.2.2; omega)) (.slice (some ⟨sg, 0, none⟩) D.n sc) (.slice (some ⟨tg, 0, none⟩) D.n tc) (.slice wo D.W.length wc)
    have hE34 := ext_three (Ext.refl [nb + 2] w1) (g := nb + 2) (.inl (by simp)) (.slice (some ⟨sg, 0, none⟩) D.n sc) (.slice (some ⟨tg, 0, none⟩) D.n tc) (.slice wo D.W.length wc)
    refine bodyPost_ret (results_ca Try.results121 _ _ (nb + 2) _ #[.slice (some ⟨sg, 0, none⟩) D.n sc, .slice (some ⟨tg, 0, none⟩) D.n tc, .slice wo D.W.length wc] _ _ _ rfl (tri_set H1.out.2 _ _ _) rfl Try.underlying33 rfl (by kernel_rfl)) rfl ?_
    refine ⟨_, rfl, hE4, (HR.out.ext0 H1.out.1).ext hE34 ?_ ?_⟩
    all_goals
      intro g cur hg hm
      simp at hm
      subst hm
      rw [H1.out.2] at hg
      simp at hg
  · rw [show playOne D ⟨2, a, x⟩ = D.store a x from rfl]
    have HC := Lib.hid (rf_Store _ D a x W0 (HR.out.ext0 H0.out.1) hn)
    generalize D.store a x = R at *
    go_enter Try.func121, Try.ntmps121
    go_wp2_with fail
    refine HC.out.mono ?_
    rintro e w1 ⟨v1, rfl, hE1, hR1⟩
    have hR1' := hR1
    obtain ⟨sg1, sc1, tg1, tc1, wo1, wc1, rfl, _, _, _⟩ := hR1'
    have HR1 := Lib.hid hR1
    have hb4 := hE1.at H0.out.2.1 (by simp)
    obtain ⟨m0, m1, m2⟩ := three hb4
    have f0 := free_of hb4 0
    have f1 := free_of hb4 1
    have f2 := free_of hb4 2
    have H1 := Lib.hid (And.intro (H0.out.1.trans hE1) hb4)
    clear hE1 hR1 hw0 hb4 t0 t1 t2 k0 k1 k2
    go_wp2
    have hE4 := ext_three H1.out.1 (g := nb + 2) (.inr (by have := H0.out.2.2.2; omega)) (.slice (some ⟨sg1, 0, none⟩) R.1.n sc1) (.slice (some ⟨tg1, 0, none⟩) R.1.n tc1) (.slice wo1 R.1.W.length wc1)
    have hE34 := ext_three (Ext.refl [nb + 2] w1) (g := nb + 2) (.inl (by simp)) (.slice (some ⟨sg1, 0, none⟩) R.1.n sc1) (.slice (some ⟨tg1, 0, none⟩) R.1.n tc1) (.slice wo1 R.1.W.length wc1)
    refine bodyPost_ret (results_ca Try.results121 _ _ (nb + 2) _ #[.slice (some ⟨sg1, 0, none⟩) R.1.n sc1, .slice (some ⟨tg1, 0, none⟩) R.1.n tc1, .slice wo1 R.1.W.length wc1] _ _ _ rfl (tri_set H1.out.2 _ _ _) rfl Try.underlying33 rfl (by kernel_rfl)) rfl ?_
    refine ⟨_, rfl, hE4, HR1.out.ext hE34 ?_ ?_⟩
    all_goals
      intro g cur hg hm
      simp at hm
      subst hm
      rw [H1.out.2] at hg
      simp at hg
  · rw [show playOne D ⟨3, a, x⟩ = D.flush a from rfl]
    have HC := Lib.hid (rf_Flush _ D a W0 (HR.out.ext0 H0.out.1) hn)
    generalize D.flush a = R at *
    go_enter Try.func121, Try.ntmps121
    go_wp2_with fail
    refine HC.out.mono ?_
    rintro e w1 ⟨v1, rfl, hE1, hR1⟩
    have hR1' := hR1
    obtain ⟨sg1, sc1, tg1, tc1, wo1, wc1, rfl, _, _, _⟩ := hR1'
    have HR1 := Lib.hid hR1
    have hb4 := hE1.at H0.out.2.1 (by simp)
    obtain ⟨m0, m1, m2⟩ := three hb4
    have f0 := free_of hb4 0
    have f1 := free_of hb4 1
    have f2 := free_of hb4 2
    have H1 := Lib.hid (And.intro (H0.out.1.trans hE1) hb4)
    clear hE1 hR1 hw0 hb4 t0 t1 t2 k0 k1 k2
    go_wp2
    have hE4 := ext_three H1.out.1 (g := nb + 2) (.inr (by have := H0.out.2.2.2; omega)) (.slice (some ⟨sg1, 0, none⟩) R.1.n sc1) (.slice (some ⟨tg1, 0, none⟩) R.1.n tc1) (.slice wo1 R.1.W.length wc1)
    have hE34 := ext_three (Ext.refl [nb + 2] w1) (g := nb + 2) (.inl (by simp)) (.slice (some ⟨sg1, 0, none⟩) R.1.n sc1) (.slice (some ⟨tg1, 0, none⟩) R.1.n tc1) (.slice wo1 R.1.W.length wc1)
    refine bodyPost_ret (results_ca Try.results121 _ _ (nb + 2) _ #[.slice (some ⟨sg1, 0, none⟩) R.1.n sc1, .slice (some ⟨tg1, 0, none⟩) R.1.n tc1, .slice wo1 R.1.W.length wc1] _ _ _ rfl (tri_set H1.out.2 _ _ _) rfl Try.underlying33 rfl (by kernel_rfl)) rfl ?_
    refine ⟨_, rfl, hE4, HR1.out.ext hE34 ?_ ?_⟩
    all_goals
      intro g cur hg hm
      simp at hm
      subst hm
      rw [H1.out.2] at hg
      simp at hg
  · rw [show playOne D ⟨4, a, x⟩ = (D.fence, 0) from rfl]
    have HC := Lib.hid (rf_Fence _ D W0 (HR.out.ext0 H0.out.1) hn)
    generalize D.fence = R at *
    go_enter Try.func121, Try.ntmps121
    go_wp2_with fail
    refine HC.out.mono ?_
    rintro e w1 ⟨v1, rfl, hE1, hR1⟩
    have hR1' := hR1
    obtain ⟨sg1, sc1, tg1, tc1, wo1, wc1, rfl, _, _, _⟩ := hR1'
    have HR1 := Lib.hid hR1
    have hb4 := hE1.at H0.out.2.1 (by simp)
    obtain ⟨m0, m1, m2⟩ := three hb4
    have f0 := free_of hb4 0
    have f1 := free_of hb4 1
    have f2 := free_of hb4 2
    have H1 := Lib.hid (And.intro (H0.out.1.trans hE1) hb4)
    clear hE1 hR1 hw0 hb4 t0 t1 t2 k0 k1 k2
    go_wp2
    have hE4 := ext_three H1.out.1 (g := nb + 2) (.inr (by have := H0.out.2.2.2; omega)) (.slice (some ⟨sg1, 0, none⟩) R.n sc1) (.slice (some ⟨tg1, 0, none⟩) R.n tc1) (.slice wo1 R.W.length wc1)
    have hE34 := ext_three (Ext.refl [nb + 2] w1) (g := nb + 2) (.inl (by simp)) (.slice (some ⟨sg1, 0, none⟩) R.n sc1) (.slice (some ⟨tg1, 0, none⟩) R.n tc1) (.slice wo1 R.W.length wc1)
    refine bodyPost_ret (results_ca Try.results121 _ _ (nb + 2) _ #[.slice (some ⟨sg1, 0, none⟩) R.n sc1, .slice (some ⟨tg1, 0, none⟩) R.n tc1, .slice wo1 R.W.length wc1] _ _ _ rfl (tri_set H1.out.2 _ _ _) rfl Try.underlying33 rfl (by kernel_rfl)) rfl ?_
    refine ⟨_, rfl, hE4, HR1.out.ext hE34 ?_ ?_⟩
    all_goals
      intro g cur hg hm
      simp at hm
      subst hm
      rw [H1.out.2] at hg
      simp at hg

/-- the document's fibre: all touches, how many were done -/
def RFib (w : World) (N : Nat) (v : Value) (L dn : List Tch) : Prop := ∃ ao cap, v = .agg #[.slice ao (dn ++ L).length cap, .int .i64 dn.length] ∧ TcAt w N ao (dn ++ L)
theorem RFib.ext {w w' : World} {N : Nat} {v : Value} {L dn : List Tch} {m : List Nat} (h : RFib w N v L dn) (hE : Ext m w w') (hm : NoTc w N m) : RFib w' N v L dn := by
  obtain ⟨ao, cap, h1, h2⟩ := h
  exact ⟨ao, cap, h1, h2.ext hE hm⟩
theorem RFib.ext0 {w w' : World} {N : Nat} {v : Value} {L dn : List Tch} (h : RFib w N v L dn) (hE : Ext [] w w') : RFib w' N v L dn := h.ext hE (NoTc.nil _ _)
theorem pair' {w : World} {b : Nat} {t : TypeId} {f : Nat × Nat} {v0 v1 : Value} (h : w.heap[b]? = some (.cells #[v0, v1] t f)) :
    w.cell? ⟨b, 0, none⟩ = some v0 ∧ w.cell? ⟨b, 1, none⟩ = some v1 := ⟨cell_of h rfl, cell_of h rfl⟩
set_option maxRecDepth 100000 in
set_option maxHeartbeats 1000000 in
theorem rf_fSame (N : Nat) (u v : Value) (L1 d1 L2 d2 : List Tch) (w : World) (h1 : RFib w N u L1 d1) (h2 : RFib w N v L2 d2) (l1 : (d1 ++ L1).length ≤ 1000000) (l2 : (d2 ++ L2).length ≤ 1000000) :
    Calls Try.prog 47 #[u, v] w fun e w' => e = .returned (.bool (decide (d1 = d2) && decide (L1 = L2))) ∧ Ext [] w w' := by
  obtain ⟨ao, ac, rfl, hA⟩ := h1
  obtain ⟨bo, bc, rfl, hB⟩ := h2
  obtain ⟨A, hAA⟩ : ∃ A, d1 ++ L1 = A := ⟨_, rfl⟩
  obtain ⟨B, hBB⟩ : ∃ B, d2 ++ L2 = B := ⟨_, rfl⟩
  have HEQ : Hid ((decide (d1 = d2) && decide (L1 = L2)) = (((d1.length : Int) == (d2.length : Int)) && decide (A = B))) := by
    unfold Hid
    rw [← hAA, ← hBB]
    by_cases hl : d1.length = d2.length
    · have e1 : ((d1.length : Int) == (d2.length : Int)) = true := by rw [hl]; simp
      rw [e1, Bool.true_and, Bool.eq_iff_iff]
      simp only [Bool.and_eq_true, decide_eq_true_eq]
      constructor
      · rintro ⟨h1, h2⟩; rw [h1, h2]
      · intro h; exact List.append_inj h hl
    · have e1 : ((d1.length : Int) == (d2.length : Int)) = false := by simp; omega
      rw [e1, Bool.false_and, decide_eq_false (fun h => hl (by rw [h])), Bool.false_and]
  rw [HEQ.out, hAA, hBB]
  rw [hAA] at hA l1
  rw [hBB] at hB l2
  obtain ⟨w0, hw0⟩ : ∃ w0, (w.alloc (.cells #[.slice ao A.length ac, .int .i64 d1.length] 96)).alloc (.cells #[.slice bo B.length bc, .int .i64 d2.length] 96) = w0 := ⟨_, rfl⟩
  have hE0 : Ext [] w w0 := by rw [← hw0]; exact ((Ext.refl [] w).alloc _).alloc _
  obtain ⟨hb1, hb2, hs0⟩ := al2_heap (w := w) #[.slice ao A.length ac, .int .i64 d1.length] #[.slice bo B.length bc, .int .i64 d2.length] 96 96
  rw [hw0] at hb1 hb2
  obtain ⟨k0, k1⟩ := pair' hb1
  obtain ⟨q0, q1⟩ := pair' hb2
  have HS := Lib.hid (ts_Same N N ao bo ac bc A B w0 (hA.ext0 hE0) (hB.ext0 hE0) (by omega) (by omega))
  have H0 := Lib.hid hE0
  clear hE0 hb1 hb2 hs0 hA hB l1 l2 hAA hBB HEQ
  generalize decide (A = B) = c at *
  generalize A.length = nA at *
  generalize B.length = nB at *
  cases hc : ((d1.length : Int) == (d2.length : Int)) with
  | true =>
    go_enter Try.func47, Try.ntmps47
    go_wp2_with fail
    refine HS.out.mono ?_
    rintro e w1 ⟨rfl, q, hq⟩
    have hE1 : Ext [] w0 w1 := hq ▸ (Ext.refl _ _).drewN _
    clear hq
    go_wp2
    go_ret
    exact ⟨rfl, H0.out.trans hE1⟩
  | false =>
    go_enter Try.func47, Try.ntmps47
    go_wp2
    go_ret
    exact ⟨rfl, H0.out⟩
end Go.Proofs.Ytfojmjkcjdehaaa
namespace Go.Proofs.Ytfojmjkcjdehaaa
open Go Go.RowKit Go.Shelf
attribute [local go_sem] Oper.semAt_some

theorem results_ccct {P : Program} {fn : Func} {p q r s : Tmp} {ty1 ty2 ty3 : TypeId} (h : fn.results = #[.cell p ty1, .cell q ty2, .cell r ty3, .tmp s]) (tmps : Array Value) (w : World) (g1 g2 g3 : Nat) (t1 t2 t3 : TypeId) (c1 c2 c3 : Array Value) (fr1 fr2 fr3 : Nat × Nat) (d1 d2 d3 : TypeDesc) (u : Value)
    (hp : tmps.getD p undef = .pointer (some ⟨g1, 0, none⟩)) (hq : tmps.getD q undef = .pointer (some ⟨g2, 0, none⟩)) (hr : tmps.getD r undef = .pointer (some ⟨g3, 0, none⟩)) (hs : tmps.getD s undef = u)
    (hg1 : w.heap[g1]? = some (.cells c1 t1 fr1)) (hg2 : w.heap[g2]? = some (.cells c2 t2 fr2)) (hg3 : w.heap[g3]? = some (.cells c3 t3 fr3))
    (hu1 : P.underlying ty1 = some d1) (hd1 : (match d1 with | .struct _ | .array _ _ => true | _ => false) = true) (hi1 : (P.info? ty1).map (·.size) = some c1.size)
    (hu2 : P.underlying ty2 = some d2) (hd2 : (match d2 with | .struct _ | .array _ _ => true | _ => false) = true) (hi2 : (P.info? ty2).map (·.size) = some c2.size)
    (hu3 : P.underlying ty3 = some d3) (hd3 : (match d3 with | .struct _ | .array _ _ => true | _ => false) = true) (hi3 : (P.info? ty3).map (·.size) = some c3.size) :
    (results fn tmps).run P w = .ok (.tuple #[.agg c1, .agg c2, .agg c3, u]) w := by
  have hp' : tmps[p]?.getD undef = .pointer (some ⟨g1, 0, none⟩) := by simpa using hp
  have hq' : tmps[q]?.getD undef = .pointer (some ⟨g2, 0, none⟩) := by simpa using hq
  have hr' : tmps[r]?.getD undef = .pointer (some ⟨g3, 0, none⟩) := by simpa using hr
  have hs' : tmps[s]?.getD undef = u := by simpa using hs
  simp [results, h, hp', hq', hr', hs', asAddr, run_loadVar_row w g1 t1 ty1 c1 fr1 d1 hg1 hu1 hd1 hi1, run_loadVar_row w g2 t2 ty2 c2 fr2 d2 hg2 hu2 hd2 hi2, run_loadVar_row w g3 t3 ty3 c3 fr3 d3 hg3 hu3 hd3 hi3]

theorem wpTl_go {P : Program} {ops : Array Oper} {Q : Exit → Act → World → Prop} {S : World → Prop} {o : Oper} {rest : List Oper} {a : Act} {w : World} (hg : o.guard = none)
    (h : ∀ K : Act → World → Prop, (∀ a' w', S w' → wpTl P ops S Q rest a' w' → K a' w') → o.wp P a w K Q) : wpTl P ops S Q (o :: rest) a w := wpTl_step (by simp [Region.wanted, hg]) h
/-- the blocks of the document's Step -/
structure StB (w W : World) (nb : Nat) (fs ds : Array Value) : Prop where
  ext : Ext [] w W
  size : w.heap.size = nb
  b0 : W.heap[nb]? = some (.cells fs 96 (0, 0))
  b1 : W.heap[nb + 1]? = some (.cells ds 33 (0, 0))
  b2 : W.heap[nb + 2]? = some (.cells #[.slice none 0 0, .int .i64 0] 96 (0, 0))
  b3 : W.heap[nb + 3]? = some (.cells #[.slice none 0 0, .slice none 0 0, .slice none 0 0] 33 (0, 0))
  b4 : W.heap[nb + 4]? = some (.cells #[.int .i64 0, .int .i64 0, .int .u64 0] 82 (0, 0))
theorem StB.ext1 {w W W' : World} {nb : Nat} {fs ds : Array Value} {m : List Nat} (h : StB w W nb fs ds) (hE : Ext m W W') (hm : ∀ q, q ∈ m → nb + 5 ≤ q) : StB w W' nb fs ds := by
  have key : ∀ k, k < nb + 5 → k ∉ m := fun k hk hq => by have := hm _ hq; omega
  exact ⟨h.ext.trans' hE (fun q hq => .inr (by have := hm q hq; have := h.size; omega)), h.size, hE.at h.b0 (key _ (by omega)), hE.at h.b1 (key _ (by omega)), hE.at h.b2 (key _ (by omega)), hE.at h.b3 (key _ (by omega)), hE.at h.b4 (key _ (by omega))⟩
theorem StB.ext0 {w W W' : World} {nb : Nat} {fs ds : Array Value} (h : StB w W nb fs ds) (hE : Ext [] W W') : StB w W' nb fs ds := h.ext1 hE (fun _ hq => by cases hq)
theorem StB.lt {w W : World} {nb : Nat} {fs ds : Array Value} (h : StB w W nb fs ds) : nb + 5 ≤ W.heap.size := lt_of_block h.b4
theorem StB.start {w : World} (fs ds : Array Value) : StB w (((((w.alloc (.cells fs 96)).alloc (.cells ds 33)).alloc (.cells #[.slice none 0 0, .int .i64 0] 96)).alloc (.cells #[.slice none 0 0, .slice none 0 0, .slice none 0 0] 33)).alloc (.cells #[.int .i64 0, .int .i64 0, .int .u64 0] 82)) w.heap.size fs ds := by
  obtain ⟨h1, h2, h3, h4, hs⟩ := al4_heap (w := w) fs ds #[.slice none 0 0, .int .i64 0] #[.slice none 0 0, .slice none 0 0, .slice none 0 0] 96 33 96 33
  refine ⟨(((((Ext.refl [] w).alloc _).alloc _).alloc _).alloc _).alloc _, rfl, block_al h1, block_al h2, block_al h3, block_al h4, ?_⟩
  have := World.alloc_heap_new ((((w.alloc (.cells fs 96)).alloc (.cells ds 33)).alloc (.cells #[.slice none 0 0, .int .i64 0] 96)).alloc (.cells #[.slice none 0 0, .slice none 0 0, .slice none 0 0] 33)) (.cells #[.int .i64 0, .int .i64 0, .int .u64 0] 82)
  rwa [hs] at this
/-- the answers are laid -/
theorem StB.ret {w W : World} {nb : Nat} {fs ds : Array Value} (h : StB w W nb fs ds) (x y a b c p q r : Value) (W9 : World) (hW9 : World.drew ((((((((W.setCell ⟨nb + 2, 0, none⟩ x).setCell ⟨nb + 2, 1, none⟩ y).setCell ⟨nb + 3, 0, none⟩ a).setCell ⟨nb + 3, 1, none⟩ b).setCell ⟨nb + 3, 2, none⟩ c).setCell ⟨nb + 4, 0, none⟩ p).setCell ⟨nb + 4, 1, none⟩ q).setCell ⟨nb + 4, 2, none⟩ r) = W9) :
    W9.heap[nb + 2]? = some (.cells #[x, y] 96 (0, 0)) ∧ W9.heap[nb + 3]? = some (.cells #[a, b, c] 33 (0, 0)) ∧ W9.heap[nb + 4]? = some (.cells #[p, q, r] 82 (0, 0)) ∧ Ext [] w W9 ∧ Ext [nb + 2, nb + 3, nb + 4] W W9 := by
  obtain ⟨W', hW'⟩ : ∃ W', W' = (((((((W.setCell ⟨nb + 2, 0, none⟩ x).setCell ⟨nb + 2, 1, none⟩ y).setCell ⟨nb + 3, 0, none⟩ a).setCell ⟨nb + 3, 1, none⟩ b).setCell ⟨nb + 3, 2, none⟩ c).setCell ⟨nb + 4, 0, none⟩ p).setCell ⟨nb + 4, 1, none⟩ q).setCell ⟨nb + 4, 2, none⟩ r := ⟨_, rfl⟩
  rw [← hW'] at hW9
  have n1 : nb + 2 ≠ nb + 3 := by omega
  have n2 : nb + 2 ≠ nb + 4 := by omega
  have n3 : nb + 3 ≠ nb + 4 := by omega
  obtain ⟨A, hA⟩ : ∃ A, (W.setCell ⟨nb + 2, 0, none⟩ x).setCell ⟨nb + 2, 1, none⟩ y = A := ⟨_, rfl⟩
  rw [hA] at hW'
  have a2 : A.heap[nb + 2]? = some (.cells #[x, y] 96 (0, 0)) := by rw [← hA]; exact pair_set1 (pair_set0 h.b2)
  have a3 : A.heap[nb + 3]? = some (.cells #[.slice none 0 0, .slice none 0 0, .slice none 0 0] 33 (0, 0)) := by rw [← hA]; exact block_sc (a := ⟨nb + 2, 1, none⟩) n1.symm (block_sc (a := ⟨nb + 2, 0, none⟩) n1.symm h.b3)
  have a4 : A.heap[nb + 4]? = some (.cells #[.int .i64 0, .int .i64 0, .int .u64 0] 82 (0, 0)) := by rw [← hA]; exact block_sc (a := ⟨nb + 2, 1, none⟩) n2.symm (block_sc (a := ⟨nb + 2, 0, none⟩) n2.symm h.b4)
  have eA : Ext [nb + 2, nb + 3, nb + 4] W A := by rw [← hA]; exact ((Ext.refl _ W).setCell (p := ⟨nb + 2, 0, none⟩) (.inl (by simp)) _).setCell (p := ⟨nb + 2, 1, none⟩) (.inl (by simp)) _
  clear hA
  obtain ⟨B, hB⟩ : ∃ B, ((A.setCell ⟨nb + 3, 0, none⟩ a).setCell ⟨nb + 3, 1, none⟩ b).setCell ⟨nb + 3, 2, none⟩ c = B := ⟨_, rfl⟩
  rw [hB] at hW'
  have b2 : B.heap[nb + 2]? = some (.cells #[x, y] 96 (0, 0)) := by rw [← hB]; exact block_sc (a := ⟨nb + 3, 2, none⟩) n1 (block_sc (a := ⟨nb + 3, 1, none⟩) n1 (block_sc (a := ⟨nb + 3, 0, none⟩) n1 a2))
  have b3 : B.heap[nb + 3]? = some (.cells #[a, b, c] 33 (0, 0)) := by rw [← hB]; exact tri_set a3 a b c
  have b4 : B.heap[nb + 4]? = some (.cells #[.int .i64 0, .int .i64 0, .int .u64 0] 82 (0, 0)) := by rw [← hB]; exact block_sc (a := ⟨nb + 3, 2, none⟩) n3.symm (block_sc (a := ⟨nb + 3, 1, none⟩) n3.symm (block_sc (a := ⟨nb + 3, 0, none⟩) n3.symm a4))
  have eB : Ext [nb + 2, nb + 3, nb + 4] W B := by rw [← hB]; exact ext_three eA (g := nb + 3) (.inl (by simp)) a b c
  clear hB a2 a3 a4 eA
  have c2 : W'.heap[nb + 2]? = some (.cells #[x, y] 96 (0, 0)) := by rw [hW']; exact block_sc (a := ⟨nb + 4, 2, none⟩) n2 (block_sc (a := ⟨nb + 4, 1, none⟩) n2 (block_sc (a := ⟨nb + 4, 0, none⟩) n2 b2))
  have c3 : W'.heap[nb + 3]? = some (.cells #[a, b, c] 33 (0, 0)) := by rw [hW']; exact block_sc (a := ⟨nb + 4, 2, none⟩) n3 (block_sc (a := ⟨nb + 4, 1, none⟩) n3 (block_sc (a := ⟨nb + 4, 0, none⟩) n3 b3))
  have c4 : W'.heap[nb + 4]? = some (.cells #[p, q, r] 82 (0, 0)) := by rw [hW']; exact tri_set b4 p q r
  have e : Ext [nb + 2, nb + 3, nb + 4] W W' := by rw [hW']; exact ext_three eB (g := nb + 4) (.inl (by simp)) p q r
  clear hW'
  subst hW9
  exact ⟨c2, c3, c4, (h.ext.trans' e (fun j hj => .inr (by have := h.size; simp at hj; omega))).drew, e.drew⟩
theorem NoT.three {w W : World} {nb : Nat} {fs ds : Array Value} (h : StB w W nb fs ds) {v : Value} {D : Dv} (hR : RefAt W v D) {W' : World} (hE : Ext [nb + 2, nb + 3, nb + 4] W W') : RefAt W' v D := by
  refine hR.ext hE ?_ ?_
  all_goals
    intro g cur hg hm
    simp at hm
    rcases hm with rfl | rfl | rfl
    · rw [h.b2] at hg; simp at hg
    · rw [h.b3] at hg; simp at hg
    · rw [h.b4] at hg; simp at hg
theorem fstep_ok {D : Dv} {t : Tch} {r dn : List Tch} (ht : t.right = true) {t' : Tch} (h0 : (playOne D t).2 = 0) (hs : stepT D t = t') : fstep (t :: r) dn D = ⟨t', 0, r, dn ++ [t'], (playOne D t).1⟩ := by
  have hc : tcheck [t] = 0 := tcheck_of (fun s hs => by rw [List.mem_singleton.1 hs]; exact ht) (by simp)
  have hp : playE D [t] = 0 := by
    unfold playE
    rw [if_pos hc]
    unfold playL
    rw [if_pos h0]
    rfl
  have hd := (playE_zero hp).1
  have hf : fstep (t :: r) dn D = ⟨stepT D t, 0, r, dn ++ [stepT D t], playD D [t]⟩ := if_pos hp
  rw [hf, hs, hd]
theorem fstep_bad {D : Dv} {t : Tch} {r dn : List Tch} (ht : t.right = true) (h0 : (playOne D t).2 ≠ 0) : fstep (t :: r) dn D = ⟨tch0, (playOne D t).2, t :: r, dn, D⟩ := by
  have hc : tcheck [t] = 0 := tcheck_of (fun s hs => by rw [List.mem_singleton.1 hs]; exact ht) (by simp)
  have hp : playE D [t] = (playOne D t).2 := by
    unfold playE
    rw [if_pos hc]
    unfold playL
    rw [if_neg h0]
  have hf : fstep (t :: r) dn D = ⟨tch0, playE D [t], t :: r, dn, playD D [t]⟩ := if_neg (fun h => h0 (hp ▸ h))
  rw [hf, playD_stuck (fun h => h0 (hp ▸ h)), hp]
theorem getD_mid (dn r : List Tch) (t : Tch) : (dn ++ t :: r).getD dn.length tch0 = t := by
  rw [List.getD_eq_getElem?_getD, List.getElem?_append_right (Nat.le_refl _), Nat.sub_self]
  rfl
theorem set_mid (dn r : List Tch) (t u : Tch) : (dn ++ t :: r).set dn.length u = (dn ++ [u]) ++ r := by
  rw [List.set_append_right _ _ (Nat.le_refl _), Nat.sub_self]
  simp
theorem cell_setS {w : World} {p : Addr} {v u : Value} (h : w.cell? p = some u) : (w.setCell p v).cell? p = some v := World.cell?_setCell_same' w p v (by rw [h]; rfl)
theorem TcAt.extB {w w' : World} {N : Nat} {p : Addr} {L : List Tch} {m : List Nat} (h : TcAt w N (some p) L) (hE : Ext m w w') (hp : p.block ∉ m) : TcAt w' N (some p) L :=
  ⟨h.1.ext (tR_ok _ _) hE (fun q hq => by cases hq; exact hp), h.2.imp id (fun h2 q hq => by cases hq; exact ⟨Nat.lt_of_lt_of_le (h2 p rfl).1 hE.size, (h2 p rfl).2.imp id (fun ⟨cur, hb⟩ => ⟨cur, hE.at hb hp⟩)⟩)⟩
theorem TcOwn.box {w : World} {base N : Nat} {v : Value} {L : List Tch} (h : TcOwn w base v L) (hl : 0 < L.length) : ∃ g c, v = .slice (some ⟨g, 0, none⟩) L.length c ∧ ((∃ cur, w.heap[g]? = some (.cells cur 82 (0, 0))) ∧ base ≤ g) ∧ TcAt w N (some ⟨g, 0, none⟩) L := by
  obtain ⟨ao, cap, hv, hT, _, _⟩ := h.at (N := N)
  rcases h.2 with ⟨_, h0⟩ | ⟨g, c, cur, h1, h2, h3, _⟩
  · omega
  · rw [h1] at hv
    injection hv with e1 e2 e3
    subst e1
    exact ⟨g, c, h1, ⟨⟨cur, h3⟩, h2⟩, hT⟩
/-- a touch is laid in a list of one's own -/
theorem TcAt.set3 {w : World} {N g m : Nat} {L : List Tch} (h : TcAt w N (some ⟨g, 0, none⟩) L) {cur : Array Value} (hg : w.heap[g]? = some (.cells cur 82 (0, 0))) (hm : m < L.length) (t : Tch) (W' : World)
    (hW : W' = ((w.setCell ⟨g, m * 3, none⟩ (.int .i64 t.kd)).setCell ⟨g, m * 3 + 1, none⟩ (.int .i64 t.at')).setCell ⟨g, m * 3 + 2, none⟩ (.int .u64 t.wd)) : TcAt W' N (some ⟨g, 0, none⟩) (L.set m t) ∧ Ext [g] w W' := by
  have hE : Ext [g] w W' := by
    rw [hW]
    exact (((Ext.refl [g] w).setCell (p := ⟨g, m * 3, none⟩) (.inl (by simp)) _).setCell (p := ⟨g, m * 3 + 1, none⟩) (.inl (by simp)) _).setCell (p := ⟨g, m * 3 + 2, none⟩) (.inl (by simp)) _
  have hb : ∃ cur', W'.heap[g]? = some (.cells cur' 82 (0, 0)) := by
    rw [hW]
    exact ⟨_, block_set (block_set (block_set hg _) _) _⟩
  have hc : ∀ i, i < L.length → ∃ v0 v1 v2, (w.cell? ⟨g, i * 3, none⟩ = some v0 ∧ w.cell? ⟨g, i * 3 + 1, none⟩ = some v1 ∧ w.cell? ⟨g, i * 3 + 2, none⟩ = some v2) ∧ v0 = .int .i64 (L.getD i tch0).kd ∧ v1 = .int .i64 (L.getD i tch0).at' ∧ v2 = .int .u64 (L.getD i tch0).wd := by
    intro i hi
    obtain ⟨b, off, hbo, q0, q1, q2⟩ := h.cells hi
    simp at hbo
    obtain ⟨rfl, rfl⟩ := hbo
    rw [Nat.zero_add] at q0 q1 q2
    exact ⟨_, _, _, ⟨q0, q1, q2⟩, rfl, rfl, rfl⟩
  have key : ∀ i, i < L.length → W'.cell? ⟨g, i * 3, none⟩ = some (.int .i64 ((L.set m t).getD i tch0).kd) ∧ W'.cell? ⟨g, i * 3 + 1, none⟩ = some (.int .i64 ((L.set m t).getD i tch0).at') ∧ W'.cell? ⟨g, i * 3 + 2, none⟩ = some (.int .u64 ((L.set m t).getD i tch0).wd) := by
    intro i hi
    obtain ⟨v0, v1, v2, ⟨q0, q1, q2⟩, e0, e1, e2⟩ := hc i hi
    by_cases him : m = i
    · subst him
      have hset : (L.set m t).getD m tch0 = t := by rw [List.getD_eq_getElem?_getD, List.getElem?_set_self hm]; rfl
      rw [hset, hW]
      refine ⟨cell_setO (cell_setO (cell_setS q0) (by simp)) (by simp), cell_setO (cell_setS (cell_setO q1 (by simp))) (by simp), cell_setS (cell_setO (cell_setO q2 (by simp)) (by simp))⟩
    · have hset : (L.set m t).getD i tch0 = L.getD i tch0 := by rw [List.getD_eq_getElem?_getD, List.getElem?_set_ne him, ← List.getD_eq_getElem?_getD]
      rw [hset, hW, ← e0, ← e1, ← e2]
      refine ⟨cell_setO (cell_setO (cell_setO q0 (by first | (simp; done) | (simp; omega))) (by first | (simp; done) | (simp; omega))) (by first | (simp; done) | (simp; omega)), cell_setO (cell_setO (cell_setO q1 (by first | (simp; done) | (simp; omega))) (by first | (simp; done) | (simp; omega))) (by first | (simp; done) | (simp; omega)), cell_setO (cell_setO (cell_setO q2 (by first | (simp; done) | (simp; omega))) (by first | (simp; done) | (simp; omega))) (by first | (simp; done) | (simp; omega))⟩
  refine ⟨⟨.inr ⟨g, 0, rfl, fun i hi j hj => ?_⟩, .inr fun p hp => ?_⟩, hE⟩
  · rw [List.length_set] at hi
    obtain ⟨q0, q1, q2⟩ := key i hi
    rw [Nat.zero_add]
    match j, hj with
    | 0, _ => exact q0
    | 1, _ => exact q1
    | 2, _ => exact q2
  · cases hp
    obtain ⟨cur', hb⟩ := hb
    exact ⟨lt_of_block hb, .inr ⟨cur', hb⟩⟩
end Go.Proofs.Ytfojmjkcjdehaaa
