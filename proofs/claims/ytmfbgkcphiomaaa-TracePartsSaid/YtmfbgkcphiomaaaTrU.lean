/- TraceStores: the walk. -/
import Derived.Test.YtmfbgkcphiomaaaTrR
import Derived.Test.YtmfbgkcphiomaaaCnt
import Derived.Test.YtmfbgkcphiomaaaTcO
import Derived.LoopN
import Derived.Deep.CutRange
namespace Go.Proofs.Ytmfbgkcphiomaaa
open Go Go.RowKit Go.Shelf
attribute [local go_sem] Oper.semAt_some

theorem putsL_nil : putsL [] = [] := by
  have h : (putsL []).length ≤ 0 := putsL_le (L := []) (fun t ht => by cases ht)
  exact List.eq_nil_of_length_eq_zero (by omega)
set_option maxRecDepth 100000 in
theorem nePutB (x y x' y' : Int) (w : World) : (binOp .neq 41 (.agg #[.int .i64 x, .int .u64 y]) (.agg #[.int .i64 x', .int .u64 y'])).run Try.prog w = .ok (.bool (!(x == x' && y == y'))) w := by
  rw [run_neq_struct, run_equalIn_struct w 9999 41 _ _ (by kernel_rfl) (by kernel_rfl)]
  obtain ⟨f, g, h, hf⟩ : ∃ f g : Field, (f.type = 3 ∧ f.offset = 0 ∧ (f.name == "_") = false ∧ g.type = 39 ∧ g.offset = 1 ∧ (g.name == "_") = false) ∧ (Try.prog.fieldsOf 41).toList = [f, g] := ⟨_, _, ⟨rfl, rfl, rfl, rfl, rfl, rfl⟩, rfl⟩
  obtain ⟨h1, h2, h3, h4, h5, h6⟩ := h
  rw [beq_eq_false_iff_ne] at h3 h6
  rw [hf]
  simp only [Op.eqFields, ne_eq, h3, h6, not_false_eq_true, if_true, h1, h2, h4, h5, Sem.run_bind, Sem.run_pure, part, isAgg, run_underlying Try.underlying3, Result.andThen_ok]
  by_cases hx : x = x' <;> by_cases hy : y = y' <;> simp [hx, hy, run_equalIn_int w 9998 3 .i64 _ _ _ Try.underlying3, run_equalIn_int w 9998 39 .u64 _ _ _ Try.underlying39]
theorem nePutSelf (x y : Int) (w : World) : (binOp .neq 41 (.agg #[.int .i64 x, .int .u64 y]) (.agg #[.int .i64 x, .int .u64 y])).run Try.prog w = .ok (.bool false) w := by
  have := nePutB x y x y w
  simpa using this

/-- what the law has set up: b3: so many; b4: the answer; b5: what is wanted; the iterator's source -/
structure StS (w W : World) (b : Nat) (many : Int) (bo : Option Addr) (bcap : Nat) (P : List (Int × Int)) : Prop where
  ex : Ext [] w W
  h3 : W.heap[b]? = some (.cells #[.int .i64 many] 3 (0, 0))
  h4 : W.heap[b + 1]? = some (.cells #[.bool false] 4 (0, 0))
  h5 : W.heap[b + 2]? = some (.cells #[.slice bo P.length bcap] 34 (0, 0))
  rows : RowAt W bo P.length 2 (pR P)
theorem StS.ext0 {w W W' : World} {b : Nat} {many : Int} {bo : Option Addr} {bcap : Nat} {P : List (Int × Int)} (h : StS w W b many bo bcap P) (hE : Ext [] W W') : StS w W' b many bo bcap P :=
  ⟨h.ex.trans hE, hE.at h.h3 (by simp), hE.at h.h4 (by simp), hE.at h.h5 (by simp), h.rows.ext (pR_ok _ _) hE (fun _ _ => by simp)⟩

set_option maxRecDepth 100000 in
set_option maxHeartbeats 20000000 in
theorem tr_lawstores (ao : Option Addr) (cap : Nat) (L : List Tch) (many : Int) (w : World) (hp : TcAt w w.heap.size ao L) (_ : L.length ≤ maxLen) :
    Calls Try.prog 4 #[.slice ao L.length cap, .int .i64 many] w fun e w' => e = .returned (.bool true) ∧ Ext [] w w' := by
  obtain ⟨w0, hw0⟩ : ∃ w0, (w.alloc (.cells #[.int .i64 many] 3)).alloc (.cells #[.bool false] 4) = w0 := ⟨_, rfl⟩
  obtain ⟨b, hb⟩ : ∃ b, w.heap.size = b := ⟨_, rfl⟩
  have hE0 : Ext [] w w0 := by rw [← hw0]; exact ((Ext.refl _ _).alloc _).alloc _
  have hb3 : w0.heap[b]? = some (.cells #[.int .i64 many] 3 (0, 0)) := by rw [← hw0, ← hb]; exact block_al (World.alloc_heap_new _ _)
  have hb4 : w0.heap[b + 1]? = some (.cells #[.bool false] 4 (0, 0)) := by
    rw [← hw0, ← hb]; have := World.alloc_heap_new (w.alloc (.cells #[.int .i64 many] 3)) (.cells #[.bool false] 4); rwa [World.size_alloc] at this
  have hs0 : w0.heap.size = b + 2 := by rw [← hw0, ← hb]; simp
  have H0 := Lib.hid (And.intro hE0 (And.intro hb3 (And.intro hb4 (And.intro hs0 hb))))
  have fin : Hid (∀ (Ds : List Nat) (W : World), (∀ D ∈ Ds, W.heap[D]? = some (.deferred (some [])) ∧ b + 1 < D) → Ds.Nodup → W.heap[b + 1]? = some (.cells #[.bool false] 4 (0, 0)) → Ext [] w W → ∀ tmps : Array Value, tmps.getD 4 undef = .pointer (some ⟨b + 1, 0, none⟩) →
      LeavesInM Fence.wide 0 Try.prog Try.f4 tmps (fun e w' => e = .returned (.bool true) ∧ Ext [] w w') (Ds.map fun D => { target := .collected D, args := #[] }) .returning (W.setCell ⟨b + 1, 0, none⟩ (.bool true))) := by
    intro Ds W hD hnd hbb hE tmps ht
    obtain ⟨W5, hW5⟩ : ∃ W5, W5 = W.setCell ⟨b + 1, 0, none⟩ (.bool true) := ⟨_, rfl⟩
    have b5 : W5.heap[b + 1]? = some (.cells #[.bool true] 4 (0, 0)) := by rw [hW5]; exact cell1_set hbb _
    have e5 : Ext [] w W5 := by rw [hW5]; exact hE.setCell (.inr (by simp; omega)) _
    have d5 : ∀ D ∈ Ds, W5.heap[D]? = some (.deferred (some [])) := fun D hd => by rw [hW5]; exact block_sc (show D ≠ b + 1 by have := (hD D hd).2; omega) (hD D hd).1
    rw [← hW5]
    exact leaves_marks (v := .bool true) Ds W5 d5 hnd (fun w' hE' => ⟨results_cellb Try.results4 _ _ ⟨b + 1, 0, none⟩ _ (by kernel_rfl) ht (hE'.cell (cell_of (j := 0) b5 rfl) (fun hm => by have := (hD _ hm).2; simp at this)), rfl, e5.trans' hE' (fun j hj => .inr (by have := (hD j hj).2; omega))⟩)
  refine (callsIn_wide (n := 0)).1 (callsIn_of_wp_marks Try.func4 rfl trivial ?_ rfl)
  simp only [Try.ntmps4, List.size_toArray, List.length_cons, List.length_nil, Nat.reduceAdd, Nat.reduceSub, Array.replicate_succ, Array.replicate_zero, List.push_toArray, List.append_toArray, List.nil_append, List.cons_append]
  refine wpIn_wide.2 (wp_mono (Q := NoPanic (bodyPostM Fence.wide 0 Try.prog Try.f4 fun e w' => e = .returned (.bool true) ∧ Ext [] w w')) ?_ NoPanic.out)
  by_cases hbig : 60 < L.length
  · have hd : ((60 : Int) < ((L.length : Nat) : Int)) := by omega
    generalize L.length = n at *
    have f4 := free_of hb4 0
    clear hp hbig hE0 hb3 hb4 hs0
    go_wp2_with fail
    try rw [hw0]
    try rw [hb]
    clear hw0 hb
    refine (law05_works _).mono ?_
    rintro e w1 ⟨rfl, hE⟩
    have hb1 := hE.at H0.out.2.2.1 (by simp)
    have k1 := cell_of (j := 0) (v := .bool false) hb1 rfl
    have f1 := free_of hb1 0
    have H1 := Lib.hid (And.intro hb1 (H0.out.1.trans hE))
    clear hb1 hE
    go_wp2
    show LeavesInM _ _ _ _ _ _ _ _ _
    exact fin.out [] w1 (fun D hD => by cases hD) List.nodup_nil H1.out.1 H1.out.2 _ rfl
  have hd : ¬ ((60 : Int) < ((L.length : Nat) : Int)) := by omega
  have hn : L.length ≤ 60 := by omega
  have HT := Lib.hid (fun W (hE : Ext [] w W) => ts_Check w.heap.size ao cap L W (hp.ext0 hE) (by omega))
  have HST := Lib.hid (fun W (hE : Ext [] w W) => tr_Stores w.heap.size ao cap L W (hp.ext0 hE) (by omega))
  have HTS := Lib.hid (fun hr W (hE : Ext [] w W) => ts_Stores w.heap.size ao cap L W (hp.ext0 hE) (by omega) hr)
  have hcz : tcheck L = 0 → ∀ t ∈ L, t.right = true := fun h => (tcheck_zero h).1
  have hpl : (putsL (stL L)).length ≤ 60 := by
    unfold stL
    split
    · rename_i h
      exact Nat.le_trans (putsL_le (hcz h)) hn
    · rw [putsL_nil]; simp
  have hst : putsL (stL L) = if tcheck L = 0 then putsL L else [] := by
    unfold stL
    split
    · rfl
    · exact putsL_nil
  obtain ⟨P, hP⟩ : ∃ P, putsL (stL L) = P := ⟨_, rfl⟩
  rw [hP] at HST hpl hst
  have HPL := Lib.hid (And.intro hpl hst)
  have HCZ := Lib.hid hcz
  obtain ⟨c, hcc⟩ : ∃ c, tcheck L = c := ⟨_, rfl⟩
  rw [hcc] at HT HPL HCZ
  generalize L.length = n at *
  clear hp hbig hn hcz hpl hst hP hcc hE0 hb3 hb4 hs0
  obtain ⟨w1, hw1⟩ : ∃ w1, w0.alloc (.cells #[.slice none 0 0] 34) = w1 := ⟨_, rfl⟩
  have HE1 : Hid (Ext [] w0 w1) := by rw [← hw1]; exact (Ext.refl _ _).alloc _
  have HB1 : Hid (w1.heap[b + 2]? = some (.cells #[.slice none 0 0] 34 (0, 0))) := by rw [← hw1, show b + 2 = w0.heap.size from H0.out.2.2.2.1.symm]; exact World.alloc_heap_new _ _
  have hs0 := H0.out.2.2.2.1
  go_wp2_with fail
  try rw [hw0]
  try rw [hs0]
  try rw [hw1]
  try rw [hb]
  clear hw0 hw1 hs0
  refine (HT.out _ (H0.out.1.trans HE1.out)).mono ?_
  rintro e w2 ⟨rfl, hE2⟩
  have hb2 := hE2.at HB1.out (by simp)
  have H2 := Lib.hid (And.intro (HE1.out.trans hE2) hb2)
  have k2 := cell_of (j := 0) (v := .slice none 0 0) hb2 rfl
  have f2 := free_of hb2 0
  clear hE2 hb2
  by_cases hc : c = 0
  · subst hc
    have hPL : P = putsL L := by have := HPL.out.2; rwa [if_pos rfl] at this
    have HTS2 := Lib.hid (fun W (hE : Ext [] w W) => HTS.out (HCZ.out rfl) W hE)
    have HPE := Lib.hid hPL
    clear hPL k2 f2
    go_wp2_with fail
    refine (HTS2.out _ (H0.out.1.trans H2.out.1)).mono ?_
    rintro e w3 ⟨v, rfl, hO, hE3⟩
    rw [← HPE.out] at hO
    obtain ⟨bo, bcap, rfl, hR, hbo⟩ := hO.at
    have hb3 := hE3.at H2.out.2 (by simp)
    have k3 := cell_of (j := 0) (v := .slice none 0 0) hb3 rfl
    have f3 := free_of hb3 0
    obtain ⟨W5, hW5⟩ : ∃ W5, w3.setCell ⟨b + 2, 0, none⟩ (.slice bo P.length bcap) = W5 := ⟨_, rfl⟩
    have HS : Hid (StS w W5 b many bo bcap P) := by
      have e1 := H2.out.1.trans hE3
      have hlt2 := lt_of_block H2.out.2
      have e2 : Ext [b + 2] w3 W5 := by rw [← hW5]; exact (Ext.refl _ _).setCell (.inl (by simp)) _
      have hb4 := H0.out.2.2.2.2
      refine ⟨(H0.out.1.trans e1).trans' e2 (fun j hj => .inr (by simp at hj; omega)), e2.at (e1.at H0.out.2.1 (by simp)) (by simp), e2.at (e1.at H0.out.2.2.1 (by simp)) (by simp), by rw [← hW5]; exact cell1_set hb3 _, hR.ext (pR_ok _ _) e2 (fun p hp => ?_)⟩
      have := (hbo p hp).1
      simp
      omega
    clear hO hE3 hR hbo hb3
    go_wp2_with fail
    try rw [hW5]
    clear hW5 k3 f3 HTS2 HPE H2
    generalize W5 = W5 at *
    refine (HST.out _ HS.out.ex).mono ?_
    rintro e W6 ⟨B, bm, es, rfl, hE, hK, hLy, hwf, hBB, hbm⟩
    have heq : ∀ W, (binOp .eql 37 (.func (.func 35) #[] #[.pointer (some ⟨B, 0, none⟩)]) .nilFunc).run Try.prog W = .ok (.bool false) W := fun W => eqfn2 35 #[.pointer (some ⟨B, 0, none⟩)] W
    have h6 := HS.out.ext0 hE
    have hBs : B < W6.heap.size := World.block_lt_of_cell? _ _ hK.1
    have hms := hK.2.lt
    have hb6 := lt_of_block h6.h5
    have H6 := Lib.hid (And.intro h6 (And.intro hK (And.intro hLy (And.intro hwf (And.intro hBs (And.intro hms hb6))))))
    have hbo6 : ∀ p, 0 < P.length → bo = some p → p.block < W6.heap.size := fun p h0 hp => by
      obtain ⟨g, off, e1, e2, _⟩ := PutAt.cells h6.rows (i := 0) h0
      rw [hp] at e1
      cases e1
      exact World.block_lt_of_cell? _ _ e2
    have HBO := Lib.hid hbo6
    clear hE hK hLy hwf hBB hbm h6 hBs hms hb6 hbo6 HS HST HTS HT HCZ
    obtain ⟨N, hN⟩ : ∃ N, P.length = N := ⟨_, rfl⟩
    have HN := Lib.hid hN
    clear hd
    go_wp2_with fail
    clear hN
    obtain ⟨X0, hX0⟩ : ∃ X, W6.alloc (.cells #[.int .i64 0] 3) = X := ⟨_, rfl⟩
    obtain ⟨t0, ht0⟩ : ∃ t, W6.heap.size = t := ⟨_, rfl⟩
    have HX0 : Hid (Ext [] W6 X0 ∧ X0.heap[t0]? = some (.cells #[.int .i64 0] 3 (0, 0)) ∧ W6.heap.size = t0) := by
      rw [← hX0]
      exact ⟨(Ext.refl _ _).alloc _, by rw [← ht0]; exact World.alloc_heap_new _ _, ht0⟩
    try rw [hX0]
    try rw [ht0]
    clear hX0 ht0
    have HWF : Hid (∀ p ∈ P, wrap64 p.1 = p.1) := by
      intro p hp
      have hm : p.1 ∈ sortK es := by rw [H6.out.2.2.1.1]; exact List.mem_map.2 ⟨p, hp, rfl⟩
      obtain ⟨q, hq, hq2⟩ := List.mem_map.1 ((sortK_perm es).mem_iff.1 hm)
      have h := wf_i64 (H6.out.2.2.2.1 q hq)
      rw [hq2] at h
      exact IntWalk.wrap64_in _ h
    refine wp_loop_rounds 3 ?_
    have hE0 : Ext [] W6 X0 := HX0.out.1
    obtain ⟨Y0, hY0⟩ : ∃ Y, X0.alloc (.cells #[.int .i64 0] 3) = Y := ⟨_, rfl⟩
    obtain ⟨n0, hn0⟩ : ∃ n, X0.heap.size = n := ⟨_, rfl⟩
    have HY0 : Hid (Ext [] X0 Y0 ∧ Y0.heap[n0]? = some (.cells #[.int .i64 0] 3 (0, 0)) ∧ Y0.heap.size = n0 + 1 ∧ X0.heap.size = n0) := by
      rw [← hY0]
      exact ⟨(Ext.refl _ _).alloc _, by rw [← hn0]; exact World.alloc_heap_new _ _, by simp [hn0], hn0⟩
    have kt0 := cell_of (j := 0) (v := .int .i64 0) HX0.out.2.1 rfl
    have HYE0 := Lib.hid (And.intro hY0 hn0)
    clear hE0 hY0 hn0
    rw [rounds_succ]
    go_wp2_with fail
    try rw [HYE0.out.1]
    try rw [HYE0.out.2]
    clear HYE0 kt0
    have back0 : Hid (∀ W, Ext [n0] Y0 W → Ext [] X0 W ∧ Ext [] W6 W ∧ W.cell? ⟨t0, 0, none⟩ = some (.int .i64 0) ∧ StS w W b many bo bcap P) := by
      intro W hE
      have e1 : Ext [] X0 W := HY0.out.1.trans' hE (fun j hj => .inr (by simp at hj; have := HY0.out.2.2.2; omega))
      have e2 := HX0.out.1.trans e1
      exact ⟨e1, e2, e1.cell (cell_of (j := 0) (v := .int .i64 0) HX0.out.2.1 rfl) (by simp), H6.out.1.ext0 e2⟩
    refine wpIn_wide.1 (wp_range (gf := 35) (lb := #[.pointer (some ⟨B, 0, none⟩)]) rfl (fun args w => enters_of Try.func35 (by kernel_rfl) rfl args w)
      (stores_seq B bm es P H6.out.2.2.1 (by have := HPL.out.1; omega) H6.out.2.2.2.1) (fun pre x h => by obtain ⟨k, _, _, rfl⟩ := okW_last h; rfl) [n0]
      (CntGo Y0 n0 3 many) (CntEnd Y0 n0 3 P.length 2 many) ?_ ?_ ?_ ?_ ?_ ?_ ?_ ?_)
    · exact fun mm pre => CntGo.steady (Nat.le_refl _) mm pre
    · exact CntEnd.steady (Nat.le_refl _)
    · rintro mm pre W' ⟨_, hE, _⟩
      have hs := HY0.out.2.2.2
      have hz := HX0.out.1.size
      have hEy : Ext [] W6 Y0 := HX0.out.1.trans HY0.out.1
      exact ⟨hE.cell (hEy.cell H6.out.2.1.1 (by simp)) (by have := H6.out.2.2.2.2.1; simp; omega), (H6.out.2.1.2.ext hEy (by simp)).ext hE (by have := H6.out.2.2.2.2.2.1; simp; omega)⟩
    · intro x hx
      simp at hx
      subst hx
      have := HY0.out.2.2.1
      omega
    · exact CntGo.start HY0.out.2.1
    · rintro l2 mm pre x W hl2 hi hokp
      obtain ⟨k, hk, hpre, rfl⟩ := okW_last hokp
      have hpl : pre.length = k := by rw [hpre, encW_len _ _ (Nat.le_of_lt hk)]
      obtain ⟨p, hp⟩ : ∃ p, P.getD k (0, 0) = p := ⟨_, rfl⟩
      have HI := Lib.hid (And.intro hi (And.intro hpl (And.intro hk hp)))
      rw [hp]
      clear hi hpl hokp hpre hl2 hk hp
      obtain rfl : mm = [n0] := HI.out.1.1
      intro K hK
      unfold pairW
      gi_wp2
      refine hK _ _ (Ext.refl [] _) ?_
      intro W' hC
      clear hK K
      have hi6 := CntGo.steady (Nat.le_refl _) _ pre _ _ HI.out.1 hC
      have hE6 : Ext [n0] Y0 W' := hi6.2.1
      have hb6 : W'.heap[n0]? = some (.cells #[.int .i64 pre.length] 3 (0, 0)) := hi6.2.2.1
      rw [HI.out.2.1] at hb6
      obtain ⟨_, e2, kt, hSS⟩ := back0.out W' hE6
      have q0 := cell_of (j := 0) (v := .int .i64 k) hb6 rfl
      have q1 := free_of hb6 0
      have q5 := cell_of (j := 0) hSS.h5 rfl
      rw [HN.out] at q5
      have q3 := cell_of (j := 0) hSS.h3 rfl
      obtain ⟨g, off, rfl, r0, r1⟩ := PutAt.cells hSS.rows (i := k) HI.out.2.2.1
      rw [HI.out.2.2.2] at r0 r1
      have hk0 : (0 : Int) ≤ (k : Int) := by omega
      have hkI : (k : Int) < (N : Int) := by have := HI.out.2.2.1; have := HN.out; omega
      have hge : ¬ ((N : Int) ≤ (k : Int)) := by omega
      have hwk : wrap64 ((k : Int) + 1) = (k : Int) + 1 := IntWalk.wrap64_in _ (by have := HPL.out.1; have := HN.out; omega)
      have hne := nePutSelf p.1 p.2
      have hw0 : wrap64 p.1 = p.1 := HWF.out p (by rw [← HI.out.2.2.2, List.getD_eq_getElem?_getD, List.getElem?_eq_getElem HI.out.2.2.1]; exact List.getElem_mem _)
      have H9 := Lib.hid (And.intro hi6 (And.intro HI.out.2.2.1 hE6))
      have hd2 : ¬ (b + 2 = n0) := by have := HY0.out.2.2.2; have := HX0.out.1.size; have := H6.out.2.2.2.2.2.2; omega
      have hd0 : ¬ (b = n0) := by have := HY0.out.2.2.2; have := HX0.out.1.size; have := H6.out.2.2.2.2.2.2; omega
      have hdt : ¬ (t0 = n0) := by have := lt_of_block HX0.out.2.1; have := HY0.out.2.2.2; omega
      clear hi6 hE6 hb6 e2 hSS hC
      by_cases hend : many ≤ (k : Int) + 1
      · gi_wp2
        exact ⟨(Ext.refl _ _).setCell (.inl (by simp)) _, CntGo.stop H9.out.1 HI.out.2.1 hend H9.out.2.1⟩
      · gi_wp2
        exact ⟨(Ext.refl _ _).setCell (.inl (by simp)) _, CntGo.step H9.out.1 HI.out.2.1 (by omega)⟩

    all_goals
      first
        | (rintro D0 mm xs Z0 hD hx hgo hdD
           have HV := Lib.hid (hgo.done (m := N) (by rw [show xs = _ from hx, encW_len _ _ (Nat.le_refl _)]; exact HN.out))
           clear hx hgo)
        | (rintro D0 cc Z0 hD hce hdD
           obtain ⟨rfl, hcd⟩ := hce.done
           have HV := Lib.hid hcd
           clear hce hcd
           refine wpIn_exit ?_)
      obtain ⟨v, hE, hnb, hv⟩ := HV.out
      try rw [HN.out] at hv
      obtain ⟨e1, e2, kt, hSS⟩ := back0.out Z0 hE
      have k6 := cell_of (j := 0) (v := .int .i64 v) hnb rfl
      have k5 := cell_of (j := 0) hSS.h5 rfl
      rw [HN.out] at k5
      have k7 := cell_of (j := 0) hSS.h3 rfl
      have hvb : ((v : Int) != min (N : Int) (max 1 many)) = false := by simpa using hv
      obtain ⟨X1, hX1⟩ : ∃ X, Z0.alloc (.cells #[.int .i64 1] 3) = X := ⟨_, rfl⟩
      obtain ⟨t1, ht1⟩ : ∃ t, Z0.heap.size = t := ⟨_, rfl⟩
      have HX1 : Hid (Ext [] W6 X1 ∧ X1.heap[t1]? = some (.cells #[.int .i64 1] 3 (0, 0)) ∧ X1.heap[D0]? = some (.deferred (some [])) ∧ b + 2 < D0 ∧ D0 < X1.heap.size) := by
        have hlt := lt_of_block hdD
        have h1 : b + 2 < D0 := by have := HY0.out.2.2.2; have := HY0.out.2.2.1; have := HX0.out.1.size; have := H6.out.2.2.2.2.2.2; omega
        rw [← hX1]
        exact ⟨e2.alloc _, by rw [← ht1]; exact World.alloc_heap_new _ _, block_al hdD, h1, by simp; omega⟩
      have HXE := Lib.hid (And.intro hX1 ht1)
      clear hE hnb hv e1 e2 hSS hD hdD HV hX1 ht1
      go_wp2_with fail
      try rw [HXE.out.1]
      try rw [HXE.out.2]
      clear HXE k6 k5 k7 hvb kt
      have hE1 : Ext [] W6 X1 := HX1.out.1
      obtain ⟨Y1, hY1⟩ : ∃ Y, X1.alloc (.cells #[.int .i64 0] 3) = Y := ⟨_, rfl⟩
      obtain ⟨n1, hn1⟩ : ∃ n, X1.heap.size = n := ⟨_, rfl⟩
      have HY1 : Hid (Ext [] X1 Y1 ∧ Y1.heap[n1]? = some (.cells #[.int .i64 0] 3 (0, 0)) ∧ Y1.heap.size = n1 + 1 ∧ X1.heap.size = n1) := by
        rw [← hY1]
        exact ⟨(Ext.refl _ _).alloc _, by rw [← hn1]; exact World.alloc_heap_new _ _, by simp [hn1], hn1⟩
      have kt1 := cell_of (j := 0) (v := .int .i64 1) HX1.out.2.1 rfl
      have HYE1 := Lib.hid (And.intro hY1 hn1)
      clear hE1 hY1 hn1
      rw [rounds_succ]
      go_wp2_with fail
      try rw [HYE1.out.1]
      try rw [HYE1.out.2]
      clear HYE1 kt1
      have back1 : Hid (∀ W, Ext [n1] Y1 W → Ext [] X1 W ∧ Ext [] W6 W ∧ W.cell? ⟨t1, 0, none⟩ = some (.int .i64 1) ∧ StS w W b many bo bcap P) := by
        intro W hE
        have e1 : Ext [] X1 W := HY1.out.1.trans' hE (fun j hj => .inr (by simp at hj; have := HY1.out.2.2.2; omega))
        have e2 := HX1.out.1.trans e1
        exact ⟨e1, e2, e1.cell (cell_of (j := 0) (v := .int .i64 1) HX1.out.2.1 rfl) (by simp), H6.out.1.ext0 e2⟩
      refine wpIn_wide.1 (wp_range (gf := 35) (lb := #[.pointer (some ⟨B, 0, none⟩)]) rfl (fun args w => enters_of Try.func35 (by kernel_rfl) rfl args w)
        (stores_seq B bm es P H6.out.2.2.1 (by have := HPL.out.1; omega) H6.out.2.2.2.1) (fun pre x h => by obtain ⟨k, _, _, rfl⟩ := okW_last h; rfl) [n1]
        (fun mm pre W => mm = [n1] ∧ Ext [n1] Y1 W ∧ W.heap[n1]? = some (.cells #[.int .i64 pre.length] 3 (0, 0))) (fun _ _ => False) ?_ ?_ ?_ ?_ ?_ ?_ ?_ ?_)
      · exact fun mm pre => (Steady.const _ _).and ((Steady.ext (Nat.le_refl _)).and (Steady.block (.inr rfl)))
      · exact fun c => Steady.const _ _
      · rintro mm pre W' ⟨_, hE, _⟩
        have hs := HY1.out.2.2.2
        have hz := HX1.out.1.size
        have hEy : Ext [] W6 Y1 := HX1.out.1.trans HY1.out.1
        exact ⟨hE.cell (hEy.cell H6.out.2.1.1 (by simp)) (by have := H6.out.2.2.2.2.1; simp; omega), (H6.out.2.1.2.ext hEy (by simp)).ext hE (by have := H6.out.2.2.2.2.2.1; simp; omega)⟩
      · intro x hx
        simp at hx
        subst hx
        have := HY1.out.2.2.1
        omega
      · exact ⟨rfl, Ext.refl _ _, HY1.out.2.1⟩
      · rintro l2 mm pre x W hl2 hi hokp
        obtain ⟨k, hk, hpre, rfl⟩ := okW_last hokp
        have hpl : pre.length = k := by rw [hpre, encW_len _ _ (Nat.le_of_lt hk)]
        obtain ⟨p, hp⟩ : ∃ p, P.getD k (0, 0) = p := ⟨_, rfl⟩
        have HI := Lib.hid (And.intro hi (And.intro hpl (And.intro hk hp)))
        rw [hp]
        clear hi hpl hokp hpre hl2 hk hp
        obtain rfl : mm = [n1] := HI.out.1.1
        intro K hK
        unfold pairW
        gi_wp2
        refine hK _ _ (Ext.refl [] _) ?_
        intro W' hC
        clear hK K
        have hi6 := ((Steady.const _ _).and ((Steady.ext (Nat.le_refl _)).and (Steady.block (.inr rfl)))) _ _ HI.out.1 hC
        have hE6 : Ext [n1] Y1 W' := hi6.2.1
        have hb6 : W'.heap[n1]? = some (.cells #[.int .i64 pre.length] 3 (0, 0)) := hi6.2.2
        rw [HI.out.2.1] at hb6
        obtain ⟨_, e2, kt, hSS⟩ := back1.out W' hE6
        have q0 := cell_of (j := 0) (v := .int .i64 k) hb6 rfl
        have q1 := free_of hb6 0
        have q5 := cell_of (j := 0) hSS.h5 rfl
        rw [HN.out] at q5
        have q3 := cell_of (j := 0) hSS.h3 rfl
        obtain ⟨g, off, rfl, r0, r1⟩ := PutAt.cells hSS.rows (i := k) HI.out.2.2.1
        rw [HI.out.2.2.2] at r0 r1
        have hk0 : (0 : Int) ≤ (k : Int) := by omega
        have hkI : (k : Int) < (N : Int) := by have := HI.out.2.2.1; have := HN.out; omega
        have hge : ¬ ((N : Int) ≤ (k : Int)) := by omega
        have hwk : wrap64 ((k : Int) + 1) = (k : Int) + 1 := IntWalk.wrap64_in _ (by have := HPL.out.1; have := HN.out; omega)
        have hne := nePutSelf p.1 p.2
        have hw0 : wrap64 p.1 = p.1 := HWF.out p (by rw [← HI.out.2.2.2, List.getD_eq_getElem?_getD, List.getElem?_eq_getElem HI.out.2.2.1]; exact List.getElem_mem _)
        have H9 := Lib.hid (And.intro hi6 (And.intro HI.out.2.2.1 hE6))
        have hd2 : ¬ (b + 2 = n1) := by have := HY1.out.2.2.2; have := HX1.out.1.size; have := H6.out.2.2.2.2.2.2; omega
        have hd0 : ¬ (b = n1) := by have := HY1.out.2.2.2; have := HX1.out.1.size; have := H6.out.2.2.2.2.2.2; omega
        have hdt : ¬ (t1 = n1) := by have := lt_of_block HX1.out.2.1; have := HY1.out.2.2.2; omega
        clear hi6 hE6 hb6 e2 hSS hC
        gi_wp2
        refine ⟨(Ext.refl _ _).setCell (.inl (by simp)) _, [n1], Sub.refl _ _, rfl, H9.out.2.2.setCell (.inl (by simp)) _, ?_⟩
        try rw [List.length_append]
        rw [HI.out.2.1]
        exact cell1_set (v := .int .i64 k) (by have := H9.out.1.2.2; rwa [HI.out.2.1] at this) _

      · intro D1 mm xs Z1 hD hx hi hdD
        obtain ⟨rfl, hE, hnb⟩ := hi
        rw [show xs = _ from hx, encW_len _ _ (Nat.le_refl _), HN.out] at hnb
        obtain ⟨e1, e2, kt, hSS⟩ := back1.out Z1 hE
        have k6 := cell_of (j := 0) (v := .int .i64 N) hnb rfl
        have k5 := cell_of (j := 0) hSS.h5 rfl
        rw [HN.out] at k5
        have k7 := cell_of (j := 0) hSS.h3 rfl
        have hvb : ((N : Int) != (N : Int)) = false := bne_self_eq_false _
        have HZ : Hid (StS w Z1 b many bo bcap P ∧ Z1.heap[D1]? = some (.deferred (some [])) ∧ Z1.heap[D0]? = some (.deferred (some [])) ∧ D0 < D1) :=
          ⟨hSS, hdD, e1.at HX1.out.2.2.1 (by simp), by have := HX1.out.2.2.2.2; have := HY1.out.2.2.2; have := HY1.out.2.2.1; omega⟩
        clear hE hnb e1 e2 hSS hD hdD hx
        go_wp2_with fail
        rw [rounds_succ]
        go_wp2_with fail
        refine (law05_works _).mono ?_
        rintro e w18 ⟨rfl, hE18⟩
        have hX := (Ext.refl [] Z1).alloc (.cells #[.int .i64 2] 3)
        have hE19 := hX.trans hE18
        have h18 := (HZ.out.1.ext0 hE19)
        have k18 := cell_of (j := 0) h18.h4 rfl
        have f18 := free_of h18.h4 0
        have H18 := Lib.hid (And.intro h18 (And.intro (hE19.at HZ.out.2.1 (by simp)) (hE19.at HZ.out.2.2.1 (by simp))))
        clear hE18 hX hE19 h18
        go_wp2
        show LeavesInM _ _ _ _ _ _ _ _ _
        refine fin.out [D1, D0] w18 (fun D hD => ?_) (by simp; have := HZ.out.2.2.2; omega) H18.out.1.h4 H18.out.1.ex _ rfl
        have h1 := HX1.out.2.2.2.1
        have h2 := HZ.out.2.2.2
        simp at hD
        rcases hD with rfl | rfl
        · exact ⟨H18.out.2.1, by omega⟩
        · exact ⟨H18.out.2.2, by omega⟩
      · intro D c' W' hD h
        exact h.elim
  · have g : (c == 0) = false := by simpa using hc
    have hPL : P = [] := by have := HPL.out.2; rwa [if_neg hc] at this
    obtain ⟨W5, hW5⟩ : ∃ W5, w2 = W5 := ⟨_, rfl⟩
    have HS : Hid (StS w W5 b many none 0 P) := by
      rw [← hW5]
      exact ⟨H0.out.1.trans H2.out.1, H2.out.1.at H0.out.2.1 (by simp), H2.out.1.at H0.out.2.2.1 (by simp), by rw [hPL]; exact H2.out.2, .inl (by rw [hPL]; rfl)⟩
    obtain ⟨bo, hbo⟩ : ∃ bo : Option Addr, bo = none := ⟨_, rfl⟩
    obtain ⟨bcap, hbc⟩ : ∃ bcap : Nat, bcap = 0 := ⟨_, rfl⟩
    rw [← hbo, ← hbc] at HS
    clear hc k2 f2 hPL hbo hbc
    subst hW5
    go_wp2_with fail
    clear H2
    refine (HST.out _ HS.out.ex).mono ?_
    rintro e W6 ⟨B, bm, es, rfl, hE, hK, hLy, hwf, hBB, hbm⟩
    have heq : ∀ W, (binOp .eql 37 (.func (.func 35) #[] #[.pointer (some ⟨B, 0, none⟩)]) .nilFunc).run Try.prog W = .ok (.bool false) W := fun W => eqfn2 35 #[.pointer (some ⟨B, 0, none⟩)] W
    have h6 := HS.out.ext0 hE
    have hBs : B < W6.heap.size := World.block_lt_of_cell? _ _ hK.1
    have hms := hK.2.lt
    have hb6 := lt_of_block h6.h5
    have H6 := Lib.hid (And.intro h6 (And.intro hK (And.intro hLy (And.intro hwf (And.intro hBs (And.intro hms hb6))))))
    have hbo6 : ∀ p, 0 < P.length → bo = some p → p.block < W6.heap.size := fun p h0 hp => by
      obtain ⟨g, off, e1, e2, _⟩ := PutAt.cells h6.rows (i := 0) h0
      rw [hp] at e1
      cases e1
      exact World.block_lt_of_cell? _ _ e2
    have HBO := Lib.hid hbo6
    clear hE hK hLy hwf hBB hbm h6 hBs hms hb6 hbo6 HS HST HTS HT HCZ
    obtain ⟨N, hN⟩ : ∃ N, P.length = N := ⟨_, rfl⟩
    have HN := Lib.hid hN
    clear hd
    go_wp2_with fail
    clear hN
    obtain ⟨X0, hX0⟩ : ∃ X, W6.alloc (.cells #[.int .i64 0] 3) = X := ⟨_, rfl⟩
    obtain ⟨t0, ht0⟩ : ∃ t, W6.heap.size = t := ⟨_, rfl⟩
    have HX0 : Hid (Ext [] W6 X0 ∧ X0.heap[t0]? = some (.cells #[.int .i64 0] 3 (0, 0)) ∧ W6.heap.size = t0) := by
      rw [← hX0]
      exact ⟨(Ext.refl _ _).alloc _, by rw [← ht0]; exact World.alloc_heap_new _ _, ht0⟩
    try rw [hX0]
    try rw [ht0]
    clear hX0 ht0
    have HWF : Hid (∀ p ∈ P, wrap64 p.1 = p.1) := by
      intro p hp
      have hm : p.1 ∈ sortK es := by rw [H6.out.2.2.1.1]; exact List.mem_map.2 ⟨p, hp, rfl⟩
      obtain ⟨q, hq, hq2⟩ := List.mem_map.1 ((sortK_perm es).mem_iff.1 hm)
      have h := wf_i64 (H6.out.2.2.2.1 q hq)
      rw [hq2] at h
      exact IntWalk.wrap64_in _ h
    refine wp_loop_rounds 3 ?_
    have hE0 : Ext [] W6 X0 := HX0.out.1
    obtain ⟨Y0, hY0⟩ : ∃ Y, X0.alloc (.cells #[.int .i64 0] 3) = Y := ⟨_, rfl⟩
    obtain ⟨n0, hn0⟩ : ∃ n, X0.heap.size = n := ⟨_, rfl⟩
    have HY0 : Hid (Ext [] X0 Y0 ∧ Y0.heap[n0]? = some (.cells #[.int .i64 0] 3 (0, 0)) ∧ Y0.heap.size = n0 + 1 ∧ X0.heap.size = n0) := by
      rw [← hY0]
      exact ⟨(Ext.refl _ _).alloc _, by rw [← hn0]; exact World.alloc_heap_new _ _, by simp [hn0], hn0⟩
    have kt0 := cell_of (j := 0) (v := .int .i64 0) HX0.out.2.1 rfl
    have HYE0 := Lib.hid (And.intro hY0 hn0)
    clear hE0 hY0 hn0
    rw [rounds_succ]
    go_wp2_with fail
    try rw [HYE0.out.1]
    try rw [HYE0.out.2]
    clear HYE0 kt0
    have back0 : Hid (∀ W, Ext [n0] Y0 W → Ext [] X0 W ∧ Ext [] W6 W ∧ W.cell? ⟨t0, 0, none⟩ = some (.int .i64 0) ∧ StS w W b many bo bcap P) := by
      intro W hE
      have e1 : Ext [] X0 W := HY0.out.1.trans' hE (fun j hj => .inr (by simp at hj; have := HY0.out.2.2.2; omega))
      have e2 := HX0.out.1.trans e1
      exact ⟨e1, e2, e1.cell (cell_of (j := 0) (v := .int .i64 0) HX0.out.2.1 rfl) (by simp), H6.out.1.ext0 e2⟩
    refine wpIn_wide.1 (wp_range (gf := 35) (lb := #[.pointer (some ⟨B, 0, none⟩)]) rfl (fun args w => enters_of Try.func35 (by kernel_rfl) rfl args w)
      (stores_seq B bm es P H6.out.2.2.1 (by have := HPL.out.1; omega) H6.out.2.2.2.1) (fun pre x h => by obtain ⟨k, _, _, rfl⟩ := okW_last h; rfl) [n0]
      (CntGo Y0 n0 3 many) (CntEnd Y0 n0 3 P.length 2 many) ?_ ?_ ?_ ?_ ?_ ?_ ?_ ?_)
    · exact fun mm pre => CntGo.steady (Nat.le_refl _) mm pre
    · exact CntEnd.steady (Nat.le_refl _)
    · rintro mm pre W' ⟨_, hE, _⟩
      have hs := HY0.out.2.2.2
      have hz := HX0.out.1.size
      have hEy : Ext [] W6 Y0 := HX0.out.1.trans HY0.out.1
      exact ⟨hE.cell (hEy.cell H6.out.2.1.1 (by simp)) (by have := H6.out.2.2.2.2.1; simp; omega), (H6.out.2.1.2.ext hEy (by simp)).ext hE (by have := H6.out.2.2.2.2.2.1; simp; omega)⟩
    · intro x hx
      simp at hx
      subst hx
      have := HY0.out.2.2.1
      omega
    · exact CntGo.start HY0.out.2.1
    · rintro l2 mm pre x W hl2 hi hokp
      obtain ⟨k, hk, hpre, rfl⟩ := okW_last hokp
      have hpl : pre.length = k := by rw [hpre, encW_len _ _ (Nat.le_of_lt hk)]
      obtain ⟨p, hp⟩ : ∃ p, P.getD k (0, 0) = p := ⟨_, rfl⟩
      have HI := Lib.hid (And.intro hi (And.intro hpl (And.intro hk hp)))
      rw [hp]
      clear hi hpl hokp hpre hl2 hk hp
      obtain rfl : mm = [n0] := HI.out.1.1
      intro K hK
      unfold pairW
      gi_wp2
      refine hK _ _ (Ext.refl [] _) ?_
      intro W' hC
      clear hK K
      have hi6 := CntGo.steady (Nat.le_refl _) _ pre _ _ HI.out.1 hC
      have hE6 : Ext [n0] Y0 W' := hi6.2.1
      have hb6 : W'.heap[n0]? = some (.cells #[.int .i64 pre.length] 3 (0, 0)) := hi6.2.2.1
      rw [HI.out.2.1] at hb6
      obtain ⟨_, e2, kt, hSS⟩ := back0.out W' hE6
      have q0 := cell_of (j := 0) (v := .int .i64 k) hb6 rfl
      have q1 := free_of hb6 0
      have q5 := cell_of (j := 0) hSS.h5 rfl
      rw [HN.out] at q5
      have q3 := cell_of (j := 0) hSS.h3 rfl
      obtain ⟨g, off, rfl, r0, r1⟩ := PutAt.cells hSS.rows (i := k) HI.out.2.2.1
      rw [HI.out.2.2.2] at r0 r1
      have hk0 : (0 : Int) ≤ (k : Int) := by omega
      have hkI : (k : Int) < (N : Int) := by have := HI.out.2.2.1; have := HN.out; omega
      have hge : ¬ ((N : Int) ≤ (k : Int)) := by omega
      have hwk : wrap64 ((k : Int) + 1) = (k : Int) + 1 := IntWalk.wrap64_in _ (by have := HPL.out.1; have := HN.out; omega)
      have hne := nePutSelf p.1 p.2
      have hw0 : wrap64 p.1 = p.1 := HWF.out p (by rw [← HI.out.2.2.2, List.getD_eq_getElem?_getD, List.getElem?_eq_getElem HI.out.2.2.1]; exact List.getElem_mem _)
      have H9 := Lib.hid (And.intro hi6 (And.intro HI.out.2.2.1 hE6))
      have hd2 : ¬ (b + 2 = n0) := by have := HY0.out.2.2.2; have := HX0.out.1.size; have := H6.out.2.2.2.2.2.2; omega
      have hd0 : ¬ (b = n0) := by have := HY0.out.2.2.2; have := HX0.out.1.size; have := H6.out.2.2.2.2.2.2; omega
      have hdt : ¬ (t0 = n0) := by have := lt_of_block HX0.out.2.1; have := HY0.out.2.2.2; omega
      clear hi6 hE6 hb6 e2 hSS hC
      by_cases hend : many ≤ (k : Int) + 1
      · gi_wp2
        exact ⟨(Ext.refl _ _).setCell (.inl (by simp)) _, CntGo.stop H9.out.1 HI.out.2.1 hend H9.out.2.1⟩
      · gi_wp2
        exact ⟨(Ext.refl _ _).setCell (.inl (by simp)) _, CntGo.step H9.out.1 HI.out.2.1 (by omega)⟩

    all_goals
      first
        | (rintro D0 mm xs Z0 hD hx hgo hdD
           have HV := Lib.hid (hgo.done (m := N) (by rw [show xs = _ from hx, encW_len _ _ (Nat.le_refl _)]; exact HN.out))
           clear hx hgo)
        | (rintro D0 cc Z0 hD hce hdD
           obtain ⟨rfl, hcd⟩ := hce.done
           have HV := Lib.hid hcd
           clear hce hcd
           refine wpIn_exit ?_)
      obtain ⟨v, hE, hnb, hv⟩ := HV.out
      try rw [HN.out] at hv
      obtain ⟨e1, e2, kt, hSS⟩ := back0.out Z0 hE
      have k6 := cell_of (j := 0) (v := .int .i64 v) hnb rfl
      have k5 := cell_of (j := 0) hSS.h5 rfl
      rw [HN.out] at k5
      have k7 := cell_of (j := 0) hSS.h3 rfl
      have hvb : ((v : Int) != min (N : Int) (max 1 many)) = false := by simpa using hv
      obtain ⟨X1, hX1⟩ : ∃ X, Z0.alloc (.cells #[.int .i64 1] 3) = X := ⟨_, rfl⟩
      obtain ⟨t1, ht1⟩ : ∃ t, Z0.heap.size = t := ⟨_, rfl⟩
      have HX1 : Hid (Ext [] W6 X1 ∧ X1.heap[t1]? = some (.cells #[.int .i64 1] 3 (0, 0)) ∧ X1.heap[D0]? = some (.deferred (some [])) ∧ b + 2 < D0 ∧ D0 < X1.heap.size) := by
        have hlt := lt_of_block hdD
        have h1 : b + 2 < D0 := by have := HY0.out.2.2.2; have := HY0.out.2.2.1; have := HX0.out.1.size; have := H6.out.2.2.2.2.2.2; omega
        rw [← hX1]
        exact ⟨e2.alloc _, by rw [← ht1]; exact World.alloc_heap_new _ _, block_al hdD, h1, by simp; omega⟩
      have HXE := Lib.hid (And.intro hX1 ht1)
      clear hE hnb hv e1 e2 hSS hD hdD HV hX1 ht1
      go_wp2_with fail
      try rw [HXE.out.1]
      try rw [HXE.out.2]
      clear HXE k6 k5 k7 hvb kt
      have hE1 : Ext [] W6 X1 := HX1.out.1
      obtain ⟨Y1, hY1⟩ : ∃ Y, X1.alloc (.cells #[.int .i64 0] 3) = Y := ⟨_, rfl⟩
      obtain ⟨n1, hn1⟩ : ∃ n, X1.heap.size = n := ⟨_, rfl⟩
      have HY1 : Hid (Ext [] X1 Y1 ∧ Y1.heap[n1]? = some (.cells #[.int .i64 0] 3 (0, 0)) ∧ Y1.heap.size = n1 + 1 ∧ X1.heap.size = n1) := by
        rw [← hY1]
        exact ⟨(Ext.refl _ _).alloc _, by rw [← hn1]; exact World.alloc_heap_new _ _, by simp [hn1], hn1⟩
      have kt1 := cell_of (j := 0) (v := .int .i64 1) HX1.out.2.1 rfl
      have HYE1 := Lib.hid (And.intro hY1 hn1)
      clear hE1 hY1 hn1
      rw [rounds_succ]
      go_wp2_with fail
      try rw [HYE1.out.1]
      try rw [HYE1.out.2]
      clear HYE1 kt1
      have back1 : Hid (∀ W, Ext [n1] Y1 W → Ext [] X1 W ∧ Ext [] W6 W ∧ W.cell? ⟨t1, 0, none⟩ = some (.int .i64 1) ∧ StS w W b many bo bcap P) := by
        intro W hE
        have e1 : Ext [] X1 W := HY1.out.1.trans' hE (fun j hj => .inr (by simp at hj; have := HY1.out.2.2.2; omega))
        have e2 := HX1.out.1.trans e1
        exact ⟨e1, e2, e1.cell (cell_of (j := 0) (v := .int .i64 1) HX1.out.2.1 rfl) (by simp), H6.out.1.ext0 e2⟩
      refine wpIn_wide.1 (wp_range (gf := 35) (lb := #[.pointer (some ⟨B, 0, none⟩)]) rfl (fun args w => enters_of Try.func35 (by kernel_rfl) rfl args w)
        (stores_seq B bm es P H6.out.2.2.1 (by have := HPL.out.1; omega) H6.out.2.2.2.1) (fun pre x h => by obtain ⟨k, _, _, rfl⟩ := okW_last h; rfl) [n1]
        (fun mm pre W => mm = [n1] ∧ Ext [n1] Y1 W ∧ W.heap[n1]? = some (.cells #[.int .i64 pre.length] 3 (0, 0))) (fun _ _ => False) ?_ ?_ ?_ ?_ ?_ ?_ ?_ ?_)
      · exact fun mm pre => (Steady.const _ _).and ((Steady.ext (Nat.le_refl _)).and (Steady.block (.inr rfl)))
      · exact fun c => Steady.const _ _
      · rintro mm pre W' ⟨_, hE, _⟩
        have hs := HY1.out.2.2.2
        have hz := HX1.out.1.size
        have hEy : Ext [] W6 Y1 := HX1.out.1.trans HY1.out.1
        exact ⟨hE.cell (hEy.cell H6.out.2.1.1 (by simp)) (by have := H6.out.2.2.2.2.1; simp; omega), (H6.out.2.1.2.ext hEy (by simp)).ext hE (by have := H6.out.2.2.2.2.2.1; simp; omega)⟩
      · intro x hx
        simp at hx
        subst hx
        have := HY1.out.2.2.1
        omega
      · exact ⟨rfl, Ext.refl _ _, HY1.out.2.1⟩
      · rintro l2 mm pre x W hl2 hi hokp
        obtain ⟨k, hk, hpre, rfl⟩ := okW_last hokp
        have hpl : pre.length = k := by rw [hpre, encW_len _ _ (Nat.le_of_lt hk)]
        obtain ⟨p, hp⟩ : ∃ p, P.getD k (0, 0) = p := ⟨_, rfl⟩
        have HI := Lib.hid (And.intro hi (And.intro hpl (And.intro hk hp)))
        rw [hp]
        clear hi hpl hokp hpre hl2 hk hp
        obtain rfl : mm = [n1] := HI.out.1.1
        intro K hK
        unfold pairW
        gi_wp2
        refine hK _ _ (Ext.refl [] _) ?_
        intro W' hC
        clear hK K
        have hi6 := ((Steady.const _ _).and ((Steady.ext (Nat.le_refl _)).and (Steady.block (.inr rfl)))) _ _ HI.out.1 hC
        have hE6 : Ext [n1] Y1 W' := hi6.2.1
        have hb6 : W'.heap[n1]? = some (.cells #[.int .i64 pre.length] 3 (0, 0)) := hi6.2.2
        rw [HI.out.2.1] at hb6
        obtain ⟨_, e2, kt, hSS⟩ := back1.out W' hE6
        have q0 := cell_of (j := 0) (v := .int .i64 k) hb6 rfl
        have q1 := free_of hb6 0
        have q5 := cell_of (j := 0) hSS.h5 rfl
        rw [HN.out] at q5
        have q3 := cell_of (j := 0) hSS.h3 rfl
        obtain ⟨g, off, rfl, r0, r1⟩ := PutAt.cells hSS.rows (i := k) HI.out.2.2.1
        rw [HI.out.2.2.2] at r0 r1
        have hk0 : (0 : Int) ≤ (k : Int) := by omega
        have hkI : (k : Int) < (N : Int) := by have := HI.out.2.2.1; have := HN.out; omega
        have hge : ¬ ((N : Int) ≤ (k : Int)) := by omega
        have hwk : wrap64 ((k : Int) + 1) = (k : Int) + 1 := IntWalk.wrap64_in _ (by have := HPL.out.1; have := HN.out; omega)
        have hne := nePutSelf p.1 p.2
        have hw0 : wrap64 p.1 = p.1 := HWF.out p (by rw [← HI.out.2.2.2, List.getD_eq_getElem?_getD, List.getElem?_eq_getElem HI.out.2.2.1]; exact List.getElem_mem _)
        have H9 := Lib.hid (And.intro hi6 (And.intro HI.out.2.2.1 hE6))
        have hd2 : ¬ (b + 2 = n1) := by have := HY1.out.2.2.2; have := HX1.out.1.size; have := H6.out.2.2.2.2.2.2; omega
        have hd0 : ¬ (b = n1) := by have := HY1.out.2.2.2; have := HX1.out.1.size; have := H6.out.2.2.2.2.2.2; omega
        have hdt : ¬ (t1 = n1) := by have := lt_of_block HX1.out.2.1; have := HY1.out.2.2.2; omega
        clear hi6 hE6 hb6 e2 hSS hC
        gi_wp2
        refine ⟨(Ext.refl _ _).setCell (.inl (by simp)) _, [n1], Sub.refl _ _, rfl, H9.out.2.2.setCell (.inl (by simp)) _, ?_⟩
        try rw [List.length_append]
        rw [HI.out.2.1]
        exact cell1_set (v := .int .i64 k) (by have := H9.out.1.2.2; rwa [HI.out.2.1] at this) _

      · intro D1 mm xs Z1 hD hx hi hdD
        obtain ⟨rfl, hE, hnb⟩ := hi
        rw [show xs = _ from hx, encW_len _ _ (Nat.le_refl _), HN.out] at hnb
        obtain ⟨e1, e2, kt, hSS⟩ := back1.out Z1 hE
        have k6 := cell_of (j := 0) (v := .int .i64 N) hnb rfl
        have k5 := cell_of (j := 0) hSS.h5 rfl
        rw [HN.out] at k5
        have k7 := cell_of (j := 0) hSS.h3 rfl
        have hvb : ((N : Int) != (N : Int)) = false := bne_self_eq_false _
        have HZ : Hid (StS w Z1 b many bo bcap P ∧ Z1.heap[D1]? = some (.deferred (some [])) ∧ Z1.heap[D0]? = some (.deferred (some [])) ∧ D0 < D1) :=
          ⟨hSS, hdD, e1.at HX1.out.2.2.1 (by simp), by have := HX1.out.2.2.2.2; have := HY1.out.2.2.2; have := HY1.out.2.2.1; omega⟩
        clear hE hnb e1 e2 hSS hD hdD hx
        go_wp2_with fail
        rw [rounds_succ]
        go_wp2_with fail
        refine (law05_works _).mono ?_
        rintro e w18 ⟨rfl, hE18⟩
        have hX := (Ext.refl [] Z1).alloc (.cells #[.int .i64 2] 3)
        have hE19 := hX.trans hE18
        have h18 := (HZ.out.1.ext0 hE19)
        have k18 := cell_of (j := 0) h18.h4 rfl
        have f18 := free_of h18.h4 0
        have H18 := Lib.hid (And.intro h18 (And.intro (hE19.at HZ.out.2.1 (by simp)) (hE19.at HZ.out.2.2.1 (by simp))))
        clear hE18 hX hE19 h18
        go_wp2
        show LeavesInM _ _ _ _ _ _ _ _ _
        refine fin.out [D1, D0] w18 (fun D hD => ?_) (by simp; have := HZ.out.2.2.2; omega) H18.out.1.h4 H18.out.1.ex _ rfl
        have h1 := HX1.out.2.2.2.1
        have h2 := HZ.out.2.2.2
        simp at hD
        rcases hD with rfl | rfl
        · exact ⟨H18.out.2.1, by omega⟩
        · exact ⟨H18.out.2.2, by omega⟩
      · intro D c' W' hD h
        exact h.elim
end Go.Proofs.Ytmfbgkcphiomaaa
