/- EpochHolds: the walk (DRAFT, not built; the loop's inside is to be printed by wip/mkEh.py as XPoG's was: obtain each slot, then the arms). -/
import Derived.Test.YtgpoplnfhlfogaaEpJ
import Derived.Test.YtgpoplnfhlfogaaEpK
import Derived.Test.YtgpoplnfhlfogaaEpL
namespace Go.Proofs.Ytgpoplnfhlfogaa
open Go Go.RowKit Go.Shelf
attribute [local go_sem] Oper.semAt_some

theorem results_cellE {P : Program} {fn : Func} {p : Tmp} {ty : TypeId} (h : fn.results = #[.cell p ty]) (tmps : Array Value) (w : World) (a : Addr) (v : Value)
    (hi : (isAgg ty).run P w = .ok false w) (hp : tmps.getD p undef = .pointer (some a)) (hv : w.cell? a = some v) :
    (results fn tmps).run P w = .ok v w := by
  have hp' : tmps[p]?.getD undef = .pointer (some a) := by simpa using hp
  simp [results, h, hp', asAddr, Sem.run_bind, hi, go_sem, hv]
theorem then_np {K0 : Act → World → Prop} {Q : Exit → Act → World → Prop} : ∀ e a w, Exit.then K0 (NoPanic Q) e a w → Exit.then K0 Q e a w := fun e a w h => by
  cases e <;> first | exact h | exact NoPanic.out _ _ _ h
set_option maxRecDepth 100000 in
set_option maxHeartbeats 8000000 in
theorem ep_holds (ao : Option Addr) (n cap : Nat) (A : Nat → Int × Int) (w : World) (hp : Pairs w ao n A) (hn : n ≤ 9223372036854775807) :
    Calls Try.prog 9 #[.slice ao n cap] w fun e w' => e = .returned (.bool true) ∧ Ext [] w w' := by
  have HW := Lib.hid law14_works
  have HP := Lib.hid hp
  have hmm := @run_makeMap Try.prog
  clear hp
  have fin : Hid (∀ (Ds : List Nat) (W : World), (∀ D ∈ Ds, W.heap[D]? = some (.deferred (some [])) ∧ w.heap.size ≤ D) → Ds.Nodup → Ext [] w W → W.cell? ⟨w.heap.size, 0, none⟩ = some (.bool true) → ∀ tmps : Array Value, tmps.getD 2 undef = .pointer (some ⟨w.heap.size, 0, none⟩) →
      LeavesInM Fence.wide 0 Try.prog Try.f9 tmps (fun e w' => e = .returned (.bool true) ∧ Ext [] w w') (Ds.map fun D => { target := .collected D, args := #[] }) .returning W) := by
    intro Ds W hD hnd hE hr tmps ht
    exact leaves_marks (v := .bool true) Ds W (fun D hd => (hD D hd).1) hnd (fun w' hE' => ⟨results_cellE Try.results9 _ _ ⟨w.heap.size, 0, none⟩ _ (by kernel_rfl) ht (hE'.cell hr (fun hm => by
      have := (hD _ hm).1
      simp [World.cell?, this] at hr)), rfl, hE.trans' hE' (fun j hj => .inr (hD j hj).2)⟩)
  refine (callsIn_wide (n := 0)).1 (callsIn_of_wp_marks Try.func9 rfl trivial ?_ rfl)
  simp only [Try.ntmps9, List.size_toArray, List.length_cons, List.length_nil, Nat.reduceAdd, Nat.reduceSub, Array.replicate_succ, Array.replicate_zero, List.push_toArray, List.append_toArray, List.nil_append, List.cons_append]
  refine wpIn_wide.2 (wp_mono (Q := NoPanic (bodyPostM Fence.wide 0 Try.prog Try.f9 fun e w' => e = .returned (.bool true) ∧ Ext [] w w')) ?_ NoPanic.out)
  by_cases hbig : 80 < n
  · have hd2 : decide ((80 : Int) < (n : Int)) = true := by simp; omega
    go_wp2_with fail
    refine (HW.out _).mono ?_
    rintro e w2 ⟨rfl, hE2⟩
    have hE2' : Ext [] w w2 := ((Ext.refl _ _).alloc _).trans hE2
    have hb2 := hE2.at (World.alloc_heap_new w (.cells #[.bool false] 4)) (by simp)
    have q1 := cell_of hb2 (j := 0) rfl
    have q2 := free_of hb2 0
    have H2 := Lib.hid (And.intro hE2' hb2)
    clear hE2 hE2' hb2
    go_wp2
    show LeavesInM _ _ _ _ _ _ _ _ _
    refine fin.out [] _ (fun D hD => by cases hD) (by simp) (H2.out.1.setCell (.inr (Nat.le_refl _)) _) (cell_of (cell1_set H2.out.2 _) rfl) _ ?_
    rfl
  have hd2 : decide ((80 : Int) < (n : Int)) = false := by simp; omega
  go_wp2_with fail
  refine (ep_new _).mono ?_
  rintro e W1 ⟨rfl, hE1, hc1⟩
  rw [World.size_alloc] at hc1 ⊢
  obtain ⟨c, hc⟩ : ∃ c, w.heap.size + 1 + 1 = c := ⟨_, rfl⟩
  obtain ⟨m, hm⟩ : ∃ m, w.heap.size + 1 = m := ⟨_, rfl⟩
  obtain ⟨r0, hr⟩ : ∃ r, w.heap.size = r := ⟨_, rfl⟩
  have hr1 := hE1.at (World.alloc_heap_new w (.cells #[.bool false] 4)) (by simp)
  have hE1' : Ext [] w W1 := ((Ext.refl _ _).alloc _).trans hE1
  go_upto_region 5 with fail
  obtain ⟨c3, h3⟩ : ∃ x, W1.heap.size = x := ⟨_, rfl⟩
  have hz1 : r0 + 3 ≤ c3 := by have := lt_of_block hc1.1; omega
  rw [hr] at hc hm
  rw [hr, hc, hm] at hc1
  try rw [hc]
  try rw [h3]
  obtain ⟨W2, hW2⟩ : ∃ W2, ((W1.alloc (.cells #[.pointer (some ⟨c, 0, none⟩)] 24)).alloc (.map #[] 0)).alloc (.cells #[.map (some (c3 + 1))] 42) = W2 := ⟨_, rfl⟩
  rw [hW2]
  rw [hr] at hr1 fin
  have hsz : w.heap.size ≤ r0 := by omega
  have H5 : Hid (ESt w W2 r0 c m (c3 + 1) c3 (c3 + 2) 0 0 []) := by
    have hE2 : Ext [] W1 W2 := by rw [← hW2]; exact (((Ext.refl _ _).alloc _).alloc _).alloc _
    have hA := World.alloc_heap_new W1 (.cells #[.pointer (some ⟨c, 0, none⟩)] 24)
    rw [h3] at hA
    have hB := IMap.made (W1.alloc (.cells #[.pointer (some ⟨c, 0, none⟩)] 24))
    rw [World.size_alloc, h3] at hB
    have hC := World.alloc_heap_new ((W1.alloc (.cells #[.pointer (some ⟨c, 0, none⟩)] 24)).alloc (.map #[] 0)) (.cells #[.map (some (c3 + 1))] 42)
    rw [World.size_alloc, World.size_alloc, h3] at hC
    refine ⟨hc1.ext hE2 (by simp) (by simp), ?_, hE1'.trans hE2, hE2.at hr1 (by simp), ?_, ?_, ⟨hsz, by omega, by omega, by omega, by omega, by omega⟩, ⟨by omega, by omega, by simp⟩, POk.nil 0⟩
    · rw [← hW2]; exact hB.alloc _
    · rw [← hW2]; exact ((Ext.refl [] _).alloc _ |>.alloc _).at hA (by simp)
    · rw [← hW2]; exact hC
  have hn80 : n ≤ 80 := by omega
  obtain ⟨b, hbb⟩ : ∃ b, c3 + 1 = b := ⟨_, rfl⟩
  obtain ⟨c4, hc4⟩ : ∃ c4, c3 + 2 = c4 := ⟨_, rfl⟩
  try rw [show c3 + 1 + 1 = c3 + 2 from rfl]
  rw [hbb, hc4] at H5
  try rw [hbb]
  try rw [hc4]
  clear hW2 hc1 hE1 hr1 hE1' hbig hd2 hmm hbb hc4 h3 hz1 hc hm hsz
  go_wp2
  refine wp_loop_ghost_k (EhI ao n cap w r0 c m b c3 c4) n ?_ ?_
  · unfold EhI
    (repeat apply Exists.intro)
    refine ⟨⟨0, 0, [], [], rfl, by omega, rfl, H5.out, ⟨fun D hD => (by cases hD), List.nodup_nil⟩⟩, rfl⟩
  intro gk _ wr hinv
  unfold EhI at hinv
  obtain ⟨defs, hinv⟩ := hinv
  obtain ⟨u5, hinv⟩ := hinv
  obtain ⟨u1, hinv⟩ := hinv
  obtain ⟨u6, hinv⟩ := hinv
  obtain ⟨u7, hinv⟩ := hinv
  obtain ⟨u8, hinv⟩ := hinv
  obtain ⟨u9, hinv⟩ := hinv
  obtain ⟨u10, hinv⟩ := hinv
  obtain ⟨u11, hinv⟩ := hinv
  obtain ⟨u12, hinv⟩ := hinv
  obtain ⟨u13, hinv⟩ := hinv
  obtain ⟨u14, hinv⟩ := hinv
  obtain ⟨u15, hinv⟩ := hinv
  obtain ⟨u16, hinv⟩ := hinv
  obtain ⟨u17, hinv⟩ := hinv
  obtain ⟨u18, hinv⟩ := hinv
  obtain ⟨u19, hinv⟩ := hinv
  obtain ⟨u20, hinv⟩ := hinv
  obtain ⟨u21, hinv⟩ := hinv
  obtain ⟨u22, hinv⟩ := hinv
  obtain ⟨u23, hinv⟩ := hinv
  obtain ⟨u24, hinv⟩ := hinv
  obtain ⟨u25, hinv⟩ := hinv
  obtain ⟨u26, hinv⟩ := hinv
  obtain ⟨u27, hinv⟩ := hinv
  obtain ⟨u28, hinv⟩ := hinv
  obtain ⟨u29, hinv⟩ := hinv
  obtain ⟨u30, hinv⟩ := hinv
  obtain ⟨u31, hinv⟩ := hinv
  obtain ⟨u32, hinv⟩ := hinv
  obtain ⟨u33, hinv⟩ := hinv
  obtain ⟨u34, hinv⟩ := hinv
  obtain ⟨u35, hinv⟩ := hinv
  obtain ⟨u36, hinv⟩ := hinv
  obtain ⟨u37, hinv⟩ := hinv
  obtain ⟨u38, hinv⟩ := hinv
  obtain ⟨u39, hinv⟩ := hinv
  obtain ⟨u40, hinv⟩ := hinv
  obtain ⟨u41, hinv⟩ := hinv
  obtain ⟨u42, hinv⟩ := hinv
  obtain ⟨u43, hinv⟩ := hinv
  obtain ⟨u44, hinv⟩ := hinv
  obtain ⟨u45, hinv⟩ := hinv
  obtain ⟨u46, hinv⟩ := hinv
  obtain ⟨u47, hinv⟩ := hinv
  obtain ⟨u48, hinv⟩ := hinv
  obtain ⟨u49, hinv⟩ := hinv
  obtain ⟨u50, hinv⟩ := hinv
  obtain ⟨u51, hinv⟩ := hinv
  obtain ⟨u52, hinv⟩ := hinv
  obtain ⟨u53, hinv⟩ := hinv
  obtain ⟨u54, hinv⟩ := hinv
  obtain ⟨u55, hinv⟩ := hinv
  obtain ⟨u56, hinv⟩ := hinv
  obtain ⟨u57, hinv⟩ := hinv
  obtain ⟨u58, hinv⟩ := hinv
  obtain ⟨u59, hinv⟩ := hinv
  obtain ⟨u60, hinv⟩ := hinv
  obtain ⟨u61, hinv⟩ := hinv
  obtain ⟨u62, hinv⟩ := hinv
  obtain ⟨u63, hinv⟩ := hinv
  obtain ⟨u64, hinv⟩ := hinv
  obtain ⟨u65, hinv⟩ := hinv
  obtain ⟨u66, hinv⟩ := hinv
  obtain ⟨u67, hinv⟩ := hinv
  obtain ⟨u68, hinv⟩ := hinv
  obtain ⟨u69, hinv⟩ := hinv
  obtain ⟨u70, hinv⟩ := hinv
  obtain ⟨u71, hinv⟩ := hinv
  obtain ⟨u72, hinv⟩ := hinv
  obtain ⟨u73, hinv⟩ := hinv
  obtain ⟨u74, hinv⟩ := hinv
  obtain ⟨u75, hinv⟩ := hinv
  obtain ⟨u76, hinv⟩ := hinv
  obtain ⟨u77, hinv⟩ := hinv
  obtain ⟨u78, hinv⟩ := hinv
  obtain ⟨u79, hinv⟩ := hinv
  obtain ⟨u80, hinv⟩ := hinv
  obtain ⟨u81, hinv⟩ := hinv
  obtain ⟨u82, hinv⟩ := hinv
  obtain ⟨u83, hinv⟩ := hinv
  obtain ⟨u84, hinv⟩ := hinv
  obtain ⟨u85, hinv⟩ := hinv
  obtain ⟨u86, hinv⟩ := hinv
  obtain ⟨u87, hinv⟩ := hinv
  obtain ⟨u88, hinv⟩ := hinv
  obtain ⟨u89, hinv⟩ := hinv
  obtain ⟨u90, hinv⟩ := hinv
  obtain ⟨u91, hinv⟩ := hinv
  obtain ⟨u92, hinv⟩ := hinv
  obtain ⟨u93, hinv⟩ := hinv
  obtain ⟨u94, hinv⟩ := hinv
  obtain ⟨u95, hinv⟩ := hinv
  obtain ⟨u96, hinv⟩ := hinv
  obtain ⟨u97, hinv⟩ := hinv
  obtain ⟨u98, hinv⟩ := hinv
  obtain ⟨u99, hinv⟩ := hinv
  obtain ⟨u100, hinv⟩ := hinv
  obtain ⟨u101, hinv⟩ := hinv
  obtain ⟨u102, hinv⟩ := hinv
  obtain ⟨u103, hinv⟩ := hinv
  obtain ⟨u104, hinv⟩ := hinv
  obtain ⟨u105, hinv⟩ := hinv
  obtain ⟨u106, hinv⟩ := hinv
  obtain ⟨u107, hinv⟩ := hinv
  obtain ⟨u108, hinv⟩ := hinv
  obtain ⟨u109, hinv⟩ := hinv
  obtain ⟨u110, hinv⟩ := hinv
  obtain ⟨u111, hinv⟩ := hinv
  obtain ⟨u112, hinv⟩ := hinv
  obtain ⟨u113, hinv⟩ := hinv
  obtain ⟨u114, hinv⟩ := hinv
  obtain ⟨u115, hinv⟩ := hinv
  obtain ⟨u116, hinv⟩ := hinv
  obtain ⟨u117, hinv⟩ := hinv
  obtain ⟨u118, hinv⟩ := hinv
  obtain ⟨u119, hinv⟩ := hinv
  obtain ⟨u120, hinv⟩ := hinv
  obtain ⟨u121, hinv⟩ := hinv
  obtain ⟨u122, hinv⟩ := hinv
  obtain ⟨u123, hinv⟩ := hinv
  obtain ⟨u124, hinv⟩ := hinv
  obtain ⟨u125, hinv⟩ := hinv
  obtain ⟨u126, hinv⟩ := hinv
  obtain ⟨u127, hinv⟩ := hinv
  obtain ⟨u128, hinv⟩ := hinv
  obtain ⟨u129, hinv⟩ := hinv
  obtain ⟨u130, hinv⟩ := hinv
  obtain ⟨u131, hinv⟩ := hinv
  obtain ⟨u132, hinv⟩ := hinv
  obtain ⟨u133, hinv⟩ := hinv
  obtain ⟨u134, hinv⟩ := hinv
  obtain ⟨u135, hinv⟩ := hinv
  obtain ⟨u136, hinv⟩ := hinv
  obtain ⟨u137, hinv⟩ := hinv
  obtain ⟨u138, hinv⟩ := hinv
  obtain ⟨u139, hinv⟩ := hinv
  obtain ⟨u140, hinv⟩ := hinv
  obtain ⟨u141, hinv⟩ := hinv
  obtain ⟨u142, hinv⟩ := hinv
  obtain ⟨u143, hinv⟩ := hinv
  obtain ⟨u144, hinv⟩ := hinv
  obtain ⟨hrel, ha⟩ := hinv
  subst ha
  try dsimp only
  intro J0 K0 hJ0 hK0
  obtain ⟨j, now, l, Ds, rfl, hj, rfl, hst, hmk⟩ := hrel
  by_cases hlt : j < n
  · refine wp_mono (Q := Exit.then K0 (NoPanic _)) ?_ then_np
    by_cases h0 : (A j).1 = 0
    · by_cases hz : pinErr l (A j).2 = 0
      · exact eh_pin ao n cap w r0 c m b c3 c4 A gk j now l Ds wr HP hst hmk hj hlt hn80 h0 hz J0 K0 hJ0 hK0 _
      · exact eh_pinE ao n cap w r0 c m b c3 c4 A gk j now l Ds wr HP hst hmk hj hlt hn80 h0 hz J0 K0 hJ0 hK0 _
    by_cases h1 : (A j).1 = 1
    · by_cases hz : unpinErr l (A j).2 = 0
      · exact eh_unpin ao n cap w r0 c m b c3 c4 A gk j now l Ds wr HP hst hmk hj hlt hn80 h1 hz J0 K0 hJ0 hK0 _
      · exact eh_unpinE ao n cap w r0 c m b c3 c4 A gk j now l Ds wr HP hst hmk hj hlt hn80 h1 hz J0 K0 hJ0 hK0 _
    by_cases h2 : (A j).1 = 2
    · by_cases hz : advOk now l = true
      · exact eh_advY ao n cap w r0 c m b c3 c4 A gk j now l Ds wr HP hst hmk hj hlt hn80 h2 hz J0 K0 hJ0 hK0 _
      · exact eh_advN ao n cap w r0 c m b c3 c4 A gk j now l Ds wr HP hst hmk hj hlt hn80 h2 (by simpa using hz) J0 K0 hJ0 hK0 _
    · exact eh_else ao n cap w r0 c m b c3 c4 A gk j now l Ds wr HP hst hmk hj hlt hn80 h0 h1 h2 J0 K0 hJ0 hK0 _
  · have hd : decide (j < n) = false := by simp; omega
    have HST := Lib.hid (And.intro hst hmk)
    have HR := Lib.hid hr
    clear hst hmk hlt hj hr
    go_wp2_with fail
    refine (HW.out _).mono ?_
    rintro e w2 ⟨rfl, hE2⟩
    have hb2 := hE2.at HST.out.1.r (by simp)
    have q1 := cell_of hb2 (j := 0) rfl
    have q2 := free_of hb2 0
    have H2 := Lib.hid (And.intro (HST.out.1.ext.trans hE2) (And.intro hb2 (HST.out.2.ext0 hE2)))
    clear hE2 hb2
    go_wp2
    show LeavesInM _ _ _ _ _ _ _ _ _
    refine fin.out Ds _ (fun D hD => ⟨block_sc (show D ≠ r0 from fun e => ?_) (H2.out.2.2.at' D hD).1, by have := (H2.out.2.2.at' D hD).2; have := HR.out; omega⟩) H2.out.2.2.nd (H2.out.1.setCell (.inr (by have := HR.out; show w.heap.size ≤ r0; omega)) _) (cell_of (cell1_set H2.out.2.1 _) rfl) _ ?_
    · have := (H2.out.2.2.at' D hD).1
      rw [e, H2.out.2.1] at this
      simp at this
    · rfl
end Go.Proofs.Ytgpoplnfhlfogaa
