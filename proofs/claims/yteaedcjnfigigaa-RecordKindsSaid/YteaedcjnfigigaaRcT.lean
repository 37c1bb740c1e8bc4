/- The walk of the law RecordEach. -/
import Derived.Test.YteaedcjnfigigaaRcZ
import Derived.Deep.RegionLaw
import Derived.BigQuiet
import Derived.Test.YteaedcjnfigigaaRnd
namespace Go.Proofs.Yteaedcjnfigigaa
open Go Go.RowKit
attribute [local go_sem] Oper.semAt_some
attribute [local go_sem ↓] wp_load25

/-- a result that lies in a cell -/
theorem results_cellb {P : Program} {fn : Func} {p : Tmp} {ty : TypeId} (h : fn.results = #[.cell p ty]) (tmps : Array Value) (w : World) (a : Addr) (v : Value)
    (hi : (isAgg ty).run P w = .ok false w) (hp : tmps.getD p undef = .pointer (some a)) (hv : w.cell? a = some v) :
    (results fn tmps).run P w = .ok v w := by
  have hp' : tmps[p]?.getD undef = .pointer (some a) := by simpa using hp
  simp [results, h, hp', asAddr, Sem.run_bind, hi, go_sem, hv]

theorem eq25m (F G : Nat → Int) {A B : Array Value} (hA : arrF 24 F = A) (hB : arrF 24 G = B) {b : Bool} (hb : eqB F G = b) : ∀ w, (binOp .eql 25 (.agg A) (.agg B)).run Try.prog w = .ok (.bool b) w := by
  subst hA hB hb
  exact eq25 F G

/-- two records are the same when their lists are -/
theorem pack_same {n m : Nat} {L M : Nat → Int × Int} (h : checkE L n = 0) (h' : checkE M m = 0) : eqB (packW n L) (packW m M) = sameE n m L M := by
  obtain ⟨hok, hn, _⟩ := checkE_ok h
  obtain ⟨hok', hm, _⟩ := checkE_ok h'
  rw [Bool.eq_iff_iff, eqB_iff]
  unfold sameE
  constructor
  · intro he
    have h1 : n = m := by
      rw [← unpN_pack (L := L) hn, ← unpN_pack (L := M) hm]
      unfold unpN
      rw [he 1 (by omega)]
    subst h1
    rw [if_pos rfl, sameN_iff]
    intro i hi
    rw [← unpL_pack hok i hi, ← unpL_pack hok' i hi]
    unfold unpL
    rw [he _ (by omega), he _ (by omega)]
  · intro hs
    by_cases h1 : n = m
    · subst h1
      rw [if_pos rfl, sameN_iff] at hs
      intro i _
      rw [packW_congr n L M hs]
    · rw [if_neg h1] at hs
      cases hs
theorem eqfn (g : Nat) (lb : Array Value) (w : World) : (binOp .eql 44 (.func (.func g) #[] lb) .nilFunc).run Try.prog w = .ok (.bool false) w := by
  kernel_rfl

set_option maxRecDepth 100000 in
set_option maxHeartbeats 4000000 in
theorem rc_laweach (ao bo : Option Addr) (n m cap cap' : Nat) (L M : Nat → Int × Int) (w : World) (hp : Puts w ao n L) (hq : Puts w bo m M) (hU : PutsU L n) (hU' : PutsU M m) (hn : n ≤ 9223372036854775807) (hm : m ≤ 9223372036854775807) :
    Calls Try.prog 7 #[.slice ao n cap, .slice bo m cap'] w fun e w' => e = .returned (.bool true) ∧ Ext [] w w' := by
  have HW := Lib.hid (rc_works)
  have HU := Lib.hid hU
  have HU' := Lib.hid hU'
  have hE0 := ((Ext.refl [] w).alloc (.cells #[.slice ao n cap] 22)).alloc (.cells #[.bool false] 4)
  have hb2 : ((w.alloc (.cells #[.slice ao n cap] 22)).alloc (.cells #[.bool false] 4)).heap[w.heap.size]? = some (.cells #[.slice ao n cap] 22 (0, 0)) := block_al (World.alloc_heap_new _ _)
  have hb4 : ((w.alloc (.cells #[.slice ao n cap] 22)).alloc (.cells #[.bool false] 4)).heap[w.heap.size + 1]? = some (.cells #[.bool false] 4 (0, 0)) := by have := World.alloc_heap_new (w.alloc (.cells #[.slice ao n cap] 22)) (.cells #[.bool false] 4); rwa [World.size_alloc] at this
  generalize hw0 : (w.alloc (.cells #[.slice ao n cap] 22)).alloc (.cells #[.bool false] 4) = w0 at *
  have HP := Lib.hid (hp.ext hE0)
  have HQ := Lib.hid (hq.ext hE0)
  have c2 := cell_of (j := 0) (v := .slice ao n cap) hb2 rfl
  have H0 := Lib.hid (And.intro hE0 (And.intro hb2 hb4))
  clear hp hq hU hU' hE0 hb2 hb4
  have fin : Hid (∀ (tmps : Array Value) (W' : World), tmps.getD 4 undef = .pointer (some ⟨w.heap.size + 1, 0, none⟩) → Ext [] w0 W' → bodyPost Try.prog Try.f7 (fun e w' => e = .returned (.bool true) ∧ Ext [] w w') .ret { tmps := tmps, defers := [] } (W'.setCell ⟨w.heap.size + 1, 0, none⟩ (.bool true))) := by
    intro tmps W' ht hE
    refine bodyPost_ret (v := .bool true) (results_cellb Try.results7 _ _ ⟨w.heap.size + 1, 0, none⟩ _ (by kernel_rfl) ht ?_) rfl ⟨rfl, ?_⟩
    · exact World.cell?_setCell_same _ _ _ (cell_of (j := 0) (v := .bool false) (hE.at H0.out.2.2 (by simp)) rfl)
    · exact (H0.out.1.trans hE).setCell (.inr (Nat.le_succ _)) _
  have finM : Hid (∀ (Ds : List Nat) (tmps : Array Value) (W' : World), tmps.getD 4 undef = .pointer (some ⟨w.heap.size + 1, 0, none⟩) → Ext [] w0 W' → (∀ D ∈ Ds, w0.heap.size ≤ D ∧ W'.heap[D]? = some (.deferred (some []))) → Ds.Nodup →
      LeavesInM Fence.wide 0 Try.prog Try.f7 tmps (fun e w' => e = .returned (.bool true) ∧ Ext [] w w') (Ds.map fun D => { target := .collected D, args := #[] }) .returning (W'.setCell ⟨w.heap.size + 1, 0, none⟩ (.bool true))) := by
    intro Ds tmps W' ht hE hD hN
    have hlt := lt_of_block H0.out.2.2
    refine leaves_marks (v := .bool true) Ds _ (fun D hm => block_sc (by show D ≠ w.heap.size + 1; have := (hD D hm).1; omega) (hD D hm).2) hN (fun w' hE' => ⟨results_cellb Try.results7 _ _ ⟨w.heap.size + 1, 0, none⟩ _ (by kernel_rfl) ht ?_, rfl, ?_⟩)
    · exact hE'.cell (World.cell?_setCell_same _ _ _ (cell_of (j := 0) (v := .bool false) (hE.at H0.out.2.2 (by simp)) rfl)) (fun hm => by have := (hD _ hm).1; simp at this; omega)
    · exact ((H0.out.1.trans hE).setCell (.inr (Nat.le_succ _)) _).trans' hE' (fun j hj => .inr (by have := (hD j hj).1; have := H0.out.1.size; omega))
  by_cases g1 : 11 < n
  · go_enter Try.func7, Try.ntmps7
    go_wp2_with fail
    refine (HW.out w0).mono ?_
    rintro e W ⟨rfl, hE⟩
    have b4 := hE.at H0.out.2.2 (by simp)
    have c4 := cell_of (j := 0) (v := .bool false) b4 rfl
    have f4 := free_of b4 0
    go_wp2
    exact fin.out _ _ rfl hE
  by_cases g2 : 11 < m
  · go_enter Try.func7, Try.ntmps7
    go_wp2_with fail
    refine (HW.out w0).mono ?_
    rintro e W ⟨rfl, hE⟩
    have b4 := hE.at H0.out.2.2 (by simp)
    have c4 := cell_of (j := 0) (v := .bool false) b4 rfl
    have f4 := free_of b4 0
    go_wp2
    exact fin.out _ _ rfl hE
  obtain ⟨F, hF⟩ : ∃ F, (if checkE L n = 0 then packW n L else fun _ => 0) = F := ⟨_, rfl⟩
  obtain ⟨G, hG⟩ : ∃ G, (if checkE M m = 0 then packW m M else fun _ => 0) = G := ⟨_, rfl⟩
  obtain ⟨ea, hea⟩ : ∃ ea, checkE L n = ea := ⟨_, rfl⟩
  obtain ⟨eb, heb⟩ : ∃ eb, checkE M m = eb := ⟨_, rfl⟩
  have HPK : Hid (∀ W, Puts W ao n L → Calls Try.prog 9 #[.slice ao n cap] W fun e w' => e = .returned (.tuple #[.agg (arrF 24 F), .int .i64 ea]) ∧ Ext [] W w') := by
    show ∀ W, _
    intro W hp
    refine (rc_pack ao n cap L W hp hn).mono ?_
    rintro e w' ⟨rfl, hE⟩
    rw [hF, hea]
    exact ⟨rfl, hE⟩
  have HPK' : Hid (∀ W, Puts W bo m M → Calls Try.prog 9 #[.slice bo m cap'] W fun e w' => e = .returned (.tuple #[.agg (arrF 24 G), .int .i64 eb]) ∧ Ext [] W w') := by
    show ∀ W, _
    intro W hp
    refine (rc_pack bo m cap' M W hp hm).mono ?_
    rintro e w' ⟨rfl, hE⟩
    rw [hG, heb]
    exact ⟨rfl, hE⟩
  have hea4 : 0 ≤ ea ∧ ea ≤ 5 := by rcases checkE_cases L n with h | h | h | h <;> omega
  have heb4 : 0 ≤ eb ∧ eb ≤ 5 := by rcases checkE_cases M m with h | h | h | h <;> omega
  have HFG := Lib.hid (And.intro hF (And.intro hG (And.intro hea heb)))
  clear hF hG hea heb
  refine (callsIn_wide (n := 0)).1 (callsIn_of_wp_marks Try.func7 rfl trivial ?_ rfl)
  simp only [Try.ntmps7, List.size_toArray, List.length_cons, List.length_nil, Nat.reduceAdd, Nat.reduceSub, Array.replicate_succ, Array.replicate_zero, List.push_toArray, List.append_toArray, List.nil_append, List.cons_append]
  refine wpIn_wide.2 (wp_mono (Q := NoPanic (bodyPostM Fence.wide 0 Try.prog Try.f7 fun e w' => e = .returned (.bool true) ∧ Ext [] w w')) ?_ NoPanic.out)
  go_wp2_with fail
  refine (HPK.out w0 HP.out).mono ?_
  rintro e W1 ⟨rfl, hE1⟩
  have HE1 := Lib.hid hE1
  clear hE1
  go_wp2_with ((with_reducible refine store25z (g := W1.heap.size) (G := F) ?_ ?_ ?_ ?_); exact rfl; exact rfl; exact rfl; intro W2 hE2 hs2 hb2; clear hs2)
  have HE2 := Lib.hid (HE1.out.trans hE2)
  have HB2 := Lib.hid hb2
  clear hE2 hb2
  refine (HPK'.out W2 (HQ.out.ext HE2.out)).mono ?_
  rintro e W3 ⟨rfl, hE3⟩
  have HB3 := Lib.hid (hE3.at HB2.out (by simp))
  have HE3 := Lib.hid (HE2.out.trans hE3)
  clear hE3
  go_wp2_with ((with_reducible refine store25z (g := W3.heap.size) (G := G) ?_ ?_ ?_ ?_); exact rfl; exact rfl; exact rfl; intro W4 hE4 hs4 hb4; clear hs4)
  have HE4 := Lib.hid (HE3.out.trans hE4)
  have HB4 := Lib.hid (And.intro (hE4.at HB3.out (by simp)) hb4)
  clear hE4 hb4
  refine (rc_num ea W4 (by omega)).mono ?_
  rintro e w' ⟨rfl, rfl⟩
  by_cases ha0 : ea = 0
  · by_cases hb0 : eb = 0
    · subst ha0 hb0
      go_wp2_with fail
      refine (rc_num 0 _ (by omega)).mono ?_
      rintro e w' ⟨rfl, rfl⟩
      have HC := Lib.hid (checkE_ok HFG.out.2.2.1)
      have HC' := Lib.hid (checkE_ok HFG.out.2.2.2)
      have hF : F = packW n L := by rw [← HFG.out.1, if_pos HFG.out.2.2.1]
      have hG : G = packW m M := by rw [← HFG.out.2.1, if_pos HFG.out.2.2.2]
      have HFF := Lib.hid (And.intro hF hG)
      clear hF hG
      have hF0 : ∀ i, 0 ≤ F i := fun i => by rw [HFF.out.1]; exact (packW_U HC.out.2.1 HC.out.1 HU.out i).1
      have HF0 := Lib.hid hF0
      clear hF0
      have b5 : (W4.alloc (.cells #[.int .i64 0] 3)).heap[W1.heap.size]? = some (.cells (arrF 24 F) 25 (0, 0)) := block_al HB4.out.1
      go_wp2_with ((with_reducible refine load25 b5 ?_ ?_); exact rfl)
      refine (rc_each F _).mono ?_
      rintro e w' ⟨rfl, rfl⟩
      have b6 : ((W4.alloc (.cells #[.int .i64 0] 3)).alloc (.cells (arrF 24 F) 25)).heap[W1.heap.size]? = some (.cells (arrF 24 F) 25 (0, 0)) := block_al b5
      have HB5 := Lib.hid b5
      have hef := eqfn 27
      clear b5
      go_wp2_with ((with_reducible refine load25 b6 ?_ ?_); exact rfl)
      refine (rc_each F _).mono ?_
      rintro e w' ⟨rfl, rfl⟩
      have hE6 := (((Ext.refl [] W4).alloc (.cells #[.int .i64 0] 3)).alloc (.cells (arrF 24 F) 25)).alloc (.cells (arrF 24 F) 25)
      have hs6 : (((W4.alloc (.cells #[.int .i64 0] 3)).alloc (.cells (arrF 24 F) 25)).alloc (.cells (arrF 24 F) 25)).heap.size = W4.heap.size + 3 := by simp
      have hn6 : (((W4.alloc (.cells #[.int .i64 0] 3)).alloc (.cells (arrF 24 F) 25)).alloc (.cells (arrF 24 F) 25)).heap[W4.heap.size]? = some (.cells #[.int .i64 0] 3 (0, 0)) := block_al (block_al (World.alloc_heap_new _ _))
      have hB6 : (((W4.alloc (.cells #[.int .i64 0] 3)).alloc (.cells (arrF 24 F) 25)).alloc (.cells (arrF 24 F) 25)).heap[W4.heap.size + 2]? = some (.cells (arrF 24 F) 25 (0, 0)) := by
        have := World.alloc_heap_new ((W4.alloc (.cells #[.int .i64 0] 3)).alloc (.cells (arrF 24 F) 25)) (.cells (arrF 24 F) 25)
        rwa [show ((W4.alloc (.cells #[.int .i64 0] 3)).alloc (.cells (arrF 24 F) 25)).heap.size = W4.heap.size + 2 from by simp] at this
      rw [show ((W4.alloc (.cells #[.int .i64 0] 3)).alloc (.cells (arrF 24 F) 25)).heap.size = W4.heap.size + 2 from by simp]
      generalize hW6 : ((W4.alloc (.cells #[.int .i64 0] 3)).alloc (.cells (arrF 24 F) 25)).alloc (.cells (arrF 24 F) 25) = W6 at *
      have H6 := Lib.hid (And.intro hE6 (And.intro hs6 (And.intro hn6 hB6)))
      clear hE6 hs6 hn6 hB6 hW6 b6
      have hcnt : cntE F = n := by
        unfold cntE
        rw [if_pos (by rw [HFF.out.1]; exact unpE_pack HFG.out.2.2.1), HFF.out.1]
        exact unpN_pack HC.out.2.1
      have hlist : ∀ i, i < n → unpL F i = L i := by
        rw [HFF.out.1]
        exact unpL_pack HC.out.1
      have HL := Lib.hid (And.intro hcnt hlist)
      clear hcnt hlist
      go_wp2
      refine wpIn_wide.1 (wp_range (gf := 27) (lb := #[.pointer (some ⟨W4.heap.size + 2, 0, none⟩)]) rfl (fun args w => enters_of Try.func27 (by kernel_rfl) rfl args w)
        (each_seq (W4.heap.size + 2) F HF0.out) (fun pre x h => by obtain ⟨k, _, _, rfl⟩ := enc_last h; rfl) [W4.heap.size]
        (fun mm pre W => mm = [W4.heap.size] ∧ Ext [W4.heap.size] W6 W ∧ W.heap[W4.heap.size]? = some (.cells #[.int .i64 pre.length] 3 (0, 0)))
        (fun _ _ => False) ?_ ?_ ?_ ?_ ?_ ?_ ?_ ?_)
      · exact fun mm pre => (Steady.const _ _).and ((Steady.ext (Nat.le_refl _)).and (Steady.block (.inr rfl)))
      · exact fun c => Steady.const _ _
      · rintro mm pre W ⟨_, hE, _⟩
        exact hE.at H6.out.2.2.2 (by simp)
      · intro j hj
        simp at hj
        have := H6.out.2.1
        omega
      · exact ⟨rfl, Ext.refl _ _, H6.out.2.2.1⟩
      · rintro l mm pre x W hl ⟨rfl, hE, hnb⟩ hok
        obtain ⟨k, hk, rfl, rfl⟩ := enc_last hok
        rw [HL.out.1] at hk
        rw [HL.out.2 k hk]
        rw [encN_len] at hnb
        have hw4 : w.heap.size < W4.heap.size := Nat.lt_of_lt_of_le (lt_of_block H0.out.2.1) HE4.out.size
        have q2 : W.cell? ⟨w.heap.size, 0, none⟩ = some (.slice ao n cap) := hE.cell ((HE4.out.trans H6.out.1).cell c2 (by simp)) (by simp; omega)
        obtain ⟨b, off, rfl, hbw0, hcell⟩ : ∃ b off, ao = some ⟨b, off, none⟩ ∧ b < w0.heap.size ∧ W.cell? ⟨b, off + k * 2, none⟩ = some (.int .i64 (L k).1) ∧ W.cell? ⟨b, off + k * 2 + 1, none⟩ = some (.int .u64 (L k).2) := by
          rcases HP.out with h | ⟨b, off, h1, h2⟩
          · omega
          · have hlt := World.block_lt_of_cell? _ _ (h2 k hk).1
            have hlt : b < w0.heap.size := hlt
            have := HE4.out.size
            exact ⟨b, off, h1, hlt, hE.cell ((HE4.out.trans H6.out.1).cell (h2 k hk).1 (by simp)) (by simp; omega), hE.cell ((HE4.out.trans H6.out.1).cell (h2 k hk).2 (by simp)) (by simp; omega)⟩
        have HEW := Lib.hid (And.intro hE hnb)
        clear hE hnb hok
        intro K hK
        gi_wp2
        refine hK _ _ ((Ext.refl [] _).alloc _) ?_
        intro W' hC
        clear hK K
        have k2 := Steady.cell _ _ (cell_al (o := .cells #[.int .i64 (L k).1, .int .u64 (L k).2] 47) q2) hC
        have k3 := Steady.cell _ _ (cell_al (o := .cells #[.int .i64 (L k).1, .int .u64 (L k).2] 47) hcell.1) hC
        have k4 := Steady.cell _ _ (cell_al (o := .cells #[.int .i64 (L k).1, .int .u64 (L k).2] 47) hcell.2) hC
        have d1 := Steady.cell _ _ (cell_of (j := 0) (v := .int .i64 (L k).1) (World.alloc_heap_new W (.cells #[.int .i64 (L k).1, .int .u64 (L k).2] 47)) rfl) hC
        have d2 := Steady.cell _ _ (cell_of (j := 1) (v := .int .u64 (L k).2) (World.alloc_heap_new W (.cells #[.int .i64 (L k).1, .int .u64 (L k).2] 47)) rfl) hC
        have bn := hC.block _ _ (block_al (o := .cells #[.int .i64 (L k).1, .int .u64 (L k).2] 47) HEW.out.2) (.inr rfl)
        have k1 := cell_of (j := 0) (v := .int .i64 k) bn rfl
        have f1 := free_of bn 0
        have HN := Lib.hid bn
        have HCA := Lib.hid hC
        clear q2 hcell bn hC
        have hge : decide (n ≤ k) = false := by simp; omega
        have hne : ∀ w, (binOp .neq 47 (.agg #[.int .i64 (L k).1, .int .u64 (L k).2]) (.agg #[.int .i64 (L k).1, .int .u64 (L k).2])).run Try.prog w = .ok (.bool false) w := by
          intro w; have := nePut (L k).1 (L k).2 (L k).1 (L k).2 w; simpa using this
        gi_wp2
        refine wpIn_region_round_quiet _ rfl (by kernel_rfl) (by kernel_rfl) (by kernel_rfl) ?_
        repeat (gi_big_quiet_step (fail))
        refine wpQuietIn_nil ?_
        intro _ hw'
        obtain ⟨nq, hw''⟩ := hw'
        subst hw''
        gi_wp2
        have hE' := (Steady.ext (Nat.le_refl _)) _ _ (HEW.out.1.alloc (.cells #[.int .i64 (L k).1, .int .u64 (L k).2] 47)) HCA.out
        refine ⟨((Ext.refl _ W').drewN nq).setCell (.inl (by simp)) _, [W4.heap.size], Sub.refl _ _, rfl, (hE'.drewN nq).setCell (.inl (by simp)) _, ?_⟩
        rw [List.length_append, encN_len]
        exact cell1_set (w := W'.drewN nq) HN.out _
      · intro D mm xs W hD hx hi hdD
        obtain ⟨rfl, hE, hnb⟩ := hi
        rw [show xs = encN (unpL F) (cntE F) from hx, encN_len, HL.out.1] at hnb
        have hw4 : w.heap.size < W4.heap.size := Nat.lt_of_lt_of_le (lt_of_block H0.out.2.1) HE4.out.size
        have hs6 := H6.out.2.1
        have EW : Ext [] w0 W := (HE4.out.trans H6.out.1).trans' hE (fun j hj => .inr (by simp at hj; have := HE4.out.size; omega))
        have q2 : W.cell? ⟨w.heap.size, 0, none⟩ = some (.slice ao n cap) := EW.cell c2 (by simp)
        have k1 := cell_of (j := 0) (v := .int .i64 n) hnb rfl
        have r1 := hE.at (H6.out.1.at HB4.out.1 (by simp)) (by simp; have := lt_of_block HB2.out; have := lt_of_block HB4.out.1; have := HE3.out.size; omega)
        have r2 := hE.at (H6.out.1.at HB4.out.2 (by simp)) (by simp; have := lt_of_block HB4.out.2; omega)
        have HPW := Lib.hid (HP.out.ext EW)
        have HQW := Lib.hid (HQ.out.ext EW)
        have HEW := Lib.hid EW
        have b4 := EW.at H0.out.2.2 (by simp)
        have hs := pack_same HFG.out.2.2.1 HFG.out.2.2.2
        rw [← HFF.out.1, ← HFF.out.2] at hs
        have HXN := Lib.hid (And.intro hx hdD)
        clear hE hnb hx EW hdD
        obtain ⟨A, hA⟩ : ∃ A : Array Value, arrF 24 F = A := ⟨_, rfl⟩
        obtain ⟨B, hB⟩ : ∃ A : Array Value, arrF 24 G = A := ⟨_, rfl⟩
        have hSame : Hid (∀ w', Ext [] W w' → Calls Try.prog 17 #[.slice ao n cap, .slice bo m cap'] w' fun e w'' => e = .returned (.bool (sameE n m L M)) ∧ Ext [] w' w'') := by
          show ∀ w', _
          intro w' hE'
          exact rc_same ao bo n m cap cap' L M w' (HPW.out.ext hE') (HQW.out.ext hE') hn hm
        generalize sameE n m L M = sb at *
        have heq := eq25m F G hA hB hs
        clear hs
        rw [hA] at r1
        rw [hB] at r2
        obtain ⟨ro1, rv1⟩ : rowOk W.drew (.pointer (some ⟨W1.heap.size, 0, none⟩)) = true ∧ rowVal W.drew (.pointer (some ⟨W1.heap.size, 0, none⟩)) = .agg A := by rw [← hA]; exact row_of (by rw [hA]; exact r1)
        obtain ⟨ro2, rv2⟩ : rowOk W.drew (.pointer (some ⟨W3.heap.size, 0, none⟩)) = true ∧ rowVal W.drew (.pointer (some ⟨W3.heap.size, 0, none⟩)) = .agg B := by rw [← hB]; exact row_of (by rw [hB]; exact r2)
        have f4 := free_of (w := W.drew) b4 0
        have c4 := cell_of (w := W.drew) (j := 0) (v := .bool false) b4 rfl
        rw [hA, hB]
        have heqb : ∀ w, (binOp .eql 4 (.bool sb) (.bool sb)).run Try.prog w = .ok (.bool true) w := by intro w; cases sb <;> kernel_rfl
        go_wp2
        go_region_law (first
          | (go_simp; go_at_call 17; refine (hSame.out _ (Ext.refl [] W).drew).mono ?_; rintro e W7 ⟨rfl, hE7⟩; have q27 := hE7.cell (w := W.drew) q2 (by simp); have k17 := hE7.cell (w := W.drew) k1 (by simp); obtain ⟨ro17, rv17⟩ : rowOk W7 (.pointer (some ⟨W1.heap.size, 0, none⟩)) = true ∧ rowVal W7 (.pointer (some ⟨W1.heap.size, 0, none⟩)) = .agg A := (by rw [← hA]; exact row_of (by rw [hA]; exact hE7.at (w := W.drew) r1 (by simp))); obtain ⟨ro27, rv27⟩ : rowOk W7 (.pointer (some ⟨W3.heap.size, 0, none⟩)) = true ∧ rowVal W7 (.pointer (some ⟨W3.heap.size, 0, none⟩)) = .agg B := (by rw [← hB]; exact row_of (by rw [hB]; exact hE7.at (w := W.drew) r2 (by simp))))
          | (go_simp; go_at_call 8; refine (HW.out _).mono ?_; rintro e W8 ⟨rfl, hE8⟩; have b48 := hE8.at (hE7.at (w := W.drew) b4 (by simp)) (by simp); have f48 := free_of b48 0; have c48 := cell_of (j := 0) (v := .bool false) b48 rfl))
        all_goals
          go_wp2
          exact finM.out [D] _ _ rfl (HEW.out.drew.trans (hE7.trans hE8)) (fun D' hD' => by
            obtain rfl : D' = D := by simpa using hD'
            exact ⟨Nat.le_trans (HE4.out.trans H6.out.1).size hD, hE8.at (hE7.at (w := W.drew) HXN.out.2 (by simp)) (by simp)⟩) (by simp)
      · intro D c W hD hi hdD
        exact hi.elim
    · have hbb : (eb == 0) = false := by simpa using hb0
      subst ha0
      go_wp2_with fail
      refine (rc_num eb _ (by omega)).mono ?_
      rintro e w' ⟨rfl, rfl⟩
      go_wp2_with fail
      refine (HW.out _).mono ?_
      rintro e W ⟨rfl, hE⟩
      have b4 := hE.at (HE4.out.at H0.out.2.2 (by simp)) (by simp)
      have c4 := cell_of (j := 0) (v := .bool false) b4 rfl
      have f4 := free_of b4 0
      go_wp2
      exact finM.out [] _ _ rfl (HE4.out.trans hE) (by simp) (by simp)
  · have hab : (ea == 0) = false := by simpa using ha0
    go_wp2_with fail
    refine (HW.out _).mono ?_
    rintro e W ⟨rfl, hE⟩
    have b4 := hE.at (HE4.out.at H0.out.2.2 (by simp)) (by simp)
    have c4 := cell_of (j := 0) (v := .bool false) b4 rfl
    have f4 := free_of b4 0
    go_wp2
    exact finM.out [] _ _ rfl (HE4.out.trans hE) (by simp) (by simp)
end Go.Proofs.Yteaedcjnfigigaa
