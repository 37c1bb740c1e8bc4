/- The walk of the law AllocPlays. -/
import Derived.Test.YtgpoplnfhlfogaaAmC
import Derived.Test.YtgpoplnfhlfogaaAmD
import Derived.Test.YtgpoplnfhlfogaaAlK
namespace Go.Proofs.Ytgpoplnfhlfogaa
open Go Go.RowKit Go.Shelf
attribute [local go_sem] Oper.semAt_some

/-- where the law's pools stand -/
structure PlSt (w wr : World) (c mb g : Nat) (lo : Int) (n : Nat) (S : Lns) (ao : Option Addr) (cap : Nat) (b : Int) : Prop where
  pool : Pool wr c mb lo (lo + (n : Int) - 1) S
  row : RPl wr ao lo n S
  want : wr.heap[g]? = some (.cells #[.int .i64 lo, .slice ao n cap] 56 (0, 0))
  res : wr.heap[w.heap.size]? = some (.cells #[.bool false] 4 (0, 0))
  cnt : ∀ q, 0 ≤ (S q).2 ∧ (S q).2 ≤ b
  ins : InL S lo n
  ext : Ext [] w wr
  hc : w.heap.size < c
  hg : w.heap.size < g
theorem PlSt.ext1 {w wr w' : World} {c mb g : Nat} {lo : Int} {n : Nat} {S : Lns} {ao : Option Addr} {cap : Nat} {b : Int} (h : PlSt w wr c mb g lo n S ao cap b) (hE : Ext [] wr w') : PlSt w w' c mb g lo n S ao cap b :=
  ⟨h.pool.ext hE (by simp) (by simp), h.row.ext0 hE, hE.at h.want (by simp), hE.at h.res (by simp), h.cnt, h.ins, h.ext.trans hE, h.hc, h.hg⟩
theorem PlSt.cg {w wr : World} {c mb g : Nat} {lo : Int} {n : Nat} {S : Lns} {ao : Option Addr} {cap : Nat} {b : Int} (h : PlSt w wr c mb g lo n S ao cap b) : g ≠ c := by
  rintro rfl
  have := h.want.symm.trans h.pool.1
  simp at this
/-- behind a call by both, and the stores -/
theorem PlSt.acted {w wr wa W : World} {c mb g c' mb' : Nat} {lo : Int} {n : Nat} {S S' : Lns} {ao ao' : Option Addr} {cap cap' : Nat} {b : Int} (h : PlSt w wr c mb g lo n S ao cap b)
    (hE : Ext [c] wr wa) (hp : Pool wa c' mb' lo (lo + (n : Int) - 1) S') (hR : RPl wa ao' lo n S') (hc : c' = c ∨ wr.heap.size ≤ c') (hcnt : ∀ q, 0 ≤ (S' q).2 ∧ (S' q).2 ≤ b + 1) (hin : InL S' lo n) (hW : Ext [] wa W) :
    PlSt w ((W.setCell ⟨g, 0, none⟩ (.int .i64 lo)).setCell ⟨g, 1, none⟩ (.slice ao' n cap')) c' mb' g lo n S' ao' cap' (b + 1) := by
  have hgl : g < wr.heap.size := lt_of_block h.want
  have hrl : w.heap.size < wr.heap.size := lt_of_block h.res
  have hE3 : Ext [g] W ((W.setCell ⟨g, 0, none⟩ (.int .i64 lo)).setCell ⟨g, 1, none⟩ (.slice ao' n cap')) := (((Ext.refl [g] W).setCell (.inl (by simp)) _).setCell (.inl (by simp)) _)
  have hc1 := h.hc
  have hg1 := h.hg
  have hwg : W.heap[g]? = some (.cells #[.int .i64 lo, .slice ao n cap] 56 (0, 0)) := (hE.then hW).at h.want (by simp; exact h.cg)
  have hpW := hp.ext hW (by simp) (by simp)
  have hne : c' ≠ g := by
    rintro rfl
    have := hwg.symm.trans hpW.1
    simp at this
  refine ⟨hpW.ext hE3 (by simpa using hne) (by simpa using hpW.2.apart hwg), (hR.ext0 hW).apart hwg hE3, pair_set1 (pair_set0 hwg), hE3.at ((hE.then hW).at h.res (by simp; omega)) (by simp; omega), hcnt, hin, ?_, by omega, h.hg⟩
  exact (h.ext.trans' (hE.then hW) (fun j hj => .inr (by simp at hj; omega))).trans' hE3 (fun j hj => .inr (by simp at hj; omega))

/-- behind a call by both, its answer laid into a cell -/
def Laid (wr W : World) (c c' mb' : Nat) (lo : Int) (n : Nat) (S' : Lns) (ao' : Option Addr) (cap' b : Nat) : Prop :=
  Ext [c] wr W ∧ Pool W c' mb' lo (lo + (n : Int) - 1) S' ∧ RPl W ao' lo n S' ∧ (c' = c ∨ wr.heap.size ≤ c') ∧ wr.heap.size ≤ b ∧ W.heap[b]? = some (.cells #[.int .i64 lo, .slice ao' n cap'] 56 (0, 0))
theorem Laid.new {wr w5 : World} {c c' mb' : Nat} {lo : Int} {n : Nat} {S' : Lns} {ao' : Option Addr} {cap' : Nat} (hE : Ext [c] wr w5) (hp : Pool w5 c' mb' lo (lo + (n : Int) - 1) S') (hR : RPl w5 ao' lo n S') (hc : c' = c ∨ wr.heap.size ≤ c') :
    Laid wr (w5.alloc (.cells #[.int .i64 lo, .slice ao' n cap'] 56)) c c' mb' lo n S' ao' cap' w5.heap.size :=
  ⟨hE.alloc _, hp.ext ((Ext.refl [] _).alloc _) (by simp) (by simp), hR.ext0 ((Ext.refl [] _).alloc _), hc, hE.size, World.alloc_heap_new _ _⟩
theorem Laid.set {wr w5 : World} {c c' mb' : Nat} {lo : Int} {n : Nat} {S' : Lns} {ao' : Option Addr} {cap' : Nat} (hE : Ext [c] wr w5) (hp : Pool w5 c' mb' lo (lo + (n : Int) - 1) S') (hR : RPl w5 ao' lo n S') (hc : c' = c ∨ wr.heap.size ≤ c')
    (hb : w5.heap[wr.heap.size]? = some (.cells #[.int .i64 0, .slice none 0 0] 56 (0, 0))) :
    Laid wr ((w5.setCell ⟨wr.heap.size, 0, none⟩ (.int .i64 lo)).setCell ⟨wr.heap.size, 1, none⟩ (.slice ao' n cap')) c c' mb' lo n S' ao' cap' wr.heap.size := by
  have hE3 : Ext [wr.heap.size] w5 ((w5.setCell ⟨wr.heap.size, 0, none⟩ (.int .i64 lo)).setCell ⟨wr.heap.size, 1, none⟩ (.slice ao' n cap')) := (((Ext.refl [wr.heap.size] w5).setCell (.inl (by simp)) _).setCell (.inl (by simp)) _)
  have hne : c' ≠ wr.heap.size := by
    rintro rfl
    have := hb.symm.trans hp.1
    simp at this
  exact ⟨hE.trans' hE3 (fun j hj => .inr (by simp at hj; omega)), hp.ext hE3 (by simpa using hne) (by simpa using hp.2.apart hb), hR.apart hb hE3, hc, Nat.le_refl _, pair_set1 (pair_set0 hb)⟩

set_option maxRecDepth 100000 in
set_option maxHeartbeats 8000000 in
theorem al_plays (lo hi : Int) (ao : Option Addr) (n cap : Nat) (A : Nat → ActV) (w : World) (hp : Acts w ao n A) (hn : n ≤ 9223372036854775807) (hA : ∀ i, i < n → ActOk (A i)) (hlo : I64 lo) (hhi : I64 hi) :
    Calls Try.prog 6 #[.int .i64 lo, .int .i64 hi, .slice ao n cap] w fun e w' => e = .returned (.bool true) ∧ Ext [] w w' := by
  have HW := Lib.hid (al_works)
  have fin : Hid (∀ (Ds : List Nat) (W : World) (x : Value), (∀ D ∈ Ds, W.heap[D]? = some (.deferred (some [])) ∧ w.heap.size < D) → Ds.Nodup → W.heap[w.heap.size]? = some (.cells #[x] 4 (0, 0)) → Ext [] w W → ∀ tmps : Array Value, tmps.getD 6 undef = .pointer (some ⟨w.heap.size, 0, none⟩) →
      LeavesInM Fence.wide 0 Try.prog Try.f6 tmps (fun e w' => e = .returned (.bool true) ∧ Ext [] w w') (Ds.map fun D => { target := .collected D, args := #[] }) .returning (W.setCell ⟨w.heap.size, 0, none⟩ (.bool true))) := by
    intro Ds W x hD hnd hb hE tmps ht
    obtain ⟨W5, hW5⟩ : ∃ W5, W5 = W.setCell ⟨w.heap.size, 0, none⟩ (.bool true) := ⟨_, rfl⟩
    have b5 : W5.heap[w.heap.size]? = some (.cells #[.bool true] 4 (0, 0)) := by rw [hW5]; exact cell1_set hb _
    have e5 : Ext [] w W5 := by rw [hW5]; exact hE.setCell (.inr (by simp)) _
    have d5 : ∀ D ∈ Ds, W5.heap[D]? = some (.deferred (some [])) := fun D hd => by rw [hW5]; exact block_sc (show D ≠ w.heap.size by have := (hD D hd).2; omega) (hD D hd).1
    rw [← hW5]
    exact leaves_marks (v := .bool true) Ds W5 d5 hnd (fun w' hE' => ⟨results_cellb Try.results6 _ _ ⟨w.heap.size, 0, none⟩ _ (by kernel_rfl) ht (hE'.cell (cell_of (j := 0) b5 rfl) (fun hm => by have := (hD _ hm).2; simp at this)), rfl, e5.trans' hE' (fun j hj => .inr (by have := (hD j hj).2; omega))⟩)
  obtain ⟨w0, hw0⟩ : ∃ w0, w.alloc (.cells #[.bool false] 4) = w0 := ⟨_, rfl⟩
  have hE0 : Ext [] w w0 := by rw [← hw0]; exact (Ext.refl _ _).alloc _
  have hb0 : w0.heap[w.heap.size]? = some (.cells #[.bool false] 4 (0, 0)) := by rw [← hw0]; exact World.alloc_heap_new _ _
  have HF := Lib.hid (fun W (hE : Ext [] w W) => al_few ao n cap A 40 W (hp.ext hE) hn (fun i hi => by have := (hA i hi).2.2.1; unfold maxLen at this; omega))
  have HP := Lib.hid (And.intro hp (And.intro hA hn))
  have H0 := Lib.hid (And.intro hE0 hb0)
  have HI := Lib.hid (And.intro hlo hhi)
  clear hE0 hb0 hp hA hn hlo hhi
  refine (callsIn_wide (n := 0)).1 (callsIn_of_wp_marks Try.func6 rfl trivial ?_ rfl)
  simp only [Try.ntmps6, List.size_toArray, List.length_cons, List.length_nil, Nat.reduceAdd, Nat.reduceSub, Array.replicate_succ, Array.replicate_zero, List.push_toArray, List.append_toArray, List.nil_append, List.cons_append]
  refine wpIn_wide.2 (wp_mono (Q := NoPanic (bodyPostM Fence.wide 0 Try.prog Try.f6 fun e w' => e = .returned (.bool true) ∧ Ext [] w w')) ?_ NoPanic.out)
  cases hr : rightB lo hi with
  | false =>
    have HR := Lib.hid (fun W => rf_Right lo hi W)
    rw [hr] at HR
    have HN := Lib.hid (al_NewBad lo hi w0 hr)
    clear hr
    go_wp2_with fail
    refine HN.out.mono ?_
    rintro e w1 ⟨rfl, hE1⟩
    have hb1 := hE1.at H0.out.2 (by simp)
    have H1 := Lib.hid (And.intro (H0.out.1.trans hE1) hb1)
    clear hE1 hb1 hw0
    go_wp2_with fail
    refine (HR.out w1).mono ?_
    rintro e w' ⟨rfl, rfl⟩
    go_wp2_with fail
    refine (al_num _ _).mono ?_
    rintro e w' ⟨rfl, rfl⟩
    go_wp2_with fail
    refine (HW.out _).mono ?_
    rintro e w2 ⟨rfl, hE2⟩
    have hb2 := hE2.at H1.out.2 (by simp)
    have k2 := cell_of (j := 0) (v := .bool false) hb2 rfl
    have f2 := free_of hb2 0
    have H2 := Lib.hid (And.intro (H1.out.1.trans hE2) hb2)
    clear hE2 hb2
    go_wp2
    show LeavesInM _ _ _ _ _ _ _ _ _
    refine fin.out [] w2 (.bool false) (fun D hD => (by cases hD)) (by simp) H2.out.2 H2.out.1 _ ?_
    rfl
  | true =>
    obtain ⟨x0, x1, x2⟩ : 0 ≤ lo ∧ lo ≤ hi ∧ hi ≤ 1023 := by unfold rightB at hr; simp at hr; omega
    have HR := Lib.hid (fun W => rf_Right lo hi W)
    rw [hr] at HR
    obtain ⟨N, hN⟩ : ∃ N : Nat, hi = lo + (N : Int) - 1 := ⟨(hi - lo + 1).toNat, by omega⟩
    have hN1 : 1 ≤ N := by omega
    have hN2 : N ≤ 1024 := by omega
    have hN3 : lo + (N : Int) ≤ 1024 := by omega
    clear hr
    have HN := Lib.hid (al_New lo hi w0 x0 x1 (by omega))
    have HX := Lib.hid (And.intro x0 (And.intro x1 (And.intro x2 (And.intro hN (And.intro hN1 (And.intro hN2 hN3))))))
    clear x0 x1 x2 hN hN1 hN2 hN3
    go_wp2_with fail
    refine HN.out.mono ?_
    rintro e w1 ⟨rfl, hE1, hp1⟩
    obtain ⟨x0, x1, x2, hN, hN1, hN2, hN3⟩ := HX.out
    obtain ⟨c, hc⟩ : ∃ c, c = w0.heap.size + 1 := ⟨_, rfl⟩
    rw [← hc] at hp1 ⊢
    rw [hN] at hp1
    have hcw : w.heap.size < c := by have := lt_of_block H0.out.2; omega
    have H1 := Lib.hid (And.intro hE1 (And.intro hp1 hcw))
    have HFR := Lib.hid (al_Free c w0.heap.size lo N S0 w1 (by omega) (by omega) hp1)
    rw [S0_free] at HFR
    have HRN := Lib.hid (rf_New lo N w1 (by omega) (by omega) (by omega) (by omega))
    rw [← hN] at HRN
    have hsub : wrap64 (hi - lo) = (N : Int) - 1 := by rw [IntWalk.wrap64_in _ (by omega)]; omega
    have hwN : wrap64 ((N : Int)) = (N : Int) := IntWalk.wrap64_in _ (by omega)
    have hwN1 : wrap64 ((N : Int) - 1 + 1) = (N : Int) := by rw [IntWalk.wrap64_in _ (by omega)]; omega
    have hNN : ((N : Int) == (N : Int)) = true := by simp
    have HZ := Lib.hid (And.intro x0 (And.intro hN1 (And.intro hN2 (And.intro hN3 hc))))
    clear hE1 hp1 hcw hc x0 x1 x2 hN hN1 hN2 hN3 hw0
    go_wp2_with fail
    refine (HR.out w1).mono ?_
    rintro e w' ⟨rfl, rfl⟩
    by_cases hbig : (60 : Int) < (N : Int) - 1
    · clear HRN
      go_wp2_with fail
      refine (al_num _ _).mono ?_
      rintro e w' ⟨rfl, rfl⟩
      go_wp2_with fail
      refine HFR.out.mono ?_
      rintro e w2 ⟨rfl, hE2⟩
      have H2 := Lib.hid (H1.out.1.trans hE2)
      clear hE2
      go_wp2_with fail
      refine (HW.out _).mono ?_
      rintro e w3 ⟨rfl, hE3⟩
      have hb3 := (H2.out.trans hE3).at H0.out.2 (by simp)
      have k3 := cell_of (j := 0) (v := .bool false) hb3 rfl
      have f3 := free_of hb3 0
      have H3 := Lib.hid (And.intro ((H0.out.1.trans H2.out).trans hE3) hb3)
      clear hE3 hb3
      go_wp2
      show LeavesInM _ _ _ _ _ _ _ _ _
      refine fin.out [] w3 (.bool false) (fun D hD => (by cases hD)) (by simp) H3.out.2 H3.out.1 _ ?_
      rfl
    · cases hf : fewB n A 40 with
      | false =>
        rw [hf] at HF
        clear hf HRN
        go_wp2_with fail
        refine (HF.out _ (H0.out.1.trans H1.out.1)).mono ?_
        rintro e w' ⟨rfl, rfl⟩
        go_wp2_with fail
        refine (al_num _ _).mono ?_
        rintro e w' ⟨rfl, rfl⟩
        go_wp2_with fail
        refine HFR.out.mono ?_
        rintro e w2 ⟨rfl, hE2⟩
        have H2 := Lib.hid (H1.out.1.trans hE2)
        clear hE2
        go_wp2_with fail
        refine (HW.out _).mono ?_
        rintro e w3 ⟨rfl, hE3⟩
        have hb3 := (H2.out.trans hE3).at H0.out.2 (by simp)
        have k3 := cell_of (j := 0) (v := .bool false) hb3 rfl
        have f3 := free_of hb3 0
        have H3 := Lib.hid (And.intro ((H0.out.1.trans H2.out).trans hE3) hb3)
        clear hE3 hb3
        go_wp2
        show LeavesInM _ _ _ _ _ _ _ _ _
        refine fin.out [] w3 (.bool false) (fun D hD => (by cases hD)) (by simp) H3.out.2 H3.out.1 _ ?_
        rfl
      | true =>
        have HFW := Lib.hid (fewB_true hf)
        rw [hf] at HF
        clear hf HFR
        go_wp2_with fail
        refine (HF.out _ (H0.out.1.trans H1.out.1)).mono ?_
        rintro e w' ⟨rfl, rfl⟩
        go_wp2_with fail
        refine HRN.out.mono ?_
        rintro e w2 ⟨ro, rfl, hE2, hR2⟩
        obtain ⟨W3, hW3⟩ : ∃ W3, w2.alloc (.cells #[.int .i64 lo, .slice ro N N] 56) = W3 := ⟨_, rfl⟩
        have hst : ∃ g, g = w2.heap.size ∧ PlSt w W3 c w0.heap.size g lo N S0 ro N 0 := by
          have hE3 : Ext [] w2 W3 := by rw [← hW3]; exact (Ext.refl _ _).alloc _
          refine ⟨_, rfl, H1.out.2.1.ext (hE2.trans hE3) (by simp) (by simp), hR2.ext0 hE3, by rw [← hW3]; exact World.alloc_heap_new _ _, ((H1.out.1.trans hE2).trans hE3).at H0.out.2 (by simp), w_cnt0, fun k hk => by simp [S0] at hk, H0.out.1.trans ((H1.out.1.trans hE2).trans hE3), H1.out.2.2, ?_⟩
          have := lt_of_block H0.out.2
          have := (H1.out.1.trans hE2).size
          omega
        obtain ⟨g, hg, hst⟩ := hst
        have HS := Lib.hid hst
        have hn40 : n ≤ 40 := by have := HFW.out.2; omega
        clear hE2 hR2 hst hsub hwN hwN1 hNN hbig
        go_wp2_with fail
        rw [← hg]
        clear hg
        go_loopg [7, 10] n (fun k p i wr => ∃ (j c mb cap' : Nat) (S : Lns) (ro : Option Addr), i = .int .i64 j ∧ p = .pointer (some ⟨c, 0, none⟩) ∧ j + k = n ∧ PlSt w wr c mb g lo N S ro cap' j)
        case atStart => exact ⟨0, c, _, N, S0, ro, rfl, rfl, by omega, HS.out⟩
        case round =>
          obtain ⟨j, c, mb, cap', S, ro, rfl, rfl, hjk, hst⟩ := hrel
          by_cases hlt : j < n
          · have HAJ := Lib.hid (HP.out.2.1 j hlt)
            obtain ⟨b, off, rfl, hI0, k1, k2, k3⟩ : ∃ b off, ao = some ⟨b, off, none⟩ ∧ IntsAt w (A j).bo (A j).n (A j).L ∧ wr.cell? ⟨b, off + j * 3, none⟩ = some (.int .i64 (A j).what) ∧ wr.cell? ⟨b, off + j * 3 + 1, none⟩ = some (.int .i64 (A j).many) ∧
                wr.cell? ⟨b, off + j * 3 + 2, none⟩ = some (.slice (A j).bo (A j).n (A j).cap) := by
              rcases HP.out.1 with h | ⟨b, off, h1, h2⟩
              · omega
              · have hE := hst.ext
                exact ⟨b, off, h1, (h2 j hlt).2.2.2, hE.cell (h2 j hlt).1 (by simp), hE.cell (h2 j hlt).2.1 (by simp), hE.cell (h2 j hlt).2.2.1 (by simp)⟩
            have HACT : Hid (∀ W, Ext [] wr W → Calls Try.prog 33 #[.pointer (some ⟨c, 0, none⟩), .agg #[.int .i64 lo, .slice ro N cap'], .agg #[.int .i64 (A j).what, .int .i64 (A j).many, .slice (A j).bo (A j).n (A j).cap]] W fun e w' =>
                ∃ c' mb' ro' capn, e = .returned (.tuple #[.pointer (some ⟨c', 0, none⟩), .agg #[.int .i64 lo, .slice ro' N capn], .bool true]) ∧ Ext [c] W w' ∧ Ext [c] wr w' ∧ Pool w' c' mb' lo (lo + (N : Int) - 1) (actN S lo N (A j).what (A j).many (lst (A j).L (A j).n)) ∧
                  RPl w' ro' lo N (actN S lo N (A j).what (A j).many (lst (A j).L (A j).n)) ∧ (c' = c ∨ wr.heap.size ≤ c')) := by
              intro W hE
              refine (al_act c mb lo N S ro cap' (A j) W (by have := HZ.out.1; omega) (by have := HZ.out.2.2.2.1; omega) (by have := HZ.out.2.2.1; omega) (hst.ext1 hE).pool (hst.ext1 hE).row (cntB_le hst.cnt (by omega)) hst.ins HAJ.out
                (fun w' hE' => hI0.ext ((hst.ext.trans hE).trans' hE' (fun q hq => .inr (by have := hst.hc; simp at hq; omega))))).mono ?_
              rintro e w' ⟨c', mb', ro', capn, he, h1, h2, h3, h4⟩
              exact ⟨c', mb', ro', capn, he, h1, hE.wide.trans h1, h2, h3, h4.imp id (fun h => Nat.le_trans hE.size h)⟩
            have hnc : wr.heap.size ∉ [c] := by have := lt_of_block hst.pool.1; simp; omega
            have q1 := cell_of (j := 0) (v := .int .i64 lo) hst.want rfl
            have q2 := cell_of (j := 1) (v := .slice ro N cap') hst.want rfl
            have HS := Lib.hid hst
            have hblt : b < wr.heap.size := World.block_lt_of_cell? _ _ k1
            have hglt : g < wr.heap.size := lt_of_block hst.want
            have HJK := Lib.hid (And.intro hjk hn40)
            clear hst hjk hn40 hI0
            generalize A j = a at *
            go_wp2

            go_region_with (go_at_call 33; refine (HACT.out _ ?_).mono ?_; (first | exact Ext.drew (Ext.refl _ _) | exact Ext.drew ((Ext.refl _ _).alloc _) | exact (Ext.drew (Ext.refl _ _)).alloc _); rintro e w5 ⟨c', mb', ro', capn, rfl, hE5w, hE5, hp5, hR5, hc5⟩; have H5 := Lib.hid (And.intro hE5 (And.intro hp5 (And.intro hR5 hc5))); (first | (have hb12 : w5.heap[wr.heap.size]? = some (.cells #[.int .i64 0, .slice none 0 0] 56 (0, 0)) := hE5w.at (World.alloc_heap_new _ _) hnc; have m0 := cell_of (j := 0) (v := .int .i64 0) hb12 rfl; have m1 := cell_of (j := 1) (v := .slice none 0 0) hb12 rfl; have f0 := free_of hb12 0; have f1 := free_of hb12 1; have HB12 := Lib.hid hb12; clear hb12) | skip); clear hE5 hE5w hp5 hR5 hc5 hnc)
            all_goals go_wp2
            all_goals
              have HSS : Hid (∃ S', S' = actN S lo N a.what a.many (lst a.L a.n)) := ⟨_, rfl⟩
              first
                | (obtain ⟨W6, hW6⟩ : ∃ W6, w5.alloc (.cells #[.int .i64 lo, .slice ro' N capn] 56) = W6 := ⟨_, rfl⟩
                   have HL := Lib.hid (Laid.new H5.out.1 H5.out.2.1 H5.out.2.2.1 H5.out.2.2.2 (ao' := ro') (cap' := capn))
                   obtain ⟨b12, hbe⟩ : ∃ b12, w5.heap.size = b12 := ⟨_, rfl⟩
                   rw [hW6, hbe] at HL
                   rw [hW6, hbe]
                   clear hW6 hbe)
                | (obtain ⟨W6, hW6⟩ : ∃ W6, (w5.setCell ⟨wr.heap.size, 0, none⟩ (.int .i64 lo)).setCell ⟨wr.heap.size, 1, none⟩ (.slice ro' N capn) = W6 := ⟨_, rfl⟩
                   have HL := Lib.hid (Laid.set H5.out.1 H5.out.2.1 H5.out.2.2.1 H5.out.2.2.2 HB12.out (ao' := ro') (cap' := capn))
                   obtain ⟨b12, hbe⟩ : ∃ b12, wr.heap.size = b12 := ⟨_, rfl⟩
                   rw [hW6, hbe] at HL
                   rw [hW6, hbe]
                   clear hW6 hbe)
              have wg := HL.out.1.at HS.out.want (by have := HS.out.cg; simpa using this)
              have r1 := cell_of (j := 0) (v := .int .i64 lo) wg rfl
              have r2 := cell_of (j := 1) (v := .slice ro N cap') wg rfl
              have fr1 := free_of wg 0
              have fr2 := free_of wg 1
              have p1 := cell_of (j := 0) (v := .int .i64 lo) HL.out.2.2.2.2.2 rfl
              have p2 := cell_of (j := 1) (v := .slice ro' N capn) HL.out.2.2.2.2.2 rfl
              have hgb : g < b12 := by have := HL.out.2.2.2.2.1; have := lt_of_block HS.out.want; omega
              have HG := Lib.hid hlt
              clear wg q1 q2 k1 k2 k3 hblt hglt hlt
              go_region
              all_goals go_wp2_with fail
              all_goals
                have HST := Lib.hid (HS.out.acted (cap' := capn) HL.out.1 HL.out.2.1 HL.out.2.2.1 HL.out.2.2.2.1 (actN_cnt HS.out.cnt _ _ _) (HS.out.ins.act _ _ _) (Ext.drew (Ext.refl [] W6)))
                refine (al_is c' mb' lo N _ ro' capn _ (by have := HZ.out.1; omega) (by have := HZ.out.2.2.2.1; omega) (by have := HZ.out.2.2.1; omega) HST.out.pool HST.out.row).mono ?_
                rintro e w7 ⟨rfl, hE7⟩
                have H7 := Lib.hid (HST.out.ext1 hE7)
                clear hE7
                go_wp2
                go_roundg (n - (j + 1))
              all_goals
                have hlt := HG.out
                have hjk := HJK.out.1
                have hn40 := HJK.out.2
                have hwj : wrap64 ((j : Int) + 1) = (j : Int) + 1 := IntWalk.wrap64_in _ (by omega)
              all_goals first
                | omega
                | exact ⟨j + 1, c', mb', capn, _, ro', by (first | (rw [hwj]; rfl) | (simp [hwj]) | go_num), rfl, by omega, by simpa using H7.out⟩
          · have hd : decide (j < n) = false := by simpa using hlt
            have HWr := Lib.hid (And.intro hst.res hst.ext)
            have HPO : Hid (∀ W, Ext [] wr W → Calls Try.prog 68 #[.pointer (some ⟨c, 0, none⟩)] W fun e w' => e = .returned (.bool false) ∧ W = w') := fun W hE => al_none c mb lo _ S W (hst.ext1 hE).pool
            have HJ := Lib.hid (And.intro hjk (And.intro hn40 hlt))
            clear hst hjk hn40 hlt
            go_wp2_with fail
            all_goals
              first
                | (obtain ⟨W0, hW0⟩ : ∃ W0, wr.alloc (.cells #[.int .i64 0, .int .i64 0, .map none] 65) = W0 := ⟨_, rfl⟩
                   have HNP : Hid (Ext [] wr W0 ∧ ∀ W, Ext [] W0 W → NoneP W (.pointer (some ⟨wr.heap.size, 0, none⟩))) :=
                     ⟨by rw [← hW0]; exact (Ext.refl _ _).alloc _, fun W hE => NoneP.ext (.inr ⟨_, rfl, by rw [← hW0]; exact World.alloc_heap_new _ _⟩) hE⟩
                   rw [hW0]
                   clear hW0
                   obtain ⟨bo, hbo⟩ : ∃ bo : Option Addr, some ⟨wr.heap.size, 0, none⟩ = bo := ⟨_, rfl⟩
                   rw [hbo] at HNP ⊢
                   clear hbo)
                | (obtain ⟨W0, hW0⟩ : ∃ W0, W0 = wr := ⟨_, rfl⟩
                   have HNP : Hid (Ext [] wr W0 ∧ ∀ W, Ext [] W0 W → NoneP W (.pointer none)) := ⟨by rw [hW0]; exact Ext.refl _ _, fun W hE => .inl rfl⟩
                   rw [← hW0]
                   clear hW0
                   obtain ⟨bo, hbo⟩ : ∃ bo : Option Addr, none = bo := ⟨_, rfl⟩
                   rw [hbo] at HNP ⊢
                   clear hbo)
              refine (no_Take _ _ (HNP.out.2 _ (Ext.refl _ _))).mono ?_
              rintro e w1 ⟨rfl, hE1⟩
              have H1E := Lib.hid (HNP.out.1.trans hE1)
              have HN1 := Lib.hid (fun W (hE : Ext [] w1 W) => HNP.out.2 W (hE1.trans hE))
              clear hE1 HNP
              go_wp2_with fail
              refine (no_Count _ _ (HN1.out _ (Ext.refl _ _))).mono ?_
              rintro e w' ⟨rfl, rfl⟩
              go_wp2_with fail
              refine (no_Lines _ _ (HN1.out _ (Ext.refl _ _))).mono ?_
              rintro e w' ⟨rfl, rfl⟩
              have heq := eqfn 82 #[] w1
              go_wp2_with fail
              refine (no_Lines _ _ (HN1.out _ (Ext.refl _ _))).mono ?_
              rintro e w' ⟨rfl, rfl⟩
              go_wp2
              refine wpIn_wide.1 (wp_range (gf := 82) (lb := #[]) rfl (fun args w => enters_of Try.func82 (by kernel_rfl) rfl args w)
                none_seq (fun pre x h => h.elim) [] (fun mm pre W => Ext [] w1 W) (fun _ _ => False) ?_ ?_ ?_ ?_ ?_ ?_ ?_ ?_)
              · exact fun mm pre => Steady.ext (Nat.le_refl _)
              · exact fun c => Steady.const _ _
              · exact fun mm pre W _ => trivial
              · exact fun j hj => by cases hj
              · exact Ext.refl _ _
              · exact fun l mm pre x W hl hi hok => hok.elim
              · rintro D mm xs W hD hx hi hdD
                have HE1 := Lib.hid (H1E.out.trans hi)
                have HN2 := Lib.hid (fun W' (hE : Ext [] W W') => HN1.out W' (hi.trans hE))
                have HD := Lib.hid (And.intro hdD hD)
                clear hx hi hdD hD heq
                have HA2 := Lib.hid (Ext.refl [] W)
                go_wp2_with fail
                refine (al_num _ _).mono ?_
                rintro e w' ⟨rfl, rfl⟩
                go_wp2_with fail
                refine (al_num _ _).mono ?_
                rintro e w' ⟨rfl, rfl⟩
                go_wp2_with fail
                refine (no_Give _ _ _ _ _ (HN2.out _ HA2.out)).mono ?_
                rintro e w3 ⟨rfl, hE3⟩
                have HA3 := Lib.hid (HA2.out.trans hE3)
                clear hE3
                go_wp2_with fail
                refine (al_num _ _).mono ?_
                rintro e w' ⟨rfl, rfl⟩
                go_wp2_with fail
                refine (no_Claim _ _ _ _ _ (HN2.out _ HA3.out)).mono ?_
                rintro e w4 ⟨rfl, hE4⟩
                have HA4 := Lib.hid (HA3.out.trans hE4)
                clear hE4
                go_wp2_with fail
                refine (al_num _ _).mono ?_
                rintro e w' ⟨rfl, rfl⟩
                go_wp2_with fail
                refine (al_num _ _).mono ?_
                rintro e w' ⟨rfl, rfl⟩
                go_wp2_with fail
                refine (no_Free _ _ (HN2.out _ HA4.out)).mono ?_
                rintro e w5 ⟨rfl, hE5⟩
                have HA5 := Lib.hid (HA4.out.trans hE5)
                clear hE5
                go_wp2_with fail
                refine (no_Taken _ _ (HN2.out _ HA5.out)).mono ?_
                rintro e w' ⟨rfl, rfl⟩
                go_wp2_with fail
                refine (no_Copy _ _ (HN2.out _ HA5.out)).mono ?_
                rintro e w' ⟨rfl, rfl⟩
                go_wp2_with fail
                refine (al_SameN bo none true true _ rfl (fun W' hE => no_none _ W' (HN2.out W' (HA5.out.trans hE))) (fun W' _ => no_none _ W' (.inl rfl))).mono ?_
                rintro e w6 ⟨rfl, hE6⟩
                have HA6 := Lib.hid (HA5.out.trans hE6)
                clear hE6
                go_wp2_with fail
                refine (al_SameN (some ⟨c, 0, none⟩) bo false true _ rfl (fun W' hE => HPO.out W' ((HE1.out.trans HA6.out).trans hE)) (fun W' hE => no_none _ W' (HN2.out W' (HA6.out.trans hE)))).mono ?_
                rintro e w7 ⟨rfl, hE7⟩
                have HA7 := Lib.hid (HA6.out.trans hE7)
                clear hE7
                go_wp2_with fail
                refine (al_SameN bo (some ⟨c, 0, none⟩) true false _ rfl (fun W' hE => no_none _ W' (HN2.out W' (HA7.out.trans hE))) (fun W' hE => HPO.out W' ((HE1.out.trans HA7.out).trans hE))).mono ?_
                rintro e w8 ⟨rfl, hE8⟩
                have HA8 := Lib.hid (HA7.out.trans hE8)
                clear hE8
                go_wp2_with fail
                refine (HW.out _).mono ?_
                rintro e w9 ⟨rfl, hE9⟩
                have HA9 := Lib.hid (HA8.out.trans hE9)
                clear hE9
                have hbF := (HE1.out.trans HA9.out).at HWr.out.1 (by simp)
                have kF := cell_of (j := 0) (v := .bool false) hbF rfl
                have fF := free_of hbF 0
                have HB := Lib.hid hbF
                clear hbF
                go_wp2
                show LeavesInM _ _ _ _ _ _ _ _ _
                refine fin.out [D] w9 (.bool false) (fun D1 hD1 => ?_) (by simp) HB.out ((HWr.out.2.trans HE1.out).trans HA9.out) _ ?_
                · obtain rfl : D1 = D := by simpa using hD1
                  exact ⟨HA9.out.at HD.out.1 (by simp), by have := lt_of_block HWr.out.1; have := HD.out.2; have := H1E.out.size; omega⟩
                · rfl
              · exact fun D c W hD hi _ => hi.elim
end Go.Proofs.Ytgpoplnfhlfogaa
