/- Package trace: Stores. -/
import Derived.Test.YtmfbgkcphiomaaaTrK
namespace Go.Proofs.Ytmfbgkcphiomaaa
open Go Go.RowKit Go.Shelf
attribute [local go_sem] Oper.semAt_some

theorem WE.lays {es : Ents} {L : List Tch} (hn : (keysOf es).Nodup) (h : WE es L) (hr : ∀ t ∈ L, t.right = true) : Lays es (putsL L) := by
  refine ⟨?_, fun p hp => ?_⟩
  · rw [h.sort hn hr]
    unfold putsL
    rw [List.map_map]
    exact (List.map_id _).symm
  · unfold putsL at hp
    obtain ⟨a, ha, rfl⟩ := List.mem_map.1 hp
    have hs := (mem_adrL hr).1 ha
    show look es a = _
    rw [h a]
    cases hw : lastW L a with
    | none => rw [hw] at hs; cases hs
    | some v => rfl
theorem putsL_len (L : List Tch) : (putsL L).length ≤ 8192 := by
  unfold putsL adrL
  rw [List.length_map]
  exact upto_len _ _
theorem WE.wf {es : Ents} {L : List Tch} (hn : (keysOf es).Nodup) (h : WE es L) (hr : ∀ t ∈ L, t.right = true) : ∀ p ∈ es, (Lit.int .i64 p.1).wf = true := fun p hp => by
  have hk : p.1 ∈ sortK es := (sortK_perm es).mem_iff.2 (List.mem_map.2 ⟨p, hp, rfl⟩)
  rw [h.sort hn hr] at hk
  have := mem_upto.1 hk
  simp [Lit.wf, IntKind.min, IntKind.max, IntKind.signed, IntKind.bits]
  omega
/-- the list whose stores count -/
def stL (L : List Tch) : List Tch := if tcheck L = 0 then L else []
theorem stL_right {L : List Tch} : ∀ t ∈ stL L, t.right = true := by
  unfold stL
  split
  · rename_i h
    exact (tcheck_zero h).1
  · intro t ht; cases ht
/-- what Stores answers -/
def StPost (w : World) (W : List (Int × Int)) (e : Ending) (w' : World) : Prop :=
  ∃ B b es, e = .returned (.func (.func 35) #[] #[.pointer (some ⟨B, 0, none⟩)]) ∧ Ext [] w w' ∧ PKB B b es w' ∧ Lays es W ∧ (∀ p ∈ es, (Lit.int .i64 p.1).wf = true) ∧ w.heap.size ≤ B ∧ w.heap.size ≤ b

set_option maxRecDepth 100000 in
set_option maxHeartbeats 4000000 in
theorem tr_Stores (N : Nat) (ao : Option Addr) (cap : Nat) (L : List Tch) (w : World) (hp : TcAt w N ao L) (hn : L.length ≤ 1000000) :
    Calls Try.prog 19 #[.slice ao L.length cap] w (StPost w (putsL (stL L))) := by
  have hmm := @run_makeMap Try.prog
  have hcf := enters_of Try.func35 (by kernel_rfl) rfl
  obtain ⟨W0, hW0⟩ : ∃ W0, (w.alloc (.map #[] 0)).alloc (.cells #[.map (some w.heap.size)] 50) = W0 := ⟨_, rfl⟩
  have hb0 : W0.heap[w.heap.size + 1]? = some (.cells #[.map (some w.heap.size)] 50 (0, 0)) := by
    rw [← hW0]; have := World.alloc_heap_new (w.alloc (.map #[] 0)) (.cells #[.map (some w.heap.size)] 50); rwa [World.size_alloc] at this
  have hE0 : Ext [] w W0 := by rw [← hW0]; exact ((Ext.refl _ _).alloc _).alloc _
  have hI0 : IMap W0 w.heap.size [] := by rw [← hW0]; exact (IMap.made w).alloc _
  have hz0 : W0.heap.size = w.heap.size + 2 := by rw [← hW0]; simp
  have HC := Lib.hid (tc_Check N ao cap L W0 (hp.ext0 hE0) (by omega))
  have H0 := Lib.hid (And.intro hE0 (And.intro hI0 (And.intro hz0 hb0)))
  clear hb0 hE0 hI0 hz0
  by_cases hc : tcheck L = 0
  · obtain ⟨hr, hl⟩ := tcheck_zero hc
    rw [hc] at HC
    rw [show stL L = L from by unfold stL; rw [if_pos hc]]
    have HP := Lib.hid (And.intro hp hr)
    obtain ⟨n, hnl⟩ : ∃ n, L.length = n := ⟨_, rfl⟩
    have HN := Lib.hid hnl
    rw [hnl] at hn HC ⊢
    clear hp hr hc hl hnl
    go_enter Try.func19, Try.ntmps19
    go_wp2_with fail
    try rw [hW0]
    refine HC.out.mono ?_
    rintro e w1 ⟨rfl, hE1⟩
    have H1 := Lib.hid hE1
    clear hE1 hW0
    go_wp2
    go_loopg [12] n (fun k i wr => ∃ j : Nat, i = .int .i64 j ∧ j + k = n ∧ ∃ cur, Ext [] w wr ∧ wr.cell? ⟨w.heap.size + 1, 0, none⟩ = some (.map (some w.heap.size)) ∧ IMap wr w.heap.size cur ∧ WE cur (L.take j))
    case atStart => exact ⟨0, rfl, by omega, [], H0.out.1.trans H1.out, H1.out.cell (cell_of H0.out.2.2.2 rfl) (by simp), H0.out.2.1.ext H1.out (by simp), WE.nil⟩
    case round =>
      obtain ⟨j, rfl, hjk, cur, hE, hmc, hI, hW⟩ := hrel
      by_cases hlt : j < n
      · obtain ⟨b, off, rfl, c0, c1, c2⟩ := (HP.out.1.ext0 hE).cells (i := j) (by rw [HN.out]; exact hlt)
        have hjn : (j : Int) < (n : Int) := by omega
        have hj0 : (0 : Int) ≤ (j : Int) := by omega
        have hwj : wrap64 ((j : Int) + 1) = (j : Int) + 1 := IntWalk.wrap64_in _ (by omega)
        have hts := take_snoc (L := L) (j := j) (by rw [HN.out]; exact hlt)
        obtain ⟨q, hq⟩ : ∃ q, q = L.getD j tch0 := ⟨_, rfl⟩
        rw [← hq] at c0 c1 c2 hts
        obtain ⟨k, a, x⟩ := q
        dsimp only at c0 c1 c2
        obtain ⟨V0, hV0⟩ : ∃ V0, wr.alloc (.cells #[.int .i64 k, .int .i64 a, .int .u64 x] 45) = V0 := ⟨_, rfl⟩
        have hb0 : V0.heap[wr.heap.size]? = some (.cells #[.int .i64 k, .int .i64 a, .int .u64 x] 45 (0, 0)) := by rw [← hV0]; exact World.alloc_heap_new _ _
        have hEV : Ext [] wr V0 := by rw [← hV0]; exact (Ext.refl _ _).alloc _
        have m0 := cell_of (j := 0) (v := .int .i64 k) hb0 rfl
        have m1 := cell_of (j := 1) (v := .int .i64 a) hb0 rfl
        have m2 := cell_of (j := 2) (v := .int .u64 x) hb0 rfl
        have hmc0 := hEV.cell hmc (by simp)
        have HJ := Lib.hid (And.intro hjk (And.intro hlt (And.intro (hE.trans hEV) (And.intro (hI.ext hEV (by simp)) (And.intro hW (And.intro hts hmc0))))))
        clear hjk hlt hn hE hmc hI hW hts hq hb0 hEV
        by_cases h2 : k = 2
        · subst h2
          obtain ⟨W2, hset, hE2, hm2, hs2⟩ := run_mapSet' (P := Try.prog) 50 3 39 Try.underlying50 Try.underlying3 HJ.out.2.2.2.1 a (.int .u64 x)
          have HR : Hid (Ext [] w W2 ∧ W2.cell? ⟨w.heap.size + 1, 0, none⟩ = some (.map (some w.heap.size)) ∧ IMap W2 w.heap.size (upd cur a (.int .u64 x)) ∧ WE (upd cur a (.int .u64 x)) (L.take (j + 1))) :=
            ⟨HJ.out.2.2.1.trans' hE2 (fun i hi => .inr (by simp at hi; omega)), hE2.cell hmc0 (by simp), hm2, by rw [HJ.out.2.2.2.2.2.1]; exact HJ.out.2.2.2.2.1.set (t := ⟨2, a, x⟩) rfl⟩
          clear hE2 hm2 hs2
          go_wp2
          go_roundg (n - (j + 1))
          case measure => have := HJ.out.1; have := HJ.out.2.1; omega
          case rel => exact ⟨j + 1, by first | (rw [hwj]; rfl) | rfl, by have := HJ.out.1; have := HJ.out.2.1; omega, _, HR.out⟩
        · have g : (k == 2) = false := by simpa using h2
          have HR : Hid (Ext [] w V0 ∧ V0.cell? ⟨w.heap.size + 1, 0, none⟩ = some (.map (some w.heap.size)) ∧ IMap V0 w.heap.size cur ∧ WE cur (L.take (j + 1))) :=
            ⟨HJ.out.2.2.1, hmc0, HJ.out.2.2.2.1, by rw [HJ.out.2.2.2.2.2.1]; exact HJ.out.2.2.2.2.1.skip (t := ⟨k, a, x⟩) h2⟩
          clear h2
          go_wp2
          go_roundg (n - (j + 1))
          case measure => have := HJ.out.1; have := HJ.out.2.1; omega
          case rel => exact ⟨j + 1, by first | (rw [hwj]; rfl) | rfl, by have := HJ.out.1; have := HJ.out.2.1; omega, _, HR.out⟩
      · have hd : ¬ ((j : Int) < (n : Int)) := by omega
        have hWL : WE cur L := by rw [show L.take j = L from by rw [show j = L.length from by rw [HN.out]; omega, List.take_length]] at hW; exact hW
        have HF : Hid (Ext [] w wr ∧ PKB (w.heap.size + 1) w.heap.size cur wr ∧ Lays cur (putsL L) ∧ (∀ p ∈ cur, (Lit.int .i64 p.1).wf = true)) := ⟨hE, ⟨hmc, hI⟩, hWL.lays hI.nodup HP.out.2, hWL.wf hI.nodup HP.out.2⟩
        clear hlt hjk hn hE hmc hI hW hWL
        go_wp2
        go_ret
        exact ⟨_, _, cur, rfl, HF.out.1, HF.out.2.1, HF.out.2.2.1, HF.out.2.2.2, by omega, Nat.le_refl _⟩
  · rw [show stL L = [] from by unfold stL; rw [if_neg hc]]
    have g : (tcheck L == 0) = false := by simpa using hc
    generalize tcheck L = c at *
    generalize L.length = n at *
    clear hp hc hn
    go_enter Try.func19, Try.ntmps19
    go_wp2_with fail
    try rw [hW0]
    refine HC.out.mono ?_
    rintro e w1 ⟨rfl, hE1⟩
    have H1 := Lib.hid hE1
    clear hE1 hW0
    go_wp2
    go_ret
    exact ⟨_, w.heap.size, [], rfl, H0.out.1.trans H1.out, ⟨H1.out.cell (cell_of H0.out.2.2.2 rfl) (by simp), H0.out.2.1.ext H1.out (by simp)⟩, WE.lays List.nodup_nil WE.nil (fun t ht => by cases ht), fun p hp => (by cases hp), by omega, Nat.le_refl _⟩
end Go.Proofs.Ytmfbgkcphiomaaa
