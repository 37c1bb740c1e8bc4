/- Package trace: Lines, Count. -/
import Derived.Test.YtmfbgkcphiomaaaTrI
namespace Go.Proofs.Ytmfbgkcphiomaaa
open Go Go.RowKit Go.Shelf
attribute [local go_sem] Oper.semAt_some

/-- what Lines answers -/
def linE (L : List Tch) : List Int × Int := if tcheck L = 0 then (linesL L, 0) else ([], tcheck L)
def LinPost (w : World) (C : List Int × Int) (e : Ending) (w' : World) : Prop := ∃ ao cap, e = .returned (.tuple #[.slice ao C.1.length cap, .int .i64 C.2]) ∧ IntsAt w' ao C.1 ∧ Ext [] w w'
/-- Lines' work so far -/
structure SeI (w wr : World) (mb : Nat) (L : List Tch) (j : Nat) (cur : Ents) : Prop where
  ex : Ext [] w wr
  im : IMap wr mb cur
  ks : ∀ k, k ∈ keysOf cur ↔ (L.take j).any (Tch.on k) = true
theorem linesL_wf (L : List Tch) : ∀ k ∈ linesL L, (Lit.int .i64 k).wf = true := fun k hk => by
  have := mem_upto.1 hk
  simp [Lit.wf, IntKind.min, IntKind.max, IntKind.signed, IntKind.bits]
  omega
theorem sort_lines {l : Ents} {L : List Tch} (hn : (keysOf l).Nodup) (hr : ∀ t ∈ L, t.right = true) (h : ∀ k, k ∈ keysOf l ↔ L.any (Tch.on k) = true) : sortK l = linesL L :=
  sortK_upto hn (fun k => by
    rw [h]
    exact ⟨fun h => mem_upto.1 ((mem_linesL hr).2 h), fun h => h.2.2⟩)

set_option maxRecDepth 100000 in
set_option maxHeartbeats 4000000 in
theorem tr_Lines (N : Nat) (ao : Option Addr) (cap : Nat) (L : List Tch) (w : World) (hp : TcAt w N ao L) (hn : L.length ≤ 1000000) :
    Calls Try.prog 24 #[.slice ao L.length cap] w (LinPost w (linE L)) := by
  have HC := Lib.hid (tc_Check N ao cap L w hp (by omega))
  unfold linE
  by_cases hc : tcheck L = 0
  · obtain ⟨hr, hl⟩ := tcheck_zero hc
    rw [hc] at HC
    rw [if_pos hc]
    have HP := Lib.hid (And.intro hp hr)
    obtain ⟨n, hnl⟩ : ∃ n, L.length = n := ⟨_, rfl⟩
    have HN := Lib.hid hnl
    rw [hnl] at hn HC ⊢
    obtain ⟨C, hC⟩ : ∃ C, linesL L = C := ⟨_, rfl⟩
    rw [hC]
    have HCC := Lib.hid hC
    clear hp hr hc hl hnl hC
    have hmm := @run_makeMap Try.prog
    go_enter Try.func24, Try.ntmps24
    go_wp2_with fail
    refine HC.out.mono ?_
    rintro e w1 ⟨rfl, hE1⟩
    have HE1 := Lib.hid hE1
    clear hE1
    go_wp2
    go_loopg [18] n (fun k i wr => ∃ j : Nat, i = .int .i64 j ∧ j + k = n ∧ ∃ cur, SeI w wr w1.heap.size L j cur)
    case atStart => exact ⟨0, rfl, by omega, [], HE1.out.alloc _, IMap.made w1, fun k => by simp⟩
    case round =>
      obtain ⟨j, rfl, hjk, cur, hI⟩ := hrel
      by_cases hlt : j < n
      · obtain ⟨b, off, rfl, c0, c1, c2⟩ := (HP.out.1.ext0 hI.ex).cells (i := j) (by rw [HN.out]; exact hlt)
        have hjn : (j : Int) < (n : Int) := by omega
        have hj0 : (0 : Int) ≤ (j : Int) := by omega
        have hwj : wrap64 ((j : Int) + 1) = (j : Int) + 1 := IntWalk.wrap64_in _ (by omega)
        have hts := take_snoc (L := L) (j := j) (by rw [HN.out]; exact hlt)
        have hrt := Tch.right_at (HP.out.2 _ (getD_mem (L := L) (j := j) (by rw [HN.out]; exact hlt)))
        obtain ⟨q, hq⟩ : ∃ q, q = L.getD j tch0 := ⟨_, rfl⟩
        rw [← hq] at c0 c1 c2 hts hrt
        obtain ⟨k, a, x⟩ := q
        dsimp only at c0 c1 c2 hrt
        have hks : ∀ y, (L.take (j + 1)).any (Tch.on y) = ((L.take j).any (Tch.on y) || (k != 4 && Tch.ln ⟨k, a, x⟩ == y)) := fun y => by
          rw [hts, List.any_append, List.any_cons, List.any_nil, Bool.or_false]
          rfl
        obtain ⟨W0, hW0⟩ : ∃ W0, wr.alloc (.cells #[.int .i64 k, .int .i64 a, .int .u64 x] 45) = W0 := ⟨_, rfl⟩
        have hb0 : W0.heap[wr.heap.size]? = some (.cells #[.int .i64 k, .int .i64 a, .int .u64 x] 45 (0, 0)) := by rw [← hW0]; exact World.alloc_heap_new _ _
        have hE0 : Ext [] wr W0 := by rw [← hW0]; exact (Ext.refl _ _).alloc _
        have m0 := cell_of (j := 0) (v := .int .i64 k) hb0 rfl
        have m1 := cell_of (j := 1) (v := .int .i64 a) hb0 rfl
        have m2 := cell_of (j := 2) (v := .int .u64 x) hb0 rfl
        have HT := Lib.hid (tr_line k a x W0 hrt.1 (by omega))
        obtain ⟨y, hy⟩ : ∃ y, Tch.ln ⟨k, a, x⟩ = y := ⟨_, rfl⟩
        rw [hy] at HT hks
        have HJ := Lib.hid (And.intro hjk (And.intro hlt (And.intro hks (And.intro (hI.ex.trans hE0) (And.intro (hI.im.ext hE0 (by simp)) hI.ks)))))
        clear hjk hlt hn hI hts hrt hq hb0 hE0 hks hy
        cases g : (k != 4) with
        | true =>
          rw [g] at HT
          have HG := Lib.hid g
          clear g
          go_wp2_with fail
          refine HT.out.mono ?_
          rintro e W1 ⟨rfl, hE1⟩
          obtain ⟨W2, hset, hE2, hm2, hs2⟩ := run_mapSet' (P := Try.prog) 71 3 74 Try.underlying71 Try.underlying3 (HJ.out.2.2.2.2.1.ext hE1 (by simp)) y (.agg #[])
          have HR : Hid (SeI w W2 w1.heap.size L (j + 1) (upd cur y (.agg #[]))) := ⟨(HJ.out.2.2.2.1.trans hE1).trans' hE2 (fun i hi => .inr (by simp at hi; have := HE1.out.size; omega)), hm2, fun z => by
            rw [mem_keys_upd, HJ.out.2.2.2.2.2, HJ.out.2.2.1, HG.out]
            simp
            exact ⟨fun h => h.elim (fun h => .inr h.symm) .inl, fun h => h.elim .inr (fun h => .inl h.symm)⟩⟩
          clear hm2 hE2 hs2 hE1
          go_wp2
          go_roundg (n - (j + 1))
          case measure => have := HJ.out.1; have := HJ.out.2.1; omega
          case rel => exact ⟨j + 1, by first | (rw [hwj]; rfl) | rfl, by have := HJ.out.1; have := HJ.out.2.1; omega, _, HR.out⟩
        | false =>
          rw [g] at HT
          have HG := Lib.hid g
          clear g
          go_wp2_with fail
          refine HT.out.mono ?_
          rintro e W1 ⟨rfl, hE1⟩
          have HR : Hid (SeI w W1 w1.heap.size L (j + 1) cur) := ⟨HJ.out.2.2.2.1.trans hE1, HJ.out.2.2.2.2.1.ext hE1 (by simp), fun z => by
            rw [HJ.out.2.2.2.2.2, HJ.out.2.2.1, HG.out]
            simp⟩
          clear hE1
          go_wp2
          go_roundg (n - (j + 1))
          case measure => have := HJ.out.1; have := HJ.out.2.1; omega
          case rel => exact ⟨j + 1, by first | (rw [hwj]; rfl) | rfl, by have := HJ.out.1; have := HJ.out.2.1; omega, _, HR.out⟩
      · have hd : ¬ ((j : Int) < (n : Int)) := by omega
        have hks : ∀ k, k ∈ keysOf cur ↔ L.any (Tch.on k) = true := fun k => by
          rw [hI.ks, show j = L.length from by rw [HN.out]; omega, List.take_length]
        have hsk : sortK cur = C := by rw [sort_lines hI.im.nodup HP.out.2 hks, HCC.out]
        have hll : cur.length ≤ 1024 := by rw [← sortK_len, hsk, ← HCC.out]; exact upto_len _ _
        have HS := Lib.hid (tr_sortedB w1.heap.size cur wr hI.im (by omega) (fun p hp => linesL_wf L _ (by rw [HCC.out, ← hsk]; exact (sortK_perm cur).mem_iff.2 (List.mem_map.2 ⟨p, hp, rfl⟩))))
        rw [hsk] at HS
        have HE := Lib.hid hI.ex
        clear hlt hjk hn hI hks hsk hll
        go_wp2_with fail
        refine HS.out.mono ?_
        rintro e w5 ⟨bo, bcap, rfl, hI5, hE5, _⟩
        have HF := Lib.hid (And.intro hI5 (HE.out.trans hE5))
        clear hI5 hE5
        go_wp2
        go_ret2
        exact ⟨bo, bcap, rfl, HF.out⟩
  · rw [if_neg hc]
    have g : (tcheck L != 0) = true := by simpa using hc
    generalize tcheck L = c at *
    generalize L.length = n at *
    clear hp hc hn
    go_enter Try.func24, Try.ntmps24
    go_wp2_with fail
    refine HC.out.mono ?_
    rintro e w1 ⟨rfl, hE⟩
    go_wp2
    go_ret2
    exact ⟨none, 0, rfl, fun i hi => absurd hi (Nat.not_lt_zero _), hE⟩

/-- how many have a kind -/
def cntK (L : List Tch) (k : Int) : Nat := (L.filter (fun t => t.kd == k)).length
set_option maxRecDepth 100000 in
set_option maxHeartbeats 4000000 in
theorem tr_Count (N : Nat) (ao : Option Addr) (cap : Nat) (L : List Tch) (k : Int) (w : World) (hp : TcAt w N ao L) (hn : L.length ≤ 1000000) :
    Calls Try.prog 25 #[.int .i64 k, .slice ao L.length cap] w fun e w' => e = .returned (.int .i64 (cntK L k)) ∧ Ext [] w w' := by
  have HP := Lib.hid hp
  obtain ⟨n, hnl⟩ : ∃ n, L.length = n := ⟨_, rfl⟩
  have HN := Lib.hid hnl
  rw [hnl] at hn ⊢
  clear hp hnl
  go_enter Try.func25, Try.ntmps25
  go_wp2
  go_loopg [4, 9] n (fun c v i wr => ∃ j : Nat, v = .int .i64 (cntK (L.take j) k) ∧ i = .int .i64 j ∧ j + c = n ∧ Ext [] w wr)
  case atStart => exact ⟨0, rfl, rfl, by omega, Ext.refl _ _⟩
  case round =>
    obtain ⟨j, rfl, rfl, hjk, hE⟩ := hrel
    have hcl : cntK (L.take j) k ≤ n := by rw [← HN.out]; unfold cntK; exact Nat.le_trans (List.length_filter_le _ _) (by rw [List.length_take]; omega)
    obtain ⟨c, hcc⟩ : ∃ c, cntK (L.take j) k = c := ⟨_, rfl⟩
    rw [hcc] at hcl ⊢
    by_cases hlt : j < n
    · obtain ⟨b, off, rfl, c0, c1, c2⟩ := (HP.out.ext0 hE).cells (i := j) (by rw [HN.out]; exact hlt)
      have hjn : (j : Int) < (n : Int) := by omega
      have hj0 : (0 : Int) ≤ (j : Int) := by omega
      have hwj : wrap64 ((j : Int) + 1) = (j : Int) + 1 := IntWalk.wrap64_in _ (by omega)
      have hwc : wrap64 ((c : Int) + 1) = (c : Int) + 1 := IntWalk.wrap64_in _ (by omega)
      have hts := take_snoc (L := L) (j := j) (by rw [HN.out]; exact hlt)
      obtain ⟨q, hq⟩ : ∃ q, q = L.getD j tch0 := ⟨_, rfl⟩
      rw [← hq] at c0 c1 c2 hts
      obtain ⟨y, a, x⟩ := q
      dsimp only at c0 c1 c2
      have hcs : cntK (L.take (j + 1)) k = c + (if (y == k) = true then 1 else 0) := by
        unfold cntK
        rw [hts, List.filter_append, List.length_append, List.filter_cons, List.filter_nil, ← hcc]
        unfold cntK
        split <;> rfl
      have HJ := Lib.hid (And.intro hjk (And.intro hlt (And.intro hcs hE)))
      clear hjk hlt hn hE hts hq hcs hcc hcl
      cases g : (y == k) with
      | true =>
        have HG := Lib.hid (show cntK (L.take (j + 1)) k = c + 1 from by rw [HJ.out.2.2.1, g]; rfl)
        go_wp2
        go_roundg (n - (j + 1))
        case measure => have := HJ.out.1; have := HJ.out.2.1; omega
        case rel => exact ⟨j + 1, by rw [HG.out]; first | (rw [hwc]; rfl) | rfl, by first | (rw [hwj]; rfl) | rfl, by have := HJ.out.1; have := HJ.out.2.1; omega, HJ.out.2.2.2.alloc _⟩
      | false =>
        have HG := Lib.hid (show cntK (L.take (j + 1)) k = c from by rw [HJ.out.2.2.1, g]; rfl)
        go_wp2
        go_roundg (n - (j + 1))
        case measure => have := HJ.out.1; have := HJ.out.2.1; omega
        case rel => exact ⟨j + 1, by rw [HG.out], by first | (rw [hwj]; rfl) | rfl, by have := HJ.out.1; have := HJ.out.2.1; omega, HJ.out.2.2.2.alloc _⟩
    · have hd : ¬ ((j : Int) < (n : Int)) := by omega
      have HF : Hid (cntK L k = c ∧ Ext [] w wr) := ⟨by rw [← hcc, show j = L.length from by rw [HN.out]; omega, List.take_length], hE⟩
      clear hlt hjk hn hE hcc hcl
      go_wp2
      go_ret
      exact ⟨by rw [HF.out.1]; rfl, HF.out.2⟩

theorem getD_eq_ints {A B : List Int} (hl : A.length = B.length) (h : ∀ i, i < A.length → A.getD i 0 = B.getD i 0) : A = B := by
  refine List.ext_getElem hl (fun i h1 h2 => ?_)
  have := h i h1
  rwa [List.getD_eq_getElem?_getD, List.getD_eq_getElem?_getD, List.getElem?_eq_getElem h1, List.getElem?_eq_getElem h2] at this
set_option maxRecDepth 100000 in
set_option maxHeartbeats 1600000 in
theorem pl_Ints (ao bo : Option Addr) (ca cb : Nat) (A B : List Int) (w : World) (hA : IntsAt w ao A) (hB : IntsAt w bo B) (hn : A.length ≤ 1000000) (hm : B.length ≤ 1000000) :
    Calls Try.prog 26 #[.slice ao A.length ca, .slice bo B.length cb] w fun e w' => e = .returned (.bool (decide (A = B))) ∧ Ext [] w w' := by
  have HP := Lib.hid (And.intro hA hB)
  obtain ⟨n, hnl⟩ : ∃ n, A.length = n := ⟨_, rfl⟩
  obtain ⟨m, hml⟩ : ∃ m, B.length = m := ⟨_, rfl⟩
  have HN := Lib.hid (And.intro hnl hml)
  rw [hnl] at hn ⊢
  rw [hml] at hm ⊢
  clear hA hB hnl hml
  by_cases hnm : n = m
  · subst hnm
    have hnn : ((n : Int) != (n : Int)) = false := by simp
    clear hm
    go_enter Try.func26, Try.ntmps26
    go_wp2
    go_loopg [5] n (fun cnt i wr => ∃ j : Nat, i = .int .i64 j ∧ j + cnt = n ∧ Ext [] w wr ∧ ∀ t, t < j → A.getD t 0 = B.getD t 0)
    case atStart => exact ⟨0, rfl, by omega, Ext.refl _ _, fun t ht => by omega⟩
    case round =>
      obtain ⟨j, rfl, hj, hE, hno⟩ := hrel
      by_cases hlt : j < n
      · obtain ⟨b, off, rfl, x0⟩ := (HP.out.1.ext hE (fun _ _ => by simp)) j (by rw [HN.out.1]; exact hlt)
        obtain ⟨b', off', rfl, y0⟩ := (HP.out.2.ext hE (fun _ _ => by simp)) j (by rw [HN.out.2]; exact hlt)
        obtain ⟨s, hs⟩ : ∃ s, A.getD j 0 = s := ⟨_, rfl⟩
        obtain ⟨t, ht⟩ : ∃ t, B.getD j 0 = t := ⟨_, rfl⟩
        rw [hs] at x0
        rw [ht] at y0
        have HST := Lib.hid (And.intro hs ht)
        have hi0 : (0 : Int) ≤ (j : Int) := by omega
        have hi1 : (j : Int) < (n : Int) := by omega
        have hwj : wrap64 ((j : Int) + 1) = (j : Int) + 1 := IntWalk.wrap64_in _ (by omega)
        have HJ := Lib.hid (And.intro hj (And.intro hlt (And.intro hE hno)))
        clear hj hE hno hs ht hlt hn
        by_cases hst : s = t
        · have HE := Lib.hid hst
          have hne : (s != t) = false := by simpa using hst
          clear hst
          go_wp2
          go_quiet (fail)
          go_wp2
          go_roundg (n - (j + 1))
          case measure => have := HJ.out.1; have := HJ.out.2.1; omega
          case rel =>
            refine ⟨j + 1, by first | (rw [hwj]; rfl) | rfl, by have := HJ.out.1; have := HJ.out.2.1; omega, HJ.out.2.2.1.drewN _, fun u hu => ?_⟩
            by_cases huj : u = j
            · subst huj; rw [HST.out.1, HST.out.2]; exact HE.out
            · exact HJ.out.2.2.2 u (by omega)
        · have HE := Lib.hid hst
          have hne : (s != t) = true := by simpa using hst
          clear hst
          go_wp2
          go_quiet (fail)
          go_wp2
          go_ret
          refine ⟨?_, HJ.out.2.2.1.drewN _⟩
          rw [decide_eq_false (fun h => HE.out (by rw [← HST.out.1, ← HST.out.2, h]))]
          rfl
      · have hd : decide (j < n) = false := by simpa using hlt
        have hjn : ¬ ((j : Int) < (n : Int)) := by omega
        have HJ := Lib.hid (And.intro hj (And.intro hlt (And.intro hE hno)))
        clear hj hlt hE hno hn
        go_wp2
        go_ret
        refine ⟨?_, HJ.out.2.2.1⟩
        rw [decide_eq_true (getD_eq_ints (by rw [HN.out.1, HN.out.2]) (fun i hi => HJ.out.2.2.2 i (by have := HN.out.1; have := HJ.out.2.1; omega)))]
        rfl
  · have hnn : ((n : Int) != (m : Int)) = true := by simp; omega
    have HE := Lib.hid hnm
    clear hnm
    go_enter Try.func26, Try.ntmps26
    go_wp2
    go_ret
    refine ⟨?_, Ext.refl _ _⟩
    rw [decide_eq_false (fun h => HE.out (by rw [← HN.out.1, ← HN.out.2, h]))]
    rfl
end Go.Proofs.Ytmfbgkcphiomaaa
