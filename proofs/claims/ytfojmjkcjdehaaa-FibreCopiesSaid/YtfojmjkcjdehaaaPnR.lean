/- The walk of the law PmemOne. -/
import Derived.Test.YtfojmjkcjdehaaaPhP
import Derived.Deep.CutRange
namespace Go.Proofs.Ytfojmjkcjdehaaa
open Go Go.RowKit Go.Shelf
attribute [local go_sem] Oper.semAt_some

/-- a device of the law's, between two calls -/
structure LpSt (w wr : World) (d lb sb : Nat) (D : Dv) : Prop where
  dev : DevAt wr d lb sb D
  ok : DvOk D
  n5 : D.n = 5
  ext : Ext [] w wr
  hd : w.heap.size ≤ d
  hl : w.heap.size ≤ lb
  hs : w.heap.size ≤ sb
theorem LpSt.ext1 {w wr W : World} {d lb sb : Nat} {D : Dv} (h : LpSt w wr d lb sb D) (hE : Ext [] wr W) : LpSt w W d lb sb D := ⟨h.dev.ext0 hE, h.ok, h.n5, h.ext.trans hE, h.hd, h.hl, h.hs⟩
theorem LpSt.extD {w wr W : World} {d lb sb : Nat} {D : Dv} (h : LpSt w wr d lb sb D) (hE : Ext [d, lb, sb] wr W) : Ext [] w W := h.ext.trans' hE (fun j hj => .inr (by have := h.hd; have := h.hl; have := h.hs; simp at hj; omega))
theorem LpSt.acted {w wr W : World} {d lb sb d' lb' sb' : Nat} {D D' : Dv} (h : LpSt w wr d lb sb D) (hE : Ext [d, lb, sb] wr W) (hD : DevAt W d' lb' sb' D') (hok : DvOk D') (h5 : D'.n = 5)
    (hd : d' = d ∨ wr.heap.size ≤ d') (hl : lb' = lb ∨ wr.heap.size ≤ lb') (hs : sb' = sb ∨ wr.heap.size ≤ sb') : LpSt w W d' lb' sb' D' := by
  have h1 := h.hd
  have h2 := h.hl
  have h3 := h.hs
  have h4 := h.ext.size
  exact ⟨hD, hok, h5, h.extD hE, by omega, by omega, by omega⟩
theorem dvNew5_ok : DvOk (dvNew 5) := dvNew_ok (by omega) (by omega)
theorem Dv.has5 {D : Dv} (h : D.n = 5) (a : Int) : D.has a = (decide (0 ≤ a) && decide (a < 40)) := by
  unfold Dv.has
  rw [h]
  rfl
theorem Dv.store_e (D : Dv) (a v : Int) : (D.store a v).2 = if D.has a then 0 else 4 := by
  unfold Dv.store
  cases D.has a <;> rfl
theorem Dv.store_S (D : Dv) (a v : Int) : (D.store a v).1.S = D.S := by unfold Dv.store; split <;> rfl
theorem Dv.store_L {D : Dv} {a v : Int} {j : Nat} (h : (j : Int) ≠ a) : (D.store a v).1.L j = D.L j := by
  unfold Dv.store
  split
  · rename_i hh
    show (if j = a.toNat then v else D.L j) = _
    rw [if_neg (fun e => h (by have := Dv.has_in hh; obtain ⟨k, rfl, _⟩ := this; simp at e; omega))]
  · rfl
theorem Dv.store_at {D : Dv} {v : Int} {j : Nat} (h : j < 8 * D.n) : (D.store (j : Int) v).1.L j = v := by
  unfold Dv.store
  rw [if_pos (Dv.has_nat h)]
  show (if j = (j : Int).toNat then v else D.L j) = v
  rw [if_pos (by simp)]

set_option maxRecDepth 100000 in
set_option maxHeartbeats 8000000 in
theorem pm_one (ao : Option Addr) (n cap : Nat) (A : Nat → PAct) (at' wd : Int) (w : World) (hp : PActs w ao n A) (hn : n ≤ maxLen) (hA : ∀ i, i < n → PActOk (A i)) :
    Calls Try.prog 3 #[.slice ao n cap, .int .i64 at', .int .u64 wd] w fun e w' => e = .returned (.bool true) ∧ Ext [] w w' := by
  unfold maxLen at hn
  unfold PActOk maxLen at hA
  have HF := Lib.hid (pm_few ao n cap A 20 w hp hn hA)
  have HW := Lib.hid pm_works
  have HP := Lib.hid (And.intro hp hA)
  have HN5 : Hid (∀ w : World, Calls Try.prog 14 #[.int .i64 5] w fun e w' => e = .returned (.tuple #[.pointer (some ⟨w.heap.size + 2, 0, none⟩), .int .i64 0]) ∧ Ext [] w w' ∧ ∃ lb sb, DevAt w' (w.heap.size + 2) lb sb (dvNew 5) ∧ w.heap.size ≤ lb ∧ w.heap.size ≤ sb) := fun w => pm_New 5 w (by omega) (by omega)
  clear hp hA
  cases hf : fewP n A 20 with
  | false =>
    rw [hf] at HF
    clear hf
    go_enter Try.func3, Try.ntmps3
    go_wp2_with fail
    refine HF.out.mono ?_
    rintro e w' ⟨rfl, rfl⟩
    go_wp2_with fail
    refine (HW.out _).mono ?_
    rintro e w2 ⟨rfl, hE2⟩
    have H2 := Lib.hid hE2
    clear hE2
    go_wp2
    go_ret
    exact ⟨rfl, H2.out⟩
  | true =>
    rw [hf] at HF
    clear hf
    go_enter Try.func3, Try.ntmps3
    go_wp2_with fail
    refine HF.out.mono ?_
    rintro e w' ⟨rfl, rfl⟩
    go_wp2_with fail
    refine (HN5.out _).mono ?_
    rintro e w1 ⟨rfl, hE1, lb0, sb0, hD1, hl1, hs1⟩
    have H1 := Lib.hid (show LpSt w w1 (w.heap.size + 2) lb0 sb0 (dvNew 5) from ⟨hD1, dvNew5_ok, rfl, hE1, by omega, hl1, hs1⟩)
    obtain ⟨d0, hd0⟩ : ∃ d0, w.heap.size + 2 = d0 := ⟨_, rfl⟩
    rw [hd0] at H1 ⊢
    clear hE1 hD1 hl1 hs1 hd0 HN5 HF
    go_wp2
    go_loopg [7, 9] n (fun cnt p i wr => ∃ (j d lb sb : Nat) (D : Dv), p = .pointer (some ⟨d, 0, none⟩) ∧ i = .int .i64 j ∧ j + cnt = n ∧ LpSt w wr d lb sb D)
    case atStart => exact ⟨0, d0, lb0, sb0, dvNew 5, rfl, rfl, by omega, H1.out⟩
    case round =>
      obtain ⟨j, d, lb, sb, D, rfl, rfl, hj, hst⟩ := hrel
      have HST := Lib.hid hst
      clear hst
      by_cases hlt : j < n
      · obtain ⟨b, off, rfl, x0, x1, x2, x3, x4, x5, x6⟩ : ∃ b off, ao = some ⟨b, off, none⟩ ∧ w.cell? ⟨b, off + j * 6, none⟩ = some (.int .i64 (A j).what) ∧ w.cell? ⟨b, off + j * 6 + 1, none⟩ = some (.int .i64 (A j).at') ∧ w.cell? ⟨b, off + j * 6 + 2, none⟩ = some (.int .i64 (A j).line) ∧
            w.cell? ⟨b, off + j * 6 + 3, none⟩ = some (.int .u64 (A j).wd) ∧ w.cell? ⟨b, off + j * 6 + 4, none⟩ = some (.int .u64 (A j).fr) ∧ w.cell? ⟨b, off + j * 6 + 5, none⟩ = some (.slice (A j).bo (A j).n (A j).cap) ∧ BoolsAt w (A j).bo (A j).n (A j).M := by
          rcases HP.out.1 with h | ⟨b, off, h1, h2⟩
          · omega
          · exact ⟨b, off, h1, h2 j hlt⟩
        have HM := Lib.hid x6
        have HMN := Lib.hid (HP.out.2 j hlt)
        have HS : Hid (∀ W, Ext [] w W → W.cell? ⟨b, off + j * 6, none⟩ = some (.int .i64 (A j).what) ∧ W.cell? ⟨b, off + j * 6 + 1, none⟩ = some (.int .i64 (A j).at') ∧ W.cell? ⟨b, off + j * 6 + 2, none⟩ = some (.int .i64 (A j).line) ∧
            W.cell? ⟨b, off + j * 6 + 3, none⟩ = some (.int .u64 (A j).wd) ∧ W.cell? ⟨b, off + j * 6 + 4, none⟩ = some (.int .u64 (A j).fr) ∧ W.cell? ⟨b, off + j * 6 + 5, none⟩ = some (.slice (A j).bo (A j).n (A j).cap)) := fun W hE =>
          ⟨hE.cell x0 (by simp), hE.cell x1 (by simp), hE.cell x2 (by simp), hE.cell x3 (by simp), hE.cell x4 (by simp), hE.cell x5 (by simp)⟩
        have hi0 : (0 : Int) ≤ (j : Int) := by omega
        have hi1 : (j : Int) < (n : Int) := by omega
        have HJ := Lib.hid (And.intro hj hlt)
        clear hj hlt x0 x1 x2 x3 x4 x5 x6
        go_wp2
        go_region_held3 (fun W => W.cell? ⟨b, off + j * 6, none⟩ = some (.int .i64 (A j).what) ∧ W.cell? ⟨b, off + j * 6 + 1, none⟩ = some (.int .i64 (A j).at') ∧ W.cell? ⟨b, off + j * 6 + 2, none⟩ = some (.int .i64 (A j).line) ∧
            W.cell? ⟨b, off + j * 6 + 3, none⟩ = some (.int .u64 (A j).wd) ∧ W.cell? ⟨b, off + j * 6 + 4, none⟩ = some (.int .u64 (A j).fr) ∧ W.cell? ⟨b, off + j * 6 + 5, none⟩ = some (.slice (A j).bo (A j).n (A j).cap))
          (first
            | exact HS.out _ HST.out.ext.drew
            | exact HS.out _ hX5
            | exact HS.out _ HST7.out.ext)
          ((first
            | (go_at_call 16; refine (pm_none5 _).mono ?_
               rintro e w5 ⟨v5, rfl, hE5, hR5⟩
               have hX5 : Ext [] w w5 := HST.out.ext.drew.trans hE5
               have HST5 := Lib.hid (HST.out.ext1 ((Ext.refl [] wr).drew.trans hE5))
               have HR5 := Lib.hid hR5
               clear hE5 hR5)
            | (go_at_call 15; refine (pm_act d lb sb D (dvNew 5) v5 (A j) w5 HST5.out.dev HST5.out.ok HR5.out dvNew5_ok HST5.out.n5 (fun W hE => HM.out.ext (HST5.out.extD hE)) HMN.out).mono ?_
               rintro e w7 ⟨d', lb', sb', v7, b7, rfl, hE7, hD7, hR7, hd7, hl7, hs7, _⟩
               have HST7 := Lib.hid (HST5.out.acted hE7 hD7 (actD_ok HST5.out.ok _) ((actD_n _ _).trans HST5.out.n5) hd7 hl7 hs7)
               clear hE7 hD7 hR7 hd7 hl7 hs7)
            | fail))
        all_goals go_wp2
        all_goals
          go_roundg (n - (j + 1))
          case measure => have := HJ.out; omega
          case rel => exact ⟨j + 1, d', lb', sb', _, rfl, by go_num, by have := HJ.out; omega, HST7.out⟩
      · have hd : decide (j < n) = false := by simpa using hlt
        have HZ := Lib.hid hn
        clear hj hlt hn
        have HCP := Lib.hid (fun W (hE : Ext [] wr W) => pm_Copy d lb sb D W (HST.out.dev.ext0 hE) HST.out.ok)
        go_wp2_with fail
        refine (HCP.out _ (Ext.refl _ _)).mono ?_
        rintro e w2 ⟨d2, lb2, sb2, rfl, hE2, hD2, hd2, hl2, hs2⟩
        have HC := Lib.hid (And.intro (HST.out.ext1 hE2) (And.intro hD2 (And.intro hd2 (And.intro hl2 hs2))))
        clear hE2 hD2 hd2 hl2 hs2 HCP
        go_wp2_with fail
        refine (pm_Store d lb sb at' wd D w2 HC.out.1.dev HC.out.1.ok).mono ?_
        rintro e w3 ⟨rfl, hD3, hE3⟩
        have hne : ∀ q, wr.heap.size ≤ q → q ∉ [lb] := fun q hq hm => by have := HST.out.dev.lt; simp at hm; omega
        have hD2 := HC.out.2.1.ext hE3 (hne _ HC.out.2.2.1) (hne _ HC.out.2.2.2.1) (hne _ HC.out.2.2.2.2) (fun g cur hg hm => by
          simp at hm
          subst hm
          obtain ⟨c, h1, _⟩ := HC.out.1.dev.2.1
          rw [h1] at hg
          simp at hg)
        have hok3 := Dv.store_ok HST.out.ok at' wd
        have hn3 := (Dv.store_n D at' wd).trans HST.out.n5
        have HE := Lib.hid (Dv.store_e D at' wd)
        have HS3 := Lib.hid (Dv.store_S D at' wd)
        have HL3 := Lib.hid (fun j => @Dv.store_L D at' wd j)
        have HA3 := Lib.hid (fun j => @Dv.store_at D wd j)
        have h5 := Dv.has5 HST.out.n5 at'
        obtain ⟨D3, hD3'⟩ : ∃ D3, (D.store at' wd).1 = D3 := ⟨_, rfl⟩
        obtain ⟨e3, he3⟩ : ∃ e3, (D.store at' wd).2 = e3 := ⟨_, rfl⟩
        rw [hD3'] at hD3 hok3 hn3 HS3 HL3
        rw [he3] at HE ⊢
        have HE3 := Lib.hid he3
        have HD3 := Lib.hid hD3'
        have H3 := Lib.hid (And.intro hD3 (And.intro hok3 (And.intro hn3 (And.intro hD2 (HC.out.1.ext.trans' hE3 (fun q hq => .inr (by have := HST.out.hl; simp at hq; omega)))))))
        clear hD3 hE3 hne hD2 hok3 hn3 hD3' he3
        have HH : Hid (e3 = if (decide (0 ≤ at') && decide (at' < 40)) then 0 else 4) := by rw [← h5]; exact HE.out
        clear h5 HE
        by_cases g0 : 0 ≤ at'
        · by_cases g1 : at' < 40
          · obtain rfl : e3 = 0 := by rw [HH.out]; rw [decide_eq_true g0, decide_eq_true g1]; rfl
            have HG := Lib.hid HH.out
            go_wp2_with (go_at_call 19; refine (pm_num _ _).mono ?_; rintro e w' ⟨rfl, rfl⟩)
            go_loopg [12] 40 (fun cnt i wr => ∃ j : Nat, i = .int .i64 j ∧ j + cnt = 40 ∧ Ext [] w3 wr)
            case atStart => exact ⟨0, rfl, by omega, Ext.refl _ _⟩
            case round =>
              obtain ⟨j2, rfl, hj2, hE2⟩ := hrel
              have HE2 := Lib.hid hE2
              clear hE2
              by_cases hlt2 : j2 < 40
              · have HLA := Lib.hid (fun W (hE : Ext [] w3 W) => pm_Load d lb sb (j2 : Int) D3 W (H3.out.1.ext0 hE) H3.out.2.1)
                have HLB := Lib.hid (fun W (hE : Ext [] w3 W) => pm_Load d2 lb2 sb2 (j2 : Int) D W (H3.out.2.2.2.1.ext0 hE) HC.out.1.ok)
                have HSA := Lib.hid (fun W (hE : Ext [] w3 W) => pm_Stays d lb sb (j2 : Int) D3 W (H3.out.1.ext0 hE) H3.out.2.1)
                have HSB := Lib.hid (fun W (hE : Ext [] w3 W) => pm_Stays d2 lb2 sb2 (j2 : Int) D W (H3.out.2.2.2.1.ext0 hE) HC.out.1.ok)
                rw [Dv.load_nat (show j2 < 8 * D3.n by rw [H3.out.2.2.1]; omega)] at HLA
                rw [Dv.load_nat (show j2 < 8 * D.n by rw [HC.out.1.n5]; omega)] at HLB
                rw [Dv.stays_nat (show j2 < 8 * D3.n by rw [H3.out.2.2.1]; omega), HS3.out] at HSA
                rw [Dv.stays_nat (show j2 < 8 * D.n by rw [HC.out.1.n5]; omega)] at HSB
                have hi0 : (0 : Int) ≤ (j2 : Int) := by omega
                have hi1 : (j2 : Int) < 40 := by omega
                have hss : (D.S j2 != D.S j2) = false := by simp
                have HJ := Lib.hid (And.intro hj2 hlt2)
                by_cases hij : (j2 : Int) = at'
                · have hb1 : ((j2 : Int) != at') = false := by simpa using hij
                  have hb2 : ((j2 : Int) == at') = true := by simpa using hij
                  have hLw : D3.L j2 = wd := by
                    rw [← HD3.out, ← hij]
                    exact HA3.out j2 (by rw [HC.out.1.n5]; omega)
                  rw [hLw] at HLA
                  have hww : (wd != wd) = false := by simp
                  clear hij hj2 hlt2 hLw
                  generalize D.L j2 = y at *
                  generalize D.S j2 = s at *
                  go_wp2_with fail
                  refine (HLA.out _ HE2.out).mono ?_
                  rintro e w4 ⟨rfl, hE4⟩
                  have H4 := Lib.hid (HE2.out.trans hE4)
                  clear hE4
                  go_wp2_with fail
                  refine (HLB.out _ H4.out).mono ?_
                  rintro e w5 ⟨rfl, hE5⟩
                  have H5 := Lib.hid (H4.out.trans hE5)
                  clear hE5
                  go_wp2_with fail
                  refine (HSA.out _ H5.out).mono ?_
                  rintro e w6 ⟨rfl, hE6⟩
                  have H6 := Lib.hid (H5.out.trans hE6)
                  clear hE6
                  go_wp2_with fail
                  refine (HSB.out _ H6.out).mono ?_
                  rintro e w7 ⟨rfl, hE7⟩
                  have H7 := Lib.hid (H6.out.trans hE7)
                  clear hE7
                  go_wp2_with (go_at_call 19; refine (pm_num _ _).mono ?_; rintro e w' ⟨rfl, rfl⟩)
                  go_roundg (40 - (j2 + 1))
                  case measure => have := HJ.out; omega
                  case rel => exact ⟨j2 + 1, by go_num, by have := HJ.out; omega, H7.out⟩
                · have hb1 : ((j2 : Int) != at') = true := by simpa using hij
                  have hb2 : ((j2 : Int) == at') = false := by simpa using hij
                  rw [HL3.out j2 hij] at HLA
                  have hww : (D.L j2 != D.L j2) = false := by simp
                  clear hij hj2 hlt2
                  generalize D.L j2 = y at *
                  generalize D.S j2 = s at *
                  go_wp2_with fail
                  refine (HLA.out _ HE2.out).mono ?_
                  rintro e w4 ⟨rfl, hE4⟩
                  have H4 := Lib.hid (HE2.out.trans hE4)
                  clear hE4
                  go_wp2_with fail
                  refine (HLB.out _ H4.out).mono ?_
                  rintro e w5 ⟨rfl, hE5⟩
                  have H5 := Lib.hid (H4.out.trans hE5)
                  clear hE5
                  go_wp2_with fail
                  refine (HSA.out _ H5.out).mono ?_
                  rintro e w6 ⟨rfl, hE6⟩
                  have H6 := Lib.hid (H5.out.trans hE6)
                  clear hE6
                  go_wp2_with fail
                  refine (HSB.out _ H6.out).mono ?_
                  rintro e w7 ⟨rfl, hE7⟩
                  have H7 := Lib.hid (H6.out.trans hE7)
                  clear hE7
                  go_wp2_with (go_at_call 19; refine (pm_num _ _).mono ?_; rintro e w' ⟨rfl, rfl⟩)
                  go_roundg (40 - (j2 + 1))
                  case measure => have := HJ.out; omega
                  case rel => exact ⟨j2 + 1, by go_num, by have := HJ.out; omega, H7.out⟩
              · have hd2 : ¬ ((j2 : Int) < 40) := by omega
                clear hj2 hlt2
                go_wp2_with fail
                refine (HW.out _).mono ?_
                rintro e w5 ⟨rfl, hE5⟩
                have H5 := Lib.hid hE5
                clear hE5
                go_wp2
                go_ret
                exact ⟨rfl, H3.out.2.2.2.2.trans (HE2.out.trans H5.out)⟩
          · obtain rfl : e3 = 4 := by rw [HH.out]; rw [decide_eq_false g1, Bool.and_false]; rfl
            have HG := Lib.hid HH.out
            go_wp2_with (go_at_call 19; refine (pm_num _ _).mono ?_; rintro e w' ⟨rfl, rfl⟩)
            go_loopg [12] 40 (fun cnt i wr => ∃ j : Nat, i = .int .i64 j ∧ j + cnt = 40 ∧ Ext [] w3 wr)
            case atStart => exact ⟨0, rfl, by omega, Ext.refl _ _⟩
            case round =>
              obtain ⟨j2, rfl, hj2, hE2⟩ := hrel
              have HE2 := Lib.hid hE2
              clear hE2
              by_cases hlt2 : j2 < 40
              · have HLA := Lib.hid (fun W (hE : Ext [] w3 W) => pm_Load d lb sb (j2 : Int) D3 W (H3.out.1.ext0 hE) H3.out.2.1)
                have HLB := Lib.hid (fun W (hE : Ext [] w3 W) => pm_Load d2 lb2 sb2 (j2 : Int) D W (H3.out.2.2.2.1.ext0 hE) HC.out.1.ok)
                have HSA := Lib.hid (fun W (hE : Ext [] w3 W) => pm_Stays d lb sb (j2 : Int) D3 W (H3.out.1.ext0 hE) H3.out.2.1)
                have HSB := Lib.hid (fun W (hE : Ext [] w3 W) => pm_Stays d2 lb2 sb2 (j2 : Int) D W (H3.out.2.2.2.1.ext0 hE) HC.out.1.ok)
                rw [Dv.load_nat (show j2 < 8 * D3.n by rw [H3.out.2.2.1]; omega)] at HLA
                rw [Dv.load_nat (show j2 < 8 * D.n by rw [HC.out.1.n5]; omega)] at HLB
                rw [Dv.stays_nat (show j2 < 8 * D3.n by rw [H3.out.2.2.1]; omega), HS3.out] at HSA
                rw [Dv.stays_nat (show j2 < 8 * D.n by rw [HC.out.1.n5]; omega)] at HSB
                have hi0 : (0 : Int) ≤ (j2 : Int) := by omega
                have hi1 : (j2 : Int) < 40 := by omega
                have hss : (D.S j2 != D.S j2) = false := by simp
                have HJ := Lib.hid (And.intro hj2 hlt2)
                by_cases hij : (j2 : Int) = at'
                · have hb1 : ((j2 : Int) != at') = false := by simpa using hij
                  have hb2 : ((j2 : Int) == at') = true := by simpa using hij
                  have hLw : D3.L j2 = wd := by
                    rw [← HD3.out, ← hij]
                    exact HA3.out j2 (by rw [HC.out.1.n5]; omega)
                  rw [hLw] at HLA
                  have hww : (wd != wd) = false := by simp
                  clear hij hj2 hlt2 hLw
                  generalize D.L j2 = y at *
                  generalize D.S j2 = s at *
                  go_wp2_with fail
                  refine (HLA.out _ HE2.out).mono ?_
                  rintro e w4 ⟨rfl, hE4⟩
                  have H4 := Lib.hid (HE2.out.trans hE4)
                  clear hE4
                  go_wp2_with fail
                  refine (HLB.out _ H4.out).mono ?_
                  rintro e w5 ⟨rfl, hE5⟩
                  have H5 := Lib.hid (H4.out.trans hE5)
                  clear hE5
                  go_wp2_with fail
                  refine (HSA.out _ H5.out).mono ?_
                  rintro e w6 ⟨rfl, hE6⟩
                  have H6 := Lib.hid (H5.out.trans hE6)
                  clear hE6
                  go_wp2_with fail
                  refine (HSB.out _ H6.out).mono ?_
                  rintro e w7 ⟨rfl, hE7⟩
                  have H7 := Lib.hid (H6.out.trans hE7)
                  clear hE7
                  go_wp2_with (go_at_call 19; refine (pm_num _ _).mono ?_; rintro e w' ⟨rfl, rfl⟩)
                  go_roundg (40 - (j2 + 1))
                  case measure => have := HJ.out; omega
                  case rel => exact ⟨j2 + 1, by go_num, by have := HJ.out; omega, H7.out⟩
                · have hb1 : ((j2 : Int) != at') = true := by simpa using hij
                  have hb2 : ((j2 : Int) == at') = false := by simpa using hij
                  rw [HL3.out j2 hij] at HLA
                  have hww : (D.L j2 != D.L j2) = false := by simp
                  clear hij hj2 hlt2
                  generalize D.L j2 = y at *
                  generalize D.S j2 = s at *
                  go_wp2_with fail
                  refine (HLA.out _ HE2.out).mono ?_
                  rintro e w4 ⟨rfl, hE4⟩
                  have H4 := Lib.hid (HE2.out.trans hE4)
                  clear hE4
                  go_wp2_with fail
                  refine (HLB.out _ H4.out).mono ?_
                  rintro e w5 ⟨rfl, hE5⟩
                  have H5 := Lib.hid (H4.out.trans hE5)
                  clear hE5
                  go_wp2_with fail
                  refine (HSA.out _ H5.out).mono ?_
                  rintro e w6 ⟨rfl, hE6⟩
                  have H6 := Lib.hid (H5.out.trans hE6)
                  clear hE6
                  go_wp2_with fail
                  refine (HSB.out _ H6.out).mono ?_
                  rintro e w7 ⟨rfl, hE7⟩
                  have H7 := Lib.hid (H6.out.trans hE7)
                  clear hE7
                  go_wp2_with (go_at_call 19; refine (pm_num _ _).mono ?_; rintro e w' ⟨rfl, rfl⟩)
                  go_roundg (40 - (j2 + 1))
                  case measure => have := HJ.out; omega
                  case rel => exact ⟨j2 + 1, by go_num, by have := HJ.out; omega, H7.out⟩
              · have hd2 : ¬ ((j2 : Int) < 40) := by omega
                clear hj2 hlt2
                go_wp2_with fail
                refine (HW.out _).mono ?_
                rintro e w5 ⟨rfl, hE5⟩
                have H5 := Lib.hid hE5
                clear hE5
                go_wp2
                go_ret
                exact ⟨rfl, H3.out.2.2.2.2.trans (HE2.out.trans H5.out)⟩
        · obtain rfl : e3 = 4 := by rw [HH.out]; rw [decide_eq_false g0, Bool.false_and]; rfl
          have HG := Lib.hid HH.out
          go_wp2_with (go_at_call 19; refine (pm_num _ _).mono ?_; rintro e w' ⟨rfl, rfl⟩)
          go_loopg [12] 40 (fun cnt i wr => ∃ j : Nat, i = .int .i64 j ∧ j + cnt = 40 ∧ Ext [] w3 wr)
          case atStart => exact ⟨0, rfl, by omega, Ext.refl _ _⟩
          case round =>
            obtain ⟨j2, rfl, hj2, hE2⟩ := hrel
            have HE2 := Lib.hid hE2
            clear hE2
            by_cases hlt2 : j2 < 40
            · have HLA := Lib.hid (fun W (hE : Ext [] w3 W) => pm_Load d lb sb (j2 : Int) D3 W (H3.out.1.ext0 hE) H3.out.2.1)
              have HLB := Lib.hid (fun W (hE : Ext [] w3 W) => pm_Load d2 lb2 sb2 (j2 : Int) D W (H3.out.2.2.2.1.ext0 hE) HC.out.1.ok)
              have HSA := Lib.hid (fun W (hE : Ext [] w3 W) => pm_Stays d lb sb (j2 : Int) D3 W (H3.out.1.ext0 hE) H3.out.2.1)
              have HSB := Lib.hid (fun W (hE : Ext [] w3 W) => pm_Stays d2 lb2 sb2 (j2 : Int) D W (H3.out.2.2.2.1.ext0 hE) HC.out.1.ok)
              rw [Dv.load_nat (show j2 < 8 * D3.n by rw [H3.out.2.2.1]; omega)] at HLA
              rw [Dv.load_nat (show j2 < 8 * D.n by rw [HC.out.1.n5]; omega)] at HLB
              rw [Dv.stays_nat (show j2 < 8 * D3.n by rw [H3.out.2.2.1]; omega), HS3.out] at HSA
              rw [Dv.stays_nat (show j2 < 8 * D.n by rw [HC.out.1.n5]; omega)] at HSB
              have hi0 : (0 : Int) ≤ (j2 : Int) := by omega
              have hi1 : (j2 : Int) < 40 := by omega
              have hss : (D.S j2 != D.S j2) = false := by simp
              have HJ := Lib.hid (And.intro hj2 hlt2)
              by_cases hij : (j2 : Int) = at'
              · have hb1 : ((j2 : Int) != at') = false := by simpa using hij
                have hb2 : ((j2 : Int) == at') = true := by simpa using hij
                have hLw : D3.L j2 = wd := by
                  rw [← HD3.out, ← hij]
                  exact HA3.out j2 (by rw [HC.out.1.n5]; omega)
                rw [hLw] at HLA
                have hww : (wd != wd) = false := by simp
                clear hij hj2 hlt2 hLw
                generalize D.L j2 = y at *
                generalize D.S j2 = s at *
                go_wp2_with fail
                refine (HLA.out _ HE2.out).mono ?_
                rintro e w4 ⟨rfl, hE4⟩
                have H4 := Lib.hid (HE2.out.trans hE4)
                clear hE4
                go_wp2_with fail
                refine (HLB.out _ H4.out).mono ?_
                rintro e w5 ⟨rfl, hE5⟩
                have H5 := Lib.hid (H4.out.trans hE5)
                clear hE5
                go_wp2_with fail
                refine (HSA.out _ H5.out).mono ?_
                rintro e w6 ⟨rfl, hE6⟩
                have H6 := Lib.hid (H5.out.trans hE6)
                clear hE6
                go_wp2_with fail
                refine (HSB.out _ H6.out).mono ?_
                rintro e w7 ⟨rfl, hE7⟩
                have H7 := Lib.hid (H6.out.trans hE7)
                clear hE7
                go_wp2_with (go_at_call 19; refine (pm_num _ _).mono ?_; rintro e w' ⟨rfl, rfl⟩)
                go_roundg (40 - (j2 + 1))
                case measure => have := HJ.out; omega
                case rel => exact ⟨j2 + 1, by go_num, by have := HJ.out; omega, H7.out⟩
              · have hb1 : ((j2 : Int) != at') = true := by simpa using hij
                have hb2 : ((j2 : Int) == at') = false := by simpa using hij
                rw [HL3.out j2 hij] at HLA
                have hww : (D.L j2 != D.L j2) = false := by simp
                clear hij hj2 hlt2
                generalize D.L j2 = y at *
                generalize D.S j2 = s at *
                go_wp2_with fail
                refine (HLA.out _ HE2.out).mono ?_
                rintro e w4 ⟨rfl, hE4⟩
                have H4 := Lib.hid (HE2.out.trans hE4)
                clear hE4
                go_wp2_with fail
                refine (HLB.out _ H4.out).mono ?_
                rintro e w5 ⟨rfl, hE5⟩
                have H5 := Lib.hid (H4.out.trans hE5)
                clear hE5
                go_wp2_with fail
                refine (HSA.out _ H5.out).mono ?_
                rintro e w6 ⟨rfl, hE6⟩
                have H6 := Lib.hid (H5.out.trans hE6)
                clear hE6
                go_wp2_with fail
                refine (HSB.out _ H6.out).mono ?_
                rintro e w7 ⟨rfl, hE7⟩
                have H7 := Lib.hid (H6.out.trans hE7)
                clear hE7
                go_wp2_with (go_at_call 19; refine (pm_num _ _).mono ?_; rintro e w' ⟨rfl, rfl⟩)
                go_roundg (40 - (j2 + 1))
                case measure => have := HJ.out; omega
                case rel => exact ⟨j2 + 1, by go_num, by have := HJ.out; omega, H7.out⟩
            · have hd2 : ¬ ((j2 : Int) < 40) := by omega
              clear hj2 hlt2
              go_wp2_with fail
              refine (HW.out _).mono ?_
              rintro e w5 ⟨rfl, hE5⟩
              have H5 := Lib.hid hE5
              clear hE5
              go_wp2
              go_ret
              exact ⟨rfl, H3.out.2.2.2.2.trans (HE2.out.trans H5.out)⟩
end Go.Proofs.Ytfojmjkcjdehaaa
