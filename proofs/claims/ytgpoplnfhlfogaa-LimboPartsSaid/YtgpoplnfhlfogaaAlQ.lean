/- Package alloc: Same. -/
import Derived.Test.YtgpoplnfhlfogaaAlN
import Derived.Test.YtgpoplnfhlfogaaRes
import Derived.Test.YtgpoplnfhlfogaaAlD
namespace Go.Proofs.Ytgpoplnfhlfogaa
open Go Go.RowKit Go.Shelf
attribute [local go_sem] Oper.semAt_some

def sameB (S1 S2 : Lns) (lo : Int) (n : Nat) : Bool := (lnsOf lo n).all (lnEq S1 S2)
theorem sameB_true {S1 S2 : Lns} {lo : Int} {n : Nat} (h : selL (fun k => !lnEq S1 S2 k) lo n = []) : sameB S1 S2 lo n = true := by
  unfold sameB
  rw [List.all_eq_true]
  intro k hk
  unfold selL at h
  rw [List.filter_eq_nil_iff] at h
  simpa using h k hk
theorem sameB_false {S1 S2 : Lns} {lo : Int} {n i : Nat} (hi : i < n) (h : (!lnEq S1 S2 (lo + (i : Int))) = true) : sameB S1 S2 lo n = false := by
  cases hf : sameB S1 S2 lo n with
  | false => rfl
  | true =>
    unfold sameB at hf
    rw [List.all_eq_true] at hf
    have := hf (lo + (i : Int)) ((mem_lnsOf lo n _).2 (by omega))
    rw [this] at h
    cases h
theorem sameB_refl {S1 S2 : Lns} {lo : Int} {n : Nat} (h : ∀ k, lo ≤ k ∧ k < lo + n → S1 k = S2 k) : sameB S1 S2 lo n = true := by
  unfold sameB
  rw [List.all_eq_true]
  intro k hk
  unfold lnEq
  rw [h k ((mem_lnsOf lo n k).1 hk)]
  simp

set_option maxRecDepth 100000 in
set_option maxHeartbeats 4000000 in
theorem al_Same (c1 c2 mb1 mb2 : Nat) (lo : Int) (n : Nat) (S1 S2 : Lns) (w : World) (h0 : -1000000000 ≤ lo) (h1 : lo + n ≤ 1000000000) (hp1 : Pool w c1 mb1 lo (lo + (n : Int) - 1) S1) (hp2 : Pool w c2 mb2 lo (lo + (n : Int) - 1) S2) :
    Calls Try.prog 30 #[.pointer (some ⟨c1, 0, none⟩), .pointer (some ⟨c2, 0, none⟩)] w fun e w' => e = .returned (.bool (sameB S1 S2 lo n)) ∧ Ext [] w w' := by
  have hE1 := (((Ext.refl [] w).alloc (.cells #[.pointer (some ⟨c1, 0, none⟩)] 39)).alloc (.cells #[.pointer (some ⟨c2, 0, none⟩)] 39)).alloc (.cells #[.bool false] 4)
  obtain ⟨hb1, hb2, hbr, hs1⟩ := al3_heap (w := w) #[.pointer (some ⟨c1, 0, none⟩)] #[.pointer (some ⟨c2, 0, none⟩)] #[.bool false] 39 39 4
  generalize hw1 : ((w.alloc (.cells #[.pointer (some ⟨c1, 0, none⟩)] 39)).alloc (.cells #[.pointer (some ⟨c2, 0, none⟩)] 39)).alloc (.cells #[.bool false] 4) = w1 at *
  have q1 := hp1.ext hE1 (by simp) (by simp)
  have q2 := hp2.ext hE1 (by simp) (by simp)
  have hcw : c1 < w.heap.size ∧ c2 < w.heap.size ∧ mb1 < w.heap.size ∧ mb2 < w.heap.size := ⟨lt_of_block hp1.1, lt_of_block hp2.1, hp1.2.lt, hp2.2.lt⟩
  have H1 := Lib.hid (And.intro hE1 (And.intro hb1 (And.intro hb2 (And.intro hbr (And.intro hs1 (And.intro q1 (And.intro q2 hcw)))))))
  have k1 := cell_of (j := 0) (v := .pointer (some ⟨c1, 0, none⟩)) hb1 rfl
  have k2 := cell_of (j := 0) (v := .pointer (some ⟨c2, 0, none⟩)) hb2 rfl
  have k3 := cell_of (j := 0) (v := .int .i64 lo) q1.1 rfl
  have k4 := cell_of (j := 1) (v := .int .i64 (lo + (n : Int) - 1)) q1.1 rfl
  clear hp1 hp2 hE1 hb1 hb2 hbr hs1 q1 q2 hcw
  refine (callsIn_wide (n := 0)).1 (callsIn_of_wp_marks Try.func30 rfl trivial ?_ rfl)
  simp only [Try.ntmps30, List.size_toArray, List.length_cons, List.length_nil, Nat.reduceAdd, Nat.reduceSub, Array.replicate_succ, Array.replicate_zero, List.push_toArray, List.append_toArray, List.nil_append, List.cons_append]
  refine wpIn_wide.2 ?_
  have hcf := enters_of Try.func76 (by kernel_rfl) rfl
  go_wp2_with fail
  refine (al_none c1 mb1 lo _ S1 w1 H1.out.2.2.2.2.2.1).mono ?_
  rintro e w' ⟨rfl, rfl⟩
  go_wp2_with fail
  refine (al_none c2 mb2 lo _ S2 w1 H1.out.2.2.2.2.2.2.1).mono ?_
  rintro e w' ⟨rfl, rfl⟩
  go_wp2_with fail
  refine (al_those lo _ 76 #[.pointer (some ⟨w.heap.size, 0, none⟩), .pointer (some ⟨w.heap.size + 1, 0, none⟩)] _).mono ?_
  rintro e w' ⟨rfl, rfl⟩
  go_wp2
  obtain ⟨rb, hrb⟩ : ∃ rb, rb = w.heap.size + 1 + 1 := ⟨_, rfl⟩
  rw [← hrb]
  have hbr1 : w1.heap[rb]? = some (.cells #[.bool false] 4 (0, 0)) := by rw [hrb]; exact H1.out.2.2.2.1
  obtain ⟨hB3, hF3, hs3⟩ := al2_heap (w := w1) #[.int .i64 lo, .int .i64 (lo + (n : Int) - 1)] #[.func (.func 76) #[] #[.pointer (some ⟨w.heap.size, 0, none⟩), .pointer (some ⟨w.heap.size + 1, 0, none⟩)]] 62 69
  have hE3 : Ext [] w1 _ := ((Ext.refl [] w1).alloc (.cells #[.int .i64 lo, .int .i64 (lo + (n : Int) - 1)] 62)).alloc (.cells #[.func (.func 76) #[] #[.pointer (some ⟨w.heap.size, 0, none⟩), .pointer (some ⟨w.heap.size + 1, 0, none⟩)]] 69)
  rw [show w1.heap.size = w.heap.size + 3 from H1.out.2.2.2.2.1] at *
  generalize hw3 : ((w1.alloc (.cells #[.int .i64 lo, .int .i64 (lo + (n : Int) - 1)] 62)).alloc (.cells #[.func (.func 76) #[] #[.pointer (some ⟨w.heap.size, 0, none⟩), .pointer (some ⟨w.heap.size + 1, 0, none⟩)]] 69)) = w3 at *
  have H3 := Lib.hid (And.intro hE3 (And.intro hB3 (And.intro hF3 (And.intro hs3 (hE3.at hbr1 (by simp))))))
  have HRB := Lib.hid hrb
  clear hE3 hB3 hF3 hs3 hw3 hrb hbr1
  refine wpIn_wide.1 (wp_range (gf := 106) (lb := #[.pointer (some ⟨w.heap.size + 3, 0, none⟩), .pointer (some ⟨w.heap.size + 3 + 1, 0, none⟩)]) rfl (fun args w => enters_of Try.func106 (by kernel_rfl) rfl args w)
    (those_seq (w.heap.size + 3) (w.heap.size + 3 + 1) 76 #[.pointer (some ⟨w.heap.size, 0, none⟩), .pointer (some ⟨w.heap.size + 1, 0, none⟩)] lo n (fun k => !lnEq S1 S2 k)
      (fun W => W.cell? ⟨w.heap.size, 0, none⟩ = some (.pointer (some ⟨c1, 0, none⟩)) ∧ W.cell? ⟨w.heap.size + 1, 0, none⟩ = some (.pointer (some ⟨c2, 0, none⟩)) ∧ Pool W c1 mb1 lo (lo + (n : Int) - 1) S1 ∧ Pool W c2 mb2 lo (lo + (n : Int) - 1) S2) h0 h1 hcf
      (fun W hW i _ => al_same1 _ _ c1 c2 mb1 mb2 lo _ lo _ S1 S2 _ W hW.1 hW.2.1 hW.2.2.1 hW.2.2.2)) (fun pre x h => by obtain ⟨i, _, _, _, rfl⟩ := okL_last h; rfl) [rb]
    (fun mm pre W => mm = [rb] ∧ pre = [] ∧ Ext [rb] w3 W ∧ W.heap[rb]? = some (.cells #[.bool false] 4 (0, 0)))
    (fun c W => c = .ret ∧ sameB S1 S2 lo n = false ∧ Ext [rb] w3 W ∧ W.heap[rb]? = some (.cells #[.bool false] 4 (0, 0))) ?_ ?_ ?_ ?_ ?_ ?_ ?_ ?_)
  · exact fun mm pre => (Steady.const _ _).and ((Steady.const _ _).and ((Steady.ext (Nat.le_refl _)).and (Steady.block (.inr rfl))))
  · exact fun c => (Steady.const _ _).and ((Steady.const _ _).and ((Steady.ext (Nat.le_refl _)).and (Steady.block (.inr rfl))))
  · rintro mm pre W ⟨_, _, hE, _⟩
    have hrb := HRB.out
    have hB := hE.at H3.out.2.1 (by simp; omega)
    have hF := hE.at H3.out.2.2.1 (by simp; omega)
    have E1 := H3.out.1.wide.trans hE
    have hcw := H1.out.2.2.2.2.2.2.2
    exact ⟨cell_of (j := 0) hB rfl, cell_of (j := 1) hB rfl, cell_of (j := 0) hF rfl, cell_of (j := 0) (E1.at H1.out.2.1 (by simp; omega)) rfl, cell_of (j := 0) (E1.at H1.out.2.2.1 (by simp; omega)) rfl,
      H1.out.2.2.2.2.2.1.ext E1 (by simp; omega) (by simp; omega), H1.out.2.2.2.2.2.2.1.ext E1 (by simp; omega) (by simp; omega)⟩
  · intro j hj
    simp at hj
    have := H3.out.2.2.2.1
    have := HRB.out
    have := H1.out.2.2.2.2.1
    omega
  · exact ⟨rfl, rfl, Ext.refl _ _, H3.out.2.2.2.2⟩
  · rintro l mm pre x W hl ⟨rfl, rfl, hE, hnb⟩ hok
    obtain ⟨i, hi, hsl, _, rfl⟩ := okL_last hok
    have HS := Lib.hid (sameB_false hi hsl)
    have HE := Lib.hid (And.intro hE hnb)
    clear hE hnb hok hsl
    intro K hK
    gi_wp2
    refine hK _ W (Ext.refl [] _) ?_
    intro W' hC
    clear hK K
    have bn := hC.block _ _ HE.out.2 (.inr rfl)
    have k5 := cell_of (j := 0) (v := .bool false) bn rfl
    have f5 := free_of bn 0
    have HN := Lib.hid bn
    have HCA := Lib.hid hC
    clear bn hC k1 k2 k3 k4
    gi_wp2
    exact ⟨(Ext.refl _ W').setCell (.inl (by simp)) _, rfl, HS.out, ((Steady.ext (Nat.le_refl _)) _ _ HE.out.1 HCA.out).setCell (.inl (by simp)) _, cell1_set HN.out _⟩
  · intro D mm xs W hD hx hi hdD
    obtain ⟨rfl, hxs, hE, hnb⟩ := hi
    have hnil : selL (fun k => !lnEq S1 S2 k) lo n = [] := encI_inj ((hx.symm.trans hxs).trans rfl)
    have HS := Lib.hid (sameB_true hnil)
    clear hnil hx hxs
    have E1 := H3.out.1.wide.trans hE
    have hrb := HRB.out
    have hcw := H1.out.2.2.2.2.2.2.2
    have q1 := H1.out.2.2.2.2.2.1.ext E1 (by simp; omega) (by simp; omega)
    have q2 := H1.out.2.2.2.2.2.2.1.ext E1 (by simp; omega) (by simp; omega)
    have p1 := cell_of (j := 0) (v := .pointer (some ⟨c1, 0, none⟩)) (E1.at H1.out.2.1 (by simp; omega)) rfl
    have p2 := cell_of (j := 0) (v := .pointer (some ⟨c2, 0, none⟩)) (E1.at H1.out.2.2.1 (by simp; omega)) rfl
    have p3 := cell_of (j := 0) (v := .int .i64 lo) q1.1 rfl
    have p4 := cell_of (j := 1) (v := .int .i64 (lo + (n : Int) - 1)) q1.1 rfl
    have p5 := cell_of (j := 0) (v := .int .i64 lo) q2.1 rfl
    have p6 := cell_of (j := 1) (v := .int .i64 (lo + (n : Int) - 1)) q2.1 rfl
    have k5 := cell_of (j := 0) (v := .bool false) hnb rfl
    have f5 := free_of hnb 0
    have hqb := eqBounds lo (lo + (n : Int) - 1)
    have HNB := Lib.hid (And.intro hnb (And.intro hE hdD))
    have hs3 := H3.out.2.2.2.1
    have hDr : D ≠ rb := by omega
    have hrw : w.heap.size ≤ rb := by omega
    have hDw : w.heap.size ≤ D := by omega
    clear hnb hE hdD hrb hcw q1 q2 E1 k1 k2 k3 k4 hs3
    go_wp2
    go_region
    all_goals go_wp2
    all_goals
      show LeavesInM _ _ _ _ _ _ _ _ _
      refine leaves_mark (v := .bool true) ?_ (results_cellb Try.results30 _ _ ⟨rb, 0, none⟩ _ (by kernel_rfl) rfl ?_) ⟨by rw [HS.out], ?_⟩
    · exact block_sc (show D ≠ rb from hDr) HNB.out.2.2
    · exact ((Ext.refl [D] _).put (.inl (by simp)) _).cell (show (W.setCell ⟨rb, 0, none⟩ (.bool true)).cell? ⟨rb, 0, none⟩ = some (.bool true) from cell_of (cell1_set HNB.out.1 _) rfl) (by simp; omega)
    · exact (((H1.out.1.trans H3.out.1).trans' HNB.out.2.1 (fun j hj => .inr (by simp at hj; omega))).setCell (.inr (show w.heap.size ≤ rb by omega)) _).drew.put (.inr (by omega)) _
  · intro D c W hD hi hdD
    obtain ⟨rfl, hs, hE, hnb⟩ := hi
    have HNB := Lib.hid (And.intro hnb (And.intro hE (And.intro hdD hs)))
    clear hnb hE hdD hs k1 k2 k3 k4
    refine wpIn_ret ?_
    have hrb := HRB.out
    have hs3 := H3.out.2.2.2.1
    have hcell := cell_of (j := 0) (v := .bool false) HNB.out.1 rfl
    show LeavesInM _ _ _ _ _ _ _ _ _
    refine leaves_mark (v := .bool false) HNB.out.2.2.1 (results_cellb Try.results30 _ _ ⟨rb, 0, none⟩ _ (by kernel_rfl) rfl (((Ext.refl [D] _).put (.inl (by simp)) _).cell hcell (by simp; omega))) ⟨by rw [HNB.out.2.2.2], ?_⟩
    exact ((H1.out.1.trans H3.out.1).trans' HNB.out.2.1 (fun j hj => .inr (by simp at hj; omega))).put (.inr (by omega)) _
end Go.Proofs.Ytgpoplnfhlfogaa
