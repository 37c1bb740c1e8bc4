/- The law PmemCopies: two acts behind, what is the same, the devices behind two calls. -/
import Derived.Test.YtfojmjkcjdehaaaPnW
import Derived.Test.YtfojmjkcjdehaaaRwC
import Derived.Test.YtfojmjkcjdehaaaCnt
import Derived.Deep.CutRange
import Derived.Deep.AppendLies
import Derived.Lib.MinMax
namespace Go.Proofs.Ytfojmjkcjdehaaa
open Go Go.RowKit Go.Shelf
attribute [local go_sem] Oper.semAt_some

/-- an act's cells -/
def pactR (a : PAct) : List Value := [.int .i64 a.what, .int .i64 a.at', .int .i64 a.line, .int .u64 a.wd, .int .u64 a.fr, .slice a.bo a.n a.cap]
theorem pactR_ok (n : Nat) (A : Nat → PAct) : RowOk n 6 (fun i => pactR (A i)) := ⟨fun _ _ => rfl, fun i _ u hu => by simp [pactR] at hu; rcases hu with rfl | rfl | rfl | rfl | rfl | rfl <;> rfl⟩
theorem PActs.row {w : World} {ao : Option Addr} {n : Nat} {A : Nat → PAct} (h : PActs w ao n A) : RowAt w ao n 6 (fun i => pactR (A i)) := by
  rcases h with h | ⟨b, off, h1, h2⟩
  · exact .inl h
  · refine .inr ⟨b, off, h1, fun i hi j hj => ?_⟩
    obtain ⟨q0, q1, q2, q3, q4, q5, _⟩ := h2 i hi
    match j, hj with
    | 0, _ => exact q0
    | 1, _ => exact q1
    | 2, _ => exact q2
    | 3, _ => exact q3
    | 4, _ => exact q4
    | 5, _ => exact q5
theorem PActs.of_row {w : World} {ao : Option Addr} {n : Nat} {A : Nat → PAct} (h : RowAt w ao n 6 (fun i => pactR (A i))) (hI : ∀ i, i < n → BoolsAt w (A i).bo (A i).n (A i).M) : PActs w ao n A := by
  rcases h with h | ⟨b, off, h1, h2⟩
  · exact .inl h
  · exact .inr ⟨b, off, h1, fun i hi => ⟨h2 i hi 0 (by omega), h2 i hi 1 (by omega), h2 i hi 2 (by omega), h2 i hi 3 (by omega), h2 i hi 4 (by omega), h2 i hi 5 (by omega), hI i hi⟩⟩
/-- two acts behind -/
def behind (A : Nat → PAct) (n : Nat) (x y : PAct) : Nat → PAct := fun i => if i < n then A i else if i = n then x else y
theorem behind_rows (A : Nat → PAct) (n : Nat) (x y : PAct) : rowC (fun i => pactR (behind A n x y i)) (n + 2) = [] ++ rowC (fun i => pactR (A i)) n ++ (pactR x ++ pactR y) := by
  have h1 : behind A n x y n = x := by simp [behind]
  have h2 : behind A n x y (n + 1) = y := by unfold behind; rw [if_neg (by omega), if_neg (by omega)]
  rw [rowC, rowC, h1, h2, rowC_congr (R' := fun i => pactR (A i)) (fun i hi => by simp [behind, hi])]
  simp
theorem behind_any {A : Nat → PAct} {n : Nat} {x y : PAct} {p : PAct → Prop} (h : ∀ i, i < n → p (A i)) (hx : p x) (hy : p y) : ∀ i, p (behind A n x y i) := fun i => by
  unfold behind
  split
  · exact h i ‹_›
  · split
    · exact hx
    · exact hy
theorem behind_acts {w6 : World} {base : Nat} {v : Value} {A : Nat → PAct} {n : Nat} {x y : PAct} (ho : w6.ownsRow base 39 6 v (0 + n + 2) ([] ++ rowC (fun i => pactR (A i)) n ++ (pactR x ++ pactR y)))
    (hI : ∀ i, i < n + 2 → BoolsAt w6 (behind A n x y i).bo (behind A n x y i).n (behind A n x y i).M) : ∃ bo bcap, v = .slice bo (n + 2) bcap ∧ PActs w6 bo (n + 2) (behind A n x y) := by
  rw [← behind_rows, Nat.zero_add] at ho
  obtain ⟨bo, bcap, h1, h2, _⟩ := RowAt.of_owns (pactR_ok (n + 2) (behind A n x y)) ho
  exact ⟨bo, bcap, h1, PActs.of_row h2 hI⟩
theorem infoAct : (Try.prog.info? 39).map (fun i => (i.zero, i.size, i.bytes)) = some (some (.agg #[.int .i64 0, .int .i64 0, .int .i64 0, .int .u64 0, .int .u64 0, .slice none 0 0]), 6, 64) := by kernel_rfl
theorem eqW_comm (G H : Wd) : eqW G H = eqW H G := by
  unfold eqW
  congr 1
  funext i
  rw [Bool.eq_iff_iff, beq_iff_eq, beq_iff_eq]
  exact eq_comm
theorem eqWt_comm (a b : Wt) : eqWt a b = eqWt b a := by
  unfold eqWt
  rw [eqW_comm a.2 b.2]
  congr 1
  rw [Bool.eq_iff_iff]
  simp only [beq_iff_eq]
  exact eq_comm
theorem eqWs_comm (A B : List Wt) : eqWs A B = eqWs B A := by
  unfold eqWs
  by_cases h : A.length = B.length
  · rw [h, show (fun i => eqWt (A.getD i wtD) (B.getD i wtD)) = fun i => eqWt (B.getD i wtD) (A.getD i wtD) from funext fun i => eqWt_comm _ _]
  · rw [decide_eq_false h, decide_eq_false (fun h' => h h'.symm)]
    rfl
theorem eqB_comm (A B : Dv) : A.eqB B = B.eqB A := by
  rw [Bool.eq_iff_iff, eqB_iff, eqB_iff, eqWs_comm]
  constructor
  · rintro ⟨h1, h2, h3, h4⟩
    exact ⟨h1.symm, fun x hx => (h2 x (by omega)).symm, fun x hx => (h3 x (by omega)).symm, h4⟩
  · rintro ⟨h1, h2, h3, h4⟩
    exact ⟨h1.symm, fun x hx => (h2 x (by omega)).symm, fun x hx => (h3 x (by omega)).symm, h4⟩
theorem WKB.ext0 {Bs : Nat} {v : Value} {W : List Wt} {w w' : World} (h : WKB Bs v W w) (hE : Ext [] w w') : WKB Bs v W w' := ⟨hE.cell h.1 (by simp), h.2.ext hE (NoW.nil _)⟩
theorem WKB.lt {Bs : Nat} {v : Value} {W : List Wt} {w : World} (h : WKB Bs v W w) : Bs < w.heap.size := World.block_lt_of_cell? _ _ h.1
theorem WKB.extD {Bs : Nat} {v : Value} {W : List Wt} {w w' : World} {d lb sb : Nat} {D : Dv} (h : WKB Bs v W w) (hD : DevAt w d lb sb D) (hE : Ext [d, lb, sb] w w') (hne : Bs ∉ [d, lb, sb]) : WKB Bs v W w' := ⟨hE.cell h.1 hne, h.2.ext hE hD.noW⟩
theorem DevAt.extO {w w' : World} {d lb sb d2 lb2 sb2 : Nat} {D D2 : Dv} (h : DevAt w d lb sb D) (h2 : DevAt w d2 lb2 sb2 D2) (hE : Ext [d2, lb2, sb2] w w') (hd : d ∉ [d2, lb2, sb2]) (hl : lb ∉ [d2, lb2, sb2]) (hs : sb ∉ [d2, lb2, sb2]) : DevAt w' d lb sb D := h.ext hE hd hl hs h2.noW
theorem PlSt.extO {w wr W : World} {N d lb sb g d2 lb2 sb2 : Nat} {D D2 : Dv} (h : PlSt w wr N d lb sb g D) (h2 : DevAt wr d2 lb2 sb2 D2) (hE : Ext [d2, lb2, sb2] wr W) (hd : d ∉ [d2, lb2, sb2]) (hl : lb ∉ [d2, lb2, sb2]) (hs : sb ∉ [d2, lb2, sb2]) (hgt : ∀ q, q ∈ [d2, lb2, sb2] → w.heap.size < q) : PlSt w W N d lb sb g D :=
  ⟨h.dev.extO h2 hE hd hl hs, h.ok, h.nn, h.want.extD h2 hE, hE.at h.res (fun hm => by have := hgt _ hm; omega), h.ext.trans' hE (fun q hq => .inr (Nat.le_of_lt (hgt q hq))), h.hd, h.hl, h.hs, h.hg⟩
theorem WantAt.open {w : World} {g : Nat} {D : Dv} (h : WantAt w g D) : ∃ sg sc tg tc wo wc, w.heap[g]? = some (.cells #[.slice (some ⟨sg, 0, none⟩) D.n sc, .slice (some ⟨tg, 0, none⟩) D.n tc, .slice wo D.W.length wc] 33 (0, 0)) ∧ WtR w (.slice wo D.W.length wc) D.W := by
  obtain ⟨sg, sc, tg, tc, wo, wc, h1, _, _, _, _, _, _, he, _, _, h2⟩ := h
  simp at he
  obtain ⟨_, _, rfl, rfl⟩ := he
  exact ⟨sg, sc, tg, tc, wo, wc, h1, h2⟩
theorem PlSt.acted {w wr wx : World} {N d lb sb g d' lb' sb' : Nat} {D D' : Dv} {x y z : Value} (h : PlSt w wr N d lb sb g D) (hE : Ext [d, lb, sb] wr wx) (hd : d' = d ∨ wr.heap.size ≤ d') (hl : lb' = lb ∨ wr.heap.size ≤ lb') (hs : sb' = sb ∨ wr.heap.size ≤ sb')
    (hD : DevAt wx d' lb' sb' D') (hok : DvOk D') (hn : D'.n = N) (hR : RefAt wx (.agg #[x, y, z]) D') :
    PlSt w (((wx.setCell ⟨g, 0, none⟩ x).setCell ⟨g, 1, none⟩ y).setCell ⟨g, 2, none⟩ z) N d' lb' sb' g D' := by
  have hw := h.want.extD h.dev hE
  obtain ⟨a, b, c, d2, e, f, hg, _⟩ := hw
  obtain ⟨h1, h2, h3⟩ := three_written hg hD hR
  have p1 := h.hd
  have p2 := h.hl
  have p3 := h.hs
  have p4 := h.hg
  have p5 := lt_of_block h.res
  refine ⟨h1, hok, hn, h2, ?_, (h.extD hE).trans' h3 (fun j hj => .inr (by simp at hj; omega)), by omega, by omega, by omega, p4⟩
  exact h3.at (hE.at h.res (by simp; omega)) (by simp; omega)

/-- behind two calls, on a copy and on the device -/
structure CqSt (w3 W : World) (d3 lb3 sb3 d4 lb4 sb4 b15 b17 g bw : Nat) (ao : Option Addr) (cap : Nat) (D D2 D3 : Dv) : Prop where
  p3 : DevAt W d3 lb3 sb3 D2
  p4 : DevAt W d4 lb4 sb4 D3
  h15 : WantAt W b15 D2
  h17 : WantAt W b17 D3
  want : WantAt W g D
  waits : WKB bw (.slice ao D.W.length cap) D.W W
  ext : Ext [] w3 W
  res : W.heap[w3.heap.size]? = some (.cells #[.bool false] 4 (0, 0))
theorem CqSt.ext1 {w3 W W' : World} {d3 lb3 sb3 d4 lb4 sb4 b15 b17 g bw : Nat} {ao : Option Addr} {cap : Nat} {D D2 D3 : Dv} (h : CqSt w3 W d3 lb3 sb3 d4 lb4 sb4 b15 b17 g bw ao cap D D2 D3) (hE : Ext [] W W') :
    CqSt w3 W' d3 lb3 sb3 d4 lb4 sb4 b15 b17 g bw ao cap D D2 D3 :=
  ⟨h.p3.ext0 hE, h.p4.ext0 hE, h.h15.ext0 hE, h.h17.ext0 hE, h.want.ext0 hE, h.waits.ext0 hE, h.ext.trans hE, hE.at h.res (by simp)⟩
end Go.Proofs.Ytfojmjkcjdehaaa
