/- Package alloc: Lines; pools that are none. -/
import Derived.Test.YtgpoplnfhlfogaaAlW
namespace Go.Proofs.Ytgpoplnfhlfogaa
open Go Go.RowKit Go.Shelf
attribute [local go_sem] Oper.semAt_some

theorem sel_taken (S : Lns) (lo : Int) (n : Nat) : selL (fun k => (S k).1) lo n = thoseL S true lo n := by
  unfold selL thoseL
  congr 1
  funext k
  cases (S k).1 <;> rfl
set_option maxRecDepth 100000 in
set_option maxHeartbeats 1000000 in
theorem al_lines2 (bw mb : Nat) (S : Lns) (k : Int) (w : World) (hp : w.cell? ⟨bw, 0, none⟩ = some (.map (some mb))) (h : Lines w mb S) :
    Calls Try.prog 83 #[.int .i64 k, .pointer (some ⟨bw, 0, none⟩)] w fun e w' => e = .returned (.bool (S k).1) ∧ Ext [] w w' := by
  have hl := look_line h k
  have hfd := line_f0
  clear h
  generalize (S k).1 = t at *
  generalize (S k).2 = u at *
  go_enter Try.func83, Try.ntmps83
  go_wp2
  go_ret
  exact ⟨rfl, Ext.refl _ _⟩

/-- what Lines hands on: the lines that are taken now -/
structure LinesAt (w : World) (bb bs bw mb : Nat) (lo : Int) (n : Nat) (S : Lns) : Prop where
  b : w.heap[bb]? = some (.cells #[.int .i64 lo, .int .i64 (lo + (n : Int) - 1)] 62 (0, 0))
  s : w.heap[bs]? = some (.cells #[.func (.func 83) #[] #[.pointer (some ⟨bw, 0, none⟩)]] 69 (0, 0))
  x : w.heap[bw]? = some (.cells #[.map (some mb)] 63 (0, 0))
  l : Lines w mb S
theorem LinesAt.ext {w w' : World} {bb bs bw mb : Nat} {lo : Int} {n : Nat} {S : Lns} {k : List Nat} (h : LinesAt w bb bs bw mb lo n S) (hE : Ext k w w') (h1 : bb ∉ k) (h2 : bs ∉ k) (h3 : bw ∉ k) (h4 : mb ∉ k) : LinesAt w' bb bs bw mb lo n S :=
  ⟨hE.at h.b h1, hE.at h.s h2, hE.at h.x h3, h.l.ext hE h4⟩
/-- what an iterator over lines reads -/
def LKB (bb bs bw mb : Nat) (lo : Int) (n : Nat) (S : Lns) (W : World) : Prop :=
  W.cell? ⟨bb, 0, none⟩ = some (.int .i64 lo) ∧ W.cell? ⟨bb, 1, none⟩ = some (.int .i64 (lo + (n : Int) - 1)) ∧ W.cell? ⟨bs, 0, none⟩ = some (.func (.func 83) #[] #[.pointer (some ⟨bw, 0, none⟩)]) ∧ W.cell? ⟨bw, 0, none⟩ = some (.map (some mb)) ∧ Lines W mb S
theorem LinesAt.kb {w : World} {bb bs bw mb : Nat} {lo : Int} {n : Nat} {S : Lns} (h : LinesAt w bb bs bw mb lo n S) : LKB bb bs bw mb lo n S w :=
  ⟨cell_of (j := 0) h.b rfl, cell_of (j := 1) h.b rfl, cell_of (j := 0) h.s rfl, cell_of (j := 0) h.x rfl, h.l⟩
theorem lines_seq (bb bs bw mb : Nat) (lo : Int) (n : Nat) (S : Lns) (h0 : -1000000000 ≤ lo) (h1 : lo + n ≤ 1000000000) :
    SeqC Try.prog 106 #[.pointer (some ⟨bb, 0, none⟩), .pointer (some ⟨bs, 0, none⟩)] (okL (fun k => (S k).1) lo n) (fun xs => xs = encI (selL (fun k => (S k).1) lo n)) (LKB bb bs bw mb lo n S) :=
  those_seq bb bs 83 #[.pointer (some ⟨bw, 0, none⟩)] lo n (fun k => (S k).1) (fun W => W.cell? ⟨bw, 0, none⟩ = some (.map (some mb)) ∧ Lines W mb S) h0 h1
    (fun args w' => enters_of Try.func83 (by kernel_rfl) rfl args w') (fun W hW i _ => al_lines2 bw mb S _ W hW.1 hW.2)

set_option maxRecDepth 100000 in
set_option maxHeartbeats 1000000 in
theorem al_Lines (c mb : Nat) (lo : Int) (n : Nat) (S : Lns) (w : World) (h : Pool w c mb lo (lo + (n : Int) - 1) S) :
    Calls Try.prog 36 #[.pointer (some ⟨c, 0, none⟩)] w fun e w' => ∃ bb bs bw, e = .returned (.func (.func 106) #[] #[.pointer (some ⟨bb, 0, none⟩), .pointer (some ⟨bs, 0, none⟩)]) ∧ Ext [] w w' ∧ LinesAt w' bb bs bw mb lo n S ∧ w.heap.size ≤ bb ∧ w.heap.size ≤ bs ∧ w.heap.size ≤ bw := by
  have HN := Lib.hid (al_none c mb lo _ S w h)
  have k2 := cell_of (j := 0) (v := .int .i64 lo) h.1 rfl
  have k3 := cell_of (j := 1) (v := .int .i64 (lo + (n : Int) - 1)) h.1 rfl
  have k4 := cell_of (j := 2) (v := .map (some mb)) h.1 rfl
  have hcw : c < w.heap.size := lt_of_block h.1
  have H := Lib.hid h
  have hcf := enters_of Try.func83 (by kernel_rfl) rfl
  clear h
  go_enter Try.func36, Try.ntmps36
  go_wp2_with fail
  refine HN.out.mono ?_
  rintro e w' ⟨rfl, rfl⟩
  go_wp2_with fail
  refine (al_those lo _ 83 #[.pointer (some ⟨w.heap.size, 0, none⟩)] _).mono ?_
  rintro e w' ⟨rfl, rfl⟩
  go_wp2
  go_ret
  have hE := ((((Ext.refl [] w).alloc (.cells #[.map (some mb)] 63)).alloc (.cells #[.int .i64 lo, .int .i64 (lo + (n : Int) - 1)] 62)).alloc (.cells #[.func (.func 83) #[] #[.pointer (some ⟨w.heap.size, 0, none⟩)]] 69))
  obtain ⟨a1, a2, a3, a4⟩ := al3_heap (w := w) #[.map (some mb)] #[.int .i64 lo, .int .i64 (lo + (n : Int) - 1)] #[.func (.func 83) #[] #[.pointer (some ⟨w.heap.size, 0, none⟩)]] 63 62 69
  exact ⟨w.heap.size + 1, w.heap.size + 1 + 1, w.heap.size, rfl, hE, ⟨a2, a3, a1, H.out.2.ext hE (fun hm => by cases hm)⟩, by omega, by omega, by omega⟩

/-- a pool that is none: nil, or one without lines -/
def NoneP (w : World) (v : Value) : Prop := v = .pointer none ∨ ∃ c, v = .pointer (some ⟨c, 0, none⟩) ∧ w.heap[c]? = some (.cells #[.int .i64 0, .int .i64 0, .map none] 65 (0, 0))
theorem NoneP.ext {w w' : World} {v : Value} (h : NoneP w v) (hE : Ext [] w w') : NoneP w' v := h.imp id (fun ⟨c, h1, h2⟩ => ⟨c, h1, hE.at h2 (by simp)⟩)
theorem eqlMapN (w : World) : (binOp .eql 63 (.map none) (.map none)).run Try.prog w = .ok (.bool true) w := run_eql_map_nil _ _ _ _ none Try.underlying63
set_option maxHeartbeats 400000 in
theorem no_none (v : Value) (w : World) (h : NoneP w v) : Calls Try.prog 68 #[v] w fun e w' => e = .returned (.bool true) ∧ w = w' := by
  rcases h with rfl | ⟨c, rfl, h⟩
  · go_enter Try.func68, Try.ntmps68
    go_wp2
    go_ret
    exact ⟨rfl, rfl⟩
  · have he := eqlMapN
    have h1 := cell_of (j := 2) (v := .map none) h rfl
    clear h
    go_enter Try.func68, Try.ntmps68
    go_wp2
    go_ret
    exact ⟨rfl, rfl⟩
end Go.Proofs.Ytgpoplnfhlfogaa
