/- The devices of the laws PmemPlays and PmemCopies, between two calls. -/
import Derived.Test.YtfojmjkcjdehaaaPnT
namespace Go.Proofs.Ytfojmjkcjdehaaa
open Go Go.RowKit Go.Shelf
attribute [local go_sem] Oper.semAt_some

/-- a document's device lies in a cell of three -/
def WantAt (w : World) (g : Nat) (D : Dv) : Prop :=
  ∃ sg sc tg tc wo wc, w.heap[g]? = some (.cells #[.slice (some ⟨sg, 0, none⟩) D.n sc, .slice (some ⟨tg, 0, none⟩) D.n tc, .slice wo D.W.length wc] 33 (0, 0)) ∧ RefAt w (.agg #[.slice (some ⟨sg, 0, none⟩) D.n sc, .slice (some ⟨tg, 0, none⟩) D.n tc, .slice wo D.W.length wc]) D
theorem WantAt.ext0 {w w' : World} {g : Nat} {D : Dv} (h : WantAt w g D) (hE : Ext [] w w') : WantAt w' g D := by
  obtain ⟨a, b, c, d, e, f, h1, h2⟩ := h
  exact ⟨a, b, c, d, e, f, hE.at h1 (by simp), h2.ext0 hE⟩
theorem WantAt.ne {w : World} {g d lb sb : Nat} {D D' : Dv} (h : WantAt w g D) (hD : DevAt w d lb sb D') : g ∉ [d, lb, sb] := by
  obtain ⟨a, b, c, d', e, f, h1, h2⟩ := h
  have := hD.noT (e := 33) (by decide) (by decide) (m := [d, lb, sb]) (fun j hj => by simpa using hj)
  exact this g _ h1
theorem WantAt.extD {w w' : World} {g d lb sb : Nat} {D D' : Dv} (h : WantAt w g D) (hD : DevAt w d lb sb D') (hE : Ext [d, lb, sb] w w') : WantAt w' g D := by
  have hg := h.ne hD
  obtain ⟨a, b, c, d', e, f, h1, h2⟩ := h
  exact ⟨a, b, c, d', e, f, hE.at h1 hg, h2.extD hD hE (fun j hj => by simpa using hj)⟩
theorem WantAt.lt {w : World} {g : Nat} {D : Dv} (h : WantAt w g D) : g < w.heap.size := by
  obtain ⟨_, _, _, _, _, _, h1, _⟩ := h
  exact lt_of_block h1
/-- the law's devices, between two calls -/
structure PlSt (w wr : World) (N d lb sb g : Nat) (D : Dv) : Prop where
  dev : DevAt wr d lb sb D
  ok : DvOk D
  nn : D.n = N
  want : WantAt wr g D
  res : wr.heap[w.heap.size]? = some (.cells #[.bool false] 4 (0, 0))
  ext : Ext [] w wr
  hd : w.heap.size < d
  hl : w.heap.size < lb
  hs : w.heap.size < sb
  hg : w.heap.size < g
theorem PlSt.ext1 {w wr W : World} {N d lb sb g : Nat} {D : Dv} (h : PlSt w wr N d lb sb g D) (hE : Ext [] wr W) : PlSt w W N d lb sb g D :=
  ⟨h.dev.ext0 hE, h.ok, h.nn, h.want.ext0 hE, hE.at h.res (by simp), h.ext.trans hE, h.hd, h.hl, h.hs, h.hg⟩
theorem PlSt.extD {w wr W : World} {N d lb sb g : Nat} {D : Dv} (h : PlSt w wr N d lb sb g D) (hE : Ext [d, lb, sb] wr W) : Ext [] w W := h.ext.trans' hE (fun j hj => .inr (by have := h.hd; have := h.hl; have := h.hs; simp at hj; omega))
/-- behind a call by both: the answers -/
structure PlAct (w wr wx : World) (N d lb sb d' lb' sb' b10 : Nat) (D' : Dv) : Prop where
  dev : DevAt wx d' lb' sb' D'
  want : WantAt wx b10 D'
  ext : Ext [d, lb, sb] wr wx
  hd : d' = d ∨ wr.heap.size ≤ d'
  hl : lb' = lb ∨ wr.heap.size ≤ lb'
  hs : sb' = sb ∨ wr.heap.size ≤ sb'
  hb : wr.heap.size ≤ b10
theorem PlAct.new {w wr w5 : World} {N d lb sb d' lb' sb' : Nat} {D' : Dv} {x y z : Value} (hD : DevAt w5 d' lb' sb' D') (hR : RefAt w5 (.agg #[x, y, z]) D') (hE : Ext [d, lb, sb] wr w5) (hd : d' = d ∨ wr.heap.size ≤ d') (hl : lb' = lb ∨ wr.heap.size ≤ lb') (hs : sb' = sb ∨ wr.heap.size ≤ sb') :
    PlAct w wr (w5.alloc (.cells #[x, y, z] 33)) N d lb sb d' lb' sb' w5.heap.size D' := by
  have hA : Ext [] w5 (w5.alloc (.cells #[x, y, z] 33)) := (Ext.refl [] _).alloc _
  have hR' := hR.ext0 hA
  obtain ⟨a, b, c, d2, e, f, hv, h1, h2, h3⟩ := hR'
  simp at hv
  obtain ⟨rfl, rfl, rfl⟩ := hv
  exact ⟨hD.ext0 hA, ⟨a, b, c, d2, e, f, World.alloc_heap_new _ _, ⟨a, b, c, d2, e, f, rfl, h1, h2, h3⟩⟩, hE.alloc _, hd, hl, hs, hE.size⟩
/-- three cells of a device of the document's are written -/
theorem three_written {W : World} {g d lb sb : Nat} {D' : Dv} {x y z x0 y0 z0 : Value} (hg : W.heap[g]? = some (.cells #[x0, y0, z0] 33 (0, 0))) (hD : DevAt W d lb sb D') (hR : RefAt W (.agg #[x, y, z]) D') :
    DevAt (((W.setCell ⟨g, 0, none⟩ x).setCell ⟨g, 1, none⟩ y).setCell ⟨g, 2, none⟩ z) d lb sb D' ∧ WantAt (((W.setCell ⟨g, 0, none⟩ x).setCell ⟨g, 1, none⟩ y).setCell ⟨g, 2, none⟩ z) g D' ∧ Ext [g] W (((W.setCell ⟨g, 0, none⟩ x).setCell ⟨g, 1, none⟩ y).setCell ⟨g, 2, none⟩ z) := by
  have hE := ext_three (Ext.refl [g] W) (g := g) (.inl (by simp)) x y z
  have hN : ∀ e, e ≠ 33 → NoT W e [g] := fun e he g2 cur h2 hm => by
    simp at hm
    subst hm
    rw [hg] at h2
    simp at h2
    exact he h2.2.symm
  have hdd : d ∉ [g] := by
    obtain ⟨⟨cl, cs, wv, h1, _⟩, _⟩ := hD
    intro hm
    simp at hm
    subst hm
    rw [hg] at h1
    simp at h1
  have hll : lb ∉ [g] := by
    obtain ⟨_, ⟨cur, h1, _⟩, _⟩ := hD
    intro hm
    simp at hm
    subst hm
    rw [hg] at h1
    simp at h1
  have hss : sb ∉ [g] := by
    obtain ⟨_, _, ⟨cur, h1, _⟩, _⟩ := hD
    intro hm
    simp at hm
    subst hm
    rw [hg] at h1
    simp at h1
  have hR' := hR.ext hE (hN _ (by decide)) (hN _ (by decide))
  obtain ⟨a, b, c, d2, e, f, hv, h1, h2, h3⟩ := hR'
  simp at hv
  obtain ⟨rfl, rfl, rfl⟩ := hv
  exact ⟨hD.ext hE hdd hll hss (fun g2 cur h2 hm => hN 125 (by decide) g2 cur h2 hm), ⟨a, b, c, d2, e, f, tri_set hg _ _ _, ⟨a, b, c, d2, e, f, rfl, h1, h2, h3⟩⟩, hE⟩
theorem PlAct.set {w wr w5 : World} {N d lb sb d' lb' sb' b : Nat} {D' : Dv} {x y z x0 y0 z0 : Value} (hg : w5.heap[b]? = some (.cells #[x0, y0, z0] 33 (0, 0))) (hb : wr.heap.size ≤ b) (hD : DevAt w5 d' lb' sb' D') (hR : RefAt w5 (.agg #[x, y, z]) D') (hE : Ext [d, lb, sb] wr w5) (hd : d' = d ∨ wr.heap.size ≤ d') (hl : lb' = lb ∨ wr.heap.size ≤ lb') (hs : sb' = sb ∨ wr.heap.size ≤ sb') :
    PlAct w wr (((w5.setCell ⟨b, 0, none⟩ x).setCell ⟨b, 1, none⟩ y).setCell ⟨b, 2, none⟩ z) N d lb sb d' lb' sb' b D' := by
  obtain ⟨h1, h2, h3⟩ := three_written hg hD hR
  exact ⟨h1, h2, hE.trans' h3 (fun j hj => .inr (by simp at hj; omega)), hd, hl, hs, hb⟩
/-- the answers are laid where the law keeps its devices -/
theorem PlSt.step {w wr wx : World} {N d lb sb g d' lb' sb' b10 : Nat} {D D' : Dv} {x y z : Value} (h : PlSt w wr N d lb sb g D) (ha : PlAct w wr wx N d lb sb d' lb' sb' b10 D') (hok : DvOk D') (hn : D'.n = N) (hR : RefAt wx (.agg #[x, y, z]) D') :
    PlSt w (((wx.setCell ⟨g, 0, none⟩ x).setCell ⟨g, 1, none⟩ y).setCell ⟨g, 2, none⟩ z) N d' lb' sb' g D' := by
  have hw := h.want.extD h.dev ha.ext
  obtain ⟨a, b, c, d2, e, f, hg, _⟩ := hw
  obtain ⟨h1, h2, h3⟩ := three_written hg ha.dev hR
  have p1 := h.hd
  have p2 := h.hl
  have p3 := h.hs
  have p4 := h.hg
  have p5 := lt_of_block h.res
  have q1 := ha.hd
  have q2 := ha.hl
  have q3 := ha.hs
  refine ⟨h1, hok, hn, h2, ?_, (h.extD ha.ext).trans' h3 (fun j hj => .inr (by simp at hj; omega)), by omega, by omega, by omega, p4⟩
  exact h3.at (ha.ext.at h.res (by simp; omega)) (by simp; omega)

theorem media_new (N : Nat) : mediaV (dvNew N) = .agg #[.int .i64 (N : Int), .int .i64 0, .int .i64 0] := by
  unfold mediaV
  rw [dirty_zero (F := (dvNew N).L) (G := (dvNew N).S) _ (fun _ _ => rfl)]
  rfl
end Go.Proofs.Ytfojmjkcjdehaaa
