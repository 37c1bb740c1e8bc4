/- Package limbo: the limbo in memory; none, list, Take, Pin, Unpin, Taken (printed by wip/mkLmA.py). -/
import Derived.Test.YtgpoplnfhlfogaaEpT
import Derived.Test.YtgpoplnfhlfogaaAlQ
import Derived.Test.YtgpoplnfhlfogaaAlH
namespace Go.Proofs.Ytgpoplnfhlfogaa
open Go Go.RowKit Go.Shelf
attribute [local go_sem] Oper.semAt_some

def limC (c p : Nat) (G : Nat → List Int) (ga : Nat → Option Addr) (gc : Nat → Nat) : Array Value := #[.pointer (some ⟨c, 0, none⟩), .pointer (some ⟨p, 0, none⟩), .slice (ga 0) (G 0).length (gc 0), .slice (ga 1) (G 1).length (gc 1), .slice (ga 2) (G 2).length (gc 2)]
theorem lt3 {i : Nat} (h : i < 3) : i = 0 ∨ i = 1 ∨ i = 2 := by omega
theorem limC_get (c p : Nat) (G : Nat → List Int) (ga : Nat → Option Addr) (gc : Nat → Nat) (i : Nat) (h : i < 3) : (limC c p G ga gc)[2 + i]? = some (.slice (ga i) (G i).length (gc i)) := by
  rcases lt3 h with rfl | rfl | rfl <;> rfl
theorem limC_set (c p : Nat) (G : Nat → List Int) (ga : Nat → Option Addr) (gc : Nat → Nat) (i : Nat) (h : i < 3) (ao : Option Addr) (L : List Int) (cap : Nat) :
    (limC c p G ga gc).setIfInBounds (2 + i) (.slice ao L.length cap) = limC c p (fun k => if k = i then L else G k) (fun k => if k = i then ao else ga k) (fun k => if k = i then cap else gc k) := by
  rcases lt3 h with rfl | rfl | rfl <;> rfl
/-- a limbo at block b: its clock at c (pins at m), its pool at p (lines at mb), what waits in three lists -/
structure LimAt (w : World) (b c m p mb : Nat) (lo : Int) (n : Nat) (now : Int) (l : Ents) (S : Lns) (G : Nat → List Int) (ga : Nat → Option Addr) (gc : Nat → Nat) : Prop where
  blk : w.heap[b]? = some (.cells (limC c p G ga gc) 125 (0, 0))
  clk : Clk w c m now l
  pool : Pool w p mb lo (lo + (n : Int) - 1) S
  gone : ∀ k, k < 3 → IntsB w (ga k) (G k).length (fun i => (G k).getD i 0)
  sep : ∀ k, k < 3 → ∀ q, ga k = some q → q.block < w.heap.size ∧ q.block ≠ b ∧ q.block ≠ c ∧ q.block ≠ m ∧ q.block ≠ p ∧ q.block ≠ mb
  mm : m ≠ mb
/-- the blocks of a limbo -/
def Bl (b c m p mb : Nat) (ga : Nat → Option Addr) (x : Nat) : Prop := x = b ∨ x = c ∨ x = m ∨ x = p ∨ x = mb ∨ ∃ k, k < 3 ∧ ∃ q, ga k = some q ∧ x = q.block
section
variable {w w' : World} {b c m p mb n : Nat} {lo now : Int} {l : Ents} {S : Lns} {G : Nat → List Int} {ga : Nat → Option Addr} {gc : Nat → Nat}
theorem LimAt.ne (h : LimAt w b c m p mb lo n now l S G ga gc) : b ≠ c ∧ b ≠ p ∧ c ≠ p ∧ m ≠ b ∧ m ≠ c ∧ m ≠ p ∧ mb ≠ b ∧ mb ≠ c ∧ mb ≠ p := by
  have h1 := h.blk
  have h2 := h.clk.1
  have h3 := h.pool.1
  have h4 := h.clk.2
  obtain ⟨es, h5, _⟩ := h.pool.2
  refine ⟨fun e => ?_, fun e => ?_, fun e => ?_, h4.notcell (a := ⟨b, 0, none⟩) (cell_of (j := 0) h1 rfl), h4.notcell (a := ⟨c, 0, none⟩) (cell_of (j := 0) h2 rfl), h4.notcell (a := ⟨p, 0, none⟩) (cell_of (j := 0) h3 rfl), h5.notcell (a := ⟨b, 0, none⟩) (cell_of (j := 0) h1 rfl), h5.notcell (a := ⟨c, 0, none⟩) (cell_of (j := 0) h2 rfl), h5.notcell (a := ⟨p, 0, none⟩) (cell_of (j := 0) h3 rfl)⟩
  · rw [e, h2] at h1; simp [limC] at h1
  · rw [e, h3] at h1; simp [limC] at h1
  · rw [e, h3] at h2; simp at h2
theorem LimAt.ext {k : List Nat} (h : LimAt w b c m p mb lo n now l S G ga gc) (hE : Ext k w w') (hk : ∀ x, Bl b c m p mb ga x → x ∉ k) : LimAt w' b c m p mb lo n now l S G ga gc := by
  have hs := hE.size
  refine ⟨hE.at h.blk (hk _ (.inl rfl)), h.clk.ext hE (hk _ (.inr (.inl rfl))) (hk _ (.inr (.inr (.inl rfl)))), h.pool.ext hE (hk _ (.inr (.inr (.inr (.inl rfl))))) (hk _ (.inr (.inr (.inr (.inr (.inl rfl)))))), fun j hj => (h.gone j hj).extm hE (fun q hq => hk _ (.inr (.inr (.inr (.inr (.inr ⟨j, hj, q, hq, rfl⟩)))))), fun j hj q hq => ?_, h.mm⟩
  have := h.sep j hj q hq
  exact ⟨by omega, this.2⟩
theorem LimAt.ext0 (h : LimAt w b c m p mb lo n now l S G ga gc) (hE : Ext [] w w') : LimAt w' b c m p mb lo n now l S G ga gc := h.ext hE (fun _ _ => by simp)
theorem LimAt.lt (h : LimAt w b c m p mb lo n now l S G ga gc) : ∀ x, Bl b c m p mb ga x → x < w.heap.size := by
  rintro x (rfl | rfl | rfl | rfl | rfl | ⟨k, hk, q, hq, rfl⟩)
  · exact lt_of_block h.blk
  · exact lt_of_block h.clk.1
  · exact h.clk.2.lt
  · exact lt_of_block h.pool.1
  · exact h.pool.2.lt
  · exact (h.sep k hk q hq).1
/-- the clock's pins have turned -/
theorem LimAt.pins {l' : Ents} (h : LimAt w b c m p mb lo n now l S G ga gc) (hE : Ext [m] w w') (hc : Clk w' c m now l') : LimAt w' b c m p mb lo n now l' S G ga gc := by
  have hn := h.ne
  have hs := hE.size
  have hm := h.mm
  exact ⟨hE.at h.blk (by simp; omega), hc, h.pool.ext hE (by simp; omega) (by simp; omega), fun j hj => (h.gone j hj).extm hE (fun q hq => by have := h.sep j hj q hq; simp; omega), fun j hj q hq => by have := h.sep j hj q hq; exact ⟨by omega, this.2⟩, h.mm⟩
/-- the clock has advanced -/
theorem LimAt.clock {now' : Int} (h : LimAt w b c m p mb lo n now l S G ga gc) (hE : Ext [c] w w') (hc : Clk w' c m now' l) : LimAt w' b c m p mb lo n now' l S G ga gc := by
  have hn := h.ne
  have hs := hE.size
  exact ⟨hE.at h.blk (by simp; omega), hc, h.pool.ext hE (by simp; omega) (by simp; omega), fun j hj => (h.gone j hj).extm hE (fun q hq => by have := h.sep j hj q hq; simp; omega), fun j hj q hq => by have := h.sep j hj q hq; exact ⟨by omega, this.2⟩, h.mm⟩
/-- the pool has turned -/
theorem LimAt.pooled {S' : Lns} {mb' : Nat} (h : LimAt w b c m p mb lo n now l S G ga gc) (hE : Ext [p] w w') (hp : Pool w' p mb' lo (lo + (n : Int) - 1) S') (hmb : mb' = mb ∨ w.heap.size ≤ mb') : LimAt w' b c m p mb' lo n now l S' G ga gc := by
  have hn := h.ne
  have hs := hE.size
  have hm := h.mm
  have hml := h.clk.2.lt
  exact ⟨hE.at h.blk (by simp; omega), h.clk.ext hE (by simp; omega) (by simp; omega), hp, fun j hj => (h.gone j hj).extm hE (fun q hq => by have := h.sep j hj q hq; simp; omega), fun j hj q hq => by have := h.sep j hj q hq; exact ⟨by omega, this.2.1, this.2.2.1, this.2.2.2.1, this.2.2.2.2.1, by omega⟩, by omega⟩
/-- a list has been laid anew -/
theorem LimAt.listed {i : Nat} {ao : Option Addr} {L : List Int} {cap : Nat} (h : LimAt w b c m p mb lo n now l S G ga gc) (hi : i < 3) (hI : IntsB w ao L.length (fun j => L.getD j 0)) (ha : ∀ q, ao = some q → q.block < w.heap.size ∧ q.block ≠ b ∧ q.block ≠ c ∧ q.block ≠ m ∧ q.block ≠ p ∧ q.block ≠ mb) :
    LimAt (w.setCell ⟨b, 2 + i, none⟩ (.slice ao L.length cap)) b c m p mb lo n now l S (fun k => if k = i then L else G k) (fun k => if k = i then ao else ga k) (fun k => if k = i then cap else gc k) := by
  have hn := h.ne
  have hE : Ext [b] w (w.setCell ⟨b, 2 + i, none⟩ (.slice ao L.length cap)) := (Ext.refl _ _).setCell (.inl (by simp)) _
  refine ⟨?_, h.clk.ext hE (by simp; omega) (by simp; omega), h.pool.ext hE (by simp; omega) (by simp; omega), fun j hj => ?_, fun j hj q hq => ?_, h.mm⟩
  · rw [← limC_set c p G ga gc i hi ao L cap]
    have := h.blk
    simp only [World.setCell, Array.getElem?_modify, if_true, this]; rfl
  · by_cases e : j = i
    · simp only [if_pos e]
      exact hI.extm hE (fun q hq => by have := ha q hq; simp; omega)
    · simp only [if_neg e]
      exact (h.gone j hj).extm hE (fun q hq => by have := h.sep j hj q hq; simp; omega)
  · have hs := hE.size
    by_cases e : j = i
    · simp only [if_pos e] at hq
      have := ha q hq
      exact ⟨by omega, this.2⟩
    · simp only [if_neg e] at hq
      have := h.sep j hj q hq
      exact ⟨by omega, this.2⟩
end
set_option maxHeartbeats 400000 in
theorem lm_none (b c m p mb : Nat) (lo : Int) (n : Nat) (now : Int) (l : Ents) (S : Lns) (G : Nat → List Int) (ga : Nat → Option Addr) (gc : Nat → Nat) (w : World) (h : LimAt w b c m p mb lo n now l S G ga gc) :
    Calls Try.prog 86 #[.pointer (some ⟨b, 0, none⟩)] w fun e w' => e = .returned (.bool false) ∧ w = w' := by
  have k1 := cell_of (j := 1) (v := .pointer (some ⟨p, 0, none⟩)) h.blk rfl
  clear h
  go_enter Try.func86, Try.ntmps86
  go_wp2
  go_ret
  exact ⟨rfl, rfl⟩
set_option maxHeartbeats 400000 in
theorem lm_list (a : Int) (w : World) : Calls Try.prog 88 #[.int .i64 a] w fun e w' => e = .returned (.int .i64 (a.tmod 3)) ∧ w = w' := by
  go_enter Try.func88, Try.ntmps88
  go_wp2
  go_ret
  exact ⟨rfl, rfl⟩
end Go.Proofs.Ytgpoplnfhlfogaa
