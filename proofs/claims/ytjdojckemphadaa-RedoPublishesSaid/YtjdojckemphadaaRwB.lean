/- Rows of things of c cells each, in a block of their own: read, written. No program is named here. -/
import Derived.Test.YtjdojckemphadaaRes
import Derived.Deep.MidRow
namespace Go.Proofs.Ytjdojckemphadaa
open Go Go.RowKit

theorem ext_setCells {m : List Nat} {b : Nat} : ∀ (vs : List Value) (o : Nat) {a w : World}, Ext m a w → (b ∈ m ∨ a.heap.size ≤ b) → Ext m a (w.setCells b o vs)
  | [], _, _, _, h, _ => h
  | v :: r, o, _, _, h, hb => ext_setCells r (o + 1) (h.setCell (p := ⟨b, o, none⟩) hb v) hb
theorem setCells_block {b : Nat} {e : TypeId} {f : Nat × Nat} : ∀ (vs : List Value) (o : Nat) {w : World} {cur : Array Value}, w.heap[b]? = some (.cells cur e f) → ∃ cur', (w.setCells b o vs).heap[b]? = some (.cells cur' e f) ∧ cur'.size = cur.size
  | [], _, _, cur, h => ⟨cur, h, rfl⟩
  | v :: r, o, w, cur, h => by
    have h1 : (w.setCell ⟨b, o, none⟩ v).heap[b]? = some (.cells (cur.setIfInBounds o v) e f) := by
      simp only [World.setCell, Array.getElem?_modify, if_true, h]; rfl
    obtain ⟨cur', h2, h3⟩ := setCells_block r (o + 1) h1
    exact ⟨cur', h2, by rw [h3]; simp⟩

/-- the first n things of a block that has room for cap -/
def RowB (w : World) (g e cap c n : Nat) (R : Nat → List Value) : Prop :=
  n ≤ cap ∧ ∃ cur, w.heap[g]? = some (.cells cur e (0, 0)) ∧ cur.size = cap * c ∧ ∀ i, i < n → w.rangeAt g (i * c) (R i)
theorem RowB.lt {w : World} {g e cap c n : Nat} {R : Nat → List Value} (h : RowB w g e cap c n R) : g < w.heap.size := by obtain ⟨_, _, h1, _⟩ := h; exact lt_of_block h1
theorem rangeAt_ext {m : List Nat} {w w' : World} {b o : Nat} {cs : List Value} (h : w.rangeAt b o cs) (hE : Ext m w w') (hb : b ∉ m) : w'.rangeAt b o cs := fun j v hv => hE.cell (h j v hv) hb
theorem RowB.ext {m : List Nat} {w w' : World} {g e cap c n : Nat} {R : Nat → List Value} (h : RowB w g e cap c n R) (hE : Ext m w w') (hg : g ∉ m) : RowB w' g e cap c n R := by
  obtain ⟨h0, cur, h1, h2, h3⟩ := h
  exact ⟨h0, cur, hE.at h1 hg, h2, fun i hi => rangeAt_ext (h3 i hi) hE hg⟩
theorem RowB.there {w : World} {g e cap c n : Nat} {R : Nat → List Value} (h : RowB w g e cap c n R) {i : Nat} (hi : i < cap) : w.there g (i * c) c := by
  obtain ⟨_, cur, h1, h2, _⟩ := h
  intro j hj
  have : i * c + j < cur.size := by
    rw [h2]
    have : (i + 1) * c ≤ cap * c := Nat.mul_le_mul_right c hi
    rw [Nat.add_mul, Nat.one_mul] at this
    omega
  exact ⟨by rw [cell_of h1 (v := cur[i * c + j]) (by simp [this])]; rfl, free_of h1 _⟩
theorem RowB.range {w : World} {g e cap c n : Nat} {R : Nat → List Value} (h : RowB w g e cap c n R) {i : Nat} (hi : i < n) : w.rangeAt g (i * c) (R i) := h.2.choose_spec.2.2 i hi
theorem RowB.less {w : World} {g e cap c n n' : Nat} {R R' : Nat → List Value} (h : RowB w g e cap c n R) (hn : n' ≤ n) (hR : ∀ i, i < n' → R i = R' i) : RowB w g e cap c n' R' := by
  obtain ⟨h0, cur, h1, h2, h3⟩ := h
  exact ⟨by omega, cur, h1, h2, fun i hi => by rw [← hR i hi]; exact h3 i (by omega)⟩
/-- one thing is another one -/
theorem RowB.set {w : World} {g e cap c n : Nat} {R : Nat → List Value} (h : RowB w g e cap c n R) (hR : ∀ i, i < n → (R i).length = c) {k : Nat} (hk : k < n) {vs : List Value} (hv : vs.length = c) :
    RowB (w.setCells g (k * c) vs) g e cap c n (fun i => if i = k then vs else R i) := by
  have hth := h.there (Nat.lt_of_lt_of_le hk h.1)
  obtain ⟨h0, cur, h1, h2, h3⟩ := h
  obtain ⟨cur', h4, h5⟩ := setCells_block vs (k * c) h1
  refine ⟨h0, cur', h4, by rw [h5, h2], fun i hi => ?_⟩
  show (w.setCells g (k * c) vs).rangeAt g (i * c) (if i = k then vs else R i)
  by_cases hik : i = k
  · subst hik
    rw [if_pos rfl]
    exact World.rangeAt_setCells_same w g (i * c) vs (by rw [hv]; exact hth)
  · rw [if_neg hik]
    refine World.rangeAt_setCells_apart (h3 i hi) g (k * c) vs (.inr ?_)
    rw [hR i hi, hv]
    rcases Nat.lt_or_gt_of_ne hik with h | h
    · left
      have : (i + 1) * c ≤ k * c := Nat.mul_le_mul_right c h
      rw [Nat.add_mul, Nat.one_mul] at this
      exact this
    · right
      have : (k + 1) * c ≤ i * c := Nat.mul_le_mul_right c h
      rw [Nat.add_mul, Nat.one_mul] at this
      exact this
theorem list_eq_of_get {a b : List Value} (hl : a.length = b.length) (h : ∀ (k : Nat) (v : Value), b[k]? = some v → a[k]? = some v) : a = b := by
  apply List.ext_getElem?
  intro k
  cases hb : b[k]? with
  | some v => exact h k v hb
  | none =>
    rw [List.getElem?_eq_none_iff] at hb ⊢
    omega
/-- as the library says it -/
theorem RowB.owns {w : World} {g e cap c n base : Nat} {R : Nat → List Value} (h : RowB w g e cap c n R) (ho : RowOk n c R) (hm : cap ≤ maxLen) (hb : base ≤ g) : w.ownsRow base e c (.slice (some ⟨g, 0, none⟩) n cap) n (rowC R n) := by
  obtain ⟨h0, cur, h1, h2, h3⟩ := h
  refine ⟨rowC_len ho.len, .inr ⟨g, cap, cur, rfl, hb, h1, h0, hm, h2, ?_⟩⟩
  have hle : n * c ≤ cap * c := Nat.mul_le_mul_right c h0
  refine list_eq_of_get (by rw [List.length_take, Array.length_toList, h2, rowC_len ho.len]; omega) (fun k v hk => ?_)
  obtain ⟨i, j, hi, hj, rfl, hv⟩ := rowC_at ho.len hk
  have hc := h3 i hi j v hv
  have hlt : i * c + j < n * c := by
    have : (i + 1) * c ≤ n * c := Nat.mul_le_mul_right c hi
    rw [Nat.add_mul, Nat.one_mul] at this
    omega
  rw [List.getElem?_take, if_pos hlt]
  have : w.cell? ⟨g, i * c + j, none⟩ = cur[i * c + j]? := by simp [World.cell?, h1]
  rw [this] at hc
  simpa using hc
theorem RowB.of_owns {w : World} {base e c n g : Nat} {cap : Nat} {R : Nat → List Value} (ho : RowOk n c R) (h : w.ownsRow base e c (.slice (some ⟨g, 0, none⟩) n cap) n (rowC R n)) : RowB w g e cap c n R ∧ base ≤ g ∧ cap ≤ maxLen := by
  have hc := h.cells (g := g) rfl
  rcases h.2 with ⟨h1, _⟩ | ⟨g', cap', cur, h1, h2, h3, h4, h5, h6, h7⟩
  · cases h1
  · cases h1
    refine ⟨⟨h4, cur, h3, h6, fun i hi j v hv => ?_⟩, h2, h5⟩
    have hj : j < c := by rw [← ho.len i hi]; exact (List.getElem?_eq_some_iff.1 hv).1
    have := hc (i * c + j) v (by rw [rowC_get ho.len i hi j hj]; exact hv)
    rwa [add_off, Nat.zero_add] at this
/-- what owns something: nil, or the head of a block -/
theorem owns_form {w : World} {base e c : Nat} {v : Value} {n : Nat} {xs : List Value} (h : w.ownsRow base e c v n xs) : (v = .slice none 0 0 ∧ n = 0 ∧ xs = []) ∨ ∃ g cap, v = .slice (some ⟨g, 0, none⟩) n cap ∧ base ≤ g ∧ g < w.heap.size := by
  rcases h.2 with ⟨h1, h2⟩ | ⟨g, cap, cur, h1, h2, h3, _⟩
  · refine .inl ⟨h1, h2, ?_⟩
    have := h.1
    rw [h2] at this
    simpa using this
  · exact .inr ⟨g, cap, h1, h2, lt_of_block h3⟩
theorem owns_base {w : World} {base base' e c : Nat} {v : Value} {n : Nat} {xs : List Value} (h : w.ownsRow base e c v n xs) (hb : base' ≤ base) : w.ownsRow base' e c v n xs := by
  refine ⟨h.1, h.2.imp id ?_⟩
  rintro ⟨g, cap, cur, h1, h2, h3⟩
  exact ⟨g, cap, cur, h1, by omega, h3⟩
/-- the cells of an owned row, to be appended elsewhere -/
theorem owns_src {w : World} {base e c : Nat} {v : Value} {n : Nat} {xs : List Value} (h : w.ownsRow base e c v n xs) (h1 : ∀ u ∈ xs, u.oneCell' = true) : ∃ ao cap, v = .slice ao n cap ∧ RowSrc w ao n c xs := by
  rcases owns_form h with ⟨rfl, rfl, rfl⟩ | ⟨g, cap, rfl, _, _⟩
  · exact ⟨none, 0, rfl, .inl ⟨rfl, rfl, rfl⟩⟩
  · exact ⟨some ⟨g, 0, none⟩, cap, rfl, .inr ⟨_, rfl, h.1, h.cells rfl, h1⟩⟩
end Go.Proofs.Ytjdojckemphadaa
