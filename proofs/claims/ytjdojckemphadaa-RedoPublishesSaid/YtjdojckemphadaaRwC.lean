/- Rows of things of c cells each: as a list of cells, in memory, appended. No program is named here. -/
import Derived.Test.YtjdojckemphadaaOpn
import Derived.SizedLaws
namespace Go.Proofs.Ytjdojckemphadaa
open Go Go.RowKit Go.ChangeShapes Go.WideShapes Go.ChangeAt

/-- the cells of the first n things -/
def rowC (R : Nat → List Value) : Nat → List Value
  | 0 => []
  | n + 1 => rowC R n ++ R n
theorem rowC_len {R : Nat → List Value} {c : Nat} : ∀ {n : Nat}, (∀ i, i < n → (R i).length = c) → (rowC R n).length = n * c
  | 0, _ => by simp [rowC]
  | n + 1, h => by rw [rowC, List.length_append, rowC_len (fun i hi => h i (by omega)), h n (by omega), Nat.add_mul, Nat.one_mul]
theorem rowC_get {R : Nat → List Value} {c : Nat} : ∀ {n : Nat}, (∀ i, i < n → (R i).length = c) → ∀ i, i < n → ∀ j, j < c → (rowC R n)[i * c + j]? = (R i)[j]?
  | 0, _, i, h, _, _ => absurd h (Nat.not_lt_zero _)
  | n + 1, h, i, hi, j, hj => by
    unfold rowC
    have hl := rowC_len (c := c) (n := n) (fun i hi => h i (by omega))
    by_cases hin : i < n
    · have : i * c + j < n * c := by
        have : (i + 1) * c ≤ n * c := Nat.mul_le_mul_right c hin
        rw [Nat.add_mul, Nat.one_mul] at this
        omega
      rw [List.getElem?_append_left (by rw [hl]; exact this)]
      exact rowC_get (fun i hi => h i (by omega)) i hin j hj
    · obtain rfl : i = n := by omega
      rw [List.getElem?_append_right (by rw [hl]; omega), hl, show i * c + j - i * c = j from by omega]
theorem rowC_at {R : Nat → List Value} {c : Nat} {n : Nat} (h : ∀ i, i < n → (R i).length = c) {k : Nat} {u : Value} (hk : (rowC R n)[k]? = some u) : ∃ i j, i < n ∧ j < c ∧ k = i * c + j ∧ (R i)[j]? = some u := by
  have hl : k < n * c := by
    have := (List.getElem?_eq_some_iff.1 hk).1
    rwa [rowC_len h] at this
  have hc : 0 < c := Nat.pos_of_ne_zero (fun h0 => by subst h0; simp at hl)
  have hi : k / c < n := (Nat.div_lt_iff_lt_mul hc).2 hl
  have hj : k % c < c := Nat.mod_lt _ hc
  have he : k = k / c * c + k % c := by have := Nat.div_add_mod k c; rw [Nat.mul_comm] at this; omega
  refine ⟨k / c, k % c, hi, hj, he, ?_⟩
  rw [← rowC_get h _ hi _ hj, ← he]
  exact hk
theorem rowC_one {R : Nat → List Value} : ∀ {n : Nat}, (∀ i, i < n → ∀ u ∈ R i, u.oneCell' = true) → ∀ u ∈ rowC R n, u.oneCell' = true
  | 0, _, u, hu => by cases hu
  | n + 1, h, u, hu => by
    rcases List.mem_append.1 hu with hu | hu
    · exact rowC_one (fun i hi => h i (by omega)) u hu
    · exact h n (by omega) u hu
theorem rowC_congr {R R' : Nat → List Value} : ∀ {n : Nat}, (∀ i, i < n → R i = R' i) → rowC R n = rowC R' n
  | 0, _ => rfl
  | n + 1, h => by rw [rowC, rowC, rowC_congr (fun i hi => h i (by omega)), h n (by omega)]

/-- n things of c cells each lie there -/
def RowAt (w : World) (ao : Option Addr) (n c : Nat) (R : Nat → List Value) : Prop :=
  n = 0 ∨ ∃ b off, ao = some ⟨b, off, none⟩ ∧ ∀ i, i < n → ∀ j, j < c → w.cell? ⟨b, off + (i * c + j), none⟩ = (R i)[j]?
/-- each thing has c cells, each one cell -/
structure RowOk (n c : Nat) (R : Nat → List Value) : Prop where
  len : ∀ i, i < n → (R i).length = c
  one : ∀ i, i < n → ∀ u ∈ R i, u.oneCell' = true
theorem RowAt.ext {w w' : World} {ao : Option Addr} {n c : Nat} {R : Nat → List Value} {k : List Nat} (h : RowAt w ao n c R) (ho : RowOk n c R) (hE : Ext k w w') (hk : ∀ p, ao = some p → p.block ∉ k) : RowAt w' ao n c R := by
  rcases h with h | ⟨b, off, h1, h2⟩
  · exact .inl h
  · refine .inr ⟨b, off, h1, fun i hi j hj => ?_⟩
    have h3 := h2 i hi j hj
    obtain ⟨u, hu⟩ : ∃ u, (R i)[j]? = some u := ⟨_, List.getElem?_eq_getElem (by rw [ho.len i hi]; exact hj)⟩
    rw [hu] at h3 ⊢
    exact hE.cell h3 (show b ∉ k from hk _ h1)
theorem add_off (b off k : Nat) : (⟨b, off, none⟩ : Addr).add k = ⟨b, off + k, none⟩ := by
  unfold Addr.add
  split
  · rename_i h0
    rw [show k = 0 from by simpa using h0]
    rfl
  · rfl
theorem RowAt.src {w : World} {ao : Option Addr} {n c : Nat} {R : Nat → List Value} (h : RowAt w ao n c R) (ho : RowOk n c R) : RowSrc w ao n c (rowC R n) := by
  rcases h with rfl | ⟨b, off, rfl, hc⟩
  · cases ao with
    | none => exact .inl ⟨rfl, rfl, rfl⟩
    | some ad => exact .inr ⟨ad, rfl, by simp [rowC], fun j u hj => by simp [rowC] at hj, fun u hu => by simp [rowC] at hu⟩
  · refine .inr ⟨_, rfl, rowC_len ho.len, fun k u hk => ?_, rowC_one ho.one⟩
    obtain ⟨i, j, hi, hj, rfl, hu⟩ := rowC_at ho.len hk
    rw [add_off, hc i hi j hj]
    exact hu
/-- what is owned lies there -/
theorem RowAt.of_owns {w : World} {base e c : Nat} {v : Value} {n : Nat} {R : Nat → List Value} (ho : RowOk n c R) (h : w.ownsRow base e c v n (rowC R n)) :
    ∃ ao cap, v = .slice ao n cap ∧ RowAt w ao n c R ∧ ∀ p, ao = some p → base ≤ p.block ∧ p.block < w.heap.size ∧ v.ownBlock = some p.block := by
  rcases h.2 with ⟨rfl, hx⟩ | ⟨g, cap, cur, rfl, hb, hg, _⟩
  · have hn0 : n = 0 := hx
    subst hn0
    exact ⟨none, 0, rfl, .inl rfl, fun p hp => by cases hp⟩
  · refine ⟨some ⟨g, 0, none⟩, cap, rfl, .inr ⟨g, 0, rfl, fun i hi j hj => ?_⟩, fun p hp => by cases hp; exact ⟨hb, lt_of_block hg, rfl⟩⟩
    obtain ⟨u, hu⟩ : ∃ u, (R i)[j]? = some u := ⟨_, List.getElem?_eq_getElem (by rw [ho.len i hi]; exact hj)⟩
    have := h.cells rfl (i * c + j) u (by rw [rowC_get ho.len i hi j hj]; exact hu)
    rw [add_off] at this
    rw [this, hu]

section
variable {P : Program}
/-- an empty slice at the head of a block of its own -/
theorem owns_empty {w : World} {b e c base : Nat} (h : w.heap[b]? = some (.cells #[] e (0, 0))) (hb : base ≤ b) : w.ownsRow base e c (.slice (some ⟨b, 0, none⟩) 0 0) 0 [] :=
  ⟨by simp, .inr ⟨b, 0, #[], rfl, hb, h, by omega, by unfold maxLen; omega, by simp, by simp⟩⟩
theorem step_append_any {w : World} {ops : Array Oper} {o : Oper} {a : Act} {K : Act → World → Prop} {Q : Exit → Act → World → Prop} {E : Prop} (hgd : o.guard = none) (s x : Operand) (t : TypeId)
    (ho : o.op = .call { callee := .builtin .append, args := #[s, x], argTypes := #[t, t] })
    (base : Nat) (e : TypeId) (i : TypeInfo) (z : Value) (size bytes : Nat) (ht : P.underlying t = some (.slice e)) (hi : P.info? e = some i) (hz : i.zero = some z)
    (hsize : i.size = size) (hby : i.bytes = bytes) (hzs : z.cells.size = size) (hsz : 0 < size)
    (v : Value) (n : Nat) (xs : List Value) (hs : a.eval s = v) (hown : w.ownsRow base e size v n xs)
    (xo : Option Addr) (m c : Nat) (news : List Value) (hx : a.eval x = .slice xo m c) (hsrc : RowSrc w xo m size news) (h63 : n + m ≤ maxLen) (hbytes : (n + m) * bytes ≤ 140737488355328) (hbase : base ≤ w.heap.size)
    (h : ∀ v' w', w'.ownsRow base e size v' (n + m) (xs ++ news) → Ext v.ownBlock.toList w w' → (∀ w0, Ext [] w0 w → w0.heap.size ≤ base → Ext [] w0 w') → K (a.put o.dst v') w') :
    if Region.wanted o (yielded ops a.tmps) = true then Oper.wp P o a w K Q else E := by
  have hw : Region.wanted o (yielded ops a.tmps) = true := by simp [Region.wanted, hgd]
  rw [if_pos hw]
  obtain ⟨v', w', hr, h2, h3, _⟩ := append_any (P := P) w base t o.type e i z size bytes ht hi hz hsize hby hzs hsz v n xs hown xo m c news hsrc h63 hbytes hbase
  unfold Oper.wp execOp
  simp only [ho, resolve, invoke, builtin, Sem.run_bind, Sem.run_pure, Result.andThen_ok, List.map_toArray, List.map_cons, List.map_nil, hs, hx, hr]
  exact h v' w' h2 h3 (fun w0 hE hb => hE.trans' h3 (fun j hj => .inr (Nat.le_trans hb (hown.lt j (by simpa using hj)).1)))
end
end Go.Proofs.Ytjdojckemphadaa
