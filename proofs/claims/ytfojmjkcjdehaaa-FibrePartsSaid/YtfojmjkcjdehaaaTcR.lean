/- Touches in memory. -/
import Derived.Test.YtfojmjkcjdehaaaTcM
import Derived.Test.YtfojmjkcjdehaaaRwB
import Derived.Test.YtfojmjkcjdehaaaOpn
import Derived.Test.YtfojmjkcjdehaaaRes
import Derived.Test.YtfojmjkcjdehaaaChecked
import Derived.Shelf.Abstract
import Derived.Deep.RegionHeld3
namespace Go.Proofs.Ytfojmjkcjdehaaa
open Go Go.RowKit Go.Shelf

/-- a touch's cells -/
def tchR (t : Tch) : List Value := [.int .i64 t.kd, .int .i64 t.at', .int .u64 t.wd]
def tchV (t : Tch) : Value := .agg #[.int .i64 t.kd, .int .i64 t.at', .int .u64 t.wd]
def tR (L : List Tch) : Nat → List Value := fun i => tchR (L.getD i tch0)
theorem tR_ok (n : Nat) (L : List Tch) : RowOk n 3 (tR L) := ⟨fun _ _ => rfl, fun i _ u hu => by simp [tR, tchR] at hu; rcases hu with rfl | rfl | rfl <;> rfl⟩
theorem infoTch : (Try.prog.info? 82).map (fun i => (i.zero, i.size, i.bytes)) = some (some (.agg #[.int .i64 0, .int .i64 0, .int .u64 0]), 3, 24) := by kernel_rfl
/-- touches lie there: handed in ahead of N, or in a block of touches -/
def TcAt (w : World) (N : Nat) (ao : Option Addr) (L : List Tch) : Prop := RowAt w ao L.length 3 (tR L) ∧ (L.length = 0 ∨ ∀ p, ao = some p → p.block < w.heap.size ∧ (p.block < N ∨ ∃ cur, w.heap[p.block]? = some (.cells cur 82 (0, 0))))
/-- blocks that are not there yet, or are of other things, made since N -/
def NoTc (w : World) (N : Nat) (m : List Nat) : Prop := ∀ q, q ∈ m → w.heap.size ≤ q ∨ N ≤ q ∧ ∀ cur, w.heap[q]? ≠ some (.cells cur 82 (0, 0))
theorem NoTc.nil (w : World) (N : Nat) : NoTc w N [] := fun q hq => by cases hq
theorem TcAt.ext {w w' : World} {N : Nat} {ao : Option Addr} {L : List Tch} {m : List Nat} (h : TcAt w N ao L) (hE : Ext m w w') (hm : NoTc w N m) : TcAt w' N ao L := by
  rcases h.2 with h0 | h2
  · exact ⟨.inl h0, .inl h0⟩
  have hne : ∀ p, ao = some p → p.block ∉ m := fun p hp hq => by
    have h0 := (h2 p hp).1
    rcases hm _ hq with h1 | ⟨h1, h3⟩
    · omega
    · rcases (h2 p hp).2 with hb | ⟨cur, hb⟩
      · omega
      · exact h3 cur hb
  exact ⟨h.1.ext (tR_ok _ _) hE hne, .inr fun p hp => ⟨Nat.lt_of_lt_of_le (h2 p hp).1 hE.size, (h2 p hp).2.imp id (fun ⟨cur, hb⟩ => ⟨cur, hE.at hb (hne p hp)⟩)⟩⟩
theorem TcAt.ext0 {w w' : World} {N : Nat} {ao : Option Addr} {L : List Tch} (h : TcAt w N ao L) (hE : Ext [] w w') : TcAt w' N ao L := h.ext hE (NoTc.nil _ _)
theorem TcAt.cells {w : World} {N : Nat} {ao : Option Addr} {L : List Tch} (h : TcAt w N ao L) {i : Nat} (hi : i < L.length) : ∃ b off, ao = some ⟨b, off, none⟩ ∧
    w.cell? ⟨b, off + i * 3, none⟩ = some (.int .i64 (L.getD i tch0).kd) ∧ w.cell? ⟨b, off + i * 3 + 1, none⟩ = some (.int .i64 (L.getD i tch0).at') ∧ w.cell? ⟨b, off + i * 3 + 2, none⟩ = some (.int .u64 (L.getD i tch0).wd) := by
  rcases h.1 with h | ⟨b, off, h1, h2⟩
  · omega
  · exact ⟨b, off, h1, h2 i hi 0 (by omega), h2 i hi 1 (by omega), h2 i hi 2 (by omega)⟩
theorem TcAt.nil' (w : World) (N : Nat) : TcAt w N none [] := ⟨.inl rfl, .inl rfl⟩
theorem TcAt.src {w : World} {N : Nat} {ao : Option Addr} {L : List Tch} (h : TcAt w N ao L) : RowSrc w ao L.length 3 (rowC (tR L) L.length) := h.1.src (tR_ok _ _)
theorem tR_append (L M : List Tch) : rowC (tR (L ++ M)) (L ++ M).length = rowC (tR L) L.length ++ rowC (tR M) M.length := by
  have key : ∀ k, rowC (tR (L ++ M)) (L.length + k) = rowC (tR L) L.length ++ rowC (tR M) k := fun k => by
    induction k with
    | zero =>
      rw [Nat.add_zero]
      show _ = _ ++ []
      rw [List.append_nil]
      refine rowC_congr (fun i hi => ?_)
      unfold tR
      rw [List.getD_eq_getElem?_getD, List.getElem?_append_left hi, ← List.getD_eq_getElem?_getD]
    | succ k ih =>
      rw [← Nat.add_assoc]
      show rowC _ (L.length + k) ++ tR (L ++ M) (L.length + k) = _ ++ (rowC (tR M) k ++ tR M k)
      rw [ih, List.append_assoc]
      congr 2
      unfold tR
      rw [List.getD_eq_getElem?_getD, List.getElem?_append_right (by omega), Nat.add_sub_cancel_left, ← List.getD_eq_getElem?_getD]
  rw [List.length_append]
  exact key _
/-- touches of one's own -/
def TcOwn (w : World) (base : Nat) (v : Value) (L : List Tch) : Prop := w.ownsRow base 82 3 v L.length (rowC (tR L) L.length)
theorem TcOwn.at {w : World} {base N : Nat} {v : Value} {L : List Tch} (h : TcOwn w base v L) : ∃ ao cap, v = .slice ao L.length cap ∧ TcAt w N ao L ∧ L.length ≤ cap ∧ ∀ p, ao = some p → base ≤ p.block := by
  obtain ⟨ao, cap, rfl, h1, h2⟩ := RowAt.of_owns (tR_ok _ _) h
  rcases owns_form h with ⟨h0, hl, _⟩ | ⟨g, cap', h0, _, _⟩
  · injection h0 with e1 e2 e3
    subst e1
    exact ⟨none, cap, rfl, ⟨h1, .inl hl⟩, by omega, fun p hp => (h2 p hp).1⟩
  · injection h0 with e1 e2 e3
    subst e1
    subst e3
    obtain ⟨⟨hle, cur, hb, _⟩, _⟩ := RowB.of_owns (tR_ok _ _) h
    exact ⟨_, _, rfl, ⟨h1, .inr fun p hp => ⟨(h2 p hp).2.1, by cases hp; exact .inr ⟨cur, hb⟩⟩⟩, hle, fun p hp => (h2 p hp).1⟩
/-- touches that are laid out -/
theorem TcAt.lit {w : World} {N b : Nat} {L : List Tch} (h : w.heap[b]? = some (.cells (rowC (tR L) L.length).toArray 82 (0, 0))) : TcAt w N (some ⟨b, 0, none⟩) L := by
  refine ⟨.inr ⟨b, 0, rfl, fun i hi j hj => ?_⟩, (.inr fun p hp => by cases hp; exact ⟨lt_of_block h, .inr ⟨_, h⟩⟩)⟩
  rw [← rowC_get (c := 3) (fun i hi => (tR_ok L.length L).len i hi) i hi j hj, Nat.zero_add]
  simp [World.cell?, h]
end Go.Proofs.Ytfojmjkcjdehaaa
