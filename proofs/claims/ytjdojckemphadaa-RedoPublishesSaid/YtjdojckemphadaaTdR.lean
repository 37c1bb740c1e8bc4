/- Touches, in plain words: which may be, which lists, and what they do to a device. No program is named here. Touches in memory. -/
import Derived.Test.YtjdojckemphadaaPmM
import Derived.Test.YtjdojckemphadaaRwB
import Derived.Test.YtjdojckemphadaaOpn
import Derived.Test.YtjdojckemphadaaRes
import Derived.Test.YtjdojckemphadaaChecked
import Derived.Shelf.Abstract
import Derived.Deep.RegionHeld3
namespace Go.Proofs.Ytjdojckemphadaa
open Go Go.RowKit

/-- a touch: its kind, where, and a word -/
structure Tch where
  kd : Int
  at' : Int
  wd : Int
deriving DecidableEq
/-- no touch -/
def tch0 : Tch := ⟨0, 0, 0⟩
/-- up to where it may be, and whether it may have a word -/
def bndT (k : Int) : Int × Bool := if k = 1 ∨ k = 2 then (8192, true) else if k = 3 then (1024, false) else if k = 4 then (1, false) else (0, false)
/-- may it be? -/
def Tch.right (t : Tch) : Bool := decide (0 ≤ t.at') && decide (t.at' < (bndT t.kd).1) && ((bndT t.kd).2 || t.wd == 0)
/-- what is wrong with a list -/
def tcheck (L : List Tch) : Int := if L.all Tch.right = true then (if 4096 < L.length then 3 else 0) else 2
/-- a touch is done -/
def playOne (D : Dv) (t : Tch) : Dv × Int := if t.kd = 1 then (D, (D.load t.at').2) else if t.kd = 2 then D.store t.at' t.wd else if t.kd = 3 then D.flush t.at' else (D.fence, 0)
/-- touches are done, till one is refused -/
def playL (D : Dv) : List Tch → Dv × Int
  | [] => (D, 0)
  | t :: r => if (playOne D t).2 = 0 then playL (playOne D t).1 r else ((playOne D t).1, (playOne D t).2)
theorem playOne_ok {D : Dv} (h : DvOk D) (t : Tch) : DvOk (playOne D t).1 := by
  unfold playOne
  split
  · exact h
  · split
    · exact Dv.store_ok h _ _
    · split
      · exact Dv.flush_ok h _
      · exact Dv.settle_ok h _
theorem playL_ok {D : Dv} (h : DvOk D) : ∀ L : List Tch, DvOk (playL D L).1
  | [] => h
  | t :: r => by
    unfold playL
    split
    · exact playL_ok (playOne_ok h t) r
    · exact playOne_ok h t
theorem playOne_n (D : Dv) (t : Tch) : (playOne D t).1.n = D.n := by
  unfold playOne
  split
  · rfl
  · split
    · unfold Dv.store Dv.put; split <;> rfl
    · split
      · unfold Dv.flush; split <;> rfl
      · rfl
theorem playL_n (D : Dv) : ∀ L : List Tch, (playL D L).1.n = D.n
  | [] => rfl
  | t :: r => by
    unfold playL
    split
    · exact (playL_n _ r).trans (playOne_n D t)
    · exact playOne_n D t
/-- one more behind -/
theorem playL_snoc (D : Dv) : ∀ (L : List Tch) (t : Tch), (playL D L).2 = 0 → playL D (L ++ [t]) = playOne (playL D L).1 t
  | [], t, _ => by
    show playL D [t] = playOne D t
    unfold playL
    split
    · rename_i h
      unfold playL
      rw [← h]
    · rfl
  | x :: r, t, h => by
    unfold playL at h ⊢
    show (if (playOne D x).2 = 0 then playL (playOne D x).1 (r ++ [t]) else _) = _
    split at h
    · rename_i h0
      rw [if_pos h0, if_pos h0]
      exact playL_snoc _ r t h
    · rename_i h0
      exact absurd h h0
theorem playL_append (D : Dv) : ∀ (L M : List Tch), (playL D L).2 = 0 → playL D (L ++ M) = playL (playL D L).1 M
  | [], _, _ => rfl
  | x :: r, M, h => by
    unfold playL at h
    show (if (playOne D x).2 = 0 then playL (playOne D x).1 (r ++ M) else _) = _
    split at h
    · rename_i h0
      rw [if_pos h0, playL_append _ r M h, show (playL D (x :: r)).1 = (playL (playOne D x).1 r).1 from by
        show (if (playOne D x).2 = 0 then playL (playOne D x).1 r else _).1 = _
        rw [if_pos h0]]
    · rename_i h0
      exact absurd h h0
theorem tcheck_zero {L : List Tch} (h : tcheck L = 0) : (∀ t ∈ L, t.right = true) ∧ L.length ≤ 4096 := by
  unfold tcheck at h
  split at h
  · rename_i h1
    split at h
    · cases h
    · exact ⟨List.all_eq_true.1 h1, by omega⟩
  · cases h
theorem tcheck_of {L : List Tch} (h : ∀ t ∈ L, t.right = true) (hl : L.length ≤ 4096) : tcheck L = 0 := by
  unfold tcheck
  rw [if_pos (List.all_eq_true.2 h), if_neg (by omega)]
theorem bndT_kind {k : Int} {a : Int} (h0 : 0 ≤ a) (h1 : a < (bndT k).1) : k = 1 ∨ k = 2 ∨ k = 3 ∨ k = 4 := by
  unfold bndT at h1
  split at h1
  · rename_i h; rcases h with h | h <;> simp [h]
  · split at h1
    · rename_i h; simp [h]
    · split at h1
      · rename_i h; simp [h]
      · exact absurd h1 (by simp; omega)
theorem Tch.right_kind {t : Tch} (h : t.right = true) : t.kd = 1 ∨ t.kd = 2 ∨ t.kd = 3 ∨ t.kd = 4 := by
  unfold Tch.right at h
  simp only [Bool.and_eq_true, decide_eq_true_eq] at h
  exact bndT_kind h.1.1 h.1.2
end Go.Proofs.Ytjdojckemphadaa
namespace Go.Proofs.Ytjdojckemphadaa
open Go Go.RowKit Go.Shelf

/-- a touch's cells -/
def tchR (t : Tch) : List Value := [.int .i64 t.kd, .int .i64 t.at', .int .u64 t.wd]
def tchV (t : Tch) : Value := .agg #[.int .i64 t.kd, .int .i64 t.at', .int .u64 t.wd]
def tR (L : List Tch) : Nat → List Value := fun i => tchR (L.getD i tch0)
theorem tR_ok (n : Nat) (L : List Tch) : RowOk n 3 (tR L) := ⟨fun _ _ => rfl, fun i _ u hu => by simp [tR, tchR] at hu; rcases hu with rfl | rfl | rfl <;> rfl⟩
theorem infoTch : (Try.prog.info? 44).map (fun i => (i.zero, i.size, i.bytes)) = some (some (.agg #[.int .i64 0, .int .i64 0, .int .u64 0]), 3, 24) := by kernel_rfl
/-- touches lie there: handed in ahead of N, or in a block of touches -/
def TcAt (w : World) (N : Nat) (ao : Option Addr) (L : List Tch) : Prop := RowAt w ao L.length 3 (tR L) ∧ (L.length = 0 ∨ ∀ p, ao = some p → p.block < w.heap.size ∧ (p.block < N ∨ ∃ cur, w.heap[p.block]? = some (.cells cur 44 (0, 0))))
/-- blocks that are not there yet, or are of other things, made since N -/
def NoTc (w : World) (N : Nat) (m : List Nat) : Prop := ∀ q, q ∈ m → w.heap.size ≤ q ∨ N ≤ q ∧ ∀ cur, w.heap[q]? ≠ some (.cells cur 44 (0, 0))
theorem NoTc.nil (w : World) (N : Nat) : NoTc w N [] := fun q hq => by cases hq
theorem TcAt.ext {w w' : World} {N : Nat} {ao : Option Addr} {L : List Tch} {m : List Nat} (h : TcAt w N ao L) (hE : Ext m w w') (hm : NoTc w N m) : TcAt w' N ao L := by
  rcases h.2 with h0 | h2
  · exact ⟨.inl h0, .inl h0⟩
  have hne : ∀ p, ao = some p → p.block ∉ m := fun p hp hq => by
    have h0 := (h2 p hp).1
    rcases hm _ hq with h1 | ⟨h1, h3⟩
    · omega
    · rcases (h2 p hp).2 with hb | ⟨cur, hb⟩
      · omega
      · exact h3 cur hb
  exact ⟨h.1.ext (tR_ok _ _) hE hne, .inr fun p hp => ⟨Nat.lt_of_lt_of_le (h2 p hp).1 hE.size, (h2 p hp).2.imp id (fun ⟨cur, hb⟩ => ⟨cur, hE.at hb (hne p hp)⟩)⟩⟩
theorem TcAt.ext0 {w w' : World} {N : Nat} {ao : Option Addr} {L : List Tch} (h : TcAt w N ao L) (hE : Ext [] w w') : TcAt w' N ao L := h.ext hE (NoTc.nil _ _)
theorem TcAt.cells {w : World} {N : Nat} {ao : Option Addr} {L : List Tch} (h : TcAt w N ao L) {i : Nat} (hi : i < L.length) : ∃ b off, ao = some ⟨b, off, none⟩ ∧
    w.cell? ⟨b, off + i * 3, none⟩ = some (.int .i64 (L.getD i tch0).kd) ∧ w.cell? ⟨b, off + i * 3 + 1, none⟩ = some (.int .i64 (L.getD i tch0).at') ∧ w.cell? ⟨b, off + i * 3 + 2, none⟩ = some (.int .u64 (L.getD i tch0).wd) := by
  rcases h.1 with h | ⟨b, off, h1, h2⟩
  · omega
  · exact ⟨b, off, h1, h2 i hi 0 (by omega), h2 i hi 1 (by omega), h2 i hi 2 (by omega)⟩
theorem TcAt.nil' (w : World) (N : Nat) : TcAt w N none [] := ⟨.inl rfl, .inl rfl⟩
theorem TcAt.src {w : World} {N : Nat} {ao : Option Addr} {L : List Tch} (h : TcAt w N ao L) : RowSrc w ao L.length 3 (rowC (tR L) L.length) := h.1.src (tR_ok _ _)
theorem tR_append (L M : List Tch) : rowC (tR (L ++ M)) (L ++ M).length = rowC (tR L) L.length ++ rowC (tR M) M.length := by
  have key : ∀ k, rowC (tR (L ++ M)) (L.length + k) = rowC (tR L) L.length ++ rowC (tR M) k := fun k => by
    induction k with
    | zero =>
      rw [Nat.add_zero]
      show _ = _ ++ []
      rw [List.append_nil]
      refine rowC_congr (fun i hi => ?_)
      unfold tR
      rw [List.getD_eq_getElem?_getD, List.getElem?_append_left hi, ← List.getD_eq_getElem?_getD]
    | succ k ih =>
      rw [← Nat.add_assoc]
      show rowC _ (L.length + k) ++ tR (L ++ M) (L.length + k) = _ ++ (rowC (tR M) k ++ tR M k)
      rw [ih, List.append_assoc]
      congr 2
      unfold tR
      rw [List.getD_eq_getElem?_getD, List.getElem?_append_right (by omega), Nat.add_sub_cancel_left, ← List.getD_eq_getElem?_getD]
  rw [List.length_append]
  exact key _
/-- touches of one's own -/
def TcOwn (w : World) (base : Nat) (v : Value) (L : List Tch) : Prop := w.ownsRow base 44 3 v L.length (rowC (tR L) L.length)
theorem TcOwn.at {w : World} {base N : Nat} {v : Value} {L : List Tch} (h : TcOwn w base v L) : ∃ ao cap, v = .slice ao L.length cap ∧ TcAt w N ao L ∧ L.length ≤ cap ∧ ∀ p, ao = some p → base ≤ p.block := by
  obtain ⟨ao, cap, rfl, h1, h2⟩ := RowAt.of_owns (tR_ok _ _) h
  rcases owns_form h with ⟨h0, hl, _⟩ | ⟨g, cap', h0, _, _⟩
  · injection h0 with e1 e2 e3
    subst e1
    exact ⟨none, cap, rfl, ⟨h1, .inl hl⟩, by omega, fun p hp => (h2 p hp).1⟩
  · injection h0 with e1 e2 e3
    subst e1
    subst e3
    obtain ⟨⟨hle, cur, hb, _⟩, _⟩ := RowB.of_owns (tR_ok _ _) h
    exact ⟨_, _, rfl, ⟨h1, .inr fun p hp => ⟨(h2 p hp).2.1, by cases hp; exact .inr ⟨cur, hb⟩⟩⟩, hle, fun p hp => (h2 p hp).1⟩
/-- touches that are laid out -/
theorem TcAt.lit {w : World} {N b : Nat} {L : List Tch} (h : w.heap[b]? = some (.cells (rowC (tR L) L.length).toArray 44 (0, 0))) : TcAt w N (some ⟨b, 0, none⟩) L := by
  refine ⟨.inr ⟨b, 0, rfl, fun i hi j hj => ?_⟩, (.inr fun p hp => by cases hp; exact ⟨lt_of_block h, .inr ⟨_, h⟩⟩)⟩
  rw [← rowC_get (c := 3) (fun i hi => (tR_ok L.length L).len i hi) i hi j hj, Nat.zero_add]
  simp [World.cell?, h]
end Go.Proofs.Ytjdojckemphadaa
