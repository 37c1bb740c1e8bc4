/- Touches in lists of one's own, ints in rows: what Redo's proofs take. -/
import Derived.Test.YtjdojckemphadaaTrM
import Derived.Test.YtjdojckemphadaaStc
import Derived.Test.YtjdojckemphadaaOps
import Derived.Test.YtjdojckemphadaaChecked
import Derived.Shelf.Abstract
import Derived.Test.YtjdojckemphadaaRes
namespace Go.Proofs.Ytjdojckemphadaa
open Go Go.RowKit Go.Shelf

/-- a list of ints in memory -/
def IntsAt (w : World) (ao : Option Addr) (L : List Int) : Prop := ∀ i, i < L.length → ∃ g off, ao = some ⟨g, off, none⟩ ∧ w.cell? ⟨g, off + i, none⟩ = some (.int .i64 (L.getD i 0))
theorem IntsAt.steady {M : Nat} {ao : Option Addr} {L : List Int} : Steady M (fun W => IntsAt W ao L) := by
  intro w w' h hc i hi
  obtain ⟨g, off, h1, h2⟩ := h i hi
  exact ⟨g, off, h1, Steady.cell (N := M) w w' h2 hc⟩
theorem IntsAt.of_owns {w : World} {base e : Nat} {v : Value} {n : Nat} {L : List Int} (hn : n = L.length) (h : w.ownsRow base e 1 v n (L.map (Value.int .i64))) :
    ∃ ao cap, v = .slice ao L.length cap ∧ IntsAt w ao L ∧ ∀ p, ao = some p → base ≤ p.block ∧ p.block < w.heap.size := by
  subst hn
  rcases h.2 with ⟨rfl, hx⟩ | ⟨g, cap, cur, rfl, hb, hg, _⟩
  · exact ⟨none, 0, by rw [hx], fun i hi => absurd hi (by omega), fun p hp => by cases hp⟩
  · refine ⟨some ⟨g, 0, none⟩, cap, rfl, fun i hi => ⟨g, 0, rfl, ?_⟩, fun p hp => by cases hp; exact ⟨hb, lt_of_block hg⟩⟩
    have := h.cells rfl i (.int .i64 (L.getD i 0)) (by simp [hi])
    rw [show (⟨g, 0, none⟩ : Addr).add i = ⟨g, 0 + i, none⟩ from by unfold Addr.add; split <;> simp_all] at this
    exact this
theorem IntsAt.ext {w w' : World} {ao : Option Addr} {L : List Int} {k : List Nat} (h : IntsAt w ao L) (hE : Ext k w w') (hk : ∀ p, ao = some p → p.block ∉ k) : IntsAt w' ao L := fun i hi => by
  obtain ⟨g, off, h1, h2⟩ := h i hi
  exact ⟨g, off, h1, hE.cell h2 (show g ∉ k from hk _ h1)⟩
theorem any_getD {p : Tch → Bool} {L : List Tch} : L.any p = true ↔ ∃ i, i < L.length ∧ p (L.getD i tch0) = true := by
  rw [List.any_eq_true]
  constructor
  · rintro ⟨t, ht, hp⟩
    obtain ⟨i, hi, rfl⟩ := List.getElem_of_mem ht
    exact ⟨i, hi, by rw [List.getD_eq_getElem?_getD, List.getElem?_eq_getElem hi]; exact hp⟩
  · rintro ⟨i, hi, hp⟩
    refine ⟨L[i], List.getElem_mem hi, ?_⟩
    rw [List.getD_eq_getElem?_getD, List.getElem?_eq_getElem hi] at hp
    exact hp
theorem take_snoc {L : List Tch} {j : Nat} (h : j < L.length) : L.take (j + 1) = L.take j ++ [L.getD j tch0] := by
  rw [List.take_add_one, List.getElem?_eq_getElem h, List.getD_eq_getElem?_getD, List.getElem?_eq_getElem h]
  rfl
theorem getD_mem {L : List Tch} {j : Nat} (h : j < L.length) : L.getD j tch0 ∈ L := by
  rw [List.getD_eq_getElem?_getD, List.getElem?_eq_getElem h]
  exact List.getElem_mem h
theorem Tch.right_at {t : Tch} (h : t.right = true) : 0 ≤ t.at' ∧ t.at' < 8192 := by
  unfold Tch.right at h
  simp only [Bool.and_eq_true, decide_eq_true_eq] at h
  obtain ⟨⟨h0, h1⟩, _⟩ := h
  refine ⟨h0, ?_⟩
  have hb : (bndT t.kd).1 ≤ 8192 := by
    unfold bndT
    split
    · decide
    · split
      · decide
      · split <;> decide
  omega
theorem TcOwn.snoc {w : World} {base n : Nat} {v : Value} {L : List Tch} (t : Tch) (hn : L.length = n) (h : w.ownsRow base 44 3 v (n + 1) (rowC (tR L) n ++ tchR t)) : TcOwn w base v (L ++ [t]) := by
  subst hn
  unfold TcOwn
  rw [tR_append, List.length_append]
  exact h
theorem TcOwn.nil (w : World) (base : Nat) : TcOwn w base (.slice none 0 0) [] := World.ownsRow_nil _ _ _ _
theorem TcOwn.ext {w w' : World} {base : Nat} {v : Value} {L : List Tch} (h : TcOwn w base v L) (hE : Ext [] w w') : TcOwn w' base v L := owns_ext h hE (fun _ _ => by simp)
theorem TcOwn.low {w : World} {base base' : Nat} {v : Value} {L : List Tch} (h : TcOwn w base v L) (hb : base' ≤ base) : TcOwn w base' v L := owns_base h hb
theorem closedT_len (L : List Tch) : (closedT L).length = L.length + (storedL L).length + 1 := by
  unfold closedT
  simp [Nat.add_assoc]
theorem tch_src {w : World} {B : Nat} (t : Tch) (h : w.heap[B]? = some (.cells #[.int .i64 t.kd, .int .i64 t.at', .int .u64 t.wd] 44 (0, 0))) : RowSrc w (some ⟨B, 0, none⟩) 1 3 (tchR t) := by
  have := (TcAt.lit (N := 0) (L := [t]) h).src
  exact this
/-- a touch's line, as the document tells it -/
def Tch.rl (t : Tch) : Int := if t.kd = 3 then t.at' else if t.kd = 4 then -1 else t.at' / 8
theorem Tch.rl_on (t : Tch) {k : Int} (h : 0 ≤ k) : (t.rl == k) = t.on k := by
  unfold Tch.rl Tch.on Tch.ln
  by_cases h3 : t.kd = 3
  · rw [if_pos h3, if_pos h3, h3]; rfl
  · rw [if_neg h3, if_neg h3]
    by_cases h4 : t.kd = 4
    · rw [if_pos h4, h4]
      show ((-1 : Int) == k) = false
      have : ¬ ((-1 : Int) = k) := by omega
      simpa using this
    · rw [if_neg h4]
      have : (t.kd != 4) = true := by simpa using h4
      rw [this]; rfl
theorem Tch.rl_st {t : Tch} (h2 : t.kd = 2) (k : Int) : (t.rl == k) = t.st k := by
  unfold Tch.rl Tch.st Tch.ln
  rw [h2]
  rfl
theorem infoInt : (Try.prog.info? 3).map (fun i => (i.zero, i.size, i.bytes)) = some (some (.int .i64 0), 1, 8) := by kernel_rfl
def intL (L : List Int) : List Value := L.map (Value.int .i64)
theorem intL_snoc (L : List Int) (k : Int) : intL (L ++ [k]) = intL L ++ [.int .i64 k] := by simp [intL]
/-- ints of one's own -/
def IntOwn (w : World) (base : Nat) (v : Value) (S : List Int) : Prop := w.ownsRow base 3 1 v S.length (intL S)
theorem IntOwn.nil (w : World) (base : Nat) : IntOwn w base (.slice none 0 0) [] := World.ownsRow_nil _ _ _ _
theorem IntOwn.at {w : World} {base : Nat} {v : Value} {S : List Int} (h : IntOwn w base v S) : ∃ ao cap, v = .slice ao S.length cap ∧ IntsAt w ao S ∧ ∀ p, ao = some p → base ≤ p.block ∧ p.block < w.heap.size := IntsAt.of_owns rfl h
theorem IntOwn.ext {w w' : World} {base : Nat} {v : Value} {S : List Int} (h : IntOwn w base v S) (hE : Ext [] w w') : IntOwn w' base v S := owns_ext h hE (fun _ _ => by simp)
theorem IntOwn.low {w : World} {base base' : Nat} {v : Value} {S : List Int} (h : IntOwn w base v S) (hb : base' ≤ base) : IntOwn w base' v S := owns_base h hb
theorem int_src {w : World} {B : Nat} {x : Int} (h : w.heap[B]? = some (.cells #[.int .i64 x] 3 (0, 0))) : RowSrc w (some ⟨B, 0, none⟩) 1 1 [.int .i64 x] := by
  refine .inr ⟨_, rfl, rfl, fun j u hj => ?_, fun u hu => ?_⟩
  · cases j with
    | zero =>
      simp at hj
      subst hj
      exact cell_of h rfl
    | succ j => simp at hj
  · simp at hu
    subst hu
    rfl
theorem any_false {p : Tch → Bool} {L : List Tch} (h : ∀ i, i < L.length → p (L.getD i tch0) = false) : L.any p = false := by
  cases ha : L.any p with
  | false => rfl
  | true =>
    obtain ⟨i, hi, hp⟩ := any_getD.1 ha
    rw [h i hi] at hp
    cases hp
end Go.Proofs.Ytjdojckemphadaa
