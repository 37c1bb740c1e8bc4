/- The law PmemHolds: the lists that it keeps for each line, in memory. -/
import Derived.Test.YtfojmjkcjdehaaaPnZ
namespace Go.Proofs.Ytfojmjkcjdehaaa
open Go Go.RowKit Go.Shelf

/-- the cells of some lines -/
def flat (l : List Wd) : List Value := l.flatMap fun G => (w8 G).toList
theorem flat_len : ∀ l : List Wd, (flat l).length = l.length * 8
  | [] => rfl
  | G :: l => by
    have := flat_len l
    unfold flat at this ⊢
    rw [List.flatMap_cons, List.length_append, this, List.length_cons, Nat.add_mul]
    simp [w8]
    omega
theorem flat_append (l : List Wd) (G : Wd) : flat (l ++ [G]) = flat l ++ (w8 G).toList := by
  unfold flat
  rw [List.flatMap_append]
  simp
theorem flat_drop : ∀ (l : List Wd) (k : Nat), (flat l).drop (k * 8) = flat (l.drop k)
  | [], k => by simp [flat]
  | G :: l, 0 => by simp
  | G :: l, k + 1 => by
    have := flat_drop l k
    unfold flat at this ⊢
    rw [List.flatMap_cons, List.drop_succ_cons, ← this, show (k + 1) * 8 = k * 8 + 8 from by omega]
    rfl
theorem drop_last {l : List Wd} (h : l ≠ []) : l.drop (l.length - 1) = [lastW l] := by
  have hl : 0 < l.length := List.length_pos_iff.2 h
  rw [List.drop_eq_getElem_cons (by omega)]
  unfold lastW
  rw [List.getD_eq_getElem?_getD, List.getElem?_eq_getElem (by omega), List.drop_eq_nil_of_le (by omega)]
  rfl
/-- five values -/
def v5 (V : Nat → Value) : Array Value := #[V 0, V 1, V 2, V 3, V 4]
theorem v5_set (V : Nat → Value) {k : Nat} (hk : k < 5) (x : Value) : (v5 V).setIfInBounds k x = v5 (fun j => if j = k then x else V j) := by
  match k, hk with
  | 0, _ => rfl
  | 1, _ => rfl
  | 2, _ => rfl
  | 3, _ => rfl
  | 4, _ => rfl
theorem v5_at (V : Nat → Value) {k : Nat} (hk : k < 5) : (v5 V)[k]? = some (V k) := by
  match k, hk with
  | 0, _ => rfl
  | 1, _ => rfl
  | 2, _ => rfl
  | 3, _ => rfl
  | 4, _ => rfl
/-- the first K lists, and where each lies -/
structure MayR (w W : World) (b7 K : Nat) (M : Nat → List Wd) (V : Nat → Value) (B O C : Nat → Nat) : Prop where
  blk : W.heap[b7]? = some (.cells (v5 V) 72 (0, 0))
  val : ∀ k, k < K → V k = .slice (some ⟨B k, O k, none⟩) (M k).length (C k)
  row : ∀ k, k < K → RowO W (B k) 68 (O k) (M k).length (C k) 8 (flat (M k))
  new : ∀ k, k < K → w.heap.size ≤ B k
  dif : ∀ k, k < K → ∀ j, j < K → j ≠ k → B j ≠ B k
theorem MayR.ext {w W W' : World} {b7 K : Nat} {M : Nat → List Wd} {V : Nat → Value} {B O C : Nat → Nat} {m : List Nat} (h : MayR w W b7 K M V B O C) (hE : Ext m W W') (h7 : b7 ∉ m) (hm : NoT W 68 m) : MayR w W' b7 K M V B O C :=
  ⟨hE.at h.blk h7, h.val, fun k hk => (h.row k hk).ext hE (by obtain ⟨cur, h1, _⟩ := (h.row k hk).blk; exact hm _ cur h1), h.new, h.dif⟩
theorem MayR.ext0 {w W W' : World} {b7 K : Nat} {M : Nat → List Wd} {V : Nat → Value} {B O C : Nat → Nat} (h : MayR w W b7 K M V B O C) (hE : Ext [] W W') : MayR w W' b7 K M V B O C := h.ext hE (by simp) (NoT.nil _ _)
theorem MayR.ne7 {w W : World} {b7 K : Nat} {M : Nat → List Wd} {V : Nat → Value} {B O C : Nat → Nat} (h : MayR w W b7 K M V B O C) {k : Nat} (hk : k < K) : B k ≠ b7 := fun e => by
  obtain ⟨cur, h1, _⟩ := (h.row k hk).blk
  rw [e, h.blk] at h1
  simp at h1
/-- the k-th list is another one: laid anew, or in its own block -/
theorem MayR.set {w W W' : World} {b7 K K' k : Nat} {M : Nat → List Wd} {V : Nat → Value} {B O C : Nat → Nat} (h : MayR w W b7 K M V B O C) {l : List Wd} {b' o' c' : Nat} (hk : k < 5) (hK : K' = K ∨ (k = K ∧ K' = K + 1)) (hw : w.heap.size ≤ W.heap.size)
    {m : List Nat} (hE : Ext m W W') (hm : ∀ q, q ∈ m → (k < K ∧ q = B k) ∨ W.heap.size ≤ q) (hb : (k < K ∧ b' = B k) ∨ W.heap.size ≤ b') (hr : RowO W' b' 68 o' l.length c' 8 (flat l)) :
    ∃ V' B' O' C', MayR w (W'.setCell ⟨b7, k, none⟩ (.slice (some ⟨b', o', none⟩) l.length c')) b7 K' (updM M k l) V' B' O' C' := by
  have hb7 : b7 ≠ b' := by
    rcases hb with ⟨hk', rfl⟩ | hb
    · exact (h.ne7 hk').symm
    · have := lt_of_block h.blk
      omega
  have hE7 : Ext [b7] W' (W'.setCell ⟨b7, k, none⟩ (.slice (some ⟨b', o', none⟩) l.length c')) := (Ext.refl [b7] W').setCell (.inl (by simp)) _
  refine ⟨fun j => if j = k then .slice (some ⟨b', o', none⟩) l.length c' else V j, fun j => if j = k then b' else B j, fun j => if j = k then o' else O j, fun j => if j = k then c' else C j, ?_, fun j hj => ?_, fun j hj => ?_, fun j hj => ?_, fun j hj i hi hne => ?_⟩
  · rw [← v5_set V hk]
    exact block_set (hE.at h.blk (fun hq => by
      rcases hm _ hq with ⟨hk', e⟩ | hb
      · exact h.ne7 hk' e.symm
      · have := lt_of_block h.blk
        omega)) _
  · unfold updM
    by_cases e : j = k
    · simp only [if_pos e]
    · simp only [if_neg e]
      exact h.val j (by omega)
  · unfold updM
    by_cases e : j = k
    · simp only [if_pos e]
      exact hr.ext hE7 (by simpa using hb7.symm)
    · simp only [if_neg e]
      have hjK : j < K := by omega
      have hjb : B j ∉ m := fun hq => by
        rcases hm _ hq with ⟨hk', e2⟩ | hb
        · exact h.dif k hk' j hjK e e2
        · have := (h.row j hjK).lt
          omega
      exact ((h.row j hjK).ext hE hjb).ext hE7 (by simpa using h.ne7 hjK)
  · by_cases e : j = k
    · simp only [if_pos e]
      rcases hb with ⟨hk', rfl⟩ | hb
      · exact h.new k hk'
      · omega
    · simp only [if_neg e]
      exact h.new j (by omega)
  · have key : ∀ q, q < K → q ≠ k → B q ≠ b' := fun q hq e => by
      rcases hb with ⟨hk', rfl⟩ | hb
      · exact h.dif k hk' q hq e
      · have := (h.row q hq).lt
        omega
    by_cases e : j = k
    · have e2 : i ≠ k := fun e2 => hne (e2.trans e.symm)
      simp only [if_pos e, if_neg e2]
      exact key i (by omega) e2
    · by_cases e2 : i = k
      · simp only [if_neg e, if_pos e2]
        exact (key j (by omega) e).symm
      · simp only [if_neg e, if_neg e2]
        exact h.dif j (by omega) i (by omega) hne
end Go.Proofs.Ytfojmjkcjdehaaa
