/- Lists of touches, in plain words: how many words are stored, one list behind another, lists that are made orderly. No program is named here. -/
import Derived.Test.YtmfbgkcphiomaaaTrL
namespace Go.Proofs.Ytmfbgkcphiomaaa
open Go Go.RowKit Go.Shelf Go.Maps Go.WideShapes

theorem words_es (L : List Tch) : ∀ j, j ≤ L.length → ∃ es : Ents, (keysOf es).Nodup ∧ WE es (L.take j) ∧ es.length ≤ j
  | 0, _ => ⟨[], List.nodup_nil, WE.nil, Nat.le_refl _⟩
  | j + 1, h => by
    obtain ⟨es, h1, h2, h3⟩ := words_es L j (by omega)
    rw [take_snoc (by omega)]
    by_cases hk : (L.getD j tch0).kd = 2
    · exact ⟨_, nodup_upd _ _ _ h1, h2.set hk, Nat.le_trans (len_upd _ _ _) (by omega)⟩
    · exact ⟨es, h1, h2.skip hk, by omega⟩
theorem putsL_le {L : List Tch} (hr : ∀ t ∈ L, t.right = true) : (putsL L).length ≤ L.length := by
  obtain ⟨es, h1, h2, h3⟩ := words_es L L.length (Nat.le_refl _)
  rw [List.take_length] at h2
  rw [← (h2.lays h1 hr).len]
  exact h3
theorem lines_es (L : List Tch) : ∀ j, j ≤ L.length → ∃ es : Ents, (keysOf es).Nodup ∧ (∀ k, k ∈ keysOf es ↔ (L.take j).any (Tch.on k) = true) ∧ es.length ≤ j
  | 0, _ => ⟨[], List.nodup_nil, fun k => by simp, Nat.le_refl _⟩
  | j + 1, h => by
    obtain ⟨es, h1, h2, h3⟩ := lines_es L j (by omega)
    have hs : ∀ k, ((L.take (j + 1)).any (Tch.on k) = true) ↔ ((L.take j).any (Tch.on k) = true ∨ (L.getD j tch0).on k = true) := fun k => by
      rw [take_snoc (by omega), List.any_append, List.any_cons, List.any_nil, Bool.or_false, Bool.or_eq_true]
    by_cases hk : (L.getD j tch0).kd = 4
    · refine ⟨es, h1, fun k => ?_, by omega⟩
      rw [hs, h2]
      unfold Tch.on
      rw [hk]
      simp
    · refine ⟨upd es (L.getD j tch0).ln (.int .i64 0), nodup_upd _ _ _ h1, fun k => ?_, Nat.le_trans (len_upd _ _ _) (by omega)⟩
      have hk' : ((L.getD j tch0).kd != 4) = true := by simpa using hk
      rw [hs, mem_keys_upd, h2]
      unfold Tch.on
      rw [hk']
      simp
      exact ⟨fun h => h.elim (fun h => .inr h.symm) .inl, fun h => h.elim .inr (fun h => .inl h.symm)⟩
theorem linesL_le {L : List Tch} (hr : ∀ t ∈ L, t.right = true) : (linesL L).length ≤ L.length := by
  obtain ⟨es, h1, h2, h3⟩ := lines_es L L.length (Nat.le_refl _)
  rw [List.take_length] at h2
  rw [← sort_lines h1 hr h2, sortK_len]
  exact h3
/-- the number that stands last at a key -/
def assocP (P : List (Int × Int)) (k : Int) : Option Int := P.foldl (fun o p => if p.1 = k then some p.2 else o) none
theorem assocP_snoc (P : List (Int × Int)) (p : Int × Int) (k : Int) : assocP (P ++ [p]) k = if p.1 = k then some p.2 else assocP P k := by
  unfold assocP
  rw [List.foldl_append]
  rfl
theorem foldP_or (k : Int) : ∀ (P : List (Int × Int)) (o : Option Int), P.foldl (fun o p => if p.1 = k then some p.2 else o) o = (assocP P k).or o
  | [], o => by simp [assocP]
  | p :: P, o => by
    show List.foldl _ (if p.1 = k then some p.2 else o) P = (List.foldl _ (if p.1 = k then some p.2 else none) P).or o
    rw [foldP_or k P, foldP_or k P]
    split
    · cases assocP P k <;> rfl
    · cases assocP P k <;> rfl
theorem assocP_append (P Q : List (Int × Int)) (k : Int) : assocP (P ++ Q) k = (assocP Q k).or (assocP P k) := by
  show (P ++ Q).foldl _ none = _
  rw [List.foldl_append, foldP_or]
  rfl
theorem foldP_map (f : Int → Int) (k : Int) : ∀ (A : List Int) (o : Option Int), (A.map (fun a => (a, f a))).foldl (fun o p => if p.1 = k then some p.2 else o) o = if k ∈ A then some (f k) else o
  | [], o => by simp
  | a :: A, o => by
    rw [List.map_cons, List.foldl_cons, foldP_map f k A]
    show (if k ∈ A then some (f k) else if a = k then some (f a) else o) = _
    by_cases h1 : k ∈ A
    · rw [if_pos h1, if_pos (List.mem_cons_of_mem _ h1)]
    · rw [if_neg h1]
      by_cases h2 : a = k
      · rw [if_pos h2, h2, if_pos (List.mem_cons_self ..)]
      · rw [if_neg h2, if_neg (fun h => (List.mem_cons.1 h).elim (fun h => h2 h.symm) h1)]
theorem assocP_puts {L : List Tch} (hr : ∀ t ∈ L, t.right = true) (k : Int) : assocP (putsL L) k = lastW L k := by
  unfold assocP putsL
  rw [foldP_map (fun a => (lastW L a).getD 0)]
  have h := mem_adrL hr (a := k)
  cases hw : lastW L k with
  | none =>
    rw [hw] at h
    rw [if_neg (fun hm => by cases h.1 hm)]
  | some v =>
    rw [hw] at h
    rw [if_pos (h.2 rfl)]
    rfl
/-- the map holds what stands last at each key -/
def AE (es : Ents) (P : List (Int × Int)) : Prop := ∀ k, look es k = (assocP P k).map (Value.int .u64)
theorem AE.nil : AE [] [] := fun _ => rfl
theorem AE.set {es : Ents} {P : List (Int × Int)} (h : AE es P) (p : Int × Int) : AE (upd es p.1 (.int .u64 p.2)) (P ++ [p]) := by
  intro k
  rw [look_upd, assocP_snoc, h k]
  by_cases hk : k = p.1
  · rw [if_pos hk, if_pos hk.symm]; rfl
  · rw [if_neg hk, if_neg (fun h => hk h.symm)]
theorem AE.words {es : Ents} {L M : List Tch} (h : AE es (putsL L ++ putsL M)) (hL : ∀ t ∈ L, t.right = true) (hM : ∀ t ∈ M, t.right = true) : WE es (L ++ M) := by
  intro a
  rw [h a, assocP_append, assocP_puts hL, assocP_puts hM, lastW_append]
theorem right_append {L M : List Tch} (hL : ∀ t ∈ L, t.right = true) (hM : ∀ t ∈ M, t.right = true) : ∀ t ∈ L ++ M, t.right = true := fun t ht => (List.mem_append.1 ht).elim (hL t) (hM t)
theorem takeP_snoc {P : List (Int × Int)} {j : Nat} (h : j < P.length) : P.take (j + 1) = P.take j ++ [P.getD j (0, 0)] := by
  rw [List.take_succ_eq_append_getElem h, show P.getD j (0, 0) = P[j] from by simp [h]]

theorem puts_congr {A B : List Tch} (h : ∀ a, lastW A a = lastW B a) : putsL A = putsL B := by
  unfold putsL adrL
  rw [show lastW A = lastW B from funext h]
theorem lastW_none {T : List Tch} (h : ∀ t ∈ T, t.kd ≠ 2) (a : Int) : lastW T a = none := by
  cases hw : lastW T a with
  | none => rfl
  | some v =>
    have := lastW_some (L := T) (a := a)
    rw [hw] at this
    obtain ⟨t, ht, h2⟩ := List.any_eq_true.1 this.symm
    simp at h2
    exact absurd h2.1 (h t ht)
theorem stOne_flush (k s a : Int) : stOne k s ⟨3, a, 0⟩ = if a = k ∧ s = 1 then 2 else s := rfl
theorem fold_flush (k : Int) : ∀ (S : List Int) (s : Int), (S.map (fun k => (⟨3, k, 0⟩ : Tch))).foldl (stOne k) s = if s = 1 ∧ k ∈ S then 2 else s
  | [], s => by simp
  | a :: S, s => by
    rw [List.map_cons, List.foldl_cons, fold_flush k S, stOne_flush]
    by_cases hs : s = 1
    · by_cases ha : a = k
      · rw [if_pos (show a = k ∧ s = 1 from ⟨ha, hs⟩), if_neg (fun h => absurd h.1 (by decide)), if_pos ⟨hs, by rw [ha]; exact List.mem_cons_self ..⟩]
      · rw [if_neg (show ¬ (a = k ∧ s = 1) from fun h => ha h.1)]
        by_cases hm : k ∈ S
        · rw [if_pos ⟨hs, hm⟩, if_pos ⟨hs, List.mem_cons_of_mem _ hm⟩]
        · rw [if_neg (fun h => hm h.2), if_neg (fun h => (List.mem_cons.1 h.2).elim (fun h => ha h.symm) hm)]
    · rw [if_neg (show ¬ (a = k ∧ s = 1) from fun h => hs h.2), if_neg (fun h => hs h.1), if_neg (fun h => hs h.1)]
/-- what Closed made: the list, and behind it no store; orderly, right -/
structure Clo (L A : List Tch) : Prop where
  right : ∀ t ∈ A, t.right = true
  ord : ordL A = true
  len : A.length ≤ L.length + 1025
  ge : L.length ≤ A.length
  pre : A.take L.length = L
  puts : putsL A = putsL L
theorem clo_ok {L A : List Tch} (hr : ∀ t ∈ L, t.right = true) (h : closedL L = (A, 0)) : Clo L A := by
  unfold closedL at h
  split at h
  · rename_i ho
    injection h with h1 _
    subst h1
    exact ⟨hr, ho, by omega, Nat.le_refl _, List.take_length, rfl⟩
  · split at h
    · injection h with _ h2
      cases h2
    · injection h with h1 _
      subst h1
      have hs : (storedL L).length ≤ 1024 := upto_len _ _
      have hl := closedT_len L
      have hrt : ∀ t ∈ closedT L, t.right = true := by
        unfold closedT
        refine right_append (right_append hr (fun t ht => ?_)) (fun t ht => ?_)
        · obtain ⟨k, hk, rfl⟩ := List.mem_map.1 ht
          have := mem_upto.1 hk
          have h1 : decide (0 ≤ k) = true := by simpa using this.1
          have h2 : decide (k < 1024) = true := by simpa using this.2.1
          show (decide (0 ≤ k) && decide (k < 1024) && (false || (0 : Int) == 0)) = true
          rw [h1, h2]
          rfl
        · rw [List.mem_singleton.1 ht]
          rfl
      refine ⟨hrt, (ordL_iff hrt).2 (fun k => ?_), by omega, by omega, ?_, puts_congr (fun a => ?_)⟩
      · have e : stS (closedT L) k = (if (if stS L k = 1 ∧ k ∈ storedL L then 2 else stS L k) = 2 then 3 else (if stS L k = 1 ∧ k ∈ storedL L then 2 else stS L k)) := by
          unfold stS closedT
          rw [List.foldl_append, List.foldl_append, fold_flush]
          rfl
        have hb := stS_le L k
        have hm := mem_storedL hr (k := k)
        have hz := stS_zero L k
        rw [e]
        by_cases h1 : stS L k = 1
        · have hk : k ∈ storedL L := by
            rw [hm]
            cases hx : L.any (Tch.st k) with
            | true => rfl
            | false => have := hz.2 hx; omega
          rw [if_pos (show stS L k = 1 ∧ k ∈ storedL L from ⟨h1, hk⟩)]
          right
          rfl
        · rw [if_neg (show ¬ (stS L k = 1 ∧ k ∈ storedL L) from fun h => h1 h.1)]
          by_cases h2 : stS L k = 2
          · right; rw [if_pos h2]
          · rw [if_neg h2]
            omega
      · unfold closedT
        rw [List.append_assoc, List.take_left]
      · unfold closedT
        rw [List.append_assoc, lastW_append, lastW_none (fun t ht => ?_), Option.none_or]
        rcases List.mem_append.1 ht with h | h
        · obtain ⟨k, _, rfl⟩ := List.mem_map.1 h
          show (3 : Int) ≠ 2
          decide
        · rw [List.mem_singleton.1 h]
          decide
theorem fold_two (k : Int) : ∀ (B : List Tch) (s s' : Int), (s = 0 ∨ s = 3) → (s' = 0 ∨ s' = 3) → (B.foldl (stOne k) s = s ∧ B.foldl (stOne k) s' = s') ∨ B.foldl (stOne k) s = B.foldl (stOne k) s'
  | [], _, _, _, _ => .inl ⟨rfl, rfl⟩
  | t :: B, s, s', h, h' => by
    rw [List.foldl_cons, List.foldl_cons]
    have key : (stOne k s t = s ∧ stOne k s' t = s') ∨ (stOne k s t = 1 ∧ stOne k s' t = 1) := by
      unfold stOne
      by_cases h2 : t.kd = 2
      · rw [if_pos h2, if_pos h2]
        by_cases hl : t.ln = k
        · rw [if_pos hl, if_pos hl]; exact .inr ⟨rfl, rfl⟩
        · rw [if_neg hl, if_neg hl]; exact .inl ⟨rfl, rfl⟩
      · rw [if_neg h2, if_neg h2]
        by_cases h3 : t.kd = 3
        · rw [if_pos h3, if_pos h3, if_neg (by omega), if_neg (by omega)]; exact .inl ⟨rfl, rfl⟩
        · rw [if_neg h3, if_neg h3]
          by_cases h4 : t.kd = 4
          · rw [if_pos h4, if_pos h4, if_neg (by omega), if_neg (by omega)]; exact .inl ⟨rfl, rfl⟩
          · rw [if_neg h4, if_neg h4]; exact .inl ⟨rfl, rfl⟩
    rcases key with ⟨e1, e2⟩ | ⟨e1, e2⟩
    · rw [e1, e2]; exact fold_two k B s s' h h'
    · rw [e1, e2]; exact .inr rfl
theorem ord_append {A B : List Tch} (hA : ∀ t ∈ A, t.right = true) (hB : ∀ t ∈ B, t.right = true) (oA : ordL A = true) (oB : ordL B = true) : ordL (A ++ B) = true := by
  rw [ordL_iff (right_append hA hB)]
  intro k
  have h1 := (ordL_iff hA).1 oA k
  have h2 := (ordL_iff hB).1 oB k
  have e : stS (A ++ B) k = B.foldl (stOne k) (stS A k) := by unfold stS; rw [List.foldl_append]
  rw [e]
  rcases fold_two k B (stS A k) 0 h1 (.inl rfl) with ⟨h, _⟩ | h
  · rw [h]; exact h1
  · rw [h]; exact h2

/-- a touch, and fences behind it -/
def lonG (x : Tch) (n : Nat) : List Tch := x :: List.replicate (n - 1) ⟨4, 0, 0⟩
theorem lonG_len (x : Tch) {n : Nat} (h : 0 < n) : (lonG x n).length = n := by unfold lonG; simp; omega
theorem lonG_right {x : Tch} (hx : x.right = true) (n : Nat) : ∀ t ∈ lonG x n, t.right = true := fun t ht => by
  rcases List.mem_cons.1 ht with h | h
  · rw [h]; exact hx
  · rw [(List.mem_replicate.1 h).2]; rfl
theorem fold_fences (k s : Int) (hs : s ≠ 2) : ∀ n, (List.replicate n (⟨4, 0, 0⟩ : Tch)).foldl (stOne k) s = s
  | 0 => rfl
  | n + 1 => by
    rw [List.replicate_succ, List.foldl_cons, show stOne k s ⟨4, 0, 0⟩ = s from by
      show (if s = 2 then (3 : Int) else s) = s
      rw [if_neg hs]]
    exact fold_fences k s hs n
theorem lonG_check {x : Tch} (hx : x.right = true) {n : Nat} (h : 0 < n) : tcheck (lonG x n) = if 4096 < n then 3 else 0 := by
  unfold tcheck
  rw [if_pos (List.all_eq_true.2 (lonG_right hx n)), lonG_len x h]
theorem lonG_load (n : Nat) : ordL (lonG ⟨1, 5, 0⟩ n) = true := by
  rw [ordL_iff (lonG_right rfl n)]
  intro k
  left
  show List.foldl (stOne k) (stOne k 0 ⟨1, 5, 0⟩) (List.replicate (n - 1) ⟨4, 0, 0⟩) = 0
  exact fold_fences k _ (by show (0 : Int) ≠ 2; decide) _
theorem lonG_store (n : Nat) : ordL (lonG ⟨2, 5, 1⟩ n) = false := by
  cases h : ordL (lonG ⟨2, 5, 1⟩ n) with
  | false => rfl
  | true =>
    have := (ordL_iff (lonG_right rfl n)).1 h 0
    have e : stS (lonG ⟨2, 5, 1⟩ n) 0 = 1 := by
      show List.foldl (stOne 0) (stOne 0 0 ⟨2, 5, 1⟩) (List.replicate (n - 1) ⟨4, 0, 0⟩) = 1
      exact fold_fences 0 _ (by show (1 : Int) ≠ 2; decide) _
    rw [e] at this
    omega
theorem lonG_stored (n : Nat) : storedL (lonG ⟨2, 5, 1⟩ n) = [0] := by
  refine sorted_ext (upto_sorted _ _) (by simp) (fun k => ?_)
  show k ∈ storedL _ ↔ _
  rw [mem_storedL (lonG_right rfl n), List.mem_singleton, List.any_eq_true]
  constructor
  · rintro ⟨t, ht, h⟩
    unfold Tch.st at h
    simp at h
    rcases List.mem_cons.1 ht with h1 | h1
    · subst h1
      rw [← h.2]
      rfl
    · rw [(List.mem_replicate.1 h1).2] at h
      exact absurd h.1 (by decide)
  · rintro rfl
    exact ⟨⟨2, 5, 1⟩, List.mem_cons_self .., by rfl⟩
/-- what Closed answers of such a list -/
theorem lonG_clo {n : Nat} (h : 0 < n) (hst : Bool) :
    (clo (lonG (if hst = true then ⟨2, 5, 1⟩ else ⟨1, 5, 0⟩) n)).2 = (if 4096 < n ∨ (hst = true ∧ 4094 < n) then 3 else 0) ∧
    ((clo (lonG (if hst = true then ⟨2, 5, 1⟩ else ⟨1, 5, 0⟩) n)).1.length = 0 ↔ (4096 < n ∨ (hst = true ∧ 4094 < n))) := by
  cases hst with
  | false =>
    rw [if_neg (by decide)]
    unfold clo
    rw [lonG_check rfl h]
    by_cases hb : 4096 < n
    · rw [if_pos hb, if_neg (by decide), if_pos (.inl hb)]
      exact ⟨rfl, fun _ => .inl hb, fun _ => rfl⟩
    · rw [if_neg hb, if_pos rfl, if_neg (fun h => h.elim hb (fun h => absurd h.1 (by decide)))]
      unfold closedL
      rw [if_pos (lonG_load n)]
      refine ⟨rfl, fun h2 => ?_, fun h2 => h2.elim (fun h => absurd h hb) (fun h => absurd h.1 (by decide))⟩
      have h3 : (lonG ⟨1, 5, 0⟩ n).length = 0 := h2
      rw [lonG_len _ h] at h3
      omega
  | true =>
    rw [if_pos rfl]
    unfold clo
    rw [lonG_check rfl h]
    by_cases hb : 4096 < n
    · rw [if_pos hb, if_neg (by decide), if_pos (.inl hb)]
      exact ⟨rfl, fun _ => .inl hb, fun _ => rfl⟩
    · rw [if_neg hb, if_pos rfl]
      unfold closedL
      rw [if_neg (by rw [lonG_store]; decide)]
      have hl : (closedT (lonG ⟨2, 5, 1⟩ n)).length = n + 2 := by rw [closedT_len, lonG_stored, lonG_len _ h]; rfl
      rw [hl]
      by_cases hc : 4096 < n + 2
      · rw [if_pos hc, if_pos (.inr ⟨rfl, by omega⟩)]
        exact ⟨rfl, fun _ => .inr ⟨rfl, by omega⟩, fun _ => rfl⟩
      · rw [if_neg hc, if_neg (fun h => h.elim hb (fun h => by omega))]
        refine ⟨rfl, fun h2 => ?_, fun h2 => h2.elim (fun h => absurd h hb) (fun h => by omega)⟩
        have h3 : (closedT (lonG ⟨2, 5, 1⟩ n)).length = 0 := h2
        omega

/-- the addresses of the lines, in their order -/
def adrOf (S : List Int) (i : Nat) : Int := 8 * S.getD (i / 8) 0 + ((i % 8 : Nat) : Int)
/-- what the document has found, j addresses on -/
def putsJ (L : List Tch) (S : List Int) (j : Nat) : List (Int × Int) := (((List.range j).map (adrOf S)).filter (fun a => (lastW L a).isSome)).map (fun a => (a, (lastW L a).getD 0))
theorem putsJ_succ (L : List Tch) (S : List Int) (j : Nat) : putsJ L S (j + 1) = putsJ L S j ++ (match lastW L (adrOf S j) with | some v => [(adrOf S j, v)] | none => []) := by
  unfold putsJ
  rw [List.range_succ, List.map_append, List.filter_append, List.map_append]
  congr 1
  show List.map _ (List.filter _ [adrOf S j]) = _
  rw [List.filter_cons, List.filter_nil]
  cases h : lastW L (adrOf S j) with
  | none => simp
  | some v => simp [h]
theorem adrOf_lt {S : List Int} (hS : S.Pairwise (· < ·)) {i j : Nat} (hij : i < j) (hj : j < 8 * S.length) : adrOf S i < adrOf S j := by
  unfold adrOf
  have h1 : i / 8 < S.length := by omega
  have h2 : j / 8 < S.length := by omega
  rw [List.getD_eq_getElem?_getD, List.getD_eq_getElem?_getD, List.getElem?_eq_getElem h1, List.getElem?_eq_getElem h2]
  show 8 * S[i / 8] + _ < 8 * S[j / 8] + _
  by_cases he : i / 8 = j / 8
  · have h3 : S[i / 8] = S[j / 8] := by congr 1
    rw [h3]
    omega
  · have := List.pairwise_iff_getElem.1 hS (i / 8) (j / 8) h1 h2 (by omega)
    omega
theorem putsJ_all {L : List Tch} (hr : ∀ t ∈ L, t.right = true) : putsJ L (storedL L) (8 * (storedL L).length) = putsL L := by
  unfold putsJ putsL
  refine congrArg (List.map _) ?_
  refine sorted_ext ?_ (upto_sorted _ _) (fun a => ?_)
  · refine List.Pairwise.filter _ ?_
    rw [List.pairwise_map]
    refine (List.pairwise_lt_range).imp_of_mem (fun {i j} hi hj h => adrOf_lt (upto_sorted _ _) h (List.mem_range.1 hj))
  · show _ ↔ a ∈ adrL L
    rw [List.mem_filter, mem_adrL hr]
    refine ⟨fun h => h.2, fun h => ⟨?_, h⟩⟩
    have h2 := h
    rw [lastW_some] at h2
    obtain ⟨t, ht, h3⟩ := List.any_eq_true.1 h2
    simp at h3
    have hst : a / 8 ∈ storedL L := (mem_storedL hr).2 (List.any_eq_true.2 ⟨t, ht, by
      unfold Tch.st Tch.ln
      rw [h3.1, h3.2]
      simp⟩)
    obtain ⟨i, hi, he⟩ := List.getElem_of_mem hst
    refine List.mem_map.2 ⟨8 * i + (a % 8).toNat, List.mem_range.2 (by omega), ?_⟩
    unfold adrOf
    have e1 : (8 * i + (a % 8).toNat) / 8 = i := by omega
    have e2 : (8 * i + (a % 8).toNat) % 8 = (a % 8).toNat := by omega
    rw [e1, e2, List.getD_eq_getElem?_getD, List.getElem?_eq_getElem hi]
    show 8 * (storedL L)[i] + _ = a
    rw [he]
    omega
end Go.Proofs.Ytmfbgkcphiomaaa
