/- A list of touches, in plain words: its lines, what the lines are that it stores to, which words it stores. No program is named here. -/
import Derived.Test.YtjdojckemphadaaTdR
import Derived.Test.YtjdojckemphadaaKey
namespace Go.Proofs.Ytjdojckemphadaa
open Go Go.RowKit Go.Shelf Go.Maps Go.WideShapes

/-- the numbers below n of which p holds, rising -/
def upto (n : Nat) (p : Int → Bool) : List Int := ((List.range n).map Int.ofNat).filter p
theorem mem_upto {n : Nat} {p : Int → Bool} {k : Int} : k ∈ upto n p ↔ 0 ≤ k ∧ k < n ∧ p k = true := by
  unfold upto
  rw [List.mem_filter, List.mem_map]
  constructor
  · rintro ⟨⟨i, hi, rfl⟩, h⟩
    have := List.mem_range.1 hi
    refine ⟨?_, ?_, h⟩
    · show (0 : Int) ≤ (i : Int); omega
    · show (i : Int) < (n : Int); omega
  · rintro ⟨h0, h1, h2⟩
    refine ⟨⟨k.toNat, List.mem_range.2 (by omega), ?_⟩, h2⟩
    show ((k.toNat : Nat) : Int) = k
    omega
theorem upto_sorted (n : Nat) (p : Int → Bool) : (upto n p).Pairwise (· < ·) := by
  unfold upto
  refine List.Pairwise.filter _ ?_
  rw [List.pairwise_map]
  refine List.pairwise_lt_range.imp (fun {a b} h => ?_)
  show (a : Int) < (b : Int)
  omega
theorem upto_len (n : Nat) (p : Int → Bool) : (upto n p).length ≤ n := by
  unfold upto
  exact Nat.le_trans (List.length_filter_le _ _) (by simp)
theorem upto_succ (n : Nat) (p : Int → Bool) : upto (n + 1) p = upto n p ++ (if p n = true then [(n : Int)] else []) := by
  unfold upto
  rw [List.range_succ, List.map_append, List.filter_append]
  congr 1
  show List.filter p [(n : Int)] = _
  rw [List.filter_cons, List.filter_nil]
theorem upto_congr {n : Nat} {p q : Int → Bool} (h : ∀ k : Int, 0 ≤ k → k < n → p k = q k) : upto n p = upto n q := by
  unfold upto
  refine List.filter_congr (fun k hk => ?_)
  obtain ⟨i, hi, rfl⟩ := List.mem_map.1 hk
  have := List.mem_range.1 hi
  exact h (i : Int) (by omega) (by omega)
theorem sorted_ext {A B : List Int} (hA : A.Pairwise (· < ·)) (hB : B.Pairwise (· < ·)) (h : ∀ k, k ∈ A ↔ k ∈ B) : A = B := by
  have hp : A.Perm B := (List.perm_ext_iff_of_nodup (hA.imp (fun h => by omega)) (hB.imp (fun h => by omega))).2 h
  have e : A.mergeSort (fun x y => decide (x ≤ y)) = B.mergeSort (fun x y => decide (x ≤ y)) := mergeSort_of_perm_i hp
  rwa [List.mergeSort_of_pairwise (hA.imp (fun h => by simp; omega)), List.mergeSort_of_pairwise (hB.imp (fun h => by simp; omega))] at e
theorem sortK_upto {l : Ents} {n : Nat} {p : Int → Bool} (hn : (keysOf l).Nodup) (h : ∀ k, k ∈ keysOf l ↔ 0 ≤ k ∧ k < n ∧ p k = true) : sortK l = upto n p := by
  have hp : (upto n p).Perm (keysOf l) := (List.perm_ext_iff_of_nodup ((upto_sorted n p).imp (fun h => by omega)) hn).2 (fun t => by rw [mem_upto, h])
  rw [← sortK_of hp]
  exact List.mergeSort_of_pairwise ((upto_sorted n p).imp (fun h => by simp; omega))

/-- a touch's line -/
def Tch.ln (t : Tch) : Int := if t.kd = 3 then t.at' else t.at' / 8
/-- does it touch line k? -/
def Tch.on (k : Int) (t : Tch) : Bool := t.kd != 4 && t.ln == k
/-- does it store to line k? -/
def Tch.st (k : Int) (t : Tch) : Bool := t.kd == 2 && t.ln == k
theorem Tch.right_ln {t : Tch} (h : t.right = true) : 0 ≤ t.ln ∧ t.ln < 1024 := by
  unfold Tch.right at h
  simp only [Bool.and_eq_true, decide_eq_true_eq] at h
  obtain ⟨⟨h0, h1⟩, _⟩ := h
  unfold Tch.ln
  unfold bndT at h1
  split
  · rename_i h3
    rw [h3] at h1
    simp at h1
    omega
  · rename_i h3
    split at h1
    · dsimp only at h1; omega
    · split at h1
      · dsimp only at h1; omega
      · dsimp only at h1; omega
theorem Tch.right_st {t : Tch} (h : t.right = true) (h2 : t.kd = 2) : 0 ≤ t.at' ∧ t.at' < 8192 := by
  unfold Tch.right at h
  simp only [Bool.and_eq_true, decide_eq_true_eq] at h
  obtain ⟨⟨h0, h1⟩, _⟩ := h
  rw [h2] at h1
  exact ⟨h0, h1⟩
/-- its lines -/
def linesL (L : List Tch) : List Int := upto 1024 (fun k => L.any (Tch.on k))
/-- the lines that it stores to -/
def storedL (L : List Tch) : List Int := upto 1024 (fun k => L.any (Tch.st k))
theorem mem_linesL {L : List Tch} (h : ∀ t ∈ L, t.right = true) {k : Int} : k ∈ linesL L ↔ L.any (Tch.on k) = true := by
  unfold linesL
  rw [mem_upto]
  refine ⟨fun h => h.2.2, fun ha => ?_⟩
  obtain ⟨t, ht, ho⟩ := List.any_eq_true.1 ha
  have := Tch.right_ln (h t ht)
  unfold Tch.on at ho
  simp at ho
  exact ⟨by omega, by omega, ha⟩
theorem mem_storedL {L : List Tch} (h : ∀ t ∈ L, t.right = true) {k : Int} : k ∈ storedL L ↔ L.any (Tch.st k) = true := by
  unfold storedL
  rw [mem_upto]
  refine ⟨fun h => h.2.2, fun ha => ?_⟩
  obtain ⟨t, ht, ho⟩ := List.any_eq_true.1 ha
  have := Tch.right_ln (h t ht)
  unfold Tch.st at ho
  simp at ho
  exact ⟨by omega, by omega, ha⟩
theorem storedL_filter (L : List Tch) : linesL (L.filter (fun t => t.kd == 2)) = storedL L := by
  unfold linesL storedL
  refine upto_congr (fun k _ _ => ?_)
  rw [List.any_filter]
  congr 1
  funext t
  unfold Tch.on Tch.st
  cases h : (t.kd == 2) with
  | false => rfl
  | true =>
    have : t.kd = 2 := by simpa using h
    rw [this]
    rfl

/-- what a line is, one touch on: 0: it is not stored to; 1: stored; 2: flushed; 3: fenced -/
def stOne (k s : Int) (t : Tch) : Int := if t.kd = 2 then (if t.ln = k then 1 else s) else if t.kd = 3 then (if t.at' = k ∧ s = 1 then 2 else s) else if t.kd = 4 then (if s = 2 then 3 else s) else s
def stS (L : List Tch) (k : Int) : Int := L.foldl (stOne k) 0
theorem stS_snoc (L : List Tch) (t : Tch) (k : Int) : stS (L ++ [t]) k = stOne k (stS L k) t := by
  unfold stS
  rw [List.foldl_append]
  rfl
theorem stS_nil (k : Int) : stS [] k = 0 := rfl
theorem stOne_le {k s : Int} (t : Tch) (h : 0 ≤ s ∧ s ≤ 3) : 0 ≤ stOne k s t ∧ stOne k s t ≤ 3 := by
  unfold stOne
  repeat' split
  all_goals omega
theorem foldSt_le (k : Int) : ∀ (L : List Tch) (s : Int), 0 ≤ s ∧ s ≤ 3 → 0 ≤ L.foldl (stOne k) s ∧ L.foldl (stOne k) s ≤ 3
  | [], _, h => h
  | t :: L, _, h => foldSt_le k L _ (stOne_le t h)
theorem stS_le (L : List Tch) (k : Int) : 0 ≤ stS L k ∧ stS L k ≤ 3 := foldSt_le k L 0 (by omega)
theorem foldSt_zero (k : Int) : ∀ (L : List Tch) (s : Int), L.foldl (stOne k) s = 0 ↔ s = 0 ∧ L.any (Tch.st k) = false
  | [], _ => by simp
  | t :: L, s => by
    rw [List.foldl_cons, foldSt_zero k L, List.any_cons, Bool.or_eq_false_iff]
    have : stOne k s t = 0 ↔ s = 0 ∧ Tch.st k t = false := by
      unfold stOne Tch.st
      by_cases h2 : t.kd = 2
      · rw [if_pos h2]
        by_cases hl : t.ln = k
        · rw [if_pos hl]; simp [h2, hl]
        · rw [if_neg hl]; simp [hl]
      · rw [if_neg h2]
        have h2' : (t.kd == 2) = false := by simpa using h2
        rw [h2']
        by_cases h3 : t.kd = 3
        · rw [if_pos h3]
          by_cases hl : t.at' = k ∧ s = 1
          · rw [if_pos hl]; simp; omega
          · rw [if_neg hl]; simp
        · rw [if_neg h3]
          by_cases h4 : t.kd = 4
          · rw [if_pos h4]
            by_cases hl : s = 2
            · rw [if_pos hl]; simp; omega
            · rw [if_neg hl]; simp
          · rw [if_neg h4]; simp
    rw [this]
    exact ⟨fun ⟨⟨a, b⟩, c⟩ => ⟨a, b, c⟩, fun ⟨a, b, c⟩ => ⟨⟨a, b⟩, c⟩⟩
theorem stS_zero (L : List Tch) (k : Int) : stS L k = 0 ↔ L.any (Tch.st k) = false := by
  unfold stS
  rw [foldSt_zero]
  simp
/-- is the line sure to stay? -/
def sureS (L : List Tch) (k : Int) : Bool := stS L k == 0 || stS L k == 3
/-- is the list orderly? -/
def ordL (L : List Tch) : Bool := (storedL L).all (sureS L)
theorem ordL_iff {L : List Tch} (h : ∀ t ∈ L, t.right = true) : ordL L = true ↔ ∀ k, stS L k = 0 ∨ stS L k = 3 := by
  unfold ordL
  rw [List.all_eq_true]
  constructor
  · intro ha k
    by_cases h0 : stS L k = 0
    · exact .inl h0
    · have hm : k ∈ storedL L := (mem_storedL h).2 (by
        cases hx : L.any (Tch.st k) with
        | true => rfl
        | false => exact absurd ((stS_zero L k).2 hx) h0)
      have := ha k hm
      unfold sureS at this
      simpa using this
  · intro ha k _
    unfold sureS
    simpa using ha k
/-- the touches that make it orderly, behind it -/
def closedT (L : List Tch) : List Tch := L ++ (storedL L).map (fun k => ⟨3, k, 0⟩) ++ [⟨4, 0, 0⟩]
/-- made orderly; what is wrong -/
def closedL (L : List Tch) : List Tch × Int := if ordL L = true then (L, 0) else if 4096 < (closedT L).length then ([], 3) else (closedT L, 0)

/-- what the code's map holds of a line -/
def encS (s : Int) : Option Value := if s = 0 then none else some (.int .i64 s)
def LE (l : Ents) (f : Int → Int) : Prop := ∀ k, look l k = encS (f k)
theorem LE.nil : LE [] (stS []) := fun _ => rfl
theorem LE.keys {l : Ents} {f : Int → Int} (h : LE l f) (k : Int) : k ∈ keysOf l ↔ f k ≠ 0 := by
  have h1 := look_none l k
  rw [h k] at h1
  unfold encS at h1
  by_cases h0 : f k = 0
  · rw [if_pos h0] at h1
    exact ⟨fun hm => absurd hm (h1.1 rfl), fun hm => absurd h0 hm⟩
  · rw [if_neg h0] at h1
    refine ⟨fun _ => h0, fun _ => ?_⟩
    by_cases hm : k ∈ keysOf l
    · exact hm
    · exact absurd (h1.2 hm) (by simp)
theorem LE.set {l : Ents} {f : Int → Int} (h : LE l f) (k : Int) {s : Int} (hs : s ≠ 0) : LE (upd l k (.int .i64 s)) (fun j => if j = k then s else f j) := by
  intro j
  rw [look_upd]
  by_cases hj : j = k
  · rw [if_pos hj]
    show _ = encS (if j = k then s else f j)
    rw [if_pos hj]
    unfold encS
    rw [if_neg hs]
  · rw [if_neg hj, h j]
    show _ = encS (if j = k then s else f j)
    rw [if_neg hj]
theorem LE.congr {l : Ents} {f g : Int → Int} (h : LE l f) (hg : ∀ k, f k = g k) : LE l g := fun k => by rw [h k, hg k]
theorem LE.at {l : Ents} {f : Int → Int} (h : LE l f) {k : Int} (hk : f k ≠ 0) : look l k = some (.int .i64 (f k)) := by
  rw [h k]
  unfold encS
  rw [if_neg hk]
theorem LE.sort {l : Ents} {L : List Tch} (hn : (keysOf l).Nodup) (h : LE l (stS L)) (hL : ∀ t ∈ L, t.right = true) : sortK l = storedL L :=
  sortK_upto hn (fun k => by
    rw [h.keys, ne_eq, stS_zero, Bool.not_eq_false]
    exact ⟨fun h => mem_upto.1 ((mem_storedL hL).2 h), fun h => h.2.2⟩)

/-- the word that is stored at an address, last -/
def lastW (L : List Tch) (a : Int) : Option Int := L.foldl (fun o t => if t.kd = 2 ∧ t.at' = a then some t.wd else o) none
theorem lastW_snoc (L : List Tch) (t : Tch) (a : Int) : lastW (L ++ [t]) a = if t.kd = 2 ∧ t.at' = a then some t.wd else lastW L a := by
  unfold lastW
  rw [List.foldl_append]
  rfl
theorem foldW_or (a : Int) : ∀ (L : List Tch) (o : Option Int), L.foldl (fun o t => if t.kd = 2 ∧ t.at' = a then some t.wd else o) o = (lastW L a).or o
  | [], o => by simp [lastW]
  | t :: L, o => by
    show List.foldl _ (if t.kd = 2 ∧ t.at' = a then some t.wd else o) L = (List.foldl _ (if t.kd = 2 ∧ t.at' = a then some t.wd else none) L).or o
    rw [foldW_or a L, foldW_or a L]
    split
    · cases lastW L a <;> rfl
    · cases lastW L a <;> rfl
theorem lastW_append (L M : List Tch) (a : Int) : lastW (L ++ M) a = (lastW M a).or (lastW L a) := by
  show (L ++ M).foldl _ none = _
  rw [List.foldl_append, foldW_or]
  rfl
theorem lastW_some {L : List Tch} {a : Int} : (lastW L a).isSome = L.any (fun t => t.kd == 2 && t.at' == a) := by
  have key : ∀ (L : List Tch) (o : Option Int), (L.foldl (fun o t => if t.kd = 2 ∧ t.at' = a then some t.wd else o) o).isSome = (o.isSome || L.any (fun t => t.kd == 2 && t.at' == a)) := by
    intro L
    induction L with
    | nil => intro o; simp
    | cons t L ih =>
      intro o
      rw [List.foldl_cons, ih, List.any_cons]
      by_cases h2 : t.kd = 2
      · by_cases ha : t.at' = a
        · rw [if_pos ⟨h2, ha⟩]; simp [h2, ha]
        · rw [if_neg (fun h => ha h.2), show (t.at' == a) = false from by simpa using ha]; simp
      · rw [if_neg (fun h => h2 h.1), show (t.kd == 2) = false from by simpa using h2]; simp
  exact (key L none).trans (by simp)
/-- what the code's map holds of words -/
def WE (l : Ents) (L : List Tch) : Prop := ∀ a, look l a = (lastW L a).map (Value.int .u64)
theorem WE.nil : WE [] [] := fun _ => rfl
theorem WE.set {l : Ents} {L : List Tch} (h : WE l L) {t : Tch} (ht : t.kd = 2) : WE (upd l t.at' (.int .u64 t.wd)) (L ++ [t]) := by
  intro a
  rw [look_upd, lastW_snoc, h a]
  by_cases ha : a = t.at'
  · rw [if_pos ha, if_pos ⟨ht, ha.symm⟩]; rfl
  · rw [if_neg ha, if_neg (fun h => ha h.2.symm)]
theorem WE.skip {l : Ents} {L : List Tch} (h : WE l L) {t : Tch} (ht : t.kd ≠ 2) : WE l (L ++ [t]) := by
  intro a
  rw [lastW_snoc, h a, if_neg (fun h => ht h.1)]
theorem WE.keys {l : Ents} {L : List Tch} (h : WE l L) (a : Int) : a ∈ keysOf l ↔ (lastW L a).isSome = true := by
  have h1 := look_none l a
  rw [h a] at h1
  cases hw : lastW L a with
  | none =>
    rw [hw] at h1
    exact ⟨fun hm => absurd hm (h1.1 rfl), fun hm => by cases hm⟩
  | some v =>
    rw [hw] at h1
    refine ⟨fun _ => rfl, fun _ => ?_⟩
    by_cases hm : a ∈ keysOf l
    · exact hm
    · exact absurd (h1.2 hm) (by simp)
/-- the addresses that are stored to -/
def adrL (L : List Tch) : List Int := upto 8192 (fun a => (lastW L a).isSome)
/-- what is stored, address by address -/
def putsL (L : List Tch) : List (Int × Int) := (adrL L).map (fun a => (a, (lastW L a).getD 0))
theorem lastW_in {L : List Tch} (hL : ∀ t ∈ L, t.right = true) {a : Int} (h : (lastW L a).isSome = true) : 0 ≤ a ∧ a < 8192 := by
  rw [lastW_some] at h
  obtain ⟨t, ht, h⟩ := List.any_eq_true.1 h
  simp at h
  have := Tch.right_st (hL t ht) h.1
  omega
theorem mem_adrL {L : List Tch} (hL : ∀ t ∈ L, t.right = true) {a : Int} : a ∈ adrL L ↔ (lastW L a).isSome = true := by
  unfold adrL
  rw [mem_upto]
  exact ⟨fun h => h.2.2, fun h => by have := lastW_in hL h; exact ⟨by omega, by omega, h⟩⟩
theorem WE.sort {l : Ents} {L : List Tch} (hn : (keysOf l).Nodup) (h : WE l L) (hL : ∀ t ∈ L, t.right = true) : sortK l = adrL L :=
  sortK_upto hn (fun a => by
    rw [h.keys]
    exact ⟨fun h => mem_upto.1 ((mem_adrL hL).2 h), fun h => h.2.2⟩)

theorem len_upd (l : Ents) (k : Int) (v : Value) : (upd l k v).length ≤ l.length + 1 := by
  induction l with
  | nil => simp [upd]
  | cons p l ih =>
    obtain ⟨a, x⟩ := p
    unfold upd
    split
    · simp
    · simpa using ih
end Go.Proofs.Ytjdojckemphadaa
