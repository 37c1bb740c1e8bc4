/- The law PmemHolds: what a line may be behind a crash, call by call. No program is named here. -/
import Derived.Test.YtfojmjkcjdehaaaPmM
namespace Go.Proofs.Ytfojmjkcjdehaaa
open Go

/-- the last of some lines -/
def lastW (l : List Wd) : Wd := l.getD (l.length - 1) (fun _ => 0)
/-- the k-th is another -/
def updM (M : Nat → List Wd) (k : Nat) (l : List Wd) : Nat → List Wd := fun j => if j = k then l else M j
/-- what each line may be: as it stays, and as it waits -/
structure MayOk (D : Dv) (M : Nat → List Wd) : Prop where
  n5 : D.n = 5
  ne : ∀ k, k < 5 → M k ≠ []
  stay : ∀ k, k < 5 → ∃ G ∈ M k, ∀ i, i < 8 → G i = D.S (8 * k + i)
  wait : ∀ p ∈ D.W, ∀ i, i < 8 → lastW (M p.1) i = p.2 i
theorem lastW_append (l : List Wd) (G : Wd) : lastW (l ++ [G]) = G := by
  unfold lastW
  simp
theorem lastW_one (G : Wd) : lastW [G] = G := rfl
theorem lastW_mem {l : List Wd} (h : l ≠ []) : lastW l ∈ l := by
  unfold lastW
  have : 0 < l.length := List.length_pos_iff.2 h
  rw [List.getD_eq_getElem?_getD, List.getElem?_eq_getElem (by omega)]
  simp
theorem setLn_at (F : Wd) (k : Nat) (G : Wd) {k' i : Nat} (hi : i < 8) : setLn F k G (8 * k' + i) = if k' = k then G i else F (8 * k' + i) := by
  unfold setLn
  rw [show (8 * k' + i) / 8 = k' from by omega, show (8 * k' + i) % 8 = i from by omega]
/-- a line behind that waiting lines stay: as it stayed, or as it waited -/
theorem stl_line (sel : Nat → Bool) (k : Nat) : ∀ (W : List Wt) (j : Nat) (S : Wd), (∀ i, i < 8 → stl sel j W S (8 * k + i) = S (8 * k + i)) ∨ ∃ p ∈ W, p.1 = k ∧ ∀ i, i < 8 → stl sel j W S (8 * k + i) = p.2 i
  | [], _, _ => .inl fun _ _ => rfl
  | p :: W, j, S => by
    rcases stl_line sel k W (j + 1) (if sel j then setLn S p.1 p.2 else S) with h | ⟨q, hq, hk, h⟩
    · by_cases hs : sel j = true
      · by_cases hk : p.1 = k
        · refine .inr ⟨p, by simp, hk, fun i hi => ?_⟩
          show stl sel (j + 1) W _ _ = _
          rw [h i hi, if_pos hs, setLn_at _ _ _ hi, if_pos hk.symm]
        · refine .inl fun i hi => ?_
          show stl sel (j + 1) W _ _ = _
          rw [h i hi, if_pos hs, setLn_at _ _ _ hi, if_neg (fun e => hk e.symm)]
      · refine .inl fun i hi => ?_
        show stl sel (j + 1) W _ _ = _
        rw [h i hi, if_neg hs]
    · exact .inr ⟨q, by simp [hq], hk, h⟩
theorem stl_true (k : Nat) : ∀ (W : List Wt) (j : Nat) (S : Wd), (∃ p ∈ W, p.1 = k) → ∃ p ∈ W, p.1 = k ∧ ∀ i, i < 8 → stl (fun _ => true) j W S (8 * k + i) = p.2 i
  | [], _, _, h => by obtain ⟨p, hp, _⟩ := h; cases hp
  | p :: W, j, S, h => by
    by_cases hW : ∃ q ∈ W, q.1 = k
    · obtain ⟨q, hq, hk, hh⟩ := stl_true k W (j + 1) (setLn S p.1 p.2) hW
      exact ⟨q, by simp [hq], hk, hh⟩
    · have hp : p.1 = k := by
        obtain ⟨q, hq, hk⟩ := h
        rcases List.mem_cons.1 hq with rfl | hq
        · exact hk
        · exact absurd ⟨q, hq, hk⟩ hW
      refine ⟨p, by simp, hp, fun i hi => ?_⟩
      show stl (fun _ => true) (j + 1) W (setLn S p.1 p.2) _ = _
      rcases stl_line (fun _ => true) k W (j + 1) (setLn S p.1 p.2) with h' | ⟨q, hq, hk, _⟩
      · rw [h' i hi, setLn_at _ _ _ hi, if_pos hp.symm]
      · exact absurd ⟨q, hq, hk⟩ hW
theorem may_new : MayOk (dvNew 5) (fun _ => [fun _ => 0]) := ⟨rfl, fun _ _ => by simp, fun k _ => ⟨fun _ => 0, by simp, fun _ _ => rfl⟩, fun p hp => by cases hp⟩
theorem MayOk.put {D D' : Dv} {M : Nat → List Wd} (h : MayOk D M) (hn : D'.n = D.n) (hS : D'.S = D.S) (hW : D'.W = D.W) : MayOk D' M :=
  ⟨hn.trans h.n5, h.ne, fun k hk => by rw [hS]; exact h.stay k hk, fun p hp => h.wait p (by rw [← hW]; exact hp)⟩
theorem MayOk.store {D : Dv} {M : Nat → List Wd} (h : MayOk D M) (a v : Int) : MayOk (D.store a v).1 M := by
  unfold Dv.store
  split
  · exact h.put rfl rfl rfl
  · exact h
theorem MayOk.swap {D : Dv} {M : Nat → List Wd} (h : MayOk D M) (a f t : Int) : MayOk (D.swap a f t).1 M := by
  unfold Dv.swap
  split
  · split
    · exact h.put rfl rfl rfl
    · exact h
  · exact h
theorem MayOk.flush {D : Dv} {M : Nat → List Wd} (h : MayOk D M) {x : Int} (hx : D.line x = true) : MayOk (D.flush x).1 (updM M x.toNat (M x.toNat ++ [lineOf D.L x.toNat])) := by
  unfold Dv.flush
  rw [if_pos hx]
  refine ⟨h.n5, fun k hk => ?_, fun k hk => ?_, fun p hp => ?_⟩
  · unfold updM
    split
    · simp
    · exact h.ne k hk
  · obtain ⟨G, hG, hh⟩ := h.stay k hk
    refine ⟨G, ?_, hh⟩
    unfold updM
    split
    · rename_i e
      rw [← e]
      simp [hG]
    · exact hG
  · rcases List.mem_append.1 hp with hp | hp
    · obtain ⟨h1, h2⟩ := wout_mem hp
      unfold updM
      rw [if_neg (fun e => h2 (by
        have : 0 ≤ x := by unfold Dv.line at hx; simp at hx; exact hx.1
        omega))]
      exact h.wait p h1
    · have hp := List.mem_singleton.1 hp
      subst hp
      intro i hi
      unfold updM
      rw [if_pos rfl, lastW_append]
theorem MayOk.evict {D : Dv} {M : Nat → List Wd} (h : MayOk D M) {x : Int} (hx : D.line x = true) : MayOk (D.evict x).1 (updM M x.toNat [lineOf D.L x.toNat]) := by
  have hx0 : 0 ≤ x := by unfold Dv.line at hx; simp at hx; exact hx.1
  unfold Dv.evict
  rw [if_pos hx]
  refine ⟨h.n5, fun k hk => ?_, fun k hk => ?_, fun p hp => ?_⟩
  · unfold updM
    split
    · simp
    · exact h.ne k hk
  · unfold updM
    by_cases e : k = x.toNat
    · rw [if_pos e]
      refine ⟨_, List.mem_singleton.2 rfl, fun i hi => ?_⟩
      show _ = setLn _ _ _ _
      rw [setLn_at _ _ _ hi, if_pos e]
    · rw [if_neg e]
      obtain ⟨G, hG, hh⟩ := h.stay k hk
      refine ⟨G, hG, fun i hi => ?_⟩
      show _ = setLn _ _ _ _
      rw [setLn_at _ _ _ hi, if_neg e]
      exact hh i hi
  · obtain ⟨h1, h2⟩ := wout_mem hp
    unfold updM
    rw [if_neg (fun e => h2 (by omega))]
    exact h.wait p h1
/-- does a line wait? -/
def waitsB (W : List Wt) (k : Nat) : Bool := W.any fun p => p.1 == k
theorem MayOk.fence {D : Dv} {M : Nat → List Wd} (h : MayOk D M) : MayOk D.fence (fun k => if waitsB D.W k = true then [lastW (M k)] else M k) := by
  refine ⟨h.n5, fun k hk => ?_, fun k hk => ?_, fun p hp => by cases hp⟩
  · split
    · simp
    · exact h.ne k hk
  · by_cases hw : waitsB D.W k = true
    · rw [if_pos hw]
      have hw' : ∃ p ∈ D.W, p.1 = k := by
        unfold waitsB at hw
        obtain ⟨p, hp, e⟩ := List.any_eq_true.1 hw
        exact ⟨p, hp, by simpa using e⟩
      obtain ⟨p, hp, hk', hh⟩ := stl_true k D.W 0 D.S hw'
      refine ⟨_, List.mem_singleton.2 rfl, fun i hi => ?_⟩
      show _ = stl (fun _ => true) 0 D.W D.S _
      rw [hh i hi, ← hk']
      exact h.wait p hp i hi
    · rw [if_neg hw]
      obtain ⟨G, hG, hh⟩ := h.stay k hk
      refine ⟨G, hG, fun i hi => ?_⟩
      show _ = stl (fun _ => true) 0 D.W D.S _
      rcases stl_line (fun _ => true) k D.W 0 D.S with h' | ⟨q, hq, hk', _⟩
      · rw [h' i hi]
        exact hh i hi
      · exact absurd (by unfold waitsB; exact List.any_eq_true.2 ⟨q, hq, by simpa using hk'⟩) hw
/-- behind a crash each line is one of those -/
theorem MayOk.crash {D : Dv} {M : Nat → List Wd} (h : MayOk D M) (sel : Nat → Bool) {k : Nat} (hk : k < 5) : ∃ G ∈ M k, ∀ i, i < 8 → G i = (D.crash sel).L (8 * k + i) := by
  show ∃ G ∈ M k, ∀ i, i < 8 → G i = stl sel 0 D.W D.S (8 * k + i)
  rcases stl_line sel k D.W 0 D.S with h' | ⟨q, hq, hk', hh⟩
  · obtain ⟨G, hG, h2⟩ := h.stay k hk
    exact ⟨G, hG, fun i hi => by rw [h' i hi]; exact h2 i hi⟩
  · refine ⟨lastW (M k), lastW_mem (h.ne k hk), fun i hi => ?_⟩
    rw [hh i hi, ← hk']
    exact h.wait q hq i hi
/-- how many: no more than what was, and one for each call -/
def MayLen (M : Nat → List Wd) (j : Nat) : Prop := ∀ k, k < 5 → (M k).length ≤ j + 1
end Go.Proofs.Ytfojmjkcjdehaaa
