/- The walk of the law AllocHolds. -/
import Derived.Test.YtgpoplnfhlfogaaAlJ
namespace Go.Proofs.Ytgpoplnfhlfogaa
open Go Go.RowKit Go.Shelf

theorem zeroI (w : World) : (zeroValue 3).run Try.prog w = .ok (.int .i64 0) w := by kernel_rfl
set_option maxHeartbeats 400000 in
theorem al_num' (e : Int) (w : World) : Calls Try.prog 25 #[.int .i64 e] w fun x w' => x = .returned (.int .i64 e) ∧ w' = w :=
  (al_num e w).mono fun _ _ ⟨a, b⟩ => ⟨a, b.symm⟩

/-- held says which lines are taken -/
def HeldOk (S : Lns) (l : Ents) : Prop := (∀ k, look l k = if (S k).1 = true then some (.int .i64 1) else none) ∧ ∀ k, (S k).1 = true → 3 ≤ k ∧ k < 21
theorem HeldOk.start : HeldOk S0 [] := ⟨fun _ => rfl, fun k h => by cases h⟩
theorem HeldOk.len {S : Lns} {l : Ents} (h : HeldOk S l) (hn : (keysOf l).Nodup) : (l.length : Int) + ((thoseL S false 3 18).length : Int) = 18 := by
  have h1 : (keysOf l).length = (thoseL S true 3 18).length := len_of_same hn (nodup_thoseL S true 3 18) (fun k => by
    rw [mem_thoseL]
    have hk := h.1 k
    have hr := h.2 k
    cases hs : (S k).1 with
    | true =>
      rw [hs] at hk hr
      have : k ∈ keysOf l := by
        apply Classical.byContradiction
        intro hc
        rw [(look_none l k).2 hc] at hk
        cases hk
      have := hr rfl
      exact ⟨fun _ => ⟨this.1, by omega, rfl⟩, fun _ => ‹k ∈ keysOf l›⟩
    | false =>
      rw [hs] at hk
      have := (look_none l k).1 (by rw [hk]; rfl)
      exact ⟨fun hc => absurd hc this, fun hc => by cases hc.2.2⟩)
  have h2 := those_len S 3 18
  simp at h1
  omega
theorem HeldOk.take {S : Lns} {l l' : Ents} {ks : List Int} (h : HeldOk S l) (hr : ∀ k ∈ ks, 3 ≤ k ∧ k < 21) (hl : ∀ k, look l' k = if k ∈ ks then some (.int .i64 1) else look l k) : HeldOk (allL S true ks) l' := by
  refine ⟨fun k => ?_, fun k hk => ?_⟩
  · rw [hl k]
    unfold allL
    by_cases hm : k ∈ ks
    · simp [hm]
    · simp [hm, h.1 k]
  · unfold allL at hk
    by_cases hm : k ∈ ks
    · exact hr k hm
    · simp [hm] at hk
      exact h.2 k hk
theorem HeldOk.give {S : Lns} {l l' : Ents} {ks : List Int} (h : HeldOk S l) (hl : ∀ k, look l' k = if k ∈ ks then none else look l k) : HeldOk (allL S false ks) l' := by
  refine ⟨fun k => ?_, fun k hk => ?_⟩
  · rw [hl k]
    unfold allL
    by_cases hm : k ∈ ks
    · simp [hm]
    · simp [hm, h.1 k]
  · unfold allL at hk
    by_cases hm : k ∈ ks
    · simp [hm] at hk
    · simp [hm] at hk
      exact h.2 k hk

/-- where the law's loop stands: the pool, what is held -/
structure HSt (w wr : World) (c hb mb : Nat) (S : Lns) (l : Ents) (b : Int) : Prop where
  pool : Pool wr c mb 3 (3 + ((18 : Nat) : Int) - 1) S
  held : IMap wr hb l
  ok : HeldOk S l
  cnt : ∀ q, 0 ≤ (S q).2 ∧ (S q).2 ≤ b
  ext : Ext [] w wr
  hc : w.heap.size ≤ c
  hh : w.heap.size ≤ hb
  hne : hb ≠ c
  hnm : hb ≠ mb

theorem HSt.new {w wr w' : World} {c hb mb mb' : Nat} {S S' : Lns} {l : Ents} {b b' : Int} (h : HSt w wr c hb mb S l b) (hp : Pool w' c mb' 3 (3 + ((18 : Nat) : Int) - 1) S') (hE : Ext [c] wr w') (hm : mb' = mb ∨ wr.heap.size ≤ mb') (hk : HeldOk S' l) (hc : ∀ q, 0 ≤ (S' q).2 ∧ (S' q).2 ≤ b') : HSt w w' c hb mb' S' l b' :=
  ⟨hp, h.held.ext hE (by simp; exact h.hne), hk, hc, h.ext.trans' hE (fun j hj => .inr (by simp at hj; rw [hj]; exact h.hc)), h.hc, h.hh, h.hne, fun e => hm.elim (fun h' => h.hnm (e.trans h')) (fun h' => by have := h.held.lt; omega)⟩
theorem HSt.ext1 {w wr w' : World} {c hb mb : Nat} {S : Lns} {l : Ents} {b : Int} (h : HSt w wr c hb mb S l b) (hE : Ext [] wr w') : HSt w w' c hb mb S l b :=
  ⟨h.pool.ext hE (by simp) (by simp), h.held.ext hE (by simp), h.ok, h.cnt, h.ext.trans hE, h.hc, h.hh, h.hne, h.hnm⟩

/-- Take in the law's loop: what it answers -/
def HTake (wr : World) (c hb : Nat) (S : Lns) (many : Int) (e : Ending) (w' : World) : Prop :=
  ∃ ao cap ks er mb', e = .returned (.tuple #[.slice ao (List.length ks) cap, .int .i64 er]) ∧ IntsAt w' ao ks.length (fun i => ks.getD i 0) ∧ (∀ p, ao = some p → wr.heap.size ≤ p.block) ∧ Pool w' c mb' 3 (3 + ((18 : Nat) : Int) - 1) (allL S true ks) ∧ Ext [c] wr w' ∧
    hb ≠ mb' ∧ ks.length ≤ 18 ∧ ks.Nodup ∧ (∀ k ∈ ks, 3 ≤ k ∧ k < 21 ∧ (S k).1 = false) ∧ (er == 230) = decide (((thoseL S false 3 18).length : Int) < many) ∧ (er ≠ 0 → ks = [])
theorem allL_nil (S : Lns) (t : Bool) : allL S t [] = S := by funext k; simp [allL]
theorem CntB.of {S : Lns} {b : Int} (h : ∀ q, 0 ≤ (S q).2 ∧ (S q).2 ≤ b) (hb : b ≤ 1000000000000) : CntB S := fun q => ⟨(h q).1, by have := (h q).2; omega⟩
theorem h_take {w wr : World} {c hb mb : Nat} {S : Lns} {l : Ents} {b : Int} (h : HSt w wr c hb mb S l b) (hb' : b ≤ 1000000000000) (many : Int) (hm : I64 many) :
    Calls Try.prog 24 #[.pointer (some ⟨c, 0, none⟩), .int .i64 many] wr (HTake wr c hb S many) := by
  have hnew : ∀ mb', (mb' = mb ∨ wr.heap.size ≤ mb') → hb ≠ mb' := fun mb' hm e => hm.elim (fun h' => h.hnm (e.trans h')) (fun h' => by have := h.held.lt; omega)
  by_cases hneg : many < 0
  · refine (al_take_neg c mb 3 18 S many wr h.pool hneg).mono ?_
    rintro e w' ⟨ao, cap, rfl, hE, hI, hN, mb', hp, hmb⟩
    exact ⟨ao, cap, [], 2, mb', rfl, hI, hN, by rw [allL_nil]; exact hp, hE, hnew _ hmb, by simp, List.nodup_nil, (fun k hk => by cases hk), by simp; omega, fun _ => rfl⟩
  · obtain ⟨q, rfl⟩ : ∃ q : Nat, many = q := ⟨many.toNat, by omega⟩
    unfold I64 at hm
    refine (al_take_pos c mb 3 18 S q wr (by omega) (by omega) (by omega) h.pool (CntB.of h.cnt hb') (by omega)).mono ?_
    rintro e w' ⟨ao, cap, rfl, hE, hI, hN, mb', hp, hmb⟩
    unfold takeN at hI hp ⊢
    rw [if_neg (by omega)] at hI hp ⊢
    by_cases hf : ((thoseL S false 3 18).length : Int) < q
    · rw [if_pos hf] at hI hp ⊢
      exact ⟨ao, cap, [], 230, mb', rfl, hI, hN, by rw [allL_nil]; exact hp, hE, hnew _ hmb, by simp, List.nodup_nil, (fun k hk => by cases hk), by simp; omega, fun _ => rfl⟩
    · rw [if_neg hf] at hI hp ⊢
      rw [show ((q : Nat) : Int).toNat = q from by omega] at hI hp ⊢
      have hmem : ∀ k ∈ (thoseL S false 3 18).take q, k ∈ thoseL S false 3 18 := fun k hk => List.mem_of_mem_take hk
      refine ⟨ao, cap, (thoseL S false 3 18).take q, 0, mb', rfl, hI, hN, hp, hE, hnew _ hmb, ?_, (nodup_thoseL S false 3 18).sublist (List.take_sublist _ _), (fun k hk => ?_), by simp; omega, fun h => absurd rfl h⟩
      · have := those_len S 3 18
        rw [List.length_take]
        omega
      · have := (mem_thoseL S false 3 18 k).1 (hmem k hk)
        exact ⟨this.1, by omega, this.2.2⟩

theorem h_give {w wr : World} {c hb mb : Nat} {S : Lns} {l : Ents} {b : Int} (h : HSt w wr c hb mb S l b) (hb' : b ≤ 1000000000000) (ao : Option Addr) (m cap : Nat) (L : Nat → Int) (hp : IntsAt wr ao m L) (hm : m ≤ 9223372036854775807) :
    Calls Try.prog 26 #[.pointer (some ⟨c, 0, none⟩), .slice ao m cap] wr (fun e w' => ∃ er S' mb', e = .returned (.int .i64 er) ∧ Pool w' c mb' 3 (3 + ((18 : Nat) : Int) - 1) S' ∧ Ext [c] wr w' ∧ (mb' = mb ∨ wr.heap.size ≤ mb') ∧ ((er = 0 ∧ S' = allL S false (lst L m)) ∨ (er ≠ 0 ∧ S' = S))) := by
  refine (al_Give c mb 3 18 S ao m cap L wr h.pool hp hm (CntB.of h.cnt hb')).mono ?_
  rintro e w' ⟨rfl, hE, mb', hp', hmb⟩
  refine ⟨_, _, mb', rfl, hp', hE, hmb, ?_⟩
  unfold turnN
  split
  · cases ht : turnS false (lst L m) S with
    | some S' => exact .inl ⟨rfl, ((turnS_iff false (lst L m) S S').1 ht).2.2⟩
    | none => exact .inr ⟨by simp, rfl⟩
  · exact .inr ⟨by simp, rfl⟩
end Go.Proofs.Ytgpoplnfhlfogaa
