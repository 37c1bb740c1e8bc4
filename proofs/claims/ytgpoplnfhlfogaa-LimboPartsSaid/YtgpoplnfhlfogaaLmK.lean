/- LimboParts: the limbo between two calls; the plain law of retiring one by one (printed by wip/mkLmK.py). -/
import Derived.Test.YtgpoplnfhlfogaaLmJ
import Derived.Test.YtgpoplnfhlfogaaEpU
namespace Go.Proofs.Ytgpoplnfhlfogaa
open Go Go.RowKit Go.Shelf
attribute [local go_sem] Oper.semAt_some

theorem waitsK_gon (G : Nat → List Int) (a q : Nat) (X : List Int) : ∀ j, (∀ i, i < j → (a + i) % 3 ≠ q) → waitsK (gon G q X) a j = waitsK G a j
  | 0, _ => rfl
  | j + 1, h => by
    show putK (waitsK (gon G q X) a j) _ (gon G q X ((a + j) % 3)) = putK (waitsK G a j) _ (G ((a + j) % 3))
    rw [waitsK_gon G a q X j (fun i hi => h i (by omega))]
    unfold gon
    rw [if_neg (h j (by omega))]
/-- more lines at now -/
theorem waits_add {now : Int} (h0 : 0 ≤ now) (G : Nat → List Int) (X : List Int) : waitsE now (gon G (q3 now) (G (q3 now) ++ X)) = putK (waitsE now G) now X := by
  obtain ⟨N, rfl⟩ : ∃ N : Nat, now = (N : Int) := ⟨now.toNat, by omega⟩
  have hq : q3 (N : Int) = N % 3 := by unfold q3; omega
  unfold waitsE
  obtain ⟨a, ha⟩ : ∃ a, from3 (N : Int) = a := ⟨_, rfl⟩
  have haN : a ≤ N ∧ N ≤ a + 2 := by rw [← ha]; unfold from3; omega
  rw [ha, hq, show (N : Int).toNat + 1 - a = (N - a) + 1 from by omega]
  show putK (waitsK (gon G (N % 3) (G (N % 3) ++ X)) a (N - a)) ((a + (N - a) : Nat) : Int) (gon G (N % 3) (G (N % 3) ++ X) ((a + (N - a)) % 3)) = putK (putK (waitsK G a (N - a)) ((a + (N - a) : Nat) : Int) (G ((a + (N - a)) % 3))) (N : Int) X
  rw [show a + (N - a) = N from by omega, waitsK_gon G a (N % 3) _ (N - a) (fun i hi => by omega)]
  unfold gon
  rw [if_pos rfl]
  simp [putK]
theorem gon_gon (G : Nat → List Int) (q : Nat) (X Y : List Int) : gon (gon G q (G q ++ X)) q (gon G q (G q ++ X) q ++ Y) = gon G q (G q ++ (X ++ Y)) := by
  funext k
  unfold gon
  by_cases h : k = q
  · subst h
    simp
  · simp [h]
theorem gon_nil (G : Nat → List Int) (q : Nat) : gon G q (G q ++ []) = G := by
  funext k
  unfold gon
  by_cases h : k = q
  · subst h; simp
  · simp [h]
/-- what may be retired at once may be retired one by one -/
theorem one_by_one {S : Lns} {lo : Int} {n : Nat} {now : Int} {G : Nat → List Int} {Ls : List Int} (h0 : 0 ≤ now) (h : retE S lo n now G Ls = 0) {i : Nat} (hi : i < Ls.length) :
    retE S lo n now (gon G (q3 now) (G (q3 now) ++ Ls.take i)) [Ls.getD i 0] = 0 := by
  have hkey : Ls.getD i 0 = Ls[i] := by simp [hi]
  have hmem : Ls[i] ∈ Ls := List.getElem_mem hi
  unfold retE at h
  by_cases h1 : Ls.all (hasB lo (lo + (n : Int) - 1)) = true
  · rw [if_pos h1] at h
    by_cases h2 : okRet S now G Ls = true
    · unfold okRet at h2
      obtain ⟨h3, h4⟩ := Bool.and_eq_true_iff.1 h2
      have hnd : Ls.Nodup := by simpa using h3
      have hl := List.all_eq_true.1 h4 _ hmem
      unfold lentB at hl
      obtain ⟨h5, h6⟩ := Bool.and_eq_true_iff.1 hl
      have hnot : Ls[i] ∉ Ls.take i := fun hm => by
        have h7 := hnd.sublist (List.take_sublist (i + 1) Ls)
        rw [List.take_succ_eq_append_getElem hi] at h7
        exact (List.nodup_append.1 h7).2.2 _ hm _ (List.mem_singleton.2 rfl) rfl
      rw [hkey]
      unfold retE okRet
      have e1 : [Ls[i]].all (hasB lo (lo + (n : Int) - 1)) = true := by
        simp only [List.all_cons, List.all_nil, Bool.and_true]
        exact List.all_eq_true.1 h1 _ hmem
      have e2 : lentB S now (gon G (q3 now) (G (q3 now) ++ Ls.take i)) Ls[i] = true := by
        unfold lentB
        rw [waits_add h0, look_putK, if_neg hnot, h5, h6]
        rfl
      rw [if_pos e1, if_pos]
      simp only [List.all_cons, List.all_nil, Bool.and_true, e2]
      simp
    · rw [if_neg h2] at h; cases h
  · rw [if_neg h1] at h; cases h
/-- between two calls -/
def PSt (w wr : World) (b j : Nat) : Prop := ∃ c m p mb now l S G ga gc, LimAt wr b c m p mb 3 14 now l S G ga gc ∧ Ext [] w wr ∧ (∀ x, Bl b c m p mb ga x → w.heap.size ≤ x) ∧ COk now l ∧ now ≤ j ∧ (∀ q, 0 ≤ (S q).2 ∧ (S q).2 ≤ j) ∧ ∀ k, (G k).length ≤ 20 * j
theorem Bl.mb {b c m p mb mb' s : Nat} {ga : Nat → Option Addr} {t : Nat} (h : ∀ x, Bl b c m p mb ga x → s ≤ x) (hm : mb' = mb ∨ t ≤ mb') (ht : s ≤ t) : ∀ x, Bl b c m p mb' ga x → s ≤ x := by
  rintro x (rfl | rfl | rfl | rfl | rfl | hx)
  · exact h _ (.inl rfl)
  · exact h _ (.inr (.inl rfl))
  · exact h _ (.inr (.inr (.inl rfl)))
  · exact h _ (.inr (.inr (.inr (.inl rfl))))
  · rcases hm with rfl | hm
    · exact h _ (.inr (.inr (.inr (.inr (.inl rfl)))))
    · omega
  · exact h _ (.inr (.inr (.inr (.inr (.inr hx)))))
theorem Bl.ga {b c m p mb s q t : Nat} {ga : Nat → Option Addr} {ao : Option Addr} (h : ∀ x, Bl b c m p mb ga x → s ≤ x) (ha : ∀ x, ao = some x → t ≤ x.block) (ht : s ≤ t) : ∀ x, Bl b c m p mb (gaN ga q ao) x → s ≤ x := by
  rintro x (rfl | rfl | rfl | rfl | rfl | ⟨k, hk, y, hy, rfl⟩)
  · exact h _ (.inl rfl)
  · exact h _ (.inr (.inl rfl))
  · exact h _ (.inr (.inr (.inl rfl)))
  · exact h _ (.inr (.inr (.inr (.inl rfl))))
  · exact h _ (.inr (.inr (.inr (.inr (.inl rfl)))))
  · unfold gaN at hy
    split at hy
    · have := ha y hy; omega
    · exact h _ (.inr (.inr (.inr (.inr (.inr ⟨k, hk, y, hy, rfl⟩)))))
theorem cnt_take {S : Lns} {lo : Int} {n : Nat} {many : Int} {b : Int} (h : ∀ q, 0 ≤ (S q).2 ∧ (S q).2 ≤ b) : ∀ q, 0 ≤ ((takeN S lo n many).2.2 q).2 ∧ ((takeN S lo n many).2.2 q).2 ≤ b + 1 := by
  have hup : ∀ q, 0 ≤ (S q).2 ∧ (S q).2 ≤ b + 1 := fun q => by have := h q; omega
  unfold takeN
  split
  · exact hup
  · split
    · exact hup
    · exact cntB_all h
section
variable {w wr : World} {b j : Nat}
theorem PSt.up (h : PSt w wr b j) : PSt w wr b (j + 1) := by
  obtain ⟨c, m, p, mb, now, l, S, G, ga, gc, h1, h2, h3, h4, h5, h6, h7⟩ := h
  exact ⟨c, m, p, mb, now, l, S, G, ga, gc, h1, h2, h3, h4, by omega, fun q => by have := h6 q; omega, fun k => by have := h7 k; omega⟩
theorem PSt.ext1 {w' : World} (h : PSt w wr b j) (hE : Ext [] wr w') : PSt w w' b j := by
  obtain ⟨c, m, p, mb, now, l, S, G, ga, gc, h1, h2, h3, h4, h5, h6, h7⟩ := h
  exact ⟨c, m, p, mb, now, l, S, G, ga, gc, h1.ext0 hE, h2.trans hE, h3, h4, h5, h6, h7⟩
theorem pst_take (many : Int) (h : PSt w wr b j) (hj : j ≤ 1000) (hm : many ≤ 9223372036854775807) : Calls Try.prog 43 #[.pointer (some ⟨b, 0, none⟩), .int .i64 many] wr fun e w' => (∃ v, e = .returned v) ∧ PSt w w' b (j + 1) := by
  obtain ⟨c, m, p, mb, now, l, S, G, ga, gc, h1, h2, h3, h4, h5, h6, h7⟩ := h
  have key : ∀ X, Ext [] wr X → Calls Try.prog 24 #[.pointer (some ⟨p, 0, none⟩), .int .i64 many] X (TakePost X p mb 3 14 (takeN S 3 14 many)) := fun X hX => by
    by_cases hn : many < 0
    · have := al_take_neg p mb 3 14 S many X (h1.ext0 hX).pool hn
      rwa [show takeN S 3 14 many = (2, [], S) from if_pos hn]
    · obtain ⟨q, rfl⟩ : ∃ q : Nat, many = (q : Int) := ⟨many.toNat, by omega⟩
      exact al_take_pos p mb 3 14 S q X (by omega) (by omega) (by omega) (h1.ext0 hX).pool (w_b h6 (by omega)) (by omega)
  refine (lm_take b c m p mb 3 14 now l S G ga gc many wr h1 (fun _ _ w' => PSt w w' b (j + 1)) (fun X hX => (key X hX).mono fun e w' hq => ?_)).mono (fun e w' ⟨v, u, he, hq⟩ => ⟨⟨_, he⟩, hq⟩)
  obtain ⟨ao, cap, he, hE, _, _, mb', hP, hmb⟩ := hq
  refine ⟨_, _, he, hE, c, m, p, mb', now, l, _, G, ga, gc, (h1.ext0 hX).pooled hE hP hmb, (h2.trans hX).trans' hE (fun x hx => .inr ?_), Bl.mb h3 hmb ((h2.trans hX).size), h4, by omega, cnt_take h6, fun k => by have := h7 k; omega⟩
  rw [List.mem_singleton.1 hx]
  exact h3 p (.inr (.inr (.inr (.inl rfl))))
theorem pst_pin (t : Int) (h : PSt w wr b j) : Calls Try.prog 46 #[.pointer (some ⟨b, 0, none⟩), .int .i64 t] wr fun e w' => (∃ v, e = .returned v) ∧ PSt w w' b (j + 1) := by
  obtain ⟨c, m, p, mb, now, l, S, G, ga, gc, h1, h2, h3, h4, h5, h6, h7⟩ := h
  refine (lm_pin b c m p mb 3 14 now l S G ga gc t wr h1 (fun _ _ w' => PSt w w' b (j + 1)) (fun X hX => (ep_pin c m now l t X (h1.ext0 hX).clk).mono fun e w' ⟨he, hE, hcl⟩ => ?_)).mono (fun e w' ⟨v, u, he, hq⟩ => ⟨⟨_, he⟩, hq⟩)
  refine ⟨_, _, he, hE, c, m, p, mb, now, _, S, G, ga, gc, (h1.ext0 hX).pins hE hcl, (h2.trans hX).trans' hE (fun x hx => .inr ?_), h3, ?_, by omega, fun q => by have := h6 q; omega, fun k => by have := h7 k; omega⟩
  · rw [List.mem_singleton.1 hx]
    exact h3 m (.inr (.inr (.inl rfl)))
  · split
    · exact h4.pin (pinErr_thr ‹_›)
    · exact h4
theorem pst_unpin (t : Int) (h : PSt w wr b j) : Calls Try.prog 47 #[.pointer (some ⟨b, 0, none⟩), .int .i64 t] wr fun e w' => (∃ v, e = .returned v) ∧ PSt w w' b (j + 1) := by
  obtain ⟨c, m, p, mb, now, l, S, G, ga, gc, h1, h2, h3, h4, h5, h6, h7⟩ := h
  refine (lm_unpin b c m p mb 3 14 now l S G ga gc t wr h1 (fun _ _ w' => PSt w w' b (j + 1)) (fun X hX => (ep_unpin c m now l t X (h1.ext0 hX).clk).mono fun e w' ⟨he, hE, hcl⟩ => ?_)).mono (fun e w' ⟨v, u, he, hq⟩ => ⟨⟨_, he⟩, hq⟩)
  refine ⟨_, he, hE, c, m, p, mb, now, _, S, G, ga, gc, (h1.ext0 hX).pins hE hcl, (h2.trans hX).trans' hE (fun x hx => .inr ?_), h3, ?_, by omega, fun q => by have := h6 q; omega, fun k => by have := h7 k; omega⟩
  · rw [List.mem_singleton.1 hx]
    exact h3 m (.inr (.inr (.inl rfl)))
  · split
    · exact h4.unpin t
    · exact h4
theorem pst_pass (h : PSt w wr b j) (hj : j ≤ 1000) : Calls Try.prog 45 #[.pointer (some ⟨b, 0, none⟩)] wr fun e w' => (∃ v, e = .returned v) ∧ PSt w w' b (j + 1) := by
  obtain ⟨c, m, p, mb, now, l, S, G, ga, gc, h1, h2, h3, h4, h5, h6, h7⟩ := h
  have hlow := h4.low
  cases ha : advOk now l with
  | false =>
    refine (lm_pass_no b c m p mb 3 14 now l S G ga gc wr h1 hlow (by omega) h4.vals ha).mono (fun e w' ⟨he, hE, hL⟩ => ⟨⟨_, he⟩, PSt.up ⟨c, m, p, mb, now, l, S, G, ga, gc, hL, h2.trans' hE (fun x hx => .inr ?_), h3, h4, h5, h6, h7⟩⟩)
    rw [List.mem_singleton.1 hx]
    exact h3 c (.inr (.inl rfl))
  | true =>
    refine (lm_pass_yes b c m p mb 3 14 now l S G ga gc wr h1 hlow (by omega) h4.vals ha (w_b h6 (by omega)) (fun k _ => by have := h7 k; omega)).mono (fun e w' ⟨he, hE, mb', hL, hmb⟩ => ⟨⟨_, he⟩, c, m, p, mb', now + 1, l, _, _, _, _, hL, h2.trans' hE (fun x hx => .inr ?_), Bl.ga (t := w.heap.size) (Bl.mb h3 hmb h2.size) (fun x hx => by cases hx) (Nat.le_refl _), h4.up, by omega, cnt_turn h6, fun k => ?_⟩)
    · simp at hx
      rcases hx with rfl | rfl | rfl
      · exact h3 _ (.inl rfl)
      · exact h3 _ (.inr (.inl rfl))
      · exact h3 _ (.inr (.inr (.inr (.inl rfl))))
    · have := h7 k
      unfold gon
      split <;> simp <;> omega
theorem pst_retire (ao : Option Addr) (cap : Nat) (Ls : List Int) (h : PSt w wr b j) (hj : j ≤ 1000) (hI : IntsB wr ao Ls.length (fun i => Ls.getD i 0)) (hn : Ls.length ≤ 20) : Calls Try.prog 44 #[.pointer (some ⟨b, 0, none⟩), .slice ao Ls.length cap] wr fun e w' => (∃ v, e = .returned v) ∧ PSt w w' b (j + 1) := by
  obtain ⟨c, m, p, mb, now, l, S, G, ga, gc, h1, h2, h3, h4, h5, h6, h7⟩ := h
  have hlow := h4.low
  refine (lm_Retire b c m p mb 3 14 now l S G ga gc ao cap Ls wr h1 hlow (by omega) (fun k _ => by have := h7 k; omega) hI (by omega)).mono (fun e w' ⟨he, hno, hyes⟩ => ⟨⟨_, he⟩, ?_⟩)
  by_cases h0 : retE S 3 14 now G Ls = 0
  · obtain ⟨hE, ao', cap', hL, hf⟩ := hyes h0
    refine ⟨c, m, p, mb, now, l, S, _, _, _, hL, h2.trans' hE (fun x hx => .inr ?_), Bl.ga h3 hf h2.size, h4, by omega, fun q => by have := h6 q; omega, fun k => ?_⟩
    · rw [List.mem_singleton.1 hx]
      exact h3 b (.inl rfl)
    · have := h7 k
      have := h7 (q3 now)
      unfold gon
      split
      · rw [List.length_append]; omega
      · omega
  · exact PSt.up ⟨c, m, p, mb, now, l, S, G, ga, gc, h1.ext0 (hno h0), h2.trans (hno h0), h3, h4, h5, h6, h7⟩
end
end Go.Proofs.Ytgpoplnfhlfogaa
