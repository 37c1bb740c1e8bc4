/- Pools of lines: lines that are taken in two calls are those taken in one. No program is named here. -/
import Derived.Test.YtgpoplnfhlfogaaAlM
namespace Go.Proofs.Ytgpoplnfhlfogaa
open Go

theorem filter_drop {F : List Int} (hn : F.Nodup) (a : Nat) : F.filter (fun k => decide (k ∉ F.take a)) = F.drop a := by
  have h := List.take_append_drop a F
  have hd : ∀ k ∈ F.drop a, k ∉ F.take a := by
    rw [← h] at hn
    rw [List.nodup_append] at hn
    intro k hk hk2
    exact hn.2.2 k hk2 k hk rfl
  have hsplit : F.filter (fun k => decide (k ∉ F.take a)) = (F.take a).filter (fun k => decide (k ∉ F.take a)) ++ (F.drop a).filter (fun k => decide (k ∉ F.take a)) := by
    rw [← List.filter_append, h]
  rw [hsplit, List.filter_eq_nil_iff.2 (fun k hk => by simpa using hk), List.filter_eq_self.2 (fun k hk => by simpa using hd k hk)]
  rfl
theorem those_take (S : Lns) (lo : Int) (n a : Nat) : thoseL (allL S true ((thoseL S false lo n).take a)) false lo n = (thoseL S false lo n).drop a := by
  rw [← filter_drop (nodup_thoseL S false lo n) a]
  generalize (thoseL S false lo n).take a = T
  unfold thoseL
  rw [List.filter_filter]
  apply List.filter_congr
  intro k _
  unfold allL
  by_cases hk : k ∈ T <;> simp [hk]
theorem allL_append (S : Lns) (x y : List Int) (h : ∀ k ∈ x, k ∉ y) : allL (allL S true x) true y = allL S true (x ++ y) := by
  funext k
  unfold allL
  by_cases hx : k ∈ x
  · have := h k hx
    simp [hx, this]
  · by_cases hy : k ∈ y <;> simp [hx, hy]

/-- what two takings come to -/
theorem parts_law (S : Lns) (lo : Int) (n a b : Nat) : ∃ f x S1 g y S2 h z S3, takeN S lo n a = (f, x, S1) ∧ takeN S1 lo n b = (g, y, S2) ∧ takeN S lo n ((a + b : Nat) : Int) = (h, z, S3) ∧
    ((f = 0 ∧ g = 0 ∧ h = 0 ∧ z = x ++ y ∧ S3 = S2) ∨ ((f = 230 ∨ f = 0 ∧ g = 230) ∧ (g = 0 ∨ g = 230) ∧ h = 230)) := by
  by_cases h1 : ((thoseL S false lo n).length : Int) < a
  · by_cases h2 : ((thoseL S false lo n).length : Int) < b
    · refine ⟨230, [], S, 230, [], S, 230, [], S, ?_, ?_, ?_, .inr ⟨.inl rfl, .inr rfl, rfl⟩⟩
      · unfold takeN; rw [if_neg (by omega), if_pos h1]
      · unfold takeN; rw [if_neg (by omega), if_pos h2]
      · unfold takeN; rw [if_neg (by omega), if_pos (by omega)]
    · refine ⟨230, [], S, 0, (thoseL S false lo n).take b, allL S true ((thoseL S false lo n).take b), 230, [], S, ?_, ?_, ?_, .inr ⟨.inl rfl, .inl rfl, rfl⟩⟩
      · unfold takeN; rw [if_neg (by omega), if_pos h1]
      · unfold takeN; rw [if_neg (by omega), if_neg h2]; rfl
      · unfold takeN; rw [if_neg (by omega), if_pos (by omega)]
  · have hl : (thoseL (allL S true ((thoseL S false lo n).take a)) false lo n).length = (thoseL S false lo n).length - a := by rw [those_take, List.length_drop]
    have e1 : takeN S lo n a = (0, (thoseL S false lo n).take a, allL S true ((thoseL S false lo n).take a)) := by
      unfold takeN; rw [if_neg (by omega), if_neg h1]; rfl
    by_cases h2 : ((thoseL S false lo n).length : Int) < ((a + b : Nat) : Int)
    · refine ⟨0, (thoseL S false lo n).take a, allL S true ((thoseL S false lo n).take a), 230, [], allL S true ((thoseL S false lo n).take a), 230, [], S, e1, ?_, ?_, .inr ⟨.inr ⟨rfl, rfl⟩, .inr rfl, rfl⟩⟩
      · unfold takeN; rw [if_neg (by omega), if_pos (by rw [hl]; omega)]
      · unfold takeN; rw [if_neg (by omega), if_pos h2]
    · refine ⟨0, (thoseL S false lo n).take a, allL S true ((thoseL S false lo n).take a), 0, ((thoseL S false lo n).drop a).take b, allL (allL S true ((thoseL S false lo n).take a)) true (((thoseL S false lo n).drop a).take b), 0, (thoseL S false lo n).take (a + b), allL S true ((thoseL S false lo n).take (a + b)), e1, ?_, ?_, .inl ⟨rfl, rfl, rfl, List.take_add, ?_⟩⟩
      · unfold takeN; rw [if_neg (by omega), if_neg (by rw [hl]; omega), those_take]; rfl
      · unfold takeN; rw [if_neg (by omega), if_neg h2, show ((a + b : Nat) : Int).toNat = a + b from by omega]
      · rw [allL_append, List.take_add]
        intro k hk hk2
        have hn := nodup_thoseL S false lo n
        rw [← List.take_append_drop a (thoseL S false lo n), List.nodup_append] at hn
        exact hn.2.2 k hk k (List.mem_of_mem_take hk2) rfl
end Go.Proofs.Ytgpoplnfhlfogaa
