/- Records: the plain law of packing and unpacking. -/
import Derived.Test.YteaedcjnfigigaaRcF
namespace Go.Proofs.Yteaedcjnfigigaa
open Go

theorem unpN_pack {n : Nat} {L : Nat → Int × Int} (hn : n ≤ 11) : unpN (packW n L) = n := by
  unfold unpN; rw [packW_one hn]; simp
theorem unpL_pack {n : Nat} {L : Nat → Int × Int} (hok : okN L n = true) (i : Nat) (hi : i < n) : unpL (packW n L) i = L i := by
  unfold unpL
  rw [(packW_put i hi).1, (packW_put i hi).2]
  have := okN_at hok i hi
  rw [Int.min_eq_left (by omega)]
theorem eqB_refl (F : Nat → Int) : eqB F F = true := (eqB_iff F F).2 fun _ _ => rfl
theorem unpE_pack {n : Nat} {L : Nat → Int × Int} (h : checkE L n = 0) : unpE (packW n L) = 0 := by
  obtain ⟨hok, hn, h0⟩ := checkE_ok h
  have hc : ∀ i, i < n → unpL (packW n L) i = L i := unpL_pack hok
  unfold unpE
  rw [packW_one hn, if_neg (by omega), unpN_pack hn, checkE_congr _ L n (fun i hi => by rw [hc i hi]), if_neg (by rw [h]; decide), packW_congr n _ L hc, if_pos (eqB_refl _)]
theorem unpE_whole {F : Nat → Int} (h : unpE F = 0) : checkE (unpL F) (unpN F) = 0 ∧ ∀ i, i < 24 → F i = packW (unpN F) (unpL F) i := by
  unfold unpE at h
  split at h
  · omega
  · split at h
    · omega
    · rename_i hc
      split at h
      · rename_i he
        exact ⟨Classical.byContradiction fun hh => hc hh, fun i hi => ((eqB_iff _ _).1 he i hi).symm⟩
      · omega
theorem unpE_own {F : Nat → Int} (h : unpE F = 0) : F 0 = own0 F := by
  have hw := (unpE_whole h).2
  rw [hw 0 (by omega), packW_own]
  exact (own0_congr _ _ fun i _ hi => (hw i hi)).symm
/-- words that differ from a record's at one place are no whole record -/
theorem unpE_one {n : Nat} {L : Nat → Int × Int} {F : Nat → Int} {k : Nat} (h : checkE L n = 0) (hL : PutsU L n) (hF : ∀ i, i < 24 → U64 (F i)) (hk : k < 24) (he : ∀ i, i < 24 → i ≠ k → F i = packW n L i) (hne : F k ≠ packW n L k) : unpE F = 5 := by
  obtain ⟨hok, hn, h0⟩ := checkE_ok h
  rcases unpE_cases F with hu | hu
  · exfalso
    have ho := unpE_own hu
    by_cases hk0 : k = 0
    · subst hk0
      rw [own0_congr F (packW n L) (fun i h1 h2 => he i h2 (by omega)), ← packW_own] at ho
      exact hne ho
    · rw [he 0 (by omega) (by omega), packW_own] at ho
      exact hne (own0_one F (packW n L) k hF (fun i _ => packW_U hn hok hL i) (by omega) hk he ho.symm)
  · exact hu
theorem kind_pack {n : Nat} {L : Nat → Int × Int} (h : checkE L n = 0) (hL : PutsU L n) : kindE (packW n L) = 1 := by
  obtain ⟨hok, hn, h0⟩ := checkE_ok h
  unfold kindE
  rw [if_neg (packW_zero hn hok hL), if_pos (unpE_pack h)]
end Go.Proofs.Yteaedcjnfigigaa
