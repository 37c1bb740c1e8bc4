/- The sum's plain law: each step is one to one, in the word and in what came before. -/
import Derived.Test.YtjdojckemphadaaRcC
import Derived.Laws.Bits64
namespace Go.Proofs.Ytjdojckemphadaa
open Go

/-- a word -/
def U64 (x : Int) : Prop := 0 ≤ x ∧ x < 18446744073709551616
theorem mulP_back (a : Nat) (ha : a < 18446744073709551616) : (a * 1099511628211 % 18446744073709551616) * 14886173955864302971 % 18446744073709551616 = a := by
  rw [Nat.mul_mod, Nat.mod_mod, ← Nat.mul_mod, Nat.mul_assoc, Nat.mul_mod, show 1099511628211 * 14886173955864302971 % 18446744073709551616 = 1 from by decide, Nat.mul_one, Nat.mod_mod, Nat.mod_eq_of_lt ha]
theorem mulP_inj (a b : Nat) (ha : a < 18446744073709551616) (hb : b < 18446744073709551616) (h : a * 1099511628211 % 18446744073709551616 = b * 1099511628211 % 18446744073709551616) : a = b := by
  rw [← mulP_back a ha, h, mulP_back b hb]
theorem nat_xor_inj (a b c : Nat) (h : a ^^^ b = a ^^^ c) : b = c := by
  have : a ^^^ (a ^^^ b) = a ^^^ (a ^^^ c) := by rw [h]
  rwa [← Nat.xor_assoc, ← Nat.xor_assoc, Nat.xor_self, Nat.zero_xor, Nat.zero_xor] at this
theorem mix_nat (s x : Nat) (hs : s < 18446744073709551616) (hx : x < 18446744073709551616) : mix s x = (((s ^^^ x) * 1099511628211 % 18446744073709551616 : Nat) : Int) := by
  unfold mix
  rw [bits_xor_u64_nat s x hs hx, IntKind.wrap_u64]
  omega
theorem xor_lt (s x : Nat) (hs : s < 18446744073709551616) (hx : x < 18446744073709551616) : s ^^^ x < 18446744073709551616 := by
  have : s ^^^ x < 2 ^ 64 := Nat.xor_lt_two_pow (by omega) (by omega)
  omega
theorem mix_U (s x : Int) : U64 (mix s x) := by
  unfold mix U64
  rw [IntKind.wrap_u64]
  omega
theorem U64.nat {x : Int} (h : U64 x) : ∃ n : Nat, x = n ∧ n < 18446744073709551616 := ⟨x.toNat, by have := h.1; omega, by have := h.2; have := h.1; omega⟩
theorem mix_injR {s x y : Int} (hs : U64 s) (hx : U64 x) (hy : U64 y) (h : mix s x = mix s y) : x = y := by
  obtain ⟨s, rfl, ks⟩ := hs.nat
  obtain ⟨x, rfl, kx⟩ := hx.nat
  obtain ⟨y, rfl, ky⟩ := hy.nat
  rw [mix_nat s x ks kx, mix_nat s y ks ky] at h
  have := nat_xor_inj _ _ _ (mulP_inj _ _ (xor_lt s x ks kx) (xor_lt s y ks ky) (Int.ofNat_inj.1 h))
  rw [this]
theorem mix_injL {s t x : Int} (hs : U64 s) (ht : U64 t) (hx : U64 x) (h : mix s x = mix t x) : s = t := by
  obtain ⟨s, rfl, ks⟩ := hs.nat
  obtain ⟨x, rfl, kx⟩ := hx.nat
  obtain ⟨t, rfl, kt⟩ := ht.nat
  rw [mix_nat s x ks kx, mix_nat t x kt kx] at h
  have h2 := mulP_inj _ _ (xor_lt s x ks kx) (xor_lt t x kt kx) (Int.ofNat_inj.1 h)
  rw [Nat.xor_comm s x, Nat.xor_comm t x] at h2
  rw [nat_xor_inj _ _ _ h2]
theorem mixN_U {s : Int} (hs : U64 s) (xs : Nat → Int) (n : Nat) : U64 (mixN s xs n) := by
  cases n with
  | zero => exact hs
  | succ n => exact mix_U _ _
theorem mixN_congr (s : Int) (xs ys : Nat → Int) (n : Nat) (h : ∀ i, i < n → xs i = ys i) : mixN s xs n = mixN s ys n := by
  induction n with
  | zero => rfl
  | succ n ih => unfold mixN; rw [ih (fun i hi => h i (by omega)), h n (by omega)]
/-- of two rows of words which differ at one place at most and have one sum, that place holds one word -/
theorem mixN_one {s : Int} (hs : U64 s) (xs ys : Nat → Int) (n k : Nat) (hx : ∀ i, i < n → U64 (xs i)) (hy : ∀ i, i < n → U64 (ys i)) (hk : k < n) (he : ∀ i, i < n → i ≠ k → xs i = ys i) (h : mixN s xs n = mixN s ys n) : xs k = ys k := by
  induction n with
  | zero => omega
  | succ n ih =>
    unfold mixN at h
    by_cases hkn : k = n
    · subst hkn
      rw [mixN_congr s xs ys k (fun i hi => he i (by omega) (by omega))] at h
      exact mix_injR (mixN_U hs _ _) (hx k (by omega)) (hy k (by omega)) h
    · rw [he n (by omega) (by omega)] at h
      exact ih (fun i hi => hx i (by omega)) (fun i hi => hy i (by omega)) (by omega) (fun i hi => he i (by omega)) (mix_injL (mixN_U hs _ _) (mixN_U hs _ _) (hy n (by omega)) h)
theorem sum0_U : U64 sum0 := by unfold U64 sum0; omega
theorem own0_U (F : Nat → Int) : U64 (own0 F) := mixN_U sum0_U _ _
theorem own0_congr (F G : Nat → Int) (h : ∀ i, 1 ≤ i → i < 24 → F i = G i) : own0 F = own0 G := mixN_congr _ _ _ _ (fun i hi => h (i + 1) (by omega) (by omega))
theorem own0_one (F G : Nat → Int) (k : Nat) (hF : ∀ i, i < 24 → U64 (F i)) (hG : ∀ i, i < 24 → U64 (G i)) (h1 : 1 ≤ k) (h2 : k < 24) (he : ∀ i, i < 24 → i ≠ k → F i = G i) (h : own0 F = own0 G) : F k = G k := by
  have := mixN_one sum0_U (fun i => F (i + 1)) (fun i => G (i + 1)) 23 (k - 1) (fun i hi => hF _ (by omega)) (fun i hi => hG _ (by omega)) (by omega) (fun i hi hn => he _ (by omega) (by omega)) h
  rwa [show k - 1 + 1 = k from by omega] at this

/-- the puts are words -/
def PutsU (L : Nat → Int × Int) (n : Nat) : Prop := ∀ i, i < n → U64 (L i).2
theorem okN_at {L : Nat → Int × Int} {n : Nat} (h : okN L n = true) (j : Nat) (hj : j < n) : 0 ≤ (L j).1 ∧ (L j).1 < 8192 := by
  have h1 := okN_le h (j + 1) hj
  simp only [okN] at h1
  simp at h1
  omega
theorem checkE_ok {L : Nat → Int × Int} {n : Nat} (h : checkE L n = 0) : okN L n = true ∧ n ≤ 11 ∧ n ≠ 0 := by
  unfold checkE at h
  split at h
  · split at h
    · omega
    · split at h
      · omega
      · exact ⟨by assumption, by omega, by assumption⟩
  · omega
theorem checkE_cases (L : Nat → Int × Int) (n : Nat) : checkE L n = 0 ∨ checkE L n = 2 ∨ checkE L n = 3 ∨ checkE L n = 5 := by
  unfold checkE
  split
  · split
    · exact .inr (.inr (.inl rfl))
    · split
      · exact .inr (.inr (.inr rfl))
      · exact .inl rfl
  · exact .inr (.inl rfl)
theorem seenN_congr (L M : Nat → Int × Int) (n : Nat) (h : ∀ i, i < n → (L i).1 = (M i).1) (x : Int) : seenN L n x = seenN M n x := by
  induction n with
  | zero => rfl
  | succ n ih => unfold seenN; rw [ih (fun i hi => h i (by omega)), h n (by omega)]
theorem okN_congr (L M : Nat → Int × Int) (n : Nat) (h : ∀ i, i < n → (L i).1 = (M i).1) : okN L n = okN M n := by
  induction n with
  | zero => rfl
  | succ n ih => unfold okN; rw [ih (fun i hi => h i (by omega)), h n (by omega), seenN_congr L M n (fun i hi => h i (by omega))]
theorem checkE_congr (L M : Nat → Int × Int) (n : Nat) (h : ∀ i, i < n → (L i).1 = (M i).1) : checkE L n = checkE M n := by
  unfold checkE; rw [okN_congr L M n h]
theorem recF_congr (n : Nat) (L M : Nat → Int × Int) (h : ∀ i, i < n → L i = M i) : recF n L n = recF n M n := by
  funext i
  unfold recF
  by_cases h1 : i = 1
  · rw [if_pos h1, if_pos h1]
  · rw [if_neg h1, if_neg h1]
    by_cases h2 : 2 ≤ i ∧ i < 2 * n + 2
    · rw [if_pos h2, if_pos h2, h ((i - 2) / 2) (by omega)]
    · rw [if_neg h2, if_neg h2]
theorem packW_congr (n : Nat) (L M : Nat → Int × Int) (h : ∀ i, i < n → L i = M i) : packW n L = packW n M := by
  have : recG n L = recG n M := by funext i; unfold recG; rw [recF_congr n L M h]
  funext i
  unfold packW
  rw [this]
theorem recF_U {n : Nat} {L : Nat → Int × Int} (hn : n ≤ 11) (hok : okN L n = true) (hL : PutsU L n) (i : Nat) : U64 (recF n L n i) := by
  unfold recF
  by_cases h1 : i = 1
  · rw [if_pos h1]; unfold U64; omega
  · rw [if_neg h1]
    by_cases h2 : 2 ≤ i ∧ i < 2 * n + 2
    · rw [if_pos h2]
      split
      · have := okN_at hok ((i - 2) / 2) (by omega); unfold U64; omega
      · exact hL _ (by omega)
    · rw [if_neg h2]; unfold U64; omega
theorem recG_one (n : Nat) (L : Nat → Int × Int) : recG n L 1 = n ∨ recG n L 1 = n + 16 := by
  unfold recG
  split
  · exact .inr (by simp)
  · exact .inl (by simp [recF])
theorem recG_ne (n : Nat) (L : Nat → Int × Int) (i : Nat) (h : i ≠ 1) : recG n L i = recF n L n i := by
  unfold recG
  by_cases h0 : own0 (recF n L n) = 0
  · rw [if_pos h0, if_neg h]
  · rw [if_neg h0]
theorem recG_U {n : Nat} {L : Nat → Int × Int} (hn : n ≤ 11) (hok : okN L n = true) (hL : PutsU L n) (i : Nat) : U64 (recG n L i) := by
  by_cases h : i = 1
  · subst h; rcases recG_one n L with h | h <;> rw [h] <;> unfold U64 <;> omega
  · rw [recG_ne n L i h]; exact recF_U hn hok hL i
theorem packW_ne (n : Nat) (L : Nat → Int × Int) (i : Nat) (h : i ≠ 0) : packW n L i = recG n L i := if_neg h
theorem packW_0 (n : Nat) (L : Nat → Int × Int) : packW n L 0 = own0 (recG n L) := if_pos rfl
theorem packW_own (n : Nat) (L : Nat → Int × Int) : packW n L 0 = own0 (packW n L) := by
  rw [own0_congr (packW n L) (recG n L) (fun i h1 _ => packW_ne n L i (by omega))]
  exact packW_0 n L
theorem packW_U {n : Nat} {L : Nat → Int × Int} (hn : n ≤ 11) (hok : okN L n = true) (hL : PutsU L n) (i : Nat) : U64 (packW n L i) := by
  unfold packW
  split
  · exact own0_U _
  · exact recG_U hn hok hL i
theorem packW_one {n : Nat} {L : Nat → Int × Int} (hn : n ≤ 11) : packW n L 1 % 16 = n := by
  rw [packW_ne n L 1 (by omega)]
  rcases recG_one n L with h | h <;> rw [h] <;> omega
theorem recF_at {n j : Nat} {L : Nat → Int × Int} (i : Nat) (hi : i < j) : recF n L j (2 * i + 2) = (L i).1 ∧ recF n L j (2 * i + 3) = (L i).2 := by
  unfold recF
  rw [if_neg (show ¬ 2 * i + 2 = 1 by omega), if_neg (show ¬ 2 * i + 3 = 1 by omega), if_pos (show 2 ≤ 2 * i + 2 ∧ 2 * i + 2 < 2 * j + 2 by omega), if_pos (show 2 ≤ 2 * i + 3 ∧ 2 * i + 3 < 2 * j + 2 by omega), if_pos (show (2 * i + 2) % 2 = 0 by omega), if_neg (show ¬ (2 * i + 3) % 2 = 0 by omega), show (2 * i + 2 - 2) / 2 = i from by omega, show (2 * i + 3 - 2) / 2 = i from by omega]
  exact ⟨rfl, rfl⟩
/-- the sum of a record is never 0 -/
theorem packW_zero {n : Nat} {L : Nat → Int × Int} (hn : n ≤ 11) (hok : okN L n = true) (hL : PutsU L n) : packW n L 0 ≠ 0 := by
  rw [packW_0]
  by_cases h : own0 (recF n L n) = 0
  · intro h2
    have := own0_one (recG n L) (recF n L n) 1 (fun i _ => recG_U hn hok hL i) (fun i _ => recF_U hn hok hL i) (by omega) (by omega) (fun i _ hi => recG_ne n L i hi) (by rw [h, h2])
    have h3 : recG n L 1 = n + 16 := by unfold recG; rw [if_pos h, if_pos rfl]
    have h4 : recF n L n 1 = n := by unfold recF; rw [if_pos rfl]
    omega
  · rw [show recG n L = recF n L n from by funext i; unfold recG; rw [if_neg h]]
    exact h
theorem packW_put {n : Nat} {L : Nat → Int × Int} (j : Nat) (hj : j < n) : packW n L (2 * j + 2) = (L j).1 ∧ packW n L (2 * j + 3) = (L j).2 := by
  rw [packW_ne _ _ _ (by omega), packW_ne _ _ _ (by omega), recG_ne _ _ _ (by omega), recG_ne _ _ _ (by omega)]
  exact recF_at j hj
end Go.Proofs.Ytjdojckemphadaa
