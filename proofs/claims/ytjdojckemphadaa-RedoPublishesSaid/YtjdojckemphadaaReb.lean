/- IndexFunc at touches; redo.Sealed, and the document's. -/
import Derived.Test.YtjdojckemphadaaRea
namespace Go.Proofs.Ytjdojckemphadaa
open Go Go.RowKit Go.Shelf
attribute [local go_sem] Oper.semAt_some

/-- the first of which p holds -/
def idxT (p : Tch → Bool) : List Tch → Option Nat
  | [] => none
  | t :: r => if p t = true then some 0 else (idxT p r).map (· + 1)
theorem idxT_none {p : Tch → Bool} : ∀ {L : List Tch}, (∀ i, i < L.length → p (L.getD i tch0) = false) → idxT p L = none
  | [], _ => rfl
  | t :: r, h => by
    have h0 : p t = false := h 0 (by simp)
    unfold idxT
    rw [if_neg (by rw [h0]; simp), idxT_none (L := r) (fun i hi => h (i + 1) (by simpa using hi))]
    rfl
theorem idxT_some {p : Tch → Bool} : ∀ {L : List Tch} {i : Nat}, i < L.length → p (L.getD i tch0) = true → (∀ j, j < i → p (L.getD j tch0) = false) → idxT p L = some i
  | [], _, hi, _, _ => absurd hi (Nat.not_lt_zero _)
  | t :: r, 0, _, hp, _ => by
    unfold idxT
    rw [if_pos (show p t = true from hp)]
  | t :: r, i + 1, hi, hp, hn => by
    have h0 : p t = false := hn 0 (by omega)
    unfold idxT
    rw [if_neg (by rw [h0]; simp), idxT_some (L := r) (i := i) (by simpa using hi) hp (fun j hj => hn (j + 1) (by omega))]
    rfl
/-- as IndexFunc tells it -/
def idxV : Option Nat → Int
  | none => -1
  | some i => i
set_option maxRecDepth 100000 in
set_option maxHeartbeats 1000000 in
theorem tc_index (f : Nat) (flb : Array Value) (p : Tch → Bool) (KS : World → Prop) (N : Nat) (ao : Option Addr) (cap : Nat) (L : List Tch) (w : World) (hp : TcAt w N ao L) (hn : L.length ≤ 9223372036854775807)
    (hKS : ∀ W W', KS W → Ext [] W W' → KS W') (h0 : KS w) (hcf : ∀ args w', (callFunc f args).run Try.prog w' = .ok (.enter f args) w')
    (hf : ∀ W, KS W → ∀ t : Tch, Calls Try.prog f (#[.agg #[.int .i64 t.kd, .int .i64 t.at', .int .u64 t.wd]] ++ flb) W fun e w' => e = .returned (.bool (p t)) ∧ Ext [] W w') :
    Calls Try.prog 31 #[.slice ao L.length cap, .func (.func f) #[] flb] w fun e w' => e = .returned (.int .i64 (idxV (idxT p L))) ∧ Ext [] w w' := by
  have HP := Lib.hid hp
  have HK := Lib.hid hKS
  have HF := Lib.hid hf
  have H0 := Lib.hid h0
  obtain ⟨n, hnl⟩ : ∃ n, L.length = n := ⟨_, rfl⟩
  have HN := Lib.hid hnl
  rw [hnl] at hn ⊢
  clear hp hKS hf h0 hnl
  go_enter Try.func31, Try.ntmps31
  go_wp2
  go_loopg [8] n (fun k i wr => ∃ j : Nat, i = .int .i64 j ∧ j + k = n ∧ Ext [] w wr ∧ ∀ i, i < j → p (L.getD i tch0) = false)
  case atStart => exact ⟨0, rfl, by omega, Ext.refl _ _, fun i hi => absurd hi (Nat.not_lt_zero _)⟩
  case round =>
    obtain ⟨j, rfl, hjk, hE, hno⟩ := hrel
    have HR := Lib.hid (And.intro hE hno)
    clear hE hno
    by_cases hlt : j < n
    · obtain ⟨b, off, rfl, c0, c1, c2⟩ := (HP.out.ext0 HR.out.1).cells (i := j) (by rw [HN.out]; exact hlt)
      have HC := Lib.hid (HF.out wr (HK.out _ _ H0.out HR.out.1) (L.getD j tch0))
      obtain ⟨q, hq⟩ : ∃ q, q = L.getD j tch0 := ⟨_, rfl⟩
      rw [← hq] at HC c0 c1 c2
      have HQ := Lib.hid hq
      clear hq
      cases hpq : p q with
      | false =>
        rw [hpq] at HC
        have HPQ := Lib.hid hpq
        clear hpq
        go_wp2_with fail
        refine HC.out.mono ?_
        rintro e W2 ⟨rfl, hE2⟩
        go_wp2
        go_roundg (n - (j + 1))
        case measure => omega
        case rel =>
          refine ⟨j + 1, by go_num, by omega, HR.out.1.trans hE2, fun i hi => ?_⟩
          rcases Nat.lt_succ_iff_lt_or_eq.1 hi with h | h
          · exact HR.out.2 i h
          · rw [h, ← HQ.out]; exact HPQ.out
      | true =>
        rw [hpq] at HC
        have HPQ := Lib.hid hpq
        clear hpq
        go_wp2_with fail
        refine HC.out.mono ?_
        rintro e W2 ⟨rfl, hE2⟩
        go_wp2
        go_ret
        exact ⟨by rw [idxT_some (by rw [HN.out]; exact hlt) (by rw [← HQ.out]; exact HPQ.out) HR.out.2]; rfl, HR.out.1.trans hE2⟩
    · have hge : n ≤ j := by omega
      go_wp2
      go_ret
      exact ⟨by rw [idxT_none (fun i hi => HR.out.2 i (by have := HN.out; omega))]; rfl, HR.out.1⟩


/-- is it the touch that seals? -/
def sealP (j : Int) (t : Tch) : Bool := jOk j && (t.kd == 2) && (t.at' == 8 * j) && (t.wd != 0)
theorem rd_at0 (j : Int) (w : World) (h0 : 0 ≤ j ∧ j ≤ 1024) : Calls Try.prog 30 #[.int .i64 j, .int .i64 0] w fun e w' => e = .returned (.int .i64 (8 * j)) ∧ w' = w :=
  (rd_at j 0 w h0 (by omega)).mono (fun _ _ h => ⟨by rw [h.1, Int.add_zero], h.2.symm⟩)
theorem rd_right' (j : Int) (w : World) : Calls Try.prog 13 #[.int .i64 j] w fun e w' => e = .returned (.bool (jOk j)) ∧ w' = w :=
  (rd_right j w).mono (fun _ _ h => ⟨h.1, h.2.symm⟩)
set_option maxRecDepth 100000 in
set_option maxHeartbeats 4000000 in
theorem rd_seal (j : Int) (jb : Nat) (t : Tch) (W : World) (hb : W.heap[jb]? = some (.cells #[.int .i64 j] 47 (0, 0))) :
    Calls Try.prog 29 (#[.agg #[.int .i64 t.kd, .int .i64 t.at', .int .u64 t.wd]] ++ #[.pointer (some ⟨jb, 0, none⟩)]) W fun e w' => e = .returned (.bool (sealP j t)) ∧ Ext [] W w' := by
  obtain ⟨k, a, x⟩ := t
  unfold sealP
  dsimp only
  obtain ⟨w0, hw0⟩ : ∃ w0, W.alloc (.cells #[.int .i64 k, .int .i64 a, .int .u64 x] 44) = w0 := ⟨_, rfl⟩
  have hb0 : w0.heap[W.heap.size]? = some (.cells #[.int .i64 k, .int .i64 a, .int .u64 x] 44 (0, 0)) := by rw [← hw0]; exact World.alloc_heap_new _ _
  have hE0 : Ext [] W w0 := by rw [← hw0]; exact (Ext.refl _ _).alloc _
  have H0 := Lib.hid hE0
  have k0 := cell_of (j := 0) (v := .int .i64 k) hb0 rfl
  have k1 := cell_of (j := 1) (v := .int .i64 a) hb0 rfl
  have k2 := cell_of (j := 2) (v := .int .u64 x) hb0 rfl
  have k3 := cell_of (j := 0) (v := .int .i64 j) (hE0.at hb (by simp)) rfl
  have HR := Lib.hid (rd_right' j)
  obtain ⟨B, hB⟩ : ∃ B, (k == 2) = B := ⟨_, rfl⟩
  obtain ⟨C, hC⟩ : ∃ C, (a == 8 * j) = C := ⟨_, rfl⟩
  obtain ⟨D, hD⟩ : ∃ D, (x != 0) = D := ⟨_, rfl⟩
  rw [hB, hC, hD]
  clear hb0 hE0 hb
  simp only [List.append_toArray, List.cons_append, List.nil_append]
  cases hj : jOk j with
  | false =>
    rw [hj] at HR
    clear hj
    go_enter Try.func29, Try.ntmps29
    go_wp2
    try rw [hw0]
    go_quiet ((go_at_call 13; exact Calls.quiet_of_same (HR.out _)))
    go_wp2
    go_ret
    exact ⟨rfl, H0.out.drewN _⟩
  | true =>
    have HA := Lib.hid (fun w => rd_at0 j w (by unfold jOk at hj; simp at hj; omega))
    rw [hj] at HR
    clear hj
    cases B <;> cases C <;> cases D
    all_goals
      go_enter Try.func29, Try.ntmps29
      go_wp2
      try rw [hw0]
      go_quiet (first | (go_at_call 13; exact Calls.quiet_of_same (HR.out _)) | (go_at_call 30; exact Calls.quiet_of_same (HA.out _)))
      go_wp2
      go_ret
      exact ⟨rfl, H0.out.drewN _⟩
set_option maxRecDepth 100000 in
set_option maxHeartbeats 2000000 in
theorem rd_Sealed (j : Int) (N : Nat) (ao : Option Addr) (n cap : Nat) (L : List Tch) (w : World) (hp : TcAt w N ao L) (hl : L.length = n) (hn : n ≤ 9223372036854775807) :
    Calls Try.prog 8 #[.int .i64 j, .slice ao n cap] w fun e w' => e = .returned (.tuple #[.int .i64 (max 0 (idxV (idxT (sealP j) L))), .bool (decide (0 ≤ idxV (idxT (sealP j) L)))]) ∧ Ext [] w w' := by
  subst hl
  obtain ⟨W1, hW1⟩ : ∃ W1, w.alloc (.cells #[.int .i64 j] 47) = W1 := ⟨_, rfl⟩
  have hb1 : W1.heap[w.heap.size]? = some (.cells #[.int .i64 j] 47 (0, 0)) := by rw [← hW1]; exact World.alloc_heap_new _ _
  have hE1 : Ext [] w W1 := by rw [← hW1]; exact (Ext.refl _ _).alloc _
  obtain ⟨jb, hjb⟩ : ∃ jb, w.heap.size = jb := ⟨_, rfl⟩
  rw [hjb] at hb1
  have HI := Lib.hid (tc_index 29 #[.pointer (some ⟨jb, 0, none⟩)] (sealP j) (fun W => W.heap[jb]? = some (.cells #[.int .i64 j] 47 (0, 0))) N ao cap L W1 (hp.ext0 hE1) hn (fun W W' h hE => hE.at h (by simp)) hb1 (fun args w' => enters_of Try.func29 (by kernel_rfl) rfl args w') (fun W h t => rd_seal j jb t W h))
  obtain ⟨v, hv⟩ : ∃ v, idxV (idxT (sealP j) L) = v := ⟨_, rfl⟩
  rw [hv] at HI ⊢
  have HE := Lib.hid hE1
  have hcf := enters_of Try.func29 (by kernel_rfl) rfl
  clear hp hb1 hE1 hv hn
  obtain ⟨n, hnl⟩ : ∃ n, L.length = n := ⟨_, rfl⟩
  rw [hnl] at HI ⊢
  clear hnl
  go_enter Try.func8, Try.ntmps8
  go_wp2_with fail
  try rw [hW1]
  try rw [hjb]
  clear hW1 hjb
  refine HI.out.mono ?_
  rintro e w2 ⟨rfl, hE2⟩
  have HE2 := Lib.hid (HE.out.trans hE2)
  clear hE2
  go_wp2
  go_ret2
  exact ⟨rfl, HE2.out⟩

set_option maxRecDepth 100000 in
set_option maxHeartbeats 2000000 in
theorem rf_Sealed (j : Int) (N : Nat) (ao : Option Addr) (n cap : Nat) (L : List Tch) (w : World) (hp : TcAt w N ao L) (hl : L.length = n) (hn : n ≤ 9223372036854775807) :
    Calls Try.prog 9 #[.int .i64 j, .slice ao n cap] w fun e w' => e = .returned (.int .i64 (idxV (idxT (sealP j) L))) ∧ w' = w := by
  have HP := Lib.hid (And.intro hp hl)
  have HR := Lib.hid (fun w => rf_Journal j w)
  have hn18 : (n : Int) ≤ 9223372036854775807 := by omega
  clear hp hl hn
  cases hj : jOk j with
  | false =>
    have hno : idxT (sealP j) L = none := idxT_none (fun i _ => by unfold sealP; rw [hj]; rfl)
    rw [hno]
    rw [hj] at HR
    clear hno hj
    go_enter Try.func9, Try.ntmps9
    go_wp2
    go_loopg [5] 1 (fun _ i wr => i = .int .i64 0 ∧ wr = w)
    case atStart => exact ⟨rfl, rfl⟩
    case round =>
      obtain ⟨rfl, rfl⟩ := hrel
      by_cases hlt : 0 < n
      · have h0 : (0 : Int) < (n : Int) := by omega
        clear hlt
        go_wp2_with fail
        refine (HR.out _).mono ?_
        rintro e w' ⟨rfl, rfl⟩
        go_wp2
        go_ret
        exact ⟨rfl, rfl⟩
      · have h0 : ¬ ((0 : Int) < (n : Int)) := by omega
        clear hlt
        go_wp2
        go_ret
        exact ⟨rfl, rfl⟩
  | true =>
    rw [hj] at HR
    have hjj : 0 ≤ j ∧ j ≤ 1021 := by unfold jOk at hj; simpa using hj
    have hw8 : wrap64 (8 * j) = 8 * j := IntWalk.wrap64_in _ (by omega)
    have HJ := Lib.hid (And.intro hj hjj)
    clear hj hjj
    go_enter Try.func9, Try.ntmps9
    go_wp2
    go_loopg [5] n (fun cnt i wr => ∃ k : Nat, i = .int .i64 k ∧ k + cnt = n ∧ wr = w ∧ ∀ t, t < k → sealP j (L.getD t tch0) = false)
    case atStart => exact ⟨0, rfl, by omega, rfl, fun t ht => by omega⟩
    case round =>
      obtain ⟨k, rfl, hk, rfl, hno⟩ := hrel
      by_cases hlt : k < n
      · obtain ⟨b, off, rfl, c0, c1, c2⟩ := HP.out.1.cells (i := k) (by rw [HP.out.2]; exact hlt)
        obtain ⟨t, ht⟩ : ∃ t, L.getD k tch0 = t := ⟨_, rfl⟩
        rw [ht] at c0 c1 c2
        have hs : sealP j t = ((t.kd == 2) && (t.at' == 8 * j) && (t.wd != 0)) := by unfold sealP; rw [HJ.out.1, Bool.true_and]
        obtain ⟨B, hB⟩ : ∃ B, (t.kd == 2) = B := ⟨_, rfl⟩
        obtain ⟨C, hC⟩ : ∃ C, (t.at' == 8 * j) = C := ⟨_, rfl⟩
        obtain ⟨D, hD⟩ : ∃ D, (t.wd != 0) = D := ⟨_, rfl⟩
        rw [hB, hC, hD] at hs
        have hk0 : (0 : Int) ≤ (k : Int) := by omega
        have hk1 : (k : Int) < (n : Int) := by omega
        have hwj : wrap64 ((k : Int) + 1) = (k : Int) + 1 := IntWalk.wrap64_in _ (by clear hw8; omega)
        have HK := Lib.hid (And.intro hk (And.intro hlt (And.intro hno ht)))
        clear hk hlt hno ht
        cases B <;> cases C <;> cases D
        all_goals
          have HS := Lib.hid hs
          clear hs
          go_wp2_with fail
          refine (HR.out _).mono ?_
          rintro e w' ⟨rfl, rfl⟩
          go_wp2
          first
          | (go_ret
             exact ⟨by rw [idxT_some (by rw [HP.out.2]; exact HK.out.2.1) (by rw [HK.out.2.2.2]; exact HS.out) HK.out.2.2.1]; rfl, rfl⟩)
          | (go_roundg (n - (k + 1))
             case measure => have := HK.out.1; have := HK.out.2.1; clear hwj hw8; omega
             case rel =>
               refine ⟨k + 1, by first | (rw [hwj]; rfl) | rfl, by have := HK.out.1; have := HK.out.2.1; clear hwj hw8; omega, rfl, fun u hu => ?_⟩
               rcases Nat.lt_succ_iff_lt_or_eq.1 hu with h | h
               · exact HK.out.2.2.1 u h
               · rw [h, HK.out.2.2.2]; exact HS.out)
      · have hjn : ¬ ((k : Int) < (n : Int)) := by omega
        obtain rfl : k = n := by omega
        have HN : Hid (idxT (sealP j) L = none) := idxT_none (fun i hi => hno i (by rw [HP.out.2] at hi; exact hi))
        clear hno hk hlt hn18
        go_wp2
        go_ret
        exact ⟨by rw [HN.out]; rfl, rfl⟩
end Go.Proofs.Ytjdojckemphadaa
