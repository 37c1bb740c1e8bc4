/- Touches: slices.IndexFunc, ContainsFunc, Equal, Clone; trace.Check; the document's Right, Check, Same. -/
import Derived.Test.YtmfbgkcphiomaaaTcA
import Derived.Test.YtmfbgkcphiomaaaOps
import Derived.Deep.LoopGhost
namespace Go.Proofs.Ytmfbgkcphiomaaa
open Go Go.RowKit Go.Shelf
attribute [local go_sem] Oper.semAt_some

/-- the first of which p holds -/
def idxT (p : Tch → Bool) : List Tch → Option Nat
  | [] => none
  | t :: r => if p t = true then some 0 else (idxT p r).map (· + 1)
theorem idxT_none {p : Tch → Bool} : ∀ {L : List Tch}, (∀ i, i < L.length → p (L.getD i tch0) = false) → idxT p L = none
  | [], _ => rfl
  | t :: r, h => by
    have h0 : p t = false := h 0 (by simp)
    unfold idxT
    rw [if_neg (by rw [h0]; simp), idxT_none (L := r) (fun i hi => h (i + 1) (by simpa using hi))]
    rfl
theorem idxT_some {p : Tch → Bool} : ∀ {L : List Tch} {i : Nat}, i < L.length → p (L.getD i tch0) = true → (∀ j, j < i → p (L.getD j tch0) = false) → idxT p L = some i
  | [], _, hi, _, _ => absurd hi (Nat.not_lt_zero _)
  | t :: r, 0, _, hp, _ => by
    unfold idxT
    rw [if_pos (show p t = true from hp)]
  | t :: r, i + 1, hi, hp, hn => by
    have h0 : p t = false := hn 0 (by omega)
    unfold idxT
    rw [if_neg (by rw [h0]; simp), idxT_some (L := r) (i := i) (by simpa using hi) hp (fun j hj => hn (j + 1) (by omega))]
    rfl
/-- as IndexFunc tells it -/
def idxV : Option Nat → Int
  | none => -1
  | some i => i
theorem any_getD {p : Tch → Bool} {L : List Tch} : L.any p = true ↔ ∃ i, i < L.length ∧ p (L.getD i tch0) = true := by
  rw [List.any_eq_true]
  constructor
  · rintro ⟨t, ht, hp⟩
    obtain ⟨i, hi, rfl⟩ := List.getElem_of_mem ht
    exact ⟨i, hi, by rw [List.getD_eq_getElem?_getD, List.getElem?_eq_getElem hi]; exact hp⟩
  · rintro ⟨i, hi, hp⟩
    refine ⟨L[i], List.getElem_mem hi, ?_⟩
    rw [List.getD_eq_getElem?_getD, List.getElem?_eq_getElem hi] at hp
    exact hp
theorem idxV_any {p : Tch → Bool} {L : List Tch} : decide (0 ≤ idxV (idxT p L)) = L.any p := by
  cases h : L.any p with
  | false =>
    rw [idxT_none (fun i hi => by
      cases hp : p (L.getD i tch0) with
      | false => rfl
      | true => rw [any_getD.2 ⟨i, hi, hp⟩] at h; cases h)]
    rfl
  | true =>
    cases hx : idxT p L with
    | some i => simp [idxV]
    | none =>
      obtain ⟨t, ht, hp⟩ := List.any_eq_true.1 h
      have : ∀ (M : List Tch), t ∈ M → idxT p M ≠ none := fun M => by
        induction M with
        | nil => intro hm; cases hm
        | cons x r ih =>
          intro hm hn
          unfold idxT at hn
          by_cases hx : p x = true
          · rw [if_pos hx] at hn; cases hn
          · rw [if_neg hx] at hn
            rcases List.mem_cons.1 hm with rfl | hm
            · exact hx hp
            · exact ih hm (by simpa using hn)
      exact absurd hx (this L ht)
theorem take_all {p : Tch → Bool} {L : List Tch} (h : ∀ i, i < L.length → p (L.getD i tch0) = true) : L.all p = true := by
  rw [List.all_eq_true]
  intro t ht
  obtain ⟨i, hi, rfl⟩ := List.getElem_of_mem ht
  have := h i hi
  rwa [List.getD_eq_getElem?_getD, List.getElem?_eq_getElem hi] at this
theorem all_false {p : Tch → Bool} {L : List Tch} {i : Nat} (hi : i < L.length) (h : p (L.getD i tch0) = false) : L.all p = false := by
  rw [Bool.eq_false_iff]
  intro ha
  have := List.all_eq_true.1 ha _ (List.getElem_mem hi)
  rw [List.getD_eq_getElem?_getD, List.getElem?_eq_getElem hi] at h
  rw [show p L[i] = false from h] at this
  cases this

set_option maxRecDepth 100000 in
set_option maxHeartbeats 1000000 in
theorem tc_index (f : Nat) (flb : Array Value) (p : Tch → Bool) (KS : World → Prop) (N : Nat) (ao : Option Addr) (cap : Nat) (L : List Tch) (w : World) (hp : TcAt w N ao L) (hn : L.length ≤ 9223372036854775807)
    (hKS : ∀ W W', KS W → Ext [] W W' → KS W') (h0 : KS w) (hcf : ∀ args w', (callFunc f args).run Try.prog w' = .ok (.enter f args) w')
    (hf : ∀ W, KS W → ∀ t : Tch, Calls Try.prog f (#[.agg #[.int .i64 t.kd, .int .i64 t.at', .int .u64 t.wd]] ++ flb) W fun e w' => e = .returned (.bool (p t)) ∧ Ext [] W w') :
    Calls Try.prog 50 #[.slice ao L.length cap, .func (.func f) #[] flb] w fun e w' => e = .returned (.int .i64 (idxV (idxT p L))) ∧ Ext [] w w' := by
  have HP := Lib.hid hp
  have HK := Lib.hid hKS
  have HF := Lib.hid hf
  have H0 := Lib.hid h0
  obtain ⟨n, hnl⟩ : ∃ n, L.length = n := ⟨_, rfl⟩
  have HN := Lib.hid hnl
  rw [hnl] at hn ⊢
  clear hp hKS hf h0 hnl
  go_enter Try.func50, Try.ntmps50
  go_wp2
  go_loopg [8] n (fun k i wr => ∃ j : Nat, i = .int .i64 j ∧ j + k = n ∧ Ext [] w wr ∧ ∀ i, i < j → p (L.getD i tch0) = false)
  case atStart => exact ⟨0, rfl, by omega, Ext.refl _ _, fun i hi => absurd hi (Nat.not_lt_zero _)⟩
  case round =>
    obtain ⟨j, rfl, hjk, hE, hno⟩ := hrel
    have HR := Lib.hid (And.intro hE hno)
    clear hE hno
    by_cases hlt : j < n
    · obtain ⟨b, off, rfl, c0, c1, c2⟩ := (HP.out.ext0 HR.out.1).cells (i := j) (by rw [HN.out]; exact hlt)
      have HC := Lib.hid (HF.out wr (HK.out _ _ H0.out HR.out.1) (L.getD j tch0))
      obtain ⟨q, hq⟩ : ∃ q, q = L.getD j tch0 := ⟨_, rfl⟩
      rw [← hq] at HC c0 c1 c2
      have HQ := Lib.hid hq
      clear hq
      cases hpq : p q with
      | false =>
        rw [hpq] at HC
        have HPQ := Lib.hid hpq
        clear hpq
        go_wp2_with fail
        refine HC.out.mono ?_
        rintro e W2 ⟨rfl, hE2⟩
        go_wp2
        go_roundg (n - (j + 1))
        case measure => omega
        case rel =>
          refine ⟨j + 1, by go_num, by omega, HR.out.1.trans hE2, fun i hi => ?_⟩
          rcases Nat.lt_succ_iff_lt_or_eq.1 hi with h | h
          · exact HR.out.2 i h
          · rw [h, ← HQ.out]; exact HPQ.out
      | true =>
        rw [hpq] at HC
        have HPQ := Lib.hid hpq
        clear hpq
        go_wp2_with fail
        refine HC.out.mono ?_
        rintro e W2 ⟨rfl, hE2⟩
        go_wp2
        go_ret
        exact ⟨by rw [idxT_some (by rw [HN.out]; exact hlt) (by rw [← HQ.out]; exact HPQ.out) HR.out.2]; rfl, HR.out.1.trans hE2⟩
    · have hge : n ≤ j := by omega
      go_wp2
      go_ret
      exact ⟨by rw [idxT_none (fun i hi => HR.out.2 i (by have := HN.out; omega))]; rfl, HR.out.1⟩

set_option maxRecDepth 100000 in
set_option maxHeartbeats 1000000 in
theorem tc_contains (f : Nat) (flb : Array Value) (p : Tch → Bool) (KS : World → Prop) (N : Nat) (ao : Option Addr) (cap : Nat) (L : List Tch) (w : World) (hp : TcAt w N ao L) (hn : L.length ≤ 9223372036854775807)
    (hKS : ∀ W W', KS W → Ext [] W W' → KS W') (h0 : KS w) (hcf : ∀ args w', (callFunc f args).run Try.prog w' = .ok (.enter f args) w')
    (hf : ∀ W, KS W → ∀ t : Tch, Calls Try.prog f (#[.agg #[.int .i64 t.kd, .int .i64 t.at', .int .u64 t.wd]] ++ flb) W fun e w' => e = .returned (.bool (p t)) ∧ Ext [] W w') :
    Calls Try.prog 37 #[.slice ao L.length cap, .func (.func f) #[] flb] w fun e w' => e = .returned (.bool (L.any p)) ∧ Ext [] w w' := by
  have H := Lib.hid (tc_index f flb p KS N ao cap L w hp hn hKS h0 hcf hf)
  have HA := Lib.hid (idxV_any (p := p) (L := L))
  generalize L.length = n at *
  clear hp hKS h0 hf
  generalize idxV (idxT p L) = v at *
  go_enter Try.func37, Try.ntmps37
  go_wp2_with fail
  refine H.out.mono ?_
  rintro e w' ⟨rfl, hE⟩
  go_wp2
  go_ret
  exact ⟨ret_bool HA.out.symm, hE⟩

set_option maxRecDepth 100000 in
set_option maxHeartbeats 400000 in
theorem tc_check1 (k a x : Int) (w : World) : Calls Try.prog 38 #[.agg #[.int .i64 k, .int .i64 a, .int .u64 x]] w fun e w' => e = .returned (.bool (!(Tch.right ⟨k, a, x⟩))) ∧ Ext [] w w' := by
  obtain ⟨w0, hw0⟩ : ∃ w0, w.alloc (.cells #[.int .i64 k, .int .i64 a, .int .u64 x] 45) = w0 := ⟨_, rfl⟩
  have hb0 : w0.heap[w.heap.size]? = some (.cells #[.int .i64 k, .int .i64 a, .int .u64 x] 45 (0, 0)) := by rw [← hw0]; exact World.alloc_heap_new _ _
  have H0 : Hid (Ext [] w w0) := by rw [← hw0]; exact (Ext.refl _ _).alloc _
  have k0 := cell_of (j := 0) (v := .int .i64 k) hb0 rfl
  have k1 := cell_of (j := 1) (v := .int .i64 a) hb0 rfl
  have k2 := cell_of (j := 2) (v := .int .u64 x) hb0 rfl
  clear hb0
  generalize hR : Tch.right ⟨k, a, x⟩ = r
  have HR := Lib.hid (tc_right k a x w0)
  rw [hR] at HR
  clear hR
  go_enter Try.func38, Try.ntmps38
  go_wp2_with fail
  refine HR.out.mono ?_
  rintro e w1 ⟨rfl, hE⟩
  go_wp2
  go_ret
  exact ⟨rfl, H0.out.trans hE⟩

theorem any_not_all (p : Tch → Bool) (L : List Tch) : (L.any fun t => !p t) = !L.all p := by
  induction L with
  | nil => rfl
  | cons x r ih => simp only [List.any_cons, List.all_cons, ih, Bool.not_and]

set_option maxRecDepth 100000 in
set_option maxHeartbeats 400000 in
theorem tc_Check (N : Nat) (ao : Option Addr) (cap : Nat) (L : List Tch) (w : World) (hp : TcAt w N ao L) (hn : L.length ≤ 9223372036854775807) :
    Calls Try.prog 22 #[.slice ao L.length cap] w fun e w' => e = .returned (.int .i64 (tcheck L)) ∧ Ext [] w w' := by
  have HC := Lib.hid (tc_contains 38 #[] (fun t => !t.right) (fun _ => True) N ao cap L w hp hn (fun _ _ _ _ => trivial) trivial (fun args w' => enters_of Try.func38 (by kernel_rfl) rfl args w') (fun W _ t => tc_check1 t.kd t.at' t.wd W))
  rw [any_not_all] at HC
  unfold tcheck
  generalize L.all Tch.right = r at *
  generalize L.length = n at *
  cases r with
  | false =>
    go_enter Try.func22, Try.ntmps22
    go_wp2_with fail
    refine wp_scope_ahead 0 rfl ?_
    go_wp2_with fail
    refine HC.out.mono ?_
    rintro e w1 ⟨rfl, hE⟩
    go_wp2
    go_step3
    refine ⟨rfl, ?_⟩
    go_wp2
    rw [Exit.noGoto_ret]
    go_ret
    exact ⟨rfl, hE⟩
  | true =>
    by_cases h : 4096 < n
    · have hd : decide ((4096 : Int) < (n : Int)) = true := by simp; omega
      rw [if_pos rfl, if_pos h]
      clear h
      go_enter Try.func22, Try.ntmps22
      go_wp2_with fail
      refine wp_scope_ahead 0 rfl ?_
      go_wp2_with fail
      refine HC.out.mono ?_
      rintro e w1 ⟨rfl, hE⟩
      go_wp2
      go_step3
      refine ⟨rfl, ?_⟩
      go_wp2
      rw [Exit.noGoto_ret]
      go_ret
      exact ⟨rfl, hE⟩
    · have hd : decide ((4096 : Int) < (n : Int)) = false := by simp; omega
      rw [if_pos rfl, if_neg h]
      clear h
      go_enter Try.func22, Try.ntmps22
      go_wp2_with fail
      refine wp_scope_ahead 0 rfl ?_
      go_wp2_with fail
      refine HC.out.mono ?_
      rintro e w1 ⟨rfl, hE⟩
      go_wp2
      simp only [Exit.jump]
      go_ret
      exact ⟨rfl, hE⟩
end Go.Proofs.Ytmfbgkcphiomaaa
