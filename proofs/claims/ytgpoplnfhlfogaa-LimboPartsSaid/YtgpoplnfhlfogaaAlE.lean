/- Package alloc: New, has, and the library's functions that turn asks. -/
import Derived.Test.YtgpoplnfhlfogaaAlC
import Derived.Test.YtgpoplnfhlfogaaActs
import Derived.Test.YtgpoplnfhlfogaaOpm
import Derived.Deep.LoopGhost
import Derived.Shelf.SlMaps.Clone
namespace Go.Proofs.Ytgpoplnfhlfogaa
open Go Go.RowKit Go.Shelf

def lst (L : Nat → Int) (n : Nat) : List Int := (List.range n).map L
theorem lst_succ (L : Nat → Int) (n : Nat) : lst L (n + 1) = lst L n ++ [L n] := by simp [lst, List.range_succ]
theorem lst_len (L : Nat → Int) (n : Nat) : (lst L n).length = n := by simp [lst]
theorem mem_lst (L : Nat → Int) (n : Nat) (k : Int) : k ∈ lst L n ↔ ∃ i, i < n ∧ L i = k := by simp [lst]

def hasB (lo hi k : Int) : Bool := decide (lo ≤ k) && decide (k ≤ hi)
set_option maxHeartbeats 400000 in
theorem al_has (lo hi k : Int) (w : World) :
    Calls Try.prog 81 #[.agg #[.int .i64 lo, .int .i64 hi], .int .i64 k] w fun e w' => e = .returned (.bool (hasB lo hi k)) ∧ Ext [] w w' := by
  by_cases h1 : lo ≤ k
  · by_cases h2 : k ≤ hi
    · have HR : Hid (hasB lo hi k = true) := by unfold Hid hasB; simp [h1, h2]
      go_enter Try.func81, Try.ntmps81
      go_wp2
      go_ret
      exact ⟨ret_bool HR.out, (Ext.refl _ _).alloc _⟩
    · have HR : Hid (hasB lo hi k = false) := by unfold Hid hasB; simp [h2]
      go_enter Try.func81, Try.ntmps81
      go_wp2
      go_ret
      exact ⟨ret_bool HR.out, (Ext.refl _ _).alloc _⟩
  · have HR : Hid (hasB lo hi k = false) := by unfold Hid hasB; simp [h1]
    go_enter Try.func81, Try.ntmps81
    go_wp2
    go_ret
    exact ⟨ret_bool HR.out, (Ext.refl _ _).alloc _⟩

set_option maxRecDepth 100000 in
set_option maxHeartbeats 1000000 in
theorem al_turn1 (bp c mb : Nat) (lo hi : Int) (S : Lns) (k : Int) (w : World) (hp : w.cell? ⟨bp, 0, none⟩ = some (.pointer (some ⟨c, 0, none⟩))) (h : Pool w c mb lo hi S) :
    Calls Try.prog 108 #[.int .i64 k, .pointer (some ⟨bp, 0, none⟩)] w fun e w' => e = .returned (.bool (!hasB lo hi k)) ∧ Ext [] w w' := by
  have k2 := cell_of (j := 0) (v := .int .i64 lo) h.1 rfl
  have k3 := cell_of (j := 1) (v := .int .i64 hi) h.1 rfl
  have HT := Lib.hid (fun W => al_has lo hi k W)
  clear h
  generalize hasB lo hi k = t at *
  go_enter Try.func108, Try.ntmps108
  go_wp2_with fail
  refine (HT.out _).mono ?_
  rintro e w' ⟨rfl, hE⟩
  go_wp2
  go_ret
  exact ⟨rfl, hE⟩

def IdxPost (p : Int → Bool) (L : Nat → Int) (n : Nat) (w : World) (e : Ending) (w' : World) : Prop :=
  Ext [] w w' ∧ ∃ r : Int, e = .returned (.int .i64 r) ∧ ((r = -1 ∧ ∀ i, i < n → p (L i) = false) ∨ (0 ≤ r ∧ ∃ i, i < n ∧ p (L i) = true))
set_option maxRecDepth 100000 in
set_option maxHeartbeats 1000000 in
theorem sl_index (f : Nat) (flb : Array Value) (p : Int → Bool) (KS : World → Prop) (ao : Option Addr) (n cap : Nat) (L : Nat → Int) (w : World) (hp : IntsB w ao n L) (hn : n ≤ 9223372036854775807)
    (hKS : ∀ W W', KS W → Ext [] W W' → KS W') (h0 : KS w) (hcf : ∀ args w', (callFunc f args).run Try.prog w' = .ok (.enter f args) w')
    (hf : ∀ W, KS W → ∀ k, Calls Try.prog f (#[.int .i64 k] ++ flb) W fun e w' => e = .returned (.bool (p k)) ∧ Ext [] W w') :
    Calls Try.prog 116 #[.slice ao n cap, .func (.func f) #[] flb] w (IdxPost p L n w) := by
  have HP := Lib.hid hp
  have HK := Lib.hid hKS
  have HF := Lib.hid hf
  have H0 := Lib.hid h0
  clear hp hKS hf h0
  go_enter Try.func116, Try.ntmps116
  go_wp2
  go_loopg [8] n (fun k i wr => ∃ j : Nat, i = .int .i64 j ∧ j + k = n ∧ Ext [] w wr ∧ ∀ i, i < j → p (L i) = false)
  case atStart => exact ⟨0, rfl, by omega, Ext.refl _ _, fun i hi => absurd hi (Nat.not_lt_zero _)⟩
  case round =>
    obtain ⟨j, rfl, hjk, hE, hno⟩ := hrel
    have HR := Lib.hid (And.intro hE hno)
    clear hE hno
    by_cases hlt : j < n
    · obtain ⟨b, off, rfl, hcell⟩ : ∃ b off, ao = some ⟨b, off, none⟩ ∧ wr.cell? ⟨b, off + j, none⟩ = some (.int .i64 (L j)) := by
        rcases HP.out.ext HR.out.1 with h | ⟨b, off, h1, h2⟩
        · omega
        · exact ⟨b, off, h1, h2 j hlt⟩
      have HC := Lib.hid (HF.out wr (HK.out _ _ H0.out HR.out.1) (L j))
      obtain ⟨q, hq⟩ : ∃ q, q = L j := ⟨_, rfl⟩
      rw [← hq] at HC hcell
      have HQ := Lib.hid hq
      clear hq
      cases hpq : p q with
      | false =>
        rw [hpq] at HC
        have HPQ := Lib.hid hpq
        clear hpq
        go_wp2_with fail
        refine HC.out.mono ?_
        rintro e W2 ⟨rfl, hE2⟩
        go_wp2
        go_roundg (n - (j + 1))
        case measure => omega
        case rel =>
          refine ⟨j + 1, by go_num, by omega, HR.out.1.trans hE2, fun i hi => ?_⟩
          rcases Nat.lt_succ_iff_lt_or_eq.1 hi with h | h
          · exact HR.out.2 i h
          · rw [h, ← HQ.out]; exact HPQ.out
      | true =>
        rw [hpq] at HC
        have HPQ := Lib.hid hpq
        clear hpq
        go_wp2_with fail
        refine HC.out.mono ?_
        rintro e W2 ⟨rfl, hE2⟩
        go_wp2
        go_ret
        exact ⟨HR.out.1.trans hE2, j, rfl, .inr ⟨by omega, j, hlt, by rw [← HQ.out]; exact HPQ.out⟩⟩
    · have hge : n ≤ j := by omega
      go_wp2
      go_ret
      exact ⟨HR.out.1, -1, rfl, .inl ⟨rfl, fun i hi => HR.out.2 i (by omega)⟩⟩

def anyB (p : Int → Bool) (L : Nat → Int) (n : Nat) : Bool := (lst L n).any p
theorem anyB_true {p : Int → Bool} {L : Nat → Int} {n : Nat} : anyB p L n = true ↔ ∃ i, i < n ∧ p (L i) = true := by
  unfold anyB
  rw [List.any_eq_true]
  constructor
  · rintro ⟨x, hx, h⟩
    obtain ⟨i, hi, rfl⟩ := (mem_lst L n x).1 hx
    exact ⟨i, hi, h⟩
  · rintro ⟨i, hi, h⟩
    exact ⟨_, (mem_lst L n _).2 ⟨i, hi, rfl⟩, h⟩
set_option maxRecDepth 100000 in
set_option maxHeartbeats 1000000 in
theorem sl_has (f : Nat) (flb : Array Value) (p : Int → Bool) (KS : World → Prop) (ao : Option Addr) (n cap : Nat) (L : Nat → Int) (w : World) (hp : IntsB w ao n L) (hn : n ≤ 9223372036854775807)
    (hKS : ∀ W W', KS W → Ext [] W W' → KS W') (h0 : KS w) (hcf : ∀ args w', (callFunc f args).run Try.prog w' = .ok (.enter f args) w')
    (hf : ∀ W, KS W → ∀ k, Calls Try.prog f (#[.int .i64 k] ++ flb) W fun e w' => e = .returned (.bool (p k)) ∧ Ext [] W w') :
    Calls Try.prog 107 #[.slice ao n cap, .func (.func f) #[] flb] w fun e w' => e = .returned (.bool (anyB p L n)) ∧ Ext [] w w' := by
  have H := Lib.hid (sl_index f flb p KS ao n cap L w hp hn hKS h0 hcf hf)
  clear hp hKS h0 hf
  go_enter Try.func107, Try.ntmps107
  go_wp2_with fail
  refine H.out.mono ?_
  rintro e w' ⟨hE, r, rfl, (⟨rfl, hno⟩ | ⟨hr, hyes⟩)⟩
  · have HB : Hid (anyB p L n = false) := by
      unfold Hid
      cases h : anyB p L n with
      | false => rfl
      | true => obtain ⟨i, hi, h2⟩ := anyB_true.1 h; rw [hno i hi] at h2; cases h2
    clear hno
    go_wp2
    go_ret
    exact ⟨ret_bool HB.out, hE⟩
  · have HB := Lib.hid (anyB_true.2 hyes)
    clear hyes
    go_wp2
    go_ret
    exact ⟨ret_bool HB.out, hE⟩

set_option maxRecDepth 100000 in
set_option maxHeartbeats 1000000 in
theorem mp_clone (mb : Nat) (l : Ents) (w : World) (h : IMap w mb l) :
    Calls Try.prog 75 #[.map (some mb)] w fun e w' => e = .returned (.map (some w.heap.size)) ∧ Ext [] w w' ∧ w'.heap.size = w.heap.size + 1 ∧ IMap w' w.heap.size l := by
  have hq := fun w => run_eql_map_nil_sl (P := Try.prog) w 63 _ _ (some mb) Try.underlying63
  obtain ⟨o, ho, hr, hm⟩ := run_mapClone (P := Try.prog) 63 h
  have HM := Lib.hid hm
  clear hm h
  go_enter Try.func75, Try.ntmps75
  go_wp2
  rw [run_callFunc_extern Try.func109 (by kernel_rfl) (by kernel_rfl) (by kernel_rfl) (e := Extern.MapsClone.clone) (by kernel_rfl), hr]
  simp only [Result.andThen]
  rw [Oper.upon_value]
  go_wp2
  rw [run_typeAssert_map_sl _ 63 _ _ _ _ Try.underlying63]
  simp only [Result.andThen]
  rw [Oper.upon_value]
  go_wp2
  go_ret
  exact ⟨rfl, (Ext.refl _ _).alloc _, by simp, HM.out⟩
end Go.Proofs.Ytgpoplnfhlfogaa
