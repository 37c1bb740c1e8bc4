/- slices.Values over ints: the iterator, one by one. -/
import Derived.Test.YtmfbgkcphiomaaaStc
import Derived.Test.YtmfbgkcphiomaaaRnd
import Derived.Test.YtmfbgkcphiomaaaOps
import Derived.Test.YtmfbgkcphiomaaaChecked
import Derived.RangeFuncLeaves
import Derived.Shelf.Abstract
namespace Go.Proofs.Ytmfbgkcphiomaaa
open Go Go.RowKit Go.Shelf
attribute [local go_sem] Oper.semAt_some

/-- an int, as yield is handed it -/
def intV (x : Int) : Array Value := #[.int .i64 x]
def encV (L : List Int) (k : Nat) : List (Array Value) := (L.take k).map intV
theorem encV_succ (W : List Int) (k : Nat) (h : k < W.length) : encV W (k + 1) = encV W k ++ [intV (W.getD k 0)] := by
  unfold encV
  rw [List.take_succ_eq_append_getElem h, List.map_append, show W.getD k 0 = W[k] from by simp [h]]
  rfl
theorem encV_len (W : List Int) (k : Nat) (h : k ≤ W.length) : (encV W k).length = k := by simp [encV]; omega
def okV (W : List Int) (pre : List (Array Value)) : Prop := ∃ k, k ≤ W.length ∧ pre = encV W k
theorem okV_last {W : List Int} {pre : List (Array Value)} {x : Array Value} (h : okV W (pre ++ [x])) : ∃ k, k < W.length ∧ pre = encV W k ∧ x = intV (W.getD k 0) := by
  obtain ⟨k, hk, he⟩ := h
  cases k with
  | zero => simp [encV] at he
  | succ k =>
    rw [encV_succ W k (by omega)] at he
    obtain ⟨h1, h2⟩ := List.append_inj' he rfl
    exact ⟨k, by omega, h1, by simpa using h2⟩
/-- a list of ints in memory -/
def IntsAt (w : World) (ao : Option Addr) (L : List Int) : Prop := ∀ i, i < L.length → ∃ g off, ao = some ⟨g, off, none⟩ ∧ w.cell? ⟨g, off + i, none⟩ = some (.int .i64 (L.getD i 0))
theorem IntsAt.steady {M : Nat} {ao : Option Addr} {L : List Int} : Steady M (fun W => IntsAt W ao L) := by
  intro w w' h hc i hi
  obtain ⟨g, off, h1, h2⟩ := h i hi
  exact ⟨g, off, h1, Steady.cell (N := M) w w' h2 hc⟩
theorem IntsAt.of_owns {w : World} {base e : Nat} {v : Value} {n : Nat} {L : List Int} (hn : n = L.length) (h : w.ownsRow base e 1 v n (L.map (Value.int .i64))) :
    ∃ ao cap, v = .slice ao L.length cap ∧ IntsAt w ao L ∧ ∀ p, ao = some p → base ≤ p.block ∧ p.block < w.heap.size := by
  subst hn
  rcases h.2 with ⟨rfl, hx⟩ | ⟨g, cap, cur, rfl, hb, hg, _⟩
  · exact ⟨none, 0, by rw [hx], fun i hi => absurd hi (by omega), fun p hp => by cases hp⟩
  · refine ⟨some ⟨g, 0, none⟩, cap, rfl, fun i hi => ⟨g, 0, rfl, ?_⟩, fun p hp => by cases hp; exact ⟨hb, lt_of_block hg⟩⟩
    have := h.cells rfl i (.int .i64 (L.getD i 0)) (by simp [hi])
    rw [show (⟨g, 0, none⟩ : Addr).add i = ⟨g, 0 + i, none⟩ from by unfold Addr.add; split <;> simp_all] at this
    exact this
theorem IntsAt.ext {w w' : World} {ao : Option Addr} {L : List Int} {k : List Nat} (h : IntsAt w ao L) (hE : Ext k w w') (hk : ∀ p, ao = some p → p.block ∉ k) : IntsAt w' ao L := fun i hi => by
  obtain ⟨g, off, h1, h2⟩ := h i hi
  exact ⟨g, off, h1, hE.cell h2 (show g ∉ k from hk _ h1)⟩
/-- what the iterator reads -/
def VKB (Bs : Nat) (v : Value) (ao : Option Addr) (L : List Int) (w : World) : Prop := w.cell? ⟨Bs, 0, none⟩ = some v ∧ IntsAt w ao L
theorem VKB.steady {M Bs : Nat} {v : Value} {ao : Option Addr} {L : List Int} : Steady M (VKB Bs v ao L) := Steady.cell.and IntsAt.steady

set_option maxRecDepth 100000 in
set_option maxHeartbeats 2000000 in
theorem ivals_seq (Bs : Nat) (ao : Option Addr) (cap : Nat) (W : List Int) (hn : W.length ≤ 1000000) :
    SeqC Try.prog 56 #[.pointer (some ⟨Bs, 0, none⟩)] (okV W) (fun xs => xs = encV W W.length) (VKB Bs (.slice ao W.length cap) ao W) := by
  intro l N I Ix hI hIx hK hY w m hN hlw hm h0
  refine callsIn_of_wp Try.func56 rfl trivial ?_ rfl
  simp only [Try.ntmps56, List.size_toArray, List.length_cons, List.length_nil, Nat.reduceAdd, Nat.reduceSub, Array.replicate_succ, Array.replicate_zero, List.push_toArray, List.append_toArray, List.nil_append, List.cons_append]
  have HI := Lib.hid hI
  have HX := Lib.hid hIx
  have HK := Lib.hid hK
  have HY := Lib.hid hY
  obtain ⟨kb, _⟩ := hK _ _ _ h0
  have H0 := Lib.hid h0
  obtain ⟨n, hnn⟩ : ∃ n, W.length = n := ⟨_, rfl⟩
  rw [hnn] at kb hn
  have HN := Lib.hid hnn
  clear hI hIx hK hY h0 hnn
  gi_wp2
  gi_loopw [7] (fun i wr => ∃ (k : Nat) (m' : List Nat), k ≤ n ∧ i = .int .i64 k ∧ I m' (encV W k) wr) (fun i _ => n - (intOf i).toNat)
  case atStart => exact ⟨0, m, Nat.zero_le _, rfl, H0.out⟩
  case round =>
    obtain ⟨k, m', hk, rfl, hJs⟩ := hrel
    have HJ := Lib.hid hJs
    clear hJs
    by_cases hlt : k < n
    · have hkl : k < W.length := by rw [HN.out]; exact hlt
      obtain ⟨g, off, rfl, x0⟩ := (HK.out _ _ _ HJ.out).2 k hkl
      obtain ⟨p, hp⟩ : ∃ p, W.getD k 0 = p := ⟨_, rfl⟩
      rw [hp] at x0
      have hs := encV_succ W k hkl
      rw [hp] at hs
      obtain ⟨fn, tmps, assign, body, hy, hR⟩ := HY.out m' _ (intV p) wr HJ.out ⟨k + 1, by omega, hs.symm⟩
      have HS := Lib.hid hs
      clear hs hp hkl
      unfold intV at hy
      gi_wp2
      refine ⟨rfl, hR.mono ?_⟩
      rintro e W3 ⟨_, (⟨rfl, m2, _, hJ3⟩ | ⟨rfl, hJx3⟩)⟩
      · gi_wp2
        go_roundw
        case rel => exact ⟨k + 1, m2, by omega, by go_num, by rw [HS.out]; exact hJ3⟩
        case measure => simp [intOf]; omega
      · gi_wp2
        refine bodyPost_ret (results_none rfl _ _ _) rfl ?_
        exact ⟨⟨_, rfl⟩, .inr hJx3⟩
    · have hkn : k = n := by omega
      gi_wp2
      go_end0
      exact ⟨⟨_, rfl⟩, .inl ⟨_, m', rfl, by rw [HN.out, ← hkn]; exact HJ.out⟩⟩

set_option maxHeartbeats 400000 in
theorem iv_values (ao : Option Addr) (n cap : Nat) (w : World) :
    Calls Try.prog 48 #[.slice ao n cap] w fun e w' => e = .returned (.func (.func 56) #[] #[.pointer (some ⟨w.heap.size, 0, none⟩)]) ∧ w' = w.alloc (.cells #[.slice ao n cap] 52) := by
  have hcf := enters_of Try.func56 (by kernel_rfl) rfl
  go_enter Try.func48, Try.ntmps48
  go_wp2
  go_ret
  exact ⟨rfl, rfl⟩
end Go.Proofs.Ytmfbgkcphiomaaa
