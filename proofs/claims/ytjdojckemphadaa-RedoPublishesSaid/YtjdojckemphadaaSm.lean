/- The sum of words: what sum.Of and its helpers answer. -/
import Derived.Test.YtjdojckemphadaaOps
import Derived.Test.YtjdojckemphadaaChecked
import Derived.Deep.LoopGhost
import Derived.Shelf.Abstract
namespace Go.Proofs.Ytjdojckemphadaa
open Go Go.RowKit

/-- a step of the sum -/
def mix (s x : Int) : Int := IntKind.u64.wrap (bits BinOp.xor IntKind.u64 s x * 1099511628211)
/-- the sum of n words more -/
def mixN (s : Int) (xs : Nat → Int) : Nat → Int
  | 0 => s
  | n + 1 => mix (mixN s xs n) (xs n)
def sum0 : Int := 14695981039346656037

set_option maxHeartbeats 400000 in
theorem sm_with (s x : Int) (w : World) :
    Calls Try.prog 58 #[.int .u64 s, .int .u64 x] w fun e w' => e = .returned (.int .u64 (mix s x)) ∧ w = w' := by
  go_enter Try.func58, Try.ntmps58
  go_wp2
  go_ret
  exact ⟨rfl, rfl⟩

theorem one_one {w : World} {b : Nat} {x u : Value} {t : TypeId} (h : w.heap[b]? = some (.cells #[x] t (0, 0))) : (w.setCell ⟨b, 0, none⟩ u).heap[b]? = some (.cells #[u] t (0, 0)) := by
  simp only [World.setCell, Array.getElem?_modify, if_true, h]; rfl

set_option maxHeartbeats 400000 in
theorem sm_add (b : Nat) (s x : Int) (w : World) (h : w.heap[b]? = some (.cells #[.int .u64 s] 99 (0, 0))) :
    Calls Try.prog 54 #[.pointer (some ⟨b, 0, none⟩), .int .u64 x] w fun e w' => e = .returned (.tuple #[]) ∧ Ext [b] w w' ∧ w'.heap[b]? = some (.cells #[.int .u64 (mix s x)] 99 (0, 0)) := by
  have h0 := cell_of h (j := 0) rfl
  have hf := free_of h 0
  have H := Lib.hid h
  have HM := Lib.hid (sm_with s x w)
  clear h
  go_enter Try.func54, Try.ntmps54
  go_wp2_with (go_at_call 58; refine HM.out.mono ?_; rintro e w' ⟨rfl, rfl⟩)
  go_end0
  exact ⟨rfl, (Ext.refl _ _).setCell (.inl (by simp)) _, one_one H.out⟩

set_option maxHeartbeats 1000000 in
theorem sm_each (b g off n cap : Nat) (s : Int) (xs : Nat → Int) (w : World) (h : w.heap[b]? = some (.cells #[.int .u64 s] 99 (0, 0))) (hx : ∀ i, i < n → w.cell? ⟨g, off + i, none⟩ = some (.int .u64 (xs i))) (hg : g ≠ b) (hn : n ≤ 9223372036854775807) :
    Calls Try.prog 53 #[.func (.func 54) #[.pointer (some ⟨b, 0, none⟩)] #[], .slice (some ⟨g, off, none⟩) n cap] w fun e w' =>
      e = .returned (.tuple #[]) ∧ Ext [b] w w' ∧ w'.heap[b]? = some (.cells #[.int .u64 (mixN s xs n)] 99 (0, 0)) := by
  have HX := Lib.hid hx
  have H := Lib.hid h
  clear hx h
  go_enter Try.func53, Try.ntmps53
  go_wp2
  go_loopg [8] n (fun k i wr => ∃ (j : Nat), i = .int .i64 j ∧ j + k = n ∧ Ext [b] w wr ∧ wr.heap[b]? = some (.cells #[.int .u64 (mixN s xs j)] 99 (0, 0)))
  case atStart => exact ⟨0, rfl, by omega, Ext.refl _ _, H.out⟩
  case round =>
    obtain ⟨j, rfl, hjk, hE, hb⟩ := hrel
    have HR := Lib.hid (And.intro hE hb)
    clear hE hb
    by_cases hlt : j < n
    · have hc := HR.out.1.cell (HX.out j hlt) (by simpa using hg)
      have HA := Lib.hid (sm_add b (mixN s xs j) (xs j) wr HR.out.2)
      go_wp2_with (go_at_call 54; refine HA.out.mono ?_; rintro e W1 ⟨rfl, hE1, hb1⟩)
      go_roundg (n - (j + 1))
      case measure => omega
      case rel => exact ⟨j + 1, by go_num, by omega, HR.out.1.trans hE1, hb1⟩
    · have hj : n ≤ j := by omega
      go_wp2
      go_end0
      obtain rfl : j = n := by omega
      exact ⟨rfl, HR.out.1, HR.out.2⟩

set_option maxHeartbeats 1000000 in
theorem sm_more (g off n cap : Nat) (s : Int) (xs : Nat → Int) (w : World) (hx : ∀ i, i < n → w.cell? ⟨g, off + i, none⟩ = some (.int .u64 (xs i))) (hg : g < w.heap.size) (hn : n ≤ 4096) :
    Calls Try.prog 49 #[.int .u64 s, .slice (some ⟨g, off, none⟩) n cap] w fun e w' =>
      e = .returned (.tuple #[.int .u64 (mixN s xs n), .int .i64 0]) ∧ Ext [] w w' := by
  have HX := Lib.hid hx
  clear hx
  have hcf := enters_of Try.func54 (by kernel_rfl) rfl
  go_enter Try.func49, Try.ntmps49
  go_wp2_with fail
  refine wp_scope_ahead 0 rfl ?_
  go_wp2_with fail
  refine (sm_each w.heap.size g off n cap s xs _ (World.alloc_heap_new _ _) (fun i hi => cell_al (HX.out i hi)) (by omega) (by omega)).mono ?_
  rintro e W1 ⟨rfl, hE1, hb1⟩
  have c1 := cell_of hb1 (j := 0) rfl
  have HE := Lib.hid (((Ext.refl [] w).alloc _).trans' hE1 (fun j hj => .inr (by simp at hj; omega)))
  clear hE1 hb1
  go_wp2
  rw [jump_ret]
  go_ret2
  exact ⟨rfl, HE.out⟩

set_option maxHeartbeats 1000000 in
theorem sm_of (g off n cap : Nat) (xs : Nat → Int) (w : World) (hx : ∀ i, i < n → w.cell? ⟨g, off + i, none⟩ = some (.int .u64 (xs i))) (hg : g < w.heap.size) (hn : n ≤ 4096) :
    Calls Try.prog 43 #[.slice (some ⟨g, off, none⟩) n cap] w fun e w' =>
      e = .returned (.tuple #[.int .u64 (mixN sum0 xs n), .int .i64 0]) ∧ Ext [] w w' := by
  have HM := Lib.hid (sm_more g off n cap sum0 xs w hx hg hn)
  clear hx
  unfold sum0 at HM
  go_enter Try.func43, Try.ntmps43
  go_wp2_with (go_at_call 49; refine HM.out.mono ?_; rintro e W1 ⟨rfl, hE1⟩)
  go_ret2
  exact ⟨rfl, hE1⟩
end Go.Proofs.Ytjdojckemphadaa
