/- The walk of the law AllocParts. -/
import Derived.Test.YtgpoplnfhlfogaaAlN
import Derived.Test.YtgpoplnfhlfogaaAlO
import Derived.Test.YtgpoplnfhlfogaaAlJ
import Derived.Test.YtgpoplnfhlfogaaOpn
namespace Go.Proofs.Ytgpoplnfhlfogaa
open Go Go.RowKit Go.Shelf

theorem allL_nil' (S : Lns) (t : Bool) : allL S t [] = S := by funext k; simp [allL]
theorem CntB.up {S : Lns} {b : Int} (h : ∀ q, 0 ≤ (S q).2 ∧ (S q).2 ≤ b) (hb : b ≤ 1000000000000) : CntB S := fun q => ⟨(h q).1, by have := (h q).2; omega⟩
theorem cntB_le {S : Lns} {b b' : Int} (h : ∀ q, 0 ≤ (S q).2 ∧ (S q).2 ≤ b) (hb : b ≤ b') : ∀ q, 0 ≤ (S q).2 ∧ (S q).2 ≤ b' := fun q => ⟨(h q).1, by have := (h q).2; omega⟩
theorem takeN_cnt {S : Lns} {lo : Int} {n : Nat} {many b : Int} (h : ∀ q, 0 ≤ (S q).2 ∧ (S q).2 ≤ b) : ∀ q, 0 ≤ ((takeN S lo n many).2.2 q).2 ∧ ((takeN S lo n many).2.2 q).2 ≤ b + 1 := by
  unfold takeN
  split
  · exact cntB_le h (by omega)
  · split
    · exact cntB_le h (by omega)
    · exact cntB_all h
theorem turnN_cnt {S : Lns} {lo : Int} {n : Nat} {t : Bool} {e b : Int} {ks : List Int} (h : ∀ q, 0 ≤ (S q).2 ∧ (S q).2 ≤ b) : ∀ q, 0 ≤ ((turnN S lo n t e ks).2 q).2 ∧ ((turnN S lo n t e ks).2 q).2 ≤ b + 1 := by
  unfold turnN
  split
  · cases ht : turnS t ks S with
    | some S' =>
      intro q
      have := turnS_cnt ht q
      have := h q
      simp only
      omega
    | none => exact cntB_le h (by omega)
  · exact cntB_le h (by omega)
theorem al_takeAny (c mb : Nat) (lo : Int) (n : Nat) (S : Lns) (many : Int) (w : World) (hlo : -1000000000 ≤ lo) (hhi : lo + n ≤ 1000000000) (hn : n ≤ 1000000) (h : Pool w c mb lo (lo + (n : Int) - 1) S) (hB : CntB S) (hm : I64 many) :
    Calls Try.prog 24 #[.pointer (some ⟨c, 0, none⟩), .int .i64 many] w (TakePost w c mb lo n (takeN S lo n many)) := by
  by_cases hneg : many < 0
  · have := al_take_neg c mb lo n S many w h hneg
    unfold takeN
    rw [if_pos hneg]
    exact this
  · obtain ⟨q, rfl⟩ : ∃ q : Nat, many = q := ⟨many.toNat, by omega⟩
    unfold I64 at hm
    exact al_take_pos c mb lo n S q w hlo hhi hn h hB (by omega)

/-- a pool of the law's: where it stands -/
structure PSt (w wr : World) (c mb : Nat) (lo : Int) (n : Nat) (S : Lns) (b : Int) : Prop where
  pool : Pool wr c mb lo (lo + (n : Int) - 1) S
  cnt : ∀ q, 0 ≤ (S q).2 ∧ (S q).2 ≤ b
  ext : Ext [] w wr
  hc : w.heap.size ≤ c
theorem PSt.turned {w wr w' : World} {c mb mb' : Nat} {lo : Int} {n : Nat} {S S' : Lns} {b b' : Int} (h : PSt w wr c mb lo n S b) (hp : Pool w' c mb' lo (lo + (n : Int) - 1) S') (hE : Ext [c] wr w') (hc : ∀ q, 0 ≤ (S' q).2 ∧ (S' q).2 ≤ b') : PSt w w' c mb' lo n S' b' :=
  ⟨hp, hc, h.ext.trans' hE (fun j hj => .inr (by simp at hj; rw [hj]; exact h.hc)), h.hc⟩
theorem PSt.ext1 {w wr w' : World} {c mb : Nat} {lo : Int} {n : Nat} {S : Lns} {b : Int} (h : PSt w wr c mb lo n S b) (hE : Ext [] wr w') : PSt w w' c mb lo n S b :=
  ⟨h.pool.ext hE (by simp) (by simp), h.cnt, h.ext.trans hE, h.hc⟩
theorem PSt.up {w wr : World} {c mb : Nat} {lo : Int} {n : Nat} {S : Lns} {b : Int} (h : PSt w wr c mb lo n S b) : PSt w wr c mb lo n S (b + 1) := ⟨h.pool, cntB_le h.cnt (by omega), h.ext, h.hc⟩
/-- a pool after a call whose answer is not looked at -/
def PNext (w : World) (c : Nat) (lo : Int) (n : Nat) (b : Int) (w' : World) : Prop := ∃ mb S, PSt w w' c mb lo n S b
theorem p_take {w wr : World} {c mb : Nat} {lo : Int} {n : Nat} {S : Lns} {b : Int} (h : PSt w wr c mb lo n S b) (hlo : -1000000000 ≤ lo) (hhi : lo + n ≤ 1000000000) (hn : n ≤ 1000000) (hb : b ≤ 1000000000000) (many : Int) (hm : I64 many) :
    Calls Try.prog 24 #[.pointer (some ⟨c, 0, none⟩), .int .i64 many] wr fun e w' => (∃ v, e = .returned v) ∧ PNext w c lo n (b + 1) w' :=
  (al_takeAny c mb lo n S many wr hlo hhi hn h.pool (CntB.up h.cnt hb) hm).mono fun e w' ⟨ao, cap, he, hE, _, _, mb', hp, _⟩ => ⟨⟨_, he⟩, mb', _, h.turned hp hE (takeN_cnt h.cnt)⟩
theorem p_give {w wr : World} {c mb : Nat} {lo : Int} {n : Nat} {S : Lns} {b : Int} (h : PSt w wr c mb lo n S b) (hb : b ≤ 1000000000000) (ao : Option Addr) (m cap : Nat) (L : Nat → Int) (hp : IntsAt wr ao m L) (hm : m ≤ 9223372036854775807) :
    Calls Try.prog 26 #[.pointer (some ⟨c, 0, none⟩), .slice ao m cap] wr fun e w' => (∃ v, e = .returned v) ∧ PNext w c lo n (b + 1) w' :=
  (al_Give c mb lo n S ao m cap L wr h.pool hp hm (CntB.up h.cnt hb)).mono fun e w' ⟨he, hE, mb', hp', _⟩ => ⟨⟨_, he⟩, mb', _, h.turned hp' hE (turnN_cnt h.cnt)⟩
theorem p_claim {w wr : World} {c mb : Nat} {lo : Int} {n : Nat} {S : Lns} {b : Int} (h : PSt w wr c mb lo n S b) (hb : b ≤ 1000000000000) (ao : Option Addr) (m cap : Nat) (L : Nat → Int) (hp : IntsAt wr ao m L) (hm : m ≤ 9223372036854775807) :
    Calls Try.prog 27 #[.pointer (some ⟨c, 0, none⟩), .slice ao m cap] wr fun e w' => (∃ v, e = .returned v) ∧ PNext w c lo n (b + 1) w' :=
  (al_Claim c mb lo n S ao m cap L wr h.pool hp hm (CntB.up h.cnt hb)).mono fun e w' ⟨he, hE, mb', hp', _⟩ => ⟨⟨_, he⟩, mb', _, h.turned hp' hE (turnN_cnt h.cnt)⟩
end Go.Proofs.Ytgpoplnfhlfogaa
