/- Regions that draw their order, inside a round of a range over a function. No program is named here. -/
import Derived.Test.YtjdojckemphadaaCore
import Derived.Sort.QuietIn
namespace Go.Proofs.Ytjdojckemphadaa
open Go Go.RowKit

/-- no operation defers -/
def noDefer (ops : Array Oper) : Bool := ops.all fun o => match o.op with | .defer _ => false | _ => true
theorem noDefer_at {ops : Array Oper} (h : noDefer ops = true) {i : Nat} {o : Oper} (hi : ops[i]? = some o) : ∀ c, o.op ≠ .defer c := by
  intro c hc
  obtain ⟨hlt, rfl⟩ := Array.getElem?_eq_some_iff.1 hi
  have := (Array.all_eq_true.1 h) i hlt
  simp [hc] at this

theorem opwpIn_round {F : Fence} {n : Nat} {P : Program} {o : Oper} {a : Act} {w : World} {K : Act → World → Prop} {Q : Exit → Act → World → Prop} (l : Nat) (hd : ∀ c, o.op ≠ .defer c)
    (h : o.wpIn F n P a w K Q) : o.wpIn (F.inRound l) n P a w K Q := by
  unfold Oper.wpIn at *
  rw [Oper.semAt_eq _ _ _ hd] at h ⊢
  exact h
theorem wpOpIn_round {F : Fence} {n : Nat} {P : Program} {ops : Array Oper} (hnd : noDefer ops = true) (l : Nat) {Q : Exit → Act → World → Prop} {i : Nat} {K : Act → World → Prop} {a : Act} {w : World}
    (h : wpOpIn F n P ops Q i K a w) : wpOpIn (F.inRound l) n P ops Q i K a w := by
  unfold wpOpIn at *
  cases ho : ops[i]? with
  | none => rw [ho] at h; exact h
  | some o =>
    rw [ho] at h
    by_cases hw : Region.wanted o (yielded ops a.tmps) = true
    · simp only [hw, if_true] at h ⊢
      exact opwpIn_round l (noDefer_at hnd ho) h
    · simp only [hw] at h ⊢
      exact h
theorem wpAnyIn_round {F : Fence} {n : Nat} {P : Program} {ops : Array Oper} {md : Region.Mode} (hnd : noDefer ops = true) (l : Nat) {Q : Exit → Act → World → Prop} : ∀ (fuel : Nat) (listed : Array Bool) (a : Act) (w : World),
    wpAnyIn F n P md ops Q fuel listed a w → wpAnyIn (F.inRound l) n P md ops Q fuel listed a w
  | 0, _, _, _, h => h
  | fuel + 1, _, _, _, h => ⟨h.1, fun i hi => wpOpIn_mono (fun a w => wpAnyIn_round hnd l fuel _ a w) (wpOpIn_round hnd l (h.2 i hi))⟩

theorem wpIn_region_round_quiet {F : Fence} {n : Nat} {P : Program} {id : Nat} {Q : Exit → Act → World → Prop} {a : Act} {w : World} {l : List Oper} (r : Nat) (hro : F.round = none) (hm : P.follows .mixedOrders = true) (hB : Region.lexB .any l.toArray = true) (hnd : noDefer l.toArray = true)
    (h : wpQuietIn F n P l.toArray (fun w' => ∃ n, w' = w.drewN n) (fun a' => ∀ w', (∃ n, w' = w.drewN n) → Q .normal a' w') l a) : (Code.region id l.toArray true).wpIn (F.inRound r) n P Q a w := by
  simp only [Region.lexB, Bool.and_eq_true] at hB
  refine wpIn_region_any hm (wpAnyIn_round hnd r _ _ _ _ (wpAnyIn_of_quiet (Q := fun a' => ∀ w', (∃ n, w' = w.drewN n) → Q .normal a' w') hro (fun _ w' hw' h => h w' hw') _ _ _ _ ⟨1, rfl⟩ ?_))
  have := wpAnyQIn_lex (F := F) (n := n) (C := fun w' => ∃ n, w' = w.drewN n) (md := .any) hB.1 l 0 (Array.replicate l.length false) a (by simp) (by simpa using hB.2) h
  simpa using this

theorem cell1_set {w : World} {g : Nat} {v : Value} {e : TypeId} (h : w.heap[g]? = some (.cells #[v] e (0, 0))) (u : Value) : (w.setCell ⟨g, 0, none⟩ u).heap[g]? = some (.cells #[u] e (0, 0)) := by
  simp [World.setCell, Array.getElem?_modify, h]

/-- the same post, but for panics -/
def NoPanic (Q : Exit → Act → World → Prop) : Exit → Act → World → Prop
  | .panic _, _, _ => False
  | .normal, a, w => Q .normal a w
  | .ret, a, w => Q .ret a w
  | .outgrown, a, w => Q .outgrown a w
  | .exit i, a, w => Q (.exit i) a w
  | .goto i, a, w => Q (.goto i) a w
theorem NoPanic.out {Q : Exit → Act → World → Prop} : ∀ e a w, NoPanic Q e a w → Q e a w := fun e a w h => by
  cases e <;> first | exact h | exact h.elim

/-- Stepping out of a function whose activation bears the marks of ranges. -/
theorem leaves_marks {P : Program} {fn : Func} {tmps : Array Value} {R : Ending → World → Prop} {v : Value} : ∀ (Ds : List Nat) (w : World), (∀ D ∈ Ds, w.heap[D]? = some (.deferred (some []))) → Ds.Nodup →
    (∀ w', Ext Ds w w' → (results fn tmps).run P w' = .ok v w' ∧ R (.returned v) w') →
    LeavesInM Fence.wide 0 P fn tmps R (Ds.map fun D => { target := .collected D, args := #[] }) .returning w
  | [], w, _, _, h => ⟨v, h w (Ext.refl _ _)⟩
  | D :: Ds, w, hD, hn, h => by
    have hd := hD D (List.mem_cons_self ..)
    obtain ⟨hn1, hn2⟩ := List.nodup_cons.1 hn
    refine ⟨by simp, .inl ⟨_, _, rfl, run_takeDeferred hd, ?_⟩⟩
    have hE : Ext [D] w (w.putObj D (.deferred none)) := (Ext.refl [D] w).put (.inl (List.mem_cons_self ..)) _
    refine leaves_marks Ds _ (fun D' hD' => ?_) hn2 (fun w' hE' => h w' ((hE.sub (fun j hj => ?_)).trans (hE'.sub fun j hj => List.mem_cons_of_mem _ hj)))
    · exact hE.at (hD D' (List.mem_cons_of_mem _ hD')) (fun hm => by simp at hm; subst hm; exact hn1 hD')
    · simp at hj; subst hj; exact List.mem_cons_self ..
end Go.Proofs.Ytjdojckemphadaa
