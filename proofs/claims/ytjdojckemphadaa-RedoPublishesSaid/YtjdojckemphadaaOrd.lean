/- Regions that draw their order, whose last operation (on which all others bear) may write what is read: as in Hld, but the operations that are taken first may stand anywhere, and S need not hold behind the last one. No program is named here. -/
import Derived.Test.YtjdojckemphadaaHld
namespace Go.Proofs.Ytjdojckemphadaa
open Go Go.RowKit
section
variable {P : Program} {ops : Array Oper} {Q : Exit → Act → World → Prop} {md : Region.Mode} {S : World → Prop} {last : Nat}

/-- what has come up is closed: what it waits for has, too -/
def Cl (md : Region.Mode) (ops : Array Oper) (listed : Array Bool) : Prop :=
  listed.size = ops.size ∧ ∀ k ok, ops[k]? = some ok → listed.getD k false = true → ∀ e ∈ ok.after, Region.binds md e = true → listed.getD e.on false = true
theorem Cl.start : Cl md ops (Array.replicate ops.size false) := by
  refine ⟨by simp, fun k ok hk h => ?_⟩
  have hlt := (Array.getElem?_eq_some_iff.1 hk).1
  simp [hlt] at h
theorem Cl.set {listed : Array Bool} {j : Nat} (h : Cl md ops listed) (hj : j ∈ Region.ready md ops listed) : Cl md ops (listed.setIfInBounds j true) := by
  obtain ⟨hun, oj, hoj, hall⟩ := mem_ready.1 hj
  refine ⟨by simpa using h.1, fun k ok hk hl e he hb => ?_⟩
  by_cases hkj : j = k
  · subst hkj
    rw [hoj] at hk
    cases hk
    exact getD_set_true (hall e he hb)
  · rw [getD_set_ne false hkj] at hl
    exact getD_set_true (h.2 k ok hk hl e he hb)
/-- k waits for i -/
def depOn (md : Region.Mode) (ops : Array Oper) (k i : Nat) : Bool := match ops[k]? with
  | some o => o.after.any fun e => Region.binds md e && e.on == i
  | none => false
theorem depOn_spec {k i : Nat} (h : depOn md ops k i = true) : ∃ o, ops[k]? = some o ∧ ∃ e ∈ o.after, Region.binds md e = true ∧ e.on = i := by
  unfold depOn at h
  cases ho : ops[k]? with
  | none => simp [ho] at h
  | some o =>
    simp only [ho] at h
    obtain ⟨e, he, hb⟩ := Array.any_eq_true'.1 h
    simp only [Bool.and_eq_true, beq_iff_eq] at hb
    exact ⟨o, rfl, e, he, hb.1, hb.2⟩
/-- each is waited for by a later one -/
def depAll (md : Region.Mode) (ops : Array Oper) (last : Nat) : Bool := (List.range last).all fun i => (List.range (last + 1)).any fun k => decide (i < k) && depOn md ops k i
theorem last_waits (hd : depAll md ops last = true) {listed : Array Bool} (hc : Cl md ops listed) : ∀ (d i : Nat), last - i ≤ d → i < last → listed.getD i false = false → last ∉ Region.ready md ops listed
  | 0, i, h, hi, _ => by omega
  | d + 1, i, h, hi, hu => by
    have h1 := List.all_eq_true.1 hd i (List.mem_range.2 hi)
    obtain ⟨k, hk, h2⟩ := List.any_eq_true.1 h1
    simp only [Bool.and_eq_true, decide_eq_true_eq] at h2
    obtain ⟨o, ho, e, he, hb, hei⟩ := depOn_spec h2.2
    have hkl := List.mem_range.1 hk
    by_cases hkk : k = last
    · subst hkk
      intro hr
      obtain ⟨_, o', ho', hall⟩ := mem_ready.1 hr
      rw [ho] at ho'
      cases ho'
      have := hall e he hb
      rw [hei, hu] at this
      cases this
    · have huk : listed.getD k false = false := by
        cases hlk : listed.getD k false with
        | false => rfl
        | true =>
          have := hc.2 k o ho hlk e he hb
          rw [hei, hu] at this
          cases this
      exact last_waits hd hc d k (by omega) (by omega) huk

/-- whatever order is picked; S holds behind every operation but the last -/
def wpAnyG (P : Program) (md : Region.Mode) (ops : Array Oper) (Q : Exit → Act → World → Prop) (S : World → Prop) (last : Nat) : Nat → Array Bool → Act → World → Prop
  | 0, listed, a, w => Region.ready md ops listed = [] ∧ Q .normal a w
  | fuel + 1, listed, a, w =>
    (Region.ready md ops listed = [] → Q .normal a w) ∧
    ∀ i ∈ Region.ready md ops listed, wpOp P ops Q i (fun a' w' => (i ≠ last → S w') ∧ wpAnyG P md ops Q S last fuel (listed.setIfInBounds i true) a' w') a w
theorem wpAny_of_g : ∀ (fuel : Nat) (listed : Array Bool) (a : Act) (w : World), wpAnyG P md ops Q S last fuel listed a w → wpAny P md ops Q fuel listed a w
  | 0, _, _, _, h => h
  | fuel + 1, _, _, _, h => ⟨h.1, fun i hi => wpOp_mono (fun a' w' h' => wpAny_of_g fuel _ a' w' h'.2) (h.2 i hi)⟩

theorem of_step {o : Oper} {a : Act} {w : World} {K : Act → World → Prop} {E : Prop} (hg : o.guard = none) (h : if Region.wanted o (yielded #[] a.tmps) = true then Oper.wp P o a w K Q else E) : Oper.wp P o a w K Q := by
  have hw : Region.wanted o (yielded #[] a.tmps) = true := by
    unfold Region.wanted
    rw [hg]
  rw [if_pos hw] at h
  exact h
/-- it may be taken first -/
theorem YQ.firstG {i : Nat} {oi : Oper} {v : Value} (hd : depAll md ops last = true) (hi : ops[i]? = some oi) (hil : i < last) (hsel : ∀ (j : Nat) (o : Oper) cs b, ops[j]? = some o → o.op ≠ .select cs b) (hQ : ∀ c a w, Q (.panic c) (a.put oi.dst v) w → Q (.panic c) a w) :
    ∀ (fuel : Nat) (listed : Array Bool) (a : Act) (w : World), Cl md ops listed →
      (∀ j oj, ops[j]? = some oj → j ≠ i → listed.getD j true = false → (∀ e ∈ oj.after, Region.binds md e = true → e.on ≠ i) → oi.apart ops oj = true) →
      i ∈ Region.ready md ops listed → YQ P ops S oi v a → S w →
      wpAnyG P md ops Q S last fuel (listed.setIfInBounds i true) (a.put oi.dst v) w → wpAnyG P md ops Q S last (fuel + 1) listed a w
  | 0, listed, a, w, _, _, hr, hy, hS, H => by
    refine ⟨fun h0 => (by rw [h0] at hr; cases hr), fun j hj => ?_⟩
    by_cases e : j = i
    · subst e; exact hy.here hi hS ⟨fun _ => hS, H⟩
    · have := ready_mono hj e
      rw [H.1] at this
      cases this
  | fuel + 1, listed, a, w, hc, hf, hr, hy, hS, H => by
    refine ⟨fun h0 => (by rw [h0] at hr; cases hr), fun j hj => ?_⟩
    by_cases e : j = i
    · subst e; exact hy.here hi hS ⟨fun _ => hS, H⟩
    · obtain ⟨hun, oj, hoj, hall⟩ := mem_ready.1 hj
      have hiu : listed.getD i false = false := by
        have h0 := (mem_ready.1 hr).1
        rcases Nat.lt_or_ge i listed.size with hlt | hge
        · simp [hlt] at h0 ⊢
          exact h0
        · simp [Array.getElem?_eq_none hge]
      have hjl : j ≠ last := fun e2 => last_waits hd hc (last - i) i (Nat.le_refl _) hil hiu (e2 ▸ hj)
      have hno : ∀ x ∈ oj.after, Region.binds md x = true → x.on ≠ i := fun x hx hb hxi => by
        have h1 := hall x hx hb
        rw [hxi, hiu] at h1
        cases h1
      have hp := YQ.past hoj (hf j oj hoj e hun hno) (fun cs b => hsel i oi cs b hi) (fun cs b => hsel j oj cs b hoj) hQ hy (H.2 j (ready_mono hj e))
      refine wpOp_mono (fun a' w' ⟨hy', hS', h'⟩ => ⟨hS', YQ.firstG hd hi hil hsel hQ fuel (listed.setIfInBounds j true) a' w' (hc.set hj) (fun k ok hk hki hkn hkb => hf k ok hk hki ?_ hkb) (ready_mono hr (Ne.symm e)) hy' (hS' hjl) (by rw [Array.setIfInBounds_comm _ _ e]; exact h')⟩) hp
      by_cases hjk : j = k
      · subst hjk; exact hun
      · rw [getD_set_ne true hjk] at hkn; exact hkn

/-- those of a list that are at these places -/
def pickL (l : List Oper) : List Nat → List Oper
  | [] => []
  | i :: r => (match l[i]? with | some o => [o] | none => []) ++ pickL l r
/-- the tails are a chain -/
def lexT (md : Region.Mode) (ops : Array Oper) (last : Nat) : List Nat → Array Bool → Bool
  | [], listed => (Region.ready md ops listed).isEmpty
  | t :: ts, listed => decide (Region.ready md ops listed = [t]) && decide (ts.isEmpty = false ∨ t = last) && decide (t < ops.size) && lexT md ops last ts (listed.setIfInBounds t true)
/-- the heads may be taken first, one by one; then the tails -/
def lexB (md : Region.Mode) (ops : Array Oper) (last : Nat) (ts : List Nat) : List Nat → Array Bool → Bool
  | [], listed => lexT md ops last ts listed
  | i :: hs, listed => decide (i < last) && (Region.ready md ops listed).contains i && Region.free md ops listed i && lexB md ops last ts hs (listed.setIfInBounds i true)
/-- the others, in their chain; S is shown anew behind each but the last -/
def wpTlG (P : Program) (ops : Array Oper) (S : World → Prop) (Q : Exit → Act → World → Prop) : List Oper → Act → World → Prop
  | [], a, w => Q .normal a w
  | o :: rest, a, w => if Region.wanted o (yielded ops a.tmps) = true then o.wp P a w (fun a' w' => (rest ≠ [] → S w') ∧ wpTlG P ops S Q rest a' w') Q else (rest ≠ [] → S w) ∧ wpTlG P ops S Q rest (a.put o.dst undef) w
theorem wpTlG_nil {a : Act} {w : World} (h : Q .normal a w) : wpTlG P ops S Q [] a w := h
theorem wpTlG_step {o : Oper} {rest : List Oper} {a : Act} {w : World} (hw : Region.wanted o (yielded ops a.tmps) = true) (h : ∀ K : Act → World → Prop, (∀ a' w', (rest ≠ [] → S w') → wpTlG P ops S Q rest a' w' → K a' w') → o.wp P a w K Q) : wpTlG P ops S Q (o :: rest) a w := by
  unfold wpTlG
  rw [if_pos hw]
  exact h _ (fun a' w' h1 h2 => ⟨h1, h2⟩)
theorem wpTlG_last {o : Oper} {a : Act} {w : World} (hw : Region.wanted o (yielded ops a.tmps) = true) (h : o.wp P a w (fun a' w' => Q .normal a' w') Q) : wpTlG P ops S Q [o] a w := by
  unfold wpTlG
  rw [if_pos hw]
  exact Oper.wp_mono (fun a' w' h => ⟨fun h => absurd rfl h, h⟩) h
theorem any_of_tlG : ∀ (ts : List Nat) (listed : Array Bool) (a : Act) (w : World), lexT md ops last ts listed = true → wpTlG P ops S Q (pickL ops.toList ts) a w → wpAnyG P md ops Q S last ts.length listed a w
  | [], _, _, _, hB, h => ⟨by simpa [lexT] using hB, h⟩
  | t :: ts, listed, a, w, hB, h => by
    simp only [lexT, Bool.and_eq_true, decide_eq_true_eq] at hB
    obtain ⟨⟨⟨hr, hl⟩, hlt⟩, hB⟩ := hB
    have h0 : ops[t]? = some ops[t] := by simp [hlt]
    have hp : pickL ops.toList (t :: ts) = ops[t] :: pickL ops.toList ts := by
      simp [pickL, hlt]
    rw [hp] at h
    refine ⟨fun h1 => (by rw [hr] at h1; cases h1), fun i hi => ?_⟩
    rw [hr] at hi
    have hik : i = t := by simpa using hi
    subst hik
    have hrec := fun a' w' => any_of_tlG ts (listed.setIfInBounds i true) a' w' hB
    have hne : i ≠ last → pickL ops.toList ts ≠ [] := fun hil => by
      rcases hl with hl | hl
      · cases ts with
        | nil => simp at hl
        | cons t2 ts2 =>
          simp only [lexT, Bool.and_eq_true, decide_eq_true_eq] at hB
          have hlt2 := hB.1.2
          simp [pickL, hlt2]
      · exact absurd hl hil
    unfold wpTlG at h
    by_cases hw : Region.wanted ops[i] (yielded ops a.tmps) = true
    · rw [if_pos hw] at h
      have hw' : wpOp P ops Q i (fun a' w' => (pickL ops.toList ts ≠ [] → S w') ∧ wpTlG P ops S Q (pickL ops.toList ts) a' w') a w := by
        unfold wpOp
        simp only [h0]
        rw [if_pos hw]
        exact .inl h
      exact wpOp_mono (fun a' w' ⟨h1, h2⟩ => ⟨fun hil => h1 (hne hil), hrec a' w' h2⟩) hw'
    · rw [if_neg hw] at h
      have hw' : wpOp P ops Q i (fun a' w' => (pickL ops.toList ts ≠ [] → S w') ∧ wpTlG P ops S Q (pickL ops.toList ts) a' w') a w := by
        unfold wpOp
        simp only [h0]
        rw [if_neg hw]
        exact h
      exact wpOp_mono (fun a' w' ⟨h1, h2⟩ => ⟨fun hil => h1 (hne hil), hrec a' w' h2⟩) hw'
theorem any_of_hdG (hd : depAll md ops last = true) (hsel : Region.noSelect ops = true) (hQ : ∀ c d v a w, Q (.panic c) (a.put d v) w → Q (.panic c) a w) {w : World} (hS : S w) (ts : List Nat) :
    ∀ (hs : List Nat) (listed : Array Bool) (a : Act), Cl md ops listed → lexB md ops last ts hs listed = true →
      wpHd P ops S (fun a' => wpTlG P ops S Q (pickL ops.toList ts) a' w) (pickL ops.toList hs) a → wpAnyG P md ops Q S last (hs.length + ts.length) listed a w
  | [], listed, a, _, hB, h => by
    simp only [List.length_nil, Nat.zero_add]
    exact any_of_tlG ts listed a w hB h
  | i :: hs, listed, a, hc, hB, h => by
    simp only [lexB, Bool.and_eq_true, decide_eq_true_eq] at hB
    obtain ⟨⟨⟨hil, hr⟩, hf⟩, hB'⟩ := hB
    have hr' : i ∈ Region.ready md ops listed := by simpa using hr
    obtain ⟨_, o, h0, _⟩ := mem_ready.1 hr'
    have hlt := (Array.getElem?_eq_some_iff.1 h0).1
    have hp : pickL ops.toList (i :: hs) = o :: pickL ops.toList hs := by
      have : ops[i] = o := by simpa [hlt] using h0
      simp [pickL, hlt, this]
    rw [hp] at h
    obtain ⟨v, hy, h'⟩ := h
    have hrec := any_of_hdG hd hsel hQ hS ts hs (listed.setIfInBounds i true) (a.put o.dst v) (hc.set hr') hB' h'
    rw [List.length_cons, show hs.length + 1 + ts.length = (hs.length + ts.length) + 1 from by omega]
    exact YQ.firstG hd h0 hil (Region.noSelect_spec hsel) (fun c a w => hQ c o.dst v a w) _ _ _ _ hc (Region.free_spec h0 hf) hr' hy hS hrec
/-- the region: those at hs are taken first, in that order, those at ts are a chain behind; hs and ts are all of them -/
theorem wp_region_g {id : Nat} {a : Act} {w : World} {l : List Oper} (hs ts : List Nat) (S : World → Prop) (hm : P.follows .mixedOrders = true)
    (hB : (Region.noSelect l.toArray && lexB .any l.toArray (l.length - 1) ts hs (Array.replicate l.length false) && depAll .any l.toArray (l.length - 1) && decide (hs.length + ts.length = l.length)) = true) (hQ : ∀ c d v a w, Q (.panic c) (a.put d v) w → Q (.panic c) a w) (hS : S w.drew)
    (h : wpHd P l.toArray S (fun a' => wpTlG P l.toArray S Q (pickL l ts) a' w.drew) (pickL l hs) a) : (Code.region id l.toArray true).wp P Q a w := by
  simp only [Bool.and_eq_true, decide_eq_true_eq] at hB
  obtain ⟨⟨⟨hsel, hlex⟩, hd⟩, hn⟩ := hB
  refine wp_region_any hm (wpAny_of_g (S := S) (last := l.length - 1) _ _ _ _ ?_)
  have := any_of_hdG (md := .any) (Q := Q) hd hsel hQ hS ts hs (Array.replicate l.length false) a (by simpa using Cl.start (md := .any) (ops := l.toArray)) hlex h
  rw [hn] at this
  simpa using this
end
end Go.Proofs.Ytjdojckemphadaa
