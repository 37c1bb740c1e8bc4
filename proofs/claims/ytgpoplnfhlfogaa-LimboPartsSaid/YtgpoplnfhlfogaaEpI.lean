/- EpochHolds: what holds between two calls; the plain law. -/
import Derived.Test.YtgpoplnfhlfogaaEpH
import Derived.Test.YtgpoplnfhlfogaaCnt
import Derived.Test.YtgpoplnfhlfogaaOpn
import Derived.StillTailTactics
namespace Go.Proofs.Ytgpoplnfhlfogaa
open Go Go.RowKit Go.Shelf
attribute [local go_sem] Oper.semAt_some

/-- marks of ranges, each in a block of its own behind the start -/
structure MarkOk (w W : World) (Ds : List Nat) : Prop where
  at' : ∀ D ∈ Ds, W.heap[D]? = some (.deferred (some [])) ∧ w.heap.size ≤ D
  nd : Ds.Nodup
theorem MarkOk.ext {w W W' : World} {Ds m : List Nat} (h : MarkOk w W Ds) (hE : Ext m W W') (hm : ∀ q, q ∈ m → W.heap.size ≤ q ∨ (∃ cur T fr, W.heap[q]? = some (.cells cur T fr)) ∨ ∃ l, IMap W q l) : MarkOk w W' Ds :=
  ⟨fun D hD => ⟨hE.at (h.at' D hD).1 (fun hq => by
    rcases hm D hq with hb | ⟨cur, T, fr, hc⟩ | ⟨l, es, clock, hc, _⟩
    · have := lt_of_block (h.at' D hD).1
      omega
    · rw [(h.at' D hD).1] at hc
      simp at hc
    · rw [(h.at' D hD).1] at hc
      simp at hc), (h.at' D hD).2⟩, h.nd⟩
theorem MarkOk.ext0 {w W W' : World} {Ds : List Nat} (h : MarkOk w W Ds) (hE : Ext [] W W') : MarkOk w W' Ds := h.ext hE (fun q hq => by cases hq)
theorem MarkOk.cons {w W : World} {Ds : List Nat} {D : Nat} (h : MarkOk w W Ds) (hD : W.heap[D]? = some (.deferred (some []))) (hn : D ∉ Ds) (hw : w.heap.size ≤ D) : MarkOk w W (D :: Ds) :=
  ⟨fun q hq => by
    rcases List.mem_cons.1 hq with rfl | hq
    · exact ⟨hD, hw⟩
    · exact h.at' q hq, List.nodup_cons.2 ⟨hn, h.nd⟩⟩

/-- each thread that is pinned is one, pinned at now or one less -/
def POk (now : Int) (l : Ents) : Prop := ∀ p ∈ l, (0 ≤ p.1 ∧ p.1 < 8) ∧ ∃ a : Int, p.2 = .int .i64 a ∧ (a = now ∨ a = now - 1)
theorem POk.nil (now : Int) : POk now [] := fun _ h => by cases h
theorem POk.pin {now : Int} {l : Ents} (h : POk now l) {t : Int} (ht : pinErr l t = 0) : POk now (upd l t (.int .i64 now)) := fun p hp => by
  rcases mem_upd _ _ _ _ hp with rfl | hp
  · have hr : ¬ (t < 0 ∨ 8 ≤ t) := fun e => by unfold pinErr at ht; rw [if_pos e] at ht; cases ht
    exact ⟨by dsimp only; omega, now, rfl, .inl rfl⟩
  · exact h p hp
theorem POk.unpin {now : Int} {l : Ents} (h : POk now l) (t : Int) : POk now (del l t) := fun p hp => h p (mem_del _ _ _ hp)
theorem POk.adv {now : Int} {l : Ents} (h : POk now l) (ha : advOk now l = true) : POk (now + 1) l := fun p hp => by
  obtain ⟨h1, a, h2, h3⟩ := h p hp
  refine ⟨h1, a, h2, .inr ?_⟩
  unfold advOk atNow at ha
  have := (Bool.and_eq_true _ _ ▸ ha : _ ∧ _).1
  have := (List.all_eq_true.1 this) p hp
  rw [h2] at this
  simp at this
  omega
theorem POk.vals {now : Int} {l : Ents} (h : POk now l) : ∀ p ∈ l, ∃ n, p.2 = .int .i64 n := fun p hp => by
  obtain ⟨_, a, h2, _⟩ := h p hp
  exact ⟨a, h2⟩
theorem POk.wf {now : Int} {l : Ents} (h : POk now l) : ∀ p ∈ l, (Lit.int .i64 p.1).wf = true := fun p hp => by
  have := (h p hp).1
  simp [Lit.wf, IntKind.min, IntKind.max, IntKind.signed, IntKind.bits]
  omega
theorem adv_nil {now : Int} (h : now < 1073741824) : advOk now [] = true := by
  unfold advOk atNow
  simp
  omega
theorem upd_len : ∀ (l : Ents) (k : Int) (v : Value), (upd l k v).length ≤ l.length + 1
  | [], _, _ => by simp [upd]
  | (a, x) :: l, k, v => by
    unfold upd
    split
    · simp
    · have := upd_len l k v
      simp
      omega
theorem del_len : ∀ (l : Ents) (k : Int), (del l k).length ≤ l.length
  | [], _ => by simp [del]
  | (a, x) :: l, k => by
    unfold del
    split
    · simp
    · have := del_len l k
      simp
      omega

/-- what holds between two calls -/
structure ESt (w wr : World) (r0 c m b c3 c4 j : Nat) (now : Int) (l : Ents) : Prop where
  clk : Clk wr c m now l
  mp : IMap wr b l
  ext : Ext [] w wr
  r : wr.heap[r0]? = some (.cells #[.bool false] 4 (0, 0))
  k3 : wr.heap[c3]? = some (.cells #[.pointer (some ⟨c, 0, none⟩)] 24 (0, 0))
  k4 : wr.heap[c4]? = some (.cells #[.map (some b)] 42 (0, 0))
  lo : w.heap.size ≤ r0 ∧ r0 < m ∧ m < c ∧ c < c3 ∧ c3 < b ∧ b < c4
  num : 0 ≤ now ∧ now ≤ j ∧ l.length ≤ j
  ok : POk now l
theorem ESt.extk {w wr w' : World} {r0 c m b c3 c4 j : Nat} {now : Int} {l : Ents} {k : List Nat} (h : ESt w wr r0 c m b c3 c4 j now l) (hE : Ext k wr w') (hk : ∀ x ∈ k, c4 < x) : ESt w w' r0 c m b c3 c4 j now l := by
  obtain ⟨h1, h2, h3, h4, h5, h6, h7, h8, h9⟩ := h
  have hn : ∀ x, x ≤ c4 → x ∉ k := fun x hx hm => by have := hk x hm; omega
  exact ⟨h1.ext hE (hn _ (by omega)) (hn _ (by omega)), h2.ext hE (hn _ (by omega)), h3.trans' hE (fun x hx => .inr (by have := hk x hx; omega)), hE.at h4 (hn _ (by omega)), hE.at h5 (hn _ (by omega)), hE.at h6 (hn _ (by omega)), h7, h8, h9⟩
theorem ESt.ext1 {w wr w' : World} {r0 c m b c3 c4 j : Nat} {now : Int} {l : Ents} (h : ESt w wr r0 c m b c3 c4 j now l) (hE : Ext [] wr w') : ESt w w' r0 c m b c3 c4 j now l := h.extk hE (fun _ hx => by cases hx)
theorem ESt.up {w wr : World} {r0 c m b c3 c4 j : Nat} {now : Int} {l : Ents} (h : ESt w wr r0 c m b c3 c4 j now l) : ESt w wr r0 c m b c3 c4 (j + 1) now l :=
  ⟨h.clk, h.mp, h.ext, h.r, h.k3, h.k4, h.lo, ⟨h.num.1, by have := h.num.2.1; omega, by have := h.num.2.2; omega⟩, h.ok⟩
/-- the clock has turned, and then the law's own map -/
theorem ESt.both {w wr w1 w2 : World} {r0 c m b c3 c4 j : Nat} {now : Int} {l l' : Ents} (h : ESt w wr r0 c m b c3 c4 j now l) (hE1 : Ext [m] wr w1) (hc : Clk w1 c m now l') (hE2 : Ext [b] w1 w2) (hm : IMap w2 b l') (hl : l'.length ≤ l.length + 1) (ho : POk now l') :
    ESt w w2 r0 c m b c3 c4 (j + 1) now l' := by
  obtain ⟨h1, h2, h3, h4, h5, h6, h7, h8, h9⟩ := h
  have a : ∀ x, x ≠ m → x ≠ b → ∀ o, wr.heap[x]? = some o → w2.heap[x]? = some o := fun x e1 e2 o hx => hE2.at (hE1.at hx (by simp; exact e1)) (by simp; exact e2)
  exact ⟨hc.ext hE2 (by simp; omega) (by simp; omega), hm, (h3.trans' hE1 (fun x hx => .inr (by simp at hx; omega))).trans' hE2 (fun x hx => .inr (by simp at hx; omega)),
    a _ (by omega) (by omega) _ h4, a _ (by omega) (by omega) _ h5, a _ (by omega) (by omega) _ h6, h7, ⟨h8.1, by omega, by omega⟩, ho⟩
theorem ESt.stays {w wr w1 : World} {r0 c m b c3 c4 j : Nat} {now : Int} {l : Ents} (h : ESt w wr r0 c m b c3 c4 j now l) (hE1 : Ext [m] wr w1) (hc : Clk w1 c m now l) : ESt w w1 r0 c m b c3 c4 (j + 1) now l := by
  obtain ⟨h1, h2, h3, h4, h5, h6, h7, h8, h9⟩ := h
  have a : ∀ x, x ≠ m → ∀ o, wr.heap[x]? = some o → w1.heap[x]? = some o := fun x e1 o hx => hE1.at hx (by simp; exact e1)
  exact ⟨hc, h2.ext hE1 (by simp; omega), h3.trans' hE1 (fun x hx => .inr (by simp at hx; omega)),
    a _ (by omega) _ h4, a _ (by omega) _ h5, a _ (by omega) _ h6, h7, ⟨h8.1, by omega, by omega⟩, h9⟩
theorem ESt.clock {w wr w1 : World} {r0 c m b c3 c4 j : Nat} {now now' : Int} {l : Ents} (h : ESt w wr r0 c m b c3 c4 j now l) (hE1 : Ext [c] wr w1) (hc : Clk w1 c m now' l) (hn : now ≤ now' ∧ now' ≤ now + 1) (ho : POk now' l) :
    ESt w w1 r0 c m b c3 c4 (j + 1) now' l := by
  obtain ⟨h1, h2, h3, h4, h5, h6, h7, h8, h9⟩ := h
  have a : ∀ x, x ≠ c → ∀ o, wr.heap[x]? = some o → w1.heap[x]? = some o := fun x e1 o hx => hE1.at hx (by simp; exact e1)
  exact ⟨hc, h2.ext hE1 (by simp; omega), h3.trans' hE1 (fun x hx => .inr (by simp at hx; omega)),
    a _ (by omega) _ h4, a _ (by omega) _ h5, a _ (by omega) _ h6, h7, ⟨by omega, by omega, by omega⟩, ho⟩
/-- what the iterator hands on lies in the map -/
theorem sortK_look {now : Int} {l : Ents} (ho : POk now l) (hn : (keysOf l).Nodup) {k : Nat} (hk : k < l.length) : ∃ a : Int, look l ((sortK l).getD k 0) = some (.int .i64 a) ∧ (a = now ∨ a = now - 1) := by
  have hk' : k < (sortK l).length := by rw [sortK_len]; exact hk
  have hm : (sortK l).getD k 0 ∈ keysOf l := (sortK_perm l).mem_iff.1 (by simp [hk'])
  obtain ⟨⟨x, v⟩, hp, hx⟩ := List.mem_map.1 hm
  obtain ⟨_, a, h2, h3⟩ := ho _ hp
  exact ⟨a, by rw [← hx, ← h2]; exact look_of_mem _ _ _ hn hp, h3⟩
theorem eqfn2 (g : Nat) (lb : Array Value) (w : World) : (binOp .eql 86 (.func (.func g) #[] lb) .nilFunc).run Try.prog w = .ok (.bool false) w := by
  kernel_rfl
theorem num14 (e : Int) (w : World) : Calls Try.prog 19 #[.int .i64 e] w fun x w' => x = .returned (.int .i64 e) ∧ w = w' := by
  go_enter Try.func19, Try.ntmps19
  go_wp2
  go_ret
  exact ⟨rfl, rfl⟩
end Go.Proofs.Ytgpoplnfhlfogaa
