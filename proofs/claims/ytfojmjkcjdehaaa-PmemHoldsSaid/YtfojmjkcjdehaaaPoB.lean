/- The law PmemHolds: what holds between two calls. -/
import Derived.Test.YtfojmjkcjdehaaaPoA
namespace Go.Proofs.Ytfojmjkcjdehaaa
open Go Go.RowKit Go.Shelf

structure HoSt (w W : World) (d lb sb b7 j : Nat) (D : Dv) (M : Nat → List Wd) : Prop where
  dev : DevAt W d lb sb D
  ok : DvOk D
  may : MayOk D M
  rows : ∃ V B O C, MayR w W b7 5 M V B O C
  ext : Ext [] w W
  hd : w.heap.size ≤ d
  hl : w.heap.size ≤ lb
  hs : w.heap.size ≤ sb
  h7 : w.heap.size ≤ b7
  len : ∀ k, k < 5 → (M k).length ≤ j + 1
theorem HoSt.ext1 {w W W' : World} {d lb sb b7 j : Nat} {D : Dv} {M : Nat → List Wd} (h : HoSt w W d lb sb b7 j D M) (hE : Ext [] W W') : HoSt w W' d lb sb b7 j D M := by
  obtain ⟨V, B, O, C, hr⟩ := h.rows
  exact ⟨h.dev.ext0 hE, h.ok, h.may, ⟨V, B, O, C, hr.ext0 hE⟩, h.ext.trans hE, h.hd, h.hl, h.hs, h.h7, h.len⟩
theorem HoSt.rowsD {w W W' : World} {d lb sb b7 j : Nat} {D : Dv} {M : Nat → List Wd} {V : Nat → Value} {B O C : Nat → Nat} (h : HoSt w W d lb sb b7 j D M) (hr : MayR w W b7 5 M V B O C) (hE : Ext [d, lb, sb] W W') : MayR w W' b7 5 M V B O C :=
  hr.ext hE (h.dev.noT (e := 72) (by decide) (by decide) (m := [d, lb, sb]) (fun j hj => by simpa using hj) _ _ hr.blk) (h.dev.noT (by decide) (by decide) (fun j hj => by simpa using hj))
theorem HoSt.extD {w W W' : World} {d lb sb b7 j : Nat} {D : Dv} {M : Nat → List Wd} (h : HoSt w W d lb sb b7 j D M) (hE : Ext [d, lb, sb] W W') : Ext [] w W' := h.ext.trans' hE (fun q hq => .inr (by have := h.hd; have := h.hl; have := h.hs; simp at hq; omega))
/-- behind a call by the device -/
theorem HoSt.acted {w W W' : World} {d lb sb b7 j : Nat} {D D' : Dv} {M : Nat → List Wd} (h : HoSt w W d lb sb b7 j D M) (hE : Ext [d, lb, sb] W W') (hD : DevAt W' d lb sb D') (hok : DvOk D') (hm : MayOk D' M) : HoSt w W' d lb sb b7 j D' M := by
  obtain ⟨V, B, O, C, hr⟩ := h.rows
  exact ⟨hD, hok, hm, ⟨V, B, O, C, h.rowsD hr hE⟩, h.extD hE, h.hd, h.hl, h.hs, h.h7, h.len⟩
/-- a call more -/
theorem HoSt.more {w W : World} {d lb sb b7 j : Nat} {D : Dv} {M : Nat → List Wd} (h : HoSt w W d lb sb b7 j D M) : HoSt w W d lb sb b7 (j + 1) D M :=
  ⟨h.dev, h.ok, h.may, h.rows, h.ext, h.hd, h.hl, h.hs, h.h7, fun k hk => by have := h.len k hk; omega⟩
/-- a device apart from a list's block -/
theorem HoSt.devRow {W W' : World} {d lb sb : Nat} {m : List Nat} {D : Dv} (hD : DevAt W d lb sb D) (hE : Ext m W W') (hb : ∀ b', b' ∈ m → W.heap.size ≤ b' ∨ ∃ cur, W.heap[b']? = some (.cells cur 68 (0, 0))) : DevAt W' d lb sb D := by
  have hlt := hD.lt
  have hne : ∀ q, q ∈ [d, lb, sb] → q ∉ m := fun q hq e => by
    rcases hb q e with hb | ⟨cur, hb⟩
    · simp at hq
      omega
    · exact hD.noT (e := 68) (by decide) (by decide) (m := [d, lb, sb]) (fun j hj => by simpa using hj) _ _ hb hq
  refine hD.ext hE (hne d (by simp)) (hne lb (by simp)) (hne sb (by simp)) (fun g cur hg hm => ?_)
  rcases hb g hm with hb | ⟨cur', hb⟩
  · have := lt_of_block hg
    omega
  · rw [hb] at hg
    simp at hg
/-- the same, but for what the lines may be -/
structure HoP (w W : World) (d lb sb b7 j : Nat) (D : Dv) (M : Nat → List Wd) : Prop where
  dev : DevAt W d lb sb D
  ok : DvOk D
  rows : ∃ V B O C, MayR w W b7 5 M V B O C
  ext : Ext [] w W
  hd : w.heap.size ≤ d
  hl : w.heap.size ≤ lb
  hs : w.heap.size ≤ sb
  h7 : w.heap.size ≤ b7
  len : ∀ k, k < 5 → (M k).length ≤ j + 1
theorem HoSt.p {w W : World} {d lb sb b7 j : Nat} {D : Dv} {M : Nat → List Wd} (h : HoSt w W d lb sb b7 j D M) : HoP w W d lb sb b7 j D M := ⟨h.dev, h.ok, h.rows, h.ext, h.hd, h.hl, h.hs, h.h7, h.len⟩
theorem HoP.ext1 {w W W' : World} {d lb sb b7 j : Nat} {D : Dv} {M : Nat → List Wd} (h : HoP w W d lb sb b7 j D M) (hE : Ext [] W W') : HoP w W' d lb sb b7 j D M := by
  obtain ⟨V, B, O, C, hr⟩ := h.rows
  exact ⟨h.dev.ext0 hE, h.ok, ⟨V, B, O, C, hr.ext0 hE⟩, h.ext.trans hE, h.hd, h.hl, h.hs, h.h7, h.len⟩
theorem HoSt.actedP {w W W' : World} {d lb sb b7 j : Nat} {D D' : Dv} {M : Nat → List Wd} (h : HoSt w W d lb sb b7 j D M) (hE : Ext [d, lb, sb] W W') (hD : DevAt W' d lb sb D') (hok : DvOk D') : HoP w W' d lb sb b7 j D' M := by
  obtain ⟨V, B, O, C, hr⟩ := h.rows
  exact ⟨hD, hok, ⟨V, B, O, C, h.rowsD hr hE⟩, h.extD hE, h.hd, h.hl, h.hs, h.h7, h.len⟩
/-- a list more, or another one, behind a call by the device that was told of -/
theorem HoP.setP {w W W' : World} {d lb sb b7 j j' k : Nat} {D : Dv} {M : Nat → List Wd} {V : Nat → Value} {B O C : Nat → Nat} (h : HoP w W d lb sb b7 j D M) (hr : MayR w W b7 5 M V B O C) {l : List Wd} {b' o' c' : Nat} (hk : k < 5) {m : List Nat} (hE : Ext m W W') (hm' : ∀ q, q ∈ m → q = B k ∨ W.heap.size ≤ q) (hb : b' = B k ∨ W.heap.size ≤ b')
    (hrow : RowO W' b' 68 o' l.length c' 8 (flat l)) (hj : j ≤ j') (hl : l.length ≤ j' + 1) : HoP w (W'.setCell ⟨b7, k, none⟩ (.slice (some ⟨b', o', none⟩) l.length c')) d lb sb b7 j' D (updM M k l) := by
  obtain ⟨V', B', O', C', hr'⟩ := hr.set hk (.inl rfl) h.ext.size hE (fun q hq => (hm' q hq).imp (fun e => ⟨hk, e⟩) id) (hb.imp (fun e => ⟨hk, e⟩) id) hrow
  have hD1 : DevAt W' d lb sb D := HoSt.devRow h.dev hE (fun q hq => by
    rcases hm' q hq with rfl | hb
    · obtain ⟨cur, h1, _⟩ := (hr.row k hk).blk
      exact .inr ⟨cur, h1⟩
    · exact .inl hb)
  have h7lt := lt_of_block hr.blk
  have hb7 : b7 ∉ m := fun hq => by
    rcases hm' _ hq with e | hb
    · exact hr.ne7 hk e.symm
    · omega
  have hb7T : b7 ∉ [d, lb, sb] := h.dev.noT (e := 72) (by decide) (by decide) (m := [d, lb, sb]) (fun j hj => by simpa using hj) _ _ hr.blk
  have hE7 : Ext [b7] W' (W'.setCell ⟨b7, k, none⟩ (.slice (some ⟨b', o', none⟩) l.length c')) := (Ext.refl [b7] W').setCell (.inl (by simp)) _
  have h7 := h.h7
  simp at hb7T
  refine ⟨hD1.ext hE7 (by simp; omega) (by simp; omega) (by simp; omega) (fun g cur hg hm => ?_), h.ok, ⟨V', B', O', C', hr'⟩, (h.ext.trans' hE (fun q hq => .inr (by
    rcases hm' q hq with rfl | hb
    · exact hr.new k hk
    · have := h.ext.size
      omega))).trans' hE7 (fun q hq => .inr (by simp at hq; omega)), h.hd, h.hl, h.hs, h7, fun q hq => ?_⟩
  · simp at hm
    subst hm
    rw [hE.at hr.blk hb7] at hg
    simp at hg
  · unfold updM
    split
    · omega
    · have := h.len q hq
      omega
theorem HoP.st {w W : World} {d lb sb b7 j : Nat} {D : Dv} {M : Nat → List Wd} (h : HoP w W d lb sb b7 j D M) (hm : MayOk D M) : HoSt w W d lb sb b7 j D M := ⟨h.dev, h.ok, hm, h.rows, h.ext, h.hd, h.hl, h.hs, h.h7, h.len⟩
theorem HoP.set {w W W' : World} {d lb sb b7 j k : Nat} {D : Dv} {M : Nat → List Wd} {V : Nat → Value} {B O C : Nat → Nat} (h : HoP w W d lb sb b7 j D M) (hr : MayR w W b7 5 M V B O C) {l : List Wd} {b' o' c' : Nat} (hk : k < 5) {m : List Nat} (hE : Ext m W W') (hm' : ∀ q, q ∈ m → q = B k ∨ W.heap.size ≤ q) (hb : b' = B k ∨ W.heap.size ≤ b')
    (hrow : RowO W' b' 68 o' l.length c' 8 (flat l)) (hm : MayOk D (updM M k l)) (hl : l.length ≤ j + 2) : HoSt w (W'.setCell ⟨b7, k, none⟩ (.slice (some ⟨b', o', none⟩) l.length c')) d lb sb b7 (j + 1) D (updM M k l) :=
  (h.setP hr hk hE hm' hb hrow (Nat.le_succ j) hl).st hm
/-- a map is another one -/
theorem HoSt.extM {w W W' : World} {d lb sb b7 j mb : Nat} {D : Dv} {M : Nat → List Wd} {l : Ents} (h : HoSt w W d lb sb b7 j D M) (hI : IMap W mb l) (hw : w.heap.size ≤ mb) (hE : Ext [mb] W W') : HoSt w W' d lb sb b7 j D M := by
  obtain ⟨V, B, O, C, hr⟩ := h.rows
  obtain ⟨es, clock, hmb, _⟩ := hI
  have key : ∀ (q : Nat) (cs : Array Value) (e : TypeId) (f : Nat × Nat), W.heap[q]? = some (.cells cs e f) → q ∉ [mb] := fun q cs e f hq hm => by
    simp at hm
    rw [hm, hmb] at hq
    simp at hq
  have hd := h.dev
  obtain ⟨⟨cl, cs, wv, h1, _⟩, ⟨c2, h2, _⟩, ⟨c3, h3, _⟩, _⟩ := h.dev
  exact ⟨hd.ext hE (key _ _ _ _ h1) (key _ _ _ _ h2) (key _ _ _ _ h3) (fun g cur hg => key _ _ _ _ hg), h.ok, h.may, ⟨V, B, O, C, hr.ext hE (key _ _ _ _ hr.blk) (fun g cur hg => key _ _ _ _ hg)⟩,
    h.ext.trans' hE (fun q hq => .inr (by simp at hq; omega)), h.hd, h.hl, h.hs, h.h7, h.len⟩
/-- the lists behind a fence, the first n of them -/
def Mf (n : Nat) (W : List Wt) (M : Nat → List Wd) : Nat → List Wd := fun q => if decide (q < n) && waitsB W q then [lastW (M q)] else M q
theorem Mf_zero (W : List Wt) (M : Nat → List Wd) : Mf 0 W M = M := by
  funext q
  unfold Mf
  simp
theorem Mf_yes {n : Nat} {W : List Wt} {M : Nat → List Wd} (h : waitsB W n = true) : Mf (n + 1) W M = updM (Mf n W M) n [lastW (Mf n W M n)] := by
  have hn : Mf n W M n = M n := by unfold Mf; simp
  rw [hn]
  funext q
  unfold Mf updM
  by_cases e : q = n
  · subst e
    simp [h]
  · rw [if_neg e, show decide (q < n + 1) = decide (q < n) from decide_eq_decide.2 (by omega)]
theorem Mf_no {n : Nat} {W : List Wt} {M : Nat → List Wd} (h : waitsB W n = false) : Mf (n + 1) W M = Mf n W M := by
  funext q
  unfold Mf
  by_cases e : q = n
  · subst e
    simp [h]
  · rw [show decide (q < n + 1) = decide (q < n) from decide_eq_decide.2 (by omega)]
theorem MayOk.fenced {D : Dv} {M : Nat → List Wd} (h : MayOk D M) : MayOk D.fence (Mf 5 D.W M) := by
  have hf := h.fence
  have key : ∀ k, k < 5 → Mf 5 D.W M k = if waitsB D.W k = true then [lastW (M k)] else M k := fun k hk => by
    unfold Mf
    simp [hk]
  exact ⟨hf.n5, fun k hk => by rw [key k hk]; exact hf.ne k hk, fun k hk => by rw [key k hk]; exact hf.stay k hk, fun p hp => (by cases hp)⟩
theorem DevAt.neM {w : World} {d lb sb mb : Nat} {D : Dv} {l : Ents} (h : DevAt w d lb sb D) (hI : IMap w mb l) : mb ∉ [d, lb, sb] := by
  obtain ⟨es, clock, hmb, _⟩ := hI
  obtain ⟨⟨cl, cs, wv, h1, _⟩, ⟨c2, h2, _⟩, ⟨c3, h3, _⟩, _⟩ := h
  intro hm
  simp at hm
  rcases hm with e | e | e
  · rw [e, h1] at hmb
    simp at hmb
  · rw [e, h2] at hmb
    simp at hmb
  · rw [e, h3] at hmb
    simp at hmb
theorem waitsB_succ {W : List Wt} {q k : Nat} (hq : q < W.length) : waitsB (W.take (q + 1)) k = (waitsB (W.take q) k || (W.getD q wtD).1 == k) := by
  unfold waitsB
  rw [List.take_add_one, List.any_append, List.getElem?_eq_getElem hq, List.getD_eq_getElem?_getD, List.getElem?_eq_getElem hq]
  simp
theorem zeroI (w : World) : (zeroValue 3).run Try.prog w = .ok (.int .i64 0) w := by kernel_rfl
/-- is it one of the first q? -/
def fnd (l : List Wd) (G : Wd) (q : Nat) : Bool := (l.take q).any fun H => eqW H G
theorem fnd_succ {l : List Wd} {G : Wd} {q : Nat} (hq : q < l.length) : fnd l G (q + 1) = (fnd l G q || eqW (l.getD q (fun _ => 0)) G) := by
  unfold fnd
  rw [List.take_add_one, List.any_append, List.getElem?_eq_getElem hq, List.getD_eq_getElem?_getD, List.getElem?_eq_getElem hq]
  simp
theorem fnd_all {l : List Wd} {G : Wd} (h : ∃ H ∈ l, ∀ i, i < 8 → H i = G i) : fnd l G l.length = true := by
  obtain ⟨H, hH, he⟩ := h
  unfold fnd
  rw [List.take_length]
  exact List.any_eq_true.2 ⟨H, hH, eqW_of he⟩
theorem flat_at : ∀ (l : List Wd) (q : Nat), q < l.length → ∀ j, j < 8 → (flat l)[q * 8 + j]? = some (.int .u64 (l.getD q (fun _ => 0) j))
  | [], _, h, _, _ => absurd h (Nat.not_lt_zero _)
  | G :: l, 0, _, j, hj => by
    unfold flat
    rw [List.flatMap_cons, List.getElem?_append_left (by simp [w8]; omega)]
    match j, hj with
    | 0, _ => rfl
    | 1, _ => rfl
    | 2, _ => rfl
    | 3, _ => rfl
    | 4, _ => rfl
    | 5, _ => rfl
    | 6, _ => rfl
    | 7, _ => rfl
  | G :: l, q + 1, h, j, hj => by
    have := flat_at l q (by simpa using h) j hj
    unfold flat at this ⊢
    rw [List.flatMap_cons, List.getElem?_append_right (by simp [w8]; omega), show (q + 1) * 8 + j - (w8 G).toList.length = q * 8 + j from by simp [w8]; omega, this]
    rfl
theorem eqArr8 (G H : Wd) (w : World) : (binOp .eql 68 (.agg #[.int .u64 (G 0), .int .u64 (G 1), .int .u64 (G 2), .int .u64 (G 3), .int .u64 (G 4), .int .u64 (G 5), .int .u64 (G 6), .int .u64 (G 7)]) (.agg #[.int .u64 (H 0), .int .u64 (H 1), .int .u64 (H 2), .int .u64 (H 3), .int .u64 (H 4), .int .u64 (H 5), .int .u64 (H 6), .int .u64 (H 7)])).run Try.prog w = .ok (.bool (eqW G H)) w :=
  run_eqArr (P := Try.prog) w 68 8 23 .u64 Try.underlying68 Try.underlying23 (sizeU w) G H
theorem RowO.eight {w : World} {b e off cap : Nat} {l : List Wd} (h : RowO w b e off l.length cap 8 (flat l)) {q : Nat} (hq : q < l.length) {G : Wd} (hG : l.getD q (fun _ => 0) = G) :
    w.cell? ⟨b, off + q * 8, none⟩ = some (.int .u64 (G 0)) ∧ w.cell? ⟨b, off + q * 8 + 1, none⟩ = some (.int .u64 (G 1)) ∧ w.cell? ⟨b, off + q * 8 + 2, none⟩ = some (.int .u64 (G 2)) ∧ w.cell? ⟨b, off + q * 8 + 3, none⟩ = some (.int .u64 (G 3)) ∧ w.cell? ⟨b, off + q * 8 + 4, none⟩ = some (.int .u64 (G 4)) ∧ w.cell? ⟨b, off + q * 8 + 5, none⟩ = some (.int .u64 (G 5)) ∧ w.cell? ⟨b, off + q * 8 + 6, none⟩ = some (.int .u64 (G 6)) ∧ w.cell? ⟨b, off + q * 8 + 7, none⟩ = some (.int .u64 (G 7)) := by
  subst hG
  have key : ∀ j, j < 8 → w.cell? ⟨b, off + q * 8 + j, none⟩ = some (.int .u64 (l.getD q (fun _ => 0) j)) := fun j hj => by
    rw [Nat.add_assoc]
    exact h.at' _ _ (flat_at l q hq j hj)
  exact ⟨key 0 (by omega), key 1 (by omega), key 2 (by omega), key 3 (by omega), key 4 (by omega), key 5 (by omega), key 6 (by omega), key 7 (by omega)⟩
/-- the marks that ranges left -/
structure MarkOk (w W : World) (Ds : List Nat) : Prop where
  at' : ∀ D ∈ Ds, W.heap[D]? = some (.deferred (some [])) ∧ w.heap.size ≤ D
  nd : Ds.Nodup
theorem MarkOk.ext {w W W' : World} {Ds m : List Nat} (h : MarkOk w W Ds) (hE : Ext m W W') (hm : ∀ q, q ∈ m → W.heap.size ≤ q ∨ ∃ cur T fr, W.heap[q]? = some (.cells cur T fr)) : MarkOk w W' Ds :=
  ⟨fun D hD => ⟨hE.at (h.at' D hD).1 (fun hq => by
    rcases hm D hq with hb | ⟨cur, T, fr, hc⟩
    · have := lt_of_block (h.at' D hD).1
      omega
    · rw [(h.at' D hD).1] at hc
      simp at hc), (h.at' D hD).2⟩, h.nd⟩
theorem MarkOk.ext0 {w W W' : World} {Ds : List Nat} (h : MarkOk w W Ds) (hE : Ext [] W W') : MarkOk w W' Ds := h.ext hE (fun q hq => by cases hq)
theorem MarkOk.extD {w W W' : World} {Ds : List Nat} {d lb sb : Nat} {D : Dv} (h : MarkOk w W Ds) (hD : DevAt W d lb sb D) (hE : Ext [d, lb, sb] W W') : MarkOk w W' Ds :=
  h.ext hE (fun q hq => by
    obtain ⟨⟨cl, cs, wv, h1, _⟩, ⟨c2, h2, _⟩, ⟨c3, h3, _⟩, _⟩ := hD
    simp at hq
    rcases hq with rfl | rfl | rfl
    · exact .inr ⟨_, _, _, h1⟩
    · exact .inr ⟨_, _, _, h2⟩
    · exact .inr ⟨_, _, _, h3⟩)
theorem MarkOk.cons {w W : World} {Ds : List Nat} {D : Nat} (h : MarkOk w W Ds) (hD : W.heap[D]? = some (.deferred (some []))) (hn : D ∉ Ds) (hw : w.heap.size ≤ D) : MarkOk w W (D :: Ds) :=
  ⟨fun q hq => by
    rcases List.mem_cons.1 hq with rfl | hq
    · exact ⟨hD, hw⟩
    · exact h.at' q hq, List.nodup_cons.2 ⟨hn, h.nd⟩⟩
theorem MarkOk.extM {w W W' : World} {Ds : List Nat} {mb : Nat} {l : Ents} (h : MarkOk w W Ds) (hI : IMap W mb l) (hE : Ext [mb] W W') : MarkOk w W' Ds :=
  ⟨fun D hD => ⟨hE.at (h.at' D hD).1 (fun hq => by
    obtain ⟨es, clock, hmb, _⟩ := hI
    simp at hq
    rw [← hq, (h.at' D hD).1] at hmb
    simp at hmb), (h.at' D hD).2⟩, h.nd⟩
end Go.Proofs.Ytfojmjkcjdehaaa
