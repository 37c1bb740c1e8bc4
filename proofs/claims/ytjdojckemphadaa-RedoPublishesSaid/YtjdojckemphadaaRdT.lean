/- redo's touches, gathered one by one. -/
import Derived.Test.YtjdojckemphadaaTsA
import Derived.Deep.LoopGhost
import Derived.RegionTactic
namespace Go.Proofs.Ytjdojckemphadaa
open Go Go.RowKit Go.Shelf
attribute [local go_sem] Oper.semAt_some

/-- nothing that was there has turned but block tb, and rows of touches -/
structure Tx (tb : Nat) (w w' : World) : Prop where
  os : w'.os = w.os
  tape : w'.tape = w.tape
  output : w'.output = w.output
  size : w.heap.size ≤ w'.heap.size
  block : ∀ k o, w.heap[k]? = some o → k ≠ tb → (∀ cur f, o ≠ .cells cur 44 f) → w'.heap[k]? = some o
theorem Tx.refl (tb : Nat) (w : World) : Tx tb w w := ⟨rfl, rfl, rfl, Nat.le_refl _, fun _ _ h _ _ => h⟩
theorem Tx.trans {tb : Nat} {a b c : World} (h : Tx tb a b) (k : Tx tb b c) : Tx tb a c :=
  ⟨k.os.trans h.os, k.tape.trans h.tape, k.output.trans h.output, Nat.le_trans h.size k.size, fun i o h1 h2 h3 => k.block i o (h.block i o h1 h2 h3) h2 h3⟩
theorem Ext.tx {tb : Nat} {m : List Nat} {a b : World} (h : Ext m a b) (hm : ∀ j ∈ m, j = tb ∨ a.heap.size ≤ j) : Tx tb a b :=
  ⟨h.os, h.tape, h.output, h.size, fun k o hk hne _ => h.at hk (fun hmem => (hm k hmem).elim hne (fun hl => by have := lt_of_block hk; omega))⟩
theorem Ext.tx0 {tb : Nat} {a b : World} (h : Ext [] a b) : Tx tb a b := h.tx (fun _ hj => by cases hj)
theorem Tx.map {tb : Nat} {w w' : World} {b : Nat} {l : Ents} (h : IMap w b l) (hx : Tx tb w w') (hb : b ≠ tb) : IMap w' b l := by
  obtain ⟨es, c, hb2, r⟩ := h
  exact ⟨es, c, hx.block b _ hb2 hb (fun cur f e => by cases e), r⟩
/-- touches that are gathered in block tb -/
structure TB (w0 W : World) (tb : Nat) (L : List Tch) : Prop where
  ex : Ext [tb] w0 W
  has : ∃ v, W.heap[tb]? = some (.cells #[v] 48 (0, 0)) ∧ TcOwn W w0.heap.size v L
theorem own_touch {W : World} {base : Nat} {v : Value} {L : List Tch} (h : TcOwn W base v L) {g : Nat} (hg : v.ownBlock = some g) : ∃ cur f, W.heap[g]? = some (.cells cur 44 f) := by
  unfold TcOwn at h
  rcases h.2 with ⟨rfl, _⟩ | ⟨g', cap, cur, rfl, _, hgb, _⟩
  · simp [Value.ownBlock] at hg
  · obtain rfl : g' = g := by simpa [Value.ownBlock] using hg
    exact ⟨_, _, hgb⟩
theorem TB.ne {W : World} {base tb : Nat} {v u : Value} {L : List Tch} {g : Nat} (hb : W.heap[tb]? = some (.cells #[u] 48 (0, 0))) (h : TcOwn W base v L) (hg : v.ownBlock = some g) : g ≠ tb := fun e => by
  obtain ⟨cur, f, h1⟩ := own_touch h hg
  rw [e, hb] at h1
  simp at h1
theorem TB.ext0 {w0 W W' : World} {tb : Nat} {L : List Tch} (h : TB w0 W tb L) (hE : Ext [] W W') : TB w0 W' tb L := by
  obtain ⟨v, h1, h2⟩ := h.has
  exact ⟨h.ex.then hE, v, hE.at h1 (by simp), h2.ext hE⟩
/-- another block has turned -/
theorem TB.other {w0 W W' : World} {tb m : Nat} {L : List Tch} {o : Obj} (h : TB w0 W tb L) (hm : w0.heap.size ≤ m) (ho : W.heap[m]? = some o) (hc : ∀ cur e f, o ≠ .cells cur e f) (hE : Ext [m] W W') : TB w0 W' tb L := by
  obtain ⟨v, h1, h2⟩ := h.has
  have hne : tb ≠ m := fun e => by rw [← e, h1] at ho; cases ho; exact hc _ _ _ rfl
  refine ⟨h.ex.trans' hE (fun j hj => .inr (by simp at hj; omega)), v, hE.at h1 (by simpa using hne), owns_ext h2 hE (fun g hg hmem => ?_)⟩
  obtain ⟨cur, f, h3⟩ := own_touch h2 hg
  simp at hmem
  rw [hmem, ho] at h3
  cases h3
  exact hc _ _ _ rfl
/-- one more -/
theorem TB.push {w0 W W1 wA : World} {tb : Nat} {L : List Tch} {v v1 : Value} (t : Tch) (hb : W.heap[tb]? = some (.cells #[v] 48 (0, 0))) (hO : TcOwn W w0.heap.size v L) (hX : Ext [tb] w0 W)
    (hE1 : Ext [] W W1) (hEA : Ext v.ownBlock.toList W1 wA) (hO1 : TcOwn wA w0.heap.size v1 (L ++ [t])) :
    wA.heap[tb]? = some (.cells #[v] 48 (0, 0)) ∧ TB w0 (wA.setCell ⟨tb, 0, none⟩ v1) tb (L ++ [t]) ∧ Tx tb W (wA.setCell ⟨tb, 0, none⟩ v1) := by
  have hb1 := hE1.at hb (by simp)
  have hbA : wA.heap[tb]? = some (.cells #[v] 48 (0, 0)) := hEA.at hb1 (fun hm => TB.ne hb hO (by simpa using hm) rfl)
  have hS : Ext [tb] wA (wA.setCell ⟨tb, 0, none⟩ v1) := (Ext.refl _ _).setCell (.inl (by simp)) _
  have hXA : Ext [tb] w0 wA := (hX.then hE1).trans' hEA (fun j hj => .inr (hO.lt j (by simpa using hj)).1)
  refine ⟨hbA, ⟨hXA.trans hS, v1, cell1_set hbA v1, owns_ext hO1 hS (fun g hg hm => TB.ne hbA hO1 hg (by simpa using hm))⟩, ?_⟩
  refine ⟨hS.os.trans (hEA.os.trans hE1.os), hS.tape.trans (hEA.tape.trans hE1.tape), hS.output.trans (hEA.output.trans hE1.output), Nat.le_trans hE1.size (Nat.le_trans hEA.size hS.size), fun k o hk hne hnt => ?_⟩
  have h1 := hE1.at hk (by simp)
  have h2 : wA.heap[k]? = some o := hEA.at h1 (fun hm => by
    obtain ⟨cur, f, h3⟩ := own_touch hO (g := k) (by simpa using hm)
    rw [hk] at h3
    cases h3
    exact hnt _ _ rfl)
  exact hS.at h2 (by simpa using hne)
def ThPost (w0 W : World) (tb : Nat) (L' : List Tch) (e : Ending) (W' : World) : Prop := (∃ v, e = .returned v) ∧ TB w0 W' tb L' ∧ Tx tb W W'

/-- the same, with what may have turned -/
def ThPostX (base : Nat) (W : World) (tb : Nat) (v : Value) (L' : List Tch) (e : Ending) (W' : World) : Prop :=
  (∃ u, e = .returned u) ∧ Ext (tb :: v.ownBlock.toList) W W' ∧ ∃ v', W'.heap[tb]? = some (.cells #[v'] 48 (0, 0)) ∧ TcOwn W' base v' L' ∧ ∀ g, v'.ownBlock = some g → v.ownBlock = some g ∨ W.heap.size ≤ g
theorem ThPostX.plain {w0 W W' : World} {tb : Nat} {v : Value} {L L' : List Tch} {e : Ending} (h : ThPostX w0.heap.size W tb v L' e W') (hO : TcOwn W w0.heap.size v L) (hX : Ext [tb] w0 W) : ThPost w0 W tb L' e W' := by
  obtain ⟨h1, h2, v', h3, h4, _⟩ := h
  refine ⟨h1, ⟨hX.trans' h2 (fun j hj => (List.mem_cons.1 hj).elim (fun e => .inl (by simp [e])) (fun hm => .inr (hO.lt j (by simpa using hm)).1)), v', h3, h4⟩, h2.os, h2.tape, h2.output, h2.size, fun k o hk hne hnt => h2.at hk (fun hm => ?_)⟩
  rcases List.mem_cons.1 hm with e | hm
  · exact hne e
  · obtain ⟨cur, f, h5⟩ := own_touch hO (g := k) (by simpa using hm)
    rw [hk] at h5
    cases h5
    exact hnt _ _ rfl

set_option maxRecDepth 100000 in
set_option maxHeartbeats 1000000 in
theorem th_storeX (base : Nat) (W : World) (tb : Nat) (L : List Tch) (v : Value) (a x : Int) (hb : W.heap[tb]? = some (.cells #[v] 48 (0, 0))) (hO : TcOwn W base v L) (hbase : base ≤ W.heap.size) (hn : L.length ≤ 100000) :
    Calls Try.prog 36 #[.pointer (some ⟨tb, 0, none⟩), .int .i64 a, .int .u64 x] W (ThPostX base W tb v (L ++ [⟨2, a, x⟩])) := by
  obtain ⟨vo, vcap, rfl, _, _⟩ := hO.at (N := 0)
  obtain ⟨i0, hi, hz0, hz1, hz2⟩ := info_parts infoTch
  have HI := Lib.hid (And.intro hi (And.intro hz0 (And.intro hz1 (And.intro hz2 hn))))
  obtain ⟨n, hnl⟩ : ∃ n, L.length = n := ⟨_, rfl⟩
  have hO2 := hO
  unfold TcOwn at hO2
  rw [hnl] at hO2 hb HI hO ⊢
  have hb1 := World.alloc_heap_new W (.cells #[.int .i64 2, .int .i64 a, .int .u64 x] 44)
  have hE1 : Ext [] W (W.alloc (.cells #[.int .i64 2, .int .i64 a, .int .u64 x] 44)) := (Ext.refl _ _).alloc _
  have HB := Lib.hid (And.intro hb1 (And.intro hE1 (And.intro hO2 (And.intro hnl (And.intro hbase hb)))))
  have k0 := cell_of (j := 0) (v := .slice vo n vcap) hb rfl
  have HO := Lib.hid hO
  clear hO hO2 hi hz0 hz1 hz2 hb hb1 hE1 hnl hn hbase
  go_enter Try.func36, Try.ntmps36
  go_wp2_with (at_builtin; refine wpList_append_any rfl _ _ 48 rfl base 44 i0 _ 3 24 Try.underlying48 HI.out.1 HI.out.2.1 HI.out.2.2.1 HI.out.2.2.2.1 rfl (by omega) (.slice vo n vcap) n _ rfl (owns_ext HB.out.2.2.1 HB.out.2.1 (fun _ _ => by simp)) (some ⟨W.heap.size, 0, none⟩) 1 1 (tchR ⟨2, a, x⟩) rfl (tch_src ⟨2, a, x⟩ HB.out.1) ?c1 ?c2 ?c3 ?_)
  case c1 => have := HI.out.2.2.2.2; unfold maxLen; omega
  case c2 => have := HI.out.2.2.2.2; omega
  case c3 => have := HB.out.2.2.2.2.1; simp; omega
  intro v1 wA ho1 hEA hbk
  have hO1 : TcOwn wA base v1 (L ++ [⟨2, a, x⟩]) := TcOwn.snoc ⟨2, a, x⟩ HB.out.2.2.2.1 ho1
  obtain ⟨q, hq⟩ : ∃ q, (L ++ [(⟨2, a, x⟩ : Tch)]).length = q := ⟨_, rfl⟩
  obtain ⟨uo, ucap, hv1, _, _⟩ := hO1.at (N := 0)
  rw [hq] at hv1
  subst hv1
  clear hq
  have hbA : wA.heap[tb]? = some (.cells #[.slice vo n vcap] 48 (0, 0)) := hEA.at (HB.out.2.1.at HB.out.2.2.2.2.2 (by simp)) (fun hm => TB.ne HB.out.2.2.2.2.2 HO.out (by simpa using hm) rfl)
  have hS : Ext [tb] wA (wA.setCell ⟨tb, 0, none⟩ (.slice uo q ucap)) := (Ext.refl _ _).setCell (.inl (by simp)) _
  have k1 := cell_of (j := 0) (v := .slice vo n vcap) hbA rfl
  have f1 := free_of hbA 0
  have HF : Hid (Ext (tb :: (Value.slice vo n vcap).ownBlock.toList) W (wA.setCell ⟨tb, 0, none⟩ (.slice uo q ucap)) ∧ ∃ v', (wA.setCell ⟨tb, 0, none⟩ (.slice uo q ucap)).heap[tb]? = some (.cells #[v'] 48 (0, 0)) ∧ TcOwn (wA.setCell ⟨tb, 0, none⟩ (.slice uo q ucap)) base v' (L ++ [⟨2, a, x⟩]) ∧ ∀ g, v'.ownBlock = some g → (Value.slice vo n vcap).ownBlock = some g ∨ W.heap.size ≤ g) := by
    refine ⟨((HB.out.2.1.mono (fun j hj => by cases hj)).trans' hEA (fun j hj => .inl (List.mem_cons_of_mem _ hj))).trans' hS (fun j hj => .inl (by simp at hj; simp [hj])), _, cell1_set hbA _, owns_ext hO1 hS (fun g hg hm => TB.ne hbA hO1 hg (by simpa using hm)), fun g hg => (hbk g hg).imp id (fun h => by first | omega | (simp at h; omega))⟩
  clear k0 ho1 hEA hO1 hbA hS hbk
  go_wp2
  go_end0
  exact ⟨⟨_, rfl⟩, HF.out⟩
theorem th_store (w0 W : World) (tb : Nat) (L : List Tch) (a x : Int) (h : TB w0 W tb L) (hn : L.length ≤ 100000) :
    Calls Try.prog 36 #[.pointer (some ⟨tb, 0, none⟩), .int .i64 a, .int .u64 x] W (ThPost w0 W tb (L ++ [⟨2, a, x⟩])) := by
  obtain ⟨v, hb, hO⟩ := h.has
  exact (th_storeX w0.heap.size W tb L v a x hb hO h.ex.size hn).mono (fun e W' hp => hp.plain hO h.ex)

set_option maxRecDepth 100000 in
set_option maxHeartbeats 1000000 in
theorem th_fence (w0 W : World) (tb : Nat) (L : List Tch) (h : TB w0 W tb L) (hn : L.length ≤ 100000) :
    Calls Try.prog 39 #[.pointer (some ⟨tb, 0, none⟩)] W (ThPost w0 W tb (L ++ [⟨4, 0, 0⟩])) := by
  obtain ⟨v, hb, hO⟩ := h.has
  obtain ⟨vo, vcap, rfl, _, _⟩ := hO.at (N := 0)
  obtain ⟨i0, hi, hz0, hz1, hz2⟩ := info_parts infoTch
  have HI := Lib.hid (And.intro hi (And.intro hz0 (And.intro hz1 (And.intro hz2 hn))))
  obtain ⟨n, hnl⟩ : ∃ n, L.length = n := ⟨_, rfl⟩
  have hO2 := hO
  unfold TcOwn at hO2
  rw [hnl] at hO2 hb HI
  have hb1 := World.alloc_heap_new W (.cells #[.int .i64 4, .int .i64 0, .int .u64 0] 44)
  have hE1 : Ext [] W (W.alloc (.cells #[.int .i64 4, .int .i64 0, .int .u64 0] 44)) := (Ext.refl _ _).alloc _
  have HB := Lib.hid (And.intro hb1 (And.intro hE1 (And.intro hO2 (And.intro hnl (And.intro (show w0.heap.size ≤ W.heap.size from h.ex.size) (And.intro hb h.ex))))))
  have k0 := cell_of (j := 0) (v := .slice vo n vcap) hb rfl
  rw [hnl] at hO
  have HO := Lib.hid hO
  clear h hO hO2 hi hz0 hz1 hz2 hb hb1 hE1 hnl hn
  go_enter Try.func39, Try.ntmps39
  go_wp2_with (at_builtin; refine wpList_append_any rfl _ _ 48 rfl w0.heap.size 44 i0 _ 3 24 Try.underlying48 HI.out.1 HI.out.2.1 HI.out.2.2.1 HI.out.2.2.2.1 rfl (by omega) (.slice vo n vcap) n _ rfl (owns_ext HB.out.2.2.1 HB.out.2.1 (fun _ _ => by simp)) (some ⟨W.heap.size, 0, none⟩) 1 1 (tchR ⟨4, 0, 0⟩) rfl (tch_src ⟨4, 0, 0⟩ HB.out.1) ?c1 ?c2 ?c3 ?_)
  case c1 => have := HI.out.2.2.2.2; unfold maxLen; omega
  case c2 => have := HI.out.2.2.2.2; omega
  case c3 => have := HB.out.2.2.2.2.1; simp; omega
  intro v1 wA ho1 hEA _
  have hO1 : TcOwn wA w0.heap.size v1 (L ++ [⟨4, 0, 0⟩]) := TcOwn.snoc ⟨4, 0, 0⟩ HB.out.2.2.2.1 ho1
  obtain ⟨q, hq⟩ : ∃ q, (L ++ [(⟨4, 0, 0⟩ : Tch)]).length = q := ⟨_, rfl⟩
  obtain ⟨uo, ucap, hv1, _, _⟩ := hO1.at (N := 0)
  rw [hq] at hv1
  subst hv1
  clear hq
  obtain ⟨hbA, hT, hX⟩ := TB.push ⟨4, 0, 0⟩ HB.out.2.2.2.2.2.1 HO.out HB.out.2.2.2.2.2.2 HB.out.2.1 hEA hO1
  have k1 := cell_of (j := 0) (v := .slice vo n vcap) hbA rfl
  have f1 := free_of hbA 0
  have HF := Lib.hid (And.intro hT hX)
  clear k0 ho1 hEA hO1 hbA hT hX
  go_wp2
  go_end0
  exact ⟨⟨_, rfl⟩, HF.out.1, HF.out.2⟩

/-- ints, in a row of ints -/
def IntT (W : World) (ao : Option Addr) (K : List Int) : Prop := IntsAt W ao K ∧ ∀ p, ao = some p → K ≠ [] → ∃ cur f, W.heap[p.block]? = some (.cells cur 3 f)
theorem IntT.tx {W W' : World} {tb : Nat} {u : Value} {ao : Option Addr} {K : List Int} (h : IntT W ao K) (hb : W.heap[tb]? = some (.cells #[u] 48 (0, 0))) (hx : Tx tb W W') : IntT W' ao K := by
  have key : ∀ p, ao = some p → K ≠ [] → W'.heap[p.block]? = W.heap[p.block]? := fun p hp hK => by
    obtain ⟨cur, f, h1⟩ := h.2 p hp hK
    rw [h1]
    refine hx.block _ _ h1 (fun e => by rw [e, hb] at h1; simp at h1) (fun cur f e => by simp at e)
  refine ⟨fun i hi => ?_, fun p hp hK => ?_⟩
  · obtain ⟨g, off, h1, h2⟩ := h.1 i hi
    have e : W'.heap[g]? = W.heap[g]? := key _ h1 (fun e => by rw [e] at hi; simp at hi)
    refine ⟨g, off, h1, ?_⟩
    simp only [World.cell?] at h2 ⊢
    rw [e]
    exact h2
  · obtain ⟨cur, f, h1⟩ := h.2 p hp hK
    exact ⟨cur, f, (key p hp hK).trans h1⟩
theorem IntOwn.typed {w : World} {base : Nat} {v : Value} {S : List Int} (h : IntOwn w base v S) : ∃ ao cap, v = .slice ao S.length cap ∧ IntT w ao S := by
  obtain ⟨ao, cap, rfl, h1, _⟩ := h.at
  refine ⟨ao, cap, rfl, h1, fun p hp hK => ?_⟩
  unfold IntOwn at h
  rcases h.2 with ⟨h2, hx⟩ | ⟨g', cap', cur, h2, _, hgb, _⟩
  · exact absurd (List.eq_nil_of_length_eq_zero (by simpa using hx)) hK
  · injection h2 with e1
    rw [hp] at e1
    cases e1
    exact ⟨_, _, hgb⟩
theorem IntT.one {w : World} {B : Nat} {x : Int} (h : w.heap[B]? = some (.cells #[.int .i64 x] 3 (0, 0))) : IntT w (some ⟨B, 0, none⟩) [x] := by
  refine ⟨fun i hi => ⟨B, 0, rfl, ?_⟩, fun p hp _ => by cases hp; exact ⟨_, _, h⟩⟩
  obtain rfl : i = 0 := by simp at hi; omega
  exact cell_of h rfl
/-- flushes of lines -/
def flK (K : List Int) : List Tch := K.map (fun k => (⟨3, k, 0⟩ : Tch))
theorem flK_succ {K : List Int} {j : Nat} (h : j < K.length) : flK (K.take (j + 1)) = flK (K.take j) ++ [⟨3, K.getD j 0, 0⟩] := by
  unfold flK
  rw [List.take_succ_eq_append_getElem h, List.map_append, show K.getD j 0 = K[j] from by simp [h]]
  rfl

set_option maxRecDepth 100000 in
set_option maxHeartbeats 2000000 in
theorem th_flush (w0 W : World) (tb : Nat) (L : List Tch) (ao : Option Addr) (cap : Nat) (K : List Int) (h : TB w0 W tb L) (hK : IntT W ao K) (hn : L.length ≤ 50000) (hk : K.length ≤ 50000) :
    Calls Try.prog 37 #[.pointer (some ⟨tb, 0, none⟩), .slice ao K.length cap] W (ThPost w0 W tb (L ++ flK K)) := by
  obtain ⟨i0, hi, hz0, hz1, hz2⟩ := info_parts infoTch
  have HI := Lib.hid (And.intro hi (And.intro hz0 (And.intro hz1 (And.intro hz2 (And.intro hn hk)))))
  obtain ⟨n, hnl⟩ : ∃ n, K.length = n := ⟨_, rfl⟩
  have H0 := Lib.hid (And.intro h (And.intro hK hnl))
  rw [hnl] at hk ⊢
  clear h hK hi hz0 hz1 hz2 hn hnl
  go_enter Try.func37, Try.ntmps37
  go_wp2
  go_loopg [8] n (fun c i wr => ∃ j : Nat, i = .int .i64 j ∧ j + c = n ∧ TB w0 wr tb (L ++ flK (K.take j)) ∧ Tx tb W wr)
  case atStart => exact ⟨0, rfl, by omega, by simpa [flK] using H0.out.1, Tx.refl _ _⟩
  case round =>
    obtain ⟨j, rfl, hjk, hT, hX⟩ := hrel
    by_cases hlt : j < n
    · obtain ⟨u0, hu0, _⟩ := H0.out.1.has
      have hK2 := H0.out.2.1.tx hu0 hX
      obtain ⟨g, off, rfl, c0⟩ := hK2.1 j (by rw [H0.out.2.2]; exact hlt)
      have hsn := flK_succ (K := K) (j := j) (by rw [H0.out.2.2]; exact hlt)
      obtain ⟨x, hx⟩ : ∃ x, K.getD j 0 = x := ⟨_, rfl⟩
      rw [hx] at c0 hsn
      obtain ⟨v, hb, hO⟩ := hT.has
      obtain ⟨vo, vcap, rfl, _, _⟩ := hO.at (N := 0)
      obtain ⟨M, hM⟩ : ∃ M, L ++ flK (K.take j) = M := ⟨_, rfl⟩
      have hml : M.length ≤ 100000 := by
        rw [← hM]
        unfold flK
        rw [List.length_append, List.length_map, List.length_take]
        have h1 := HI.out.2.2.2.2.1
        have h2 := HI.out.2.2.2.2.2
        omega
      have hM2 : L ++ flK (K.take (j + 1)) = M ++ [⟨3, x, 0⟩] := by rw [hsn, ← List.append_assoc, hM]
      rw [hM] at hb hO hT
      obtain ⟨m, hm⟩ : ∃ m, M.length = m := ⟨_, rfl⟩
      have hO2 := hO
      unfold TcOwn at hO2
      rw [hm] at hO2 hb hml
      rw [hm] at hO
      have hj0 : (0 : Int) ≤ (j : Int) := by omega
      have hj1 : (j : Int) < (n : Int) := by omega
      have hwj : wrap64 ((j : Int) + 1) = (j : Int) + 1 := IntWalk.wrap64_in _ (by omega)
      have hb1 := World.alloc_heap_new wr (.cells #[.int .i64 3, .int .i64 x, .int .u64 0] 44)
      have hE1 : Ext [] wr (wr.alloc (.cells #[.int .i64 3, .int .i64 x, .int .u64 0] 44)) := (Ext.refl _ _).alloc _
      have k0 := cell_of (j := 0) (v := .slice vo m vcap) hb rfl
      have HB := Lib.hid (And.intro hb1 (And.intro hE1 (And.intro hO2 (And.intro hm (And.intro (show w0.heap.size ≤ wr.heap.size from hT.ex.size) (And.intro hb hT.ex))))))
      have HO := Lib.hid hO
      have HJ := Lib.hid (And.intro hjk (And.intro hlt (And.intro hX (And.intro hM2 hml))))
      clear hjk hlt hX hT hK2 hsn hx hb hO hM hml hM2 hm hO2 hb1 hE1 hu0 hk
      go_wp2_with (at_builtin; refine wpList_append_any rfl _ _ 48 rfl w0.heap.size 44 i0 _ 3 24 Try.underlying48 HI.out.1 HI.out.2.1 HI.out.2.2.1 HI.out.2.2.2.1 rfl (by omega) (.slice vo m vcap) m _ rfl (owns_ext HB.out.2.2.1 HB.out.2.1 (fun _ _ => by simp)) (some ⟨wr.heap.size, 0, none⟩) 1 1 (tchR ⟨3, x, 0⟩) rfl (tch_src ⟨3, x, 0⟩ HB.out.1) ?c1 ?c2 ?c3 ?_)
      case c1 => have := HJ.out.2.2.2.2; clear hwj; unfold maxLen; omega
      case c2 => have := HJ.out.2.2.2.2; clear hwj; omega
      case c3 => have := HB.out.2.2.2.2.1; clear hwj; simp; omega
      intro v1 wA ho1 hEA _
      have hO1 : TcOwn wA w0.heap.size v1 (M ++ [⟨3, x, 0⟩]) := TcOwn.snoc ⟨3, x, 0⟩ HB.out.2.2.2.1 ho1
      obtain ⟨q, hq⟩ : ∃ q, (M ++ [(⟨3, x, 0⟩ : Tch)]).length = q := ⟨_, rfl⟩
      obtain ⟨uo, ucap, hv1, _, _⟩ := hO1.at (N := 0)
      rw [hq] at hv1
      subst hv1
      clear hq
      obtain ⟨hbA, hT, hX⟩ := TB.push ⟨3, x, 0⟩ HB.out.2.2.2.2.2.1 HO.out HB.out.2.2.2.2.2.2 HB.out.2.1 hEA hO1
      have k1 := cell_of (j := 0) (v := .slice vo m vcap) hbA rfl
      have f1 := free_of hbA 0
      have HF := Lib.hid (And.intro hT hX)
      clear k0 ho1 hEA hO1 hbA hT hX
      go_wp2
      go_roundg (n - (j + 1))
      case measure => have := HJ.out.1; have := HJ.out.2.1; clear hwj; omega
      case rel => exact ⟨j + 1, by first | (rw [hwj]; rfl) | rfl, by have := HJ.out.1; have := HJ.out.2.1; clear hwj; omega, by rw [HJ.out.2.2.2.1]; exact HF.out.1, HJ.out.2.2.1.trans HF.out.2⟩
    · have hjn : ¬ ((j : Int) < (n : Int)) := by omega
      have hfull : K.take j = K := by rw [show j = K.length from by rw [H0.out.2.2]; omega, List.take_length]
      rw [hfull] at hT
      have HF := Lib.hid (And.intro hT hX)
      clear hjk hlt hT hX hfull hk
      go_wp2
      go_end0
      exact ⟨⟨_, rfl⟩, HF.out.1, HF.out.2⟩
end Go.Proofs.Ytjdojckemphadaa
