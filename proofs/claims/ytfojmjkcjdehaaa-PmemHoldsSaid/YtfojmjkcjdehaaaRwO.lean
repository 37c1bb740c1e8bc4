/- Rows that begin anywhere in a block: read, cut, appended to. No program is named here. -/
import Derived.Test.YtfojmjkcjdehaaaRwB
import Derived.Test.YtfojmjkcjdehaaaRwC
import Derived.Deep.AppendSrc
namespace Go.Proofs.Ytfojmjkcjdehaaa
open Go Go.RowKit Go.ChangeShapes Go.WideShapes Go.ChangeAt

/-- n things of c cells each lie in block b from off on, with room for cap -/
structure RowO (w : World) (b e off n cap c : Nat) (xs : List Value) : Prop where
  blk : ∃ cur, w.heap[b]? = some (.cells cur e (0, 0)) ∧ off + cap * c ≤ cur.size
  le : n ≤ cap
  max : cap ≤ maxLen
  len : xs.length = n * c
  at' : ∀ j u, xs[j]? = some u → w.cell? ⟨b, off + j, none⟩ = some u
theorem RowO.ext {m : List Nat} {w w' : World} {b e off n cap c : Nat} {xs : List Value} (h : RowO w b e off n cap c xs) (hE : Ext m w w') (hb : b ∉ m) : RowO w' b e off n cap c xs := by
  obtain ⟨cur, h1, h2⟩ := h.blk
  exact ⟨⟨cur, hE.at h1 hb, h2⟩, h.le, h.max, h.len, fun j u hu => hE.cell (h.at' j u hu) hb⟩
theorem RowO.lt {w : World} {b e off n cap c : Nat} {xs : List Value} (h : RowO w b e off n cap c xs) : b < w.heap.size := by
  obtain ⟨cur, h1, _⟩ := h.blk
  exact lt_of_block h1
/-- the things from the k-th on -/
theorem RowO.cut {w : World} {b e off n cap c k : Nat} {xs : List Value} (h : RowO w b e off n cap c xs) (hk : k ≤ n) : RowO w b e (off + k * c) (n - k) (cap - k) c (xs.drop (k * c)) := by
  obtain ⟨cur, h1, h2⟩ := h.blk
  have hle := h.le
  have hcap : cap * c = k * c + (cap - k) * c := by rw [← Nat.add_mul]; congr 1; omega
  have hn : n * c = k * c + (n - k) * c := by rw [← Nat.add_mul]; congr 1; omega
  refine ⟨⟨cur, h1, by omega⟩, by omega, by have := h.max; omega, ?_, fun j u hu => ?_⟩
  · rw [List.length_drop, h.len]
    omega
  · rw [List.getElem?_drop] at hu
    have := h.at' _ u hu
    rwa [← Nat.add_assoc] at this

section
variable {P : Program}
theorem append_off {w : World} (t ty e : TypeId) (i : TypeInfo) (z : Value) (size bytes : Nat) (ht : P.underlying t = some (.slice e)) (hi : P.info? e = some i) (hz : i.zero = some z)
    (hsize : i.size = size) (hby : i.bytes = bytes) (hzs : z.cells.size = size)
    {b off n cap : Nat} {xs : List Value} (h : RowO w b e off n cap size xs) (ad : Addr) (m c : Nat) (news : List Value) (hl : news.length = m * size) (hnews : ∀ j u, news[j]? = some u → w.cell? (ad.add j) = some u) (h1 : ∀ u ∈ news, u.oneCell' = true)
    (h63 : n + m ≤ maxLen) (hbytes : (n + m) * bytes ≤ 140737488355328) :
    ∃ b' off' cap' w', (Builtin.append_ #[t, t] ty #[.slice (some ⟨b, off, none⟩) n cap, .slice (some ad) m c]).run P w = .ok (.slice (some ⟨b', off', none⟩) (n + m) cap') w' ∧
      RowO w' b' e off' (n + m) cap' size (xs ++ news) ∧ Ext [b] w w' ∧ (b' = b ∨ w.heap.size ≤ b') := by
  subst hsize
  subst hby
  obtain ⟨cur, hb, hcs⟩ := h.blk
  have hlen : (xs ++ news).length = (n + m) * i.size := by rw [List.length_append, h.len, hl, Nat.add_mul]
  have hsrc : Src P i.size t (.slice (some ad) m c) m news w := Src.ofSlice w ht ad m c news hl hnews h1
  by_cases hroom : n + m ≤ cap
  · have hfit : n * i.size + news.length ≤ cap * i.size := by rw [hl, ← Nat.add_mul]; exact Nat.mul_le_mul_right _ hroom
    have hc : ∀ j, j < news.length → (w.cell? ⟨b, off + n * i.size + j, none⟩).isSome = true := fun j hj => by
      rw [cell_of hb (v := cur[off + n * i.size + j]) (by simp)]
      rfl
    have hr := run_append_room_src (P := P) w t t ty e i ht hi b off n cap (.slice (some ad) m c) m news hsrc hroom hc (fun j hj => free_of hb _)
    obtain ⟨cur', hb', hs'⟩ := setCells_block news (off + n * i.size) hb
    refine ⟨b, off, cap, _, hr, ⟨⟨cur', hb', by omega⟩, hroom, h.max, hlen, fun j u hu => ?_⟩, ext_setCells news _ (Ext.refl _ _) (.inl (by simp)), .inl rfl⟩
    by_cases hj : j < xs.length
    · rw [List.getElem?_append_left hj] at hu
      rw [World.cell?_setCells_out b news _ w ⟨b, off + j, none⟩ (fun _ _ => .inl (by have := h.len; show off + j < _; omega))]
      exact h.at' j u hu
    · rw [List.getElem?_append_right (by omega)] at hu
      have hjn : j - xs.length < news.length := (List.getElem?_eq_some_iff.1 hu).1
      have := World.cell?_setCells_in b news (off + n * i.size) w hc (j - xs.length) hjn
      rw [show off + n * i.size + (j - xs.length) = off + j from by have := h.len; omega] at this
      rw [this, ← hu, List.getElem?_eq_getElem hjn]
  · have hold : (Builtin.firstCells i.size n (.slice (some ⟨b, off, none⟩) n cap)).run P w.drew = .ok xs.toArray w.drew :=
      run_firstCells_some w.drew i.size n ⟨b, off, none⟩ n cap xs h.len (fun j v hv => by rw [add_off]; simpa using h.at' j v hv)
    have hsmall : n + m ≤ 9223372036854775807 := by simp only [maxLen] at h63; omega
    have hr := run_append_grow_src (P := P) w t t ty e i z ht hi hz (some ⟨b, off, none⟩) n cap xs hold (.slice (some ad) m c) m news hsrc (by omega) (by omega) (growslice_fits (by omega) hbytes)
    have hge := grownCap_ge w (n + m) cap e
    have hnew : (w.drew.alloc (.cells ((xs ++ news).toArray ++ Builtin.zeroCells z.cells (grownCap w (n + m) cap e - (n + m))) e)).heap[w.heap.size]? = some (.cells ((xs ++ news).toArray ++ Builtin.zeroCells z.cells (grownCap w (n + m) cap e - (n + m))) e (0, 0)) := World.alloc_heap_new w.drew _
    refine ⟨w.heap.size, 0, _, _, hr, ⟨⟨_, hnew, ?_⟩, hge, grownCap_le_maxLen w (n + m) cap e h63, hlen, fun j u hu => ?_⟩, (Ext.refl _ _).drew.alloc _, .inr (Nat.le_refl _)⟩
    · rw [Array.size_append, size_zeroCells, hzs, List.size_toArray, hlen, ← Nat.add_mul, Nat.zero_add]
      exact Nat.mul_le_mul_right _ (by omega)
    · have hj : j < (xs ++ news).length := (List.getElem?_eq_some_iff.1 hu).1
      rw [Nat.zero_add]
      refine cell_of hnew ?_
      rw [Array.getElem?_append_left (by simpa using hj)]
      simpa using hu
/-- AT A STEP OF A REGION THAT DRAWS ITS ORDER. -/
theorem step_append_off {w : World} {ops : Array Oper} {o : Oper} {a : Act} {K : Act → World → Prop} {Q : Exit → Act → World → Prop} {E : Prop} (hgd : o.guard = none) (s x : Operand) (t : TypeId)
    (ho : o.op = .call { callee := .builtin .append, args := #[s, x], argTypes := #[t, t] })
    (e : TypeId) (i : TypeInfo) (z : Value) (size bytes : Nat) (ht : P.underlying t = some (.slice e)) (hi : P.info? e = some i) (hz : i.zero = some z)
    (hsize : i.size = size) (hby : i.bytes = bytes) (hzs : z.cells.size = size)
    {b off n cap : Nat} (xs : List Value) (hs : a.eval s = .slice (some ⟨b, off, none⟩) n cap) (hrow : RowO w b e off n cap size xs)
    (ad : Addr) (m c : Nat) (news : List Value) (hx : a.eval x = .slice (some ad) m c) (hl : news.length = m * size) (hnews : ∀ j u, news[j]? = some u → w.cell? (ad.add j) = some u) (h1 : ∀ u ∈ news, u.oneCell' = true)
    (h63 : n + m ≤ maxLen) (hbytes : (n + m) * bytes ≤ 140737488355328)
    (h : ∀ b' off' cap' w', RowO w' b' e off' (n + m) cap' size (xs ++ news) → Ext [b] w w' → (b' = b ∨ w.heap.size ≤ b') → K (a.put o.dst (.slice (some ⟨b', off', none⟩) (n + m) cap')) w') :
    if Region.wanted o (yielded ops a.tmps) = true then Oper.wp P o a w K Q else E := by
  have hw : Region.wanted o (yielded ops a.tmps) = true := by simp [Region.wanted, hgd]
  rw [if_pos hw]
  obtain ⟨b', off', cap', w', hr, h2, h3, h4⟩ := append_off (P := P) t o.type e i z size bytes ht hi hz hsize hby hzs hrow ad m c news hl hnews h1 h63 hbytes
  unfold Oper.wp execOp
  simp only [ho, resolve, invoke, builtin, Sem.run_bind, Sem.run_pure, Result.andThen_ok, List.map_toArray, List.map_cons, List.map_nil, hs, hx, hr]
  exact h b' off' cap' w' h2 h3 h4
end
end Go.Proofs.Ytfojmjkcjdehaaa
