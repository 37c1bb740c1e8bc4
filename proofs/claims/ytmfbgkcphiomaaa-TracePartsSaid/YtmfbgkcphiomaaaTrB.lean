/- Package trace: a touch's line; the closures of lines. -/
import Derived.Test.YtmfbgkcphiomaaaTrM
import Derived.Test.YtmfbgkcphiomaaaTrA
import Derived.Test.YtmfbgkcphiomaaaTcC
namespace Go.Proofs.Ytmfbgkcphiomaaa
open Go Go.RowKit Go.Shelf
attribute [local go_sem] Oper.semAt_some

set_option maxRecDepth 100000 in
set_option maxHeartbeats 1600000 in
theorem tr_line (k a x : Int) (w : World) (h0 : 0 ≤ a) (h1 : a ≤ 9223372036854775807) : Calls Try.prog 40 #[.agg #[.int .i64 k, .int .i64 a, .int .u64 x]] w fun e w' => e = .returned (.tuple #[.int .i64 (Tch.ln ⟨k, a, x⟩), .bool (k != 4)]) ∧ Ext [] w w' := by
  obtain ⟨w0, hw0⟩ : ∃ w0, w.alloc (.cells #[.int .i64 k, .int .i64 a, .int .u64 x] 70) = w0 := ⟨_, rfl⟩
  have hb0 : w0.heap[w.heap.size]? = some (.cells #[.int .i64 k, .int .i64 a, .int .u64 x] 70 (0, 0)) := by rw [← hw0]; exact World.alloc_heap_new _ _
  have H0 : Hid (Ext [] w w0) := by rw [← hw0]; exact (Ext.refl _ _).alloc _
  have k0 := cell_of (j := 0) (v := .int .i64 k) hb0 rfl
  have k1 := cell_of (j := 1) (v := .int .i64 a) hb0 rfl
  have k2 := cell_of (j := 2) (v := .int .u64 x) hb0 rfl
  clear hb0
  by_cases h3 : k = 3
  · subst h3
    go_enter Try.func40, Try.ntmps40
    go_wp2
    go_ret2
    exact ⟨rfl, H0.out⟩
  · have g3 : (k == 3) = false := by simpa using h3
    have hln : Tch.ln ⟨k, a, x⟩ = a / 8 := by unfold Tch.ln; rw [if_neg h3]
    have hq : a.tdiv 8 = a / 8 := Int.tdiv_eq_ediv_of_nonneg h0
    have hw : wrap64 (a / 8) = a / 8 := IntWalk.wrap64_in _ (by omega)
    rw [hln]
    clear h3 hln
    obtain ⟨D, g4⟩ : ∃ D, (k != 4) = D := ⟨_, rfl⟩
    rw [g4]
    go_enter Try.func40, Try.ntmps40
    go_wp2
    go_quiet (fail)
    go_wp2
    go_ret2
    exact ⟨rfl, H0.out.drewN _⟩

set_option maxHeartbeats 400000 in
theorem tr_such2 (tb : Nat) (k a : Int) (w : World) (hc : w.cell? ⟨tb, 1, none⟩ = some (.int .i64 a)) :
    Calls Try.prog 46 #[.int .i64 k, .pointer (some ⟨tb, 0, none⟩)] w fun e w' => e = .returned (.bool (k == a)) ∧ Ext [] w w' := by
  go_enter Try.func46, Try.ntmps46
  go_wp2
  go_ret
  exact ⟨rfl, Ext.refl _ _⟩
set_option maxHeartbeats 400000 in
theorem tr_such3 (k : Int) (w : World) : Calls Try.prog 47 #[.int .i64 k] w fun e w' => e = .returned (.bool true) ∧ Ext [] w w' := by
  go_enter Try.func47, Try.ntmps47
  go_wp2
  go_ret
  exact ⟨rfl, Ext.refl _ _⟩

/-- what raise does to what lines are -/
def raiseF (fr to : Int) (such : Int → Bool) (f : Int → Int) (k : Int) : Int := if f k = fr ∧ such k = true then to else f k
/-- raise's work so far: left is to come -/
structure RaI (w0 wr : World) (b : Nat) (l : Ents) (g : Int → Int) (left cur : Ents) : Prop where
  ir : IRange wr w0.heap.size b left
  im : IMap wr b cur
  ex : Ext [b] w0 wr
  ks : ∀ k, k ∈ keysOf cur ↔ k ∈ keysOf l
  nd : (keysOf left).Nodup
  sub : ∀ p ∈ left, p ∈ l
  lk : ∀ k, look cur k = if k ∈ keysOf left then look l k else encS (g k)

set_option maxRecDepth 100000 in
set_option maxHeartbeats 2000000 in
theorem tr_raise (fr to : Int) (mc b : Nat) (f : Nat) (flb : Array Value) (such : Int → Bool) (KS : World → Prop) (st : Int → Int) (l : Ents) (w : World) (hc : w.cell? ⟨mc, 0, none⟩ = some (.map (some b))) (hm : IMap w b l) (hl : LE l st)
    (hf0 : fr ≠ 0) (ht0 : to ≠ 0) (hKS : ∀ W W', KS W → Ext [b] W W' → KS W') (h0 : KS w) (hcf : ∀ args w', (callFunc f args).run Try.prog w' = .ok (.enter f args) w')
    (hf : ∀ W, KS W → ∀ k : Int, Calls Try.prog f (#[.int .i64 k] ++ flb) W fun e w' => e = .returned (.bool (such k)) ∧ Ext [] W w') :
    Calls Try.prog 45 #[.int .i64 fr, .int .i64 to, .func (.func f) #[] flb, .pointer (some ⟨mc, 0, none⟩)] w fun e w' => e = .returned (.tuple #[]) ∧ Ext [b] w w' ∧ ∃ l', IMap w' b l' ∧ LE l' (raiseF fr to such st) := by
  have hbm : b ≠ mc := hm.notcell hc
  obtain ⟨W1, hrg, hir, hE1, hs1⟩ := run_rangeMap' (P := Try.prog) 61 3 3 Try.underlying61 hm
  have HC := Lib.hid (And.intro hc (And.intro hbm (And.intro hm hl)))
  have HK := Lib.hid (And.intro hKS (And.intro h0 hf))
  have H0 := Lib.hid (And.intro hf0 ht0)
  have HI : Hid (RaI w W1 b l (raiseF fr to such st) l l) := ⟨hir, hm.ext hE1 (by simp), hE1.wide, fun k => Iff.rfl, hm.nodup, fun p hp => hp, fun k => by
    split
    · rfl
    · rename_i hk
      rw [(look_none l k).2 hk]
      have hs0 : st k = 0 := by
        cases h0 : decide (st k = 0) with
        | true => simpa using h0
        | false => exact absurd ((hl.keys k).2 (by simpa using h0)) hk
      unfold raiseF
      rw [hs0, if_neg (fun h => hf0 h.1.symm)]
      rfl⟩
  clear hm hl hir hE1 hs1 hKS h0 hf hf0 ht0
  go_enter Try.func45, Try.ntmps45
  go_wp2
  go_loopg [] l.length (fun cnt wr => ∃ left cur, RaI w wr b l (raiseF fr to such st) left cur ∧ left.length = cnt)
  case atStart => exact ⟨l, l, HI.out, rfl⟩
  case round =>
    obtain ⟨left, cur, hI, hk⟩ := hrel
    have hmc : wr.cell? ⟨mc, 0, none⟩ = some (.map (some b)) := hI.ex.cell HC.out.1 (by simpa using fun e => HC.out.2.1 e.symm)
    rcases next_any (P := Try.prog) hI.ir with ⟨hnil, hn⟩ | ⟨j, v, left', W2, hn, hen, hperm, hir2, hE2, _, hs2⟩
    · have HD := Lib.hid (And.intro hI hnil)
      clear hI hnil hk
      go_wp2
      go_end0
      refine ⟨rfl, HD.out.1.ex, cur, HD.out.1.im, fun k => ?_⟩
      rw [HD.out.1.lk, HD.out.2]
      rfl
    · have hjl : (j, v) ∈ l := hI.sub _ (hperm.mem_iff.2 (List.mem_cons_self ..))
      have hlj := look_of_mem _ _ _ HC.out.2.2.1.nodup hjl
      have hsj : st j ≠ 0 := (HC.out.2.2.2.keys j).1 (List.mem_map.2 ⟨_, hjl, rfl⟩)
      have hv : v = .int .i64 (st j) := by
        rw [HC.out.2.2.2.at hsj] at hlj
        simpa using hlj.symm
      subst hv
      have hlen : left'.length + 1 = gk := by rw [← hk, hperm.length_eq]; rfl
      have hnd : j ∉ keysOf left' ∧ (keysOf left').Nodup := by
        have := ((hperm.map (·.1)).nodup_iff).1 hI.nd
        exact List.nodup_cons.1 this
      have hb2 : b ≠ w.heap.size := by have := HC.out.2.2.1.lt; omega
      have hE3 : Ext [b] w W2 := hI.ex.trans' hE2 (fun i hi => .inr (by simp at hi; omega))
      have hm2 : IMap W2 b cur := hI.im.ext hE2 (by simpa using hb2)
      have hmem : ∀ k, k ∈ keysOf left ↔ k = j ∨ k ∈ keysOf left' := fun k => by
        have := (hperm.map (·.1)).mem_iff (a := k)
        simpa using this
      have hsub : ∀ p ∈ left', p ∈ l := fun p hp => hI.sub p (hperm.mem_iff.2 (List.mem_cons_of_mem _ hp))
      have hmc2 : W2.cell? ⟨mc, 0, none⟩ = some (.map (some b)) := hE2.cell hmc (by have : mc < w.heap.size := World.block_lt_of_cell? w ⟨mc, 0, none⟩ HC.out.1; simp; omega)
      -- what is left as it was
      have keep : ∀ W3, Ext [] W2 W3 → raiseF fr to such st j = st j → RaI w W3 b l (raiseF fr to such st) left' cur := fun W3 hE hr =>
        ⟨hir2.ext hE (by simp) (by simp), hm2.ext hE (by simp), hE3.then hE, hI.ks, hnd.2, hsub, fun k => by
          rw [hI.lk k]
          by_cases hkj : k = j
          · subst hkj
            rw [if_pos ((hmem k).2 (.inl rfl)), if_neg hnd.1, hr, hlj]
            unfold encS
            rw [if_neg hsj]
          · by_cases hk' : k ∈ keysOf left'
            · rw [if_pos ((hmem k).2 (.inr hk')), if_pos hk']
            · rw [if_neg (fun h => ((hmem k).1 h).elim hkj hk'), if_neg hk']⟩
      have put : ∀ W3, Ext [] W2 W3 → raiseF fr to such st j = to → ∃ W4, (Instr.mapUpdate 61 (.map (some b)) (.int .i64 j) (.int .i64 to)).run Try.prog W3 = .ok () W4 ∧ RaI w W4 b l (raiseF fr to such st) left' (upd cur j (.int .i64 to)) := fun W3 hE hr => by
        have hir3 := hir2.ext hE (by simp) (by simp)
        have hm3 := hm2.ext hE (by simp)
        obtain ⟨W4, h1, hE4, hm4, hir4, _⟩ := run_mapSetIn (P := Try.prog) 61 3 3 Try.underlying61 Try.underlying3 hm3 hir3 j (.int .i64 to) ((hI.ks j).2 (List.mem_map.2 ⟨_, hjl, rfl⟩)) hnd.1
        refine ⟨W4, h1, hir4, hm4, (hE3.then hE).trans hE4, fun k => ?_, hnd.2, hsub, fun k => ?_⟩
        · rw [mem_keys_upd, hI.ks]
          exact ⟨fun h => h.elim (fun h => h ▸ List.mem_map.2 ⟨_, hjl, rfl⟩) id, .inr⟩
        · rw [look_upd, hI.lk k]
          by_cases hkj : k = j
          · subst hkj
            rw [if_pos rfl, if_neg hnd.1, hr]
            unfold encS
            rw [if_neg H0.out.2]
          · rw [if_neg hkj]
            by_cases hk' : k ∈ keysOf left'
            · rw [if_pos ((hmem k).2 (.inr hk')), if_pos hk']
            · rw [if_neg (fun h => ((hmem k).1 h).elim hkj hk'), if_neg hk']
      have HP := Lib.hid (And.intro keep put)
      have HL := Lib.hid (And.intro hlen (HK.out.2.2 W2 (HK.out.1 _ _ HK.out.2.1 hE3) j))
      obtain ⟨x, hx⟩ : ∃ x, st j = x := ⟨_, rfl⟩
      rw [hx] at hn hen HP
      have HX := Lib.hid hx
      clear hI hk hjl hlj hsj hlen hnd hb2 hE3 hm2 hmem hsub keep put hmc hperm hir2 hE2 hs2 hx
      by_cases hfx : x = fr
      · have gx : (x == fr) = true := by simpa using hfx
        have HFX := Lib.hid hfx
        clear hfx
        go_wp2_with fail
        refine HL.out.2.mono ?_
        rintro e W3 ⟨rfl, hE4⟩
        have hmc3 := hE4.cell hmc2 (by simp)
        cases hs : such j with
        | true =>
          obtain ⟨W4, hset, hR⟩ := HP.out.2 W3 hE4 (by unfold raiseF; rw [HX.out, if_pos ⟨HFX.out, hs⟩])
          have HR := Lib.hid hR
          clear hR hs hE4 hmc2
          go_wp2
          go_roundg left'.length
          case measure => have := HL.out.1; omega
          case rel => exact ⟨left', _, HR.out, rfl⟩
        | false =>
          have HR := Lib.hid (HP.out.1 W3 hE4 (by unfold raiseF; rw [HX.out, if_neg (fun h => by rw [hs] at h; cases h.2)]))
          clear hs hE4 hmc2
          go_wp2
          go_roundg left'.length
          case measure => have := HL.out.1; omega
          case rel => exact ⟨left', _, HR.out, rfl⟩
      · have gx : (x == fr) = false := by simpa using hfx
        have HR := Lib.hid (HP.out.1 W2 (Ext.refl _ _) (by unfold raiseF; rw [HX.out, if_neg (fun h => hfx h.1)]))
        clear hfx
        go_wp2
        go_roundg left'.length
        case measure => have := HL.out.1; omega
        case rel => exact ⟨left', _, HR.out, rfl⟩
end Go.Proofs.Ytmfbgkcphiomaaa
