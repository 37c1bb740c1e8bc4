/- redo: places, touches.write. -/
import Derived.Test.YtjdojckemphadaaRdU
import Derived.Test.YtjdojckemphadaaRnw
import Derived.RangeFuncLeaves
namespace Go.Proofs.Ytjdojckemphadaa
open Go Go.RowKit Go.Shelf
attribute [local go_sem] Oper.semAt_some

/-- the places of a record but the first -/
def plV (k : Nat) : Array Value := #[.int .i64 ((k : Int) + 1)]
def encQ (k : Nat) : List (Array Value) := (List.range k).map plV
theorem encQ_succ (k : Nat) : encQ (k + 1) = encQ k ++ [plV k] := by simp [encQ, List.range_succ]
theorem encQ_len (k : Nat) : (encQ k).length = k := by simp [encQ]
def okQ (pre : List (Array Value)) : Prop := ∃ k, k ≤ 23 ∧ pre = encQ k
theorem okQ_last {pre : List (Array Value)} {x : Array Value} (h : okQ (pre ++ [x])) : ∃ k, k < 23 ∧ pre = encQ k ∧ x = plV k := by
  obtain ⟨k, hk, he⟩ := h
  cases k with
  | zero => simp [encQ] at he
  | succ k =>
    rw [encQ_succ] at he
    obtain ⟨h1, h2⟩ := List.append_inj' he rfl
    exact ⟨k, by omega, h1, by simpa using h2⟩

set_option maxRecDepth 100000 in
set_option maxHeartbeats 2000000 in
theorem places_seq : SeqC Try.prog 46 #[] okQ (fun xs => xs = encQ 23) (fun _ => True) := by
  intro l N I Ix hI hIx hK hY w m hN hlw hm h0
  refine callsIn_of_wp Try.func46 rfl trivial ?_ rfl
  simp only [Try.ntmps46, List.size_toArray, List.length_cons, List.length_nil, Nat.reduceAdd, Nat.reduceSub, Array.replicate_succ, Array.replicate_zero, List.push_toArray, List.append_toArray, List.nil_append, List.cons_append]
  have HY := Lib.hid hY
  have H0 := Lib.hid h0
  clear hI hIx hK hY h0
  gi_wp2
  gi_loopw [2] (fun i wr => ∃ (k : Nat) (m' : List Nat), k ≤ 23 ∧ i = .int .i64 ((k : Int) + 1) ∧ I m' (encQ k) wr) (fun i _ => 24 - (intOf i).toNat)
  case atStart => exact ⟨0, m, Nat.zero_le _, rfl, H0.out⟩
  case round =>
    obtain ⟨k, m', hk, rfl, hJs⟩ := hrel
    have HJ := Lib.hid hJs
    clear hJs
    by_cases hlt : k < 23
    · have hs := encQ_succ k
      obtain ⟨fn, tmps, assign, body, hy, hR⟩ := HY.out m' _ (plV k) wr HJ.out ⟨k + 1, by omega, hs.symm⟩
      have HS := Lib.hid hs
      have hd : (k : Int) + 1 < 24 := by omega
      clear hs
      unfold plV at hy
      gi_wp2
      refine ⟨rfl, hR.mono ?_⟩
      rintro e W3 ⟨_, (⟨rfl, m2, _, hJ3⟩ | ⟨rfl, hJx3⟩)⟩
      · gi_wp2
        go_roundw
        case rel => exact ⟨k + 1, m2, by omega, by go_num, by rw [HS.out]; exact hJ3⟩
        case measure => simp [intOf]; omega
      · gi_wp2
        refine bodyPost_ret (results_none rfl _ _ _) rfl ?_
        exact ⟨⟨_, rfl⟩, .inr hJx3⟩
    · obtain rfl : k = 23 := by omega
      have hd : ¬ (((23 : Nat) : Int) + 1 < 24) := by omega
      gi_wp2
      go_end0
      first | exact ⟨⟨_, rfl⟩, .inl ⟨_, m', rfl, HJ.out⟩⟩ | exact ⟨⟨_, rfl⟩, .inl ⟨m', HJ.out⟩⟩ | exact .inl ⟨m', HJ.out⟩
set_option maxHeartbeats 400000 in
theorem rd_places (w : World) : Calls Try.prog 40 #[] w fun e w' => e = .returned (.func (.func 46) #[] #[]) ∧ w = w' := by
  have hcf := enters_of Try.func46 (by kernel_rfl) rfl
  go_enter Try.func40, Try.ntmps40
  go_wp2
  go_ret
  exact ⟨rfl, rfl⟩

/-- the stores of a record's words but the first -/
def wrS (j : Int) (F : Nat → Int) (k : Nat) : List Tch := (List.range k).map (fun i : Nat => (⟨2, 8 * j + ((i : Int) + 1), F (i + 1)⟩ : Tch))
theorem wrS_succ (j : Int) (F : Nat → Int) (k : Nat) : wrS j F (k + 1) = wrS j F k ++ [⟨2, 8 * j + ((k : Int) + 1), F (k + 1)⟩] := by simp [wrS, List.range_succ]
theorem wrS_len (j : Int) (F : Nat → Int) (k : Nat) : (wrS j F k).length = k := by simp [wrS]
/-- a record's touches but for its first word -/
def wrT (j : Int) (F : Nat → Int) : List Tch := wrS j F 23 ++ [⟨3, j, 0⟩, ⟨3, j + 1, 0⟩, ⟨3, j + 2, 0⟩, ⟨4, 0, 0⟩]
/-- an array's words lie there -/
def ArrAt (W : World) (ab : Nat) (F : Nat → Int) : Prop := ∃ t, t ≠ 44 ∧ W.heap[ab]? = some (.cells (arrF 24 F) t (0, 0))
theorem ArrAt.tx {tb ab : Nat} {F : Nat → Int} {w w' : World} (h : ArrAt w ab F) (hx : Tx tb w w') (hne : ab ≠ tb) : ArrAt w' ab F := by
  obtain ⟨t, h1, h2⟩ := h
  exact ⟨t, h1, hx.block _ _ h2 hne (fun cur f e => by injection e with _ e2; exact h1 e2)⟩
theorem ArrAt.cell {ab : Nat} {F : Nat → Int} {w : World} (h : ArrAt w ab F) {i : Nat} (hi : i < 24) : w.cell? ⟨ab, i, none⟩ = some (.int .u64 (F i)) := by
  obtain ⟨t, _, h2⟩ := h
  exact cell_of h2 (arrF_get 24 F i hi)

/-- what yield's bearer may write, at the start -/
noncomputable def WrM (W1 : World) (tb : Nat) : List Nat := match W1.heap[tb]? with
  | some (.cells cs _ _) => tb :: (cs.getD 0 undef).ownBlock.toList
  | _ => []
/-- between two words -/
def WrI (w0 W1 : World) (tb : Nat) (L : List Tch) (j : Int) (F : Nat → Int) (mm : List Nat) (pre : List (Array Value)) (X : World) : Prop :=
  Tx tb W1 X ∧ ∃ v, mm = tb :: v.ownBlock.toList ∧ X.heap[tb]? = some (.cells #[v] 48 (0, 0)) ∧ TcOwn X w0.heap.size v (L ++ wrS j F pre.length) ∧ Ext [tb] w0 X
theorem WrM.at {w0 W1 : World} {tb : Nat} {L : List Tch} (h : TB w0 W1 tb L) : ∃ v, WrM W1 tb = tb :: v.ownBlock.toList ∧ W1.heap[tb]? = some (.cells #[v] 48 (0, 0)) ∧ TcOwn W1 w0.heap.size v L := by
  obtain ⟨v, h1, h2⟩ := h.has
  refine ⟨v, ?_, h1, h2⟩
  unfold WrM
  rw [h1]
  rfl
theorem WrM.lt {w0 W1 : World} {tb : Nat} {L : List Tch} (h : TB w0 W1 tb L) {x : Nat} (hx : x ∈ WrM W1 tb) : x < W1.heap.size := by
  obtain ⟨v, h1, h2, h3⟩ := WrM.at h
  rw [h1] at hx
  rcases List.mem_cons.1 hx with rfl | hx
  · exact lt_of_block h2
  · exact (h3.lt x (by simpa using hx)).2
theorem WrI.start {w0 W1 : World} {tb : Nat} {L : List Tch} {j : Int} {F : Nat → Int} (h : TB w0 W1 tb L) : WrI w0 W1 tb L j F (WrM W1 tb) [] W1 := by
  obtain ⟨v, h1, h2, h3⟩ := WrM.at h
  exact ⟨Tx.refl _ _, v, h1, h2, by simpa [wrS] using h3, h.ex⟩
theorem Steady.tx {N tb : Nat} {w0 : World} (hN : w0.heap.size ≤ N) : Steady N (fun w => Tx tb w0 w) := fun _ _ h c =>
  ⟨c.os.trans h.os, c.tape.trans h.tape, c.output.trans h.output, Nat.le_trans h.size c.size, fun k o h1 h2 h3 => c.block k o (h.block k o h1 h2 h3) (.inl (by have := lt_of_block h1; omega))⟩
theorem WrI.steady {w0 W1 : World} {tb : Nat} {L : List Tch} {j : Int} {F : Nat → Int} {mm : List Nat} {pre : List (Array Value)} (h : w0.heap.size ≤ W1.heap.size) : Steady W1.heap.size (WrI w0 W1 tb L j F mm pre) :=
  (Steady.tx (Nat.le_refl _)).and (.ex fun _ => (Steady.const _ _).and ((Steady.block (.inr rfl)).and (steady_owns.and (Steady.ext h))))

set_option maxRecDepth 100000 in
set_option maxHeartbeats 4000000 in
theorem th_write (w0 W : World) (tb ab : Nat) (L : List Tch) (j : Int) (F : Nat → Int) (h : TB w0 W tb L) (hA : ArrAt W ab F) (hab : ab ≠ tb) (hn : L.length ≤ 1000) (hj : 0 ≤ j ∧ j ≤ 1021) :
    Calls Try.prog 19 #[.pointer (some ⟨tb, 0, none⟩), .agg #[.int .i64 j], .slice (some ⟨ab, 0, none⟩) 24 24] W (ThPost w0 W tb (L ++ wrT j F)) := by
  obtain ⟨W1, hW1⟩ : ∃ W1, ((W.alloc (.cells #[.pointer (some ⟨tb, 0, none⟩)] 75)).alloc (.cells #[.int .i64 j] 47)).alloc (.cells #[.slice (some ⟨ab, 0, none⟩) 24 24] 57) = W1 := ⟨_, rfl⟩
  obtain ⟨b, hb⟩ : ∃ b, W.heap.size = b := ⟨_, rfl⟩
  have hbs := al3_heap (w := W) #[.pointer (some ⟨tb, 0, none⟩)] #[.int .i64 j] #[.slice (some ⟨ab, 0, none⟩) 24 24] 75 47 57
  have hE1 : Ext [] W W1 := by rw [← hW1]; exact (((Ext.refl _ _).alloc _).alloc _).alloc _
  rw [hW1, hb] at hbs
  have htb : tb < b := by obtain ⟨v, hv, _⟩ := h.has; have := lt_of_block hv; omega
  have habl : ab < b := by obtain ⟨t, _, h2⟩ := hA; have := lt_of_block h2; omega
  have H1 : Hid (TB w0 W1 tb L ∧ Tx tb W W1 ∧ ArrAt W1 ab F ∧ tb < b ∧ ab < b ∧ w0.heap.size ≤ b) := ⟨h.ext0 hE1, hE1.tx0, hA.tx hE1.tx0 hab, htb, habl, by have := h.ex.size; omega⟩
  have HBS := Lib.hid hbs
  -- what stays of the three boxes
  have HK : Hid (∀ W', Tx tb W1 W' → W'.heap[b]? = some (.cells #[.pointer (some ⟨tb, 0, none⟩)] 75 (0, 0)) ∧ W'.heap[b + 1]? = some (.cells #[.int .i64 j] 47 (0, 0)) ∧ W'.heap[b + 2]? = some (.cells #[.slice (some ⟨ab, 0, none⟩) 24 24] 57 (0, 0)) ∧ ArrAt W' ab F) :=
    fun W' hx => ⟨hx.block _ _ hbs.1 (by omega) (fun cur f e => by simp at e), hx.block _ _ hbs.2.1 (by omega) (fun cur f e => by simp at e), hx.block _ _ hbs.2.2.1 (by omega) (fun cur f e => by simp at e), H1.out.2.2.1.tx hx hab⟩
  have HP := Lib.hid (And.intro hj (And.intro hn hb))
  have HWE := Lib.hid (And.intro hW1 hb)
  clear h hA hab hn hj hW1 hb hbs hE1 htb habl
  refine (callsIn_wide (n := 0)).1 (callsIn_of_wp_marks Try.func19 rfl trivial ?_ rfl)
  simp only [Try.ntmps19, List.size_toArray, List.length_cons, List.length_nil, Nat.reduceAdd, Nat.reduceSub, Array.replicate_succ, Array.replicate_zero, List.push_toArray, List.append_toArray, List.nil_append, List.cons_append]
  refine wpIn_wide.2 (wp_mono (Q := NoPanic (bodyPostM Fence.wide 0 Try.prog Try.f19 (ThPost w0 W tb (L ++ wrT j F)))) ?_ NoPanic.out)
  go_wp2_with fail
  try rw [HWE.out.1]
  try rw [HWE.out.2]
  refine wp_scope_ahead 0 rfl ?_
  go_wp2_with fail
  refine wp_label ?_
  try rw [HWE.out.1]
  try rw [HWE.out.2]
  go_wp2_with fail
  refine (rd_places W1).mono ?_
  rintro e w2 ⟨rfl, rfl⟩
  clear HWE
  go_wp2
  have hlt1 : b + 2 < W1.heap.size := lt_of_block HBS.out.2.2.1
  have HLT := Lib.hid hlt1
  clear hlt1
  refine wpIn_wide.1 (wp_range (gf := 46) (lb := #[]) rfl (fun args w => enters_of Try.func46 (by kernel_rfl) rfl args w)
    places_seq (fun pre x h => by obtain ⟨k, _, _, rfl⟩ := okQ_last h; rfl) (WrM W1 tb)
    (WrI w0 W1 tb L j F) (fun _ _ => False) ?_ ?_ ?_ ?_ ?_ ?_ ?_ ?_)
  · exact fun mm pre => WrI.steady (by have := H1.out.1.ex.size; omega)
  · exact fun c => Steady.const _ _
  · exact fun mm pre X _ => trivial
  · intro x hx
    exact WrM.lt H1.out.1 hx
  · exact WrI.start H1.out.1
  · rintro l2 mm pre x X hl2 hi hok
    obtain ⟨k, hk, hpre, rfl⟩ := okQ_last hok
    have hpl : pre.length = k := by rw [hpre, encQ_len]
    have HI := Lib.hid (And.intro hi (And.intro hpl hk))
    clear hi hok hpre hpl hk hl2
    intro K hK
    unfold plV
    gi_wp2
    refine hK _ _ (Ext.refl [] _) ?_
    intro X6 hC
    clear hK K
    have hi6 := WrI.steady (w0 := w0) (W1 := W1) (tb := tb) (L := L) (j := j) (F := F) (mm := mm) (pre := pre) (by have := H1.out.1.ex.size; omega) _ _ HI.out.1 hC
    have hCs := hC.size
    obtain ⟨hX6, v, rfl, hb6, hO6, hE6⟩ := hi6
    rw [HI.out.2.1] at hO6
    obtain ⟨p0, p1, p2, hA6⟩ := HK.out X6 hX6
    have hac := hA6.cell (i := k + 1) (by have := HI.out.2.2; omega)
    have q0 := cell_of (j := 0) p0 rfl
    have q1 := cell_of (j := 0) p1 rfl
    have q2 := cell_of (j := 0) p2 rfl
    have hx1 : (k : Int) + 1 = ((k + 1 : Nat) : Int) := by omega
    obtain ⟨i, hi⟩ : ∃ i, k + 1 = i := ⟨_, rfl⟩
    have hiB : 1 ≤ i ∧ i < 24 := by have := HI.out.2.2; omega
    rw [hi] at hac hx1
    rw [hx1]
    have hne : ((i : Int) == 24) = false := by simp; omega
    have hi0 : (0 : Int) ≤ (i : Int) := by omega
    have hi24 : (i : Int) < 24 := by omega
    have HA := Lib.hid (fun w => rd_at j i w (by have := HP.out.1; omega) (by omega))
    have H6 := Lib.hid (And.intro hb6 (And.intro hO6 (And.intro hE6 (And.intro hX6 (And.intro hCs (And.intro hi hiB))))))
    have hll : (L ++ wrS j F k).length ≤ 100000 := by rw [List.length_append, wrS_len]; have := HP.out.2.1; have := HI.out.2.2; omega
    have HL := Lib.hid hll
    clear hb6 hO6 hE6 hX6 p0 p1 p2 hA6 hC hx1 hi hiB hCs hll
    gi_wp2
    refine wpIn_region_p4 _ [9] (hds4 [0, 1, 2, 3, 4, 5, 6, 7, 8] (.tl 9 .done)) (fun w => w = X6.drew) (by kernel_rfl) (by kernel_rfl) (by kernel_rfl) ?hL ?hQ rfl ?_
    case hL => rintro ⟨a, w, h⟩; exact h
    case hQ => intro _ _ _ _ _ h; exact h
    iterate 4
      refine wpPl_hd4 ?_ rfl (by rfl) (fun w hSw => ?_) ?_
      rotate_left
      · subst hSw
        go_simp
        first | exact ⟨rfl, rfl⟩ | exact rfl
      simp only [Act.put, List.setIfInBounds_toArray, List.set_cons_zero, List.set_cons_succ]
    refine wpPl_hd4 (.int .i64 (8 * j + i)) rfl (by rfl) (fun w hSw => ?_) ?_
    · clear hSw
      go_simp
      exact (HA.out w).mono (fun e w' h => by
        obtain ⟨rfl, rfl⟩ := h
        first | exact ⟨rfl, rfl⟩ | exact rfl)
    simp only [Act.put, List.setIfInBounds_toArray, List.set_cons_zero, List.set_cons_succ]
    iterate 4
      refine wpPl_hd4 ?_ rfl (by rfl) (fun w hSw => ?_) ?_
      rotate_left
      · subst hSw
        go_simp
        first | exact ⟨rfl, rfl⟩ | exact rfl
      simp only [Act.put, List.setIfInBounds_toArray, List.set_cons_zero, List.set_cons_succ]
    refine wpPl_late4 rfl (by rfl) (by simp) (fun K hK => ?_)
    go_simp
    refine (th_storeX w0.heap.size X6.drew tb (L ++ wrS j F k) v (8 * j + i) (F i) H6.out.1 (H6.out.2.1.ext (Ext.refl [] X6).drew) (by have := H6.out.2.2.1.size; exact this) HL.out).mono ?_
    rintro e X7 ⟨⟨u, rfl⟩, hE7, v', hb7, hO7, hg7⟩
    refine hK _ _ ?_
    clear hK K
    refine wpPl_done4 ?_
    gi_wp2
    obtain ⟨h1, h2, h3, h4, h5, h6, h7⟩ := H6.out
    have hE8 : Ext (tb :: v.ownBlock.toList) X6 X7 := ((Ext.refl _ X6).drew).trans hE7
    refine ⟨hE8, tb :: v'.ownBlock.toList, fun jj hj => ?_, ⟨?_, v', rfl, hb7, ?_, ?_⟩⟩
    · rcases List.mem_cons.1 hj with e | hj
      · exact .inl (by rw [e]; exact List.mem_cons_self ..)
      · rcases hg7 jj (by simpa using hj) with e | e
        · exact .inl (List.mem_cons_of_mem _ (by simpa using e))
        · exact .inr (Nat.le_trans h5 e)
    · refine h4.trans ?_
      exact ((ThPostX.plain (L' := L ++ wrS j F k ++ [⟨2, 8 * j + i, F i⟩]) (e := .returned u) ⟨⟨u, rfl⟩, hE8, v', hb7, hO7, fun g hg => hg7 g hg⟩ h2 h3)).2.2
    · rw [List.length_append, HI.out.2.1]
      show TcOwn X7 w0.heap.size v' (L ++ wrS j F (k + 1))
      rw [wrS_succ, ← List.append_assoc, h6, show (k : Int) + 1 = (i : Int) from by omega]
      exact hO7
    · exact ((ThPostX.plain (L' := L ++ wrS j F k ++ [⟨2, 8 * j + i, F i⟩]) (e := .returned u) ⟨⟨u, rfl⟩, hE8, v', hb7, hO7, fun g hg => hg7 g hg⟩ h2 h3)).2.1.ex
  · intro D mm xs X hD hx hi hdD
    obtain ⟨hXx, v, _, hb, hO, hEx⟩ := hi
    rw [show xs = _ from hx, encQ_len] at hO
    have HX : Hid (TB w0 X tb (L ++ wrS j F 23) ∧ Tx tb W1 X ∧ X.heap[D]? = some (.deferred (some [])) ∧ D ≠ tb ∧ w0.heap.size ≤ D ∧ b < D) :=
      ⟨⟨hEx, v, hb, hO⟩, hXx, hdD, (fun e => by rw [e, hb] at hdD; cases hdD), (by have := HLT.out; have := H1.out.2.2.2.2.2; omega), (by have := HLT.out; omega)⟩
    have hmax := HP.out.2.1
    clear hXx hb hO hEx hdD hD hx
    go_wp2
    go_loopg [24] 3 (fun c i wr => ∃ q : Nat, i = .int .i64 q ∧ q + c = 3 ∧ TB w0 wr tb (L ++ wrS j F 23 ++ flK ([j, j + 1, j + 2].take q)) ∧ Tx tb X wr)
    case atStart => exact ⟨0, rfl, rfl, by simpa [flK] using HX.out.1, Tx.refl _ _⟩
    case round =>
      obtain ⟨q, rfl, hqc, hT, hTx⟩ := hrel
      by_cases hlt : q < 3
      · obtain ⟨p0, p1, p2, _⟩ := HK.out wr (HX.out.2.1.trans hTx)
        have q0 := cell_of (j := 0) p0 rfl
        have q1 := cell_of (j := 0) p1 rfl
        have hd : (q : Int) < 3 := by omega
        have hsn : flK ([j, j + 1, j + 2].take (q + 1)) = flK ([j, j + 1, j + 2].take q) ++ [⟨3, j + (q : Int), 0⟩] := by
          have : q = 0 ∨ q = 1 ∨ q = 2 := by omega
          rcases this with rfl | rfl | rfl
          · show [(⟨3, j, 0⟩ : Tch)] = [⟨3, j + ((0 : Nat) : Int), 0⟩]
            rw [show j + ((0 : Nat) : Int) = j from by omega]
          · rfl
          · rfl
        obtain ⟨y, hy⟩ : ∃ y, j + (q : Int) = y := ⟨_, rfl⟩
        have hwy : wrap64 (j + (q : Int)) = y := by rw [hy]; exact IntWalk.wrap64_in _ (by have := HP.out.1; omega)
        have hwq : wrap64 ((q : Int) + 1) = (q : Int) + 1 := succ_wrap hlt (by decide)
        rw [hy] at hsn
        have hb1 := World.alloc_heap_new wr (.cells #[.int .i64 y] 3)
        have hE1 : Ext [] wr (wr.alloc (.cells #[.int .i64 y] 3)) := (Ext.refl _ _).alloc _
        have hll : (L ++ wrS j F 23 ++ flK ([j, j + 1, j + 2].take q)).length ≤ 50000 := by
          rw [List.length_append, List.length_append, wrS_len]
          unfold flK
          rw [List.length_map, List.length_take]
          simp
          omega
        have HF := Lib.hid (th_flush w0 _ tb _ (some ⟨wr.heap.size, 0, none⟩) 1 [y] (hT.ext0 hE1) (IntT.one hb1) hll (by simp))
        have HJ := Lib.hid (And.intro hqc (And.intro hlt (And.intro (hTx.trans hE1.tx0) hsn)))
        clear hqc hlt hT hTx p0 p1 p2 hsn hb1 hE1 hll hy hmax
        go_wp2_with fail
        refine HF.out.mono ?_
        rintro e X7 ⟨⟨_, rfl⟩, hT7, hX7⟩
        have H7 : Hid (TB w0 X7 tb (L ++ wrS j F 23 ++ flK ([j, j + 1, j + 2].take (q + 1))) ∧ Tx tb X X7) := ⟨by rw [HJ.out.2.2.2, ← List.append_assoc]; exact hT7, HJ.out.2.2.1.trans hX7⟩
        clear hT7 hX7
        go_wp2
        go_roundg (3 - (q + 1))
        case measure => have := HJ.out.1; have := HJ.out.2.1; clear hwq hwy; omega
        case rel => exact ⟨q + 1, by first | (rw [hwq]; rfl) | rfl, by have := HJ.out.1; have := HJ.out.2.1; clear hwq hwy; omega, H7.out⟩
      · obtain rfl : q = 3 := by omega
        have hd : ¬ (((3 : Nat) : Int) < 3) := by omega
        obtain ⟨p0, p1, p2, _⟩ := HK.out wr (HX.out.2.1.trans hTx)
        have q0 := cell_of (j := 0) p0 rfl
        have hll : (L ++ wrS j F 23 ++ flK ([j, j + 1, j + 2].take 3)).length ≤ 100000 := by
          rw [List.length_append, List.length_append, wrS_len]
          show L.length + 23 + 3 ≤ 100000
          omega
        have H8 := Lib.hid (And.intro hT (And.intro hTx hll))
        clear hqc hlt hT hTx p0 p1 p2 hll hmax
        go_wp2_with fail
        refine (th_fence w0 wr tb _ H8.out.1 H8.out.2.2).mono ?_
        rintro e X9 ⟨⟨_, rfl⟩, hT9, hX9⟩
        have h9 := H8.out.2.1.trans hX9
        have hd9 := h9.block _ _ HX.out.2.2.1 HX.out.2.2.2.1 (fun cur f e => by cases e)
        have H9 := Lib.hid (And.intro hT9 (And.intro (HX.out.2.1.trans h9) hd9))
        clear hT9 hX9 h9 hd9
        go_wp2
        show LeavesInM _ _ _ _ _ _ _ _ _
        have hp : Ext [D] X9 (X9.putObj D (.deferred none)) := (Ext.refl _ _).put (.inl (by simp)) _
        refine leaves_mark H9.out.2.2 (results_none rfl _ _ _) ⟨⟨_, rfl⟩, ?_, (H1.out.2.1.trans H9.out.2.1).then hp (fun jj hj => .inr (by simp at hj; have h1 := HX.out.2.2.2.2.2; have h2 := HP.out.2.2; omega))⟩
        have hT9 := H9.out.1.other HX.out.2.2.2.2.1 H9.out.2.2 (fun cur e f h => by cases h) hp
        unfold wrT
        rw [← List.append_assoc]
        simpa [flK] using hT9
  · intro D c' W' hD h
    exact h.elim
end Go.Proofs.Ytjdojckemphadaa
