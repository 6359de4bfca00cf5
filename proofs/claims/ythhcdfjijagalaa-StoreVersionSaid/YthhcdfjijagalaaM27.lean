/- Joined, and what is not used struck: StoI. -/
import Derived.Test.YthhcdfjijagalaaM16
import Derived.Test.YthhcdfjijagalaaM11
import Derived.Test.YthhcdfjijagalaaM23
import Derived.Test.YthhcdfjijagalaaM19
namespace Go.Proofs.Ythhcdfjijagalaa
open Go.RowKit
set_option linter.unusedVariables false
set_option maxRecDepth 100000
set_option maxHeartbeats 1000000 in
theorem cloneEv_call (a : Option Addr) (n cap : Nat) (cs : List Value) (w : World) (h : Sl w 3 a n cap cs) (h1 : ∀ u ∈ cs, u.oneCell' = true) (hlim : n ≤ 1000000) :
    Calls Try.prog 54 #[.slice a n cap] w fun e w' => ∃ v, e = .returned v ∧ Below w.heap.size w w' ∧ w'.ownsRow w.heap.size 32 3 v n cs := by
  cases a with
  | none =>
    have h0 := h.nil rfl
    have hle := h.le
    obtain rfl : n = 0 := by omega
    obtain rfl : cap = 0 := h0
    have hl0 : cs = [] := List.eq_nil_of_length_eq_zero (by have := h.len; omega)
    subst hl0
    have he := fun wx => Lib.run_eql_slice_nil (P := Try.prog) wx 25 32 none 0 0 0 0 Try.underlying25
    go_enter Try.func54, Try.ntmps54
    go_wp2
    go_ret
    exact ⟨_, rfl, Below.refl _ _, World.ownsRow_nil _ _ _ _⟩
  | some p =>
    have he := fun wx => Lib.run_eql_slice_nil (P := Try.prog) wx 25 32 (some p) n cap 0 0 Try.underlying25
    go_enter Try.func54, Try.ntmps54
    go_wp2_with (at_builtin; (refine wpList_append_t rfl (.tmp 5) (.tmp 6) 25 25 rfl w.heap.size 32 3 32 _ Try.underlying25 info_ev rfl (by decide) (.slice (some ⟨w.heap.size, 0, none⟩) 0 0) 0 [] rfl (OT.fresh (World.ownsRow_lit w #[] 0 (Nat.le_refl _) (by decide) rfl) ((Below.refl _ _).alloc (Nat.le_refl _) _) (Nat.le_refl _)) (.slice (some p) n cap) n cs rfl (Sl.src (h.alloc _) Try.underlying25 h1) ?d1 ?d2 ?d3 ?_); (case d1 => unfold maxLen; omega); (case d2 => omega); (case d3 => simp); intro v2 w4 ho2 hg2)
    go_ret
    refine ⟨v2, rfl, ho2.belowOf (Nat.le_refl _) (fun k e => by cases e), ?_⟩
    have := ho2.own
    rwa [List.nil_append, Nat.zero_add] at this
set_option maxHeartbeats 1000000 in
theorem cloneBa_call (a : Option Addr) (n cap : Nat) (cs : List Value) (w : World) (h : Sl w 2 a n cap cs) (h1 : ∀ u ∈ cs, u.oneCell' = true) (hlim : n ≤ 1000000) :
    Calls Try.prog 55 #[.slice a n cap] w fun e w' => ∃ v, e = .returned v ∧ Below w.heap.size w w' ∧ w'.ownsRow w.heap.size 27 2 v n cs := by
  cases a with
  | none =>
    have h0 := h.nil rfl
    have hle := h.le
    obtain rfl : n = 0 := by omega
    obtain rfl : cap = 0 := h0
    have hl0 : cs = [] := List.eq_nil_of_length_eq_zero (by have := h.len; omega)
    subst hl0
    have he := fun wx => Lib.run_eql_slice_nil (P := Try.prog) wx 39 27 none 0 0 0 0 Try.underlying39
    go_enter Try.func55, Try.ntmps55
    go_wp2
    go_ret
    exact ⟨_, rfl, Below.refl _ _, World.ownsRow_nil _ _ _ _⟩
  | some p =>
    have he := fun wx => Lib.run_eql_slice_nil (P := Try.prog) wx 39 27 (some p) n cap 0 0 Try.underlying39
    go_enter Try.func55, Try.ntmps55
    go_wp2_with (at_builtin; (refine wpList_append_t rfl (.tmp 5) (.tmp 6) 39 39 rfl w.heap.size 27 2 32 _ Try.underlying39 info_ba rfl (by decide) (.slice (some ⟨w.heap.size, 0, none⟩) 0 0) 0 [] rfl (OT.fresh (World.ownsRow_lit w #[] 0 (Nat.le_refl _) (by decide) rfl) ((Below.refl _ _).alloc (Nat.le_refl _) _) (Nat.le_refl _)) (.slice (some p) n cap) n cs rfl (Sl.src (h.alloc _) Try.underlying39 h1) ?d1 ?d2 ?d3 ?_); (case d1 => unfold maxLen; omega); (case d2 => omega); (case d3 => simp); intro v2 w4 ho2 hg2)
    go_ret
    refine ⟨v2, rfl, ho2.belowOf (Nat.le_refl _) (fun k e => by cases e), ?_⟩
    have := ho2.own
    rwa [List.nil_append, Nat.zero_add] at this
set_option maxHeartbeats 1000000 in
theorem cloneInt_call (a : Option Addr) (n cap : Nat) (cs : List Value) (w : World) (h : Sl w 1 a n cap cs) (h1 : ∀ u ∈ cs, u.oneCell' = true) (hlim : n ≤ 1000000) :
    Calls Try.prog 58 #[.slice a n cap] w fun e w' => ∃ v, e = .returned v ∧ Below w.heap.size w w' ∧ w'.ownsRow w.heap.size 3 1 v n cs := by
  cases a with
  | none =>
    have h0 := h.nil rfl
    have hle := h.le
    obtain rfl : n = 0 := by omega
    obtain rfl : cap = 0 := h0
    have hl0 : cs = [] := List.eq_nil_of_length_eq_zero (by have := h.len; omega)
    subst hl0
    have he := fun wx => Lib.run_eql_slice_nil (P := Try.prog) wx 22 3 none 0 0 0 0 Try.underlying22
    go_enter Try.func58, Try.ntmps58
    go_wp2
    go_ret
    exact ⟨_, rfl, Below.refl _ _, World.ownsRow_nil _ _ _ _⟩
  | some p =>
    have he := fun wx => Lib.run_eql_slice_nil (P := Try.prog) wx 22 3 (some p) n cap 0 0 Try.underlying22
    go_enter Try.func58, Try.ntmps58
    go_wp2_with (at_builtin; (refine wpList_append_t rfl (.tmp 5) (.tmp 6) 22 22 rfl w.heap.size 3 1 8 _ Try.underlying22 info_int8 rfl (by decide) (.slice (some ⟨w.heap.size, 0, none⟩) 0 0) 0 [] rfl (OT.fresh (World.ownsRow_lit w #[] 0 (Nat.le_refl _) (by decide) rfl) ((Below.refl _ _).alloc (Nat.le_refl _) _) (Nat.le_refl _)) (.slice (some p) n cap) n cs rfl (Sl.src (h.alloc _) Try.underlying22 h1) ?d1 ?d2 ?d3 ?_); (case d1 => unfold maxLen; omega); (case d2 => omega); (case d3 => simp); intro v2 w4 ho2 hg2)
    go_ret
    refine ⟨v2, rfl, ho2.belowOf (Nat.le_refl _) (fun k e => by cases e), ?_⟩
    have := ho2.own
    rwa [List.nil_append, Nat.zero_add] at this
theorem info_Held : (Try.prog.info? 90).map (fun i => (i.zero, i.size, i.bytes)) = some (some (.agg #[.int .i64 0, .slice none 0 0]), 2, 32) := by kernel_rfl
theorem Heldrl (l : List Hm) : (rows hm2 l).length = l.length * 2 := rows_length hm2_len l
theorem Heldra (l m : List Hm) : rows hm2 (l ++ m) = rows hm2 l ++ rows hm2 m := rows_append l m
theorem Heldrt (l : List Hm) (i : Nat) : rows hm2 (l.take i) = (rows hm2 l).take (i * 2) := rows_take hm2_len l i
theorem Heldrd (l : List Hm) (i : Nat) : rows hm2 (l.drop i) = (rows hm2 l).drop (i * 2) := rows_drop hm2_len l i
theorem Heldr1 (l : List Hm) : ∀ u ∈ rows hm2 l, u.oneCell' = true := rows_one hm2_one l
theorem held_src (w : World) (x : Hm) (vb : Nat) (hv : w.heap[vb]? = some (.cells #[.int .i64 x.s, .slice x.a x.b.length x.cap] 90 (0, 0))) : Src Try.prog 2 59 (.slice (some ⟨vb, 0, none⟩) 1 1) 1 ((hm2 x)) w :=
  Src.ofSlice w Try.underlying59 ⟨vb, 0, none⟩ 1 1 ((hm2 x)) rfl (fun j u hj => by
    rw [add_off, Nat.zero_add, blk_cell hv]
    simpa [hm2, Hm.v] using hj) (fun u hu => by
    simp only [hm2, List.mem_cons, List.not_mem_nil, or_false] at hu
    rcases hu with rfl | rfl <;> rfl)
set_option maxHeartbeats 1000000 in
theorem insertHeld_end (v : Value) (n : Nat) (l : List Hm) (x : Hm) (vb base : Nat) (w : World) (ho : w.ownsRow base 90 2 v n (rows hm2 l)) (hbase : base ≤ w.heap.size) (hn : n ≤ 1000000)
    (hv : w.heap[vb]? = some (.cells #[.int .i64 x.s, .slice x.a x.b.length x.cap] 90 (0, 0))) :
    Calls Try.prog 84 #[v, .int .i64 (n : Int), .slice (some ⟨vb, 0, none⟩) 1 1] w fun e w' => ∃ v', e = .returned v' ∧ OT w w' v.ownBlock base 90 2 v' (n + 1) (rows hm2 l ++ (hm2 x)) := by
  have HS := held_src w x vb hv
  rcases ho.2 with ⟨rfl, rfl⟩ | ⟨g, cap, cur, rfl, _, _, hnc, hcm, _, _⟩
  · go_enter Try.func84, Try.ntmps84
    go_wp2_with (at_builtin; (refine wpList_append_t rfl (.tmp 23) (.tmp 24) 59 59 rfl base 90 2 32 _ Try.underlying59 info_Held rfl (by decide) (.slice none 0 0) 0 (rows hm2 l) rfl (OT.start ho) (.slice (some ⟨vb, 0, none⟩) 1 1) 1 ((hm2 x)) rfl HS ?d1 ?d2 ?d3 ?_); (case d1 => unfold maxLen; omega); (case d2 => omega); (case d3 => exact hbase); intro v2 w4 ho2 hg2)
    go_ret
    exact ⟨v2, rfl, ho2⟩
  · unfold maxLen at hcm
    by_cases hc : cap = n
    · subst hc
      go_enter Try.func84, Try.ntmps84
      go_wp2_with (at_builtin; (refine wpList_append_t rfl (.tmp 23) (.tmp 24) 59 59 rfl base 90 2 32 _ Try.underlying59 info_Held rfl (by decide) (.slice (some ⟨g, 0, none⟩) cap cap) cap (rows hm2 l) rfl (OT.start ho) (.slice (some ⟨vb, 0, none⟩) 1 1) 1 ((hm2 x)) rfl HS ?d1 ?d2 ?d3 ?_); (case d1 => unfold maxLen; omega); (case d2 => omega); (case d3 => exact hbase); intro v2 w4 ho2 hg2)
      go_ret
      exact ⟨v2, rfl, ho2⟩
    · go_enter Try.func84, Try.ntmps84
      go_wp2_with (at_builtin; (refine wpList_append_t rfl (.tmp 23) (.tmp 24) 59 59 rfl base 90 2 32 _ Try.underlying59 info_Held rfl (by decide) (.slice (some ⟨g, 0, none⟩) n cap) n (rows hm2 l) rfl (OT.start ho) (.slice (some ⟨vb, 0, none⟩) 1 1) 1 ((hm2 x)) rfl HS ?d1 ?d2 ?d3 ?_); (case d1 => unfold maxLen; omega); (case d2 => omega); (case d3 => exact hbase); intro v2 w4 ho2 hg2)
      go_ret
      exact ⟨v2, rfl, ho2⟩
set_option maxHeartbeats 4000000 in
set_option maxRecDepth 100000 in
theorem insertHeld_shift (g n cap : Nat) (l : List Hm) (i : Nat) (x : Hm) (vb base : Nat) (w : World) (ho : w.ownsRow base 90 2 (.slice (some ⟨g, 0, none⟩) n cap) n (rows hm2 l)) (hn : n ≤ 1000000) (hi : i < n) (hroom : n + 1 ≤ cap) (hne : vb ≠ g)
    (hv : w.heap[vb]? = some (.cells #[.int .i64 x.s, .slice x.a x.b.length x.cap] 90 (0, 0))) :
    Calls Try.prog 84 #[.slice (some ⟨g, 0, none⟩) n cap, .int .i64 (i : Int), .slice (some ⟨vb, 0, none⟩) 1 1] w fun e w' => ∃ v', e = .returned v' ∧ OT w w' (some g) base 90 2 v' (n + 1) (rows hm2 (l.take i ++ x :: l.drop i)) := by
  obtain ⟨cur, hg, hbg, hnc, hcm, hcl, hct⟩ := own_known ho
  have hgl := blk_lt hg
  have hll : l.length = n := by have := ho.1; rw [Heldrl] at this; omega
  unfold maxLen at hcm
  have hsz : (Try.prog.info? 90).map (·.size) = some 2 := by kernel_rfl
  have hov : ∀ lb cb, (callFunc 96 #[.slice (some ⟨vb, 0, none⟩) 1 1, .slice (some ⟨g, (i + 1) * 2, none⟩) lb cb]).run Try.prog w = .ok (.value (.bool false)) w := fun lb cb => by
    rw [run_callFunc_extern Try.func96 (by kernel_rfl) (by kernel_rfl) (by kernel_rfl) (e := Extern.SlicesOverlaps.overlaps #[59, 59] #[4]) (by kernel_rfl),
      Lib.run_overlaps_apart w 59 4 90 Try.underlying59 2 Try.sizeOf90 ⟨vb, 0, none⟩ ⟨g, (i + 1) * 2, none⟩ 1 1 lb cb hne 90 90 2 (cap * 2) (by simp [World.shape?, hv]) (by simp [World.shape?, hg, hcl]) (by omega) (blk_free hv) (blk_free hv)]
    rfl
  have hw1 : IntKind.i64.wrap ((i : Int) + 1) = (i : Int) + 1 := IntWalk.i64_in _ (by omega)
  have hw2 : IntKind.i64.wrap ((n : Int) + 1) = (n : Int) + 1 := IntWalk.i64_in _ (by omega)
  have hb1 : (0 : Int) ≤ (i : Int) + 1 := by omega
  have hin : i ≤ n := by omega
  have htn : ((i : Int) + 1).toNat = i + 1 := by omega
  have htm : ((n : Int) + 1).toNat = n + 1 := by omega
  have hb2 : ¬ (cap = i + 1) := by omega
  have hb3 : (i : Int) ≤ (n : Int) + 1 := by omega
  have hb4 : ¬ (cap = i) := by omega
  have hb5 : ¬ ((i : Int) = (n : Int)) := by omega
  have hdl : (rows hm2 (l.drop i)).length = (n - i) * 2 := by rw [Heldrl, List.length_drop, hll]
  have hcp1 : ∀ ty dc sc, (Builtin.copy_ #[59, 59] ty #[.slice (some ⟨g, (i + 1) * 2, none⟩) (n - i) dc, .slice (some ⟨g, i * 2, none⟩) (n + 1 - i) sc]).run Try.prog w.drew = .ok (goInt ((n - i : Nat) : Int)) (w.drew.setRow g (splice cur ((i + 1) * 2) (rows hm2 (l.drop i))).toArray) := fun ty dc sc => by
    have hmin : Nat.min (n + 1 - i) (n - i) = n - i := by
      show min _ _ = _
      omega
    have := run_copy_src (P := Try.prog) w.drew 59 59 ty 90 90 2 Try.underlying59 hsz g ((i + 1) * 2) (n - i) dc (n + 1 - i) sc (some ⟨g, i * 2, none⟩) cur 90 hg (rows hm2 (l.drop i))
      (by
        rw [hmin]
        exact run_firstCells_some w.drew 2 (n - i) ⟨g, i * 2, none⟩ _ _ _ hdl (fun j u hj => by
          rw [Heldrd, List.getElem?_drop, ← hct, List.getElem?_take] at hj
          rw [add_off]
          show w.cell? _ = _
          rw [blk_cell hg]
          split at hj
          · simpa using hj
          · cases hj))
      (by rw [hdl, hcl]; omega) (Heldr1 _)
    rw [hmin] at this
    exact this
  obtain ⟨S1, hS1⟩ : ∃ S1, S1 = splice cur ((i + 1) * 2) (rows hm2 (l.drop i)) := ⟨_, rfl⟩
  rw [← hS1] at hcp1
  have hS1l : S1.length = cap * 2 := by rw [hS1, length_splice _ _ _ (by rw [hdl, hcl]; omega), hcl]
  replace hS1 := hid hS1
  have hcp2 : ∀ ty dc, (Builtin.copy_ #[59, 59] ty #[.slice (some ⟨g, i * 2, none⟩) (n + 1 - i) dc, .slice (some ⟨vb, 0, none⟩) 1 1]).run Try.prog (w.drew.setRow g S1.toArray) = .ok (goInt ((Nat.min 1 (n + 1 - i) : Nat) : Int)) ((w.drew.setRow g S1.toArray).setRow g (splice S1 (i * 2) ((hm2 x))).toArray) := fun ty dc => by
    have hmin : Nat.min 1 (n + 1 - i) = 1 := by
      show min _ _ = _
      omega
    refine run_copy_src (P := Try.prog) (w.drew.setRow g S1.toArray) 59 59 ty 90 90 2 Try.underlying59 hsz g (i * 2) (n + 1 - i) dc 1 1 (some ⟨vb, 0, none⟩) S1 90 (setRow_heap w.drew g _ _ 90 _ hg) ((hm2 x)) ?_ (by rw [hS1l]; simp [hm2]; omega) (fun u hu => by
      simp only [hm2, List.mem_cons, List.not_mem_nil, or_false] at hu
      rcases hu with rfl | rfl <;> rfl)
    rw [hmin]
    refine run_firstCells_some _ 2 1 ⟨vb, 0, none⟩ _ _ _ rfl (fun j u hj => ?_)
    have hv' : (w.drew.setRow g S1.toArray).heap[vb]? = some (.cells #[.int .i64 x.s, .slice x.a x.b.length x.cap] 90 (0, 0)) := by
      rw [setRow_other _ g vb _ hne]; exact hv
    rw [add_off, Nat.zero_add, blk_cell hv']
    simpa [hm2, Hm.v] using hj
  go_enter Try.func84, Try.ntmps84
  go_wp2_with (simp only [hov])
  go_region_law (refine step_copy_at rfl _ _ 59 59 rfl _ _ (by simp [Act.eval, Act.put]) (by simp [Act.eval, Act.put]) (hcp1 _ _ _) ?_)
  go_wp2_with (at_builtin; refine wpList_copy_at _ rfl _ _ 59 59 rfl _ _ rfl rfl (hcp2 _ _) ?_)
  go_ret
  refine ⟨_, rfl, ?_⟩
  obtain ⟨k1, k2⟩ := setRow_twice w.drew g S1.toArray (splice S1 (i * 2) ((hm2 x))).toArray 90 cur.toArray hg
  have hl2 : (splice S1 (i * 2) ((hm2 x))).length = cap * 2 := by
    rw [length_splice _ _ _ (by rw [hS1l]; simp [hm2]; omega), hS1l]
  refine ⟨own_of_known k1 hbg hroom (by unfold maxLen; omega) hl2 ?_, ⟨k2.os, k2.tape, k2.output, k2.size, k2.block⟩, .inl rfl⟩
  have hsp := splice_in cur (rows hm2 (l.drop i)) ((hm2 x)) (i * 2) 2 rfl (by rw [hcl]; omega)
  rw [show i * 2 + 2 = (i + 1) * 2 by omega, ← hS1.out, hdl, show (i + 1) * 2 + (n - i) * 2 = (n + 1) * 2 by omega] at hsp
  rw [hsp, Heldra, Heldrt, ← hct, List.take_take, Nat.min_eq_left (by omega)]
  rfl
set_option maxHeartbeats 4000000 in
set_option maxRecDepth 100000 in
theorem insertHeld_grow (g n cap : Nat) (l : List Hm) (i : Nat) (x : Hm) (vb base : Nat) (w : World) (ho : w.ownsRow base 90 2 (.slice (some ⟨g, 0, none⟩) n cap) n (rows hm2 l)) (hbase : base ≤ w.heap.size) (hn : n ≤ 1000000) (hi : i < n) (hroom : cap < n + 1)
    (hv : w.heap[vb]? = some (.cells #[.int .i64 x.s, .slice x.a x.b.length x.cap] 90 (0, 0))) :
    Calls Try.prog 84 #[.slice (some ⟨g, 0, none⟩) n cap, .int .i64 (i : Int), .slice (some ⟨vb, 0, none⟩) 1 1] w fun e w' => ∃ v', e = .returned v' ∧ OT w w' (some g) base 90 2 v' (n + 1) (rows hm2 (l.take i ++ x :: l.drop i)) := by
  obtain ⟨cur, hg, hbg, hnc, hcm, hcl, hct⟩ := own_known ho
  obtain rfl : cap = n := by omega
  have hgl := blk_lt hg
  have hvl := blk_lt hv
  have hll : l.length = cap := by have := ho.1; rw [Heldrl] at this; omega
  clear hcm
  have hsz : (Try.prog.info? 90).map (·.size) = some 2 := by kernel_rfl
  obtain ⟨i0, hi0, hz0, hzs, hzb⟩ := info_parts1 info_Held
  have hold : (Builtin.firstCells i0.size i (.slice (some ⟨g, 0, none⟩) i cap)).run Try.prog w.drew = .ok (rows hm2 (l.take i)).toArray w.drew := by
    rw [hzs]
    exact run_firstCells_some w.drew 2 i ⟨g, 0, none⟩ i cap (rows hm2 (l.take i)) (by rw [Heldrl, List.length_take]; omega) (fun j v hj => by
      rw [add_off, Nat.zero_add]
      show w.cell? _ = _
      rw [blk_cell hg]
      rw [Heldrt, ← hct, List.getElem?_take] at hj
      split at hj
      · rw [List.getElem?_take] at hj
        split at hj
        · simpa using hj
        · cases hj
      · cases hj)
  have hik : i + (cap + 1 - i) = cap + 1 := by omega
  have hkk : (cap : Int) + 1 - (i : Int) = ((cap + 1 - i : Nat) : Int) := by omega
  obtain ⟨G, hG⟩ : ∃ G, G = grownCap w (cap + 1) cap 90 := ⟨_, rfl⟩
  have hGn : cap + 1 ≤ G := by rw [hG]; exact grownCap_ge w _ _ _
  have hGm : G ≤ maxLen := by rw [hG]; exact grownCap_le_maxLen w (cap + 1) cap 90 (by unfold maxLen; omega)
  obtain ⟨ROW, hROW⟩ : ∃ ROW : List Value, ROW = ((rows hm2 (l.take i)).toArray ++ Builtin.zeroCells (Value.agg #[.int .i64 0, .slice none 0 0]).cells (cap + 1 - i) ++ Builtin.zeroCells (Value.agg #[.int .i64 0, .slice none 0 0]).cells (G - (cap + 1))).toList := ⟨_, rfl⟩
  have hzc : (Value.agg #[.int .i64 0, .slice none 0 0]).cells.size = 2 := by kernel_rfl
  have htl : (rows hm2 (l.take i)).length = i * 2 := by rw [Heldrl, List.length_take, hll, Nat.min_eq_left (by omega)]
  have hRl : ROW.length = G * 2 := by
    rw [hROW, Array.length_toList, Array.size_append, Array.size_append, size_zeroCells, size_zeroCells, hzc, List.size_toArray, htl]
    omega
  have hRt : ROW.take (i * 2) = rows hm2 (l.take i) := by
    rw [hROW, Array.toList_append, Array.toList_append, List.append_assoc]
    exact List.take_left' (by simpa using htl)
  have hrz : ∀ ty, (Builtin.append_ #[59, 3] ty #[.slice (some ⟨g, 0, none⟩) i cap, .int .i64 ((cap : Int) + 1 - (i : Int))]).run Try.prog w = .ok (.slice (some ⟨w.heap.size, 0, none⟩) (cap + 1) G) (w.drew.alloc (.cells ROW.toArray 90)) := fun ty => by
    have h := Lib.run_append_grow_zeros (P := Try.prog) w 59 3 ty 90 i0 _ .i64 .i64 Try.underlying59 Try.underlying3 hi0 hz0 (some ⟨g, 0, none⟩) i cap (rows hm2 (l.take i)) hold (cap + 1 - i) (by omega) (by omega) (by omega) (by omega) (by rw [hzb]; omega) (by rw [hzb, hik]; exact growslice_fits (by omega) (by omega))
    rw [hik, ← hG] at h
    rw [hkk, hROW, Array.toArray_toList]
    exact h
  obtain ⟨N, hN⟩ : ∃ N, N = w.heap.size := ⟨_, rfl⟩
  obtain ⟨W1, hW1⟩ : ∃ W1, W1 = w.drew.alloc (.cells ROW.toArray 90) := ⟨_, rfl⟩
  have hk1 : W1.heap[N]? = some (.cells ROW.toArray 90 (0, 0)) := by rw [hW1, hN]; exact heap_alloc_new w.drew _
  have hgr : w.grownBy W1 none := by rw [hW1]; exact ⟨rfl, rfl, rfl, by simp, fun k hk _ => heap_alloc_old w.drew _ hk⟩
  have hgW : W1.heap[g]? = some (.cells cur.toArray 90 (0, 0)) := (hgr.block g hgl (by simp)).trans hg
  have hvW : W1.heap[vb]? = some (.cells #[.int .i64 x.s, .slice x.a x.b.length x.cap] 90 (0, 0)) := (hgr.block vb hvl (by simp)).trans hv
  rw [← hW1, ← hN] at hrz
  have hNg : g ≠ N := by omega
  have hxl : ((hm2 x)).length = 2 := rfl
  have hx1 : ∀ u ∈ (hm2 x), u.oneCell' = true := fun u hu => by
    simp only [hm2, List.mem_cons, List.not_mem_nil, or_false] at hu
    rcases hu with rfl | rfl <;> rfl
  have hcpA : ∀ ty dc, (Builtin.copy_ #[59, 59] ty #[.slice (some ⟨N, i * 2, none⟩) (cap + 1 - i) dc, .slice (some ⟨vb, 0, none⟩) 1 1]).run Try.prog W1 = .ok (goInt ((Nat.min 1 (cap + 1 - i) : Nat) : Int)) (W1.setRow N (splice ROW (i * 2) ((hm2 x))).toArray) := fun ty dc => by
    have hmin : Nat.min 1 (cap + 1 - i) = 1 := by
      show min _ _ = _
      omega
    refine run_copy_src (P := Try.prog) W1 59 59 ty 90 90 2 Try.underlying59 hsz N (i * 2) (cap + 1 - i) dc 1 1 (some ⟨vb, 0, none⟩) ROW 90 hk1 ((hm2 x)) ?_ (by rw [hRl, hxl]; omega) hx1
    rw [hmin]
    refine run_firstCells_some _ 2 1 ⟨vb, 0, none⟩ _ _ _ rfl (fun j u hj => ?_)
    rw [add_off, Nat.zero_add, blk_cell hvW]
    simpa [hm2, Hm.v] using hj
  obtain ⟨S1, hS1⟩ : ∃ S1, S1 = splice ROW (i * 2) ((hm2 x)) := ⟨_, rfl⟩
  have hS1l : S1.length = G * 2 := by rw [hS1, length_splice _ _ _ (by rw [hxl, hRl]; omega), hRl]
  rw [← hS1] at hcpA
  obtain ⟨W2, hW2⟩ : ∃ W2, W2 = W1.setRow N S1.toArray := ⟨_, rfl⟩
  have hk2 : W2.heap[N]? = some (.cells S1.toArray 90 (0, 0)) := by rw [hW2]; exact setRow_heap W1 N _ _ 90 _ hk1
  have hgW2 : W2.heap[g]? = some (.cells cur.toArray 90 (0, 0)) := by rw [hW2, setRow_other _ N g _ hNg]; exact hgW
  rw [← hW2] at hcpA
  have hdl : (rows hm2 (l.drop i)).length = (cap - i) * 2 := by rw [Heldrl, List.length_drop, hll]
  have hcpB : ∀ ty dc sc, (Builtin.copy_ #[59, 59] ty #[.slice (some ⟨N, (i + 1) * 2, none⟩) (cap - i) dc, .slice (some ⟨g, i * 2, none⟩) (cap - i) sc]).run Try.prog W2.drew = .ok (goInt ((cap - i : Nat) : Int)) (W2.drew.setRow N (splice S1 ((i + 1) * 2) (rows hm2 (l.drop i))).toArray) := fun ty dc sc => by
    have hmin : Nat.min (cap - i) (cap - i) = cap - i := by
      show min _ _ = _
      omega
    have := run_copy_src (P := Try.prog) W2.drew 59 59 ty 90 90 2 Try.underlying59 hsz N ((i + 1) * 2) (cap - i) dc (cap - i) sc (some ⟨g, i * 2, none⟩) S1 90 hk2 (rows hm2 (l.drop i))
      (by
        rw [hmin]
        exact run_firstCells_some W2.drew 2 (cap - i) ⟨g, i * 2, none⟩ _ _ _ hdl (fun j u hj => by
          rw [Heldrd, List.getElem?_drop, ← hct, List.getElem?_take] at hj
          rw [add_off]
          show W2.cell? _ = _
          rw [blk_cell hgW2]
          split at hj
          · simpa using hj
          · cases hj))
      (by rw [hdl, hS1l]; omega) (Heldr1 _)
    rw [hmin] at this
    exact this
  have hfin : (splice S1 ((i + 1) * 2) (rows hm2 (l.drop i))).take ((cap + 1) * 2) = rows hm2 (l.take i ++ x :: l.drop i) := by
    have e1 : (i + 1) * 2 = i * 2 + 2 := by omega
    have hS1t : S1.take ((i + 1) * 2) = rows hm2 (l.take i) ++ (hm2 x) := by
      rw [hS1]
      unfold splice
      rw [← List.append_assoc, List.take_left' (by rw [List.length_append, List.length_take, hxl, hRl]; omega), hRt]
    unfold splice
    rw [hS1t, ← List.append_assoc, List.take_left' (by rw [List.length_append, List.length_append, htl, hxl, hdl]; omega), Heldra, List.append_assoc]
    rfl
  have hfl : (splice S1 ((i + 1) * 2) (rows hm2 (l.drop i))).length = G * 2 := by rw [length_splice _ _ _ (by rw [hdl, hS1l]; omega), hS1l]
  obtain ⟨S2, hS2⟩ : ∃ S2, S2 = splice S1 ((i + 1) * 2) (rows hm2 (l.drop i)) := ⟨_, rfl⟩
  rw [← hS2] at hfin hfl hcpB
  have hbN : base ≤ N := by omega
  have hk3 : (W2.drew.setRow N S2.toArray).heap[N]? = some (.cells S2.toArray 90 (0, 0)) := setRow_heap W2.drew N _ _ 90 _ hk2
  have hgr3 : w.grownBy (W2.drew.setRow N S2.toArray) (some g) := by
    refine ⟨?_, ?_, ?_, ?_, fun k hk hne => ?_⟩
    · show W2.os = _; rw [hW2]; exact hgr.os
    · show W2.tape = _; rw [hW2]; exact hgr.tape
    · show W2.output = _; rw [hW2]; exact hgr.output
    · have := hgr.size; rw [hW2]; simpa [World.setRow] using this
    · have hkN : k ≠ N := by omega
      rw [setRow_other _ N k _ hkN]
      show W2.heap[k]? = _
      rw [hW2, setRow_other _ N k _ hkN]
      exact hgr.block k hk (by simp)
  have hGi : ¬ (G = i) := by omega
  have hGim : ¬ (G = i + 1) := by omega
  have hci : ¬ (cap = i) := by omega
  have hw1 : IntKind.i64.wrap ((i : Int) + 1) = (i : Int) + 1 := IntWalk.i64_in _ (by omega)
  have hw2 : IntKind.i64.wrap ((cap : Int) + 1) = (cap : Int) + 1 := IntWalk.i64_in _ (by omega)
  have hw3 : IntKind.i64.wrap ((cap : Int) + 1 - (i : Int)) = (cap : Int) + 1 - (i : Int) := IntWalk.i64_in _ (by omega)
  have hb1 : (0 : Int) ≤ (i : Int) + 1 := by omega
  have hin : i ≤ cap := by omega
  have htn : ((i : Int) + 1).toNat = i + 1 := by omega
  have hb3 : (i : Int) ≤ (cap : Int) := by omega
  have hb5 : ¬ ((i : Int) = (cap : Int)) := by omega
  have hgd1 : ∃ v', (Value.slice (some ⟨N, 0, none⟩) (cap + 1) G) = v' ∧ OT w (W2.drew.setRow N S2.toArray) (some g) base 90 2 v' (cap + 1) (rows hm2 (l.take i ++ x :: l.drop i)) :=
    ⟨_, rfl, own_of_known hk3 hbN hGn hGm hfl hfin, hgr3, .inr (fun k hk => by cases hk; exact Nat.le_of_eq hN.symm)⟩
  replace hgd1 := hid hgd1
  unfold maxLen at hGm
  clear hkk hik hold hROW hG hRl hRt hW1 hW2 hS1 hS2 hfin hfl hk3 hgr3 hN
  go_enter Try.func84, Try.ntmps84
  go_wp2_with (first
    | (at_builtin; refine Lib.wpList_append_run _ rfl _ _ _ _ rfl _ _ rfl rfl _ _ (hrz _) ?_)
    | (at_builtin; refine wpList_copy_at _ rfl _ _ 59 59 rfl _ _ rfl rfl (hcpA _ _) ?_))
  go_region_law (refine step_copy_at rfl _ _ 59 59 rfl _ _ (by simp [Act.eval, Act.put]) (by simp [Act.eval, Act.put]) (hcpB _ _ _) ?_)
  go_wp2_with fail
  go_ret
  obtain ⟨v', e1, e2⟩ := hgd1.out
  exact ⟨v', by rw [← e1]; rfl, e2⟩
theorem insertHeld_call (v : Value) (n : Nat) (l : List Hm) (i : Nat) (x : Hm) (vb base : Nat) (w : World) (ho : w.ownsRow base 90 2 v n (rows hm2 l)) (hbase : base ≤ w.heap.size) (hn : n ≤ 1000000) (hi : i ≤ n) (hne : v.ownBlock ≠ some vb)
    (hv : w.heap[vb]? = some (.cells #[.int .i64 x.s, .slice x.a x.b.length x.cap] 90 (0, 0))) :
    Calls Try.prog 84 #[v, .int .i64 (i : Int), .slice (some ⟨vb, 0, none⟩) 1 1] w fun e w' => ∃ v', e = .returned v' ∧ OT w w' v.ownBlock base 90 2 v' (n + 1) (rows hm2 (l.take i ++ x :: l.drop i)) := by
  have hll : l.length = n := by have := ho.1; rw [Heldrl] at this; omega
  rcases Nat.lt_or_ge i n with h | h
  · obtain ⟨g, cap, rfl, hbg, hgl, hnc, hcm⟩ := own_pos ho (by omega)
    rcases Nat.lt_or_ge cap (n + 1) with hc | hc
    · exact insertHeld_grow g n cap l i x vb base w ho hbase hn h hc hv
    · exact insertHeld_shift g n cap l i x vb base w ho hn h hc (fun e => hne (by rw [e]; rfl)) hv
  · obtain rfl : i = n := by omega
    have := insertHeld_end v i l x vb base w ho hbase hn hv
    rw [List.take_of_length_le (by omega), List.drop_of_length_le (by omega), Heldra]
    exact this
def i1 (x : Int) : List Value := [.int .i64 x]
theorem i1_len (x : Int) : (i1 x).length = 1 := rfl
theorem i1_one (x : Int) : ∀ u ∈ i1 x, u.oneCell' = true := by
  intro u hu
  simp only [i1, List.mem_cons, List.not_mem_nil, or_false] at hu
  subst hu
  rfl
theorem rows_i1 (l : List Int) : rows i1 l = l.map (Value.int .i64) := by
  induction l with
  | nil => rfl
  | cons x l ih => rw [rows_cons, ih]; rfl
theorem Intrl (l : List Int) : (rows i1 l).length = l.length := by rw [rows_length i1_len]; omega
theorem Intra (l m : List Int) : rows i1 (l ++ m) = rows i1 l ++ rows i1 m := rows_append l m
theorem Intrt (l : List Int) (i : Nat) : rows i1 (l.take i) = (rows i1 l).take (i) := by rw [rows_take i1_len, Nat.mul_one]
theorem Intrd (l : List Int) (i : Nat) : rows i1 (l.drop i) = (rows i1 l).drop (i) := by rw [rows_drop i1_len, Nat.mul_one]
theorem Intr1 (l : List Int) : ∀ u ∈ rows i1 l, u.oneCell' = true := rows_one i1_one l
theorem info_Int : (Try.prog.info? 3).map (fun i => (i.zero, i.size, i.bytes)) = some (some (.int .i64 0), 1, 8) := by kernel_rfl
theorem int_src (w : World) (x : Int) (vb : Nat) (hv : w.heap[vb]? = some (.cells #[.int .i64 x] 3 (0, 0))) : Src Try.prog 1 22 (.slice (some ⟨vb, 0, none⟩) 1 1) 1 ((i1 x)) w :=
  Src.ofSlice w Try.underlying22 ⟨vb, 0, none⟩ 1 1 ((i1 x)) rfl (fun j u hj => by
    rw [add_off, Nat.zero_add, blk_cell hv]
    simpa [i1] using hj) (fun u hu => by
    simp only [i1, List.mem_cons, List.not_mem_nil, or_false] at hu
    rcases hu with rfl; rfl)
set_option maxHeartbeats 1000000 in
theorem insertInt_end (v : Value) (n : Nat) (l : List Int) (x : Int) (vb base : Nat) (w : World) (ho : w.ownsRow base 3 1 v n (rows i1 l)) (hbase : base ≤ w.heap.size) (hn : n ≤ 1000000)
    (hv : w.heap[vb]? = some (.cells #[.int .i64 x] 3 (0, 0))) :
    Calls Try.prog 57 #[v, .int .i64 (n : Int), .slice (some ⟨vb, 0, none⟩) 1 1] w fun e w' => ∃ v', e = .returned v' ∧ OT w w' v.ownBlock base 3 1 v' (n + 1) (rows i1 l ++ (i1 x)) := by
  have HS := int_src w x vb hv
  rcases ho.2 with ⟨rfl, rfl⟩ | ⟨g, cap, cur, rfl, _, _, hnc, hcm, _, _⟩
  · go_enter Try.func57, Try.ntmps57
    go_wp2_with (at_builtin; (refine wpList_append_t rfl (.tmp 23) (.tmp 24) 22 22 rfl base 3 1 8 _ Try.underlying22 info_Int rfl (by decide) (.slice none 0 0) 0 (rows i1 l) rfl (OT.start ho) (.slice (some ⟨vb, 0, none⟩) 1 1) 1 ((i1 x)) rfl HS ?d1 ?d2 ?d3 ?_); (case d1 => unfold maxLen; omega); (case d2 => omega); (case d3 => exact hbase); intro v2 w4 ho2 hg2)
    go_ret
    exact ⟨v2, rfl, ho2⟩
  · unfold maxLen at hcm
    by_cases hc : cap = n
    · subst hc
      go_enter Try.func57, Try.ntmps57
      go_wp2_with (at_builtin; (refine wpList_append_t rfl (.tmp 23) (.tmp 24) 22 22 rfl base 3 1 8 _ Try.underlying22 info_Int rfl (by decide) (.slice (some ⟨g, 0, none⟩) cap cap) cap (rows i1 l) rfl (OT.start ho) (.slice (some ⟨vb, 0, none⟩) 1 1) 1 ((i1 x)) rfl HS ?d1 ?d2 ?d3 ?_); (case d1 => unfold maxLen; omega); (case d2 => omega); (case d3 => exact hbase); intro v2 w4 ho2 hg2)
      go_ret
      exact ⟨v2, rfl, ho2⟩
    · go_enter Try.func57, Try.ntmps57
      go_wp2_with (at_builtin; (refine wpList_append_t rfl (.tmp 23) (.tmp 24) 22 22 rfl base 3 1 8 _ Try.underlying22 info_Int rfl (by decide) (.slice (some ⟨g, 0, none⟩) n cap) n (rows i1 l) rfl (OT.start ho) (.slice (some ⟨vb, 0, none⟩) 1 1) 1 ((i1 x)) rfl HS ?d1 ?d2 ?d3 ?_); (case d1 => unfold maxLen; omega); (case d2 => omega); (case d3 => exact hbase); intro v2 w4 ho2 hg2)
      go_ret
      exact ⟨v2, rfl, ho2⟩
set_option maxHeartbeats 4000000 in
set_option maxRecDepth 100000 in
theorem insertInt_shift (g n cap : Nat) (l : List Int) (i : Nat) (x : Int) (vb base : Nat) (w : World) (ho : w.ownsRow base 3 1 (.slice (some ⟨g, 0, none⟩) n cap) n (rows i1 l)) (hn : n ≤ 1000000) (hi : i < n) (hroom : n + 1 ≤ cap) (hne : vb ≠ g)
    (hv : w.heap[vb]? = some (.cells #[.int .i64 x] 3 (0, 0))) :
    Calls Try.prog 57 #[.slice (some ⟨g, 0, none⟩) n cap, .int .i64 (i : Int), .slice (some ⟨vb, 0, none⟩) 1 1] w fun e w' => ∃ v', e = .returned v' ∧ OT w w' (some g) base 3 1 v' (n + 1) (rows i1 (l.take i ++ x :: l.drop i)) := by
  obtain ⟨cur, hg, hbg, hnc, hcm, hcl, hct⟩ := own_known ho
  rw [Nat.mul_one] at hcl hct
  have hgl := blk_lt hg
  have hll : l.length = n := by have := ho.1; rw [Intrl] at this; omega
  unfold maxLen at hcm
  have hsz : (Try.prog.info? 3).map (·.size) = some 1 := by kernel_rfl
  have hov : ∀ lb cb, (callFunc 76 #[.slice (some ⟨vb, 0, none⟩) 1 1, .slice (some ⟨g, (i + 1), none⟩) lb cb]).run Try.prog w = .ok (.value (.bool false)) w := fun lb cb => by
    rw [run_callFunc_extern Try.func76 (by kernel_rfl) (by kernel_rfl) (by kernel_rfl) (e := Extern.SlicesOverlaps.overlaps #[22, 22] #[4]) (by kernel_rfl),
      Lib.run_overlaps_apart w 22 4 3 Try.underlying22 1 Try.sizeOf3 ⟨vb, 0, none⟩ ⟨g, (i + 1), none⟩ 1 1 lb cb hne 3 3 1 (cap) (by simp [World.shape?, hv]) (by simp [World.shape?, hg, hcl]) (by omega) (blk_free hv) (blk_free hv)]
    rfl
  have hw1 : IntKind.i64.wrap ((i : Int) + 1) = (i : Int) + 1 := IntWalk.i64_in _ (by omega)
  have hw2 : IntKind.i64.wrap ((n : Int) + 1) = (n : Int) + 1 := IntWalk.i64_in _ (by omega)
  have hb1 : (0 : Int) ≤ (i : Int) + 1 := by omega
  have hin : i ≤ n := by omega
  have htn : ((i : Int) + 1).toNat = i + 1 := by omega
  have htm : ((n : Int) + 1).toNat = n + 1 := by omega
  have hb2 : ¬ (cap = i + 1) := by omega
  have hb3 : (i : Int) ≤ (n : Int) + 1 := by omega
  have hb4 : ¬ (cap = i) := by omega
  have hb5 : ¬ ((i : Int) = (n : Int)) := by omega
  have hdl : (rows i1 (l.drop i)).length = (n - i) := by rw [Intrl, List.length_drop, hll]
  have hcp1 : ∀ ty dc sc, (Builtin.copy_ #[22, 22] ty #[.slice (some ⟨g, (i + 1), none⟩) (n - i) dc, .slice (some ⟨g, i, none⟩) (n + 1 - i) sc]).run Try.prog w.drew = .ok (goInt ((n - i : Nat) : Int)) (w.drew.setRow g (splice cur ((i + 1)) (rows i1 (l.drop i))).toArray) := fun ty dc sc => by
    have hmin : Nat.min (n + 1 - i) (n - i) = n - i := by
      show min _ _ = _
      omega
    have := run_copy_src (P := Try.prog) w.drew 22 22 ty 3 3 1 Try.underlying22 hsz g ((i + 1)) (n - i) dc (n + 1 - i) sc (some ⟨g, i, none⟩) cur 3 hg (rows i1 (l.drop i))
      (by
        rw [hmin]
        exact run_firstCells_some w.drew 1 (n - i) ⟨g, i, none⟩ _ _ _ (by rw [hdl, Nat.mul_one]) (fun j u hj => by
          rw [Intrd, List.getElem?_drop, ← hct, List.getElem?_take] at hj
          rw [add_off]
          show w.cell? _ = _
          rw [blk_cell hg]
          split at hj
          · simpa using hj
          · cases hj))
      (by rw [hdl, hcl]; omega) (Intr1 _)
    rw [hmin] at this
    exact this
  obtain ⟨S1, hS1⟩ : ∃ S1, S1 = splice cur ((i + 1)) (rows i1 (l.drop i)) := ⟨_, rfl⟩
  rw [← hS1] at hcp1
  have hS1l : S1.length = cap := by rw [hS1, length_splice _ _ _ (by rw [hdl, hcl]; omega), hcl]
  replace hS1 := hid hS1
  have hcp2 : ∀ ty dc, (Builtin.copy_ #[22, 22] ty #[.slice (some ⟨g, i, none⟩) (n + 1 - i) dc, .slice (some ⟨vb, 0, none⟩) 1 1]).run Try.prog (w.drew.setRow g S1.toArray) = .ok (goInt ((Nat.min 1 (n + 1 - i) : Nat) : Int)) ((w.drew.setRow g S1.toArray).setRow g (splice S1 (i) ((i1 x))).toArray) := fun ty dc => by
    have hmin : Nat.min 1 (n + 1 - i) = 1 := by
      show min _ _ = _
      omega
    refine run_copy_src (P := Try.prog) (w.drew.setRow g S1.toArray) 22 22 ty 3 3 1 Try.underlying22 hsz g (i) (n + 1 - i) dc 1 1 (some ⟨vb, 0, none⟩) S1 3 (setRow_heap w.drew g _ _ 3 _ hg) ((i1 x)) ?_ (by rw [hS1l]; simp [i1]; omega) (fun u hu => by
      simp only [i1, List.mem_cons, List.not_mem_nil, or_false] at hu
      rcases hu with rfl; rfl)
    rw [hmin]
    refine run_firstCells_some _ 1 1 ⟨vb, 0, none⟩ _ _ _ rfl (fun j u hj => ?_)
    have hv' : (w.drew.setRow g S1.toArray).heap[vb]? = some (.cells #[.int .i64 x] 3 (0, 0)) := by
      rw [setRow_other _ g vb _ hne]; exact hv
    rw [add_off, Nat.zero_add, blk_cell hv']
    simpa [i1] using hj
  go_enter Try.func57, Try.ntmps57
  go_wp2_with (simp only [hov])
  go_region_law (refine step_copy_at rfl _ _ 22 22 rfl _ _ (by simp [Act.eval, Act.put]) (by simp [Act.eval, Act.put]) (hcp1 _ _ _) ?_)
  go_wp2_with (at_builtin; refine wpList_copy_at _ rfl _ _ 22 22 rfl _ _ rfl rfl (hcp2 _ _) ?_)
  go_ret
  refine ⟨_, rfl, ?_⟩
  obtain ⟨k1, k2⟩ := setRow_twice w.drew g S1.toArray (splice S1 (i) ((i1 x))).toArray 3 cur.toArray hg
  have hl2 : (splice S1 (i) ((i1 x))).length = cap := by
    rw [length_splice _ _ _ (by rw [hS1l]; simp [i1]; omega), hS1l]
  refine ⟨own_of_known k1 hbg hroom (by unfold maxLen; omega) (by rw [hl2, Nat.mul_one]) ?_, ⟨k2.os, k2.tape, k2.output, k2.size, k2.block⟩, .inl rfl⟩
  have hsp := splice_in cur (rows i1 (l.drop i)) ((i1 x)) (i) 1 rfl (by rw [hcl]; omega)
  rw [show i + 1 = (i + 1) by omega, ← hS1.out, hdl, show (i + 1) + (n - i) = (n + 1) by omega] at hsp
  rw [Nat.mul_one, hsp, Intra, Intrt, ← hct, List.take_take, Nat.min_eq_left (by omega)]
  rfl
set_option maxHeartbeats 4000000 in
set_option maxRecDepth 100000 in
theorem insertInt_grow (g n cap : Nat) (l : List Int) (i : Nat) (x : Int) (vb base : Nat) (w : World) (ho : w.ownsRow base 3 1 (.slice (some ⟨g, 0, none⟩) n cap) n (rows i1 l)) (hbase : base ≤ w.heap.size) (hn : n ≤ 1000000) (hi : i < n) (hroom : cap < n + 1)
    (hv : w.heap[vb]? = some (.cells #[.int .i64 x] 3 (0, 0))) :
    Calls Try.prog 57 #[.slice (some ⟨g, 0, none⟩) n cap, .int .i64 (i : Int), .slice (some ⟨vb, 0, none⟩) 1 1] w fun e w' => ∃ v', e = .returned v' ∧ OT w w' (some g) base 3 1 v' (n + 1) (rows i1 (l.take i ++ x :: l.drop i)) := by
  obtain ⟨cur, hg, hbg, hnc, hcm, hcl, hct⟩ := own_known ho
  rw [Nat.mul_one] at hcl hct
  obtain rfl : cap = n := by omega
  have hgl := blk_lt hg
  have hvl := blk_lt hv
  have hll : l.length = cap := by have := ho.1; rw [Intrl] at this; omega
  clear hcm
  have hsz : (Try.prog.info? 3).map (·.size) = some 1 := by kernel_rfl
  obtain ⟨i0, hi0, hz0, hzs, hzb⟩ := info_parts1 info_Int
  have hold : (Builtin.firstCells i0.size i (.slice (some ⟨g, 0, none⟩) i cap)).run Try.prog w.drew = .ok (rows i1 (l.take i)).toArray w.drew := by
    rw [hzs]
    exact run_firstCells_some w.drew 1 i ⟨g, 0, none⟩ i cap (rows i1 (l.take i)) (by rw [Intrl, List.length_take]; omega) (fun j v hj => by
      rw [add_off, Nat.zero_add]
      show w.cell? _ = _
      rw [blk_cell hg]
      rw [Intrt, ← hct, List.getElem?_take] at hj
      split at hj
      · rw [List.getElem?_take] at hj
        split at hj
        · simpa using hj
        · cases hj
      · cases hj)
  have hik : i + (cap + 1 - i) = cap + 1 := by omega
  have hkk : (cap : Int) + 1 - (i : Int) = ((cap + 1 - i : Nat) : Int) := by omega
  obtain ⟨G, hG⟩ : ∃ G, G = grownCap w (cap + 1) cap 3 := ⟨_, rfl⟩
  have hGn : cap + 1 ≤ G := by rw [hG]; exact grownCap_ge w _ _ _
  have hGm : G ≤ maxLen := by rw [hG]; exact grownCap_le_maxLen w (cap + 1) cap 3 (by unfold maxLen; omega)
  obtain ⟨ROW, hROW⟩ : ∃ ROW : List Value, ROW = ((rows i1 (l.take i)).toArray ++ Builtin.zeroCells (Value.int .i64 0).cells (cap + 1 - i) ++ Builtin.zeroCells (Value.int .i64 0).cells (G - (cap + 1))).toList := ⟨_, rfl⟩
  have hzc : (Value.int .i64 0).cells.size = 1 := by kernel_rfl
  have htl : (rows i1 (l.take i)).length = i := by rw [Intrl, List.length_take, hll, Nat.min_eq_left (by omega)]
  have hRl : ROW.length = G := by
    rw [hROW, Array.length_toList, Array.size_append, Array.size_append, size_zeroCells, size_zeroCells, hzc, List.size_toArray, htl]
    omega
  have hRt : ROW.take (i) = rows i1 (l.take i) := by
    rw [hROW, Array.toList_append, Array.toList_append, List.append_assoc]
    exact List.take_left' (by simpa using htl)
  have hrz : ∀ ty, (Builtin.append_ #[22, 3] ty #[.slice (some ⟨g, 0, none⟩) i cap, .int .i64 ((cap : Int) + 1 - (i : Int))]).run Try.prog w = .ok (.slice (some ⟨w.heap.size, 0, none⟩) (cap + 1) G) (w.drew.alloc (.cells ROW.toArray 3)) := fun ty => by
    have h := Lib.run_append_grow_zeros (P := Try.prog) w 22 3 ty 3 i0 _ .i64 .i64 Try.underlying22 Try.underlying3 hi0 hz0 (some ⟨g, 0, none⟩) i cap (rows i1 (l.take i)) hold (cap + 1 - i) (by omega) (by omega) (by omega) (by omega) (by rw [hzb]; omega) (by rw [hzb, hik]; exact growslice_fits (by omega) (by omega))
    rw [hik, ← hG] at h
    rw [hkk, hROW, Array.toArray_toList]
    exact h
  obtain ⟨N, hN⟩ : ∃ N, N = w.heap.size := ⟨_, rfl⟩
  obtain ⟨W1, hW1⟩ : ∃ W1, W1 = w.drew.alloc (.cells ROW.toArray 3) := ⟨_, rfl⟩
  have hk1 : W1.heap[N]? = some (.cells ROW.toArray 3 (0, 0)) := by rw [hW1, hN]; exact heap_alloc_new w.drew _
  have hgr : w.grownBy W1 none := by rw [hW1]; exact ⟨rfl, rfl, rfl, by simp, fun k hk _ => heap_alloc_old w.drew _ hk⟩
  have hgW : W1.heap[g]? = some (.cells cur.toArray 3 (0, 0)) := (hgr.block g hgl (by simp)).trans hg
  have hvW : W1.heap[vb]? = some (.cells #[.int .i64 x] 3 (0, 0)) := (hgr.block vb hvl (by simp)).trans hv
  rw [← hW1, ← hN] at hrz
  have hNg : g ≠ N := by omega
  have hxl : ((i1 x)).length = 1 := rfl
  have hx1 : ∀ u ∈ (i1 x), u.oneCell' = true := fun u hu => by
    simp only [i1, List.mem_cons, List.not_mem_nil, or_false] at hu
    rcases hu with rfl; rfl
  have hcpA : ∀ ty dc, (Builtin.copy_ #[22, 22] ty #[.slice (some ⟨N, i, none⟩) (cap + 1 - i) dc, .slice (some ⟨vb, 0, none⟩) 1 1]).run Try.prog W1 = .ok (goInt ((Nat.min 1 (cap + 1 - i) : Nat) : Int)) (W1.setRow N (splice ROW (i) ((i1 x))).toArray) := fun ty dc => by
    have hmin : Nat.min 1 (cap + 1 - i) = 1 := by
      show min _ _ = _
      omega
    refine run_copy_src (P := Try.prog) W1 22 22 ty 3 3 1 Try.underlying22 hsz N (i) (cap + 1 - i) dc 1 1 (some ⟨vb, 0, none⟩) ROW 3 hk1 ((i1 x)) ?_ (by rw [hRl, hxl]; omega) hx1
    rw [hmin]
    refine run_firstCells_some _ 1 1 ⟨vb, 0, none⟩ _ _ _ rfl (fun j u hj => ?_)
    rw [add_off, Nat.zero_add, blk_cell hvW]
    simpa [i1] using hj
  obtain ⟨S1, hS1⟩ : ∃ S1, S1 = splice ROW (i) ((i1 x)) := ⟨_, rfl⟩
  have hS1l : S1.length = G := by rw [hS1, length_splice _ _ _ (by rw [hxl, hRl]; omega), hRl]
  rw [← hS1] at hcpA
  obtain ⟨W2, hW2⟩ : ∃ W2, W2 = W1.setRow N S1.toArray := ⟨_, rfl⟩
  have hk2 : W2.heap[N]? = some (.cells S1.toArray 3 (0, 0)) := by rw [hW2]; exact setRow_heap W1 N _ _ 3 _ hk1
  have hgW2 : W2.heap[g]? = some (.cells cur.toArray 3 (0, 0)) := by rw [hW2, setRow_other _ N g _ hNg]; exact hgW
  rw [← hW2] at hcpA
  have hdl : (rows i1 (l.drop i)).length = (cap - i) := by rw [Intrl, List.length_drop, hll]
  have hcpB : ∀ ty dc sc, (Builtin.copy_ #[22, 22] ty #[.slice (some ⟨N, (i + 1), none⟩) (cap - i) dc, .slice (some ⟨g, i, none⟩) (cap - i) sc]).run Try.prog W2.drew = .ok (goInt ((cap - i : Nat) : Int)) (W2.drew.setRow N (splice S1 ((i + 1)) (rows i1 (l.drop i))).toArray) := fun ty dc sc => by
    have hmin : Nat.min (cap - i) (cap - i) = cap - i := by
      show min _ _ = _
      omega
    have := run_copy_src (P := Try.prog) W2.drew 22 22 ty 3 3 1 Try.underlying22 hsz N ((i + 1)) (cap - i) dc (cap - i) sc (some ⟨g, i, none⟩) S1 3 hk2 (rows i1 (l.drop i))
      (by
        rw [hmin]
        exact run_firstCells_some W2.drew 1 (cap - i) ⟨g, i, none⟩ _ _ _ (by rw [hdl, Nat.mul_one]) (fun j u hj => by
          rw [Intrd, List.getElem?_drop, ← hct, List.getElem?_take] at hj
          rw [add_off]
          show W2.cell? _ = _
          rw [blk_cell hgW2]
          split at hj
          · simpa using hj
          · cases hj))
      (by rw [hdl, hS1l]; omega) (Intr1 _)
    rw [hmin] at this
    exact this
  have hfin : (splice S1 ((i + 1)) (rows i1 (l.drop i))).take ((cap + 1)) = rows i1 (l.take i ++ x :: l.drop i) := by
    have e1 : (i + 1) = i + 1 := by omega
    have hS1t : S1.take ((i + 1)) = rows i1 (l.take i) ++ (i1 x) := by
      rw [hS1]
      unfold splice
      rw [← List.append_assoc, List.take_left' (by rw [List.length_append, List.length_take, hxl, hRl]; omega), hRt]
    unfold splice
    rw [hS1t, ← List.append_assoc, List.take_left' (by rw [List.length_append, List.length_append, htl, hxl, hdl]; omega), Intra, List.append_assoc]
    rfl
  have hfl : (splice S1 ((i + 1)) (rows i1 (l.drop i))).length = G := by rw [length_splice _ _ _ (by rw [hdl, hS1l]; omega), hS1l]
  obtain ⟨S2, hS2⟩ : ∃ S2, S2 = splice S1 ((i + 1)) (rows i1 (l.drop i)) := ⟨_, rfl⟩
  rw [← hS2] at hfin hfl hcpB
  have hbN : base ≤ N := by omega
  have hk3 : (W2.drew.setRow N S2.toArray).heap[N]? = some (.cells S2.toArray 3 (0, 0)) := setRow_heap W2.drew N _ _ 3 _ hk2
  have hgr3 : w.grownBy (W2.drew.setRow N S2.toArray) (some g) := by
    refine ⟨?_, ?_, ?_, ?_, fun k hk hne => ?_⟩
    · show W2.os = _; rw [hW2]; exact hgr.os
    · show W2.tape = _; rw [hW2]; exact hgr.tape
    · show W2.output = _; rw [hW2]; exact hgr.output
    · have := hgr.size; rw [hW2]; simpa [World.setRow] using this
    · have hkN : k ≠ N := by omega
      rw [setRow_other _ N k _ hkN]
      show W2.heap[k]? = _
      rw [hW2, setRow_other _ N k _ hkN]
      exact hgr.block k hk (by simp)
  have hGi : ¬ (G = i) := by omega
  have hGim : ¬ (G = i + 1) := by omega
  have hci : ¬ (cap = i) := by omega
  have hw1 : IntKind.i64.wrap ((i : Int) + 1) = (i : Int) + 1 := IntWalk.i64_in _ (by omega)
  have hw2 : IntKind.i64.wrap ((cap : Int) + 1) = (cap : Int) + 1 := IntWalk.i64_in _ (by omega)
  have hw3 : IntKind.i64.wrap ((cap : Int) + 1 - (i : Int)) = (cap : Int) + 1 - (i : Int) := IntWalk.i64_in _ (by omega)
  have hb1 : (0 : Int) ≤ (i : Int) + 1 := by omega
  have hin : i ≤ cap := by omega
  have htn : ((i : Int) + 1).toNat = i + 1 := by omega
  have hb3 : (i : Int) ≤ (cap : Int) := by omega
  have hb5 : ¬ ((i : Int) = (cap : Int)) := by omega
  have hgd1 : ∃ v', (Value.slice (some ⟨N, 0, none⟩) (cap + 1) G) = v' ∧ OT w (W2.drew.setRow N S2.toArray) (some g) base 3 1 v' (cap + 1) (rows i1 (l.take i ++ x :: l.drop i)) :=
    ⟨_, rfl, own_of_known hk3 hbN hGn hGm (by rw [hfl, Nat.mul_one]) (by rw [Nat.mul_one]; exact hfin), hgr3, .inr (fun k hk => by cases hk; exact Nat.le_of_eq hN.symm)⟩
  replace hgd1 := hid hgd1
  unfold maxLen at hGm
  clear hkk hik hold hROW hG hRl hRt hW1 hW2 hS1 hS2 hfin hfl hk3 hgr3 hN
  go_enter Try.func57, Try.ntmps57
  go_wp2_with (first
    | (at_builtin; refine Lib.wpList_append_run _ rfl _ _ _ _ rfl _ _ rfl rfl _ _ (hrz _) ?_)
    | (at_builtin; refine wpList_copy_at _ rfl _ _ 22 22 rfl _ _ rfl rfl (hcpA _ _) ?_))
  go_region_law (refine step_copy_at rfl _ _ 22 22 rfl _ _ (by simp [Act.eval, Act.put]) (by simp [Act.eval, Act.put]) (hcpB _ _ _) ?_)
  go_wp2_with fail
  go_ret
  obtain ⟨v', e1, e2⟩ := hgd1.out
  exact ⟨v', by rw [← e1]; rfl, e2⟩
theorem insertInt_call (v : Value) (n : Nat) (l : List Int) (i : Nat) (x : Int) (vb base : Nat) (w : World) (ho : w.ownsRow base 3 1 v n (rows i1 l)) (hbase : base ≤ w.heap.size) (hn : n ≤ 1000000) (hi : i ≤ n) (hne : v.ownBlock ≠ some vb)
    (hv : w.heap[vb]? = some (.cells #[.int .i64 x] 3 (0, 0))) :
    Calls Try.prog 57 #[v, .int .i64 (i : Int), .slice (some ⟨vb, 0, none⟩) 1 1] w fun e w' => ∃ v', e = .returned v' ∧ OT w w' v.ownBlock base 3 1 v' (n + 1) (rows i1 (l.take i ++ x :: l.drop i)) := by
  have hll : l.length = n := by have := ho.1; rw [Intrl] at this; omega
  rcases Nat.lt_or_ge i n with h | h
  · obtain ⟨g, cap, rfl, hbg, hgl, hnc, hcm⟩ := own_pos ho (by omega)
    rcases Nat.lt_or_ge cap (n + 1) with hc | hc
    · exact insertInt_grow g n cap l i x vb base w ho hbase hn h hc hv
    · exact insertInt_shift g n cap l i x vb base w ho hn h hc (fun e => hne (by rw [e]; rfl)) hv
  · obtain rfl : i = n := by omega
    have := insertInt_end v i l x vb base w ho hbase hn hv
    rw [List.take_of_length_le (by omega), List.drop_of_length_le (by omega), Intra]
    exact this
end Go.Proofs.Ythhcdfjijagalaa
