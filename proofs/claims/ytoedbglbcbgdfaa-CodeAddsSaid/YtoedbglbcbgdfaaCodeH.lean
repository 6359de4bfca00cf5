/- The closed fact that the laws of chapter 3 ask first is true; all shards of data. -/
import Derived.Test.YtoedbglbcbgdfaaCodeF
import Derived.Test.YtoedbglbcbgdfaaCodeL
namespace Go.Proofs.Ytoedbglbcbgdfaa
open Go.RowKit
set_option linter.unusedVariables false
theorem lit_mat2n (w : World) (n : Nat) (hn : n ≤ 1000) (r0 r1 : Array Value) (l0 l1 : List UInt8) (h0 : r0.toList = cb l0) (h1 : r1.toList = cb l1) (n0 : l0.length = n) (n1 : l1.length = n) (a b c : Nat) (ha : a = w.heap.size) (hb : b = w.heap.size + 1) (hc : c = w.heap.size + 1 + 1) :
    Ms (((w.alloc (.cells r0 5)).alloc (.cells r1 5)).alloc (.cells #[.slice (some ⟨a, 0, none⟩) n n, .slice (some ⟨b, 0, none⟩) n n] 27)) (some ⟨c, 0, none⟩) 2 2 [⟨some ⟨a, 0, none⟩, n, n, l0⟩, ⟨some ⟨b, 0, none⟩, n, n, l1⟩] := by
  subst ha hb hc
  have x0 := lit_bt w r0 l0 (by rw [n0]; unfold maxLen; omega) h0
  have x1 := lit_bt (w.alloc (.cells r0 5)) r1 l1 (by rw [n1]; unfold maxLen; omega) h1
  rw [n0] at x0
  rw [n1] at x1
  have e1 : (w.alloc (.cells r0 5)).heap.size = w.heap.size + 1 := by simp
  rw [e1] at x1
  have e2 : ((w.alloc (.cells r0 5)).alloc (.cells r1 5)).heap.size = w.heap.size + 1 + 1 := by simp
  refine ⟨⟨by decide, by decide, rfl, (fun e => by cases e), fun _ => ⟨_, 0, rfl, fun j u hj => ?_⟩⟩, fun r hr => ?_⟩
  · rw [Nat.zero_add, ← e2, cell_new]
    simpa [rwCells, Rw.v] using hj
  · simp only [List.mem_cons, List.not_mem_nil, or_false] at hr
    rcases hr with rfl | rfl
    · exact (x0.alloc _).alloc _
    · exact x1.alloc _
/-- a literal of rows that lie in memory -/
theorem lit_rows (w : World) (R : List Rw) (hb : ∀ r ∈ R, Bt w r.a r.n r.cap r.l) (hl : R.length ≤ 1000) (cs : Array Value) (hc : cs.toList = rwCells R) : Ms (w.alloc (.cells cs 27)) (some ⟨w.heap.size, 0, none⟩) R.length R.length R := by
  refine ⟨⟨Nat.le_refl _, by unfold maxLen; omega, by rw [rwCells_length, Nat.mul_one], (fun e => by cases e), fun _ => ⟨_, 0, rfl, fun j u hj => ?_⟩⟩, fun r hr => (hb r hr).alloc _⟩
  rw [Nat.zero_add, cell_new, ← hj, ← hc]
  simp
theorem fine21 (x y : UInt8) : Mat.Fine [[x], [y]] 2 1 := ⟨rfl, fun r hr => by
  simp only [List.mem_cons, List.not_mem_nil, or_false] at hr
  rcases hr with rfl | rfl <;> rfl, by decide, by decide, by decide, by decide⟩

set_option maxHeartbeats 2000000 in
theorem alive3_call (w : World) : Calls Try.prog 33 #[] w (Grew (.bool true) w) := by
  go_enter Try.func33, Try.ntmps33
  go_wp2_with fail
  have M0 := lit_mat2n w 1 (by decide) #[.int .u8 7] #[.int .u8 9] [7] [9] rfl rfl rfl rfl _ _ _ rfl rfl rfl
  have B0 : Below w.heap.size w (((w.alloc (.cells #[.int .u8 7] 5)).alloc (.cells #[.int .u8 9] 5)).alloc (.cells #[.slice (some ⟨w.heap.size, 0, none⟩) 1 1, .slice (some ⟨w.heap.size + 1, 0, none⟩) 1 1] 27)) := (((Below.refl _ _).alloc (Nat.le_refl _) _).alloc (by simp) _).alloc (by simp; omega) _
  go_at_call 29
  refine (cSpare_call _ _ _ _ _ _ M0).mono ?_
  rintro e w1 ⟨a1, n1, c1, R1, e1, rfl, h1, hp1, b1⟩
  have hp1 : Mat.SpareR [[7], [9]] ((1 : Nat) : Int) (rwData R1) e1 := hp1
  obtain ⟨hS, rfl⟩ := hp1.ok (fine21 7 9) (by decide) (by decide)
  have HS : Hid (Mat.Shards [[7], [9]] (rwData R1) 2 1 1) := hid ⟨fine21 7 9, by decide, by decide, hS⟩
  obtain rfl : n1 = 1 := by rw [← h1.dn, hS.rows]
  replace b1 := B0.trans (b1.mono B0.size)
  have hR0 : 0 < R1.length := by rw [h1.cnt]; decide
  obtain ⟨sb, soff, rfl, _⟩ := h1.sl.addr (by decide)
  have x0 := (h1.at 0 hR0).1
  have hR1 : R1 = [R1[0]] := by
    have := h1.cnt
    match R1, this with
    | [r], _ => rfl
  have hr0 : R1[0].n = 1 := by rw [← Bt.n (h1.at 0 hR0).2]; exact hS.cols _ (List.mem_map.2 ⟨_, List.getElem_mem hR0, rfl⟩)
  have hrb := (h1.at 0 hR0).2
  generalize R1[0] = r0 at *
  obtain ⟨ra, rn, rc, rl⟩ := r0
  simp only [Nat.add_zero] at x0 hr0 hrb
  subst hr0
  replace hR1 := hid hR1
  replace hS := hid hS
  clear hp1 M0 B0
  have x1 : (w1.alloc (.cells #[.int .u8 7] 5)).cell? ⟨sb, soff, none⟩ = some (.slice ra 1 rc) := (cell_old (World.block_lt_of_cell? _ _ x0)).trans x0
  go_wp2_with fail
  have M1 := lit_rows (w1.alloc (.cells #[.int .u8 7] 5)) [⟨some ⟨w1.heap.size, 0, none⟩, 1, 1, [7]⟩, ⟨none, 0, 0, []⟩, ⟨ra, 1, rc, rl⟩] (fun r hr => by
    simp only [List.mem_cons, List.not_mem_nil, or_false] at hr
    rcases hr with rfl | rfl | rfl
    · exact lit_bt w1 _ [7] (by decide) rfl
    · exact Sl.none _ _
    · exact hrb.alloc _) (by simp) #[.slice (some ⟨w1.heap.size, 0, none⟩) 1 1, .slice none 0 0, .slice ra 1 rc] rfl
  have B1 : Below w1.heap.size w1 ((w1.alloc (.cells #[.int .u8 7] 5)).alloc (.cells #[.slice (some ⟨w1.heap.size, 0, none⟩) 1 1, .slice none 0 0, .slice ra 1 rc] 27)) := ((Below.refl _ _).alloc (Nat.le_refl _) _).alloc (by simp) _
  have e1 : (w1.alloc (.cells #[.int .u8 7] 5)).heap.size = w1.heap.size + 1 := by simp
  rw [e1] at M1
  go_at_call 31
  refine (cMend_call _ _ _ _ _ (by decide) _ M1).mono ?_
  rintro e w2 ⟨a2, n2, c2, R2, e2, rfl, h2, hp2, b2⟩
  have hX : Mat.Left [[7], [9]] (rwData R1) [[7], [], rl] 2 1 := ⟨rfl, fun i hi => by
    rw [hR1.out]
    have : i = 0 ∨ i = 1 ∨ i = 2 := by omega
    rcases this with rfl | rfl | rfl
    · exact .inl rfl
    · exact .inr rfl
    · exact .inl rfl⟩
  have hl1 : rl.length = 1 := Bt.n hrb
  have hth : 2 ≤ (Mat.there [[7], [], rl]).length := by
    have : Mat.there [[7], [], rl] = [0, 2] := by
      match rl, hl1 with
      | [x], _ => rfl
    rw [this]; decide
  obtain ⟨hd2, rfl⟩ := Mat.mend_all HS.out hX hth hp2
  replace hd2 := hid hd2
  obtain rfl : n2 = 3 := by rw [← h2.dn, hd2.out, HS.out.whole.rows]
  replace b2 := bnext b1 (B1.trans (b2.mono B1.size))
  clear hp2 M1 B1 hX hth x0 x1 hrb h1
  obtain ⟨mb, moff, rfl, _⟩ := h2.sl.addr (by decide)
  have hc3 := h2.sl.le
  have hcne : ¬ c2 = 1 := by omega
  have h2s := h2.slice (lo := 1) (hi := 2) (by decide) (by decide)
  rw [if_neg hcne, Option.map_some, add_off] at h2s
  go_wp2_with fail
  have M2 := lit_rows (w2.alloc (.cells #[.int .u8 9] 5)) [⟨some ⟨w2.heap.size, 0, none⟩, 1, 1, [9]⟩] (fun r hr => by
    simp only [List.mem_cons, List.not_mem_nil, or_false] at hr
    subst hr
    exact lit_bt w2 _ [9] (by decide) rfl) (by simp) #[.slice (some ⟨w2.heap.size, 0, none⟩) 1 1] rfl
  have B2 : Below w2.heap.size w2 ((w2.alloc (.cells #[.int .u8 9] 5)).alloc (.cells #[.slice (some ⟨w2.heap.size, 0, none⟩) 1 1] 27)) := ((Below.refl _ _).alloc (Nat.le_refl _) _).alloc (by simp) _
  have e2 : (w2.alloc (.cells #[.int .u8 9] 5)).heap.size = w2.heap.size + 1 := by simp
  rw [e2] at M2
  go_at_call 19
  refine (rSame_same _ _ _ _ _ _ _ _ _ (h2s.below B2) M2 (by
    show List.map Rw.l ((R2.drop 1).take 1) = [[9]]
    rw [List.map_take, List.map_drop]
    have : List.map Rw.l R2 = [[7], [9]] ++ rwData R1 := hd2.out
    rw [this]; rfl)).mono ?_
  rintro e w3 ⟨rfl, q, hq⟩
  have b3 : Below w2.heap.size w2 w3 := by rw [hq]; exact below_drewN B2 q
  replace hq := hid hq
  have h3 := h2.below b3
  replace b3 := bnext b2 b3
  clear M2 B2 h2s
  go_wp2_with fail
  go_at_call 25
  refine (cGood_call _ _ _ _ _ (by decide) _ h3).mono ?_
  rintro e w4 ⟨b, rfl, hg, b4⟩
  obtain rfl : b = true := Mat.good_all HS.out (by rw [← hd2.out]; exact hg)
  replace b4 := bnext b3 b4
  clear hg
  go_wp2_with fail
  go_ret
  exact ⟨ret_bool rfl, b4⟩

/-- All shards of data, in a list of the call's own; or none. -/
def AllRes (A : List Rw) (z : Int) (w : World) (e : Ending) (w' : World) : Prop :=
  (e = .returned (.tuple #[.slice none 0 0, .bool true]) ∧ Below w.heap.size w w') ∨
  ∃ (g cap d s m N : Nat) (R : List Rw) (w1 : World), z = (s : Int) ∧ N = d + s ∧ e = .returned (.tuple #[.slice (some ⟨g, 0, none⟩) N cap, .bool true]) ∧ Mat.Shards (rwData A) (rwData R) d s m ∧ Below w.heap.size w w1 ∧ (∀ r ∈ A ++ R, Bt w1 r.a r.n r.cap r.l) ∧ Below w1.heap.size w1 w' ∧ w'.ownsRow w1.heap.size 27 1 (.slice (some ⟨g, 0, none⟩) N cap) N (rwCells (A ++ R))
set_option maxHeartbeats 2000000 in
theorem all3_call (a : Option Addr) (n ac : Nat) (A : List Rw) (z : Int) (w : World) (hA : Ms w a n ac A) : Calls Try.prog 34 #[.slice a n ac, .int .i64 z] w (AllRes A z w) := by
  have HA := hid hA.cnt
  go_enter Try.func34, Try.ntmps34
  go_wp2_with fail
  go_at_call 29
  refine (cSpare_call _ _ _ _ _ _ hA).mono ?_
  rintro e w1 ⟨a1, n1, c1, R, e1, rfl, hR, hp1, b1⟩
  by_cases he : e1 = 0
  · subst he
    obtain ⟨d, m, s, rfl, hF, h8, h4, hrep⟩ := hp1.fit rfl
    have hS : Hid (Mat.Shards (rwData A) (rwData R) d s m) := hid ⟨hF, h8, h4, hrep⟩
    obtain rfl : n1 = s := by rw [← hR.dn, hrep.rows]
    obtain rfl : n = d := by rw [← hA.dn, hF.rows]
    have hn0 : 1 ≤ n := hF.n1
    have HR := hid hR.cnt
    have A1 := hA.below b1
    clear hp1 hF hrep
    have o1 : OT w1 (w1.alloc (.cells #[] 27)) none w1.heap.size 27 1 (.slice (some ⟨w1.heap.size, 0, none⟩) 0 0) 0 [] := OT.fresh (World.ownsRow_lit w1 #[] 0 (Nat.le_refl _) (by decide) rfl) ((Below.refl _ _).alloc (Nat.le_refl _) _) (Nat.le_refl _)
    go_wp2_with (first
      | (refine wpList_append_t rfl (.tmp 29) (.tmp 30) 22 22 rfl w1.heap.size 27 1 24 (.slice none 0 0) und_rowst info_bytest rfl (by decide) (.slice (some ⟨w1.heap.size, 0, none⟩) 0 0) 0 [] rfl o1 (.slice a n ac) n (rwCells A) rfl (Sl.src (A1.alloc _).sl und_rowst (rwCells_one A)) (by unfold maxLen; omega) (by omega) (by simp) ?_; intro v2 w2 ho2 hg2; simp only [Nat.zero_add, List.nil_append] at ho2; have b2 : Below w1.heap.size w1 w2 := ho2.belowOf (Nat.le_refl _) (fun k e => by cases e); have R2 := hR.below b2)
      | (refine wpList_append_t rfl (.tmp 31) (.tmp 32) 22 22 rfl w1.heap.size 27 1 24 (.slice none 0 0) und_rowst info_bytest rfl (by decide) v2 n (rwCells A) rfl ho2 (.slice a1 n1 c1) n1 (rwCells R) rfl (Sl.src R2.sl und_rowst (rwCells_one R)) (by unfold maxLen; omega) (by omega) b2.size ?_; intro v3 w3 ho3 hg3; rw [← rwCells_append] at ho3; obtain ⟨g, cap, rfl, hg1, hg2, hg3, hg4⟩ := own_pos ho3.own (by omega); have b3 : Below w1.heap.size w1 w3 := ho3.belowOf (Nat.le_refl _) (fun k e => by cases e)))
    go_ret2
    refine .inr ⟨g, cap, n, n1, m, _, R, w1, rfl, rfl, rfl, hS.out, b1, fun r hr => ?_, b3, ho3.own⟩
    rcases List.mem_append.1 hr with h | h
    · exact A1.row r h
    · exact hR.row r h
  · have u0 : (e1 != 0) = true := bne_iff_ne.2 he
    have hl : n1 = 0 := by rw [← hR.dn, hp1.bad he]; rfl
    subst hl
    replace hp1 := hid hp1
    replace he := hid he
    go_wp2_with fail
    go_ret2
    exact .inl ⟨rfl, b1⟩

end Go.Proofs.Ytoedbglbcbgdfaa
