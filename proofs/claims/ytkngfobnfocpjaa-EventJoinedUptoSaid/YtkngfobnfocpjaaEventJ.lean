/- EventJoined, walked: it returns true where both lists have no more than 1048576 batches. -/
import Derived.Test.YtkngfobnfocpjaaEventV
namespace Go.Proofs.Ytkngfobnfocpjaa
open Go.RowKit
set_option linter.unusedVariables false
namespace Evt
theorem fb_left (A B : List Ba) : ∀ i, (fb A i).1 ≠ 0 → fb (A ++ B) i = fb A i := by
  induction A with
  | nil => intro i h; exact absurd rfl h
  | cons a A ih =>
    intro i h
    rw [List.cons_append]
    unfold fb at h ⊢
    split
    · rfl
    · rename_i h1
      rw [if_neg h1] at h
      exact ih _ h
theorem fb_right (A B : List Ba) : ∀ i, (fb A i).1 = 0 → fb (A ++ B) i = fb B (i + A.length) := by
  induction A with
  | nil => intro i h; rfl
  | cons a A ih =>
    intro i h
    rw [List.cons_append]
    unfold fb at h
    split at h
    · rename_i h1; exact absurd h h1
    · rename_i h1
      show (if _ then _ else _) = _
      rw [if_neg h1, ih _ h, List.length_cons]
      congr 1; omega
theorem fb_index (B : List Ba) : ∀ i j, (fb B i).1 = (fb B j).1 := by
  induction B with
  | nil => intro i j; rfl
  | cons a B ih =>
    intro i j
    unfold fb
    split
    · rfl
    · exact ih _ _
theorem fb_ok (B : List Ba) : ∀ i, (fb B i).1 = 0 → fb B i = (0, 0) := by
  induction B with
  | nil => intro i _; rfl
  | cons a B ih =>
    intro i h
    unfold fb at h ⊢
    split at h
    · rename_i h1; exact absurd h h1
    · rename_i h1; rw [if_neg h1]; exact ih _ h
theorem join_bad (A B : List Ba) (h : (bytesR A).err ≠ 0) : (bytesR (A ++ B)).err = 5 ∨ ((bytesR (A ++ B)).err = (bytesR A).err ∧ (bytesR (A ++ B)).at_ = (bytesR A).at_) := by
  unfold bytesR at *
  by_cases hA : 150 < A.length
  · left; rw [if_pos (by rw [List.length_append]; omega)]
  · rw [if_neg hA] at h ⊢
    by_cases hf : (fb A 0).1 ≠ 0
    · rw [if_pos hf] at h ⊢
      by_cases hAB : 150 < (A ++ B).length
      · left; rw [if_pos hAB]
      · right
        rw [if_neg hAB, fb_left A B 0 hf, if_pos hf]; exact ⟨rfl, rfl⟩
    · rw [if_neg hf] at h; exact absurd rfl h
theorem ok_parts {A : List Ba} (h : (bytesR A).err = 0) : A.length ≤ 150 ∧ (fb A 0).1 = 0 ∧ bytesR A = ⟨bytes A, 0, 0⟩ := by
  unfold bytesR at *
  split at h
  · cases h
  · rename_i h1
    split at h
    · rename_i h2; exact absurd h h2
    · rename_i h2
      exact ⟨by omega, Classical.byContradiction h2, by rw [if_neg h1, if_neg h2]⟩
theorem join_second (A B : List Ba) (hA : (bytesR A).err = 0) (hB : (bytesR B).err ≠ 0) : (bytesR (A ++ B)).err ≠ 0 := by
  obtain ⟨h1, h2, _⟩ := ok_parts hA
  intro h
  obtain ⟨h3, h4, _⟩ := ok_parts h
  rw [fb_right A B 0 h2, fb_index B _ 0] at h4
  apply hB
  unfold bytesR
  rw [List.length_append] at h3
  rw [if_neg (by omega), if_neg (fun hh => hh h4)]
theorem join_ok (A B : List Ba) (hA : (bytesR A).err = 0) (hB : (bytesR B).err = 0) (hC : (bytesR (A ++ B)).err = 0) :
    A.length + B.length ≤ 150 ∧ at8 (bytesR (A ++ B)).l 0 = A.length + B.length ∧ (bytesR (A ++ B)).l.drop 1 = (bytesR A).l.drop 1 ++ (bytesR B).l.drop 1 ∧ 1 ≤ (bytesR A).l.length ∧ 1 ≤ (bytesR B).l.length ∧ 1 ≤ (bytesR (A ++ B)).l.length ∧
      (bytesR A).at_ = 0 ∧ (bytesR B).at_ = 0 ∧ (bytesR (A ++ B)).at_ = 0 := by
  obtain ⟨a1, a2, a3⟩ := ok_parts hA
  obtain ⟨b1, b2, b3⟩ := ok_parts hB
  obtain ⟨c1, c2, c3⟩ := ok_parts hC
  rw [List.length_append] at c1
  rw [a3, b3, c3]
  refine ⟨c1, ?_, ?_, by simp [bytes], by simp [bytes], by simp [bytes], rfl, rfl, rfl⟩
  · show (UInt8.ofNat (A ++ B).length).toNat = _
    rw [ofNat8, List.length_append]; omega
  · simp [bytes]
end Evt
theorem Bs.joined {w : World} {v : Value} {base n cap n2 cap2 : Nat} {a a2 : Option Addr} {A B : List Rb} (hA : Bs w a n cap A) (hB : Bs w a2 n2 cap2 B) (h : w.ownsRow base 52 2 v (n + n2) (rbCells A ++ rbCells B)) : ∃ a3 c3, v = .slice a3 (n + n2) c3 ∧ Bs w a3 (n + n2) c3 (A ++ B) := by
  obtain ⟨a3, c3, rfl, hs⟩ := own_sl h
  refine ⟨a3, c3, rfl, ⟨by rw [rbCells_append]; exact hs, fun r hr => ?_⟩⟩
  rcases List.mem_append.1 hr with hr | hr
  · exact hA.ev r hr
  · exact hB.ev r hr
theorem rb_one (l : List Rb) : ∀ u ∈ rbCells l, u.oneCell' = true := by
  intro u hu
  obtain ⟨r, _, hr⟩ := List.mem_flatMap.1 hu
  simp only [rb2, List.mem_cons, List.not_mem_nil, or_false] at hr
  rcases hr with rfl | rfl <;> rfl
/-- 'b[1:]' -/
theorem slice_one {w : World} {a : Option Addr} {n cap : Nat} {l : List UInt8} (h : Bt w a n cap l) (hn : 1 ≤ n) :
    ∃ a', (∀ W, (Instr.sliceAt 30 (.slice a n cap) (some (.int .i64 1)) none none).run Try.prog W = .ok (.slice a' (n - 1) (cap - 1)) W) ∧ Bt w a' (n - 1) (cap - 1) (l.drop 1) := by
  refine ⟨if cap = 1 then a else a.map (·.add (1 * 1)), fun W => ?_, ?_⟩
  · have := h.le
    rw [run_sliceAt_slice (P := Try.prog) W 30 _ _ _ _ (by kernel_rfl), run_slice_l (P := Try.prog) W 30 a n cap (by kernel_rfl) .i64 1 (by omega) (by omega)]
    obtain ⟨i, hi, hz, h1, h2⟩ := info_parts1 info_u8
    have e : Try.prog.elem 30 = 5 := by kernel_rfl
    rw [e]
    simp [sizeOf, typeInfo, hi, h1, Result.andThen, sliced]
  · have hs := Bt.slice h hn (Nat.le_refl n)
    rw [List.take_of_length_le (by rw [List.length_drop, Bt.n h]; exact Nat.le_refl _)] at hs
    exact hs
theorem beq_refl_ba' (l : List UInt8) : ((⟨l.toArray⟩ : ByteArray) == ⟨l.toArray⟩) = true := by rw [str_eq]; simp

set_option maxRecDepth 100000 in
set_option maxHeartbeats 4000000 in
theorem EventJoined_walk (aa : Option Addr) (an ac : Nat) (A : List Rb) (ba : Option Addr) (bn bc : Nat) (B : List Rb) (w : World) (hA : Bs w aa an ac A) (hB : Bs w ba bn bc B) (ha : an ≤ 1048576) (hb : bn ≤ 1048576) :
    Calls Try.prog 14 #[.slice aa an ac, .slice ba bn bc] w (Grew (.bool true) w) := by
  have D1 := hid (fun W (h : Below w.heap.size w W) => eBytes_call aa an ac A W (hA.below h))
  have D2 := hid (fun W (h : Below w.heap.size w W) => eBytes_call ba bn bc B W (hB.below h))
  have D3 := hid (show ∀ W a n c, Bs W a n c (A ++ B) → Calls Try.prog 38 #[.slice a n c] W (BFRes (Evt.bytesR (A.map Rb.ba ++ B.map Rb.ba)) W) from fun W a n c h => by rw [← List.map_append]; exact eBytes_call a n c _ W h)
  have J1 := Evt.join_bad (A.map Rb.ba) (B.map Rb.ba)
  have J2 := Evt.join_second (A.map Rb.ba) (B.map Rb.ba)
  have J3 := Evt.join_ok (A.map Rb.ba) (B.map Rb.ba)
  rw [List.length_map, List.length_map, hA.n, hB.n] at J3
  generalize Evt.bytesR (A.map Rb.ba ++ B.map Rb.ba) = RC at *
  generalize Evt.bytesR (A.map Rb.ba) = RA at *
  generalize Evt.bytesR (B.map Rb.ba) = RB at *
  obtain ⟨PA, fa, ia⟩ := RA
  obtain ⟨PB, fb, ib⟩ := RB
  obtain ⟨PC, fc, ic⟩ := RC
  simp only at J1 J2 J3
  replace J1 := hid J1; replace J2 := hid J2; replace J3 := hid J3
  go_enter Try.func14, Try.ntmps14
  go_wp2_with fail
  go_at_call 43; refine (alive5_call _).mono ?_; rintro e w1 ⟨rfl, b1⟩
  go_wp2_with fail
  go_at_call 38; refine (D1.out _ b1).mono ?_; rintro e w2 ⟨v2, rfl, b2, o2⟩
  obtain ⟨a2, c2, rfl, s2⟩ := own_sl o2
  have bb2 := bnext b1 b2
  have z2 := bb2.size
  have bb2' := bb2.alloc z2 (.cells #[.int .i64 fa, .int .i64 ia] 54)
  go_wp2_with fail
  go_at_call 38; refine (D2.out _ bb2').mono ?_; rintro e w3 ⟨v3, rfl, b3, o3⟩
  obtain ⟨a3, c3, rfl, s3⟩ := own_sl o3
  have bb3 := bnext bb2' b3
  have z3 := bb3.size
  have x6 := blk_below (blk_new w2 (.cells #[.int .i64 fa, .int .i64 ia] 54)) b3
  have x6a := blk_old (o' := .cells #[.int .i64 fb, .int .i64 ib] 54) x6
  have x8a := blk_new w3 (.cells #[.int .i64 fb, .int .i64 ib] 54)
  have bb3a := bb3.alloc z3 (.cells #[.int .i64 fb, .int .i64 ib] 54)
  have x6b := blk_old (o' := .cells #[] 52) x6a
  have x8b := blk_old (o' := .cells #[] 52) x8a
  have bb3b := bb3a.alloc bb3a.size (.cells #[] 52)
  have hO0 : OT ((w3.alloc (.cells #[.int .i64 fb, .int .i64 ib] 54)).alloc (.cells #[] 52)) ((w3.alloc (.cells #[.int .i64 fb, .int .i64 ib] 54)).alloc (.cells #[] 52)) (some (w3.heap.size + 1)) w3.heap.size 52 2 (.slice (some ⟨w3.heap.size + 1, 0, none⟩) 0 0) 0 [] := by
    have := World.ownsRow_lit (base := w3.heap.size) (e := 52) (size := 2) (w3.alloc (.cells #[.int .i64 fb, .int .i64 ib] 54)) #[] 0 (by simp) (by simp [maxLen]) rfl
    rw [World.size_alloc] at this
    exact OT.start this
  have cb3 : Below w3.heap.size w3 ((w3.alloc (.cells #[.int .i64 fb, .int .i64 ib] 54)).alloc (.cells #[] 52)) := ((Below.refl _ _).alloc (Nat.le_refl _) _).alloc (by simp) _
  go_wp2_with (first
    | (refine wpList_append_t rfl (.tmp 24) (.tmp 25) 45 45 rfl w3.heap.size 52 2 32 (.agg #[.int .i64 0, .slice none 0 0]) Try.underlying45 info_ba rfl (by decide) _ 0 [] rfl hO0 _ an (rbCells A) rfl (Sl.src (hA.below bb3b).sl Try.underlying45 (rb_one A)) (by unfold maxLen; omega) (by omega) cb3.size ?_; intro v5 w5 o5 g5; simp only [Nat.zero_add, List.nil_append] at o5; have x6c := grown_other hO0.own g5 x6b (by decide); have x8c := grown_other hO0.own g5 x8b (by decide); have cb5 := cb3.trans (o5.belowOf cb3.size (fun k h => by cases h; omega)); have bb5 := bnext bb3 cb5; have z5 := cb5.size)
    | (refine wpList_append_t rfl (.tmp 26) (.tmp 27) 45 45 rfl w3.heap.size 52 2 32 (.agg #[.int .i64 0, .slice none 0 0]) Try.underlying45 info_ba rfl (by decide) _ an (rbCells A) rfl o5 _ bn (rbCells B) rfl (Sl.src (hB.below bb5).sl Try.underlying45 (rb_one B)) (by unfold maxLen; omega) (by omega) z5 ?_; intro v6 w6 o6 g6; have x6d := grown_other o5.own g6 x6c (by decide); have x8d := grown_other o5.own g6 x8c (by decide); have cb6 := cb3.trans (o6.belowOf cb3.size (fun k h => by cases h; omega)); have bb6 := bnext bb3 cb6))
  obtain ⟨a6, c6, rfl, hAB⟩ := (hA.below bb6).joined (hB.below bb6) o6.own
  go_at_call 38; refine (D3.out _ _ _ _ hAB).mono ?_; rintro e w7 ⟨v7, rfl, b7, o7⟩
  obtain ⟨a7, c7, rfl, s7⟩ := own_sl o7
  have cb7 := bnext cb6 b7
  have bb7 := bnext bb6 b7
  have z7 := bb7.size
  have x6 := blk_below x6d b7
  have x8 := blk_below x8d b7
  have k60 : w7.cell? ⟨w2.heap.size, 0, none⟩ = some (.int .i64 fa) := blk_cell x6
  have k61 : w7.cell? ⟨w2.heap.size, 1, none⟩ = some (.int .i64 ia) := blk_cell x6
  have k80 : w7.cell? ⟨w3.heap.size, 0, none⟩ = some (.int .i64 fb) := blk_cell x8
  have zz6 := blk_lt x6
  have zz8 := blk_lt x8
  have hz2 : w2.heap.size ≤ w3.heap.size := by have := (box_below b3).size; exact this
  have s2' := s2.below ((box_below b3).trans (cb7.mono hz2))
  have s3' := s3.below cb7
  clear x6 x8 x6a x8a x6b x8b x6c x8c x6d x8d g5 g6 hO0 s2 s3 cb3 cb5 cb6 cb7
  have hend := hid (bb7.alloc z7 (.cells #[.int .i64 fc, .int .i64 ic] 54))
  by_cases hfa : fa = 0
  · by_cases hfb : fb = 0
    · by_cases hfc : fc = 0
      · obtain ⟨n1, n2, n3, n4, n5, n6, n7, n8, n9⟩ := J3.out hfa hfb hfc
        subst hfa hfb hfc n7 n8 n9
        simp only at s7 s2' s3'
        have s7' := s7.alloc (.cells #[.int .i64 0, .int .i64 0] 54)
        have s2'' := s2'.alloc (.cells #[.int .i64 0, .int .i64 0] 54)
        have s3'' := s3'.alloc (.cells #[.int .i64 0, .int .i64 0] 54)
        obtain ⟨y7, r7, u7⟩ := slice_one s7' n6
        obtain ⟨y2, r2, u2⟩ := slice_one s2'' n4
        obtain ⟨y3, r3, u3⟩ := slice_one s3'' n5
        rw [n3] at u7
        generalize PA.drop 1 = TA at *
        generalize PB.drop 1 = TB at *
        have e7 := fun k => Bt.str (Sl.drewN u7 k)
        have e2 := fun k => Bt.str (Sl.drewN u2 k)
        have e3 := fun k => Bt.str (Sl.drewN u3 k)
        obtain ⟨gb, goff, rfl, _⟩ := s7.addr (by omega)
        have q0 : (w7.alloc (.cells #[.int .i64 0, .int .i64 0] 54)).cell? ⟨gb, goff, none⟩ = some (.int .u8 ((an : Int) + (bn : Int))) := by
          have := Bt.at s7' 0 (by omega)
          rw [Nat.add_zero, n2] at this
          rw [this]; congr 2
        have hi1 : (0 : Int) < (PC.length : Int) := by omega
        have hi2 : 0 < PC.length := by omega
        have hi0 : IntKind.i64.wrap ((an : Int) + (bn : Int)) = (an : Int) + (bn : Int) := IntWalk.i64_in _ (by omega)
        have hlen : TA.length + TB.length ≤ 9223372036854775807 := by
          have h1 := Bt.n u7
          have h2 := u7.le
          have h3 := u7.max
          unfold maxLen at h3
          rw [List.length_append] at h1; omega
        have hadd : ∀ W, (Op.stringOp .add ⟨TA.toArray⟩ ⟨TB.toArray⟩).run Try.prog W = .ok (.string ⟨(TA ++ TB).toArray⟩) W := fun W => by
          rw [run_string_add_sum (P := Try.prog) W ⟨TA.toArray⟩ ⟨TB.toArray⟩ (by show TA.toArray.size + TB.toArray.size ≤ _; simpa using hlen), ByteArray.mk_append_mk]
        clear n2 n3 s7 s2' s3' s7' s2'' s3'' u7 u2 u3
        go_wp2_with fail
        generalize w7.alloc (.cells #[.int .i64 0, .int .i64 0] 54) = W at *
        go_quiet (fail)
        go_wp2_with fail
        go_ret
        exact ⟨ret_bool (by simp), below_drewN hend.out _⟩
      · subst hfa hfb
        have t3 : (fc != 0) = true := by rw [bne_iff_ne]; exact hfc
        clear hfc
        go_wp2_with fail
        go_ret
        exact ⟨ret_bool (by simp), hend.out⟩
    · have hfc := J2.out hfa hfb
      subst hfa
      have t2 : (fb != 0) = true := by rw [bne_iff_ne]; exact hfb
      have t3 : (fc != 0) = true := by rw [bne_iff_ne]; exact hfc
      clear hfb hfc
      go_wp2_with fail
      go_ret
      exact ⟨ret_bool (by simp), hend.out⟩
  · have hj := J1.out hfa
    have t1 : (fa != 0) = true := by rw [bne_iff_ne]; exact hfa
    clear hfa
    rcases hj with rfl | ⟨rfl, rfl⟩
    · go_wp2_with fail
      all_goals go_ret
      all_goals exact ⟨ret_bool (by simp), bb7.alloc z7 _⟩
    · go_wp2_with fail
      all_goals go_ret
      all_goals exact ⟨ret_bool (by simp), bb7.alloc z7 _⟩

end Go.Proofs.Ytkngfobnfocpjaa
