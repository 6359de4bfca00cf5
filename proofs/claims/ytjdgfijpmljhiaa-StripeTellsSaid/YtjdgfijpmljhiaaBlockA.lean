/- Contracts of the functions of package block and of the reference's twins: each returns what the plain laws say. -/
import Derived.Test.YtjdgfijpmljhiaaSum
import Derived.Test.YtjdgfijpmljhiaaPlA
import Derived.WalkSpells
import Derived.Test.YtjdgfijpmljhiaaClone
namespace Go.Proofs.Ytjdgfijpmljhiaa
open Go.RowKit
set_option linter.unusedVariables false

set_option maxHeartbeats 1000000 in
theorem bWrong_call (g s z : Int) (a : Option Addr) (n cap : Nat) (hn : n ≤ cap) (hc : cap ≤ maxLen) (w : World) :
    Calls Try.prog 61 #[.agg #[.int .i64 g, .int .i64 s, .int .i64 z, .slice a n cap]] w (Grew (.int .i64 (Blk.wrong g s z n)) w) := by
  unfold maxLen at hc
  go_enter Try.func61, Try.ntmps61
  go_wp2
  all_goals go_ret
  all_goals refine ⟨ret_int ?_, (Below.refl _ _).alloc (Nat.le_refl _) _⟩
  all_goals unfold Blk.wrong
  all_goals first
    | rw [if_pos (by omega)]
    | (rw [if_neg (by omega)]; rw [if_pos (by omega)])
    | (rw [if_neg (by omega)]; rw [if_neg (by omega)])

set_option maxHeartbeats 1000000 in
theorem rWrongBlock_call (g s z : Int) (a : Option Addr) (n cap : Nat) (hn : n ≤ cap) (hc : cap ≤ maxLen) (w : World) :
    Calls Try.prog 67 #[.agg #[.int .i64 g, .int .i64 s, .int .i64 z, .slice a n cap]] w (Grew (.int .i64 (Blk.wrong g s z n)) w) := by
  unfold maxLen at hc
  rcases Nat.eq_zero_or_pos n with h0 | h0
  · subst h0
    go_enter Try.func67, Try.ntmps67
    go_wp2
    all_goals go_ret
    all_goals refine ⟨ret_int ?_, (Below.refl _ _).alloc (Nat.le_refl _) _⟩
    all_goals unfold Blk.wrong
    all_goals first
      | rw [if_pos (by omega)]
      | (rw [if_neg (by omega)]; rw [if_pos (by omega)])
      | (rw [if_neg (by omega)]; rw [if_neg (by omega)])
  · have d0 : ((n : Int) == 0) = false := by rw [beq_eq_false_iff_ne]; omega
    go_enter Try.func67, Try.ntmps67
    go_wp2
    all_goals go_ret
    all_goals refine ⟨ret_int ?_, (Below.refl _ _).alloc (Nat.le_refl _) _⟩
    all_goals unfold Blk.wrong
    all_goals first
      | rw [if_pos (by omega)]
      | (rw [if_neg (by omega)]; rw [if_pos (by omega)])
      | (rw [if_neg (by omega)]; rw [if_neg (by omega)])

set_option maxHeartbeats 1000000 in
theorem bBytes_call (g s z : Int) (a : Option Addr) (n cap : Nat) (l : List UInt8) (w : World) (h : Bt w a n cap l) :
    Calls Try.prog 46 #[.agg #[.int .i64 g, .int .i64 s, .int .i64 z, .slice a n cap]] w (BRes (if Blk.wrong g s z n = 0 then Blk.bytes g.toNat s.toNat z.toNat l else []) (Blk.wrong g s z n) w) := by
  have hle := h.le
  have hmax := h.max
  have hW := bWrong_call g s z a n cap hle hmax
  unfold maxLen at hmax
  by_cases hz : Blk.wrong g s z n = 0
  · have HZ := hid hz
    rw [if_pos hz]
    rw [hz] at hW
    obtain ⟨hw1, hw2⟩ := Blk.wrong_zero hz
    clear hz
    obtain ⟨g, rfl⟩ := Int.eq_ofNat_of_zero_le (a := g) (by omega)
    obtain ⟨s, rfl⟩ := Int.eq_ofNat_of_zero_le (a := s) (by omega)
    obtain ⟨z, rfl⟩ := Int.eq_ofNat_of_zero_le (a := z) (by omega)
    have HW := hid hW
    clear hW
    have HN := hid (Bt.n h)
    go_enter Try.func46, Try.ntmps46
    go_wp2_with (first | (go_at_call 61; refine (HW.out _).mono ?_; rintro e w1 ⟨rfl, hb⟩; have c0 : w1.cell? ⟨w.heap.size, 0, none⟩ = some (.int .i64 g) := box_cell hb 0; have c1 : w1.cell? ⟨w.heap.size, 1, none⟩ = some (.int .i64 s) := box_cell hb 1; have c2 : w1.cell? ⟨w.heap.size, 2, none⟩ = some (.int .i64 z) := box_cell hb 2; have c3 : w1.cell? ⟨w.heap.size, 3, none⟩ = some (.slice a n cap) := box_cell hb 3; have hb1 := box_below hb; have s1 := box_size hb; clear hb; have h1 := h.below hb1) | (at_builtin; (refine wpList_append_bytes rfl (.tmp 34) (.tmp 36) rfl w.heap.size (.slice (some ⟨w1.heap.size, 0, none⟩) 7 7) (Blk.hdr g s z n) l rfl (own_lit w1 w.heap.size (by omega) _ (Blk.hdr g s z n) (Blk.hdr_fits g s z n) (cb_ints _ (Blk.hdr_cells g s z n (by omega) (by omega) (by omega) (by omega))).symm) a n cap rfl (h1.alloc _) ?c1 ?c2 ?_); (case c1 => rw [Blk.hdr_length, HN.out]; omega); (case c2 => simp; omega); intro v1 w2 ho1 hg1; (obtain ⟨B, hB⟩ : ∃ B, Blk.hdr g s z n ++ l = B := ⟨_, rfl⟩); (have hBl : B.length ≤ 407 := by rw [← hB, List.length_append, Blk.hdr_length, HN.out]; omega); rw [hB] at ho1; have HB := hid hB; clear hB) | (go_at_call 62; obtain ⟨a1, cp1, rfl, hs1⟩ := own_sl ho1; refine (Sum_call _ _ _ _ _ hs1).mono ?_; rintro e w3 ⟨rfl, rfl⟩) | (at_builtin; (refine wpList_append_bytes rfl (.tmp 40) (.tmp 52) rfl w.heap.size (.slice a1 B.length cp1) B (Blk.le4 (Crc.sum B)) rfl (ho1.alloc _) (some ⟨w2.heap.size, 0, none⟩) 4 4 rfl (lit_bt w2 _ (Blk.le4 (Crc.sum B)) (Blk.le4_fits _) (cb_ints _ (Blk.le4_cells _ (Crc.sum_lt _))).symm) ?d1 ?d2 ?_); (case d1 => rw [Blk.le4_length]; omega); (case d2 => have := hg1.size; simp at this ⊢; omega); intro v2 w4 ho2 hg2))
    go_ret2
    have b1 : Below w.heap.size w w2 := below_grown1 (hb1.alloc hb1.size _) (by have := hb1.size; simp; omega) hg1 hb1.size
    refine ⟨v2, by rw [HZ.out]; rfl, below_grown (ho1.alloc _) (b1.alloc b1.size _) (by have := b1.size; simp; omega) hg2, ?_⟩
    rw [Int.toNat_natCast, Int.toNat_natCast, Int.toNat_natCast, Blk.bytes_of g s z n l B HN.out HB.out]
    exact ho2
  · rw [if_neg hz]
    have hz0 : (Blk.wrong g s z n != 0) = true := by rw [bne_iff_ne]; exact hz
    generalize Blk.wrong g s z n = e at *
    clear hz
    have HW := hid hW
    clear hW
    go_enter Try.func46, Try.ntmps46
    go_wp2_with (go_at_call 61; refine (HW.out _).mono ?_; rintro e w1 ⟨rfl, hb⟩)
    go_ret2
    exact ⟨_, rfl, box_below hb, World.ownsRow_nil _ _ _ _⟩

set_option maxHeartbeats 2000000 in
theorem rBlockBytes_call (g s z : Int) (a : Option Addr) (n cap : Nat) (l : List UInt8) (w : World) (h : Bt w a n cap l) :
    Calls Try.prog 50 #[.agg #[.int .i64 g, .int .i64 s, .int .i64 z, .slice a n cap]] w (BRes (if Blk.wrong g s z n = 0 then Blk.bytes g.toNat s.toNat z.toNat l else []) (Blk.wrong g s z n) w) := by
  have hle := h.le
  have hmax := h.max
  have hW := rWrongBlock_call g s z a n cap hle hmax
  unfold maxLen at hmax
  by_cases hz : Blk.wrong g s z n = 0
  · have HZ := hid hz
    rw [if_pos hz]
    rw [hz] at hW
    obtain ⟨hw1, hw2⟩ := Blk.wrong_zero hz
    clear hz
    obtain ⟨g, rfl⟩ := Int.eq_ofNat_of_zero_le (a := g) (by omega)
    obtain ⟨s, rfl⟩ := Int.eq_ofNat_of_zero_le (a := s) (by omega)
    obtain ⟨z, rfl⟩ := Int.eq_ofNat_of_zero_le (a := z) (by omega)
    have HW := hid hW
    clear hW
    have HN := hid (Bt.n h)
    go_enter Try.func50, Try.ntmps50
    go_wp2_with (first | (go_at_call 67; refine (HW.out _).mono ?_; rintro e w1 ⟨rfl, hb⟩; have c0 : w1.cell? ⟨w.heap.size, 0, none⟩ = some (.int .i64 g) := box_cell hb 0; have c1 : w1.cell? ⟨w.heap.size, 1, none⟩ = some (.int .i64 s) := box_cell hb 1; have c2 : w1.cell? ⟨w.heap.size, 2, none⟩ = some (.int .i64 z) := box_cell hb 2; have c3 : w1.cell? ⟨w.heap.size, 3, none⟩ = some (.slice a n cap) := box_cell hb 3; have hb1 := box_below hb; have s1 := box_size hb; clear hb; have h1 := h.below hb1) | (at_builtin; (refine wpList_append_bytes rfl (.tmp 38) (.tmp 40) rfl w.heap.size (.slice (some ⟨w1.heap.size, 0, none⟩) 7 7) (Blk.hdr g s z n) l rfl (own_lit w1 w.heap.size (by omega) _ (Blk.hdr g s z n) (Blk.hdr_fits g s z n) (cb_ints _ (Blk.hdr_cells g s z n (by omega) (by omega) (by omega) (by omega))).symm) a n cap rfl (h1.alloc _) ?c1 ?c2 ?_); (case c1 => rw [Blk.hdr_length, HN.out]; omega); (case c2 => simp; omega); intro v1 w2 ho1 hg1; (obtain ⟨B, hB⟩ : ∃ B, Blk.hdr g s z n ++ l = B := ⟨_, rfl⟩); (have hBl : B.length ≤ 407 := by rw [← hB, List.length_append, Blk.hdr_length, HN.out]; omega); rw [hB] at ho1; have HB := hid hB; clear hB) | (go_at_call 68; obtain ⟨a1, cp1, rfl, hs1⟩ := own_sl ho1; refine (rSum_call _ _ _ _ _ hs1).mono ?_; rintro e w3 ⟨rfl, rfl⟩))
    have b1 : Below w.heap.size w w2 := below_grown1 (hb1.alloc hb1.size _) (by have := hb1.size; simp; omega) hg1 hb1.size
    have HT := hid (Blk.bytes_of g s z n l B HN.out HB.out)
    go_loopg [5, 6, 7] 4 (fun gg o c i wr => ∃ (L : List UInt8) (d k : Nat), gg + k = 4 ∧ i = .int .i64 (k : Int) ∧ c = .int .u32 (d : Int) ∧ d < 4294967296 ∧ L.length ≤ 407 + k ∧ Hid (L ++ Blk.leN gg d = Blk.bytes g s z l) ∧ wr.ownsRow w.heap.size 5 1 o L.length (cb L) ∧ Below w.heap.size w wr)
    case atStart => exact ⟨B, Crc.sum B, 0, rfl, rfl, rfl, Crc.sum_lt B, by omega, by rw [HT.out, Blk.leN4]; rfl, ho1, b1⟩
    case round =>
      obtain ⟨L, d, k, hk, rfl, rfl, hd, hL, HL, hoL, hbL⟩ := hrel
      have hsz := hbL.size
      by_cases hlt : k < 4
      · obtain ⟨m, rfl⟩ : ∃ m, gk = m + 1 := ⟨gk - 1, by omega⟩
        go_wp2_with (at_builtin; (refine wpList_append_bytes rfl (.tmp 48) (.tmp 52) rfl w.heap.size u5 L [UInt8.ofNat d] rfl (hoL.alloc _) (some ⟨wr.heap.size, 0, none⟩) 1 1 rfl (lit_bt wr _ [UInt8.ofNat d] (by simp [maxLen]) (cb_ints _ (Blk.byte_cells d)).symm) ?d1 ?d2 ?_); (case d1 => simp; omega); (case d2 => simp; omega); intro v2 w4 ho2 hg2)
        go_roundg m
        case measure => omega
        case rel =>
          refine ⟨L ++ [UInt8.ofNat d], d / 256, k + 1, by omega, by go_num, rfl, by omega, by simp; omega, ?_, ho2, below_grown (hoL.alloc _) (hbL.alloc hsz _) (by simp; omega) hg2⟩
          have := HL.out
          rw [List.append_assoc]; exact this
      · obtain rfl : gk = 0 := by omega
        go_wp2
        go_ret2
        refine ⟨_, by rw [HZ.out]; rfl, hbL, ?_⟩
        have e := HL.out
        unfold Blk.leN at e
        rw [List.append_nil] at e
        rw [Int.toNat_natCast, Int.toNat_natCast, Int.toNat_natCast, ← e]
        exact hoL
  · rw [if_neg hz]
    have hz0 : (Blk.wrong g s z n != 0) = true := by rw [bne_iff_ne]; exact hz
    generalize Blk.wrong g s z n = e at *
    clear hz
    have HW := hid hW
    clear hW
    go_enter Try.func50, Try.ntmps50
    go_wp2_with (go_at_call 67; refine (HW.out _).mono ?_; rintro e w1 ⟨rfl, hb⟩)
    go_ret2
    exact ⟨_, rfl, box_below hb, World.ownsRow_nil _ _ _ _⟩

end Go.Proofs.Ytjdgfijpmljhiaa
