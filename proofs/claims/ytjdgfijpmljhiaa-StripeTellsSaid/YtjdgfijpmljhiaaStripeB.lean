/- Contracts of chapter 6: which blocks are wrong: the program's and the reference's. -/
import Derived.Test.YtjdgfijpmljhiaaStripeA
namespace Go.Proofs.Ytjdgfijpmljhiaa
open Go.RowKit
set_option linter.unusedVariables false
theorem info_int8 : (Try.prog.info? 3).map (fun i => (i.zero, i.size, i.bytes)) = some (some (.int .i64 0), 1, 8) := by kernel_rfl
def nCells (U : List Nat) : List Value := U.map fun (u : Nat) => Value.int .i64 (u : Int)
theorem nCells_append (U V : List Nat) : nCells (U ++ V) = nCells U ++ nCells V := by simp [nCells]
theorem nCells_get {U : List Nat} {i : Nat} (h : i < U.length) : (nCells U)[i]? = some (.int .i64 ((U[i] : Nat) : Int)) := by simp [nCells, h]
/-- It returns these numbers; what was there is as it was. -/
def NRes (U : List Nat) (w : World) (e : Ending) (w' : World) : Prop := ∃ a cap, e = .returned (.slice a U.length cap) ∧ Sl w' 1 a U.length cap (nCells U) ∧ Below w.heap.size w w'
theorem rwData_getD {R : List Rw} {k : Nat} (h : k < R.length) : (rwData R).getD k [] = R[k].l := by simp [List.getD, rwData, h]
set_option maxRecDepth 100000 in
set_option maxHeartbeats 2000000 in
theorem sBad_call (a : Option Addr) (n cap : Nat) (R : List Rw) (g : Int) (w : World) (h : Ms w a n cap R) (hn : n * 24 ≤ 140737488355328) :
    Calls Try.prog 28 #[.slice a n cap, .int .i64 g] w (NRes (Stp.badL (rwData R) g n) w) := by
  have HN := hid h.cnt
  have hmax := h.sl.max
  have hle := h.sl.le
  unfold maxLen at hmax
  go_enter Try.func28, Try.ntmps28
  go_wp2_with fail
  go_loopg [5, 12] n (fun gg s5 s12 wr => ∃ k : Nat, gg = n - k ∧ k ≤ n ∧ s12 = .int .i64 (k : Int) ∧ OT w wr none w.heap.size 3 1 s5 (Stp.badL (rwData R) g k).length (nCells (Stp.badL (rwData R) g k)))
  case atStart => exact ⟨0, rfl, by omega, rfl, OT.fresh (World.ownsRow_nil _ _ _ _) (Below.refl _ _) (Nat.le_refl _)⟩
  case round =>
    obtain ⟨k, rfl, hk, rfl, hO⟩ := hrel
    obtain ⟨wo, rfl⟩ : ∃ wo : World, wo = wr := ⟨_, rfl⟩
    have hbo := hO.belowOf (Nat.le_refl _) (fun k e => by cases e)
    have hszo := hbo.size
    by_cases hlt : k < n
    · have hkA : k < R.length := by rw [HN.out]; exact hlt
      obtain ⟨b, off, rfl, _⟩ := h.sl.addr (by omega)
      obtain ⟨x0, hb⟩ := (h.below hbo).at k hkA
      have hl := rwData_getD hkA
      have hle2 := Stp.badL_le (rwData R) g k
      generalize R[k] = r at *
      have D := hid (sshard_call r.a r.n r.cap r.l g (k : Int) wo hb)
      unfold ShTells at D
      have i0 : (0 : Int) ≤ (k : Int) := by omega
      have i1 : (k : Int) < (n : Int) := by omega
      cases hx : Stp.right r.l g (k : Int) with
      | true =>
        have hy := hid (Stp.badL_yes (l := rwData R) (g := g) (k := k) (by rw [hl]; exact hx))
        rw [hx] at D
        replace hl := hid hl
        replace hx := hid hx
        go_wp2_with fail
        go_at_call 47; refine (D.out).mono ?_; rintro e w2 ⟨a2, c2, rfl, b2, -⟩
        have hO2 := hO.below b2
        go_wp2_with fail
        go_roundg (n - (k + 1))
        case measure => omega
        case rel => exact ⟨k + 1, rfl, by omega, by go_num, by rw [hy.out]; exact hO2.alloc _⟩
      | false =>
        have hy := hid (Stp.badL_no (l := rwData R) (g := g) (k := k) (by rw [hl]; exact hx))
        rw [hx] at D
        replace hl := hid hl
        replace hx := hid hx
        go_wp2_with fail
        go_at_call 47; refine (D.out).mono ?_; rintro e w2 ⟨a2, c2, rfl, b2, -⟩
        have hO2 := hO.below b2
        generalize Blk.parse r.l = P at *
        have hO3 := hO2.alloc (.cells #[.int .i64 P.g, .int .i64 P.s, .int .i64 P.z, .slice a2 P.data.length c2] 77)
        have hsz3 : w.heap.size ≤ (w2.alloc (.cells #[.int .i64 P.g, .int .i64 P.s, .int .i64 P.z, .slice a2 P.data.length c2] 77)).heap.size := by have := b2.size; simp; omega
        go_upto_region 7 with (fail)
        generalize w2.alloc (.cells #[.int .i64 P.g, .int .i64 P.s, .int .i64 P.z, .slice a2 P.data.length c2] 77) = w3 at *
        go_wp2_with (refine wpList_append_t rfl (.tmp 26) (.tmp 28) 56 56 rfl w.heap.size 3 1 8 (.int .i64 0) Try.underlying56 info_int8 rfl (by decide) _ (Stp.badL (rwData R) g k).length (nCells (Stp.badL (rwData R) g k)) rfl (hO3.alloc (.cells #[.int .i64 (k : Int)] 3)) (.slice (some ⟨w3.heap.size, 0, none⟩) 1 1) 1 [.int .i64 (k : Int)] rfl (Src.ofLit w3 #[.int .i64 (k : Int)] 3 1 1 Try.underlying56 rfl (by simp [Value.oneCell'])) (by unfold maxLen; omega) (by omega) (by simp; omega) ?_; intro v2 w4 ho2 hg2)
        go_roundg (n - (k + 1))
        case measure => omega
        case rel =>
          refine ⟨k + 1, rfl, by omega, by go_num, ?_⟩
          rw [hy.out, nCells_append, List.length_append]
          exact ho2
    · obtain rfl : n = k := by omega
      obtain ⟨ua, uc, rfl, hIs⟩ := own_sl hO.own
      go_wp2_with fail
      go_ret
      exact ⟨_, _, rfl, hIs, hbo⟩

set_option maxRecDepth 100000 in
set_option maxHeartbeats 2000000 in
theorem rBad_call (a : Option Addr) (n cap : Nat) (R : List Rw) (g : Int) (w : World) (h : Ms w a n cap R) (hn : n * 24 ≤ 140737488355328) :
    Calls Try.prog 31 #[.slice a n cap, .int .i64 g] w (NRes (Stp.badL (rwData R) g n) w) := by
  have HN := hid h.cnt
  have hmax := h.sl.max
  have hle := h.sl.le
  unfold maxLen at hmax
  go_enter Try.func31, Try.ntmps31
  go_wp2_with fail
  go_loopg [5, 9] n (fun gg s5 s12 wr => ∃ k : Nat, gg = n - k ∧ k ≤ n ∧ s12 = .int .i64 (k : Int) ∧ OT w wr none w.heap.size 3 1 s5 (Stp.badL (rwData R) g k).length (nCells (Stp.badL (rwData R) g k)))
  case atStart => exact ⟨0, rfl, by omega, rfl, OT.fresh (World.ownsRow_nil _ _ _ _) (Below.refl _ _) (Nat.le_refl _)⟩
  case round =>
    obtain ⟨k, rfl, hk, rfl, hO⟩ := hrel
    obtain ⟨wo, rfl⟩ : ∃ wo : World, wo = wr := ⟨_, rfl⟩
    have hbo := hO.belowOf (Nat.le_refl _) (fun k e => by cases e)
    have hszo := hbo.size
    by_cases hlt : k < n
    · have hkA : k < R.length := by rw [HN.out]; exact hlt
      obtain ⟨b, off, rfl, _⟩ := h.sl.addr (by omega)
      obtain ⟨x0, hb⟩ := (h.below hbo).at k hkA
      have hl := rwData_getD hkA
      have hle2 := Stp.badL_le (rwData R) g k
      generalize R[k] = r at *
      have D := hid (rRight_call r.a r.n r.cap r.l g (k : Int) wo hb)
      have i0 : (0 : Int) ≤ (k : Int) := by omega
      have i1 : (k : Int) < (n : Int) := by omega
      cases hx : Stp.right r.l g (k : Int) with
      | true =>
        have hy := hid (Stp.badL_yes (l := rwData R) (g := g) (k := k) (by rw [hl]; exact hx))
        rw [hx] at D
        replace hl := hid hl
        replace hx := hid hx
        go_wp2_with fail
        go_at_call 51; refine (D.out).mono ?_; rintro e w2 ⟨rfl, b2⟩
        have hO2 := hO.below b2
        go_wp2_with fail
        go_roundg (n - (k + 1))
        case measure => omega
        case rel => exact ⟨k + 1, rfl, by omega, by go_num, by rw [hy.out]; exact hO2⟩
      | false =>
        have hy := hid (Stp.badL_no (l := rwData R) (g := g) (k := k) (by rw [hl]; exact hx))
        rw [hx] at D
        replace hl := hid hl
        replace hx := hid hx
        go_wp2_with fail
        go_at_call 51; refine (D.out).mono ?_; rintro e w3 ⟨rfl, b2⟩
        have hO3 := hO.below b2
        have hsz3 := b2.size
        go_wp2_with (refine wpList_append_t rfl (.tmp 20) (.tmp 22) 56 56 rfl w.heap.size 3 1 8 (.int .i64 0) Try.underlying56 info_int8 rfl (by decide) _ (Stp.badL (rwData R) g k).length (nCells (Stp.badL (rwData R) g k)) rfl (hO3.alloc (.cells #[.int .i64 (k : Int)] 3)) (.slice (some ⟨w3.heap.size, 0, none⟩) 1 1) 1 [.int .i64 (k : Int)] rfl (Src.ofLit w3 #[.int .i64 (k : Int)] 3 1 1 Try.underlying56 rfl (by simp [Value.oneCell'])) (by unfold maxLen; omega) (by omega) (by simp; omega) ?_; intro v2 w4 ho2 hg2)
        go_roundg (n - (k + 1))
        case measure => omega
        case rel =>
          refine ⟨k + 1, rfl, by omega, by go_num, ?_⟩
          rw [hy.out, nCells_append, List.length_append]
          exact ho2
    · obtain rfl : n = k := by omega
      obtain ⟨ua, uc, rfl, hIs⟩ := own_sl hO.own
      go_wp2_with fail
      go_ret
      exact ⟨_, _, rfl, hIs, hbo⟩

end Go.Proofs.Ytjdgfijpmljhiaa
