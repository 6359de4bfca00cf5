/- Contract of event.put: it appends three bytes. -/
import Derived.Test.YtkngfobnfocpjaaEventB
import Derived.Test.YtkngfobnfocpjaaKit3
namespace Go.Proofs.Ytkngfobnfocpjaa
open Go.RowKit
set_option linter.unusedVariables false

theorem Evt.put_cells (x : Nat) (h : x < 16777216) : [UInt8.ofNat (x / 65536)].map (fun c => (c.toNat : Int)) = [(x : Int) / 65536] ∧ [UInt8.ofNat (x / 256)].map (fun c => (c.toNat : Int)) = [(x : Int) / 256 % 256] ∧ [UInt8.ofNat x].map (fun c => (c.toNat : Int)) = [(x : Int) % 256] := by
  simp only [List.map_cons, List.map_nil, UInt8.toNat_ofNat', List.cons.injEq, and_true]; omega
set_option maxHeartbeats 1000000 in
theorem eput_call (w0 w : World) (row : Option Nat) (base : Nat) (v : Value) (l : List UInt8) (x : Nat) (ho : OB w0 w row base v l) (hb : base ≤ w.heap.size) (hx : x < 16777216) (hl : l.length + 3 ≤ 140737488355328) :
    Calls Try.prog 48 #[v, .int .i64 (x : Int), .int .i64 3] w fun e w' => ∃ v', e = .returned v' ∧ OB w0 w' row base v' (l ++ Evt.three x) ∧ w.grownBy w' v.ownBlock := by
  have hpc := hid (Evt.put_cells x hx)
  obtain ⟨a0, c0, rfl, _⟩ := ho.sl
  go_enter Try.func48, Try.ntmps48
  go_wp2
  go_loopg [0, 7] 3 (fun g o i wr => ∃ (L : List UInt8) (j : Nat) (q : Int), g = 3 - j ∧ j ≤ 3 ∧ q = 2 - (j : Int) ∧ i = .int .i64 q ∧ Hid (L = l ++ (Evt.three x).take j) ∧ L.length ≤ l.length + j ∧ OB w wr (Value.slice a0 l.length c0).ownBlock base o L)
  case atStart => exact ⟨l, 0, 2, rfl, by omega, rfl, rfl, hid (by simp), by omega, OT.start ho.own⟩
  case round =>
    obtain ⟨L, j, q, rfl, hj, hq, rfl, HL, hLl, hO⟩ := hrel
    have hsz := hO.grown.size
    have hj4 : j = 0 ∨ j = 1 ∨ j = 2 ∨ j = 3 := by omega
    rcases hj4 with rfl | rfl | rfl | rfl
    · obtain rfl : q = 2 := by omega
      clear hq
      go_wp2_with (refine wpList_append_ob rfl (.tmp 14) (.tmp 20) rfl base _ L [UInt8.ofNat (x / 65536)] rfl (hO.alloc _) (some ⟨wr.heap.size, 0, none⟩) 1 1 rfl (lit_bt wr _ [UInt8.ofNat (x / 65536)] (by simp [maxLen]) (cb_ints _ hpc.out.1).symm) (by simp; omega) (by simp; omega) ?_; intro v1 w1 ho1 hg1)
      go_roundg 2
      case measure => omega
      case rel => exact ⟨L ++ [UInt8.ofNat (x / 65536)], 1, 1, rfl, by omega, rfl, rfl, hid (by rw [HL.out]; unfold Evt.three; simp), by simp; omega, ho1⟩
    · obtain rfl : q = 1 := by omega
      clear hq
      go_wp2_with (refine wpList_append_ob rfl (.tmp 14) (.tmp 20) rfl base _ L [UInt8.ofNat (x / 256)] rfl (hO.alloc _) (some ⟨wr.heap.size, 0, none⟩) 1 1 rfl (lit_bt wr _ [UInt8.ofNat (x / 256)] (by simp [maxLen]) (cb_ints _ hpc.out.2.1).symm) (by simp; omega) (by simp; omega) ?_; intro v1 w1 ho1 hg1)
      go_roundg 1
      case measure => omega
      case rel => exact ⟨L ++ [UInt8.ofNat (x / 256)], 2, 0, rfl, by omega, rfl, rfl, hid (by rw [HL.out]; unfold Evt.three; simp), by simp; omega, ho1⟩
    · obtain rfl : q = 0 := by omega
      clear hq
      go_wp2_with (refine wpList_append_ob rfl (.tmp 14) (.tmp 20) rfl base _ L [UInt8.ofNat x] rfl (hO.alloc _) (some ⟨wr.heap.size, 0, none⟩) 1 1 rfl (lit_bt wr _ [UInt8.ofNat x] (by simp [maxLen]) (cb_ints _ hpc.out.2.2).symm) (by simp; omega) (by simp; omega) ?_; intro v1 w1 ho1 hg1)
      go_roundg 0
      case measure => omega
      case rel => exact ⟨L ++ [UInt8.ofNat x], 3, -1, rfl, by omega, rfl, rfl, hid (by rw [HL.out]; unfold Evt.three; simp), by simp; omega, ho1⟩
    · obtain rfl : q = -1 := by omega
      clear hq
      go_wp2
      go_ret
      have e : L = l ++ Evt.three x := by rw [HL.out]; rfl
      exact ⟨_, rfl, by rw [← e]; exact ho.more hO.own hO.grown hO.lies, hO.grown⟩

end Go.Proofs.Ytkngfobnfocpjaa
