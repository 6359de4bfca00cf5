import Derived.Test.YtkngfobnfocpjaaBlockD
import Derived.Test.YtkngfobnfocpjaaBlkL
import Derived.Lib.SlBytesConst
namespace Go.Proofs.Ytkngfobnfocpjaa
open Go.RowKit
set_option linter.unusedVariables false

theorem Blk.alive_bytes : (if Blk.wrong 3 1 2 2 = 0 then Blk.bytes (3 : Int).toNat (1 : Int).toNat (2 : Int).toNat [5, 6] else []) = Blk.bytes 3 1 2 [5, 6] := by decide +kernel
theorem Blk.alive_wrong : Blk.wrong 3 1 2 2 = 0 := by decide +kernel
theorem Blk.alive_sum : Crc.sum [49, 50, 51, 52, 53, 54, 55, 56, 57] = 3808858755 := by decide +kernel
theorem lit_bt_mark (w : World) (cs : Array Value) (l : List UInt8) (fr : Nat × Nat) (hl : l.length ≤ maxLen) (h : cs.toList = cb l) :
    Bt (w.alloc (.cells cs 5 fr)) (some ⟨w.heap.size, 0, none⟩) l.length l.length l := by
  refine ⟨Nat.le_refl _, hl, by rw [cb_length, Nat.mul_one], (fun e => by cases e), fun hn => ⟨w.heap.size, 0, rfl, fun j u hj => ?_⟩⟩
  rw [Nat.zero_add, World.cell?_alloc_mark, ← Array.getElem?_toList, h]
  exact hj
set_option maxRecDepth 100000 in
set_option maxHeartbeats 1000000 in
theorem alive4_call (w : World) : Calls Try.prog 31 #[] w (Grew (.bool true) w) := by
  obtain ⟨P, hP⟩ : ∃ P, Blk.bytes 3 1 2 [5, 6] = P := ⟨_, rfl⟩
  have hlen : P.length = 13 := by rw [← hP]; rfl
  have D1 := hid (show ∀ W (a : Option Addr) (n cap : Nat), Bt W a n cap [5, 6] → Calls Try.prog 26 #[.agg #[.int .i64 3, .int .i64 1, .int .i64 2, .slice a n cap]] W (fun e w' => ∃ a' cp, e = .returned (.tuple #[.slice a' 13 cp, .int .i64 0]) ∧ Below W.heap.size W w' ∧ Bt w' a' 13 cp P) from fun W a n cap h => by
    have hn := Bt.n h
    obtain rfl : 2 = n := hn
    have := bBytes_call 3 1 2 a 2 cap [5, 6] W h
    rw [Blk.alive_wrong] at this
    refine this.mono ?_
    rintro e w1 ⟨v1, rfl, b1, o1⟩
    have o1' : w1.ownsRow W.heap.size 5 1 v1 (Blk.bytes 3 1 2 [5, 6]).length (cb (Blk.bytes 3 1 2 [5, 6])) := o1
    rw [hP, hlen] at o1'
    obtain ⟨a1, cp1, rfl, s1⟩ := own_sl o1'
    exact ⟨a1, cp1, rfl, b1, s1⟩)
  have D2 := hid (show ∀ W (a : Option Addr) (n cap : Nat), Bt W a n cap P → Calls Try.prog 28 #[.slice a n cap] W (fun e w' => ∃ a' cp, e = .returned (.tuple #[.agg #[.int .i64 3, .int .i64 1, .int .i64 2, .slice a' 2 cp], .int .i64 0]) ∧ Below W.heap.size W w') from fun W a n cap h => by
    have := bParse_call a n cap _ W h
    rw [← hP, Blk.parse_bytes 3 1 2 [5, 6] Blk.alive_wrong] at this
    refine this.mono ?_
    rintro e w1 ⟨a1, c1, rfl, b1, o1⟩
    exact ⟨a1, c1, rfl, b1⟩)
  have D3 := hid (show ∀ W (a : Option Addr) (n cap : Nat), Bt W a n cap [49, 50, 51, 52, 53, 54, 55, 56, 57] → Calls Try.prog 22 #[.slice a n cap] W (Same (.int .u32 3808858755) W) from fun W a n cap h => by
    have := Sum_call a n cap _ W h
    rw [Blk.alive_sum] at this; exact this)
  go_enter Try.func31, Try.ntmps31
  go_wp2_with (first
    | (go_at_call 26; refine (D1.out _ _ _ _ (lit_bt w _ [5, 6] (by decide) rfl)).mono ?_; rintro e w1 ⟨a1, cp1, rfl, b1, s1⟩; have b1' := box_below b1)
    | (go_at_call 28; refine (D2.out _ _ _ _ s1).mono ?_; rintro e w2 ⟨a2, cp2, rfl, b2⟩; have bb := bnext b1' b2; have hcv := Lib.run_convert_bytes_const (P := Try.prog) (w2.alloc (.cells #[.int .i64 3, .int .i64 1, .int .i64 2, .slice a2 2 cp2] 32)) 30 5 #[.int .u8 49, .int .u8 50, .int .u8 51, .int .u8 52, .int .u8 53, .int .u8 54, .int .u8 55, .int .u8 56, .int .u8 57] 9 9 Try.underlying30 Try.underlying5; rw [World.size_alloc] at hcv)
    | (go_at_call 22; refine (D3.out _ _ _ _ (by have := lit_bt_mark (w2.alloc (.cells #[.int .i64 3, .int .i64 1, .int .i64 2, .slice a2 2 cp2] 32)) #[.int .u8 49, .int .u8 50, .int .u8 51, .int .u8 52, .int .u8 53, .int .u8 54, .int .u8 55, .int .u8 56, .int .u8 57] [49, 50, 51, 52, 53, 54, 55, 56, 57] (9, 10) (by decide) rfl; rw [World.size_alloc] at this; exact this)).mono ?_; rintro e w3 ⟨rfl, rfl⟩))
  go_ret
  exact ⟨rfl, (bb.alloc bb.size _).alloc (by have := bb.size; simp; omega) _⟩

end Go.Proofs.Ytkngfobnfocpjaa
