/- Contract: alive. -/
import Derived.Test.YtjdgfijpmljhiaaViewH
namespace Go.Proofs.Ytjdgfijpmljhiaa
open Go.RowKit
set_option linter.unusedVariables false
/-- a literal list of events -/
theorem es_lit {w : World} {b : Nat} {t : TypeId} {fr : Nat × Nat} (l : List Evt.Ev) (h : w.heap[b]? = some (.cells (evCells l).toArray t fr)) (hl : l.length ≤ maxLen) (ho : ∀ e ∈ l, e.s.size ≤ maxLen) : Es w (some ⟨b, 0, none⟩) l.length l.length l := by
  refine ⟨⟨Nat.le_refl _, hl, evCells_length l, (fun e => by cases e), fun _ => ⟨b, 0, rfl, fun j u hj => ?_⟩⟩, ho⟩
  rw [blk_cell h]
  simpa using hj
def evA : List Evt.Ev := [⟨⟨#[97]⟩, 1, 0⟩, ⟨⟨#[97]⟩, 2, 7⟩, ⟨⟨#[97]⟩, 3, 2⟩]
theorem alive_fold : Vw.fold ⟨0, []⟩ evA = ⟨⟨3, [⟨⟨#[97]⟩, 5, 3, true⟩]⟩, 0, 0⟩ := by kernel_rfl
theorem alive_get : Vw.get [⟨⟨#[97]⟩, 5, 3, true⟩] ⟨#[97]⟩ = ⟨⟨#[97]⟩, 5, 3, true⟩ := by kernel_rfl
theorem two_new (w w1 : World) (o1 o2 : Obj) (hb : Below w.heap.size w w1) : ∃ V, (w1.alloc o1).alloc o2 = V ∧ V.heap[w1.heap.size]? = some o1 ∧ V.heap[w1.heap.size + 1]? = some o2 ∧ Below w.heap.size w V ∧ Below w1.heap.size w1 V := by
  refine ⟨_, rfl, blk_old (blk_new _ _), by simpa using blk_new (w1.alloc o1) o2, ?_, ?_⟩
  · have := hb.alloc hb.size o1
    exact this.alloc this.size o2
  · have := (Below.refl w1.heap.size w1).alloc (Nat.le_refl _) o1
    exact this.alloc this.size o2

theorem ac_field1 (s : ByteArray) (m c : Int) (o : Bool) (w : World) : (Instr.field 31 (.agg #[.string s, .int .i64 m, .int .i64 c, .bool o]) 1).run Try.prog w = .ok (.int .i64 m) w := by kernel_rfl
theorem ac_field2 (s : ByteArray) (m c : Int) (o : Bool) (w : World) : (Instr.field 31 (.agg #[.string s, .int .i64 m, .int .i64 c, .bool o]) 2).run Try.prog w = .ok (.int .i64 c) w := by kernel_rfl
theorem ac_field3 (s : ByteArray) (m c : Int) (o : Bool) (w : World) : (Instr.field 31 (.agg #[.string s, .int .i64 m, .int .i64 c, .bool o]) 3).run Try.prog w = .ok (.bool o) w := by kernel_rfl
theorem fault_field0 (a b : Int) (w : World) : (Instr.field 28 (.agg #[.int .i64 a, .int .i64 b]) 0).run Try.prog w = .ok (.int .i64 a) w := by kernel_rfl

set_option maxRecDepth 100000 in
set_option maxHeartbeats 2000000 in
theorem alive7_call (w : World) : Calls Try.prog 23 #[] w (Grew (.bool true) w) := by
  go_enter Try.func23, Try.ntmps23
  go_wp2_with fail
  obtain ⟨V, hV⟩ : ∃ V, V = w.alloc (.cells #[.string ⟨#[97]⟩, .int .i64 1, .int .i64 0, .string ⟨#[97]⟩, .int .i64 2, .int .i64 7, .string ⟨#[97]⟩, .int .i64 3, .int .i64 2] 34) := ⟨_, rfl⟩
  rw [← hV]
  have v1 : V.heap[w.heap.size]? = some (.cells #[.string ⟨#[97]⟩, .int .i64 1, .int .i64 0, .string ⟨#[97]⟩, .int .i64 2, .int .i64 7, .string ⟨#[97]⟩, .int .i64 3, .int .i64 2] 34 (0, 0)) := by rw [hV]; exact blk_new _ _
  have hb : Below w.heap.size w V := by rw [hV]; exact (Below.refl _ _).alloc (Nat.le_refl _) _
  clear hV
  have hE : Es V (some ⟨w.heap.size, 0, none⟩) 3 3 evA := es_lit evA v1 (by decide) (by decide)
  have F := vFold_call 0 none 0 0 [] (some ⟨w.heap.size, 0, none⟩) 3 3 evA V (As.nil _) hE
  rw [alive_fold] at F
  unfold viVal at F
  replace F := hid F
  go_at_call 21; refine F.out.mono ?_; rintro e w1 ⟨a, n, cap, rfl, hA, b1⟩
  simp only at hA
  unfold viVal
  simp only
  have hb1 : Below w.heap.size w w1 := bnext hb b1
  clear F v1 hE hb b1
  have G := hid (fun W (hW : As W a n cap [⟨⟨#[97]⟩, 5, 3, true⟩]) => vGet_call 3 a n cap _ ⟨#[97]⟩ W hW)
  rw [alive_get] at G
  unfold viVal acVal at G
  simp only at G
  have M := hid (fun W => vMay_call ⟨⟨#[97]⟩, 5, 3, true⟩ ⟨⟨#[97]⟩, 3, 6⟩ W)
  rw [show Vw.may ⟨⟨#[97]⟩, 5, 3, true⟩ ⟨⟨#[97]⟩, 3, 6⟩ = false from by kernel_rfl] at M
  unfold acVal evVal at M
  simp only at M
  have f1 := ac_field1
  have f3 := ac_field3
  go_wp2_with fail
  obtain ⟨V2, hV2, x1, x2, hb2, -⟩ := two_new w w1 (.cells #[.int .i64 3, .slice a n cap] 24) (.cells #[.int .i64 0, .int .i64 0] 28) hb1
  rw [hV2]
  replace hA := hA.below (show Below w1.heap.size w1 V2 from by rw [← hV2]; exact ((Below.refl _ _).alloc (Nat.le_refl _) _).alloc (by simp) _)
  clear hV2 hb1
  go_at_call 13; refine (G.out _ hA).mono ?_; rintro e w3 ⟨rfl, b3⟩
  have r0 : w3.cell? ⟨w1.heap.size, 0, none⟩ = some (.int .i64 3) := blk_cell (blk_below x1 b3)
  have r1 : w3.cell? ⟨w1.heap.size, 1, none⟩ = some (.slice a n cap) := blk_cell (blk_below x1 b3)
  go_wp2_with fail
  go_at_call 13; refine (G.out _ (hA.below b3)).mono ?_; rintro e w4 ⟨rfl, b4⟩
  have r2 : w4.cell? ⟨w1.heap.size, 0, none⟩ = some (.int .i64 3) := blk_cell (blk_below (blk_below x1 b3) b4)
  have r3 : w4.cell? ⟨w1.heap.size, 1, none⟩ = some (.slice a n cap) := blk_cell (blk_below (blk_below x1 b3) b4)
  go_wp2_with fail
  go_at_call 13; refine (G.out _ ((hA.below b3).below b4)).mono ?_; rintro e w5 ⟨rfl, b5⟩
  go_wp2_with fail
  go_at_call 16; refine (M.out _).mono ?_; rintro e w6 ⟨rfl, b6⟩
  go_wp2_with fail
  go_ret
  exact ⟨rfl, bnext (bnext (bnext (bnext hb2 b3) b4) b5) b6⟩

end Go.Proofs.Ytjdgfijpmljhiaa
