/- Names holds: it returns true. -/
import Derived.Test.YtkngfobnfocpjaaChecked
import Derived.Test.YtkngfobnfocpjaaOpenB
import Derived.Test.YtkngfobnfocpjaaKit2
namespace Go.Proofs.Ytkngfobnfocpjaa
open Go.ChangeShapes Go.WideShapes Go.ChangeAt Go.RowKit Go.Joins
set_option linter.unusedVariables false

def nv (k : Nat) : Int := ([8, 4, 400, 12, 1, 2, 3, 4, 10, 1000000, 10, 150, 1, 2, 3, 4, 5, 6, 7, 8, 9, 285, 40, 1000000, 80] : List Int).getD k 0
theorem arr25 (k : Nat) (h : k < 25) : (#[.int .i64 8, .int .i64 4, .int .i64 400, .int .i64 12, .int .i64 1, .int .i64 2, .int .i64 3, .int .i64 4, .int .i64 10, .int .i64 1000000, .int .i64 10, .int .i64 150, .int .i64 1, .int .i64 2, .int .i64 3, .int .i64 4, .int .i64 5, .int .i64 6, .int .i64 7, .int .i64 8, .int .i64 9, .int .i64 285, .int .i64 40, .int .i64 1000000, .int .i64 80] : Array Value)[k]? = some (.int .i64 (nv k)) := by
  match k, h with
  | 0, _ => rfl
  | 1, _ => rfl
  | 2, _ => rfl
  | 3, _ => rfl
  | 4, _ => rfl
  | 5, _ => rfl
  | 6, _ => rfl
  | 7, _ => rfl
  | 8, _ => rfl
  | 9, _ => rfl
  | 10, _ => rfl
  | 11, _ => rfl
  | 12, _ => rfl
  | 13, _ => rfl
  | 14, _ => rfl
  | 15, _ => rfl
  | 16, _ => rfl
  | 17, _ => rfl
  | 18, _ => rfl
  | 19, _ => rfl
  | 20, _ => rfl
  | 21, _ => rfl
  | 22, _ => rfl
  | 23, _ => rfl
  | 24, _ => rfl
  | k + 25, h => omega
theorem arr12 (k : Nat) (h : k < 12) : (#[.int .i64 0, .int .i64 1, .int .i64 2, .int .i64 3, .int .i64 4, .int .i64 5, .int .i64 6, .int .i64 7, .int .i64 8, .int .i64 9, .int .i64 10, .int .i64 11] : Array Value)[k]? = some (.int .i64 (k : Int)) := by
  match k, h with
  | 0, _ => rfl
  | 1, _ => rfl
  | 2, _ => rfl
  | 3, _ => rfl
  | 4, _ => rfl
  | 5, _ => rfl
  | 6, _ => rfl
  | 7, _ => rfl
  | 8, _ => rfl
  | 9, _ => rfl
  | 10, _ => rfl
  | 11, _ => rfl
theorem cell_new (w : World) (cs : Array Value) (t : TypeId) (i : Nat) : (w.alloc (.cells cs t)).cell? ⟨w.heap.size, i, none⟩ = cs[i]? := by simp
theorem cell_old {w : World} {o : Obj} {b i : Nat} (h : b < w.heap.size) : (w.alloc o).cell? ⟨b, i, none⟩ = w.cell? ⟨b, i, none⟩ := (((Below.refl w.heap.size w).alloc (Nat.le_refl _) o).cell (p := ⟨b, i, none⟩) h)
set_option maxRecDepth 100000 in
set_option maxHeartbeats 1000000 in
theorem Names_walk (w : World) : Calls Try.prog 13 #[] w (Grew (.bool true) w) := by
  go_enter Try.func13, Try.ntmps13
  go_wp2
  go_loopg [2, 3, 10] 12 (fun g x y i wr => ∃ k : Nat, g = 12 - k ∧ k ≤ 12 ∧ i = .int .i64 k ∧ Below w.heap.size w wr ∧ w.heap.size < wr.heap.size ∧ Hid (∀ j, j < 12 → wr.cell? ⟨w.heap.size, j, none⟩ = some (.int .i64 (j : Int))))
  case atStart => exact ⟨0, rfl, by omega, rfl, (Below.refl _ _).alloc (Nat.le_refl _) _, by simp, hid (fun j hj => (cell_new _ _ _ _).trans (arr12 j hj))⟩
  case round =>
    obtain ⟨k, rfl, hk, rfl, hb, hz, HC⟩ := hrel
    by_cases hlt : k < 12
    · have hc := HC.out k hlt
      go_wp2
      go_roundg (12 - (k + 1))
      case measure => omega
      case rel => exact ⟨k + 1, rfl, by omega, by go_num, hb, hz, HC⟩
    · obtain rfl : k = 12 := by omega
      clear HC
      go_wp2
      go_loopg [6, 23, 26, 27, 28, 29, 30, 31, 32, 33, 34] 25 (fun g x i a1 a2 a3 a4 a5 a6 a7 a8 a9 W => ∃ k : Nat, g = 25 - k ∧ k ≤ 25 ∧ i = .int .i64 k ∧ Below w.heap.size w W ∧ Hid (∀ j, j < 25 → W.cell? ⟨wr.heap.size, j, none⟩ = some (.int .i64 (nv j)) ∧ W.cell? ⟨wr.heap.size + 1, j, none⟩ = some (.int .i64 (nv j))))
      case atStart =>
        refine ⟨0, rfl, by omega, rfl, (hb.alloc hb.size _).alloc (by simp; omega) _, hid (fun j hj => ⟨?_, ?_⟩)⟩
        · rw [cell_old (by simp), cell_new]; exact arr25 j hj
        · have := cell_new (wr.alloc (.cells #[.int .i64 8, .int .i64 4, .int .i64 400, .int .i64 12, .int .i64 1, .int .i64 2, .int .i64 3, .int .i64 4, .int .i64 10, .int .i64 1000000, .int .i64 10, .int .i64 150, .int .i64 1, .int .i64 2, .int .i64 3, .int .i64 4, .int .i64 5, .int .i64 6, .int .i64 7, .int .i64 8, .int .i64 9, .int .i64 285, .int .i64 40, .int .i64 1000000, .int .i64 80] 3)) #[.int .i64 8, .int .i64 4, .int .i64 400, .int .i64 12, .int .i64 1, .int .i64 2, .int .i64 3, .int .i64 4, .int .i64 10, .int .i64 1000000, .int .i64 10, .int .i64 150, .int .i64 1, .int .i64 2, .int .i64 3, .int .i64 4, .int .i64 5, .int .i64 6, .int .i64 7, .int .i64 8, .int .i64 9, .int .i64 285, .int .i64 40, .int .i64 1000000, .int .i64 80] 3 j
          rw [World.size_alloc] at this
          rw [this]; exact arr25 j hj
      case round =>
        obtain ⟨k, rfl, hk, rfl, hB, HD⟩ := hrel
        by_cases hlt : k < 25
        · have hc1 := (HD.out k hlt).1
          have hc2 := (HD.out k hlt).2
          go_wp2
          go_quiet (fail)
          go_wp2
          go_roundg (25 - (k + 1))
          case measure => omega
          case rel => exact ⟨k + 1, rfl, by omega, by go_num, by first | exact hB | exact hB.drew | exact below_drewN hB _, hid HD.out⟩
        · obtain rfl : k = 25 := by omega
          clear HD
          go_wp2
          go_ret
          exact ⟨rfl, hB⟩

namespace names
set_option maxRecDepth 100000 in
theorem lifted (os : Os) (started : os.Started) (H : Type) (enc : TypeId × Value → H) :
    ReturnsInHanded {} Try.checked os 13 .any (Rows.namesSpec.pre6 enc Try.prog Try.f13 Rows.namesRow.domain false) (Rows.namesSpec.post enc Try.prog Try.f13 false true false false) := by
  refine returnsInHanded_of_change (C := Try.checked) knobs started (by kernel_rfl) Try.func13
    (ChangeSpec.witness6 (enc := enc) (C := Try.checked) false ⟨#[], #[], []⟩ 8 (by kernel_rfl) (by kernel_rfl) (by kernel_rfl) (by kernel_rfl)) ?_
  intro W base args ds gs before hval hW hcnd _
  have hW' := hW
  obtain ⟨p, q, hA, hV, rfl, _, _⟩ := hW'
  obtain ⟨rfl, rfl⟩ := trodVars_none hV
  replace hA : DataW.TrodAll enc Try.prog W 0 (fun _ => true) true Try.f13.params.toList args.toList ds p := hA
  replace hval : ∀ (j : Nat) t v, Try.f13.params[j]? = some t → args[j]? = some v → Value.okWide Try.prog W .any base t v := hval
  rw [Try.params13] at hA hval
  obtain ⟨hargs, rfl, rfl⟩ := trodAll_nil hA
  obtain rfl : args = #[] := by cases args; simp_all
  exact law_contract rfl rfl Try.underlying4 (by kernel_rfl) rfl hW (Names_walk W)
theorem over : Rows.namesRow.holds Try.pinned (OpenSpec.ofChange Rows.namesSpec) :=
  OpenClaim.holds_of_wide 13 Try.f13 rfl rfl rfl rfl rfl rfl rfl ⟨rfl, rfl, rfl, rfl, rfl⟩ rfl rfl rfl rfl rfl (by kernel_rfl) Try.func13 (by kernel_rfl)
    (of_decide_eq_true (by kernel_rfl)) (by unfold Func.isWrapper; first | (rw [if_pos (by decide +kernel)]; kernel_rfl) | (rw [if_neg (by decide +kernel)]; exact ⟨rfl, rfl⟩))
    (fun os started H enc _ => lifted os started H enc)
theorem proved : Rows.NamesSaid := over
end names

end Go.Proofs.Ytkngfobnfocpjaa
