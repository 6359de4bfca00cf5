/- The law StoreScrubs holds: for every input it returns true, and leaves its arguments as they were. -/
import Derived.Test.YthhcdfjijagalaaM40
import Derived.Test.YthhcdfjijagalaaM38
import Derived.Test.YthhcdfjijagalaaChecked
namespace Go.Proofs.Ythhcdfjijagalaa
open Go.ChangeShapes Go.WideShapes Go.ChangeAt Go.RowKit Go.Joins
set_option linter.unusedVariables false
namespace storeScrubs
set_option maxRecDepth 100000 in
theorem lifted (os : Os) (started : os.Started) (H : Type) (enc : TypeId × Value → H) :
    ReturnsInHanded {} Try.checked os 7 .any (Rows.storeScrubsSpec.pre6 enc Try.prog Try.f7 Rows.storeScrubsRow.domain false) (Rows.storeScrubsSpec.post enc Try.prog Try.f7 false true false false) := by
  refine returnsInHanded_of_change_sized (C := Try.checked) knobs started (by kernel_rfl) Try.func7
    (ChangeSpec.witness6 (enc := enc) (C := Try.checked) false ⟨#[], #[.agg #[.int .i64 0, .int .i64 0, .int .i64 0], .slice none 0 0], []⟩ 8 (by kernel_rfl) (by kernel_rfl) (by kernel_rfl) (by kernel_rfl)) ?_
  intro W base args ds gs before hval hW hcnd hsz _
  have hW' := hW
  obtain ⟨p, q, hA, hV, rfl, _, _⟩ := hW'
  obtain ⟨rfl, rfl⟩ := trodVars_none hV
  replace hA : DataW.TrodAll enc Try.prog W 0 (fun _ => true) true Try.f7.params.toList args.toList ds p := hA
  replace hval : ∀ (j : Nat) t v, Try.f7.params[j]? = some t → args[j]? = some v → Value.okWide Try.prog W .any base t v := hval
  rw [Try.params7] at hA hval
  obtain ⟨v0, vs0, d0, ds0, p0, q0, hargs, rfl, rfl, h0, r0⟩ := trodAll_cons hA
  obtain ⟨v1, vs1, d1, ds1, p1, q1, rfl, rfl, rfl, h1, r1⟩ := trodAll_cons r0
  obtain ⟨rfl, rfl, rfl⟩ := trodAll_nil r1
  obtain rfl : args = #[v0, v1] := by cases args; simp_all
  obtain ⟨x0, y0, z0, rfl⟩ := open_setup (hval 0 37 v0 rfl rfl) h0
  obtain ⟨a1, n1, c1, rfl⟩ := okWide_slice Try.underlying34 (hval 1 34 v1 rfl rfl)
  obtain ⟨f1, h1⟩ := h1
  obtain ⟨a1', n1', c1', l1, e1, o1, g1⟩ := open_dos h1
  cases e1
  have k1 := dos_reach h1 (fun u hu => by
    have := List.all_eq_true.1 hsz u (DataW.weights_mem_each (j := 1) rfl rfl u hu)
    simpa using this)
  unfold reachBytes at k1
  exact law_contract rfl rfl Try.underlying4 (by kernel_rfl) rfl hW (StoreScrubs_walk x0 y0 z0 _ _ _ _ (by omega) _ o1 g1)
theorem over : Rows.storeScrubsRow.holds Try.pinned (OpenSpec.ofChange Rows.storeScrubsSpec) :=
  OpenClaim.holds_of_wide 7 Try.f7 rfl rfl rfl rfl rfl rfl rfl ⟨rfl, rfl, rfl, rfl, rfl⟩ rfl rfl rfl rfl rfl (by kernel_rfl) Try.func7 (by kernel_rfl)
    (of_decide_eq_true (by kernel_rfl)) (by unfold Func.isWrapper; first | (rw [if_pos (by decide +kernel)]; kernel_rfl) | (rw [if_neg (by decide +kernel)]; exact ⟨rfl, rfl⟩))
    (fun os started H enc _ => lifted os started H enc)
theorem proved : Rows.StoreScrubsSaid := over
end storeScrubs
end Go.Proofs.Ythhcdfjijagalaa
