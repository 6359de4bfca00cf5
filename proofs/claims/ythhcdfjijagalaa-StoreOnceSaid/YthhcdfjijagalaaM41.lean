/- Joined, and what is not used struck: SpI. -/
import Derived.Test.YthhcdfjijagalaaM39
namespace Go.Proofs.Ythhcdfjijagalaa
open Go.RowKit Go.Maps
set_option linter.unusedVariables false
set_option linter.unusedSimpArgs false
set_option maxRecDepth 100000
theorem put_ten {s : Sto.St} {d : Sto.Do} (h : (Sto.put s d).2.err = 0) : d.b.evs.length ≤ 10 := by
  have hw : (Evt.wrongBa d.b).1 = 0 := by
    refine Classical.byContradiction fun hw => ?_
    unfold Sto.put at h
    rw [if_pos hw] at h
    exact hw h
  exact (Evt.wrongBa_zero hw).2.2.2.1
theorem run_ten (s : Sto.St) (l : List Sto.Do) : ∀ (i : Nat) (d : Sto.Do) (x : Sto.An), l[i]? = some d → (Sto.run s l).2[i]? = some x → d.kind = 1 → x.err = 0 → d.b.evs.length ≤ 10 := by
  intro i d x h1 h2 h3 h4
  obtain ⟨hi, rfl⟩ := List.getElem?_eq_some_iff.1 h1
  rw [Sto.run_at s l i hi] at h2
  injection h2 with h2
  subst h2
  rw [Sto.step_put h3] at h4
  exact put_ten h4
end Go.Proofs.Ythhcdfjijagalaa
