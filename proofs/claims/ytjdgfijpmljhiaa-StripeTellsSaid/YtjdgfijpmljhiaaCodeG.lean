/- Contract of chapter 3: Good, the program's. -/
import Derived.Test.YtjdgfijpmljhiaaCodeC
import Derived.Test.YtjdgfijpmljhiaaCodeD
namespace Go.Proofs.Ytjdgfijpmljhiaa
open Go.RowKit
set_option linter.unusedVariables false
namespace Mat
def GoodR (l : List (List UInt8)) (d : Int) (b : Bool) : Prop :=
  if wrongC d ((l.length : Int) - d) ≠ 0 ∨ wrongM l ≠ 0 then b = false else ∃ K, SpareR (l.take d.toNat) ((l.length : Int) - d) K 0 ∧ b = decide (K = l.drop d.toNat)
theorem GoodR.uniq {l : List (List UInt8)} {d : Int} {b c : Bool} (h : GoodR l d b) (k : GoodR l d c) : b = c := by
  unfold GoodR at h k
  split at h
  · rw [if_pos (by assumption)] at k; exact h.trans k.symm
  · rw [if_neg (by assumption)] at k
    obtain ⟨K, h1, rfl⟩ := h
    obtain ⟨K', k1, rfl⟩ := k
    rw [(h1.uniq k1).1]
theorem good_no {l : List (List UInt8)} {d : Int} (h : wrongC d ((l.length : Int) - d) ≠ 0 ∨ wrongM l ≠ 0) : GoodR l d false := by unfold GoodR; rw [if_pos h]
theorem good_of {l K : List (List UInt8)} {d s : Nat} (hl : l.length = d + s) (h1 : 1 ≤ d) (h2 : d ≤ 8) (h3 : s ≤ 4) (hw : wrongM l = 0) (hK : SpareR (l.take d) (s : Int) K 0) : GoodR l (d : Int) (decide (K = l.drop d)) := by
  have e : ((l.length : Int) - (d : Int)) = (s : Int) := by omega
  unfold GoodR
  rw [e, if_neg (fun h => by
    rcases h with h | h
    · exact h (wrongC_of (by omega))
    · exact h hw), Int.toNat_natCast]
  exact ⟨K, hK, rfl⟩
theorem Fine.take {l : List (List UInt8)} {n m d : Nat} (h : Fine l n m) (h1 : 1 ≤ d) (h2 : d ≤ n) : Fine (l.take d) d m :=
  ⟨by rw [List.length_take, h.rows]; omega, fun r hr => h.cols r (List.mem_of_mem_take hr), h1, by have := h.n2; omega, h.m1, h.m2⟩
end Mat
theorem wrongC_wrap' {d : Int} {n : Nat} (hn : n ≤ 9223372036854775807) (hd : -9223372036854775808 ≤ d ∧ d ≤ 9223372036854775807) : Mat.wrongC d (IntKind.i64.wrap ((n : Int) - d)) = Mat.wrongC d ((n : Int) - d) := by
  by_cases h : d < 1
  · rw [wrongC_5 (.inl h), wrongC_5 (.inl h)]
  · rw [IntWalk.i64_in _ (by omega)]
/-- It returns whether they are good; what was there is as it was. -/
def GRes (P : Bool → Prop) (w : World) (e : Ending) (w' : World) : Prop := ∃ b, e = .returned (.bool b) ∧ P b ∧ Below w.heap.size w w'
theorem good_rw {A R2 : List Rw} {n D s : Nat} (hn : n = D + s) (h1 : 1 ≤ D) (h2 : D ≤ 8) (h3 : s ≤ 4) (hw : Mat.wrongM (rwData A) = 0) (hl : (rwData A).length = n) (hp : Mat.SpareR (rwData (A.take D)) (s : Int) (rwData R2) 0) : Mat.GoodR (rwData A) (D : Int) (decide (rwData R2 = rwData (A.drop D))) := by
  have e1 : rwData (A.take D) = (rwData A).take D := by simp [rwData, List.map_take]
  have e2 : rwData (A.drop D) = (rwData A).drop D := by simp [rwData, List.map_drop]
  rw [e2]
  exact Mat.good_of (by omega) h1 h2 h3 hw (by rw [← e1]; exact hp)

end Go.Proofs.Ytjdgfijpmljhiaa
