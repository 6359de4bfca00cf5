/- Contracts: the program's Mul, all cases; the reference's MulMatrix. -/
import Derived.Test.YtjdgfijpmljhiaaGridE
namespace Go.Proofs.Ytjdgfijpmljhiaa
open Go.RowKit
set_option linter.unusedVariables false
def NilB (err : Int) (w : World) (e : Ending) (w' : World) : Prop := e = .returned (.tuple #[.slice none 0 0, .int .i64 err]) ∧ Below w.heap.size w w'
theorem NilB.res {P : List (List UInt8) → Int → Prop} {w : World} {e : Ending} {w' : World} {err : Int} (h : NilB err w e w') (hP : P [] err) : MRes P w e w' := by
  obtain ⟨rfl, hb⟩ := h
  exact ⟨_, _, _, [], err, rfl, Ms.nil _, hP, hb⟩
/-- the cases of a product -/
theorem mul_cases {A B : List (List UInt8)} {P : Prop} (h1 : Mat.wrongM A ≠ 0 → P) (h2 : Mat.wrongM A = 0 → Mat.wrongM B ≠ 0 → P) (h3 : Mat.wrongM A = 0 → Mat.wrongM B = 0 → Mat.wid A 0 ≠ B.length → P)
    (h4 : ∀ n m q, A.length = n → B.length = m → Mat.Fine A n m → Mat.Fine B m q → P) : P := by
  by_cases e1 : Mat.wrongM A = 0
  · by_cases e2 : Mat.wrongM B = 0
    · by_cases e3 : Mat.wid A 0 = B.length
      · exact h4 _ _ _ rfl rfl (e3 ▸ Mat.wrong_fine e1) (Mat.wrong_fine e2)
      · exact h3 e1 e2 e3
    · exact h2 e1 e2
  · exact h1 e1
theorem mulR_1 {A B : List (List UInt8)} (h : Mat.wrongM A ≠ 0) : Mat.MulR A B [] (Mat.wrongM A) := by unfold Mat.MulR; rw [if_pos h]; exact ⟨rfl, rfl⟩
theorem mulR_2 {A B : List (List UInt8)} (h : Mat.wrongM A = 0) (h2 : Mat.wrongM B ≠ 0) : Mat.MulR A B [] (Mat.wrongM B) := by unfold Mat.MulR; rw [if_neg (fun e => e h), if_pos h2]; exact ⟨rfl, rfl⟩
theorem mulR_3 {A B : List (List UInt8)} (h : Mat.wrongM A = 0) (h2 : Mat.wrongM B = 0) (h3 : Mat.wid A 0 ≠ B.length) : Mat.MulR A B [] 8 := by unfold Mat.MulR; rw [if_neg (fun e => e h), if_neg (fun e => e h2), if_pos h3]; exact ⟨rfl, rfl⟩
theorem mulR_4 {A B : List (List UInt8)} {n m q : Nat} (hA : Mat.Fine A n m) (hB : Mat.Fine B m q) {L : List (List UInt8)} (h : Mat.Rep L n q (Mat.mul m (Mat.ent A) (Mat.ent B))) : Mat.MulR A B L 0 := by
  unfold Mat.MulR
  rw [if_neg (fun e => e hA.wrong), if_neg (fun e => e hB.wrong), if_neg (by rw [hA.wid0, hB.rows]; exact fun e => e rfl), hA.rows, hB.rows, hB.wid0]
  exact ⟨h, rfl⟩

theorem gMul_call (a b : Option Addr) (n ac m bc : Nat) (A B : List Rw) (w : World) (hA : Ms w a n ac A) (hB : Ms w b m bc B) : Calls Try.prog 60 #[.slice a n ac, .slice b m bc] w (MRes (Mat.MulR (rwData A) (rwData B)) w) := by
  refine mul_cases (A := rwData A) (B := rwData B) (fun h => ?_) (fun h h2 => ?_) (fun h h2 h3 => ?_) (fun n' m' q e1 e2 hFA hFB => ?_)
  · exact (gMul_wrong a b n ac m bc A B w hA hB _ h 0 (.inl ⟨rfl, rfl⟩)).mono fun e w' hh => NilB.res hh (mulR_1 h)
  · exact (gMul_wrong a b n ac m bc A B w hA hB _ h2 1 (.inr ⟨rfl, h, rfl⟩)).mono fun e w' hh => NilB.res hh (mulR_2 h h2)
  · exact (gMul_fit a b n ac m bc A B w hA hB h h2 (by rw [hB.dn] at h3; exact h3)).mono fun e w' hh => NilB.res hh (mulR_3 h h2 h3)
  · obtain rfl : n' = n := e1.symm.trans hA.dn
    obtain rfl : m' = m := e2.symm.trans hB.dn
    exact (gMul_ok a b n' ac m' bc q A B w hA hB hFA hFB).mono fun e w' hh => hh.res fun L hL => mulR_4 hFA hFB hL

end Go.Proofs.Ytjdgfijpmljhiaa
