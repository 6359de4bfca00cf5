/- EventJoined holds where what it reads is of bulk at most 1048576: it returns true, and leaves its arguments as they were. -/
import Derived.Test.YtkngfobnfocpjaaChecked
import Derived.Test.YtkngfobnfocpjaaOpenE
import Derived.Test.YtkngfobnfocpjaaEventJ
import Derived.JoinedCond
namespace Go.Proofs.Ytkngfobnfocpjaa
open Go.ChangeShapes Go.WideShapes Go.ChangeAt Go.RowKit Go.Joins Go.Deep
set_option linter.unusedVariables false
theorem bulk_one {H : Type} (d : DataW H) : 1 ≤ Rows.uptoBulk d := by
  cases d with
  | lit l => cases l <;> simp [Rows.uptoBulk]
  | _ => simp [Rows.uptoBulk]
theorem bulk_len {H : Type} (l : List (DataW H)) : l.length ≤ Rows.uptoBulkAll l := by
  induction l with
  | nil => simp [Rows.uptoBulkAll]
  | cons x r ih => have := bulk_one x; simp only [Rows.uptoBulkAll, List.length_cons]; omega
/-- a slice's length is at most its bulk -/
theorem bulk_slice {H : Type} {enc : TypeId × Value → H} {w : World} {base fuel : Nat} {spare : Nat → Bool} {held : Bool} {t e : TypeId} {a : Option Addr} {n cap : Nat} {x : DataW H × List MemPlace} (ht : Try.prog.underlying t = some (.slice e))
    (h : DataW.trod enc Try.prog w base spare held fuel t [.slice a n cap] = some x) : n ≤ Rows.uptoBulk x.1 := by
  rcases open_slice ht h with ⟨h0, _⟩ | ⟨a', n', cap', m, k, D, Pl, hcs, _, hl, hm, hmm, hx, hi⟩
  · have : n = 0 := by simp at h0; omega
    omega
  · have : n = n' := by simp at hcs; omega
    subst this
    rw [hx]
    have h1 := bulk_len ((List.range n).map D)
    simp only [List.length_map, List.length_range] at h1
    simp only [Rows.uptoBulk]; omega

namespace eventJoinedUpto
set_option maxRecDepth 100000 in
theorem lifted (os : Os) (started : os.Started) (H : Type) (enc : TypeId × Value → H) (F : Stop.Interp) :
    ReturnsInHanded {} Try.checked os 14 .any ((Rows.OpenSpec.upto Rows.eventJoinedSpec).pre6 enc Try.prog Try.f14 Rows.eventJoinedUptoRow.domain false) (((Rows.OpenSpec.upto Rows.eventJoinedSpec).at F).post enc Try.prog Try.f14 false true false false) := by
  refine returnsInHanded_of_cond (C := Try.checked) (s := Rows.OpenSpec.upto Rows.eventJoinedSpec) (k := Rows.uptoSmall) rfl knobs started (by kernel_rfl) Try.func14
    (OpenSpec.witness (enc := enc) (C := Try.checked) (s := Rows.OpenSpec.upto Rows.eventJoinedSpec) (k := Rows.uptoSmall) rfl false ⟨#[], #[.slice none 0 0, .slice none 0 0], []⟩ 8 (by kernel_rfl) (by kernel_rfl) (by kernel_rfl) (x := ([.nil, .nil], [], [])) (by kernel_rfl) rfl (by kernel_rfl)) ?_
  intro W base args ds gs before hval hW _ hk _
  have hW' := hW
  obtain ⟨p, q, hA, hV, rfl, _, _⟩ := hW'
  obtain ⟨rfl, rfl⟩ := trodVars_none hV
  replace hA : DataW.TrodAll enc Try.prog W 0 (fun _ => true) true Try.f14.params.toList args.toList ds p := hA
  replace hval : ∀ (j : Nat) t v, Try.f14.params[j]? = some t → args[j]? = some v → Value.okWide Try.prog W .any base t v := hval
  rw [Try.params14] at hA hval
  obtain ⟨v0, vs0, d0, ds0, p0, q0, hargs, rfl, rfl, h0, r0⟩ := trodAll_cons hA
  obtain ⟨v1, vs1, d1, ds1, p1, q1, rfl, rfl, rfl, h1, r1⟩ := trodAll_cons r0
  obtain ⟨rfl, rfl, rfl⟩ := trodAll_nil r1
  obtain rfl : args = #[v0, v1] := by cases args; simp_all
  obtain ⟨a0, n0, c0, rfl⟩ := okWide_slice Try.underlying45 (hval 0 45 v0 rfl rfl)
  obtain ⟨f0, h0⟩ := h0
  obtain ⟨a0', n0', c0', l0, e0, o0⟩ := open_batches h0
  cases e0
  obtain ⟨a1, n1, c1, rfl⟩ := okWide_slice Try.underlying45 (hval 1 45 v1 rfl rfl)
  obtain ⟨f1, h1⟩ := h1
  obtain ⟨a1', n1', c1', l1, e1, o1⟩ := open_batches h1
  cases e1
  have g0 := bulk_slice Try.underlying45 h0
  have g1 := bulk_slice Try.underlying45 h1
  have hk := of_decide_eq_true hk
  simp only [List.cons_append, List.nil_append, Rows.uptoBulkAll] at hk g0 g1
  exact law_contract rfl rfl Try.underlying4 (by kernel_rfl) rfl hW (EventJoined_walk a0 n0 c0 l0 a1 n1 c1 l1 W o0 o1 (by omega) (by omega))
theorem over : Rows.eventJoinedUptoRow.holds Try.pinned (Rows.OpenSpec.upto Rows.eventJoinedSpec) :=
  OpenClaim.holds_of_cond 14 Try.f14 rfl rfl rfl rfl rfl rfl rfl ⟨rfl, rfl, rfl, rfl, rfl⟩ rfl rfl rfl rfl rfl (by kernel_rfl) Try.func14 (by kernel_rfl)
    (of_decide_eq_true (by kernel_rfl)) (by unfold Func.isWrapper; first | (rw [if_pos (by decide +kernel)]; kernel_rfl) | (rw [if_neg (by decide +kernel)]; exact ⟨rfl, rfl⟩))
    (fun os started H enc _ F => lifted os started H enc F)
theorem proved : Rows.EventJoinedUptoSaid := over
end eventJoinedUpto

end Go.Proofs.Ytkngfobnfocpjaa
