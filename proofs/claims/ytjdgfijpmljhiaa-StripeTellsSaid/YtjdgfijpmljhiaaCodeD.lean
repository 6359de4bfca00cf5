/- Contracts of package slices' functions that chapter 3 calls: Equal of bytes, EqualFunc, Grow and Concat of matrices. -/
import Derived.Test.YtjdgfijpmljhiaaCodeA
import Derived.Test.YtjdgfijpmljhiaaZero
import Derived.Test.YtjdgfijpmljhiaaGridS
namespace Go.Proofs.Ytjdgfijpmljhiaa
open Go.RowKit
set_option linter.unusedVariables false
set_option maxRecDepth 100000
theorem take_next {l m : List UInt8} {k : Nat} (h1 : k < l.length) (h2 : k < m.length) (h : l.take k = m.take k) (e : at8 l k = at8 m k) : l.take (k + 1) = m.take (k + 1) := by
  rw [List.take_succ_eq_append_getElem h1, List.take_succ_eq_append_getElem h2, h]
  congr 2
  apply UInt8.toNat_inj.1
  unfold at8 at e
  simpa [List.getD, h1, h2] using e

theorem own_empty {w : World} {base : Nat} {e : TypeId} {g n cap : Nat} {xs : List Value} (h : w.ownsRow base e 1 (.slice (some ⟨g, 0, none⟩) n cap) n xs) : w.ownsRow base e 1 (.slice (some ⟨g, 0, none⟩) 0 cap) 0 [] := by
  obtain ⟨cur, h1, h2, h3, h4, h5, h6⟩ := own_row h
  exact own_of_row h1 h2 (Nat.zero_le _) h4 h5 rfl
/-- 'append(nil, make([][]byte, m)...)' -/
theorem wpList_grow {ops : Array Oper} {rest : List Oper} {o : Oper} {a : Act} {Q : Exit → Act → World → Prop} {w : World} (hgd : o.guard = none) (s xo : Operand)
    (ho : o.op = .call { callee := .builtin .append, args := #[s, xo], argTypes := #[88, 3] }) (m : Nat) (hs : a.eval s = .slice none 0 0) (hxe : a.eval xo = .int .i64 (m : Int)) (h1 : 0 < m) (h2 : m ≤ 1000)
    (K : ∀ g cap w', m ≤ cap → w'.ownsRow w.heap.size 48 1 (.slice (some ⟨g, 0, none⟩) 0 cap) 0 [] → w.grownBy w' none → wpList Try.prog ops Q rest (a.put o.dst (.slice (some ⟨g, 0, none⟩) m cap)) w') : wpList Try.prog ops Q (o :: rest) a w := by
  obtain ⟨i, hi, hz, e1, e2⟩ := info_parts1 info_bytest
  have hzc : (Builtin.zeroCells (Value.cells (.slice none 0 0)) m).toList = List.replicate m (.slice none 0 0) := by
    simp only [Builtin.zeroCells, Value.cells]
    apply List.ext_getElem
    · simp
    · intro i h1 h2
      simp [Nat.mod_one]
  have hone : ∀ u ∈ (Builtin.zeroCells (Value.cells (.slice none 0 0)) m).toList, u.oneCell' = true := by
    intro u hu
    rw [hzc] at hu
    rw [(List.mem_replicate.1 hu).2]; rfl
  obtain ⟨v', w', hr, h3, h4, h5⟩ := run_append_zeros (P := Try.prog) w w.heap.size 88 3 o.type 48 i (.slice none 0 0) .i64 24 und_Matrix Try.underlying3 hi hz e1 e2 rfl (.slice none 0 0) 0 [] (World.ownsRow_nil _ _ _ _) m (by omega) hone (by unfold maxLen; omega) (by omega) (Nat.le_refl _)
  rw [Nat.zero_add] at h3
  obtain ⟨g, cap, rfl, _, _, h6, _⟩ := own_pos h3 h1
  refine wpList_value hgd ?_ (K g cap w' h6 (own_empty h3) h4)
  unfold execOp
  simp only [ho, resolve, invoke, builtin, Sem.run_bind, Sem.run_pure, Result.andThen_ok, List.map_toArray, List.map_cons, List.map_nil, hs, hxe, hr]
set_option maxHeartbeats 1000000 in
theorem GrowM_call (m : Nat) (w : World) (h1 : 1 ≤ m) (h2 : m ≤ 1000) : Calls Try.prog 84 #[.slice none 0 0, .int .i64 (m : Int)] w (fun e w' => ∃ g cap, e = .returned (.slice (some ⟨g, 0, none⟩) 0 cap) ∧ OT w w' none w.heap.size 48 1 (.slice (some ⟨g, 0, none⟩) 0 cap) 0 []) := by
  go_enter Try.func84, Try.ntmps84
  go_wp2_with (refine wpList_grow rfl (.tmp 20) (.tmp 21) rfl m rfl rfl (by omega) h2 ?_; intro g cap w2 hc o2 g2)
  go_ret
  exact ⟨g, cap, rfl, OT.fresh o2 (Below.grown (Below.refl _ _) g2 (Nat.le_refl _) (by intro k hk; cases hk)) (Nat.le_refl _)⟩

theorem rwCells_append (A B : List Rw) : rwCells (A ++ B) = rwCells A ++ rwCells B := by simp [rwCells]
set_option maxHeartbeats 2000000 in
theorem ConcatM_call (b : Nat) (a1 : Option Addr) (n1 c1 : Nat) (A : List Rw) (a2 : Option Addr) (n2 c2 : Nat) (B : List Rw) (w : World) (hA : Ms w a1 n1 c1 A) (hB : Ms w a2 n2 c2 B) (x0 : w.cell? ⟨b, 0, none⟩ = some (.slice a1 n1 c1)) (x1 : w.cell? ⟨b, 1, none⟩ = some (.slice a2 n2 c2))
    (h1 : 1 ≤ n1 + n2) (h2 : n1 + n2 ≤ 1000) : Calls Try.prog 70 #[.slice (some ⟨b, 0, none⟩) 2 2] w (fun e w' => ∃ a n cap, e = .returned (.slice a n cap) ∧ Ms w' a n cap (A ++ B) ∧ Below w.heap.size w w') := by
  have hb : b < w.heap.size := World.block_lt_of_cell? _ _ x0
  go_enter Try.func70, Try.ntmps70
  go_wp2_with fail
  go_loopg [3, 11] 2 (fun g s3 s11 wr => ∃ k z : Nat, g = 2 - k ∧ k ≤ 2 ∧ s11 = .int .i64 (k : Int) ∧ s3 = .int .i64 (z : Int) ∧ w = wr ∧ Hid ((k = 0 ∧ z = 0) ∨ (k = 1 ∧ z = n1) ∨ (k = 2 ∧ z = n1 + n2)))
  case atStart => exact ⟨0, 0, rfl, by omega, rfl, rfl, rfl, hid (.inl ⟨rfl, rfl⟩)⟩
  case round =>
    obtain ⟨k, z, rfl, hk, rfl, rfl, rfl, HZ⟩ := hrel
    rcases HZ.out with ⟨rfl, rfl⟩ | ⟨rfl, rfl⟩ | ⟨rfl, rfl⟩
    · clear HZ
      have u0 : ¬ (n1 : Int) < 0 := by omega
      go_wp2_with fail
      go_roundg 1
      case measure => omega
      case rel => exact ⟨1, n1, rfl, by omega, by go_num, by go_num, rfl, hid (.inr (.inl ⟨rfl, rfl⟩))⟩
    · clear HZ
      have s1 : IntKind.i64.wrap ((z : Int) + (n2 : Int)) = (z : Int) + (n2 : Int) := IntWalk.i64_in _ (by omega)
      have u0 : ¬ (z : Int) + (n2 : Int) < 0 := by omega
      go_wp2_with fail
      go_roundg 0
      case measure => omega
      case rel => exact ⟨2, z + n2, rfl, by omega, by go_num, by go_num, rfl, hid (.inr (.inr ⟨rfl, rfl⟩))⟩
    · clear HZ
      obtain ⟨m, hm⟩ : ∃ m, m = n1 + n2 := ⟨_, rfl⟩
      rw [← hm]
      have D := hid (GrowM_call m w (by omega) (by omega))
      replace hm := hid hm
      go_wp2_with fail
      go_at_call 84; refine (D.out).mono ?_; rintro e w1 ⟨g, cap, rfl, o1⟩
      go_wp2_with fail
      go_loopg [6, 27] 2 (fun g s6 s27 wr => ∃ (k : Nat) (R : List Rw), g = 2 - k ∧ k ≤ 2 ∧ s27 = .int .i64 (k : Int) ∧ OT w wr none w.heap.size 48 1 s6 R.length (rwCells R) ∧ Hid ((k = 0 ∧ R = []) ∨ (k = 1 ∧ R = A) ∨ (k = 2 ∧ R = A ++ B)))
      case atStart => exact ⟨0, [], rfl, by omega, rfl, o1, hid (.inl ⟨rfl, rfl⟩)⟩
      case round =>
        clear o1
        obtain ⟨k, R, rfl, hk, rfl, hO, HZ⟩ := hrel
        obtain ⟨wo, rfl⟩ : ∃ wo : World, wo = wr := ⟨_, rfl⟩
        have hbo := hO.belowOf (Nat.le_refl _) (fun k e => by cases e)
        have hszo := hbo.size
        have y0 : wo.cell? ⟨b, 0, none⟩ = some (.slice a1 n1 c1) := (hbo.cell (p := ⟨b, 0, none⟩) hb).trans x0
        have y1 : wo.cell? ⟨b, 1, none⟩ = some (.slice a2 n2 c2) := (hbo.cell (p := ⟨b, 1, none⟩) hb).trans x1
        rcases HZ.out with ⟨rfl, rfl⟩ | ⟨rfl, rfl⟩ | ⟨rfl, rfl⟩
        · clear HZ
          have hA1 := hA.below hbo
          have HA := hid hA.cnt
          go_wp2_with (refine wpList_append_t rfl (.tmp 31) (.tmp 32) 88 88 rfl w.heap.size 48 1 24 (.slice none 0 0) und_Matrix info_bytest rfl (by decide) _ 0 [] rfl hO (.slice a1 n1 c1) n1 (rwCells A) rfl (Sl.src hA1.sl und_Matrix (rwCells_one A)) (by unfold maxLen; omega) (by omega) hszo ?_; intro v2 w2 ho2 hg2; rw [Nat.zero_add, List.nil_append, ← HA.out] at ho2)
          go_roundg 1
          case measure => omega
          case rel => exact ⟨1, A, rfl, by omega, by go_num, ho2, hid (.inr (.inl ⟨rfl, rfl⟩))⟩
        · clear HZ
          have hB1 := hB.below hbo
          have HB := hid hB.cnt
          have hR := hA.cnt
          go_wp2_with (refine wpList_append_t rfl (.tmp 31) (.tmp 32) 88 88 rfl w.heap.size 48 1 24 (.slice none 0 0) und_Matrix info_bytest rfl (by decide) _ R.length (rwCells R) rfl hO (.slice a2 n2 c2) n2 (rwCells B) rfl (Sl.src hB1.sl und_Matrix (rwCells_one B)) (by unfold maxLen; omega) (by omega) hszo ?_; intro v2 w2 ho2 hg2; rw [← HB.out, ← List.length_append, ← rwCells_append] at ho2)
          go_roundg 0
          case measure => omega
          case rel => exact ⟨2, R ++ B, rfl, by omega, by go_num, ho2, hid (.inr (.inr ⟨rfl, rfl⟩))⟩
        · clear HZ
          obtain ⟨a3, c3, rfl, hs3⟩ := own_sl hO.own
          go_wp2_with fail
          go_ret
          refine ⟨_, _, _, rfl, ⟨hs3, fun r hr => ?_⟩, hbo⟩
          rcases List.mem_append.1 hr with h | h
          · exact (hA.row r h).below hbo
          · exact (hB.row r h).below hbo

end Go.Proofs.Ytjdgfijpmljhiaa
