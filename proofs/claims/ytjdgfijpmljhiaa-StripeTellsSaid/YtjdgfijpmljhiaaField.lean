/- Contracts of the functions of package field and of the reference's Mul, Inv and Pow: each returns what the plain laws say, and leaves what was there as it was. -/
import Derived.Test.YtjdgfijpmljhiaaProg
import Derived.Test.YtjdgfijpmljhiaaKit
import Derived.Test.YtjdgfijpmljhiaaPlB
namespace Go.Proofs.Ytjdgfijpmljhiaa
open Go.RowKit
set_option linter.unusedVariables false

theorem lg_lt (a : Nat) (h : a < 256) : Fld.lg a < 255 := by
  have h' : ∀ a, a < 256 → Fld.lg a < 255 := by decide +kernel
  exact h' a h
/-- The tables, k powers laid. -/
def tabF (k i : Nat) : Value := if i < 510 then .int .u8 ((if i % 255 < k then Fld.pw (i % 255) else 0 : Nat) : Int) else .int .i64 ((if Fld.lg (i - 510) < k then Fld.lg (i - 510) else 0 : Nat) : Int)


/-- The tables lie in block b. -/
def Tab (w : World) (b : Nat) : Prop := w.rowIs b 114 766 (tabF 255)
theorem Tab.pow {w : World} {b : Nat} (h : Tab w b) (i : Nat) (hi : i < 510) : w.cell? ⟨b, i, none⟩ = some (.int .u8 (Fld.pw i)) := by
  rw [World.rowIs.cell h (by omega)]
  unfold tabF
  rw [if_pos hi, if_pos (by omega), Fld.pw_mod]
theorem Tab.log {w : World} {b : Nat} (h : Tab w b) (a : Nat) (ha : a < 256) : w.cell? ⟨b, 510 + a, none⟩ = some (.int .i64 (Fld.lg a)) := by
  rw [World.rowIs.cell h (by omega)]
  unfold tabF
  rw [if_neg (by omega), show 510 + a - 510 = a by omega, if_pos (lg_lt a ha)]
theorem Tab.keep {w w' : World} {b B : Nat} (h : Tab w b) (hb : Below B w w') (hB : b < B) : Tab w' b := World.rowIs.of_block h (hb.block b hB)
theorem Tab.drewN {w : World} {b : Nat} (h : Tab w b) (n : Nat) : Tab (w.drewN n) b := h

def C0 : Array Value := (Array.replicate 510 (.int .u8 0)) ++ (Array.replicate 256 (.int .i64 0))
theorem build_run {ρ : Operand → Value} {o : Oper} (w : World) (ho : o.op = .build 114 #[]) : (execOp ρ o).run Try.prog w = .ok (.value (.agg C0)) w := by
  unfold execOp; rw [ho]; kernel_rfl
/-- Rounds of Make. -/
structure Making (w : World) (k : Nat) (x i : Value) (wr : World) : Prop where
  le : k ≤ 255
  i : i = .int .i64 k
  x : x = .int .i64 (Fld.pw k)
  below : Below w.heap.size w wr
  size : wr.heap.size = w.heap.size + 1
  row : wr.rowIs w.heap.size 114 766 (tabF k)
theorem making_start (w : World) : Making w 0 (.int .i64 1) (.int .i64 0) (w.alloc (.cells C0 114)) := by
  refine ⟨by omega, rfl, rfl, (Below.refl _ _).alloc (Nat.le_refl _) _, by simp, ?_⟩
  have hs : C0.size = 766 := by simp [C0]
  have := World.rowIs_alloc w C0 114 (tabF 0) ?_
  · rwa [hs] at this
  · intro i hi
    rw [hs] at hi
    unfold C0 tabF
    simp only [Nat.not_lt_zero, if_false]
    by_cases h : i < 510
    · rw [if_pos h, Array.getElem?_append_left (by simpa using h)]
      simp [h]
    · rw [if_neg h, Array.getElem?_append_right (by simpa using Nat.le_of_not_lt h)]
      simp only [Array.size_replicate]
      rw [Array.getElem?_replicate, if_pos (by omega)]; rfl
theorem making_step {w wr : World} {k : Nat} {x i : Value} (h : Making w k x i wr) (hk : k < 255) (y : Int) (hy : y = Fld.xt (Fld.pw k)) :
    Making w (k + 1) (.int .i64 y) (.int .i64 ((k : Int) + 1)) ((((wr.setCell ⟨w.heap.size, k, none⟩ (.int .u8 (Fld.pw k))).setCell ⟨w.heap.size, k + 255, none⟩ (.int .u8 (Fld.pw k))).setCell ⟨w.heap.size, 510 + Fld.pw k, none⟩ (.int .i64 k)).drew) := by
  have hp := Fld.pw_lt k
  refine ⟨by omega, by simp, by rw [hy]; rfl, (((h.below.setCell (Nat.le_refl _) _).setCell (Nat.le_refl _) _).setCell (Nat.le_refl _) _).drew, by simp [h.size], ?_⟩
  refine World.rowIs.drew ((((h.row.set k _).set (k + 255) _).set (510 + Fld.pw k) _).congr ?_)
  intro j hj
  unfold tabF
  by_cases h1 : j = 510 + Fld.pw k
  · subst h1
    rw [if_pos rfl, if_neg (by omega), show 510 + Fld.pw k - 510 = Fld.pw k by omega, Fld.lg_pw k hk, if_pos (by omega)]
  rw [if_neg h1]
  by_cases h2 : j = k + 255
  · subst h2
    rw [if_pos rfl, if_pos (by omega), if_pos (by omega), show (k + 255) % 255 = k by omega]
  rw [if_neg h2]
  by_cases h3 : j = k
  · subst h3
    rw [if_pos rfl, if_pos (by omega), if_pos (by omega), show j % 255 = j by omega]
  rw [if_neg h3]
  by_cases h4 : j < 510
  · rw [if_pos h4, if_pos h4]
    by_cases h5 : j % 255 < k
    · rw [if_pos h5, if_pos (by omega)]
    · rw [if_neg h5, if_neg (by omega)]
  · rw [if_neg h4, if_neg h4]
    have hl : ∀ a, a < 256 → Fld.lg a = k → a = Fld.pw k ∨ k = 0 := by
      intro a ha e
      by_cases h0 : a = 0
      · right
        subst h0
        have : Fld.lg 0 = 0 := by decide +kernel
        omega
      · exact .inl (by rw [← e]; exact (Fld.pw_lg a ha h0).1.symm)
    by_cases h5 : Fld.lg (j - 510) < k
    · rw [if_pos h5, if_pos (by omega)]
    · rw [if_neg h5]
      split
      · rename_i h6
        rcases hl (j - 510) (by omega) (by omega) with e | e
        · omega
        · subst e; simp; omega
      · rfl


set_option maxRecDepth 100000 in
set_option maxHeartbeats 1000000 in
theorem Make_call (w : World) :
    Calls Try.prog 75 #[] w fun e w' => Grew (.pointer (some ⟨w.heap.size, 0, none⟩)) w e w' ∧ Tab w' w.heap.size ∧ w'.heap.size = w.heap.size + 1 := by
  go_enter Try.func75, Try.ntmps75
  go_wp2_with (refine wpList_value rfl (build_run _ rfl) ?_)
  go_loopg [2, 6] 255 (fun g x i wr => ∃ k : Nat, g = 255 - k ∧ Making w k x i wr)
  case atStart => exact ⟨0, rfl, making_start w⟩
  case round =>
    obtain ⟨k, rfl, hm⟩ := hrel
    obtain rfl := hm.i
    obtain rfl := hm.x
    have hk := hm.le
    by_cases hlt : k < 255
    · have l1 := Fld.pw_lt k
      have f0 : ∀ j, wr.frozen? ⟨w.heap.size, j, none⟩ = false := hm.row.frozen
      have c1 := hm.row.cell (i := k) (by omega)
      have c2 := hm.row.cell (i := k + 255) (by omega)
      have c3 := hm.row.cell (i := 510 + Fld.pw k) (by omega)
      go_wp2
      go_region
      go_wp2
      all_goals go_roundg (255 - (k + 1))
      all_goals first | omega | skip
      · refine ⟨k + 1, rfl, making_step hm hlt _ ?_⟩
        have := i64_xor_nat (2 * Fld.pw k) 285 (by omega) (by omega)
        unfold Fld.xt
        rw [if_pos (by omega), ← this]
        congr 1; omega
      · refine ⟨k + 1, rfl, making_step hm hlt _ ?_⟩
        unfold Fld.xt
        rw [if_neg (by omega)]
        omega
    · obtain rfl : k = 255 := by omega
      go_wp2
      go_ret
      exact ⟨⟨rfl, hm.below⟩, hm.row, hm.size⟩

set_option maxHeartbeats 400000 in
theorem TMul_call (b x y : Nat) (hx : x < 256) (hy : y < 256) (w : World) (h : Tab w b) :
    Calls Try.prog 76 #[.pointer (some ⟨b, 0, none⟩), .int .u8 x, .int .u8 y] w (Drew (.int .u8 (Fld.mul x y)) w) := by
  have h1 := h.log x hx
  have h2 := h.log y hy
  have l1 := lg_lt x hx
  have l2 := lg_lt y hy
  have h3 := h.pow (Fld.lg x + Fld.lg y) (by omega)
  by_cases c1 : x = 0
  · subst c1
    go_enter Try.func76, Try.ntmps76
    go_wp2
    go_ret
    exact ⟨by rw [Fld.zero_mul]; rfl, 0, rfl⟩
  have d1 : ((x : Int) == 0) = false := by simpa using c1
  by_cases c2 : y = 0
  · subst c2
    go_enter Try.func76, Try.ntmps76
    go_wp2
    go_ret
    exact ⟨by rw [Fld.mul_zero]; rfl, 0, rfl⟩
  have d2 : ((y : Int) == 0) = false := by simpa using c2
  have HM := hid (show Fld.mul x y = Fld.pw (Fld.lg x + Fld.lg y) by unfold Fld.mul; rw [if_neg (by omega)])
  go_enter Try.func76, Try.ntmps76
  go_wp2
  go_quiet (fail)
  go_wp2
  go_ret
  exact ⟨by rw [HM.out]; rfl, nq, rfl⟩


set_option maxHeartbeats 400000 in
theorem TInv_call (b x : Nat) (hx : x < 256) (w : World) (h : Tab w b) :
    Calls Try.prog 81 #[.pointer (some ⟨b, 0, none⟩), .int .u8 x] w (Drew (.int .u8 (Fld.inv x)) w) := by
  have h1 := h.log x hx
  have l1 := lg_lt x hx
  have h3 := h.pow (255 - Fld.lg x) (by omega)
  by_cases c1 : x = 0
  · subst c1
    go_enter Try.func81, Try.ntmps81
    go_wp2
    go_ret
    exact ⟨rfl, 0, rfl⟩
  have d1 : ((x : Int) == 0) = false := by simpa using c1
  have HM := hid (show Fld.inv x = Fld.pw (255 - Fld.lg x) by unfold Fld.inv; rw [if_neg (by omega)])
  go_enter Try.func81, Try.ntmps81
  go_wp2
  go_quiet (fail)
  go_wp2
  go_ret
  exact ⟨by rw [HM.out]; rfl, nq, rfl⟩


set_option maxHeartbeats 400000 in
theorem fInv_call (x : Nat) (hx : x < 256) (w : World) :
    Calls Try.prog 74 #[.int .u8 x] w (Grew (.int .u8 (Fld.inv x)) w) := by
  go_enter Try.func74, Try.ntmps74
  go_wp2_with (first
    | (go_at_call 75; refine (Make_call _).mono ?_; rintro e w1 ⟨⟨rfl, hb⟩, ht, hs⟩)
    | (go_at_call 81; refine (TInv_call _ _ hx _ ht).mono ?_; rintro e w2 ⟨rfl, n, rfl⟩))
  go_ret
  exact ⟨rfl, below_drewN hb n⟩


def clmTo (x b k : Nat) : Nat := (List.range k).foldl (fun n k => if b >>> k &&& 1 = 1 then n ^^^ x <<< k else n) 0
theorem clmTo_succ (x b k : Nat) : clmTo x b (k + 1) = if b >>> k &&& 1 = 1 then clmTo x b k ^^^ x <<< k else clmTo x b k := by
  unfold clmTo; rw [List.range_succ, List.foldl_append]; rfl
theorem clmTo_lt (x b : Nat) (hx : x < 256) : ∀ k, k ≤ 8 → clmTo x b k < 2 ^ 15
  | 0, _ => by show 0 < 2 ^ 15; decide
  | k + 1, h => by
    have ih := clmTo_lt x b hx k (by omega)
    rw [clmTo_succ]; split
    · refine Nat.xor_lt_two_pow ih ?_
      rw [Nat.shiftLeft_eq]
      have : 2 ^ k ≤ 2 ^ 7 := Nat.pow_le_pow_right (by decide) (by omega)
      have := Nat.mul_le_mul (show x ≤ 255 by omega) this
      omega
    · exact ih
/-- k bits reduced, from the highest one on -/
def redTo (n : Nat) : Nat → Nat
  | 0 => n
  | k + 1 => Fld.stp (redTo n k) (14 - k)
theorem redTo_lt (n : Nat) (h : n < 2 ^ 15) : ∀ k, k ≤ 7 → redTo n k < 2 ^ 15
  | 0, _ => h
  | k + 1, hk => by
    have ih := redTo_lt n h k (by omega)
    show Fld.stp (redTo n k) (14 - k) < _
    unfold Fld.stp; split
    · refine Nat.xor_lt_two_pow ih ?_
      rw [Nat.shiftLeft_eq]
      have : 2 ^ (14 - k - 8) ≤ 2 ^ 6 := Nat.pow_le_pow_right (by decide) (by omega)
      have := Nat.mul_le_mul (show 285 ≤ 285 by omega) this
      omega
    · exact ih
theorem rmul_to (x y : Nat) : redTo (clmTo x y 8) 7 % 256 = Fld.rmul x y := rfl
theorem and1_or (n : Nat) : n &&& 1 = 0 ∨ n &&& 1 = 1 := by rw [Nat.and_one_is_mod]; omega
theorem u8_bit (y k : Nat) (hy : y < 256) : bits .and .u8 ((y : Int) / 2 ^ k) 1 = ((y >>> k &&& 1 : Nat) : Int) := by
  have e : (y : Int) / 2 ^ k = ((y >>> k : Nat) : Int) := by rw [Nat.shiftRight_eq_div_pow]; simp
  have h : y >>> k < 256 := by rw [Nat.shiftRight_eq_div_pow]; exact Nat.lt_of_le_of_lt (Nat.div_le_self _ _) hy
  rw [e]; exact u8_and_nat _ 1 h (by decide)
theorem i64_bit (y k : Nat) (hy : y < 2 ^ 62) : bits .and .i64 ((y : Int) / 2 ^ k) 1 = ((y >>> k &&& 1 : Nat) : Int) := by
  have e : (y : Int) / 2 ^ k = ((y >>> k : Nat) : Int) := by rw [Nat.shiftRight_eq_div_pow]; simp
  have h : y >>> k < 2 ^ 62 := by rw [Nat.shiftRight_eq_div_pow]; exact Nat.lt_of_le_of_lt (Nat.div_le_self _ _) hy
  rw [e]; exact i64_and_nat _ 1 h (by decide)
theorem i64_shl (x k b : Nat) (hx : x < 2 ^ b) (hk : b + k ≤ 62) : wrap64 ((x : Int) * 2 ^ k) = ((x <<< k : Nat) : Int) ∧ x <<< k < 2 ^ 62 := by
  have h : x <<< k < 2 ^ 62 := by
    rw [Nat.shiftLeft_eq]
    have h1 : x * 2 ^ k < 2 ^ b * 2 ^ k := Nat.mul_lt_mul_of_pos_right hx (Nat.two_pow_pos k)
    rw [← Nat.pow_add] at h1
    exact Nat.lt_of_lt_of_le h1 (Nat.pow_le_pow_right (by decide) hk)
  refine ⟨?_, h⟩
  rw [Nat.shiftLeft_eq] at h ⊢
  rw [show (x : Int) * 2 ^ k = ((x * 2 ^ k : Nat) : Int) by simp]
  exact IntWalk.wrap64_in _ (by omega)

set_option maxHeartbeats 400000 in
theorem rMul_call (x y : Nat) (hx : x < 256) (hy : y < 256) (w : World) :
    Calls Try.prog 66 #[.int .u8 x, .int .u8 y] w (Same (.int .u8 (Fld.mul x y)) w) := by
  have HM := hid (Fld.rmul_eq x y hx hy)
  go_enter Try.func66, Try.ntmps66
  go_wp2
  go_loopg [6, 7] 8 (fun g n i wr => w = wr ∧ ∃ k : Nat, g = 8 - k ∧ k ≤ 8 ∧ i = .int .i64 k ∧ n = .int .i64 (clmTo x y k))
  case atStart => exact ⟨rfl, 0, rfl, by omega, rfl, rfl⟩
  case round =>
    obtain ⟨rfl, k, rfl, hk, rfl, rfl⟩ := hrel
    by_cases hlt : k < 8
    · have hb := u8_bit y k hy
      have HX := hid (i64_shl x k 8 hx (by omega))
      have HL := hid (clmTo_lt x y hx k hk)
      rcases and1_or (y >>> k) with h1 | h1
      all_goals
        rw [h1] at hb
        have H1 := hid h1
        clear h1
        go_wp2
        go_roundg (8 - (k + 1))
        case measure => omega
      case rel =>
        refine ⟨rfl, k + 1, rfl, by omega, by go_num, ?_⟩
        rw [clmTo_succ, H1.out]; rfl
      case rel =>
        refine ⟨rfl, k + 1, rfl, by omega, by go_num, ?_⟩
        have := HL.out
        rw [clmTo_succ, H1.out, HX.out.1, if_pos rfl, i64_xor_nat _ _ (by omega) HX.out.2]
    · obtain rfl : k = 8 := by omega
      have HL := hid (clmTo_lt x y hx 8 (by omega))
      clear hlt
      go_wp2
      go_loopg [6, 8] 7 (fun g n i wr => w = wr ∧ ∃ k : Nat, g = 7 - k ∧ k ≤ 7 ∧ i = .int .i64 (14 - k) ∧ n = .int .i64 (redTo (clmTo x y 8) k))
      case atStart => exact ⟨rfl, 0, rfl, by omega, rfl, rfl⟩
      case round =>
        obtain ⟨rfl, k, rfl, hk, rfl, rfl⟩ := hrel
        have HR := hid (redTo_lt (clmTo x y 8) HL.out k hk)
        by_cases hlt : k < 7
        · have hb := i64_bit (redTo (clmTo x y 8) k) (14 - k) (by have := HR.out; omega)
          have HX := hid (i64_shl 285 (14 - k - 8) 9 (by decide) (by omega))
          rcases and1_or (redTo (clmTo x y 8) k >>> (14 - k)) with h1 | h1
          all_goals
            rw [h1] at hb
            have H1 := hid h1
            clear h1
            go_wp2
            go_roundg (7 - (k + 1))
            case measure => omega
          case rel =>
            refine ⟨rfl, k + 1, rfl, by omega, by go_num, ?_⟩
            show _ = Value.int .i64 (Fld.stp (redTo (clmTo x y 8) k) (14 - k))
            unfold Fld.stp
            rw [H1.out]; rfl
          case rel =>
            refine ⟨rfl, k + 1, rfl, by omega, by go_num, ?_⟩
            have hx := HX.out.1
            rw [show ((285 : Nat) : Int) = 285 from rfl] at hx
            show _ = Value.int .i64 (Fld.stp (redTo (clmTo x y 8) k) (14 - k))
            unfold Fld.stp
            rw [H1.out, hx, if_pos rfl, i64_xor_nat _ _ (by have := HR.out; omega) HX.out.2]
        · obtain rfl : k = 7 := by omega
          go_wp2
          go_ret
          exact ⟨by show _ = Ending.returned (.int .u8 (Fld.mul x y)); rw [← HM.out, ← rmul_to]; rfl, rfl⟩


set_option maxRecDepth 100000 in
set_option maxHeartbeats 400000 in
theorem rInv_call (x : Nat) (hx : x < 256) (w : World) :
    Calls Try.prog 78 #[.int .u8 x] w (Same (.int .u8 (Fld.inv x)) w) := by
  have HM := hid (Fld.rinv_eq x hx)
  go_enter Try.func78, Try.ntmps78
  go_wp2
  go_loopg [3] 255 (fun g b wr => w = wr ∧ ∃ k : Nat, g = 256 - k ∧ 1 ≤ k ∧ k ≤ 256 ∧ b = .int .i64 k ∧ Hid (Fld.rinvFrom x (256 - k) k = Fld.inv x))
  case atStart => exact ⟨rfl, 1, rfl, by omega, by omega, rfl, HM⟩
  case round =>
    obtain ⟨rfl, k, rfl, h1, hk, rfl, HI⟩ := hrel
    by_cases hlt : k < 256
    · have HS := hid (show Fld.rinvFrom x (256 - k) k = if Fld.mul x k = 1 then k else Fld.rinvFrom x (256 - (k + 1)) (k + 1) by
        rw [← Fld.rmul_eq x k hx (by omega), show 256 - k = 256 - (k + 1) + 1 by omega]; rfl)
      by_cases he : Fld.mul x k = 1
      · have H1 := hid he
        clear he
        go_wp2_with (go_at_call 66; refine (rMul_call _ _ hx hlt _).mono ?_; rintro e w' ⟨rfl, rfl⟩; rw [H1.out])
        go_ret
        exact ⟨by rw [← HI.out, HS.out, if_pos H1.out]; rfl, rfl⟩
      · have hne : (((Fld.mul x k : Nat) : Int) == 1) = false := by rw [beq_eq_false_iff_ne]; omega
        have H1 := hid he
        clear he
        go_wp2_with (go_at_call 66; refine (rMul_call _ _ hx hlt _).mono ?_; rintro e w' ⟨rfl, rfl⟩)
        go_roundg (256 - (k + 1))
        case measure => omega
        case rel => exact ⟨rfl, k + 1, rfl, by omega, by omega, by go_num, by rw [HS.out, if_neg H1.out] at HI; exact HI⟩
    · obtain rfl : k = 256 := by omega
      go_wp2
      go_ret
      exact ⟨by rw [← HI.out]; rfl, rfl⟩


end Go.Proofs.Ytjdgfijpmljhiaa
