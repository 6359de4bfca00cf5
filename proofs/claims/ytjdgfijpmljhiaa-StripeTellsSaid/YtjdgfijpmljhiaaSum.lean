/- Contracts of the functions of package block and of the reference's twins: each returns what the plain laws say. -/
import Derived.Test.YtjdgfijpmljhiaaProg
import Derived.Test.YtjdgfijpmljhiaaMem
import Derived.Test.YtjdgfijpmljhiaaPlA
namespace Go.Proofs.Ytjdgfijpmljhiaa
open Go.RowKit
set_option linter.unusedVariables false
/-- j bits -/
def ones : Nat → Nat → Nat
  | 0, c => c
  | j + 1, c => Crc.one (ones j c)
theorem ones8 (c : Nat) : ones 8 c = Crc.eight c := rfl
theorem and1_or (n : Nat) : n &&& 1 = 0 ∨ n &&& 1 = 1 := by rw [Nat.and_one_is_mod]; omega
theorem ones_lt (c : Nat) (h : c < 2 ^ 32) : ∀ j, ones j c < 2 ^ 32
  | 0 => h
  | j + 1 => Crc.one_lt _ (ones_lt c h j)
theorem at8_take (l : List UInt8) (k : Nat) (h : k < l.length) (c : Nat) : Crc.run (l.take (k + 1)) c = Crc.step (Crc.run (l.take k) c) (at8 l k) := by
  unfold Crc.run
  rw [List.take_succ_eq_append_getElem h, List.foldl_append]
  simp [at8, List.getD, h]
theorem half (e : Nat) : (e : Int) / (2 : Int) = ((e >>> 1 : Nat) : Int) := by rw [Nat.shiftRight_eq_div_pow]; simp
theorem u32_poly (e : Nat) (h : e < 2 ^ 32) : bits .xor .u32 ((e : Int) / (2 : Int)) 2197175160 = ((e >>> 1 ^^^ 2197175160 : Nat) : Int) := by
  rw [half]
  have hs32 : e >>> 1 < 4294967296 := by rw [Nat.shiftRight_eq_div_pow]; omega
  exact u32_xor_nat (e >>> 1) 2197175160 hs32 (by decide)
theorem u32_not (c : Nat) (h : c < 2 ^ 32) : bits .xor .u32 IntKind.u32.max (c : Int) = ((c ^^^ 4294967295 : Nat) : Int) := by
  rw [Nat.xor_comm]; exact u32_xor_nat 4294967295 c (by decide) h

set_option maxRecDepth 100000 in
set_option maxHeartbeats 1000000 in
theorem Sum_call (a : Option Addr) (n cap : Nat) (l : List UInt8) (w : World) (h : Bt w a n cap l) :
    Calls Try.prog 62 #[.slice a n cap] w (Same (.int .u32 (Crc.sum l)) w) := by
  have hn := Bt.n h
  have hmax := h.max
  have hle := h.le
  unfold maxLen at hmax
  have HN := hid hn
  clear hn
  go_enter Try.func62, Try.ntmps62
  go_wp2
  go_loopg [3, 8] n (fun g c i wr => w = wr ∧ ∃ k : Nat, g = n - k ∧ k ≤ n ∧ i = .int .i64 k ∧ c = .int .u32 (Crc.run (l.take k) 4294967295 : Nat))
  case atStart => exact ⟨rfl, 0, rfl, by omega, rfl, rfl⟩
  case round =>
    obtain ⟨rfl, k, rfl, hk, rfl, rfl⟩ := hrel
    by_cases hlt : k < n
    · obtain ⟨b, off, rfl, _⟩ := h.addr (by omega)
      have hc := Bt.at h k hlt
      have h8 := at8_lt l k
      have HR := hid (Crc.run_lt (l.take k) 4294967295 (by decide))
      have hx := u32_xor_nat (Crc.run (l.take k) 4294967295) (at8 l k) HR.out (by omega)
      have hd : Crc.run (l.take k) 4294967295 ^^^ at8 l k < 2 ^ 32 := Nat.xor_lt_two_pow HR.out (by omega)
      have HS := hid (at8_take l k (by rw [HN.out]; exact hlt) 4294967295)
      generalize hD : Crc.run (l.take k) 4294967295 ^^^ at8 l k = d at *
      have HD := hid hD
      clear hD
      go_wp2
      go_loopg [3, 16] 8 (fun g c i wr => w = wr ∧ ∃ j : Nat, g = 8 - j ∧ j ≤ 8 ∧ i = .int .i64 j ∧ c = .int .u32 (ones j d : Nat))
      case atStart => exact ⟨rfl, 0, rfl, by omega, rfl, rfl⟩
      case round =>
        obtain ⟨rfl, j, rfl, hj, rfl, rfl⟩ := hrel
        by_cases hj8 : j < 8
        · have ho := ones_lt d hd j
          have hb : bits .and .u32 ((ones j d : Nat) : Int) 1 = ((ones j d &&& 1 : Nat) : Int) := u32_and_nat (ones j d) 1 ho (by decide)
          have HO := hid (show ones (j + 1) d = if ones j d &&& 1 = 1 then (ones j d >>> 1) ^^^ 2197175160 else ones j d >>> 1 from rfl)
          generalize ones j d = e at *
          rcases and1_or e with h1 | h1
          all_goals
            rw [h1] at hb
            have H1 := hid h1
            clear h1
            go_wp2
            go_roundg (8 - (j + 1))
            case measure => omega
          case rel => exact ⟨rfl, j + 1, rfl, by omega, by go_num, by rw [HO.out, H1.out, half]; rfl⟩
          case rel => exact ⟨rfl, j + 1, rfl, by omega, by go_num, by rw [HO.out, H1.out, u32_poly e ho]; rfl⟩
        · obtain rfl : j = 8 := by omega
          go_wp2
          go_roundg (n - (k + 1))
          case measure => omega
          case rel =>
            refine ⟨rfl, k + 1, rfl, by omega, by go_num, ?_⟩
            rw [HS.out, ← HD.out]; rfl
    · obtain rfl : k = n := by omega
      have HT := hid (show l.take k = l by rw [← HN.out]; exact List.take_length)
      rw [HT.out]
      go_wp2
      go_ret
      exact ⟨by rw [u32_not _ (Crc.run_lt l 4294967295 (by decide))]; rfl, rfl⟩


theorem u32_rstep0 (e : Nat) (h : e < 2 ^ 32) (h1 : e &&& 1 = 0) : bits .xor .u32 ((e : Int) / (2 : Int)) 0 = ((Crc.one e : Nat) : Int) := by
  rw [half]; unfold Crc.one; rw [if_neg (by omega)]
  have hs32 : e >>> 1 < 4294967296 := by rw [Nat.shiftRight_eq_div_pow]; omega
  have := u32_xor_nat (e >>> 1) 0 hs32 (by decide)
  rw [Nat.xor_zero] at this; exact this
theorem u32_shr8 (e d : Nat) (h : e < 2 ^ 32) (hd : d < 2 ^ 32) : bits .xor .u32 ((e : Int) / (256 : Int)) (d : Int) = ((e >>> 8 ^^^ d : Nat) : Int) := by
  have hs32 : e >>> 8 < 4294967296 := by rw [Nat.shiftRight_eq_div_pow]; omega
  rw [← u32_xor_nat _ d hs32 hd, Nat.shiftRight_eq_div_pow]; simp
theorem u32_rstep (e : Nat) (h : e < 2 ^ 32) (h1 : e &&& 1 = 1) : bits .xor .u32 ((e : Int) / (2 : Int)) 2197175160 = ((Crc.one e : Nat) : Int) := by
  rw [u32_poly e h]; unfold Crc.one; rw [if_pos h1]
set_option maxRecDepth 100000 in
set_option maxHeartbeats 1000000 in
theorem rSum_call (a : Option Addr) (n cap : Nat) (l : List UInt8) (w : World) (h : Bt w a n cap l) :
    Calls Try.prog 68 #[.slice a n cap] w (Same (.int .u32 (Crc.sum l)) w) := by
  have hn := Bt.n h
  have hmax := h.max
  have hle := h.le
  unfold maxLen at hmax
  have HN := hid hn
  clear hn
  go_enter Try.func68, Try.ntmps68
  go_wp2
  go_loopg [3, 10] n (fun g c i wr => w = wr ∧ ∃ k : Nat, g = n - k ∧ k ≤ n ∧ i = .int .i64 k ∧ c = .int .u32 (Crc.run (l.take k) 4294967295 : Nat))
  case atStart => exact ⟨rfl, 0, rfl, by omega, rfl, rfl⟩
  case round =>
    obtain ⟨rfl, k, rfl, hk, rfl, rfl⟩ := hrel
    by_cases hlt : k < n
    · obtain ⟨b, off, rfl, _⟩ := h.addr (by omega)
      have hc := Bt.at h k hlt
      have h8 := at8_lt l k
      have HR := hid (Crc.run_lt (l.take k) 4294967295 (by decide))
      have hx := u32_xor_nat (Crc.run (l.take k) 4294967295) (at8 l k) HR.out (by omega)
      have HS := hid ((at8_take l k (by rw [HN.out]; exact hlt) 4294967295).trans (Crc.rstep_eq _ _ h8).symm)
      have hd : (Crc.run (l.take k) 4294967295 ^^^ at8 l k) &&& 255 < 2 ^ 32 := Nat.lt_of_le_of_lt Nat.and_le_right (by decide)
      have hy : bits .and .u32 ((Crc.run (l.take k) 4294967295 ^^^ at8 l k : Nat) : Int) 255 = (((Crc.run (l.take k) 4294967295 ^^^ at8 l k) &&& 255 : Nat) : Int) := u32_and_nat _ 255 (Nat.xor_lt_two_pow HR.out (by omega)) (by decide)
      unfold Crc.rstep at HS
      generalize hD : (Crc.run (l.take k) 4294967295 ^^^ at8 l k) &&& 255 = d at *
      have HD := hid hD
      clear hD
      have h8d : Crc.eight d < 2 ^ 32 := Crc.eight_lt d hd
      go_wp2
      go_loopg [6, 7] 8 (fun g c i wr => w = wr ∧ ∃ j : Nat, g = 8 - j ∧ j ≤ 8 ∧ i = .int .i64 j ∧ c = .int .u32 (ones j d : Nat))
      case atStart => exact ⟨rfl, 0, rfl, by omega, rfl, rfl⟩
      case round =>
        obtain ⟨rfl, j, rfl, hj, rfl, rfl⟩ := hrel
        by_cases hj8 : j < 8
        · have ho := ones_lt d hd j
          have hb : bits .and .u32 ((ones j d : Nat) : Int) 1 = ((ones j d &&& 1 : Nat) : Int) := u32_and_nat (ones j d) 1 ho (by decide)
          have HO := hid (show ones (j + 1) d = Crc.one (ones j d) from rfl)
          generalize ones j d = e at *
          rcases and1_or e with h1 | h1
          all_goals
            rw [h1] at hb
            have H1 := hid h1
            clear h1
            go_wp2
            go_roundg (8 - (j + 1))
            case measure => omega
          case rel =>
            exact ⟨rfl, j + 1, rfl, by omega, by go_num, by rw [HO.out, u32_rstep0 e ho H1.out]⟩
          case rel => exact ⟨rfl, j + 1, rfl, by omega, by go_num, by rw [HO.out]; rw [u32_rstep e ho H1.out]⟩
        · obtain rfl : j = 8 := by omega
          rw [ones8]
          go_wp2
          go_roundg (n - (k + 1))
          case measure => omega
          case rel =>
            refine ⟨rfl, k + 1, rfl, by omega, by go_num, ?_⟩
            rw [HS.out]
            exact congrArg _ (u32_shr8 _ _ HR.out h8d)
    · obtain rfl : k = n := by omega
      have HT := hid (show l.take k = l by rw [← HN.out]; exact List.take_length)
      rw [HT.out]
      go_wp2
      go_ret
      exact ⟨congrArg _ (congrArg _ (u32_xor_nat _ 4294967295 (Crc.run_lt l 4294967295 (by decide)) (by decide))), rfl⟩

end Go.Proofs.Ytjdgfijpmljhiaa
