/- Plain laws of blocks: what is wrong with one, its bytes, and what is read of bytes. No program in sight. -/
import Derived.Test.YtkngfobnfocpjaaCrc
import Derived.Test.YtkngfobnfocpjaaMem
namespace Go.Proofs.Ytkngfobnfocpjaa.Blk
set_option linter.unusedVariables false
/-- what is wrong with a block -/
def wrong (g s z : Int) (n : Nat) : Int := if g < 0 ∨ 39 < g ∨ s < 0 ∨ 11 < s ∨ z < 0 ∨ 3200 < z then 3 else if n = 0 ∨ 400 < n then 5 else 0
def hdr (g s z n : Nat) : List UInt8 := [83, .ofNat g, .ofNat s, .ofNat (z / 256), .ofNat z, .ofNat (n / 256), .ofNat n]
def le4 (c : Nat) : List UInt8 := [.ofNat c, .ofNat (c / 256), .ofNat (c / 65536), .ofNat (c / 16777216)]
def body (g s z : Nat) (l : List UInt8) : List UInt8 := hdr g s z l.length ++ l
def bytes (g s z : Nat) (l : List UInt8) : List UInt8 := body g s z l ++ le4 (Crc.sum (body g s z l))
theorem bytes_of (g s z n : Nat) (l B : List UInt8) (hn : l.length = n) (hB : hdr g s z n ++ l = B) : bytes g s z l = B ++ le4 (Crc.sum B) := by
  unfold bytes body; rw [hn, hB]
/-- k bytes of a number, the lowest one first -/
def leN : Nat → Nat → List UInt8
  | 0, _ => []
  | k + 1, c => .ofNat c :: leN k (c / 256)
theorem leN4 (c : Nat) : leN 4 c = le4 c := by
  simp only [leN, le4, Nat.div_div_eq_div_mul]
theorem byte_cells (c : Nat) : [UInt8.ofNat c].map (fun x => (x.toNat : Int)) = [(c : Int) % 256] := by
  simp only [List.map_cons, List.map_nil, UInt8.toNat_ofNat', List.cons.injEq, and_true]; omega
/-- what is read of bytes: an error's number, Segment, Shard, Size, Data -/
structure PR where
  err : Int
  g : Nat
  s : Nat
  z : Nat
  data : List UInt8
def rd4 (l : List UInt8) (k : Nat) : Nat := at8 l k + 256 * at8 l (k + 1) + 65536 * at8 l (k + 2) + 16777216 * at8 l (k + 3)
def parse (l : List UInt8) : PR :=
  if l.length < 12 ∨ at8 l 0 ≠ 83 ∨ 256 * at8 l 5 + at8 l 6 ≠ l.length - 11 then ⟨2, 0, 0, 0, []⟩
  else if rd4 l (l.length - 4) ≠ Crc.sum (l.take (l.length - 4)) then ⟨9, 0, 0, 0, []⟩
  else if wrong (at8 l 1) (at8 l 2) ((256 * at8 l 3 + at8 l 4 : Nat) : Int) (l.length - 11) ≠ 0 then ⟨wrong (at8 l 1) (at8 l 2) ((256 * at8 l 3 + at8 l 4 : Nat) : Int) (l.length - 11), 0, 0, 0, []⟩
  else ⟨0, at8 l 1, at8 l 2, 256 * at8 l 3 + at8 l 4, (l.drop 7).take (l.length - 11)⟩
theorem parse_form (l : List UInt8) (h : l.length < 12 ∨ at8 l 0 ≠ 83 ∨ 256 * at8 l 5 + at8 l 6 ≠ l.length - 11) : parse l = ⟨2, 0, 0, 0, []⟩ := by
  unfold parse; rw [if_pos h]
theorem parse_sum (l : List UInt8) (K : Nat) (hK : l.length = K + 4) (h8 : 8 ≤ K) (h0 : at8 l 0 = 83) (h5 : 256 * at8 l 5 + at8 l 6 + 7 = K) (hs : rd4 l K ≠ Crc.sum (l.take K)) : parse l = ⟨9, 0, 0, 0, []⟩ := by
  unfold parse; rw [hK, if_neg (by omega), show K + 4 - 4 = K by omega, if_pos hs]
theorem parse_wrong (l : List UInt8) (K : Nat) (hK : l.length = K + 4) (h8 : 8 ≤ K) (h0 : at8 l 0 = 83) (h5 : 256 * at8 l 5 + at8 l 6 + 7 = K) (hs : rd4 l K = Crc.sum (l.take K))
    (hw : wrong (at8 l 1) (at8 l 2) ((256 * at8 l 3 + at8 l 4 : Nat) : Int) (K - 7) ≠ 0) : parse l = ⟨wrong (at8 l 1) (at8 l 2) ((256 * at8 l 3 + at8 l 4 : Nat) : Int) (K - 7), 0, 0, 0, []⟩ := by
  unfold parse; rw [hK, if_neg (by omega), show K + 4 - 4 = K by omega, if_neg (fun h => h hs), show K + 4 - 11 = K - 7 by omega, if_pos hw]
theorem parse_ok (l : List UInt8) (K : Nat) (hK : l.length = K + 4) (h8 : 8 ≤ K) (h0 : at8 l 0 = 83) (h5 : 256 * at8 l 5 + at8 l 6 + 7 = K) (hs : rd4 l K = Crc.sum (l.take K))
    (hw : wrong (at8 l 1) (at8 l 2) ((256 * at8 l 3 + at8 l 4 : Nat) : Int) (K - 7) = 0) : parse l = ⟨0, at8 l 1, at8 l 2, 256 * at8 l 3 + at8 l 4, (l.drop 7).take (K - 7)⟩ := by
  unfold parse; rw [hK, if_neg (by omega), show K + 4 - 4 = K by omega, if_neg (fun h => h hs), show K + 4 - 11 = K - 7 by omega, if_neg (fun h => h hw)]
theorem wrong_zero {g s z : Int} {n : Nat} (h : wrong g s z n = 0) : (0 ≤ g ∧ g ≤ 39 ∧ 0 ≤ s ∧ s ≤ 11 ∧ 0 ≤ z ∧ z ≤ 3200) ∧ 0 < n ∧ n ≤ 400 := by
  unfold wrong at h
  split at h
  · cases h
  split at h
  · cases h
  · omega
theorem hdr_length (g s z n : Nat) : (hdr g s z n).length = 7 := rfl
theorem hdr_fits (g s z n : Nat) : (hdr g s z n).length ≤ maxLen := by rw [hdr_length]; decide
theorem le4_length (c : Nat) : (le4 c).length = 4 := rfl
theorem le4_fits (c : Nat) : (le4 c).length ≤ maxLen := by rw [le4_length]; decide
theorem hdr_cells (g s z n : Nat) (h : g ≤ 39) (h1 : s ≤ 11) (h2 : z ≤ 3200) (h3 : n ≤ 400) : (hdr g s z n).map (fun x => (x.toNat : Int)) = [83, (g : Int), (s : Int), (z : Int) / 256, (z : Int) % 256, (n : Int) / 256, (n : Int) % 256] := by
  simp only [hdr, List.map_cons, List.map_nil, UInt8.toNat_ofNat', List.cons.injEq, and_true]
  refine ⟨rfl, ?_, ?_, ?_, ?_, ?_, ?_⟩ <;> omega
theorem le4_cells (c : Nat) (h : c < 4294967296) : (le4 c).map (fun x => (x.toNat : Int)) = [(c : Int) % 256, (c : Int) / 256 % 256, (c : Int) / 65536 % 256, (c : Int) / 16777216 % 256] := by
  simp only [le4, List.map_cons, List.map_nil, UInt8.toNat_ofNat', List.cons.injEq, and_true]
  refine ⟨?_, ?_, ?_, ?_⟩ <;> omega
end Go.Proofs.Ytkngfobnfocpjaa.Blk
