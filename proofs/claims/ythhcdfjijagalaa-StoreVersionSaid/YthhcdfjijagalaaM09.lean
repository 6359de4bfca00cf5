/- Joined, and what is not used struck: StP, StpE. -/
import Derived.Test.YthhcdfjijagalaaM01
import Derived.Test.YthhcdfjijagalaaM08
import Derived.Test.YthhcdfjijagalaaM05
namespace Go.Proofs.Ythhcdfjijagalaa.Stp
open Mat
set_option linter.unusedVariables false
/-- how wide a shard is -/
def wd (z d : Nat) : Nat := max ((z + d - 1) / d) 1
/-- shard i of the bytes b: n of them, noughts behind the end -/
def chunk (b : List UInt8) (n i : Nat) : List UInt8 := (List.range n).map fun k => b.getD (i * n + k) 0
def rowsD (b : List UInt8) (d : Nat) : List (List UInt8) := (List.range d).map (chunk b (wd b.length d))
def blocks (g z : Nat) (S : List (List UInt8)) : List (List UInt8) := (List.range S.length).map fun i => Blk.bytes g i z (S.getD i [])
def LayR (b : List UInt8) (g d s : Int) (L : List (List UInt8)) (e : Int) : Prop :=
  if wrongC d s ≠ 0 then L = [] ∧ e = wrongC d s else if g < 0 ∨ 39 < g then L = [] ∧ e = 3 else if 400 * d < (b.length : Int) then L = [] ∧ e = 4
  else ∃ S, SpareR (rowsD b d.toNat) s S 0 ∧ L = blocks g.toNat b.length (rowsD b d.toNat ++ S) ∧ e = 0
theorem LayR.uniq {b : List UInt8} {g d s : Int} {L K : List (List UInt8)} {e f : Int} (h : LayR b g d s L e) (k : LayR b g d s K f) : L = K ∧ e = f := by
  unfold LayR at h k
  split at h
  · rw [if_pos (by assumption)] at k; exact ⟨h.1.trans k.1.symm, h.2.trans k.2.symm⟩
  · rw [if_neg (by assumption)] at k
    split at h
    · rw [if_pos (by assumption)] at k; exact ⟨h.1.trans k.1.symm, h.2.trans k.2.symm⟩
    · rw [if_neg (by assumption)] at k
      split at h
      · rw [if_pos (by assumption)] at k; exact ⟨h.1.trans k.1.symm, h.2.trans k.2.symm⟩
      · rw [if_neg (by assumption)] at k
        obtain ⟨S, h1, h2, h3⟩ := h
        obtain ⟨T, k1, k2, k3⟩ := k
        obtain ⟨rfl, _⟩ := h1.uniq k1
        exact ⟨h2.trans k2.symm, h3.trans k3.symm⟩
theorem lay_1 {b : List UInt8} {g d s : Int} (h : wrongC d s ≠ 0) : LayR b g d s [] (wrongC d s) := by unfold LayR; rw [if_pos h]; exact ⟨rfl, rfl⟩
theorem lay_2 {b : List UInt8} {g d s : Int} (h : wrongC d s = 0) (h2 : g < 0 ∨ 39 < g) : LayR b g d s [] 3 := by unfold LayR; rw [if_neg (fun e => e h), if_pos h2]; exact ⟨rfl, rfl⟩
theorem lay_3 {b : List UInt8} {g d s : Int} (h : wrongC d s = 0) (h2 : ¬ (g < 0 ∨ 39 < g)) (h3 : 400 * d < (b.length : Int)) : LayR b g d s [] 4 := by
  unfold LayR; rw [if_neg (fun e => e h), if_neg h2, if_pos h3]; exact ⟨rfl, rfl⟩
theorem lay_4 {b : List UInt8} {g d s : Nat} {S : List (List UInt8)} (h : wrongC (d : Int) (s : Int) = 0) (h2 : g ≤ 39) (h3 : b.length ≤ 400 * d) (hS : SpareR (rowsD b d) (s : Int) S 0) :
    LayR b (g : Int) (d : Int) (s : Int) (blocks g b.length (rowsD b d ++ S)) 0 := by
  unfold LayR
  rw [if_neg (fun e => e h), if_neg (by omega), if_neg (by omega)]
  exact ⟨S, by simpa using hS, by simp, rfl⟩
theorem wd_pos (z d : Nat) : 1 ≤ wd z d := by unfold wd; omega
theorem wd_le {z d : Nat} (hd : 1 ≤ d) (h : z ≤ 400 * d) : wd z d ≤ 400 := by
  unfold wd
  have : (z + d - 1) / d ≤ 400 := by
    have : (z + d - 1) / d < 401 := by rw [Nat.div_lt_iff_lt_mul (by omega)]; omega
    omega
  omega
theorem wd_mul {z d : Nat} (hd : 1 ≤ d) : z ≤ wd z d * d := by
  have h1 : (z + d - 1) / d ≤ wd z d := by unfold wd; omega
  have h2 := Nat.div_add_mod (z + d - 1) d
  have h3 := Nat.mod_lt (z + d - 1) (show 0 < d by omega)
  have h4 : (z + d - 1) / d * d ≤ wd z d * d := Nat.mul_le_mul_right _ h1
  rw [Nat.mul_comm] at h2
  omega
theorem chunk_length (b : List UInt8) (n i : Nat) : (chunk b n i).length = n := by simp [chunk]
theorem rowsD_length (b : List UInt8) (d : Nat) : (rowsD b d).length = d := by simp [rowsD]
theorem rowsD_fine {b : List UInt8} {d : Nat} (h1 : 1 ≤ d) (h2 : d ≤ 8) (h3 : b.length ≤ 400 * d) : Fine (rowsD b d) d (wd b.length d) :=
  ⟨rowsD_length b d, fun r hr => by obtain ⟨i, _, rfl⟩ := List.mem_map.1 hr; exact chunk_length _ _ _, h1, by omega, wd_pos _ _, wd_le h1 h3⟩
theorem blocks_length (g z : Nat) (S : List (List UInt8)) : (blocks g z S).length = S.length := by simp [blocks]
theorem blocks_get (g z : Nat) (S : List (List UInt8)) (i : Nat) (h : i < S.length) : (blocks g z S)[i]? = some (Blk.bytes g i z (S.getD i [])) := by simp [blocks, h]
/-- Blocks that came out: of fit data. -/
structure Laid (b : List UInt8) (g d s : Nat) (S L : List (List UInt8)) : Prop where
  g39 : g ≤ 39
  z : b.length ≤ 400 * d
  sh : Shards (rowsD b d) S d s (wd b.length d)
  eq : L = blocks g b.length (rowsD b d ++ S)
theorem LayR.laid {b : List UInt8} {g d s : Int} {L : List (List UInt8)} {e : Int} (h : LayR b g d s L e) (he : e = 0) : ∃ g' d' s' S, g = (g' : Nat) ∧ d = (d' : Nat) ∧ s = (s' : Nat) ∧ Laid b g' d' s' S L := by
  subst he
  unfold LayR at h
  split at h
  · rename_i h1; exact absurd h.2.symm h1
  rename_i h1
  have hc := wrongC_ok (Classical.not_not.1 h1)
  split at h
  · exact absurd h.2 (by decide)
  split at h
  · exact absurd h.2 (by decide)
  obtain ⟨S, h2, h3, _⟩ := h
  obtain ⟨d', rfl⟩ := Int.eq_ofNat_of_zero_le (a := d) (by omega)
  obtain ⟨s', rfl⟩ := Int.eq_ofNat_of_zero_le (a := s) (by omega)
  obtain ⟨g', rfl⟩ := Int.eq_ofNat_of_zero_le (a := g) (by omega)
  have hF := rowsD_fine (b := b) (d := d') (by omega) (by omega) (by omega)
  exact ⟨g', d', s', S, rfl, rfl, rfl, by omega, by omega, ⟨hF, by omega, by omega, (SpareR.ok hF (by omega) (by omega) (by simpa using h2)).1⟩, by simpa using h3⟩
section
variable {b : List UInt8} {g d s : Nat} {S L : List (List UInt8)}
theorem Laid.len (h : Laid b g d s S L) : L.length = d + s := by rw [h.eq, blocks_length, h.sh.whole.rows]
theorem Laid.n12 (h : Laid b g d s S L) : d + s ≤ 12 ∧ 1 ≤ d := by have := h.sh.d8; have := h.sh.s4; have := h.sh.fine.n1; omega
theorem Laid.row (h : Laid b g d s S L) {i : Nat} (hi : i < d + s) : L.getD i [] = Blk.bytes g i b.length ((rowsD b d ++ S).getD i []) := by
  rw [h.eq, List.getD, blocks_get _ _ _ _ (by rw [h.sh.whole.rows]; exact hi)]; rfl
theorem Laid.fit (h : Laid b g d s S L) {i : Nat} (hi : i < d + s) : Blk.wrong g i b.length ((rowsD b d ++ S).getD i []).length = 0 := by
  have h1 := h.sh.row hi
  have h2 := h.n12
  have h3 := h.sh.fine.m1
  have h4 := h.sh.fine.m2
  have h5 := h.z
  have h6 := h.g39
  have h7 := h.sh.d8
  unfold Blk.wrong
  rw [h1, if_neg (by omega), if_neg (by omega)]
theorem Laid.parse (h : Laid b g d s S L) {i : Nat} (hi : i < d + s) : Blk.parse (L.getD i []) = ⟨0, g, i, b.length, (rowsD b d ++ S).getD i []⟩ := by
  rw [h.row hi]; exact Blk.parse_bytes _ _ _ _ (h.fit hi)
theorem Laid.right (h : Laid b g d s S L) {i : Nat} (hi : i < d + s) (g' k : Int) : Stp.right (L.getD i []) g' k = decide ((g : Int) = g' ∧ (i : Int) = k) := by
  unfold Stp.right; rw [h.parse hi]; simp
theorem Laid.spoilt (h : Laid b g d s S L) {i : Nat} (hi : i < d + s) {k : Nat} {y : UInt8} (hk : k < (L.getD i []).length) (hy : y ≠ (L.getD i [])[k]) (g' i' : Int) : Stp.right ((L.getD i []).set k y) g' i' = false := by
  have hr := h.row hi
  generalize L.getD i [] = l at *
  subst hr
  unfold Stp.right
  rcases Blk.parse_set g i b.length _ (h.fit hi) k y hk hy with e | e <;> rw [e] <;> simp
end
end Go.Proofs.Ythhcdfjijagalaa.Stp
namespace Go.Proofs.Ythhcdfjijagalaa.Stp
open Mat
set_option linter.unusedVariables false
theorem chunk_get (b : List UInt8) (N i k : Nat) (h : k < (chunk b N i).length) : (chunk b N i)[k] = b.getD (i * N + k) 0 := by
  simp [chunk]
theorem chunk_copy {b : List UInt8} {N i lo : Nat} (hlo : lo = min (i * N) b.length) : (b.drop lo).take N ++ (List.replicate N (0 : UInt8)).drop (b.length - lo) = chunk b N i := by
  apply List.ext_getElem
  · rw [chunk_length, List.length_append, List.length_take, List.length_drop, List.length_drop, List.length_replicate]; omega
  · intro k k1 k2
    have hk : k < N := by rwa [chunk_length] at k2
    rw [chunk_get]
    by_cases hk2 : k < b.length - lo
    · have e : lo = i * N := by omega
      rw [List.getElem_append_left (by rw [List.length_take, List.length_drop]; omega)]
      rw [List.getElem_take, List.getElem_drop]
      rw [List.getD, List.getElem?_eq_getElem (by omega)]
      simp only [e, Option.getD_some]
    · rw [List.getElem_append_right (by rw [List.length_take, List.length_drop]; omega)]
      rw [List.getElem_drop, List.getElem_replicate]
      rw [List.getD, List.getElem?_eq_none (by omega)]
      rfl
theorem flat_rows (b : List UInt8) (N d : Nat) : ((List.range d).map (chunk b N)).flatten = (List.range (d * N)).map fun k => b.getD k 0 := by
  induction d with
  | zero => simp
  | succ d ih =>
    rw [List.range_succ, List.map_append, List.flatten_append, ih, Nat.succ_mul, List.range_add, List.map_append]
    simp [chunk, Function.comp_def]
theorem map_getD (b : List UInt8) (m : Nat) (h : b.length ≤ m) : ((List.range m).map fun k => b.getD k 0).take b.length = b := by
  apply List.ext_getElem
  · rw [List.length_take, List.length_map, List.length_range]; omega
  · intro k k1 k2
    rw [List.getElem_take, List.getElem_map, List.getElem_range, List.getD, List.getElem?_eq_getElem k2]; rfl
/-- data put together again -/
theorem flat_data {b : List UInt8} {d : Nat} (h1 : 1 ≤ d) : ((rowsD b d).flatten).take b.length = b ∧ b.length ≤ ((rowsD b d).flatten).length := by
  have hm := wd_mul (z := b.length) h1
  have e := flat_rows b (wd b.length d) d
  unfold rowsD
  rw [e]
  refine ⟨map_getD _ _ (by rw [Nat.mul_comm]; exact hm), ?_⟩
  rw [List.length_map, List.length_range, Nat.mul_comm]; exact hm
end Go.Proofs.Ythhcdfjijagalaa.Stp
namespace Go.Proofs.Ythhcdfjijagalaa.Stp
open Mat
set_option linter.unusedVariables false
/-- O are the blocks L, of which those of the numbers U are gone or have a byte turned. -/
structure Hurt (L O : List (List UInt8)) (U : List Nat) : Prop where
  len : O.length = L.length
  nd : U.Nodup
  lt : ∀ u ∈ U, u < L.length
  no : ∀ i, i ∉ U → O.getD i [] = L.getD i []
  yes : ∀ i, i ∈ U → O.getD i [] = [] ∨ ∃ (k : Nat) (y : UInt8) (h : k < (L.getD i []).length), y ≠ (L.getD i [])[k] ∧ O.getD i [] = (L.getD i []).set k y
theorem getD_set2 {α : Type} (l : List α) (i j : Nat) (x d : α) (h : i < l.length) : (l.set i x).getD j d = if i = j then x else l.getD j d := by
  unfold List.getD
  by_cases e : i = j
  · subst e; rw [if_pos rfl, List.getElem?_set_self h]; rfl
  · rw [if_neg e, List.getElem?_set_ne e]
section
variable {b : List UInt8} {g d s : Nat} {S L O : List (List UInt8)} {U : List Nat}
/-- which ones are wrong then -/
theorem Hurt.right (h : Hurt L O U) (hL : Laid b g d s S L) {i : Nat} (hi : i < d + s) : Stp.right (O.getD i []) g i = decide (i ∉ U) := by
  by_cases hu : i ∈ U
  · rw [decide_eq_false (fun k => k hu)]
    rcases h.yes i hu with e | ⟨k, y, hk, hy, e⟩
    · rw [e]; exact right_nil _ _
    · rw [e]; exact hL.spoilt hi hk hy _ _
  · rw [decide_eq_true hu, h.no i hu, hL.right hi]
    exact decide_eq_true ⟨rfl, rfl⟩
theorem Hurt.bad (h : Hurt L O U) (hL : Laid b g d s S L) {i : Nat} : i ∈ badL O g L.length ↔ i ∈ U := by
  unfold badL
  rw [List.mem_filter, List.mem_range]
  constructor
  · rintro ⟨h1, h2⟩
    rw [h.right hL (by rw [← hL.len]; exact h1)] at h2
    simpa using h2
  · intro hu
    have h1 := h.lt i hu
    refine ⟨h1, ?_⟩
    rw [h.right hL (by rw [← hL.len]; exact h1)]
    simpa using hu
end
end Go.Proofs.Ythhcdfjijagalaa.Stp
namespace Go.Proofs.Ythhcdfjijagalaa.Stp
open Mat
set_option linter.unusedVariables false
/-- the sizes that the right ones of the first k blocks tell -/
def szTo (l : List (List UInt8)) (g : Int) (k : Nat) : List Nat := ((List.range k).filter fun i => right (l.getD i []) g i).map fun i => (Blk.parse (l.getD i [])).z
/-- data of the first k blocks, of those that are right -/
def dataTo (l : List (List UInt8)) (g : Int) (k : Nat) : List (List UInt8) := (List.range l.length).map fun i => if i < k ∧ right (l.getD i []) g i = true then (Blk.parse (l.getD i [])).data else []
def Agree (l : List (List UInt8)) (g : Int) (k : Nat) : Prop := ∀ x ∈ szTo l g k, ∀ y ∈ szTo l g k, x = y
/-- the size told last; none: -1 -/
def szI (U : List Nat) : Int := if U = [] then -1 else ((U.getLastD 0 : Nat) : Int)
/-- what is put together of shards -/
def flat (X : List (List UInt8)) (d : Int) : List UInt8 := (X.take d.toNat).flatten
open Classical in
def ReadR (l : List (List UInt8)) (g d : Int) (R : List UInt8) (e : Int) : Prop :=
  if wrongC d ((l.length : Int) - d) ≠ 0 then R = [] ∧ e = wrongC d ((l.length : Int) - d) else if ¬ Agree l g l.length then R = [] ∧ e = 8
  else ∃ X f, MendR (dataTo l g l.length) d X f ∧ ((f ≠ 0 ∧ R = [] ∧ e = f) ∨ (f = 0 ∧ ((flat X d).length : Int) < szI (szTo l g l.length) ∧ R = [] ∧ e = 8) ∨ (f = 0 ∧ szI (szTo l g l.length) ≤ ((flat X d).length : Int) ∧ R = (flat X d).take (szI (szTo l g l.length)).toNat ∧ e = 0))
theorem ReadR.uniq {l : List (List UInt8)} {g d : Int} {R K : List UInt8} {e f : Int} (h : ReadR l g d R e) (k : ReadR l g d K f) : R = K ∧ e = f := by
  classical
  unfold ReadR at h k
  split at h
  · rw [if_pos (by assumption)] at k; exact ⟨h.1.trans k.1.symm, h.2.trans k.2.symm⟩
  · rw [if_neg (by assumption)] at k
    split at h
    · rw [if_pos (by assumption)] at k; exact ⟨h.1.trans k.1.symm, h.2.trans k.2.symm⟩
    · rw [if_neg (by assumption)] at k
      obtain ⟨X, f1, h1, h2⟩ := h
      obtain ⟨Y, f2, k1, k2⟩ := k
      obtain ⟨rfl, rfl⟩ := h1.uniq k1
      rcases h2 with ⟨a1, a2, a3⟩ | ⟨a1, a2, a3, a4⟩ | ⟨a1, a2, a3, a4⟩ <;> rcases k2 with ⟨b1, b2, b3⟩ | ⟨b1, b2, b3, b4⟩ | ⟨b1, b2, b3, b4⟩ <;> first | exact absurd a1 b1 | exact absurd b1 a1 | exact absurd a2 (by omega) | (subst a2 b2 a3 b3; exact ⟨rfl, rfl⟩) | exact ⟨a3.trans b3.symm, a4.trans b4.symm⟩
theorem read_1 {l : List (List UInt8)} {g d : Int} (h : wrongC d ((l.length : Int) - d) ≠ 0) : ReadR l g d [] (wrongC d ((l.length : Int) - d)) := by unfold ReadR; rw [if_pos h]; exact ⟨rfl, rfl⟩
theorem read_2 {l : List (List UInt8)} {g d : Int} (h : wrongC d ((l.length : Int) - d) = 0) (h2 : ¬ Agree l g l.length) : ReadR l g d [] 8 := by unfold ReadR; rw [if_neg (fun e => e h), if_pos h2]; exact ⟨rfl, rfl⟩
theorem read_3 {l : List (List UInt8)} {g d : Int} {X : List (List UInt8)} {f : Int} (h : wrongC d ((l.length : Int) - d) = 0) (h2 : Agree l g l.length) (h3 : MendR (dataTo l g l.length) d X f) (hf : f ≠ 0) : ReadR l g d [] f := by
  unfold ReadR; rw [if_neg (fun e => e h), if_neg (fun e => e h2)]; exact ⟨X, f, h3, .inl ⟨hf, rfl, rfl⟩⟩
theorem read_4 {l : List (List UInt8)} {g d : Int} {X : List (List UInt8)} (h : wrongC d ((l.length : Int) - d) = 0) (h2 : Agree l g l.length) (h3 : MendR (dataTo l g l.length) d X 0) (h4 : ((flat X d).length : Int) < szI (szTo l g l.length)) : ReadR l g d [] 8 := by
  unfold ReadR; rw [if_neg (fun e => e h), if_neg (fun e => e h2)]; exact ⟨X, 0, h3, .inr (.inl ⟨rfl, h4, rfl, rfl⟩)⟩
theorem read_5 {l : List (List UInt8)} {g d : Int} {X : List (List UInt8)} (h : wrongC d ((l.length : Int) - d) = 0) (h2 : Agree l g l.length) (h3 : MendR (dataTo l g l.length) d X 0) (h4 : szI (szTo l g l.length) ≤ ((flat X d).length : Int)) : ReadR l g d ((flat X d).take (szI (szTo l g l.length)).toNat) 0 := by
  unfold ReadR; rw [if_neg (fun e => e h), if_neg (fun e => e h2)]; exact ⟨X, 0, h3, .inr (.inr ⟨rfl, h4, rfl, rfl⟩)⟩
section
variable {l : List (List UInt8)} {g : Int} {k : Nat}
theorem szTo_no (h : right (l.getD k []) g k = false) : szTo l g (k + 1) = szTo l g k := by
  unfold szTo; rw [List.range_succ, List.filter_append, List.filter_cons_of_neg (by rw [h]; decide), List.filter_nil, List.append_nil]
theorem szTo_yes (h : right (l.getD k []) g k = true) : szTo l g (k + 1) = szTo l g k ++ [(Blk.parse (l.getD k [])).z] := by
  unfold szTo; rw [List.range_succ, List.filter_append, List.filter_cons_of_pos (by rw [h]), List.filter_nil, List.map_append, List.map_cons, List.map_nil]
theorem szI_nil : szI [] = -1 := by simp [szI]
theorem szI_snoc (U : List Nat) (z : Nat) : szI (U ++ [z]) = (z : Int) := by unfold szI; rw [if_neg (by simp)]; simp
theorem szI_neg {U : List Nat} (h : szI U < 0) : U = [] := by
  unfold szI at h
  split at h
  · assumption
  · omega
theorem szI_of {U : List Nat} (h : U ≠ []) : ∃ z : Nat, szI U = z ∧ z ∈ U := by
  unfold szI
  rw [if_neg h]
  refine ⟨_, rfl, ?_⟩
  obtain ⟨x, U', rfl⟩ : ∃ x U', U = U' ++ [x] := ⟨U.getLast h, U.dropLast, (List.dropLast_concat_getLast h).symm⟩
  simp
theorem szTo_le {m : Nat} (h : k ≤ m) {x : Nat} (hx : x ∈ szTo l g k) : x ∈ szTo l g m := by
  unfold szTo at *
  obtain ⟨i, hi, rfl⟩ := List.mem_map.1 hx
  rw [List.mem_filter, List.mem_range] at hi
  exact List.mem_map.2 ⟨i, by rw [List.mem_filter, List.mem_range]; exact ⟨by omega, hi.2⟩, rfl⟩
theorem agree_zero : Agree l g 0 := fun x hx => by cases hx
theorem agree_no (h : right (l.getD k []) g k = false) (ha : Agree l g k) : Agree l g (k + 1) := by unfold Agree at *; rw [szTo_no h]; exact ha
theorem agree_yes (h : right (l.getD k []) g k = true) (ha : Agree l g k) (hz : szI (szTo l g k) < 0 ∨ ((Blk.parse (l.getD k [])).z : Int) = szI (szTo l g k)) : Agree l g (k + 1) := by
  have key : ∀ x ∈ szTo l g k, x = (Blk.parse (l.getD k [])).z := fun x hx => by
    rcases hz with hz | hz
    · rw [szI_neg hz] at hx; cases hx
    · obtain ⟨z, h1, h2⟩ := szI_of (U := szTo l g k) (fun e => by rw [e] at hx; cases hx)
      have := ha x hx z h2
      omega
  unfold Agree
  rw [szTo_yes h]
  intro x hx y hy
  rcases List.mem_append.1 hx with hx | hx <;> rcases List.mem_append.1 hy with hy | hy
  · exact ha x hx y hy
  · rw [List.mem_singleton.1 hy]; exact key x hx
  · rw [List.mem_singleton.1 hx]; exact (key y hy).symm
  · rw [List.mem_singleton.1 hx, List.mem_singleton.1 hy]
theorem agree_not (h : right (l.getD k []) g k = true) (hk : k < l.length) (hz : 0 ≤ szI (szTo l g k)) (hne : ((Blk.parse (l.getD k [])).z : Int) ≠ szI (szTo l g k)) : ¬ Agree l g l.length := fun ha => by
  have hn : szTo l g k ≠ [] := fun e => by rw [e, szI_nil] at hz; omega
  obtain ⟨z, h1, h2⟩ := szI_of hn
  have h3 : (Blk.parse (l.getD k [])).z ∈ szTo l g (k + 1) := by rw [szTo_yes h]; simp
  have := ha _ (szTo_le (m := l.length) (by omega) h3) _ (szTo_le (m := l.length) (by omega) h2)
  rw [h1] at hne
  omega
theorem dataTo_length : (dataTo l g k).length = l.length := by simp [dataTo]
theorem dataTo_get {i : Nat} (hi : i < l.length) : (dataTo l g k).getD i [] = if i < k ∧ right (l.getD i []) g i = true then (Blk.parse (l.getD i [])).data else [] := by
  simp [dataTo, List.getD, hi]
theorem dataTo_zero : dataTo l g 0 = List.replicate l.length [] := by
  apply List.ext_getElem
  · simp [dataTo]
  · intro i h1 h2
    simp [dataTo]
theorem dataTo_no (h : right (l.getD k []) g k = false) : dataTo l g (k + 1) = dataTo l g k := by
  unfold dataTo
  refine List.map_congr_left fun i hi => ?_
  by_cases e : i = k
  · subst e; rw [h]; simp
  · have : (i < k + 1) ↔ (i < k) := by omega
    simp only [this]
theorem ext_getD {A B : List (List UInt8)} (hl : A.length = B.length) (h : ∀ i, i < A.length → A.getD i [] = B.getD i []) : A = B := by
  apply List.ext_getElem hl
  intro i h1 h2
  have := h i h1
  simpa [List.getD, h1, h2] using this
theorem dataTo_yes (h : right (l.getD k []) g k = true) (hk : k < l.length) : dataTo l g (k + 1) = (dataTo l g k).set k (Blk.parse (l.getD k [])).data := by
  refine ext_getD (by rw [List.length_set, dataTo_length, dataTo_length]) fun i h1 => ?_
  rw [dataTo_length] at h1
  rw [getD_set2 _ _ _ _ _ (by rw [dataTo_length]; exact hk), dataTo_get h1, dataTo_get h1]
  by_cases e : k = i
  · subst e; rw [if_pos ⟨by omega, h⟩, if_pos rfl]
  · rw [if_neg e]
    have : (i < k + 1) ↔ (i < k) := by omega
    simp only [this]
/-- what could be mended tells its size -/
theorem mend_size {d : Int} {X : List (List UInt8)} (hc : wrongC d ((l.length : Int) - d) = 0) (h : MendR (dataTo l g l.length) d X 0) : szTo l g l.length ≠ [] := by
  classical
  intro hn
  have hd := wrongC_ok hc
  have hth : Mat.there (dataTo l g l.length) = [] := by
    unfold Mat.there
    rw [List.filter_eq_nil_iff]
    intro i hi
    rw [List.mem_range, dataTo_length] at hi
    have hr : ¬ (right (l.getD i []) g i = true) := fun hr => by
      have : (Blk.parse (l.getD i [])).z ∈ szTo l g l.length := by
        unfold szTo
        exact List.mem_map.2 ⟨i, by rw [List.mem_filter, List.mem_range]; exact ⟨hi, hr⟩, rfl⟩
      rw [hn] at this; cases this
    rw [dataTo_get hi, if_neg (fun e => hr e.2)]
    simp
  unfold MendR at h
  rw [dataTo_length, if_neg (fun e => e hc), hth, if_pos (by simp; omega)] at h
  exact absurd h.2 (by decide)
end
theorem mend_len {l : List (List UInt8)} {d : Int} {X : List (List UInt8)} (h : MendR l d X 0) : X.length = l.length ∧ ∀ r ∈ X, r.length ≤ 400 := by
  classical
  unfold MendR at h
  split at h
  · rename_i h1; exact absurd h.2.symm h1
  split at h
  · exact absurd h.2 (by decide)
  split at h
  · exact absurd h.2 (by decide)
  rename_i hb
  obtain ⟨f, _, hr, _⟩ := h
  refine ⟨hr.rows, fun r hr' => ?_⟩
  rw [hr.cols r hr']
  unfold wid
  generalize (Mat.there l).getD 0 0 = i
  by_cases hi : i < l.length
  · have e : l.getD i [] = l[i] := by simp [List.getD, hi]
    rw [e]
    refine Nat.not_lt.1 fun h4 => hb ⟨l[i], List.getElem_mem _, .inl h4⟩
  · have e : l.getD i [] = [] := by simp [List.getD, Nat.not_lt.1 hi]
    rw [e]; simp
theorem flatten_le {X : List (List UInt8)} (h : ∀ r ∈ X, r.length ≤ 400) : X.flatten.length ≤ X.length * 400 := by
  induction X with
  | nil => simp
  | cons r X ih =>
    rw [List.flatten_cons, List.length_append, List.length_cons]
    have h1 := h r (by simp)
    have h2 := ih fun q hq => h q (by simp [hq])
    omega
end Go.Proofs.Ythhcdfjijagalaa.Stp
namespace Go.Proofs.Ythhcdfjijagalaa.Stp
open Mat
set_option linter.unusedVariables false
section
variable {b : List UInt8} {g d s : Nat} {S L O : List (List UInt8)} {U : List Nat}
theorem Hurt.data (h : Hurt L O U) (hL : Laid b g d s S L) {i : Nat} (hi : i < d + s) : (dataTo O g O.length).getD i [] = if i ∈ U then [] else (rowsD b d ++ S).getD i [] := by
  have hO : i < O.length := by rw [h.len, hL.len]; exact hi
  rw [dataTo_get hO, h.right hL hi]
  by_cases hu : i ∈ U
  · rw [if_pos hu, if_neg (by simp [hu])]
  · rw [if_neg hu, if_pos ⟨hO, decide_eq_true hu⟩, h.no i hu, hL.parse hi]
theorem Hurt.left (h : Hurt L O U) (hL : Laid b g d s S L) : Mat.Left (rowsD b d) S (dataTo O g O.length) d s := by
  refine ⟨by rw [dataTo_length, h.len, hL.len], fun i hi => ?_⟩
  rw [h.data hL hi]
  by_cases hu : i ∈ U
  · rw [if_pos hu]; exact .inr rfl
  · rw [if_neg hu]; exact .inl rfl
theorem count_in {n : Nat} (h : U.Nodup) (hl : ∀ u ∈ U, u < n) : ((List.range n).filter fun i => decide (i ∈ U)).length = U.length := by
  have hp : U.Perm ((List.range n).filter (fun i => decide (i ∈ U))) := (List.perm_ext_iff_of_nodup h (List.nodup_range.filter _)).2 fun i => by
    rw [List.mem_filter, List.mem_range]
    exact ⟨fun hi => ⟨hl i hi, decide_eq_true hi⟩, fun hi => of_decide_eq_true hi.2⟩
  exact hp.length_eq.symm
theorem count_out {n : Nat} (h : U.Nodup) (hl : ∀ u ∈ U, u < n) : ((List.range n).filter fun i => decide (i ∉ U)).length + U.length = n := by
  have h1 := List.length_eq_countP_add_countP (fun i => decide (i ∈ U)) (l := List.range n)
  rw [List.length_range, List.countP_eq_length_filter, List.countP_eq_length_filter, count_in h hl] at h1
  have e : (fun i => decide (i ∉ U)) = fun a => decide (¬ (decide (a ∈ U) = true)) := by funext i; simp
  rw [e]
  omega
theorem Hurt.there (h : Hurt L O U) (hL : Laid b g d s S L) : (Mat.there (dataTo O g O.length)).length + U.length = d + s := by
  have h1 := count_out (n := d + s) h.nd (fun u hu => by have := h.lt u hu; rwa [hL.len] at this)
  have e : Mat.there (dataTo O g O.length) = (List.range (d + s)).filter fun i => decide (i ∉ U) := by
    unfold Mat.there
    rw [dataTo_length, h.len, hL.len]
    refine List.filter_congr fun i hi => ?_
    have hi' := List.mem_range.1 hi
    have hd := h.data hL hi'
    rw [h.len, hL.len] at hd
    rw [hd]
    by_cases hu : i ∈ U
    · rw [if_pos hu]; simp [hu]
    · rw [if_neg hu, hL.sh.row hi']
      have := hL.sh.fine.m1
      simp [hu]; omega
  rw [e]; exact h1
theorem Hurt.sizes (h : Hurt L O U) (hL : Laid b g d s S L) {x : Nat} (hx : x ∈ szTo O g O.length) : x = b.length := by
  unfold szTo at hx
  obtain ⟨i, hi, rfl⟩ := List.mem_map.1 hx
  rw [List.mem_filter, List.mem_range, h.len, hL.len] at hi
  have hr := hi.2
  rw [h.right hL hi.1] at hr
  rw [h.no i (by simpa using hr), hL.parse hi.1]
theorem Hurt.agree (h : Hurt L O U) (hL : Laid b g d s S L) : Agree O g O.length := fun x hx y hy => by rw [h.sizes hL hx, h.sizes hL hy]
theorem Hurt.code (h : Hurt L O U) (hL : Laid b g d s S L) : wrongC (d : Int) ((O.length : Int) - (d : Int)) = 0 := by
  have h1 := hL.sh.fine.n1
  have h2 := hL.sh.d8
  have h3 := hL.sh.s4
  exact wrongC_of (by rw [h.len, hL.len]; omega)
/-- it is read as it was laid -/
theorem Hurt.read (h : Hurt L O U) (hL : Laid b g d s S L) (hU : U.length ≤ s) {R : List UInt8} {e : Int} (hR : ReadR O g (d : Int) R e) : R = b ∧ e = 0 := by
  classical
  have hth := h.there hL
  unfold ReadR at hR
  rw [if_neg (fun k => k (h.code hL)), if_neg (fun k => k (h.agree hL))] at hR
  obtain ⟨X, f, hm, hr⟩ := hR
  obtain ⟨rfl, rfl⟩ := mend_all hL.sh (h.left hL) (by omega) hm
  have hne := mend_size (h.code hL) hm
  obtain ⟨z, hz, hzm⟩ := szI_of hne
  rw [h.sizes hL hzm] at hz
  have hf : flat (rowsD b d ++ S) (d : Int) = (rowsD b d).flatten := by unfold flat; rw [Int.toNat_natCast, hL.sh.take]
  have hd := flat_data (b := b) (d := d) hL.sh.fine.n1
  rw [hz, hf] at hr
  rcases hr with ⟨h1, _⟩ | ⟨_, h1, _⟩ | ⟨_, _, h1, h2⟩
  · exact absurd rfl h1
  · omega
  · rw [h1, Int.toNat_natCast]; exact ⟨hd.1, h2⟩
/-- more of them, and it is said so -/
theorem Hurt.lost (h : Hurt L O U) (hL : Laid b g d s S L) (hU : s < U.length) {R : List UInt8} {e : Int} (hR : ReadR O g (d : Int) R e) : R = [] ∧ e = 10 := by
  classical
  have hth := h.there hL
  unfold ReadR at hR
  rw [if_neg (fun k => k (h.code hL)), if_neg (fun k => k (h.agree hL))] at hR
  obtain ⟨X, f, hm, hr⟩ := hR
  obtain ⟨rfl, rfl⟩ := mend_lost hL.sh (h.left hL) (by omega) hm
  rcases hr with ⟨_, h1, h2⟩ | ⟨h1, _⟩ | ⟨h1, _⟩
  · exact ⟨h1, h2⟩
  · exact absurd h1 (by decide)
  · exact absurd h1 (by decide)
end
end Go.Proofs.Ythhcdfjijagalaa.Stp
namespace Go.Proofs.Ythhcdfjijagalaa.Mat
set_option linter.unusedVariables false
theorem step_to {n : Nat} {a : M} (hi : Inj n a) : ∀ c, c ≤ n → ∃ work out, Step n a work out (fun j => j < c)
  | 0, _ => ⟨a, one, (Step.start n a).congr (fun _ _ _ _ => rfl) (fun _ _ _ _ => rfl) (fun j hj => absurd hj (by omega))⟩
  | c + 1, hc => by
    classical
    obtain ⟨work, out, h⟩ := step_to hi c (by omega)
    have hP : ¬ c < c := by omega
    have hpiv : ∃ k, k < n ∧ ¬ k < c ∧ work k c ≠ 0 := Classical.byContradiction fun hn => h.stuck (show c < n by omega) hP (fun i h1 h2 => Classical.byContradiction fun h3 => hn ⟨i, h1, h2, h3⟩) hi
    obtain ⟨k, hk, hkc, hne⟩ := hpiv
    have h1 := h.swap (show c < n by omega) hk hP hkc
    have e1 : swapM c k work c c = work k c := by unfold swapM; rw [if_pos rfl]
    have h2 := h1.scale (show c < n by omega) hP (inv_ne (a := work k c) hne)
    have e2 : scaleM c (ginv (work k c)) (swapM c k work) c c = 1 := by unfold scaleM; rw [if_pos rfl, e1]; exact mul_inv hne
    have h3 := h2.elim (show c < n by omega) hP e2
    exact ⟨_, _, h3.congr (fun _ _ _ _ => rfl) (fun _ _ _ _ => rfl) (fun j hj => ⟨by omega, by omega⟩)⟩
theorem undo_exists {n : Nat} {a : M} (hi : Inj n a) : ∃ b, Undo n a b := by
  obtain ⟨work, out, h⟩ := step_to hi n (Nat.le_refl _)
  exact ⟨out, h.done fun j hj => hj⟩
theorem mend_exists (l : List (List UInt8)) (d : Int) : ∃ L e, MendR l d L e := by
  classical
  by_cases hc : wrongC d ((l.length : Int) - d) = 0
  · by_cases h2 : ((there l).length : Int) < d
    · exact ⟨_, _, mend_few hc h2⟩
    by_cases h3 : BadForm l
    · exact ⟨_, _, mend_form hc (by omega) h3⟩
    have hd := wrongC_ok hc
    obtain ⟨D, rfl⟩ := Int.eq_ofNat_of_zero_le (a := d) (by omega)
    have hlen : ((there l).take D).length = D := by rw [List.length_take]; omega
    have hlt : ∀ u ∈ (there l).take D, u < 256 := fun u hu => by
      have := (there_lt (List.mem_of_mem_take hu)).1
      omega
    obtain ⟨f, hf⟩ := undo_exists (picked_inj ((there l).take D) hlen ((there_nodup l).take) hlt)
    refine ⟨tab l.length (wid l ((there l).getD 0 0)) (mendM l D f), 0, ?_⟩
    unfold MendR
    rw [if_neg (fun e => e hc), if_neg h2, if_neg h3]
    exact ⟨f, by simpa using hf, by simpa using tab_rep _ _ _, rfl⟩
  · exact ⟨_, _, mend_none hc⟩
theorem spare_exists (l : List (List UInt8)) (s : Int) : ∃ L e, SpareR l s L e := by
  unfold SpareR
  by_cases h1 : wrongC l.length s ≠ 0
  · exact ⟨[], _, by rw [if_pos h1]; exact ⟨rfl, rfl⟩⟩
  by_cases h2 : wrongM l ≠ 0
  · exact ⟨[], _, by rw [if_neg h1, if_pos h2]; exact ⟨rfl, rfl⟩⟩
  · exact ⟨_, _, by rw [if_neg h1, if_neg h2]; exact ⟨tab_rep _ _ _, rfl⟩⟩
end Go.Proofs.Ythhcdfjijagalaa.Mat
namespace Go.Proofs.Ythhcdfjijagalaa.Stp
open Mat
set_option linter.unusedVariables false
theorem read_exists (l : List (List UInt8)) (g d : Int) : ∃ R e, ReadR l g d R e := by
  classical
  by_cases hc : wrongC d ((l.length : Int) - d) = 0
  · by_cases ha : Agree l g l.length
    · obtain ⟨X, f, hm⟩ := mend_exists (dataTo l g l.length) d
      by_cases hf : f = 0
      · subst hf
        by_cases h4 : ((flat X d).length : Int) < szI (szTo l g l.length)
        · exact ⟨_, _, read_4 hc ha hm h4⟩
        · exact ⟨_, _, read_5 hc ha hm (by omega)⟩
      · exact ⟨_, _, read_3 hc ha hm hf⟩
    · exact ⟨_, _, read_2 hc ha⟩
  · exact ⟨_, _, read_1 hc⟩
theorem lay_exists (b : List UInt8) (g d s : Int) : ∃ L e, LayR b g d s L e := by
  by_cases h1 : wrongC d s = 0
  · by_cases h2 : g < 0 ∨ 39 < g
    · exact ⟨_, _, lay_2 h1 h2⟩
    by_cases h3 : 400 * d < (b.length : Int)
    · exact ⟨_, _, lay_3 h1 h2 h3⟩
    have hc := wrongC_ok h1
    obtain ⟨d', rfl⟩ := Int.eq_ofNat_of_zero_le (a := d) (by omega)
    obtain ⟨s', rfl⟩ := Int.eq_ofNat_of_zero_le (a := s) (by omega)
    obtain ⟨g', rfl⟩ := Int.eq_ofNat_of_zero_le (a := g) (by omega)
    obtain ⟨S, e, hS⟩ := spare_exists (rowsD b d') (s' : Int)
    have hF := rowsD_fine (b := b) (d := d') (by omega) (by omega) (by omega)
    obtain ⟨_, rfl⟩ := SpareR.ok hF (by omega) (by omega) hS
    exact ⟨_, _, lay_4 h1 (by omega) (by omega) hS⟩
  · exact ⟨_, _, lay_1 h1⟩
end Go.Proofs.Ythhcdfjijagalaa.Stp
