/- Plain laws of events: what is wrong with them, their bytes, what is read of bytes; what is written is read, in one way alone. No program in sight. -/
import Derived.Test.YtjdgfijpmljhiaaMem
namespace Go.Proofs.Ytjdgfijpmljhiaa.Evt
set_option linter.unusedVariables false
structure Ev where
  s : ByteArray
  k : Int
  n : Int
structure Ba where
  c : Int
  evs : List Ev
def lst (s : ByteArray) : List UInt8 := s.data.toList
def okc (c : UInt8) : Bool := (decide (97 ≤ c.toNat) && decide (c.toNat ≤ 122)) || (decide (48 ≤ c.toNat) && decide (c.toNat ≤ 57))
def named (l : List UInt8) : Bool := decide (0 < l.length) && decide (l.length ≤ 10) && l.all okc
def wrongEv (e : Ev) : Int := if named (lst e.s) = false then 7 else if e.k < 1 ∨ 4 < e.k then 1 else if e.n < 0 ∨ 1000000 < e.n ∨ ((e.k = 1 ∨ e.k = 4) ∧ e.n ≠ 0) then 3 else 0
def fw : List Ev → Nat → Int × Int
  | [], _ => (0, 0)
  | e :: r, i => if wrongEv e ≠ 0 then (wrongEv e, (i : Int)) else fw r (i + 1)
def wrongBa (b : Ba) : Int × Int := if b.c < 1 ∨ 1000000 < b.c then (3, 0) else if b.evs.length < 1 ∨ 10 < b.evs.length then (5, 0) else fw b.evs 0
def fb : List Ba → Nat → Int × Int
  | [], _ => (0, 0)
  | b :: r, i => if (wrongBa b).1 ≠ 0 then ((wrongBa b).1, (i : Int)) else fb r (i + 1)
def three (n : Nat) : List UInt8 := [.ofNat (n / 65536), .ofNat (n / 256), .ofNat n]
def evBytes (e : Ev) : List UInt8 := UInt8.ofNat (lst e.s).length :: (lst e.s ++ UInt8.ofNat e.k.toNat :: three e.n.toNat)
def baBytes (b : Ba) : List UInt8 := three b.c.toNat ++ UInt8.ofNat b.evs.length :: b.evs.flatMap evBytes
def bytes (bs : List Ba) : List UInt8 := UInt8.ofNat bs.length :: bs.flatMap baBytes
/-- bytes, an error's number, and where -/
structure R where
  l : List UInt8
  err : Int
  at_ : Int
def bytesR (bs : List Ba) : R := if 150 < bs.length then ⟨[], 5, 0⟩ else if (fb bs 0).1 ≠ 0 then ⟨[], (fb bs 0).1, (fb bs 0).2⟩ else ⟨bytes bs, 0, 0⟩
/-- a reader: what is left, and whether all was there -/
structure St where
  l : List UInt8
  ok : Bool
def be (l : List UInt8) : Nat := l.foldl (fun n c => n * 256 + c.toNat) 0
def take (k : Nat) (t : St) : List UInt8 × St := if t.l.length < k then (List.replicate k 0, ⟨t.l, false⟩) else (t.l.take k, ⟨t.l.drop k, t.ok⟩)
def num (k : Nat) (t : St) : Nat × St := (be (take k t).1, (take k t).2)
def event (t : St) : Ev × St :=
  let a := num 1 t
  let s := take a.1 a.2
  let k := num 1 s.2
  let n := num 3 k.2
  (⟨⟨s.1.toArray⟩, k.1, n.1⟩, n.2)
def events : Nat → St → List Ev × St
  | 0, t => ([], t)
  | k + 1, t => if t.ok then let e := event t; let r := events k e.2; (e.1 :: r.1, r.2) else ([], t)
def batch (t : St) : Ba × St :=
  let c := num 3 t
  let k := num 1 c.2
  let es := events k.1 k.2
  (⟨c.1, es.1⟩, es.2)
def batches : Nat → St → List Ba × St
  | 0, t => ([], t)
  | k + 1, t => if t.ok then let b := batch t; let r := batches k b.2; (b.1 :: r.1, r.2) else ([], t)
structure PR where
  l : List Ba
  err : Int
def parse (l : List UInt8) : PR :=
  let n := num 1 ⟨l, true⟩
  let b := batches n.1 n.2
  if b.2.ok = false ∨ b.2.l ≠ [] then ⟨[], 2⟩ else if 150 < b.1.length then ⟨[], 5⟩ else if (fb b.1 0).1 ≠ 0 then ⟨[], (fb b.1 0).1⟩ else ⟨b.1, 0⟩

/-! ### what is wrong -/
theorem fw_zero (l : List Ev) : ∀ i, (fw l i).1 = 0 → ∀ e ∈ l, wrongEv e = 0 := by
  induction l with
  | nil => intro i _ e he; cases he
  | cons a l ih =>
    intro i h e he
    unfold fw at h
    split at h
    · rename_i h1; exact absurd h h1
    · rename_i h1
      rcases List.mem_cons.1 he with rfl | he
      · exact Classical.byContradiction h1
      · exact ih _ h e he
theorem fb_zero (l : List Ba) : ∀ i, (fb l i).1 = 0 → ∀ b ∈ l, (wrongBa b).1 = 0 := by
  induction l with
  | nil => intro i _ e he; cases he
  | cons a l ih =>
    intro i h e he
    unfold fb at h
    split at h
    · rename_i h1; exact absurd h h1
    · rename_i h1
      rcases List.mem_cons.1 he with rfl | he
      · exact Classical.byContradiction h1
      · exact ih _ h e he
theorem wrongEv_zero {e : Ev} (h : wrongEv e = 0) : named (lst e.s) = true ∧ 1 ≤ e.k ∧ e.k ≤ 4 ∧ 0 ≤ e.n ∧ e.n ≤ 1000000 := by
  unfold wrongEv at h
  split at h
  · cases h
  · rename_i h1
    split at h
    · cases h
    · split at h
      · cases h
      · exact ⟨by simpa using h1, by omega, by omega, by omega, by omega⟩
theorem named_len {l : List UInt8} (h : named l = true) : 0 < l.length ∧ l.length ≤ 10 := by
  unfold named at h
  simp only [Bool.and_eq_true, decide_eq_true_eq] at h
  exact h.1
theorem wrongBa_zero {b : Ba} (h : (wrongBa b).1 = 0) : 1 ≤ b.c ∧ b.c ≤ 1000000 ∧ 1 ≤ b.evs.length ∧ b.evs.length ≤ 10 ∧ ∀ e ∈ b.evs, wrongEv e = 0 := by
  unfold wrongBa at h
  split at h
  · cases h
  · split at h
    · cases h
    · exact ⟨by omega, by omega, by omega, by omega, fw_zero _ _ h⟩
/-! ### reading -/
theorem ofNat8 (n : Nat) : (UInt8.ofNat n).toNat = n % 256 := UInt8.toNat_ofNat'
theorem be1 (a : UInt8) : be [a] = a.toNat := by simp [be]
theorem be3 (a b c : UInt8) : be [a, b, c] = a.toNat * 65536 + b.toNat * 256 + c.toNat := by simp [be]; omega
theorem three_length (n : Nat) : (three n).length = 3 := rfl
theorem be_three (n : Nat) (h : n < 16777216) : be (three n) = n := by
  unfold three; rw [be3, ofNat8, ofNat8, ofNat8]; omega
theorem take_app (a r : List UInt8) (k : Nat) (ok : Bool) (h : a.length = k) : take k ⟨a ++ r, ok⟩ = (a, ⟨r, ok⟩) := by
  unfold take
  rw [if_neg (by rw [List.length_append]; omega)]
  simp only
  rw [List.take_left' h, List.drop_left' h]
theorem num1 (a : UInt8) (r : List UInt8) (ok : Bool) : num 1 ⟨a :: r, ok⟩ = (a.toNat, ⟨r, ok⟩) := by
  have := take_app [a] r 1 ok rfl
  unfold num
  rw [show a :: r = [a] ++ r from rfl, this, be1]
theorem num3 (n : Nat) (r : List UInt8) (ok : Bool) (h : n < 16777216) : num 3 ⟨three n ++ r, ok⟩ = (n, ⟨r, ok⟩) := by
  have := take_app (three n) r 3 ok rfl
  unfold num
  rw [this, be_three n h]
theorem event_bytes (e : Ev) (r : List UInt8) (ok : Bool) (h : wrongEv e = 0) : event ⟨evBytes e ++ r, ok⟩ = (e, ⟨r, ok⟩) := by
  obtain ⟨h1, h2, h3, h4, h5⟩ := wrongEv_zero h
  have h6 := named_len h1
  obtain ⟨s, k, n⟩ := e
  obtain ⟨k, rfl⟩ := Int.eq_ofNat_of_zero_le (a := k) (by simp at h2; omega)
  obtain ⟨n, rfl⟩ := Int.eq_ofNat_of_zero_le h4
  simp only at h2 h3 h5 h6
  unfold event evBytes
  simp only [List.cons_append, List.append_assoc, num1, ofNat8, Int.toNat_natCast]
  rw [show (lst s).length % 256 = (lst s).length by omega, take_app _ _ _ _ rfl]
  simp only [num1, ofNat8]
  rw [num3 n r ok (by omega)]
  simp only [show k % 256 = k by omega, Prod.mk.injEq, Ev.mk.injEq, and_true]
  unfold lst; simp
theorem events_bytes (es : List Ev) (r : List UInt8) (h : ∀ e ∈ es, wrongEv e = 0) : events es.length ⟨es.flatMap evBytes ++ r, true⟩ = (es, ⟨r, true⟩) := by
  induction es with
  | nil => rfl
  | cons e es ih =>
    simp only [List.length_cons, events, List.flatMap_cons, List.append_assoc, if_true]
    rw [event_bytes e _ true (h e (List.mem_cons_self ..))]
    simp only
    rw [ih (fun x hx => h x (List.mem_cons_of_mem _ hx))]
theorem batch_bytes (b : Ba) (r : List UInt8) (h : (wrongBa b).1 = 0) : batch ⟨baBytes b ++ r, true⟩ = (b, ⟨r, true⟩) := by
  obtain ⟨h1, h2, h3, h4, h5⟩ := wrongBa_zero h
  obtain ⟨c, es⟩ := b
  obtain ⟨c, rfl⟩ := Int.eq_ofNat_of_zero_le (a := c) (by simp at h1; omega)
  simp only at h2 h3 h4 h5
  unfold batch baBytes
  simp only [List.append_assoc, Int.toNat_natCast, List.cons_append]
  rw [num3 c _ _ (by omega)]
  simp only [num1, ofNat8]
  rw [show es.length % 256 = es.length by omega, events_bytes es r h5]
theorem batches_bytes (bs : List Ba) (r : List UInt8) (h : ∀ b ∈ bs, (wrongBa b).1 = 0) : batches bs.length ⟨bs.flatMap baBytes ++ r, true⟩ = (bs, ⟨r, true⟩) := by
  induction bs with
  | nil => rfl
  | cons e es ih =>
    simp only [List.length_cons, batches, List.flatMap_cons, List.append_assoc, if_true]
    rw [batch_bytes e _ (h e (List.mem_cons_self ..))]
    simp only
    rw [ih (fun x hx => h x (List.mem_cons_of_mem _ hx))]
/-- WHAT IS WRITTEN IS READ. -/
theorem parse_bytes (bs : List Ba) (h : (bytesR bs).err = 0) : parse (bytesR bs).l = ⟨bs, 0⟩ := by
  unfold bytesR at *
  split at h
  · cases h
  · rename_i h1
    rw [if_neg h1]
    split at h
    · rename_i h2; exact absurd h h2
    · rename_i h2
      rw [if_neg h2]
      have h2 : (fb bs 0).1 = 0 := Classical.byContradiction h2
      simp only
      unfold parse bytes
      simp only [num1, ofNat8]
      have := batches_bytes bs [] (fb_zero bs 0 h2)
      rw [List.append_nil] at this
      rw [show bs.length % 256 = bs.length by omega, this]
      simp only
      rw [if_neg (by simp), if_neg h1, if_neg (fun h => h h2)]
theorem parse_zero (l : List UInt8) (h : (parse l).err ≠ 0) : (parse l).l = [] := by
  unfold parse at *
  simp only at *
  split
  · rfl
  · split
    · rfl
    · split
      · rfl
      · rename_i h1 h2 h3
        rw [if_neg h1, if_neg h2, if_neg h3] at h
        exact absurd rfl h
/-! ### what is read is what its bytes are -/
theorem take_ok {k : Nat} {t : St} (h : (take k t).2.ok = true) : t.ok = true ∧ (take k t).1.length = k ∧ t.l = (take k t).1 ++ (take k t).2.l := by
  unfold take at *
  split
  · rename_i h1; rw [if_pos h1] at h; cases h
  · rename_i h1
    rw [if_neg h1] at h
    exact ⟨h, by rw [List.length_take]; omega, (List.take_append_drop k t.l).symm⟩
theorem num_ok1 {t : St} (h : (num 1 t).2.ok = true) : t.ok = true ∧ (num 1 t).1 < 256 ∧ t.l = UInt8.ofNat (num 1 t).1 :: (num 1 t).2.l := by
  obtain ⟨h1, h2, h3⟩ := take_ok (t := t) (k := 1) h
  obtain ⟨a, ha⟩ : ∃ a, (take 1 t).1 = [a] := by
    match hm : (take 1 t).1, h2 with
    | [a], _ => exact ⟨a, rfl⟩
  have hn : (num 1 t).1 = a.toNat := by unfold num; rw [ha, be1]
  refine ⟨h1, by rw [hn]; exact UInt8.toNat_lt _, ?_⟩
  rw [hn, UInt8.ofNat_toNat, h3, ha]; rfl
theorem num_ok3 {t : St} (h : (num 3 t).2.ok = true) : t.ok = true ∧ (num 3 t).1 < 16777216 ∧ t.l = three (num 3 t).1 ++ (num 3 t).2.l := by
  obtain ⟨h1, h2, h3⟩ := take_ok (t := t) (k := 3) h
  obtain ⟨a, b, c, ha⟩ : ∃ a b c, (take 3 t).1 = [a, b, c] := by
    match hm : (take 3 t).1, h2 with
    | [a, b, c], _ => exact ⟨a, b, c, rfl⟩
  have hn : (num 3 t).1 = a.toNat * 65536 + b.toNat * 256 + c.toNat := by unfold num; rw [ha, be3]
  have la := UInt8.toNat_lt a
  have lb := UInt8.toNat_lt b
  have lc := UInt8.toNat_lt c
  refine ⟨h1, by omega, ?_⟩
  rw [h3, ha, hn]
  have e1 : UInt8.ofNat ((a.toNat * 65536 + b.toNat * 256 + c.toNat) / 65536) = a := UInt8.toNat_inj.1 (by rw [ofNat8]; omega)
  have e2 : UInt8.ofNat ((a.toNat * 65536 + b.toNat * 256 + c.toNat) / 256) = b := UInt8.toNat_inj.1 (by rw [ofNat8]; omega)
  have e3 : UInt8.ofNat (a.toNat * 65536 + b.toNat * 256 + c.toNat) = c := UInt8.toNat_inj.1 (by rw [ofNat8]; omega)
  unfold three
  rw [e1, e2, e3]; rfl
theorem event_ok {t : St} (h : (event t).2.ok = true) : t.ok = true ∧ t.l = evBytes (event t).1 ++ (event t).2.l := by
  unfold event at *
  simp only at *
  obtain ⟨h1, h2, h3⟩ := num_ok3 h
  obtain ⟨h4, h5, h6⟩ := num_ok1 h1
  obtain ⟨h7, h8, h9⟩ := take_ok h4
  obtain ⟨ha, hb, hc⟩ := num_ok1 h7
  refine ⟨ha, ?_⟩
  unfold evBytes lst
  simp only [Int.toNat_natCast, List.cons_append, List.append_assoc]
  rw [h8, ← h3, ← h6, ← h9, ← hc]
theorem events_ok : ∀ (k : Nat) {t : St}, (events k t).2.ok = true → t.ok = true ∧ (events k t).1.length = k ∧ t.l = (events k t).1.flatMap evBytes ++ (events k t).2.l := by
  intro k
  induction k with
  | zero => intro t h; exact ⟨h, rfl, rfl⟩
  | succ k ih =>
    intro t h
    unfold events at h ⊢
    split at h
    · rename_i h1
      rw [if_pos h1]
      simp only at *
      obtain ⟨h2, h3, h4⟩ := ih h
      obtain ⟨h5, h6⟩ := event_ok h2
      refine ⟨h5, by rw [List.length_cons, h3], ?_⟩
      rw [List.flatMap_cons, List.append_assoc, ← h4, ← h6]
    · rename_i h1; exact absurd h h1
theorem batch_ok {t : St} (h : (batch t).2.ok = true) : t.ok = true ∧ t.l = baBytes (batch t).1 ++ (batch t).2.l := by
  unfold batch at *
  simp only at *
  obtain ⟨h1, h2, h3⟩ := events_ok _ h
  obtain ⟨h4, h5, h6⟩ := num_ok1 h1
  obtain ⟨h7, h8, h9⟩ := num_ok3 h4
  refine ⟨h7, ?_⟩
  unfold baBytes
  simp only [Int.toNat_natCast, List.cons_append, List.append_assoc]
  rw [h2, ← h3, ← h6, ← h9]
theorem batches_ok : ∀ (k : Nat) {t : St}, (batches k t).2.ok = true → t.ok = true ∧ (batches k t).1.length = k ∧ t.l = (batches k t).1.flatMap baBytes ++ (batches k t).2.l := by
  intro k
  induction k with
  | zero => intro t h; exact ⟨h, rfl, rfl⟩
  | succ k ih =>
    intro t h
    unfold batches at h ⊢
    split at h
    · rename_i h1
      rw [if_pos h1]
      simp only at *
      obtain ⟨h2, h3, h4⟩ := ih h
      obtain ⟨h5, h6⟩ := batch_ok h2
      refine ⟨h5, by rw [List.length_cons, h3], ?_⟩
      rw [List.flatMap_cons, List.append_assoc, ← h4, ← h6]
    · rename_i h1; exact absurd h h1
/-- IN ONE WAY ALONE. -/
theorem parse_back (l : List UInt8) (h : (parse l).err = 0) : bytesR (parse l).l = ⟨l, 0, 0⟩ := by
  unfold parse at *
  simp only at *
  split at h
  · cases h
  · rename_i h1
    rw [if_neg h1]
    split at h
    · cases h
    · rename_i h2
      rw [if_neg h2]
      split at h
      · rename_i h3; exact absurd h h3
      · rename_i h3
        rw [if_neg h3]
        have hok : (batches (num 1 ⟨l, true⟩).1 (num 1 ⟨l, true⟩).2).2.ok = true := by
          cases hh : (batches (num 1 ⟨l, true⟩).1 (num 1 ⟨l, true⟩).2).2.ok with
          | true => rfl
          | false => exact absurd (.inl hh) h1
        have hl : (batches (num 1 ⟨l, true⟩).1 (num 1 ⟨l, true⟩).2).2.l = [] := Classical.byContradiction fun hh => h1 (.inr hh)
        obtain ⟨g1, g2, g3⟩ := batches_ok _ hok
        obtain ⟨g4, g5, g6⟩ := num_ok1 g1
        simp only
        unfold bytesR
        rw [if_neg h2, if_neg h3]
        unfold bytes
        rw [g2]
        rw [hl, List.append_nil] at g3
        rw [← g3]
        exact congrArg (fun x => R.mk x 0 0) g6.symm
end Go.Proofs.Ytjdgfijpmljhiaa.Evt
