/- Contracts: comparing strings, finding an account's place. -/
import Derived.Test.YtjdgfijpmljhiaaViewA
namespace Go.Proofs.Ytjdgfijpmljhiaa
open Go.RowKit
set_option linter.unusedVariables false
theorem less_eq' : ∀ (x y : List UInt8), Op.bytesLess x y = decide (x < y)
  | [], [] => by simp [Op.bytesLess]
  | _ :: _, [] => by simp [Op.bytesLess]
  | [], _ :: _ => by simp [Op.bytesLess]
  | a :: x, b :: y => by
    rw [Op.bytesLess, less_eq' x y]
    by_cases h : a = b <;> simp [h, List.cons_lt_cons_iff]
theorem less_str' (a b : ByteArray) : Op.bytesLess a.toList b.toList = decide (Evt.lst a < Evt.lst b) := by
  rw [less_eq', ByteArray.toList_eq, ByteArray.toList_eq]; rfl
/-- less, alike, more -/
def cmpI (a b : List UInt8) : Int := if a < b then -1 else if b < a then 1 else 0

theorem nanStr_call (a : ByteArray) (w : World) : Calls Try.prog 55 #[.string a] w (Same (.bool false) w) := by
  have e1 : (a.toList == a.toList) = true := by simp
  go_enter Try.func55, Try.ntmps55
  go_wp2_with fail
  go_ret
  exact ⟨rfl, rfl⟩

set_option maxHeartbeats 1000000 in
theorem cmpStr_call (a b : ByteArray) (w : World) : Calls Try.prog 42 #[.string a, .string b] w (Same (.int .i64 (cmpI (Evt.lst a) (Evt.lst b))) w) := by
  have HC := hid (show cmpI (Evt.lst a) (Evt.lst b) = if Evt.lst a < Evt.lst b then -1 else if Evt.lst b < Evt.lst a then 1 else 0 from rfl)
  by_cases h1 : Evt.lst a < Evt.lst b
  · have e1 : Op.bytesLess a.toList b.toList = true := by rw [less_str', decide_eq_true h1]
    have HR := hid (HC.out.trans (if_pos h1))
    rw [HR.out]
    clear h1 HC HR
    go_enter Try.func42, Try.ntmps42
    go_wp2_with fail
    go_at_call 55; refine (nanStr_call _ _).mono ?_; rintro e w1 ⟨rfl, rfl⟩
    go_wp2_with fail
    go_at_call 55; refine (nanStr_call _ _).mono ?_; rintro e w1 ⟨rfl, rfl⟩
    go_wp2_with fail
    go_ret
    exact ⟨rfl, rfl⟩
  · have e1 : Op.bytesLess a.toList b.toList = false := by rw [less_str', decide_eq_false h1]
    by_cases h2 : Evt.lst b < Evt.lst a
    · have e2 : Op.bytesLess b.toList a.toList = true := by rw [less_str', decide_eq_true h2]
      have HR := hid (HC.out.trans ((if_neg h1).trans (if_pos h2)))
      rw [HR.out]
      have e3 : (a.toList == b.toList) = false := by
        rw [str_list, decide_eq_false]
        rintro rfl
        exact h1 h2
      clear h1 h2 HC HR
      go_enter Try.func42, Try.ntmps42
      go_wp2_with fail
      go_at_call 55; refine (nanStr_call _ _).mono ?_; rintro e w1 ⟨rfl, rfl⟩
      go_wp2_with fail
      go_at_call 55; refine (nanStr_call _ _).mono ?_; rintro e w1 ⟨rfl, rfl⟩
      go_wp2_with fail
      go_ret
      exact ⟨rfl, rfl⟩
    · have e2 : Op.bytesLess b.toList a.toList = false := by rw [less_str', decide_eq_false h2]
      have HR := hid (HC.out.trans ((if_neg h1).trans (if_neg h2)))
      rw [HR.out]
      have hab : Evt.lst a = Evt.lst b := List.le_antisymm (List.not_lt.1 h2) (List.not_lt.1 h1)
      have e3 : (a.toList == b.toList) = true := by
        rw [ByteArray.toList_eq, ByteArray.toList_eq]
        have : a.data.toList = b.data.toList := hab
        rw [this]; simp
      clear h1 h2 HC HR hab
      go_enter Try.func42, Try.ntmps42
      go_wp2_with fail
      go_at_call 55; refine (nanStr_call _ _).mono ?_; rintro e w1 ⟨rfl, rfl⟩
      go_wp2_with fail
      go_at_call 55; refine (nanStr_call _ _).mono ?_; rintro e w1 ⟨rfl, rfl⟩
      go_wp2_with fail
      go_ret
      exact ⟨rfl, rfl⟩

set_option maxHeartbeats 1000000 in
theorem vApply1_call (a : Vw.Acc) (s : ByteArray) (w : World) : Calls Try.prog 41 #[acVal a, .string s] w (Grew (.int .i64 (cmpI (Vw.key a) (Evt.lst s))) w) := by
  obtain ⟨t, m, c, o⟩ := a
  unfold acVal Vw.key
  simp only
  have D := hid (fun W => cmpStr_call t s W)
  generalize cmpI (Evt.lst t) (Evt.lst s) = r at *
  go_enter Try.func41, Try.ntmps41
  go_wp2_with fail
  go_at_call 42; refine (D.out _).mono ?_; rintro e w1 ⟨rfl, rfl⟩
  go_wp2_with fail
  go_ret
  exact ⟨rfl, (Below.refl _ _).alloc (Nat.le_refl _) _⟩

/-- It returns where it stands, or would stand; and whether it stands there. -/
def Found (l : List Vw.Acc) (s : ByteArray) (w : World) (e : Ending) (w' : World) : Prop :=
  ∃ i : Nat, i ≤ l.length ∧ e = .returned (.tuple #[.int .i64 (i : Int), .bool (decide ((l[i]?).map Vw.key = some (Evt.lst s)))]) ∧ (∀ j (h : j < l.length), j < i → Vw.key l[j] < Evt.lst s) ∧ (∀ j (h : j < l.length), i ≤ j → ¬ Vw.key l[j] < Evt.lst s) ∧ Below w.heap.size w w'
theorem cmpI_neg {a b : List UInt8} : cmpI a b < 0 ↔ a < b := by
  unfold cmpI
  by_cases h : a < b
  · rw [if_pos h]; simp [h]
  · rw [if_neg h]
    by_cases h2 : b < a
    · rw [if_pos h2]; simp [h]
    · rw [if_neg h2]; simp [h]
theorem cmpI_zero {a b : List UInt8} : cmpI a b = 0 ↔ a = b := by
  unfold cmpI
  by_cases h : a < b
  · rw [if_pos h]
    exact ⟨fun e => absurd e (by decide), fun e => by subst e; exact absurd h (List.lt_irrefl _)⟩
  · rw [if_neg h]
    by_cases h2 : b < a
    · rw [if_pos h2]
      exact ⟨fun e => absurd e (by decide), fun e => by subst e; exact absurd h2 (List.lt_irrefl _)⟩
    · rw [if_neg h2]
      exact ⟨fun _ => List.le_antisymm (List.not_lt.1 h2) (List.not_lt.1 h), fun _ => rfl⟩
/-- the accounts rise -/
def Rises (l : List Vw.Acc) : Prop := ∀ i j (hi : i < l.length) (hj : j < l.length), i < j → Vw.key l[i] < Vw.key l[j]
set_option maxHeartbeats 2000000 in
theorem searchAcc_call (a : Option Addr) (n cap : Nat) (l : List Vw.Acc) (s : ByteArray) (w : World) (h : As w a n cap l) (hr : Rises l) (hn : n ≤ 1000) : Calls Try.prog 40 #[.slice a n cap, .string s, .func (Fn.func 41) #[] #[]] w (Found l s w) := by
  have HN := hid h.cnt
  have HR := hid hr
  clear hr
  go_enter Try.func40, Try.ntmps40
  go_wp2_with fail
  go_loopg [9, 10] n (fun g s9 s10 wr => ∃ i j : Nat, g = j - i ∧ i ≤ j ∧ j ≤ n ∧ s9 = .int .i64 (i : Int) ∧ s10 = .int .i64 (j : Int) ∧ Below w.heap.size w wr ∧ Hid (∀ k (hk : k < l.length), k < i → Vw.key l[k] < Evt.lst s) ∧ Hid (∀ k (hk : k < l.length), j ≤ k → ¬ Vw.key l[k] < Evt.lst s))
  case atStart => exact ⟨0, n, rfl, by omega, by omega, rfl, rfl, Below.refl _ _, hid (fun k _ hk => absurd hk (by omega)), hid (fun k hk hk2 => absurd hk (by rw [HN.out]; omega))⟩
  case round =>
    obtain ⟨i, j, rfl, hij, hjn, rfl, rfl, hb, HA, HB⟩ := hrel
    by_cases hlt : i < j
    · obtain ⟨b, off, rfl, _⟩ := h.sl.addr (by omega)
      obtain ⟨m, hm⟩ : ∃ m, m = (i + j) / 2 := ⟨_, rfl⟩
      have hmj : m < j := by omega
      have him : i ≤ m := by omega
      have hml : m < l.length := by rw [HN.out]; omega
      obtain ⟨q0, q1, q2, q3⟩ := (h.below hb).at m hml
      have D := hid (fun W => vApply1_call l[m] s W)
      have s1 : IntKind.i64.wrap ((i : Int) + (j : Int)) = (i : Int) + (j : Int) := IntWalk.i64_in _ (by omega)
      have s2 : IntKind.u64.wrap ((i : Int) + (j : Int)) = (i : Int) + (j : Int) := IntWalk.u64_in _ (by omega)
      have s3 : ((i : Int) + (j : Int)) / 2 = (m : Int) := by omega
      have i0 : (0 : Int) ≤ (m : Int) := by omega
      have i1 : (m : Int) < (n : Int) := by omega
      replace hm := hid hm
      obtain ⟨ac, hac⟩ : ∃ ac, l[m] = ac := ⟨_, rfl⟩
      rw [hac] at q0 q1 q2 q3 D
      replace hac := hid hac
      obtain ⟨t, sm, cn, o⟩ := ac
      simp only at q0 q1 q2 q3
      unfold acVal at D
      by_cases hless : Vw.key l[m] < Evt.lst s
      · have hneg := cmpI_neg.2 hless
        rw [hac.out] at hneg
        obtain ⟨r, hr⟩ : ∃ r, cmpI (Vw.key (⟨t, sm, cn, o⟩ : Vw.Acc)) (Evt.lst s) = r := ⟨_, rfl⟩
        rw [hr] at hneg D
        replace hr := hid hr
        have HL := hid hless
        clear hless
        go_wp2_with fail
        go_at_call 41; refine (D.out _).mono ?_; rintro e w1 ⟨rfl, b1⟩
        go_wp2_with fail
        go_roundg (j - (m + 1))
        case measure => omega
        case rel =>
          refine ⟨m + 1, j, rfl, by omega, by omega, by go_num, rfl, bnext hb b1, hid (fun k hk hkm => ?_), HB⟩
          by_cases e : k = m
          · subst e; exact HL.out
          · exact List.lt_trans (HR.out k m hk hml (by omega)) HL.out
      · have hneg : ¬ cmpI (Vw.key l[m]) (Evt.lst s) < 0 := fun hh => hless (cmpI_neg.1 hh)
        rw [hac.out] at hneg
        obtain ⟨r, hr⟩ : ∃ r, cmpI (Vw.key (⟨t, sm, cn, o⟩ : Vw.Acc)) (Evt.lst s) = r := ⟨_, rfl⟩
        rw [hr] at hneg D
        replace hr := hid hr
        have HL := hid hless
        clear hless
        go_wp2_with fail
        go_at_call 41; refine (D.out _).mono ?_; rintro e w1 ⟨rfl, b1⟩
        go_wp2_with fail
        go_roundg (m - i)
        case measure => omega
        case rel =>
          refine ⟨i, m, rfl, by omega, by omega, rfl, by go_num, bnext hb b1, HA, hid (fun k hk hkm hh => ?_)⟩
          by_cases e : k = m
          · subst e; exact HL.out hh
          · exact HL.out (List.lt_trans (HR.out m k hml hk (by omega)) hh)
    · obtain rfl : i = j := by omega
      clear hlt hij
      by_cases hin : i < n
      · have hil : i < l.length := by rw [HN.out]; exact hin
        obtain ⟨b, off, rfl, _⟩ := h.sl.addr (by omega)
        obtain ⟨q0, q1, q2, q3⟩ := (h.below hb).at i hil
        have D := hid (fun W => vApply1_call l[i] s W)
        have hz := cmpI_zero (a := Vw.key l[i]) (b := Evt.lst s)
        have hdec : (decide ((l[i]?).map Vw.key = some (Evt.lst s))) = (cmpI (Vw.key l[i]) (Evt.lst s) == 0) := by
          rw [List.getElem?_eq_getElem hil, Option.map_some]
          by_cases e : Vw.key l[i] = Evt.lst s
          · rw [hz.2 e, decide_eq_true (congrArg some e)]; rfl
          · rw [decide_eq_false (fun e' => e (Option.some.inj e'))]
            exact (beq_eq_false_iff_ne.2 (fun hh => e (hz.1 hh))).symm
        replace hdec := hid hdec
        replace hz := hid hz
        obtain ⟨ac, hac⟩ : ∃ ac, l[i] = ac := ⟨_, rfl⟩
        rw [hac] at q0 q1 q2 q3 D hdec
        replace hac := hid hac
        obtain ⟨t, sm, cn, o⟩ := ac
        simp only at q0 q1 q2 q3
        unfold acVal at D
        obtain ⟨r, hr⟩ : ∃ r, cmpI (Vw.key (⟨t, sm, cn, o⟩ : Vw.Acc)) (Evt.lst s) = r := ⟨_, rfl⟩
        rw [hr] at D hdec
        replace hr := hid hr
        have u0 : (i : Int) < (n : Int) := by omega
        go_wp2_with fail
        go_at_call 41; refine (D.out _).mono ?_; rintro e w1 ⟨rfl, b1⟩
        go_wp2_with fail
        go_ret2
        exact ⟨i, by omega, by rw [hdec.out]; rfl, HA.out, HB.out, bnext hb b1⟩
      · obtain rfl : n = i := by omega
        have hdec := hid (decide_eq_false (p := (l[n]?).map Vw.key = some (Evt.lst s)) (fun e => by rw [List.getElem?_eq_none (by rw [HN.out]; exact Nat.le_refl _)] at e; cases e))
        go_wp2_with fail
        go_ret2
        exact ⟨n, by rw [HN.out]; exact Nat.le_refl _, by rw [hdec.out]; rfl, HA.out, HB.out, hb⟩

end Go.Proofs.Ytjdgfijpmljhiaa
