/- Joined, and what is not used struck: ViewC, ViewD. -/
import Derived.Test.YthhcdfjijagalaaM11
import Derived.Test.YthhcdfjijagalaaM03
import Derived.Lib.AppendZerosOnto
import Derived.Lib.Overlaps
import Derived.Laws.Externs
namespace Go.Proofs.Ythhcdfjijagalaa
open Go.RowKit
set_option linter.unusedVariables false
theorem less_eq' : ∀ (x y : List UInt8), Op.bytesLess x y = decide (x < y)
  | [], [] => by simp [Op.bytesLess]
  | _ :: _, [] => by simp [Op.bytesLess]
  | [], _ :: _ => by simp [Op.bytesLess]
  | a :: x, b :: y => by
    rw [Op.bytesLess, less_eq' x y]
    by_cases h : a = b <;> simp [h, List.cons_lt_cons_iff]
theorem less_str' (a b : ByteArray) : Op.bytesLess a.toList b.toList = decide (Evt.lst a < Evt.lst b) := by
  rw [less_eq', ByteArray.toList_eq, ByteArray.toList_eq]; rfl
/-- less, alike, more -/
def cmpI (a b : List UInt8) : Int := if a < b then -1 else if b < a then 1 else 0
theorem nanStr_call (a : ByteArray) (w : World) : Calls Try.prog 69 #[.string a] w (Same (.bool false) w) := by
  have e1 : (a.toList == a.toList) = true := by simp
  go_enter Try.func69, Try.ntmps69
  go_wp2_with fail
  go_ret
  exact ⟨rfl, rfl⟩
set_option maxHeartbeats 1000000 in
theorem cmpStr_call (a b : ByteArray) (w : World) : Calls Try.prog 50 #[.string a, .string b] w (Same (.int .i64 (cmpI (Evt.lst a) (Evt.lst b))) w) := by
  have HC := hid (show cmpI (Evt.lst a) (Evt.lst b) = if Evt.lst a < Evt.lst b then -1 else if Evt.lst b < Evt.lst a then 1 else 0 from rfl)
  by_cases h1 : Evt.lst a < Evt.lst b
  · have e1 : Op.bytesLess a.toList b.toList = true := by rw [less_str', decide_eq_true h1]
    have HR := hid (HC.out.trans (if_pos h1))
    rw [HR.out]
    clear h1 HC HR
    go_enter Try.func50, Try.ntmps50
    go_wp2_with fail
    go_at_call 69; refine (nanStr_call _ _).mono ?_; rintro e w1 ⟨rfl, rfl⟩
    go_wp2_with fail
    go_at_call 69; refine (nanStr_call _ _).mono ?_; rintro e w1 ⟨rfl, rfl⟩
    go_wp2_with fail
    go_ret
    exact ⟨rfl, rfl⟩
  · have e1 : Op.bytesLess a.toList b.toList = false := by rw [less_str', decide_eq_false h1]
    by_cases h2 : Evt.lst b < Evt.lst a
    · have e2 : Op.bytesLess b.toList a.toList = true := by rw [less_str', decide_eq_true h2]
      have HR := hid (HC.out.trans ((if_neg h1).trans (if_pos h2)))
      rw [HR.out]
      have e3 : (a.toList == b.toList) = false := by
        rw [str_list, decide_eq_false]
        rintro rfl
        exact h1 h2
      clear h1 h2 HC HR
      go_enter Try.func50, Try.ntmps50
      go_wp2_with fail
      go_at_call 69; refine (nanStr_call _ _).mono ?_; rintro e w1 ⟨rfl, rfl⟩
      go_wp2_with fail
      go_at_call 69; refine (nanStr_call _ _).mono ?_; rintro e w1 ⟨rfl, rfl⟩
      go_wp2_with fail
      go_ret
      exact ⟨rfl, rfl⟩
    · have e2 : Op.bytesLess b.toList a.toList = false := by rw [less_str', decide_eq_false h2]
      have HR := hid (HC.out.trans ((if_neg h1).trans (if_neg h2)))
      rw [HR.out]
      have hab : Evt.lst a = Evt.lst b := List.le_antisymm (List.not_lt.1 h2) (List.not_lt.1 h1)
      have e3 : (a.toList == b.toList) = true := by
        rw [ByteArray.toList_eq, ByteArray.toList_eq]
        have : a.data.toList = b.data.toList := hab
        rw [this]; simp
      clear h1 h2 HC HR hab
      go_enter Try.func50, Try.ntmps50
      go_wp2_with fail
      go_at_call 69; refine (nanStr_call _ _).mono ?_; rintro e w1 ⟨rfl, rfl⟩
      go_wp2_with fail
      go_at_call 69; refine (nanStr_call _ _).mono ?_; rintro e w1 ⟨rfl, rfl⟩
      go_wp2_with fail
      go_ret
      exact ⟨rfl, rfl⟩
set_option maxHeartbeats 1000000 in
theorem vApply1_call (a : Vw.Acc) (s : ByteArray) (w : World) : Calls Try.prog 49 #[acVal a, .string s] w (Grew (.int .i64 (cmpI (Vw.key a) (Evt.lst s))) w) := by
  obtain ⟨t, m, c, o⟩ := a
  unfold acVal Vw.key
  simp only
  have D := hid (fun W => cmpStr_call t s W)
  generalize cmpI (Evt.lst t) (Evt.lst s) = r at *
  go_enter Try.func49, Try.ntmps49
  go_wp2_with fail
  go_at_call 50; refine (D.out _).mono ?_; rintro e w1 ⟨rfl, rfl⟩
  go_wp2_with fail
  go_ret
  exact ⟨rfl, (Below.refl _ _).alloc (Nat.le_refl _) _⟩
/-- It returns where it stands, or would stand; and whether it stands there. -/
def Found (l : List Vw.Acc) (s : ByteArray) (w : World) (e : Ending) (w' : World) : Prop :=
  ∃ i : Nat, i ≤ l.length ∧ e = .returned (.tuple #[.int .i64 (i : Int), .bool (decide ((l[i]?).map Vw.key = some (Evt.lst s)))]) ∧ (∀ j (h : j < l.length), j < i → Vw.key l[j] < Evt.lst s) ∧ (∀ j (h : j < l.length), i ≤ j → ¬ Vw.key l[j] < Evt.lst s) ∧ Below w.heap.size w w'
theorem cmpI_neg {a b : List UInt8} : cmpI a b < 0 ↔ a < b := by
  unfold cmpI
  by_cases h : a < b
  · rw [if_pos h]; simp [h]
  · rw [if_neg h]
    by_cases h2 : b < a
    · rw [if_pos h2]; simp [h]
    · rw [if_neg h2]; simp [h]
theorem cmpI_zero {a b : List UInt8} : cmpI a b = 0 ↔ a = b := by
  unfold cmpI
  by_cases h : a < b
  · rw [if_pos h]
    exact ⟨fun e => absurd e (by decide), fun e => by subst e; exact absurd h (List.lt_irrefl _)⟩
  · rw [if_neg h]
    by_cases h2 : b < a
    · rw [if_pos h2]
      exact ⟨fun e => absurd e (by decide), fun e => by subst e; exact absurd h2 (List.lt_irrefl _)⟩
    · rw [if_neg h2]
      exact ⟨fun _ => List.le_antisymm (List.not_lt.1 h2) (List.not_lt.1 h), fun _ => rfl⟩
/-- the accounts rise -/
def Rises (l : List Vw.Acc) : Prop := ∀ i j (hi : i < l.length) (hj : j < l.length), i < j → Vw.key l[i] < Vw.key l[j]
set_option maxHeartbeats 2000000 in
theorem searchAcc_call (a : Option Addr) (n cap : Nat) (l : List Vw.Acc) (s : ByteArray) (w : World) (h : As w a n cap l) (hr : Rises l) (hn : n ≤ 1000) : Calls Try.prog 48 #[.slice a n cap, .string s, .func (Fn.func 49) #[] #[]] w (Found l s w) := by
  have HN := hid h.cnt
  have HR := hid hr
  clear hr
  go_enter Try.func48, Try.ntmps48
  go_wp2_with fail
  go_loopg [9, 10] n (fun g s9 s10 wr => ∃ i j : Nat, g = j - i ∧ i ≤ j ∧ j ≤ n ∧ s9 = .int .i64 (i : Int) ∧ s10 = .int .i64 (j : Int) ∧ Below w.heap.size w wr ∧ Hid (∀ k (hk : k < l.length), k < i → Vw.key l[k] < Evt.lst s) ∧ Hid (∀ k (hk : k < l.length), j ≤ k → ¬ Vw.key l[k] < Evt.lst s))
  case atStart => exact ⟨0, n, rfl, by omega, by omega, rfl, rfl, Below.refl _ _, hid (fun k _ hk => absurd hk (by omega)), hid (fun k hk hk2 => absurd hk (by rw [HN.out]; omega))⟩
  case round =>
    obtain ⟨i, j, rfl, hij, hjn, rfl, rfl, hb, HA, HB⟩ := hrel
    by_cases hlt : i < j
    · obtain ⟨b, off, rfl, _⟩ := h.sl.addr (by omega)
      obtain ⟨m, hm⟩ : ∃ m, m = (i + j) / 2 := ⟨_, rfl⟩
      have hmj : m < j := by omega
      have him : i ≤ m := by omega
      have hml : m < l.length := by rw [HN.out]; omega
      obtain ⟨q0, q1, q2, q3⟩ := (h.below hb).at m hml
      have D := hid (fun W => vApply1_call l[m] s W)
      have s1 : IntKind.i64.wrap ((i : Int) + (j : Int)) = (i : Int) + (j : Int) := IntWalk.i64_in _ (by omega)
      have s2 : IntKind.u64.wrap ((i : Int) + (j : Int)) = (i : Int) + (j : Int) := IntWalk.u64_in _ (by omega)
      have s3 : ((i : Int) + (j : Int)) / 2 = (m : Int) := by omega
      have i0 : (0 : Int) ≤ (m : Int) := by omega
      have i1 : (m : Int) < (n : Int) := by omega
      replace hm := hid hm
      obtain ⟨ac, hac⟩ : ∃ ac, l[m] = ac := ⟨_, rfl⟩
      rw [hac] at q0 q1 q2 q3 D
      replace hac := hid hac
      obtain ⟨t, sm, cn, o⟩ := ac
      simp only at q0 q1 q2 q3
      unfold acVal at D
      by_cases hless : Vw.key l[m] < Evt.lst s
      · have hneg := cmpI_neg.2 hless
        rw [hac.out] at hneg
        obtain ⟨r, hr⟩ : ∃ r, cmpI (Vw.key (⟨t, sm, cn, o⟩ : Vw.Acc)) (Evt.lst s) = r := ⟨_, rfl⟩
        rw [hr] at hneg D
        replace hr := hid hr
        have HL := hid hless
        clear hless
        go_wp2_with fail
        go_at_call 49; refine (D.out _).mono ?_; rintro e w1 ⟨rfl, b1⟩
        go_wp2_with fail
        go_roundg (j - (m + 1))
        case measure => omega
        case rel =>
          refine ⟨m + 1, j, rfl, by omega, by omega, by go_num, rfl, bnext hb b1, hid (fun k hk hkm => ?_), HB⟩
          by_cases e : k = m
          · subst e; exact HL.out
          · exact List.lt_trans (HR.out k m hk hml (by omega)) HL.out
      · have hneg : ¬ cmpI (Vw.key l[m]) (Evt.lst s) < 0 := fun hh => hless (cmpI_neg.1 hh)
        rw [hac.out] at hneg
        obtain ⟨r, hr⟩ : ∃ r, cmpI (Vw.key (⟨t, sm, cn, o⟩ : Vw.Acc)) (Evt.lst s) = r := ⟨_, rfl⟩
        rw [hr] at hneg D
        replace hr := hid hr
        have HL := hid hless
        clear hless
        go_wp2_with fail
        go_at_call 49; refine (D.out _).mono ?_; rintro e w1 ⟨rfl, b1⟩
        go_wp2_with fail
        go_roundg (m - i)
        case measure => omega
        case rel =>
          refine ⟨i, m, rfl, by omega, by omega, rfl, by go_num, bnext hb b1, HA, hid (fun k hk hkm hh => ?_)⟩
          by_cases e : k = m
          · subst e; exact HL.out hh
          · exact HL.out (List.lt_trans (HR.out m k hml hk (by omega)) hh)
    · obtain rfl : i = j := by omega
      clear hlt hij
      by_cases hin : i < n
      · have hil : i < l.length := by rw [HN.out]; exact hin
        obtain ⟨b, off, rfl, _⟩ := h.sl.addr (by omega)
        obtain ⟨q0, q1, q2, q3⟩ := (h.below hb).at i hil
        have D := hid (fun W => vApply1_call l[i] s W)
        have hz := cmpI_zero (a := Vw.key l[i]) (b := Evt.lst s)
        have hdec : (decide ((l[i]?).map Vw.key = some (Evt.lst s))) = (cmpI (Vw.key l[i]) (Evt.lst s) == 0) := by
          rw [List.getElem?_eq_getElem hil, Option.map_some]
          by_cases e : Vw.key l[i] = Evt.lst s
          · rw [hz.2 e, decide_eq_true (congrArg some e)]; rfl
          · rw [decide_eq_false (fun e' => e (Option.some.inj e'))]
            exact (beq_eq_false_iff_ne.2 (fun hh => e (hz.1 hh))).symm
        replace hdec := hid hdec
        replace hz := hid hz
        obtain ⟨ac, hac⟩ : ∃ ac, l[i] = ac := ⟨_, rfl⟩
        rw [hac] at q0 q1 q2 q3 D hdec
        replace hac := hid hac
        obtain ⟨t, sm, cn, o⟩ := ac
        simp only at q0 q1 q2 q3
        unfold acVal at D
        obtain ⟨r, hr⟩ : ∃ r, cmpI (Vw.key (⟨t, sm, cn, o⟩ : Vw.Acc)) (Evt.lst s) = r := ⟨_, rfl⟩
        rw [hr] at D hdec
        replace hr := hid hr
        have u0 : (i : Int) < (n : Int) := by omega
        go_wp2_with fail
        go_at_call 49; refine (D.out _).mono ?_; rintro e w1 ⟨rfl, b1⟩
        go_wp2_with fail
        go_ret2
        exact ⟨i, by omega, by rw [hdec.out]; rfl, HA.out, HB.out, bnext hb b1⟩
      · obtain rfl : n = i := by omega
        have hdec := hid (decide_eq_false (p := (l[n]?).map Vw.key = some (Evt.lst s)) (fun e => by rw [List.getElem?_eq_none (by rw [HN.out]; exact Nat.le_refl _)] at e; cases e))
        go_wp2_with fail
        go_ret2
        exact ⟨n, by rw [HN.out]; exact Nat.le_refl _, by rw [hdec.out]; rfl, HA.out, HB.out, hb⟩
end Go.Proofs.Ythhcdfjijagalaa
namespace Go.Proofs.Ythhcdfjijagalaa
open Go.RowKit
set_option linter.unusedVariables false
theorem info_acc : (Try.prog.info? 65).map (fun i => (i.zero, i.size, i.bytes)) = some (some (.agg #[.string ⟨#[]⟩, .int .i64 0, .int .i64 0, .bool false]), 4, 40) := by kernel_rfl
theorem own_acc0 (W : World) (base : Nat) (hb : base ≤ W.heap.size) : (W.alloc (.cells #[] 65)).ownsRow base 65 4 (.slice (some ⟨W.heap.size, 0, none⟩) 0 0) 0 [] :=
  World.ownsRow_lit W #[] 0 hb (by decide) rfl
section
variable {P : Program} (w : World)
/-- 'copy(dst, x)' into a row that is known whole -/
theorem run_copy_src (dT sT ty elem e' : TypeId) (sz : Nat) (hu : P.underlying dT = some (.slice elem)) (hz : (P.info? elem).map (·.size) = some sz)
    (g off dLen dCap sLen sCap : Nat) (sp : Option Addr) (cur : List Value) (t : TypeId) (hg : w.heap[g]? = some (.cells cur.toArray t (0, 0))) (cs : List Value)
    (hs : (Builtin.firstCells sz (Nat.min sLen dLen) (.slice sp sLen sCap)).run P w = .ok cs.toArray w) (hfit : off + cs.length ≤ cur.length) (h1 : ∀ v ∈ cs, v.oneCell' = true) :
    (Builtin.copy_ #[dT, sT] ty #[.slice (some ⟨g, off, none⟩) dLen dCap, .slice sp sLen sCap]).run P w = .ok (goInt (Nat.min sLen dLen)) (w.setRow g (splice cur off cs).toArray) := by
  have hst := run_storeCells_at P g off t cs 0 cur.toArray w hg (by simpa using hfit) h1
  simp only [Nat.add_zero] at hst
  cases hi : P.info? elem with
  | none => rw [hi] at hz; cases hz
  | some i =>
    rw [hi] at hz
    have hz : i.size = sz := by simpa using hz
    subst hz
    have hl : (Builtin.lenOf (.slice sp sLen sCap)).run P w = .ok sLen w := rfl
    simp [Builtin.copy_, run_underlying hu, sizeOf, typeInfo, hi, hl, hs, hst, splice]
end
set_option maxHeartbeats 1000000 in
theorem cloneAcc_call (a : Option Addr) (n cap : Nat) (l : List Vw.Acc) (w : World) (h : As w a n cap l) (hlim : n ≤ 1000000) :
    Calls Try.prog 32 #[.slice a n cap] w fun e w' => ∃ v, e = .returned v ∧ Below w.heap.size w w' ∧ w'.ownsRow w.heap.size 65 4 v n (acCells l) := by
  cases a with
  | none =>
    have h0 := h.sl.nil rfl
    have hle := h.sl.le
    obtain rfl : n = 0 := by omega
    obtain rfl : cap = 0 := h0
    have hl0 : l = [] := List.eq_nil_of_length_eq_zero h.cnt
    subst hl0
    have he := fun wx => Lib.run_eql_slice_nil (P := Try.prog) wx 40 65 none 0 0 0 0 Try.underlying40
    go_enter Try.func32, Try.ntmps32
    go_wp2
    go_ret
    exact ⟨_, rfl, Below.refl _ _, World.ownsRow_nil _ _ _ _⟩
  | some p =>
    have he := fun wx => Lib.run_eql_slice_nil (P := Try.prog) wx 40 65 (some p) n cap 0 0 Try.underlying40
    go_enter Try.func32, Try.ntmps32
    go_wp2_with (at_builtin; (refine wpList_append_t rfl (.tmp 5) (.tmp 6) 40 40 rfl w.heap.size 65 4 40 _ Try.underlying40 info_acc rfl (by decide) (.slice (some ⟨w.heap.size, 0, none⟩) 0 0) 0 [] rfl (OT.fresh (own_acc0 w w.heap.size (Nat.le_refl _)) ((Below.refl _ _).alloc (Nat.le_refl _) _) (Nat.le_refl _)) (.slice (some p) n cap) n (acCells l) rfl (Sl.src (h.sl.alloc _) Try.underlying40 (acCells_one l)) ?d1 ?d2 ?d3 ?_); (case d1 => unfold maxLen; omega); (case d2 => omega); (case d3 => simp); intro v2 w4 ho2 hg2)
    go_ret
    refine ⟨v2, rfl, ho2.belowOf (Nat.le_refl _) (fun k e => by cases e), ?_⟩
    have := ho2.own
    rwa [List.nil_append, Nat.zero_add] at this
theorem acc_src (w : World) (x : Vw.Acc) (vb : Nat) (hv : w.heap[vb]? = some (.cells #[.string x.s, .int .i64 x.sum, .int .i64 x.cnt, .bool x.opn] 65 (0, 0))) : Src Try.prog 4 40 (.slice (some ⟨vb, 0, none⟩) 1 1) 1 (ac4 x) w :=
  Src.ofSlice w Try.underlying40 ⟨vb, 0, none⟩ 1 1 (ac4 x) rfl (fun j u hj => by
    rw [add_off, Nat.zero_add, blk_cell hv]
    simpa [ac4] using hj) (fun u hu => by
    simp only [ac4, List.mem_cons, List.not_mem_nil, or_false] at hu
    rcases hu with rfl | rfl | rfl | rfl <;> rfl)
theorem own_known {w : World} {base : Nat} {e : TypeId} {sz g n cap : Nat} {xs : List Value} (h : w.ownsRow base e sz (.slice (some ⟨g, 0, none⟩) n cap) n xs) :
    ∃ cur : List Value, w.heap[g]? = some (.cells cur.toArray e (0, 0)) ∧ base ≤ g ∧ n ≤ cap ∧ cap ≤ maxLen ∧ cur.length = cap * sz ∧ cur.take (n * sz) = xs := by
  rcases h.2 with ⟨h', _⟩ | ⟨g', cap', cur, h', hb, hg, hnc, hcm, hcs, ht⟩
  · simp at h'
  · simp only [Value.slice.injEq, Option.some.injEq, Addr.mk.injEq, and_true, true_and] at h'
    obtain ⟨rfl, rfl⟩ := h'
    exact ⟨cur.toList, by simpa using hg, hb, hnc, hcm, by simpa using hcs, by simpa using ht⟩
theorem own_of_known {w : World} {base : Nat} {e : TypeId} {sz g n cap : Nat} {xs : List Value} {cur : List Value} (hg : w.heap[g]? = some (.cells cur.toArray e (0, 0))) (hb : base ≤ g) (hn : n ≤ cap) (hc : cap ≤ maxLen) (hl : cur.length = cap * sz) (ht : cur.take (n * sz) = xs) :
    w.ownsRow base e sz (.slice (some ⟨g, 0, none⟩) n cap) n xs :=
  ⟨by rw [← ht, List.length_take, hl]; exact Nat.min_eq_left (Nat.mul_le_mul_right _ hn), .inr ⟨g, cap, cur.toArray, rfl, hb, hg, hn, hc, by simpa using hl, by simpa using ht⟩⟩
set_option maxHeartbeats 1000000 in
theorem insertAcc_end (v : Value) (n : Nat) (l : List Vw.Acc) (x : Vw.Acc) (vb base : Nat) (w : World) (ho : w.ownsRow base 65 4 v n (acCells l)) (hbase : base ≤ w.heap.size) (hn : n ≤ 1000000)
    (hv : w.heap[vb]? = some (.cells #[.string x.s, .int .i64 x.sum, .int .i64 x.cnt, .bool x.opn] 65 (0, 0))) :
    Calls Try.prog 51 #[v, .int .i64 (n : Int), .slice (some ⟨vb, 0, none⟩) 1 1] w fun e w' => ∃ v', e = .returned v' ∧ OT w w' v.ownBlock base 65 4 v' (n + 1) (acCells l ++ ac4 x) := by
  have HS := acc_src w x vb hv
  rcases ho.2 with ⟨rfl, rfl⟩ | ⟨g, cap, cur, rfl, _, _, hnc, hcm, _, _⟩
  · go_enter Try.func51, Try.ntmps51
    go_wp2_with (at_builtin; (refine wpList_append_t rfl (.tmp 23) (.tmp 24) 40 40 rfl base 65 4 40 _ Try.underlying40 info_acc rfl (by decide) (.slice none 0 0) 0 (acCells l) rfl (OT.start ho) (.slice (some ⟨vb, 0, none⟩) 1 1) 1 (ac4 x) rfl HS ?d1 ?d2 ?d3 ?_); (case d1 => unfold maxLen; omega); (case d2 => omega); (case d3 => exact hbase); intro v2 w4 ho2 hg2)
    go_ret
    exact ⟨v2, rfl, ho2⟩
  · unfold maxLen at hcm
    by_cases hc : cap = n
    · subst hc
      go_enter Try.func51, Try.ntmps51
      go_wp2_with (at_builtin; (refine wpList_append_t rfl (.tmp 23) (.tmp 24) 40 40 rfl base 65 4 40 _ Try.underlying40 info_acc rfl (by decide) (.slice (some ⟨g, 0, none⟩) cap cap) cap (acCells l) rfl (OT.start ho) (.slice (some ⟨vb, 0, none⟩) 1 1) 1 (ac4 x) rfl HS ?d1 ?d2 ?d3 ?_); (case d1 => unfold maxLen; omega); (case d2 => omega); (case d3 => exact hbase); intro v2 w4 ho2 hg2)
      go_ret
      exact ⟨v2, rfl, ho2⟩
    · go_enter Try.func51, Try.ntmps51
      go_wp2_with (at_builtin; (refine wpList_append_t rfl (.tmp 23) (.tmp 24) 40 40 rfl base 65 4 40 _ Try.underlying40 info_acc rfl (by decide) (.slice (some ⟨g, 0, none⟩) n cap) n (acCells l) rfl (OT.start ho) (.slice (some ⟨vb, 0, none⟩) 1 1) 1 (ac4 x) rfl HS ?d1 ?d2 ?d3 ?_); (case d1 => unfold maxLen; omega); (case d2 => omega); (case d3 => exact hbase); intro v2 w4 ho2 hg2)
      go_ret
      exact ⟨v2, rfl, ho2⟩
theorem acCells_drop (l : List Vw.Acc) : ∀ i, acCells (l.drop i) = (acCells l).drop (i * 4) := by
  induction l with
  | nil => intro i; simp [acCells]
  | cons a l ih =>
    intro i
    cases i with
    | zero => simp
    | succ i =>
      rw [List.drop_succ_cons, ih i]
      show _ = (ac4 a ++ acCells l).drop _
      have e4 : (ac4 a).length = 4 := rfl
      rw [List.drop_append, List.drop_of_length_le (l := ac4 a) (by rw [e4]; omega), e4, List.nil_append]
      congr 1
      omega
theorem acCells_take (l : List Vw.Acc) : ∀ i, acCells (l.take i) = (acCells l).take (i * 4) := by
  induction l with
  | nil => intro i; simp [acCells]
  | cons a l ih =>
    intro i
    cases i with
    | zero => simp [acCells]
    | succ i =>
      rw [List.take_succ_cons]
      show ac4 a ++ acCells (l.take i) = (ac4 a ++ acCells l).take _
      have e4 : (ac4 a).length = 4 := rfl
      rw [ih i, List.take_append, List.take_of_length_le (l := ac4 a) (by rw [e4]; omega), e4]
      congr 2
      omega
theorem splice_in {α : Type} (cur D X : List α) (p k : Nat) (hX : X.length = k) (hl : p + k ≤ cur.length) : (splice (splice cur (p + k) D) p X).take (p + k + D.length) = cur.take p ++ (X ++ D) := by
  unfold splice
  have hp : (cur.take (p + k)).length = p + k := by rw [List.length_take]; omega
  have e1 : (cur.take (p + k) ++ (D ++ cur.drop (p + k + D.length))).take p = cur.take p := by
    rw [List.take_append_of_le_length (by omega), List.take_take, Nat.min_eq_left (by omega)]
  have e2 : (cur.take (p + k) ++ (D ++ cur.drop (p + k + D.length))).drop (p + X.length) = D ++ cur.drop (p + k + D.length) := by
    rw [hX]
    exact List.drop_left' hp
  rw [e1, e2]
  have e3 : cur.take p ++ (X ++ (D ++ cur.drop (p + k + D.length))) = (cur.take p ++ (X ++ D)) ++ cur.drop (p + k + D.length) := by simp
  rw [e3]
  refine List.take_left' ?_
  rw [List.length_append, List.length_append, List.length_take, hX]
  omega
theorem setRow_twice (w : World) (g : Nat) (c c' : Array Value) (t : TypeId) (cur : Array Value) (hg : w.heap[g]? = some (.cells cur t (0, 0))) :
    ((w.setRow g c).setRow g c').heap[g]? = some (.cells c' t (0, 0)) ∧ w.grownBy ((w.setRow g c).setRow g c') (some g) := by
  have h1 := setRow_heap w g cur c t _ hg
  refine ⟨setRow_heap _ g c c' t _ h1, ⟨rfl, rfl, rfl, by simp [World.setRow], fun k _ hk => ?_⟩⟩
  have hk : k ≠ g := fun e => hk (by rw [e])
  rw [setRow_other _ g k _ hk, setRow_other _ g k _ hk]
set_option maxHeartbeats 4000000 in
set_option maxRecDepth 100000 in
theorem insertAcc_shift (g n cap : Nat) (l : List Vw.Acc) (i : Nat) (x : Vw.Acc) (vb base : Nat) (w : World) (ho : w.ownsRow base 65 4 (.slice (some ⟨g, 0, none⟩) n cap) n (acCells l)) (hn : n ≤ 1000000) (hi : i < n) (hroom : n + 1 ≤ cap) (hne : vb ≠ g)
    (hv : w.heap[vb]? = some (.cells #[.string x.s, .int .i64 x.sum, .int .i64 x.cnt, .bool x.opn] 65 (0, 0))) :
    Calls Try.prog 51 #[.slice (some ⟨g, 0, none⟩) n cap, .int .i64 (i : Int), .slice (some ⟨vb, 0, none⟩) 1 1] w fun e w' => ∃ v', e = .returned v' ∧ OT w w' (some g) base 65 4 v' (n + 1) (acCells (l.take i ++ x :: l.drop i)) := by
  obtain ⟨cur, hg, hbg, hnc, hcm, hcl, hct⟩ := own_known ho
  have hgl := blk_lt hg
  have hll : l.length = n := by have := ho.1; rw [acCells_length] at this; omega
  unfold maxLen at hcm
  have hsz : (Try.prog.info? 65).map (·.size) = some 4 := by kernel_rfl
  have hov : ∀ lb cb, (callFunc 70 #[.slice (some ⟨vb, 0, none⟩) 1 1, .slice (some ⟨g, (i + 1) * 4, none⟩) lb cb]).run Try.prog w = .ok (.value (.bool false)) w := fun lb cb => by
    rw [run_callFunc_extern Try.func70 (by kernel_rfl) (by kernel_rfl) (by kernel_rfl) (e := Extern.SlicesOverlaps.overlaps #[40, 40] #[4]) (by kernel_rfl),
      Lib.run_overlaps_apart w 40 4 65 Try.underlying40 4 Try.sizeOf65 ⟨vb, 0, none⟩ ⟨g, (i + 1) * 4, none⟩ 1 1 lb cb hne 65 65 4 (cap * 4) (by simp [World.shape?, hv]) (by simp [World.shape?, hg, hcl]) (by omega) (blk_free hv) (blk_free hv)]
    rfl
  have hw1 : IntKind.i64.wrap ((i : Int) + 1) = (i : Int) + 1 := IntWalk.i64_in _ (by omega)
  have hw2 : IntKind.i64.wrap ((n : Int) + 1) = (n : Int) + 1 := IntWalk.i64_in _ (by omega)
  have hb1 : (0 : Int) ≤ (i : Int) + 1 := by omega
  have hin : i ≤ n := by omega
  have htn : ((i : Int) + 1).toNat = i + 1 := by omega
  have htm : ((n : Int) + 1).toNat = n + 1 := by omega
  have hb2 : ¬ (cap = i + 1) := by omega
  have hb3 : (i : Int) ≤ (n : Int) + 1 := by omega
  have hb4 : ¬ (cap = i) := by omega
  have hb5 : ¬ ((i : Int) = (n : Int)) := by omega
  have hdl : (acCells (l.drop i)).length = (n - i) * 4 := by rw [acCells_length, List.length_drop, hll]
  have hcp1 : ∀ ty dc sc, (Builtin.copy_ #[40, 40] ty #[.slice (some ⟨g, (i + 1) * 4, none⟩) (n - i) dc, .slice (some ⟨g, i * 4, none⟩) (n + 1 - i) sc]).run Try.prog w.drew = .ok (goInt ((n - i : Nat) : Int)) (w.drew.setRow g (splice cur ((i + 1) * 4) (acCells (l.drop i))).toArray) := fun ty dc sc => by
    have hmin : Nat.min (n + 1 - i) (n - i) = n - i := by
      show min _ _ = _
      omega
    have := run_copy_src (P := Try.prog) w.drew 40 40 ty 65 65 4 Try.underlying40 hsz g ((i + 1) * 4) (n - i) dc (n + 1 - i) sc (some ⟨g, i * 4, none⟩) cur 65 hg (acCells (l.drop i))
      (by
        rw [hmin]
        exact run_firstCells_some w.drew 4 (n - i) ⟨g, i * 4, none⟩ _ _ _ hdl (fun j u hj => by
          rw [acCells_drop, List.getElem?_drop, ← hct, List.getElem?_take] at hj
          rw [add_off]
          show w.cell? _ = _
          rw [blk_cell hg]
          split at hj
          · simpa using hj
          · cases hj))
      (by rw [hdl, hcl]; omega) (acCells_one _)
    rw [hmin] at this
    exact this
  obtain ⟨S1, hS1⟩ : ∃ S1, S1 = splice cur ((i + 1) * 4) (acCells (l.drop i)) := ⟨_, rfl⟩
  rw [← hS1] at hcp1
  have hS1l : S1.length = cap * 4 := by rw [hS1, length_splice _ _ _ (by rw [hdl, hcl]; omega), hcl]
  replace hS1 := hid hS1
  have hcp2 : ∀ ty dc, (Builtin.copy_ #[40, 40] ty #[.slice (some ⟨g, i * 4, none⟩) (n + 1 - i) dc, .slice (some ⟨vb, 0, none⟩) 1 1]).run Try.prog (w.drew.setRow g S1.toArray) = .ok (goInt ((Nat.min 1 (n + 1 - i) : Nat) : Int)) ((w.drew.setRow g S1.toArray).setRow g (splice S1 (i * 4) (ac4 x)).toArray) := fun ty dc => by
    have hmin : Nat.min 1 (n + 1 - i) = 1 := by
      show min _ _ = _
      omega
    refine run_copy_src (P := Try.prog) (w.drew.setRow g S1.toArray) 40 40 ty 65 65 4 Try.underlying40 hsz g (i * 4) (n + 1 - i) dc 1 1 (some ⟨vb, 0, none⟩) S1 65 (setRow_heap w.drew g _ _ 65 _ hg) (ac4 x) ?_ (by rw [hS1l]; simp [ac4]; omega) (fun u hu => by
      simp only [ac4, List.mem_cons, List.not_mem_nil, or_false] at hu
      rcases hu with rfl | rfl | rfl | rfl <;> rfl)
    rw [hmin]
    refine run_firstCells_some _ 4 1 ⟨vb, 0, none⟩ _ _ _ rfl (fun j u hj => ?_)
    have hv' : (w.drew.setRow g S1.toArray).heap[vb]? = some (.cells #[.string x.s, .int .i64 x.sum, .int .i64 x.cnt, .bool x.opn] 65 (0, 0)) := by
      rw [setRow_other _ g vb _ hne]; exact hv
    rw [add_off, Nat.zero_add, blk_cell hv']
    simpa [ac4] using hj
  go_enter Try.func51, Try.ntmps51
  go_wp2_with (simp only [hov])
  go_region_law (refine step_copy_at rfl _ _ 40 40 rfl _ _ (by simp [Act.eval, Act.put]) (by simp [Act.eval, Act.put]) (hcp1 _ _ _) ?_)
  go_wp2_with (at_builtin; refine wpList_copy_at _ rfl _ _ 40 40 rfl _ _ rfl rfl (hcp2 _ _) ?_)
  go_ret
  refine ⟨_, rfl, ?_⟩
  obtain ⟨k1, k2⟩ := setRow_twice w.drew g S1.toArray (splice S1 (i * 4) (ac4 x)).toArray 65 cur.toArray hg
  have hl2 : (splice S1 (i * 4) (ac4 x)).length = cap * 4 := by
    rw [length_splice _ _ _ (by rw [hS1l]; simp [ac4]; omega), hS1l]
  refine ⟨own_of_known k1 hbg hroom (by unfold maxLen; omega) hl2 ?_, ⟨k2.os, k2.tape, k2.output, k2.size, k2.block⟩, .inl rfl⟩
  have hsp := splice_in cur (acCells (l.drop i)) (ac4 x) (i * 4) 4 rfl (by rw [hcl]; omega)
  rw [show i * 4 + 4 = (i + 1) * 4 by omega, ← hS1.out, hdl, show (i + 1) * 4 + (n - i) * 4 = (n + 1) * 4 by omega] at hsp
  rw [hsp, acCells_append, acCells_take, ← hct, List.take_take, Nat.min_eq_left (by omega)]
  rfl
set_option maxHeartbeats 4000000 in
set_option maxRecDepth 100000 in
theorem insertAcc_grow (g n cap : Nat) (l : List Vw.Acc) (i : Nat) (x : Vw.Acc) (vb base : Nat) (w : World) (ho : w.ownsRow base 65 4 (.slice (some ⟨g, 0, none⟩) n cap) n (acCells l)) (hbase : base ≤ w.heap.size) (hn : n ≤ 1000000) (hi : i < n) (hroom : cap < n + 1)
    (hv : w.heap[vb]? = some (.cells #[.string x.s, .int .i64 x.sum, .int .i64 x.cnt, .bool x.opn] 65 (0, 0))) :
    Calls Try.prog 51 #[.slice (some ⟨g, 0, none⟩) n cap, .int .i64 (i : Int), .slice (some ⟨vb, 0, none⟩) 1 1] w fun e w' => ∃ v', e = .returned v' ∧ OT w w' (some g) base 65 4 v' (n + 1) (acCells (l.take i ++ x :: l.drop i)) := by
  obtain ⟨cur, hg, hbg, hnc, hcm, hcl, hct⟩ := own_known ho
  obtain rfl : cap = n := by omega
  have hgl := blk_lt hg
  have hvl := blk_lt hv
  have hll : l.length = cap := by have := ho.1; rw [acCells_length] at this; omega
  clear hcm
  have hsz : (Try.prog.info? 65).map (·.size) = some 4 := by kernel_rfl
  obtain ⟨i0, hi0, hz0, hzs, hzb⟩ := info_parts1 info_acc
  have hold : (Builtin.firstCells i0.size i (.slice (some ⟨g, 0, none⟩) i cap)).run Try.prog w.drew = .ok (acCells (l.take i)).toArray w.drew := by
    rw [hzs]
    exact run_firstCells_some w.drew 4 i ⟨g, 0, none⟩ i cap (acCells (l.take i)) (by rw [acCells_length, List.length_take]; omega) (fun j v hj => by
      rw [add_off, Nat.zero_add]
      show w.cell? _ = _
      rw [blk_cell hg]
      rw [acCells_take, ← hct, List.getElem?_take] at hj
      split at hj
      · rw [List.getElem?_take] at hj
        split at hj
        · simpa using hj
        · cases hj
      · cases hj)
  have hik : i + (cap + 1 - i) = cap + 1 := by omega
  have hkk : (cap : Int) + 1 - (i : Int) = ((cap + 1 - i : Nat) : Int) := by omega
  obtain ⟨G, hG⟩ : ∃ G, G = grownCap w (cap + 1) cap 65 := ⟨_, rfl⟩
  have hGn : cap + 1 ≤ G := by rw [hG]; exact grownCap_ge w _ _ _
  have hGm : G ≤ maxLen := by rw [hG]; exact grownCap_le_maxLen w (cap + 1) cap 65 (by unfold maxLen; omega)
  obtain ⟨ROW, hROW⟩ : ∃ ROW : List Value, ROW = ((acCells (l.take i)).toArray ++ Builtin.zeroCells (Value.agg #[.string ⟨#[]⟩, .int .i64 0, .int .i64 0, .bool false]).cells (cap + 1 - i) ++ Builtin.zeroCells (Value.agg #[.string ⟨#[]⟩, .int .i64 0, .int .i64 0, .bool false]).cells (G - (cap + 1))).toList := ⟨_, rfl⟩
  have hzc : (Value.agg #[.string ⟨#[]⟩, .int .i64 0, .int .i64 0, .bool false]).cells.size = 4 := by kernel_rfl
  have htl : (acCells (l.take i)).length = i * 4 := by rw [acCells_length, List.length_take, hll, Nat.min_eq_left (by omega)]
  have hRl : ROW.length = G * 4 := by
    rw [hROW, Array.length_toList, Array.size_append, Array.size_append, size_zeroCells, size_zeroCells, hzc, List.size_toArray, htl]
    omega
  have hRt : ROW.take (i * 4) = acCells (l.take i) := by
    rw [hROW, Array.toList_append, Array.toList_append, List.append_assoc]
    exact List.take_left' (by simpa using htl)
  have hrz : ∀ ty, (Builtin.append_ #[40, 3] ty #[.slice (some ⟨g, 0, none⟩) i cap, .int .i64 ((cap : Int) + 1 - (i : Int))]).run Try.prog w = .ok (.slice (some ⟨w.heap.size, 0, none⟩) (cap + 1) G) (w.drew.alloc (.cells ROW.toArray 65)) := fun ty => by
    have h := Lib.run_append_grow_zeros (P := Try.prog) w 40 3 ty 65 i0 _ .i64 .i64 Try.underlying40 Try.underlying3 hi0 hz0 (some ⟨g, 0, none⟩) i cap (acCells (l.take i)) hold (cap + 1 - i) (by omega) (by omega) (by omega) (by omega) (by rw [hzb]; omega) (by rw [hzb, hik]; exact growslice_fits (by omega) (by omega))
    rw [hik, ← hG] at h
    rw [hkk, hROW, Array.toArray_toList]
    exact h
  obtain ⟨N, hN⟩ : ∃ N, N = w.heap.size := ⟨_, rfl⟩
  obtain ⟨W1, hW1⟩ : ∃ W1, W1 = w.drew.alloc (.cells ROW.toArray 65) := ⟨_, rfl⟩
  have hk1 : W1.heap[N]? = some (.cells ROW.toArray 65 (0, 0)) := by rw [hW1, hN]; exact heap_alloc_new w.drew _
  have hgr : w.grownBy W1 none := by rw [hW1]; exact ⟨rfl, rfl, rfl, by simp, fun k hk _ => heap_alloc_old w.drew _ hk⟩
  have hgW : W1.heap[g]? = some (.cells cur.toArray 65 (0, 0)) := (hgr.block g hgl (by simp)).trans hg
  have hvW : W1.heap[vb]? = some (.cells #[.string x.s, .int .i64 x.sum, .int .i64 x.cnt, .bool x.opn] 65 (0, 0)) := (hgr.block vb hvl (by simp)).trans hv
  rw [← hW1, ← hN] at hrz
  have hNg : g ≠ N := by omega
  have hxl : (ac4 x).length = 4 := rfl
  have hx1 : ∀ u ∈ ac4 x, u.oneCell' = true := fun u hu => by
    simp only [ac4, List.mem_cons, List.not_mem_nil, or_false] at hu
    rcases hu with rfl | rfl | rfl | rfl <;> rfl
  have hcpA : ∀ ty dc, (Builtin.copy_ #[40, 40] ty #[.slice (some ⟨N, i * 4, none⟩) (cap + 1 - i) dc, .slice (some ⟨vb, 0, none⟩) 1 1]).run Try.prog W1 = .ok (goInt ((Nat.min 1 (cap + 1 - i) : Nat) : Int)) (W1.setRow N (splice ROW (i * 4) (ac4 x)).toArray) := fun ty dc => by
    have hmin : Nat.min 1 (cap + 1 - i) = 1 := by
      show min _ _ = _
      omega
    refine run_copy_src (P := Try.prog) W1 40 40 ty 65 65 4 Try.underlying40 hsz N (i * 4) (cap + 1 - i) dc 1 1 (some ⟨vb, 0, none⟩) ROW 65 hk1 (ac4 x) ?_ (by rw [hRl, hxl]; omega) hx1
    rw [hmin]
    refine run_firstCells_some _ 4 1 ⟨vb, 0, none⟩ _ _ _ rfl (fun j u hj => ?_)
    rw [add_off, Nat.zero_add, blk_cell hvW]
    simpa [ac4] using hj
  obtain ⟨S1, hS1⟩ : ∃ S1, S1 = splice ROW (i * 4) (ac4 x) := ⟨_, rfl⟩
  have hS1l : S1.length = G * 4 := by rw [hS1, length_splice _ _ _ (by rw [hxl, hRl]; omega), hRl]
  rw [← hS1] at hcpA
  obtain ⟨W2, hW2⟩ : ∃ W2, W2 = W1.setRow N S1.toArray := ⟨_, rfl⟩
  have hk2 : W2.heap[N]? = some (.cells S1.toArray 65 (0, 0)) := by rw [hW2]; exact setRow_heap W1 N _ _ 65 _ hk1
  have hgW2 : W2.heap[g]? = some (.cells cur.toArray 65 (0, 0)) := by rw [hW2, setRow_other _ N g _ hNg]; exact hgW
  rw [← hW2] at hcpA
  have hdl : (acCells (l.drop i)).length = (cap - i) * 4 := by rw [acCells_length, List.length_drop, hll]
  have hcpB : ∀ ty dc sc, (Builtin.copy_ #[40, 40] ty #[.slice (some ⟨N, (i + 1) * 4, none⟩) (cap - i) dc, .slice (some ⟨g, i * 4, none⟩) (cap - i) sc]).run Try.prog W2.drew = .ok (goInt ((cap - i : Nat) : Int)) (W2.drew.setRow N (splice S1 ((i + 1) * 4) (acCells (l.drop i))).toArray) := fun ty dc sc => by
    have hmin : Nat.min (cap - i) (cap - i) = cap - i := by
      show min _ _ = _
      omega
    have := run_copy_src (P := Try.prog) W2.drew 40 40 ty 65 65 4 Try.underlying40 hsz N ((i + 1) * 4) (cap - i) dc (cap - i) sc (some ⟨g, i * 4, none⟩) S1 65 hk2 (acCells (l.drop i))
      (by
        rw [hmin]
        exact run_firstCells_some W2.drew 4 (cap - i) ⟨g, i * 4, none⟩ _ _ _ hdl (fun j u hj => by
          rw [acCells_drop, List.getElem?_drop, ← hct, List.getElem?_take] at hj
          rw [add_off]
          show W2.cell? _ = _
          rw [blk_cell hgW2]
          split at hj
          · simpa using hj
          · cases hj))
      (by rw [hdl, hS1l]; omega) (acCells_one _)
    rw [hmin] at this
    exact this
  have hfin : (splice S1 ((i + 1) * 4) (acCells (l.drop i))).take ((cap + 1) * 4) = acCells (l.take i ++ x :: l.drop i) := by
    have e1 : (i + 1) * 4 = i * 4 + 4 := by omega
    have hS1t : S1.take ((i + 1) * 4) = acCells (l.take i) ++ ac4 x := by
      rw [hS1]
      unfold splice
      rw [← List.append_assoc, List.take_left' (by rw [List.length_append, List.length_take, hxl, hRl]; omega), hRt]
    unfold splice
    rw [hS1t, ← List.append_assoc, List.take_left' (by rw [List.length_append, List.length_append, htl, hxl, hdl]; omega), acCells_append, List.append_assoc]
    rfl
  have hfl : (splice S1 ((i + 1) * 4) (acCells (l.drop i))).length = G * 4 := by rw [length_splice _ _ _ (by rw [hdl, hS1l]; omega), hS1l]
  obtain ⟨S2, hS2⟩ : ∃ S2, S2 = splice S1 ((i + 1) * 4) (acCells (l.drop i)) := ⟨_, rfl⟩
  rw [← hS2] at hfin hfl hcpB
  have hbN : base ≤ N := by omega
  have hk3 : (W2.drew.setRow N S2.toArray).heap[N]? = some (.cells S2.toArray 65 (0, 0)) := setRow_heap W2.drew N _ _ 65 _ hk2
  have hgr3 : w.grownBy (W2.drew.setRow N S2.toArray) (some g) := by
    refine ⟨?_, ?_, ?_, ?_, fun k hk hne => ?_⟩
    · show W2.os = _; rw [hW2]; exact hgr.os
    · show W2.tape = _; rw [hW2]; exact hgr.tape
    · show W2.output = _; rw [hW2]; exact hgr.output
    · have := hgr.size; rw [hW2]; simpa [World.setRow] using this
    · have hkN : k ≠ N := by omega
      rw [setRow_other _ N k _ hkN]
      show W2.heap[k]? = _
      rw [hW2, setRow_other _ N k _ hkN]
      exact hgr.block k hk (by simp)
  have hGi : ¬ (G = i) := by omega
  have hGim : ¬ (G = i + 1) := by omega
  have hci : ¬ (cap = i) := by omega
  have hw1 : IntKind.i64.wrap ((i : Int) + 1) = (i : Int) + 1 := IntWalk.i64_in _ (by omega)
  have hw2 : IntKind.i64.wrap ((cap : Int) + 1) = (cap : Int) + 1 := IntWalk.i64_in _ (by omega)
  have hw3 : IntKind.i64.wrap ((cap : Int) + 1 - (i : Int)) = (cap : Int) + 1 - (i : Int) := IntWalk.i64_in _ (by omega)
  have hb1 : (0 : Int) ≤ (i : Int) + 1 := by omega
  have hin : i ≤ cap := by omega
  have htn : ((i : Int) + 1).toNat = i + 1 := by omega
  have hb3 : (i : Int) ≤ (cap : Int) := by omega
  have hb5 : ¬ ((i : Int) = (cap : Int)) := by omega
  have hgd1 : ∃ v', (Value.slice (some ⟨N, 0, none⟩) (cap + 1) G) = v' ∧ OT w (W2.drew.setRow N S2.toArray) (some g) base 65 4 v' (cap + 1) (acCells (l.take i ++ x :: l.drop i)) :=
    ⟨_, rfl, own_of_known hk3 hbN hGn hGm hfl hfin, hgr3, .inr (fun k hk => by cases hk; exact Nat.le_of_eq hN.symm)⟩
  replace hgd1 := hid hgd1
  unfold maxLen at hGm
  clear hkk hik hold hROW hG hRl hRt hW1 hW2 hS1 hS2 hfin hfl hk3 hgr3 hN
  go_enter Try.func51, Try.ntmps51
  go_wp2_with (first
    | (at_builtin; refine Lib.wpList_append_run _ rfl _ _ _ _ rfl _ _ rfl rfl _ _ (hrz _) ?_)
    | (at_builtin; refine wpList_copy_at _ rfl _ _ 40 40 rfl _ _ rfl rfl (hcpA _ _) ?_))
  go_region_law (refine step_copy_at rfl _ _ 40 40 rfl _ _ (by simp [Act.eval, Act.put]) (by simp [Act.eval, Act.put]) (hcpB _ _ _) ?_)
  go_wp2_with fail
  go_ret
  obtain ⟨v', e1, e2⟩ := hgd1.out
  exact ⟨v', by rw [← e1]; rfl, e2⟩
theorem insertAcc_call (v : Value) (n : Nat) (l : List Vw.Acc) (i : Nat) (x : Vw.Acc) (vb base : Nat) (w : World) (ho : w.ownsRow base 65 4 v n (acCells l)) (hbase : base ≤ w.heap.size) (hn : n ≤ 1000000) (hi : i ≤ n) (hne : v.ownBlock ≠ some vb)
    (hv : w.heap[vb]? = some (.cells #[.string x.s, .int .i64 x.sum, .int .i64 x.cnt, .bool x.opn] 65 (0, 0))) :
    Calls Try.prog 51 #[v, .int .i64 (i : Int), .slice (some ⟨vb, 0, none⟩) 1 1] w fun e w' => ∃ v', e = .returned v' ∧ OT w w' v.ownBlock base 65 4 v' (n + 1) (acCells (l.take i ++ x :: l.drop i)) := by
  have hll : l.length = n := by have := ho.1; rw [acCells_length] at this; omega
  rcases Nat.lt_or_ge i n with h | h
  · obtain ⟨g, cap, rfl, hbg, hgl, hnc, hcm⟩ := own_pos ho (by omega)
    rcases Nat.lt_or_ge cap (n + 1) with hc | hc
    · exact insertAcc_grow g n cap l i x vb base w ho hbase hn h hc hv
    · exact insertAcc_shift g n cap l i x vb base w ho hn h hc (fun e => hne (by rw [e]; rfl)) hv
  · obtain rfl : i = n := by omega
    have := insertAcc_end v i l x vb base w ho hbase hn hv
    rw [List.take_of_length_le (by omega), List.drop_of_length_le (by omega), acCells_append]
    exact this
end Go.Proofs.Ythhcdfjijagalaa
