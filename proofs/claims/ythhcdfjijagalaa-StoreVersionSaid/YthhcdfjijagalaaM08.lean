/- Joined, and what is not used struck: GridL, CodeC, Zero, CodeD, CodeL. -/
import Derived.Test.YthhcdfjijagalaaM05
import Derived.Test.YthhcdfjijagalaaM06
import Derived.Test.YthhcdfjijagalaaM07
import Derived.Test.YthhcdfjijagalaaM02
namespace Go.Proofs.Ythhcdfjijagalaa
open Go.RowKit
set_option linter.unusedVariables false
theorem Ms.wid {w : World} {a : Option Addr} {n cap : Nat} {A : List Rw} (h : Ms w a n cap A) (hw : Mat.wrongM (rwData A) = 0) : Mat.Fine (rwData A) n (Mat.wid (rwData A) 0) := by
  have := Mat.wrong_fine hw
  rwa [h.dn] at this
end Go.Proofs.Ythhcdfjijagalaa
namespace Go.Proofs.Ythhcdfjijagalaa
open Go.RowKit
set_option linter.unusedVariables false
set_option maxRecDepth 100000
theorem spare_none {l : List (List UInt8)} {s : Int} (h : Mat.wrongC l.length s ≠ 0) : Mat.SpareR l s [] (Mat.wrongC l.length s) := by unfold Mat.SpareR; rw [if_pos h]; exact ⟨rfl, rfl⟩
theorem spare_wrong {l : List (List UInt8)} {s : Int} (h : Mat.wrongC l.length s = 0) (h2 : Mat.wrongM l ≠ 0) : Mat.SpareR l s [] (Mat.wrongM l) := by unfold Mat.SpareR; rw [if_neg (fun e => e h), if_pos h2]; exact ⟨rfl, rfl⟩
theorem spare_some {l : List (List UInt8)} {d m s : Nat} (hl : Mat.Fine l d m) (h2 : d ≤ 8) (h3 : s ≤ 4) {L : List (List UInt8)} (h : Mat.Rep L s m (Mat.spareM d (Mat.ent l))) : Mat.SpareR l (s : Int) L 0 := by
  have := hl.n1
  unfold Mat.SpareR
  rw [hl.rows, if_neg (fun hh => hh (Mat.wrongC_of (by omega))), if_neg (fun hh => hh hl.wrong), hl.wid0, Int.toNat_natCast]
  exact ⟨h, rfl⟩
theorem ent_drop (R : List Rw) (d i j : Nat) : Mat.ent (rwData (R.drop d)) i j = Mat.ent (rwData R) (d + i) j := by
  unfold Mat.ent rwData
  simp [List.getD]
/-- rows in new blocks -/
def NewR (B : Nat) (R : List Rw) : Prop := ∀ r ∈ R, 0 < r.n → ∀ b off, r.a = some ⟨b, off, none⟩ → B ≤ b
theorem NewR.nil (B : Nat) : NewR B [] := fun r hr => by cases hr
theorem NewR.mono {B C : Nat} {R : List Rw} (h : NewR B R) (hc : C ≤ B) : NewR C R := fun r hr hn b off e => Nat.le_trans hc (h r hr hn b off e)
/-- as MRes, and the rows lie in new blocks -/
def MResN (P : List (List UInt8) → Int → Prop) (w : World) (e : Ending) (w' : World) : Prop :=
  ∃ a n cap R err, e = .returned (.tuple #[.slice a n cap, .int .i64 err]) ∧ Ms w' a n cap R ∧ P (rwData R) err ∧ Below w.heap.size w w' ∧ NewR w.heap.size R
theorem MResN.res {P : List (List UInt8) → Int → Prop} {w : World} {e : Ending} {w' : World} (h : MResN P w e w') : MRes P w e w' := by
  obtain ⟨a, n, cap, R, err, h1, h2, h3, h4, _⟩ := h
  exact ⟨a, n, cap, R, err, h1, h2, h3, h4⟩
theorem NilB.resN {P : List (List UInt8) → Int → Prop} {w : World} {e : Ending} {w' : World} {err : Int} (h : NilB err w e w') (hP : P [] err) : MResN P w e w' := by
  obtain ⟨rfl, hb⟩ := h
  exact ⟨_, _, _, [], err, rfl, Ms.nil _, hP, hb, NewR.nil _⟩
theorem MoRes.resN {P : List (List UInt8) → Prop} {n : Nat} {w : World} {e : Ending} {w' : World} {Q : List (List UInt8) → Int → Prop} (h : MoRes P n w e w') (hq : ∀ L, P L → Q L 0) : MResN Q w e w' := by
  obtain ⟨g, R, he, hn, hM, hP, hb⟩ := h
  refine ⟨_, _, _, _, _, he, hM.ms hn, by rw [wrData_rw]; exact hq _ hP, hb, fun r hr _ b off e => ?_⟩
  obtain ⟨r', hr', rfl⟩ := List.mem_map.1 hr
  cases e
  exact (hM.rlt hr').1
theorem gMul_callN (a b : Option Addr) (n ac m bc : Nat) (A B : List Rw) (w : World) (hA : Ms w a n ac A) (hB : Ms w b m bc B) : Calls Try.prog 101 #[.slice a n ac, .slice b m bc] w (MResN (Mat.MulR (rwData A) (rwData B)) w) := by
  refine mul_cases (A := rwData A) (B := rwData B) (fun h => ?_) (fun h h2 => ?_) (fun h h2 h3 => ?_) (fun n' m' q e1 e2 hFA hFB => ?_)
  · exact (gMul_wrong a b n ac m bc A B w hA hB _ h 0 (.inl ⟨rfl, rfl⟩)).mono fun e w' hh => NilB.resN hh (mulR_1 h)
  · exact (gMul_wrong a b n ac m bc A B w hA hB _ h2 1 (.inr ⟨rfl, h, rfl⟩)).mono fun e w' hh => NilB.resN hh (mulR_2 h h2)
  · exact (gMul_fit a b n ac m bc A B w hA hB h h2 (by rw [hB.dn] at h3; exact h3)).mono fun e w' hh => NilB.resN hh (mulR_3 h h2 h3)
  · obtain rfl : n' = n := e1.symm.trans hA.dn
    obtain rfl : m' = m := e2.symm.trans hB.dn
    exact (gMul_ok a b n' ac m' bc q A B w hA hB hFA hFB).mono fun e w' hh => hh.resN fun L hL => mulR_4 hFA hFB hL
set_option maxHeartbeats 1000000 in
theorem cSpare_callN (a : Option Addr) (n ac : Nat) (A : List Rw) (s : Int) (w : World) (hA : Ms w a n ac A) : Calls Try.prog 89 #[.slice a n ac, .int .i64 s] w (MResN (Mat.SpareR (rwData A) s) w) := by
  have HN := hid hA.dn
  by_cases hc : Mat.wrongC (n : Int) s = 0
  · have hc2 := Mat.wrongC_ok hc
    obtain ⟨s, rfl⟩ := Int.eq_ofNat_of_zero_le (a := s) (by omega)
    have hn1 : 1 ≤ n := by omega
    have hn8 : n ≤ 8 := by omega
    have hs4 : s ≤ 4 := by omega
    have HC := hid hc
    clear hc hc2
    by_cases hw : Mat.wrongM (rwData A) = 0
    · have hF := hA.wid hw
      generalize Mat.wid (rwData A) 0 = m at hF
      have HF := hid hF
      have HW := hid hw
      clear hF hw
      by_cases hs0 : s = 0
      · subst hs0
        go_enter Try.func89, Try.ntmps89
        go_wp2_with fail
        go_at_call 99
        refine (cRows_ok n 0 w hn1 hn8 hs4).mono ?_
        rintro e w1 ⟨a1, n1, c1, R1, e1, rfl, h1, ⟨hp1, rfl⟩, b1⟩
        have A1 := hA.below b1
        replace hp1 := hid hp1
        go_wp2_with fail
        go_at_call 100
        refine (gWrong_call _ _ _ _ _ A1).mono ?_
        rintro e w1' ⟨rfl, rfl⟩
        rw [HW.out]
        go_wp2_with fail
        go_ret2
        exact ⟨_, _, _, [], 0, rfl, Ms.nil _, spare_some HF.out hn8 hs4 ⟨rfl, (fun r hr => by cases hr), fun i j hi => absurd hi (by omega)⟩, b1, NewR.nil _⟩
      · have u0 : ((s : Int) == 0) = false := beq_eq_false_iff_ne.2 (by omega)
        have u1 : (s == 0) = false := beq_eq_false_iff_ne.2 hs0
        have u2 : ¬ (s : Int) = 0 := by omega
        go_enter Try.func89, Try.ntmps89
        go_wp2_with fail
        go_at_call 99
        refine (cRows_ok n s w hn1 hn8 hs4).mono ?_
        rintro e w1 ⟨a1, n1, c1, R1, e1, rfl, h1, ⟨hp1, rfl⟩, b1⟩
        have A1 := hA.below b1
        have hd1 := h1.dn
        rw [hp1.rows] at hd1
        have hle1 := h1.sl.le
        have hlt1 : n < n1 := by omega
        have hltc : n < c1 := by omega
        have hnc : ¬ c1 = n := by omega
        obtain ⟨bb, boff, rfl, _⟩ := h1.sl.addr (by omega)
        have h2 := h1.drop (lo := n) (by omega)
        rw [if_neg hnc, Option.map_some, add_off, Nat.mul_one] at h2
        have hF2 : Mat.Fine (rwData (R1.drop n)) s n := ⟨by rw [rwData_length, List.length_drop]; have := h1.cnt; omega, fun r hr => by
          obtain ⟨q, hq, rfl⟩ := List.mem_map.1 hr
          exact hp1.cols _ (List.mem_map.2 ⟨q, List.mem_of_mem_drop hq, rfl⟩), by omega, by omega, by omega, by omega⟩
        replace hp1 := hid hp1
        replace hF2 := hid hF2
        replace hd1 := hid hd1
        go_wp2_with fail
        go_at_call 100
        refine (gWrong_call _ _ _ _ _ A1).mono ?_
        rintro e w1' ⟨rfl, rfl⟩
        rw [HW.out]
        go_wp2_with fail
        go_at_call 101
        refine (gMul_callN _ _ _ _ _ _ _ _ _ h2 A1).mono ?_
        rintro e w3 ⟨a3, n3, c3, R3, e3, rfl, h3, hp3, b3, nw3⟩
        replace nw3 := hid (nw3.mono b1.size)
        obtain ⟨hr3, rfl⟩ := Mat.MulR.ok hF2.out HF.out hp3
        replace b3 := bnext b1 b3
        replace hr3 := hid hr3
        clear hp3
        go_wp2_with fail
        go_ret2
        exact ⟨_, _, _, R3, 0, rfl, h3, spare_some HF.out hn8 hs4 (hr3.out.congr fun i j hi hj => Mat.mul_congr (fun k hk => by
          rw [ent_drop]; exact hp1.out.eq (n + i) k (by omega) hk) fun _ _ => rfl), b3, nw3.out⟩
    · have u0 : (Mat.wrongM (rwData A) != 0) = true := bne_iff_ne.2 hw
      generalize hW : Mat.wrongM (rwData A) = W at *
      go_enter Try.func89, Try.ntmps89
      go_wp2_with fail
      go_at_call 99
      refine (cRows_ok n s w hn1 hn8 hs4).mono ?_
      rintro e w1 ⟨a1, n1, c1, R1, e1, rfl, h1, ⟨hp1, rfl⟩, b1⟩
      have A1 := hA.below b1
      replace hp1 := hid hp1
      go_wp2_with fail
      go_at_call 100
      refine (gWrong_call _ _ _ _ _ A1).mono ?_
      rintro e w1' ⟨rfl, rfl⟩
      rw [hW]
      replace hW := hid hW
      replace hw := hid hw
      go_wp2_with fail
      go_ret2
      exact ⟨_, _, _, [], _, rfl, Ms.nil _, by
        have := spare_wrong (l := rwData A) (s := (s : Int)) (by rw [HN.out]; exact HC.out) (by rw [hW.out]; exact hw.out)
        rw [hW.out] at this; exact this, b1, NewR.nil _⟩
  · have u0 : (Mat.wrongC (n : Int) s != 0) = true := bne_iff_ne.2 hc
    have D := hid (cRows_bad (n : Int) s w hc)
    have HS := hid (spare_none (l := rwData A) (s := s) (by rw [HN.out]; exact hc))
    rw [HN.out] at HS
    generalize Mat.wrongC (n : Int) s = e at *
    replace hc := hid hc
    go_enter Try.func89, Try.ntmps89
    go_wp2_with fail
    go_at_call 99
    refine (D.out).mono ?_
    rintro e' w1 ⟨rfl, b1⟩
    go_wp2_with fail
    go_ret2
    exact ⟨_, _, _, [], _, rfl, Ms.nil _, HS.out, b1, NewR.nil _⟩
theorem cSpare_call (a : Option Addr) (n ac : Nat) (A : List Rw) (s : Int) (w : World) (hA : Ms w a n ac A) : Calls Try.prog 89 #[.slice a n ac, .int .i64 s] w (MRes (Mat.SpareR (rwData A) s) w) := (cSpare_callN a n ac A s w hA).mono fun _ _ h => h.res
end Go.Proofs.Ythhcdfjijagalaa
namespace Go.Proofs.Ythhcdfjijagalaa
open Go.RowKit
set_option linter.unusedVariables false
section
variable {P : Program} (w : World)
theorem run_append_zeros (base : Nat) (t tn ty e : TypeId) (i : TypeInfo) (z : Value) (kn : IntKind) (bytes : Nat) (ht : P.underlying t = some (.slice e)) (htn : P.underlying tn = some (.int kn)) (hi : P.info? e = some i) (hz : i.zero = some z)
    (hsize : i.size = 1) (hby : i.bytes = bytes) (hzs : z.cells.size = 1)
    (v : Value) (n : Nat) (xs : List Value) (hown : w.ownsRow base e 1 v n xs) (m : Nat) (hm : 0 < m) (h1 : ∀ u ∈ (Builtin.zeroCells z.cells m).toList, u.oneCell' = true)
    (h63 : n + m ≤ maxLen) (hbytes : (n + m) * bytes ≤ 140737488355328) (hbase : base ≤ w.heap.size) :
    ∃ v' w', (Builtin.append_ #[t, tn] ty #[v, .int .i64 (m : Int)]).run P w = .ok v' w' ∧ w'.ownsRow base e 1 v' (n + m) (xs ++ (Builtin.zeroCells z.cells m).toList) ∧ w.grownBy w' v.ownBlock ∧ (v'.ownBlock = v.ownBlock ∨ v'.ownBlock = some w.heap.size) := by
  subst hby
  have hsmall : n + m ≤ 9223372036854775807 := by simp only [maxLen] at h63; omega
  have hl : (Builtin.zeroCells z.cells m).toList.length = m := by rw [Array.length_toList, size_zeroCells, hzs, Nat.mul_one]
  have hm0 : m ≠ 0 := by omega
  have hw : IntKind.i64.wrap (m : Int) = m := by rw [IntKind.wrap_i64]; omega
  have hneg : ¬ ((m : Int) < 0) := by omega
  have hmb : m * i.bytes ≤ 140737488355328 := Nat.le_trans (Nat.mul_le_mul_right _ (by omega)) hbytes
  have h48i : ¬ (281474976710656 < (m : Int) * (i.bytes : Int)) := by
    rw [← Int.natCast_mul]
    omega
  generalize hN : Builtin.zeroCells z.cells m = N at *
  have hlen : (xs ++ N.toList).length = (n + m) * 1 := by rw [List.length_append, hown.1, hl]; omega
  have grown : ∀ (old : Nat), old < n + m → ∀ (row : Option Nat),
      (w.drew.alloc (.cells ((xs ++ N.toList).toArray ++ Builtin.zeroCells z.cells (grownCap w (n + m) old e - (n + m))) e)).ownsRow base e 1
        (.slice (some ⟨w.heap.size, 0, none⟩) (n + m) (grownCap w (n + m) old e)) (n + m) (xs ++ N.toList) ∧
      w.grownBy (w.drew.alloc (.cells ((xs ++ N.toList).toArray ++ Builtin.zeroCells z.cells (grownCap w (n + m) old e - (n + m))) e)) row := by
    intro old ho row
    have hge := grownCap_ge w (n + m) old e
    have hcm : grownCap w (n + m) old e ≤ maxLen := grownCap_le_maxLen w (n + m) old e h63
    refine ⟨⟨hlen, .inr ⟨w.heap.size, _, _, rfl, hbase, heap_alloc_new w.drew _, hge, hcm, ?_, ?_⟩⟩, ⟨rfl, rfl, rfl, by simp, fun k hk _ => heap_alloc_old w.drew _ hk⟩⟩
    · rw [Array.size_append, List.size_toArray, size_zeroCells, hzs, hlen, ← Nat.add_mul]
      congr 1
      omega
    · rw [Array.toList_append, ← hlen]
      exact List.take_left
  have grow : ∀ (ba : Option Addr) (sLen sCap : Nat) (olds : List Value), sLen = n → olds = xs → (Builtin.firstCells 1 sLen (.slice ba sLen sCap)).run P w.drew = .ok olds.toArray w.drew → sCap < sLen + m →
      (Builtin.append_ #[t, tn] ty #[.slice ba sLen sCap, .int .i64 (m : Int)]).run P w =
        .ok (.slice (some ⟨w.heap.size, 0, none⟩) (sLen + m) (grownCap w (sLen + m) sCap e))
          (w.drew.alloc (.cells ((olds ++ N.toList).toArray ++ Builtin.zeroCells z.cells (grownCap w (sLen + m) sCap e - (sLen + m))) e)) := by
    intro ba sLen sCap olds e1 e2 hold hg
    subst e1
    subst e2
    have hn : ¬ (sLen + m ≤ sCap) := by omega
    have h63' : ¬ (9223372036854775807 < ((sLen : Int) + (m : Int))) := by omega
    have hfit := growslice_fits (old := sCap) (by omega) hbytes
    have h48' : ¬ (281474976710656 < Builtin.nextslicecap (sLen + m) sCap * i.bytes) := by omega
    simp [Builtin.append_, run_underlying ht, run_underlying htn, sizeOf, typeInfo, zeroValue, hi, hz, asInt, asIntOf, hsize, hw, hm0, hneg, h48i, hn, h63', h48', Question.forced, hN, hold, newRow, grownCap]
    congr 2
    apply Array.ext'
    simp [List.append_assoc]
  rcases hown.2 with ⟨rfl, rfl⟩ | ⟨g, cap, cur, rfl, hbg, hg, hnc, hcm, hcs, htake⟩
  · have hx0 : xs = [] := List.eq_nil_of_length_eq_zero (by simpa using hown.1)
    subst hx0
    have hr := grow none 0 0 [] rfl rfl (run_firstCells_none w.drew 1 0 0 0) (by omega)
    have hgr := grown 0 (by omega) (Value.ownBlock (.slice none 0 0))
    simp only [Nat.zero_add, List.nil_append] at hgr hr ⊢
    exact ⟨_, _, hr, hgr.1, hgr.2, .inr rfl⟩
  · by_cases hroom : n + m ≤ cap
    · have hfit : n * 1 + N.toList.length ≤ cur.size := by rw [hl, hcs]; omega
      have hst := run_storeCells_at P g (n * 1) e N.toList 0 cur w hg (by simpa using hfit) h1
      simp only [Nat.add_zero, Nat.mul_one] at hst
      have hr : (Builtin.append_ #[t, tn] ty #[.slice (some ⟨g, 0, none⟩) n cap, .int .i64 (m : Int)]).run P w = .ok (.slice (some ⟨g, 0, none⟩) (n + m) cap) (w.setRow g (cur.toList.take n ++ N.toList ++ cur.toList.drop (n + N.toList.length)).toArray) := by
        simp [Builtin.append_, run_underlying ht, run_underlying htn, sizeOf, typeInfo, zeroValue, hi, hz, asInt, asIntOf, hsize, hw, hm0, hneg, h48i, hroom, hN, Addr.add_lit, hst]
      refine ⟨_, _, hr, ⟨hlen, .inr ⟨g, cap, _, rfl, hbg, setRow_heap w g cur _ e _ hg, hroom, hcm, ?_, ?_⟩⟩, ⟨rfl, rfl, rfl, by simp, fun k _ hk => setRow_other w g k _ (fun e => hk (by simp [Value.ownBlock, e]))⟩, .inl rfl⟩
      · simp only [List.size_toArray, List.length_append, List.length_take, List.length_drop, Array.length_toList]
        simp only [Array.length_toList] at hl hfit
        omega
      · have ht2 : cur.toList.take n = xs := by rw [← htake, Nat.mul_one]
        rw [ht2, ← hlen]
        exact List.take_left
    · have holds : ∀ j u, xs[j]? = some u → w.drew.cell? ((⟨g, 0, none⟩ : Addr).add j) = some u := fun j u hj => hown.cells (g := g) rfl j u hj
      have hold := run_firstCells_some (P := P) w.drew 1 n ⟨g, 0, none⟩ n cap xs hown.1 holds
      have hr := grow (some ⟨g, 0, none⟩) n cap xs rfl rfl hold (by omega)
      have hgr := grown cap (by omega) (Value.ownBlock (.slice (some ⟨g, 0, none⟩) n cap))
      exact ⟨_, _, hr, hgr.1, hgr.2, .inr rfl⟩
end
end Go.Proofs.Ythhcdfjijagalaa
namespace Go.Proofs.Ythhcdfjijagalaa
open Go.RowKit
set_option linter.unusedVariables false
set_option maxRecDepth 100000
theorem own_empty {w : World} {base : Nat} {e : TypeId} {g n cap : Nat} {xs : List Value} (h : w.ownsRow base e 1 (.slice (some ⟨g, 0, none⟩) n cap) n xs) : w.ownsRow base e 1 (.slice (some ⟨g, 0, none⟩) 0 cap) 0 [] := by
  obtain ⟨cur, h1, h2, h3, h4, h5, h6⟩ := own_row h
  exact own_of_row h1 h2 (Nat.zero_le _) h4 h5 rfl
/-- 'append(nil, make([][]byte, m)...)' -/
theorem wpList_grow {ops : Array Oper} {rest : List Oper} {o : Oper} {a : Act} {Q : Exit → Act → World → Prop} {w : World} (hgd : o.guard = none) (s xo : Operand)
    (ho : o.op = .call { callee := .builtin .append, args := #[s, xo], argTypes := #[156, 3] }) (m : Nat) (hs : a.eval s = .slice none 0 0) (hxe : a.eval xo = .int .i64 (m : Int)) (h1 : 0 < m) (h2 : m ≤ 1000)
    (K : ∀ g cap w', m ≤ cap → w'.ownsRow w.heap.size 88 1 (.slice (some ⟨g, 0, none⟩) 0 cap) 0 [] → w.grownBy w' none → wpList Try.prog ops Q rest (a.put o.dst (.slice (some ⟨g, 0, none⟩) m cap)) w') : wpList Try.prog ops Q (o :: rest) a w := by
  obtain ⟨i, hi, hz, e1, e2⟩ := info_parts1 info_bytest
  have hzc : (Builtin.zeroCells (Value.cells (.slice none 0 0)) m).toList = List.replicate m (.slice none 0 0) := by
    simp only [Builtin.zeroCells, Value.cells]
    apply List.ext_getElem
    · simp
    · intro i h1 h2
      simp [Nat.mod_one]
  have hone : ∀ u ∈ (Builtin.zeroCells (Value.cells (.slice none 0 0)) m).toList, u.oneCell' = true := by
    intro u hu
    rw [hzc] at hu
    rw [(List.mem_replicate.1 hu).2]; rfl
  obtain ⟨v', w', hr, h3, h4, h5⟩ := run_append_zeros (P := Try.prog) w w.heap.size 156 3 o.type 88 i (.slice none 0 0) .i64 24 und_Matrix Try.underlying3 hi hz e1 e2 rfl (.slice none 0 0) 0 [] (World.ownsRow_nil _ _ _ _) m (by omega) hone (by unfold maxLen; omega) (by omega) (Nat.le_refl _)
  rw [Nat.zero_add] at h3
  obtain ⟨g, cap, rfl, _, _, h6, _⟩ := own_pos h3 h1
  refine wpList_value hgd ?_ (K g cap w' h6 (own_empty h3) h4)
  unfold execOp
  simp only [ho, resolve, invoke, builtin, Sem.run_bind, Sem.run_pure, Result.andThen_ok, List.map_toArray, List.map_cons, List.map_nil, hs, hxe, hr]
set_option maxHeartbeats 1000000 in
theorem GrowM_call (m : Nat) (w : World) (h1 : 1 ≤ m) (h2 : m ≤ 1000) : Calls Try.prog 118 #[.slice none 0 0, .int .i64 (m : Int)] w (fun e w' => ∃ g cap, e = .returned (.slice (some ⟨g, 0, none⟩) 0 cap) ∧ OT w w' none w.heap.size 88 1 (.slice (some ⟨g, 0, none⟩) 0 cap) 0 []) := by
  go_enter Try.func118, Try.ntmps118
  go_wp2_with (refine wpList_grow rfl (.tmp 20) (.tmp 21) rfl m rfl rfl (by omega) h2 ?_; intro g cap w2 hc o2 g2)
  go_ret
  exact ⟨g, cap, rfl, OT.fresh o2 (Below.grown (Below.refl _ _) g2 (Nat.le_refl _) (by intro k hk; cases hk)) (Nat.le_refl _)⟩
theorem rwCells_append (A B : List Rw) : rwCells (A ++ B) = rwCells A ++ rwCells B := by simp [rwCells]
set_option maxHeartbeats 2000000 in
theorem ConcatM_call (b : Nat) (a1 : Option Addr) (n1 c1 : Nat) (A : List Rw) (a2 : Option Addr) (n2 c2 : Nat) (B : List Rw) (w : World) (hA : Ms w a1 n1 c1 A) (hB : Ms w a2 n2 c2 B) (x0 : w.cell? ⟨b, 0, none⟩ = some (.slice a1 n1 c1)) (x1 : w.cell? ⟨b, 1, none⟩ = some (.slice a2 n2 c2))
    (h1 : 1 ≤ n1 + n2) (h2 : n1 + n2 ≤ 1000) : Calls Try.prog 106 #[.slice (some ⟨b, 0, none⟩) 2 2] w (fun e w' => ∃ a n cap, e = .returned (.slice a n cap) ∧ Ms w' a n cap (A ++ B) ∧ Below w.heap.size w w') := by
  have hb : b < w.heap.size := World.block_lt_of_cell? _ _ x0
  go_enter Try.func106, Try.ntmps106
  go_wp2_with fail
  go_loopg [3, 11] 2 (fun g s3 s11 wr => ∃ k z : Nat, g = 2 - k ∧ k ≤ 2 ∧ s11 = .int .i64 (k : Int) ∧ s3 = .int .i64 (z : Int) ∧ w = wr ∧ Hid ((k = 0 ∧ z = 0) ∨ (k = 1 ∧ z = n1) ∨ (k = 2 ∧ z = n1 + n2)))
  case atStart => exact ⟨0, 0, rfl, by omega, rfl, rfl, rfl, hid (.inl ⟨rfl, rfl⟩)⟩
  case round =>
    obtain ⟨k, z, rfl, hk, rfl, rfl, rfl, HZ⟩ := hrel
    rcases HZ.out with ⟨rfl, rfl⟩ | ⟨rfl, rfl⟩ | ⟨rfl, rfl⟩
    · clear HZ
      have u0 : ¬ (n1 : Int) < 0 := by omega
      go_wp2_with fail
      go_roundg 1
      case measure => omega
      case rel => exact ⟨1, n1, rfl, by omega, by go_num, by go_num, rfl, hid (.inr (.inl ⟨rfl, rfl⟩))⟩
    · clear HZ
      have s1 : IntKind.i64.wrap ((z : Int) + (n2 : Int)) = (z : Int) + (n2 : Int) := IntWalk.i64_in _ (by omega)
      have u0 : ¬ (z : Int) + (n2 : Int) < 0 := by omega
      go_wp2_with fail
      go_roundg 0
      case measure => omega
      case rel => exact ⟨2, z + n2, rfl, by omega, by go_num, by go_num, rfl, hid (.inr (.inr ⟨rfl, rfl⟩))⟩
    · clear HZ
      obtain ⟨m, hm⟩ : ∃ m, m = n1 + n2 := ⟨_, rfl⟩
      rw [← hm]
      have D := hid (GrowM_call m w (by omega) (by omega))
      replace hm := hid hm
      go_wp2_with fail
      go_at_call 118; refine (D.out).mono ?_; rintro e w1 ⟨g, cap, rfl, o1⟩
      go_wp2_with fail
      go_loopg [6, 27] 2 (fun g s6 s27 wr => ∃ (k : Nat) (R : List Rw), g = 2 - k ∧ k ≤ 2 ∧ s27 = .int .i64 (k : Int) ∧ OT w wr none w.heap.size 88 1 s6 R.length (rwCells R) ∧ Hid ((k = 0 ∧ R = []) ∨ (k = 1 ∧ R = A) ∨ (k = 2 ∧ R = A ++ B)))
      case atStart => exact ⟨0, [], rfl, by omega, rfl, o1, hid (.inl ⟨rfl, rfl⟩)⟩
      case round =>
        clear o1
        obtain ⟨k, R, rfl, hk, rfl, hO, HZ⟩ := hrel
        obtain ⟨wo, rfl⟩ : ∃ wo : World, wo = wr := ⟨_, rfl⟩
        have hbo := hO.belowOf (Nat.le_refl _) (fun k e => by cases e)
        have hszo := hbo.size
        have y0 : wo.cell? ⟨b, 0, none⟩ = some (.slice a1 n1 c1) := (hbo.cell (p := ⟨b, 0, none⟩) hb).trans x0
        have y1 : wo.cell? ⟨b, 1, none⟩ = some (.slice a2 n2 c2) := (hbo.cell (p := ⟨b, 1, none⟩) hb).trans x1
        rcases HZ.out with ⟨rfl, rfl⟩ | ⟨rfl, rfl⟩ | ⟨rfl, rfl⟩
        · clear HZ
          have hA1 := hA.below hbo
          have HA := hid hA.cnt
          go_wp2_with (refine wpList_append_t rfl (.tmp 31) (.tmp 32) 156 156 rfl w.heap.size 88 1 24 (.slice none 0 0) und_Matrix info_bytest rfl (by decide) _ 0 [] rfl hO (.slice a1 n1 c1) n1 (rwCells A) rfl (Sl.src hA1.sl und_Matrix (rwCells_one A)) (by unfold maxLen; omega) (by omega) hszo ?_; intro v2 w2 ho2 hg2; rw [Nat.zero_add, List.nil_append, ← HA.out] at ho2)
          go_roundg 1
          case measure => omega
          case rel => exact ⟨1, A, rfl, by omega, by go_num, ho2, hid (.inr (.inl ⟨rfl, rfl⟩))⟩
        · clear HZ
          have hB1 := hB.below hbo
          have HB := hid hB.cnt
          have hR := hA.cnt
          go_wp2_with (refine wpList_append_t rfl (.tmp 31) (.tmp 32) 156 156 rfl w.heap.size 88 1 24 (.slice none 0 0) und_Matrix info_bytest rfl (by decide) _ R.length (rwCells R) rfl hO (.slice a2 n2 c2) n2 (rwCells B) rfl (Sl.src hB1.sl und_Matrix (rwCells_one B)) (by unfold maxLen; omega) (by omega) hszo ?_; intro v2 w2 ho2 hg2; rw [← HB.out, ← List.length_append, ← rwCells_append] at ho2)
          go_roundg 0
          case measure => omega
          case rel => exact ⟨2, R ++ B, rfl, by omega, by go_num, ho2, hid (.inr (.inr ⟨rfl, rfl⟩))⟩
        · clear HZ
          obtain ⟨a3, c3, rfl, hs3⟩ := own_sl hO.own
          go_wp2_with fail
          go_ret
          refine ⟨_, _, _, rfl, ⟨hs3, fun r hr => ?_⟩, hbo⟩
          rcases List.mem_append.1 hr with h | h
          · exact (hA.row r h).below hbo
          · exact (hB.row r h).below hbo
end Go.Proofs.Ythhcdfjijagalaa
namespace Go.Proofs.Ythhcdfjijagalaa.Mat
set_option linter.unusedVariables false
/-- Shards: data and their spare ones. -/
structure Shards (l S : List (List UInt8)) (d s m : Nat) : Prop where
  fine : Fine l d m
  d8 : d ≤ 8
  s4 : s ≤ 4
  rep : Rep S s m (spareM d (ent l))
section
variable {l S : List (List UInt8)} {d s m : Nat}
theorem Shards.rows (h : Shards l S d s m) : Rep (l ++ S) (d + s) m (mul d (rowM d) (ent l)) := all_rows h.fine.rep h.rep
theorem Shards.whole (h : Shards l S d s m) : Fine (l ++ S) (d + s) m := h.rows.fine (by have := h.fine.n1; omega) (by have := h.d8; have := h.s4; omega) h.fine.m1 h.fine.m2
theorem Shards.row (h : Shards l S d s m) {i : Nat} (hi : i < d + s) : ((l ++ S).getD i []).length = m := by
  have hl : i < (l ++ S).length := by rw [h.whole.rows]; exact hi
  rw [show (l ++ S).getD i [] = (l ++ S)[i] by simp only [List.getD, List.getElem?_eq_getElem hl, Option.getD_some]]
  exact h.whole.cols _ (List.getElem_mem _)
/-- All shards, some of which are gone. -/
structure Left (l S X : List (List UInt8)) (d s : Nat) : Prop where
  len : X.length = d + s
  row : ∀ i, i < d + s → X.getD i [] = (l ++ S).getD i [] ∨ X.getD i [] = []
theorem Left.there (h : Shards l S d s m) {X : List (List UInt8)} (hX : Left l S X d s) {u : Nat} (hu : u ∈ there X) : u < d + s ∧ X.getD u [] = (l ++ S).getD u [] := by
  obtain ⟨h1, h2⟩ := there_lt hu
  rw [hX.len] at h1
  refine ⟨h1, (hX.row u h1).resolve_right fun e => ?_⟩
  unfold isThere at h2
  rw [e] at h2
  exact absurd h2 (by decide)
theorem mend_all (h : Shards l S d s m) {X : List (List UInt8)} (hX : Left l S X d s) (hd : d ≤ (Mat.there X).length) {L : List (List UInt8)} {e : Int} (hm : MendR X (d : Int) L e) : L = l ++ S ∧ e = 0 := by
  classical
  have hd1 := h.fine.n1
  have hlen : ((X.length : Int) - (d : Int)) = (s : Int) := by rw [hX.len]; omega
  have hg : ∀ p, p < d → (Mat.there X).getD p 0 ∈ Mat.there X := fun p hp => by
    rw [show (Mat.there X).getD p 0 = (Mat.there X)[p]'(by omega) by simp only [List.getD, List.getElem?_eq_getElem (show p < (Mat.there X).length by omega), Option.getD_some]]
    exact List.getElem_mem _
  have hwid : wid X ((Mat.there X).getD 0 0) = m := by
    obtain ⟨h1, h2⟩ := hX.there h (hg 0 (by omega))
    unfold wid
    rw [h2]; exact h.row h1
  unfold MendR at hm
  rw [hlen, if_neg (fun hh => hh (wrongC_of (by have := h.d8; have := h.s4; omega))), if_neg (by omega), if_neg (fun ⟨q, hq, hb⟩ => by
    obtain ⟨i, hi, rfl⟩ := List.getElem_of_mem hq
    have hi' : i < d + s := by rw [← hX.len]; exact hi
    have e1 : X.getD i [] = X[i] := by simp only [List.getD, List.getElem?_eq_getElem hi, Option.getD_some]
    rw [hwid] at hb
    rcases hX.row i hi' with h1 | h1
    · rw [e1] at h1
      rw [h1, h.row hi'] at hb
      have := h.fine.m2
      omega
    · rw [e1] at h1
      rw [h1] at hb
      simp at hb), hwid, hX.len, Int.toNat_natCast] at hm
  obtain ⟨f, hU, hR, he⟩ := hm
  refine ⟨hR.uniq h.rows fun i j hi hj => ?_, he⟩
  refine mul_congr (fun _ _ => rfl) fun k hk => ?_
  have e1 : mul d f (fun p k => ent X ((Mat.there X).getD p 0) k) k j = mul d f (mul d (picked d ((Mat.there X).take d)) (ent l)) k j := mul_congr (fun _ _ => rfl) fun p hp => by
    obtain ⟨h1, h2⟩ := hX.there h (hg p hp)
    have e2 : ent X ((Mat.there X).getD p 0) j = ent (l ++ S) ((Mat.there X).getD p 0) j := by unfold ent; rw [h2]
    rw [e2, h.rows.eq _ j h1 hj]
    refine sum_congr fun q _ => ?_
    show gmul (rowM d ((Mat.there X).getD p 0) q) (ent l q j) = gmul (rowM d (((Mat.there X).take d).getD p 0) q) (ent l q j)
    rw [show ((Mat.there X).take d).getD p 0 = (Mat.there X).getD p 0 by simp [List.getD, hp]]
  rw [e1, ← mul_assoc3]
  have e3 : mul d (mul d f (picked d ((Mat.there X).take d))) (ent l) k j = mul d one (ent l) k j := mul_congr (fun q hq => hU.1 k q hk hq) fun _ _ => rfl
  rw [e3, one_mul_left d _ hk]
/-- More of them than spare ones. -/
theorem mend_lost (h : Shards l S d s m) {X : List (List UInt8)} (hX : Left l S X d s) (hd : (Mat.there X).length < d) {L : List (List UInt8)} {e : Int} (hm : MendR X (d : Int) L e) : L = [] ∧ e = 10 := by
  classical
  have hd1 := h.fine.n1
  have hlen : ((X.length : Int) - (d : Int)) = (s : Int) := by rw [hX.len]; omega
  unfold MendR at hm
  rw [hlen, if_neg (fun hh => hh (wrongC_of (by have := h.d8; have := h.s4; omega))), if_pos (by omega)] at hm
  exact hm
theorem Shards.take (h : Shards l S d s m) : (l ++ S).take d = l := by rw [List.take_append, h.fine.rows, Nat.sub_self, List.take_zero, List.append_nil, List.take_of_length_le (by rw [h.fine.rows]; exact Nat.le_refl _)]
end
end Go.Proofs.Ythhcdfjijagalaa.Mat
