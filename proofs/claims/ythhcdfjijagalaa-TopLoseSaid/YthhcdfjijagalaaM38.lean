/- Joined, and what is not used struck: OpD, SpF, EventG, SoE, SpH, SoF. -/
import Derived.Test.YthhcdfjijagalaaM10
import Derived.Test.YthhcdfjijagalaaM35
import Derived.Test.YthhcdfjijagalaaM37
import Derived.Test.YthhcdfjijagalaaM24
import Derived.Test.YthhcdfjijagalaaM03
import Derived.Test.YthhcdfjijagalaaM36
import Derived.Test.YthhcdfjijagalaaM26
import Derived.Test.YthhcdfjijagalaaM11
import Derived.DeepKeys4
namespace Go.Proofs.Ythhcdfjijagalaa
open Go.ChangeShapes Go.WideShapes Go.ChangeAt Go.RowKit Go.Joins Go.Deep
set_option linter.unusedVariables false
section
variable {H : Type} {enc : TypeId × Value → H} {w : World} {base : Nat} {spare : Nat → Bool} {held : Bool}
theorem u8_of {a : Int} (h : (Lit.int .u8 a).wf = true) : ∃ y : UInt8, a = (y.toNat : Int) := by
  obtain ⟨h0, h1⟩ := u8_bounds h
  refine ⟨UInt8.ofNat a.toNat, ?_⟩
  rw [UInt8.toNat_ofNat']
  omega
end
end Go.Proofs.Ythhcdfjijagalaa
namespace Go.Proofs.Ythhcdfjijagalaa
open Go.RowKit Go.Maps
set_option linter.unusedVariables false
set_option linter.unusedSimpArgs false
set_option linter.unusedSectionVars false
set_option maxRecDepth 100000
section
variable {α : Type} [DecidableEq α]
variable {kt : TypeId} {mk : α → Value} {w w' : World} {b n n' : Nat} {f : α → Bool} {D : DataW Unit}
end
/-! ### answers that are read -/
structure Amv (w : World) (a : Option Addr) (n cap : Nat) (L : List Am) : Prop where
  sl : Sl w 5 a n cap (rows am5 L)
  cnt : L.length = n
  evs : ∀ x ∈ L, Es w x.ea x.evs.length x.ec x.evs
  accs : ∀ x ∈ L, As w x.aa x.accs.length x.ac x.accs
theorem Ams.amv {w : World} {base : Nat} {a : Option Addr} {n cap : Nat} {L : List Am} (h : Ams w base (.slice a n cap) L) : n = L.length ∧ Amv w a n cap L := by
  obtain ⟨a', c', e, hs⟩ := own_sl h.own
  cases e
  exact ⟨rfl, hs, rfl, fun x hx => (h.evs x hx).es, fun x hx => (h.accs x hx).as⟩
theorem Amv.at {w : World} {b off n cap : Nat} {L : List Am} (h : Amv w (some ⟨b, off, none⟩) n cap L) (i : Nat) (hi : i < L.length) :
    w.cell? ⟨b, off + i * 5, none⟩ = some (.int .i64 L[i].err) ∧ w.cell? ⟨b, off + i * 5 + 1, none⟩ = some (.int .i64 L[i].n) ∧ w.cell? ⟨b, off + i * 5 + 2, none⟩ = some (.slice L[i].ea L[i].evs.length L[i].ec) ∧ w.cell? ⟨b, off + i * 5 + 3, none⟩ = some (.int .i64 L[i].u) ∧ w.cell? ⟨b, off + i * 5 + 4, none⟩ = some (.slice L[i].aa L[i].accs.length L[i].ac) := by
  have hn := h.cnt
  have g : ∀ j, j < 5 → w.cell? ⟨b, off + (i * 5 + j), none⟩ = (am5 L[i])[j]? := fun j hj => by
    have h1 := rows_get am5_len L i j hi hj
    obtain ⟨b', off', e, hc⟩ := h.sl.addr (by omega)
    cases e
    have hlt : j < (am5 L[i]).length := hj
    rw [List.getElem?_eq_getElem hlt] at h1 ⊢
    exact hc _ _ h1
  exact ⟨g 0 (by omega), g 1 (by omega), g 2 (by omega), g 3 (by omega), g 4 (by omega)⟩
theorem Amv.free {w : World} {a : Option Addr} {n cap : Nat} {L : List Am} (h : Amv w a n cap L) (hn : 0 < n) : ∃ b off, a = some ⟨b, off, none⟩ := by
  obtain ⟨b, off, e, _⟩ := h.sl.addr hn
  exact ⟨b, off, e⟩
end Go.Proofs.Ythhcdfjijagalaa
namespace Go.Proofs.Ythhcdfjijagalaa
open Go.RowKit
set_option linter.unusedVariables false
theorem Es.drewN {w : World} {a : Option Addr} {n cap : Nat} {l : List Evt.Ev} (h : Es w a n cap l) (k : Nat) : Es (w.drewN k) a n cap l := ⟨h.sl.drewN k, h.ok⟩
set_option maxHeartbeats 1000000 in
theorem rSameEvents_same (a a' : Option Addr) (n cap n' cap' : Nat) (l : List Evt.Ev) (w : World) (h : Es w a n cap l) (h' : Es w a' n' cap' l) : Calls Try.prog 20 #[.slice a n cap, .slice a' n' cap'] w (Drew (.bool true) w) := by
  obtain rfl : n' = n := h'.n.symm.trans h.n
  have hmax := h.sl.max
  have hle := h.sl.le
  unfold maxLen at hmax
  have HN := hid h.n
  go_enter Try.func20, Try.ntmps20
  go_wp2
  go_loopg [5, 13, 16, 17, 18, 19, 20, 21, 22, 23, 24] n' (fun g s5 i s16 s17 s18 s19 s20 s21 s22 s23 s24 wr => ∃ k j : Nat, g = n' - k ∧ k ≤ n' ∧ i = .int .i64 k ∧ wr = w.drewN j)
  case atStart => exact ⟨0, 0, rfl, by omega, rfl, rfl⟩
  case round =>
    obtain ⟨k, j, rfl, hk, rfl, rfl⟩ := hrel
    by_cases hlt : k < n'
    · have hkl : k < l.length := by rw [HN.out]; exact hlt
      obtain ⟨b, off, rfl, _⟩ := h.sl.addr (by omega)
      obtain ⟨b', off', rfl, _⟩ := h'.sl.addr (by omega)
      obtain ⟨q0, q1, q2⟩ := h.at k hkl
      obtain ⟨p0, p1, p2⟩ := h'.at k hkl
      generalize l[k] = e at *
      go_wp2_with fail
      go_quiet (fail)
      go_wp2_with fail
      go_roundg (n' - (k + 1))
      case measure => omega
      case rel => exact ⟨k + 1, _, rfl, by omega, by go_num, rfl⟩
    · obtain rfl : k = n' := by omega
      go_wp2
      go_ret
      exact ⟨rfl, j, rfl⟩
end Go.Proofs.Ythhcdfjijagalaa
namespace Go.Proofs.Ythhcdfjijagalaa.Evt
set_option linter.unusedVariables false
theorem fb_all (l : List Ba) (h : ∀ b ∈ l, (wrongBa b).1 = 0) : ∀ i, (fb l i).1 = 0 := by
  induction l with
  | nil => intro i; rfl
  | cons b r ih =>
    intro i
    unfold fb
    rw [if_neg (by rw [h b (by simp)]; exact fun e => e rfl)]
    exact ih (fun x hx => h x (by simp [hx])) _
theorem evBytes_le {e : Ev} (h : wrongEv e = 0) : (evBytes e).length ≤ 15 := by
  have := (named_len (wrongEv_zero h).1).2
  unfold evBytes
  simp only [List.length_cons, List.length_append, three_length]
  omega
theorem baBytes_le {b : Ba} (h : (wrongBa b).1 = 0) (h2 : b.evs.length ≤ 2) : (baBytes b).length ≤ 34 := by
  have hw := (wrongBa_zero h).2.2.2.2
  have : ∀ l : List Ev, (∀ e ∈ l, wrongEv e = 0) → (l.flatMap evBytes).length ≤ 15 * l.length := by
    intro l hl
    induction l with
    | nil => simp
    | cons e r ih =>
      have h1 := evBytes_le (hl e (by simp))
      have h2 := ih (fun x hx => hl x (by simp [hx]))
      rw [List.flatMap_cons, List.length_append, List.length_cons]; omega
  have := this b.evs hw
  unfold baBytes
  rw [List.length_append, List.length_cons, three_length]
  omega
theorem bytes_le {l : List Ba} (h : ∀ b ∈ l, (wrongBa b).1 = 0 ∧ b.evs.length ≤ 2) : (bytes l).length ≤ 1 + 34 * l.length := by
  have : (l.flatMap baBytes).length ≤ 34 * l.length := by
    induction l with
    | nil => simp
    | cons e r ih =>
      have h1 := baBytes_le (h e (by simp)).1 (h e (by simp)).2
      have h2 := ih (fun x hx => h x (by simp [hx]))
      rw [List.flatMap_cons, List.length_append, List.length_cons]; omega
  unfold bytes
  rw [List.length_cons]; omega
end Go.Proofs.Ythhcdfjijagalaa.Evt
namespace Go.Proofs.Ythhcdfjijagalaa.Sto
set_option linter.unusedVariables false
theorem layF_ok {b : List UInt8} {g d s : Int} (h1 : Mat.wrongC d s = 0) (h2 : 0 ≤ g ∧ g ≤ 39) (h3 : (b.length : Int) ≤ 400 * d) : (Stp.layF b g d s).2 = 0 := by
  have h := Stp.layF_spec b g d s
  unfold Stp.LayR at h
  rw [if_neg (fun e => e h1), if_neg (by omega), if_neg (by omega)] at h
  obtain ⟨S, _, _, h⟩ := h
  exact h
theorem Ok.code {s : St} {K : Nat} (h : Ok s K) : Mat.wrongC s.data s.spare = 0 := by
  have := h.d; have := h.sp
  unfold Mat.wrongC
  rw [if_neg (by omega)]
theorem J.tail {s : St} {X : List Evt.Ba} {had : List (Int × Int)} {H : Nat → Prop} {K : Nat} (h : J s X had H K) : ∀ b ∈ s.tail, b ∈ X := fun b hb => by
  obtain ⟨G, L, _, ht⟩ := h.core
  rw [← ht]
  exact List.mem_append_right _ hb
theorem put_good {s : St} {X : List Evt.Ba} {had : List (Int × Int)} {H : Nat → Prop} {K : Nat} (h : J s X had H K) {d : Do} (hk : d.kind = 1) (hw : (Evt.wrongBa d.b).1 = 0) (hc : ∀ b ∈ X, b.c ≠ d.b.c) (hv : d.ver < 0) (hf : (Vw.fold s.snap d.b.evs).err = 0)
    (h2 : d.b.evs.length ≤ 2) (ht : ∀ b ∈ X, b.evs.length ≤ 2) (hs : s.segs ≤ 39) : (step s d).2.err = 0 ∧ newB s d = [d.b] := by
  have hns : ¬ d.b.c ∈ s.seen := fun hm => by
    obtain ⟨b, hb, e⟩ := (h.inv.seen _).1 hm
    exact hc b hb e
  have hall : ∀ b ∈ s.tail ++ [d.b], (Evt.wrongBa b).1 = 0 ∧ b.evs.length ≤ 2 := fun b hb => by
    rcases List.mem_append.1 hb with hb | hb
    · exact ⟨h.ok.te b hb, ht b (h.tail b hb)⟩
    · obtain rfl := List.mem_singleton.1 hb
      exact ⟨hw, h2⟩
  have htl := h.ok.t
  have hb10 := h.ok.b
  have hlen : (s.tail ++ [d.b]).length ≤ 10 := by rw [List.length_append]; simp only [List.length_cons, List.length_nil]; omega
  have hby : Evt.bytesR (s.tail ++ [d.b]) = ⟨Evt.bytes (s.tail ++ [d.b]), 0, 0⟩ := by
    unfold Evt.bytesR
    rw [if_neg (by omega), if_neg (by rw [Evt.fb_all _ (fun b hb => (hall b hb).1)]; exact fun e => e rfl)]
  have hbl := Evt.bytes_le hall
  have hd := h.ok.d
  have hlay : (Stp.layF (Evt.bytes (s.tail ++ [d.b])) (s.segs : Int) s.data s.spare).2 = 0 := layF_ok h.ok.code (by omega) (by omega)
  have hseal : (sealS { s with tail := s.tail ++ [d.b] }).2 = 0 := by
    unfold sealS
    rw [if_neg (show ¬ (Evt.bytesR (s.tail ++ [d.b])).err ≠ 0 by rw [hby]; exact fun e => e rfl), if_neg (show ¬ (Stp.layF (Evt.bytesR (s.tail ++ [d.b])).l (s.segs : Int) s.data s.spare).2 ≠ 0 by rw [hby]; exact fun e => e hlay)]
  have he : (put s d).2.err = 0 := by
    unfold put
    rw [if_neg (by rw [hw]; exact fun e => e rfl), if_neg hns, if_neg (by omega), if_neg (by rw [hf]; exact fun e => e rfl)]
    split
    · rw [if_neg (by rw [hseal]; exact fun e => e rfl)]; rfl
    · rfl
  refine ⟨by rw [step_put hk]; exact he, ?_⟩
  unfold newB
  rw [step_put hk, if_pos ⟨hk, he, hns⟩]
/-- how many batches there are -/
def Cnt (s : St) (X : List Evt.Ba) : Prop := (s.segs : Int) * s.batches + (s.tail.length : Int) = (X.length : Int)
theorem Cnt.start (d p b : Int) : Cnt (start d p b) [] := by
  show ((0 : Nat) : Int) * b + ((0 : Nat) : Int) = ((0 : Nat) : Int)
  simp
theorem step_batches (s : St) (d : Do) : (step s d).1.batches = s.batches ∧ (step s d).1.data = s.data := by
  by_cases h1 : d.kind = 1
  · rw [step_put h1]
    rcases put_cases s d with ⟨e1, _⟩ | ⟨_, _, e, _, e', _⟩
    · rw [e1]; exact ⟨rfl, rfl⟩
    · exact ⟨e', e⟩
  · by_cases h5 : d.kind = 5 ∨ d.kind = 6 ∨ d.kind = 7
    · rw [step_harm h5]
      rcases harm_cases s d with ⟨e1, _⟩ | ⟨_, _, _, ⟨_, e1⟩ | ⟨_, _, e1⟩ | ⟨_, _, _, _, _, _, e1⟩⟩ <;> rw [e1] <;> exact ⟨rfl, rfl⟩
    · by_cases h8 : d.kind = 8
      · rw [step_scrub h8]; exact ⟨rfl, rfl⟩
      · rw [step_other h1 h5 h8]; exact ⟨rfl, rfl⟩
theorem Cnt.step {s : St} {X : List Evt.Ba} (h : Cnt s X) (d : Do) : Cnt (step s d).1 (X ++ newB s d) := by
  unfold Cnt at *
  by_cases h1 : d.kind = 1
  · unfold newB
    rw [step_put h1]
    rcases put_cases s d with ⟨e1, e2⟩ | ⟨e1, e2, _, _, e5, e6⟩
    · rw [if_neg (by rintro ⟨_, h3, h4⟩; rcases e2 with h2 | h2; exact h2 h3; exact h4 h2), List.append_nil, e1]; exact h
    · rw [if_pos ⟨h1, e1, e2⟩, e5, List.length_append]
      rcases e6 with ⟨_, f2, f3, _⟩ | ⟨L', _, _, _, f2, f3, f4⟩
      · rw [f2, f3, List.length_append]
        simp only [List.length_cons, List.length_nil]
        omega
      · rw [f2, f3]
        simp only [List.length_cons, List.length_nil]
        have : ((s.segs + 1 : Nat) : Int) * s.batches = (s.segs : Int) * s.batches + s.batches := by
          rw [Int.natCast_add, Int.add_mul]; simp
        rw [this]
        omega
  · rw [newB_no h1, List.append_nil]
    by_cases h5 : d.kind = 5 ∨ d.kind = 6 ∨ d.kind = 7
    · rw [step_harm h5, (harm_rest s d).1, (harm_rest s d).2, ← step_harm h5, (step_batches s d).1]; exact h
    · by_cases h8 : d.kind = 8
      · rw [step_scrub h8]; exact h
      · rw [step_other h1 h5 h8]; exact h
theorem Cnt.segs {s : St} {X : List Evt.Ba} {K : Nat} (h : Cnt s X) (ho : Ok s K) : s.segs ≤ X.length := by
  unfold Cnt at h
  have hb := ho.b
  have : (s.segs : Int) * 1 ≤ (s.segs : Int) * s.batches := Int.mul_le_mul_of_nonneg_left hb.1 (by omega)
  omega
theorem read_all {s : St} {X : List Evt.Ba} (ha : all s = (X, 0)) {d : Do} (h3 : d.kind = 3) (hn : d.n = 0) : (step s d).2 = ⟨0, (events X).length, events X, Vw.none'⟩ := by
  have : (step s d).2 = read s d := by unfold step; rw [if_neg (by omega), if_pos (.inr h3)]
  rw [this, read_of ha, if_pos h3, hn, if_neg (by omega)]
  rfl
/-- one event comes -/
theorem fold_one {v : Vw.Vi} {e : Evt.Ev} (hg : Vw.Good v) (h1 : Evt.wrongEv e = 0) (h2 : v.upto ≠ 150) (h3 : Vw.may (Vw.get v.accs e.s) e = true) :
    (Vw.fold v [e]).err = 0 ∧ (Vw.fold v [e]).v = ⟨v.upto + 1, Vw.ins (Vw.plus (Vw.get v.accs e.s) e) v.accs⟩ ∧ Vw.Good (Vw.fold v [e]).v := by
  have ha := Vw.apply_of hg h1 h2 h3
  have he : (Vw.fold v [e]).err = 0 := by
    rw [Vw.fold_of hg, Vw.fo_cons, ha]
    rfl
  have hv : (Vw.fold v [e]).v = ⟨v.upto + 1, Vw.ins (Vw.plus (Vw.get v.accs e.s) e) v.accs⟩ := by
    rw [Vw.fold_of hg, Vw.fo_cons, ha]
    rfl
  refine ⟨he, hv, ?_⟩
  rw [Vw.fold_of hg] at he ⊢
  exact (Vw.fo_good _ _ 0 hg he).1
theorem J.good {s : St} {X : List Evt.Ba} {had : List (Int × Int)} {H : Nat → Prop} {K : Nat} (h : J s X had H K) : Vw.Good s.snap := by
  obtain ⟨hg, e1⟩ := Vw.fold_ok h.inv.err
  rw [← h.inv.snap, e1]
  have := h.inv.err
  rw [e1] at this
  exact (Vw.fo_good _ _ 0 hg this).1
def doPut (c : Int) (l : List Evt.Ev) : Do := ⟨1, 0, 0, 0, 0, ⟨c, l⟩, ⟨#[]⟩, -1⟩
def doOf (k n : Int) : Do := ⟨k, n, 0, 0, 0, ⟨0, []⟩, ⟨#[]⟩, 0⟩
def sa : ByteArray := ⟨#[97]⟩
def sb : ByteArray := ⟨#[98]⟩
theorem open_right (s : ByteArray) (h : s = sa ∨ s = sb) : Evt.wrongEv ⟨s, 1, 0⟩ = 0 := by
  rcases h with rfl | rfl <;> decide
theorem num_right (s : ByteArray) (h : s = sa ∨ s = sb) (k n : Int) (hk : k = 2 ∨ k = 3) (h0 : 0 ≤ n) (h1 : n ≤ 1000000) : Evt.wrongEv ⟨s, k, n⟩ = 0 := by
  have hn : Evt.named (Evt.lst s) = true := by rcases h with rfl | rfl <;> decide
  unfold Evt.wrongEv
  rw [if_neg (by rw [hn]; decide), if_neg (by show ¬ (k < 1 ∨ 4 < k); omega), if_neg (by show ¬ (n < 0 ∨ 1000000 < n ∨ ((k = 1 ∨ k = 4) ∧ n ≠ 0)); omega)]
theorem ba_right {c : Int} {l : List Evt.Ev} (h1 : 1 ≤ c) (h2 : c ≤ 1000000) (h3 : 1 ≤ l.length) (h4 : l.length ≤ 10) (h : ∀ e ∈ l, Evt.wrongEv e = 0) : (Evt.wrongBa ⟨c, l⟩).1 = 0 := by
  unfold Evt.wrongBa
  rw [if_neg (by show ¬ (c < 1 ∨ 1000000 < c); omega), if_neg (by show ¬ (l.length < 1 ∨ 10 < l.length); omega)]
  have : ∀ (l : List Evt.Ev), (∀ e ∈ l, Evt.wrongEv e = 0) → ∀ i, (Evt.fw l i).1 = 0 := by
    intro l hl
    induction l with
    | nil => intro i; rfl
    | cons e r ih =>
      intro i
      unfold Evt.fw
      rw [if_neg (by rw [hl e (by simp)]; exact fun e => e rfl)]
      exact ih (fun x hx => hl x (by simp [hx])) _
  exact this l h 0
section
variable {s : St} {X : List Evt.Ba} {had : List (Int × Int)} {H : Nat → Prop} {K : Nat}
theorem J.put (h : J s X had H K) {d : Do} (hd : d.kind = 1) : J (Sto.step s d).1 (X ++ newB s d) had H (K + 1) := by
  have := h.step d (fun e => absurd (hd.symm.trans e) (by decide))
  unfold hurtN hadN at this
  rwa [if_neg (show ¬ (d.kind = 5 ∨ d.kind = 6 ∨ d.kind = 7) by omega), if_neg (show ¬ d.kind = 8 by omega), if_neg (show ¬ (d.kind = 7 ∧ d.y ≠ 0) by omega)] at this
/-- a disk is harmed, or not -/
theorem J.harm (h : J s X had H K) {d : Do} (hd : d.kind = 5 ∨ d.kind = 6 ∨ (d.kind = 7 ∧ (d.n, d.seg) ∉ had)) : J (Sto.step s d).1 X (hadN had d) (fun i => H i ∨ (i : Int) = d.n) (K + 1) := by
  have h1 := h.step d (fun e _ => by rcases hd with hd | hd | hd; omega; omega; exact hd.2)
  rw [newB_no (by omega), List.append_nil] at h1
  refine h1.mono (fun i hi => ?_)
  unfold hurtN at hi
  rw [if_pos (by omega)] at hi
  split at hi
  · exact hi
  · exact .inl hi
theorem J.scrub (h : J s X had H K) {d : Do} (hd : d.kind = 8) (hf : Few H s.spare) : J (Sto.step s d).1 X had (isGone (Sto.step s d).1) (K + 1) ∧ (Sto.step s d).2.err = 0 := by
  have he : (Sto.step s d).2.err = 0 := by rw [step_scrub hd]; exact h.scrub_ok hf
  have h1 := h.step d (fun e => absurd (hd.symm.trans e) (by decide))
  rw [newB_no (by omega), List.append_nil] at h1
  unfold hurtN hadN at h1
  rw [if_neg (show ¬ (d.kind = 5 ∨ d.kind = 6 ∨ d.kind = 7) by omega), if_pos hd, if_pos he, if_neg (show ¬ (d.kind = 7 ∧ d.y ≠ 0) by omega)] at h1
  exact ⟨h1, he⟩
end
theorem Few.mono {H H' : Nat → Prop} {n m : Int} (h : Few H n) (hh : ∀ i, H' i → H i) (hn : n ≤ m) : Few H' m := fun U hU hs => by
  have := h U hU (fun u hu => hh u (hs u hu))
  omega
end Go.Proofs.Ythhcdfjijagalaa.Sto
namespace Go.Proofs.Ythhcdfjijagalaa
open Go.RowKit Go.Maps
set_option linter.unusedVariables false
set_option linter.unusedSimpArgs false
set_option maxRecDepth 100000
/-- what is done, with its events' row -/
structure Dod where
  d : Sto.Do
  a : Option Addr
  n : Nat
  cap : Nat
def do9 (x : Dod) : List Value := [.int .i64 x.d.kind, .int .i64 x.d.n, .int .i64 x.d.seg, .int .i64 x.d.t, .int .u8 (x.d.y.toNat : Int), .int .i64 x.d.b.c, .slice x.a x.n x.cap, .string x.d.stream, .int .i64 x.d.ver]
theorem do9_len (x : Dod) : (do9 x).length = 9 := rfl
theorem do9_one (x : Dod) : ∀ u ∈ do9 x, u.oneCell' = true := by
  intro u hu
  simp only [do9, List.mem_cons, List.not_mem_nil, or_false] at hu
  rcases hu with rfl | rfl | rfl | rfl | rfl | rfl | rfl | rfl | rfl <;> rfl
theorem dos_of {w : World} {a : Option Addr} {n cap : Nat} {X : List Dod} (h : Sl w 9 a n cap (rows do9 X)) (he : ∀ x ∈ X, Es w x.a x.n x.cap x.d.b.evs) (hs : ∀ x ∈ X, x.d.stream.size ≤ maxLen) : Dos w a n cap (X.map Dod.d) := by
  have hn : X.length = n := by have := h.len; rw [rows_length do9_len] at this; omega
  refine ⟨h.le, h.max, by rw [List.length_map]; exact hn, fun h0 => ?_⟩
  obtain ⟨b, off, e, hc⟩ := h.addr h0
  refine ⟨b, off, e, fun i hi => ?_⟩
  have hi' : i < X.length := by simpa using hi
  have g : ∀ j, j < 9 → w.cell? ⟨b, off + (i * 9 + j), none⟩ = (do9 X[i])[j]? := fun j hj => by
    have h1 := rows_get do9_len X i j hi' hj
    have hlt : j < (do9 X[i]).length := hj
    rw [List.getElem?_eq_getElem hlt] at h1 ⊢
    exact hc _ _ h1
  have hm := List.getElem_mem hi'
  rw [List.getElem_map]
  exact ⟨g 0 (by omega), g 1 (by omega), g 2 (by omega), g 3 (by omega), g 4 (by omega), g 5 (by omega), ⟨_, _, _, g 6 (by omega), he _ hm⟩, g 7 (by omega), g 8 (by omega), hs _ hm⟩
/-- the store as a value whose rows are slices -/
theorem StM.val {w : World} {base : Nat} {m : Mst} (h : StM w base m) : ∃ da dc ta tc sa sc aa ac, stVal m = .agg #[.int .i64 m.d, .int .i64 m.s, .int .i64 m.b, .slice da m.D.length dc, .int .i64 (m.g : Int), .slice ta m.T.length tc, .slice sa m.seen.length sc, .int .i64 m.u, .slice aa m.A.length ac] ∧
    m.dv = .slice da m.D.length dc ∧ m.tv = .slice ta m.T.length tc ∧ m.sv = .slice sa m.seen.length sc ∧ m.av = .slice aa m.A.length ac := by
  obtain ⟨da, dc, h1, -⟩ := own_sl h.dks
  obtain ⟨ta, tc, h2, -⟩ := own_sl h.tail
  obtain ⟨sa, sc, h3, -⟩ := own_sl h.seen
  obtain ⟨aa, ac, h4, -⟩ := own_sl h.accs
  exact ⟨da, dc, ta, tc, sa, sc, aa, ac, by unfold stVal; rw [h1, h2, h3, h4], h1, h2, h3, h4⟩
theorem own_one {w : World} {e : TypeId} {cs : Array Value} (n k : Nat) (hs : cs.size = n * k) (hm : n ≤ maxLen) : (w.alloc (.cells cs e)).ownsRow w.heap.size e k (.slice (some ⟨w.heap.size, 0, none⟩) n n) n cs.toList := World.ownsRow_lit w cs n (Nat.le_refl _) hm hs
end Go.Proofs.Ythhcdfjijagalaa
namespace Go.Proofs.Ythhcdfjijagalaa.Sto
set_option linter.unusedVariables false
/-- a store into which small batches were put, the stream a being open with the sum S -/
structure Tp (s : St) (X : List Evt.Ba) (H : Nat → Prop) (K : Nat) (c S : Int) : Prop where
  j : J s X [] H K
  cnt : Cnt s X
  small : ∀ b ∈ X, b.evs.length ≤ 2
  less : ∀ b ∈ X, b.c < c
  opn : (Vw.get s.snap.accs sa).opn = true
  sum : (Vw.get s.snap.accs sa).sum = S
theorem events_le {X : List Evt.Ba} (h : ∀ b ∈ X, b.evs.length ≤ 2) : (events X).length ≤ 2 * X.length := by
  induction X with
  | nil => simp [events]
  | cons b r ih =>
    have h1 := h b (by simp)
    have h2 := ih (fun x hx => h x (by simp [hx]))
    unfold events at *
    rw [List.flatMap_cons, List.length_append, List.length_cons]; omega
section
variable {s : St} {X : List Evt.Ba} {H : Nat → Prop} {K : Nat} {c S : Int}
/-- the first batch: a is opened -/
theorem Tp.open (h : J s X [] H K) (hc : Cnt s X) (hX : X = []) (c : Int) (h1 : 1 ≤ c) (h2 : c ≤ 1000000) :
    Tp (step s (doPut c [⟨sa, 1, 0⟩])).1 [⟨c, [⟨sa, 1, 0⟩]⟩] H (K + 1) (c + 1) 0 ∧ (step s (doPut c [⟨sa, 1, 0⟩])).2.err = 0 := by
  subst hX
  have hsn : s.snap = Vw.none' := by rw [← h.inv.snap]; rfl
  have hsg : s.segs = 0 := by have := hc.segs h.ok; simpa using this
  have hf := fold_one (v := s.snap) (e := ⟨sa, 1, 0⟩) h.good (open_right sa (.inl rfl)) (by rw [hsn]; decide) (by rw [hsn]; rfl)
  obtain ⟨e1, n1⟩ := put_good h (d := doPut c [⟨sa, 1, 0⟩]) rfl (ba_right h1 h2 (by simp) (by simp) (fun e he => by
    have he : e ∈ [(⟨sa, 1, 0⟩ : Evt.Ev)] := he
    obtain rfl := List.mem_singleton.1 he
    exact open_right sa (.inl rfl))) (fun b hb => by cases hb) (show (-1 : Int) < 0 by decide) hf.1 (by simp [doPut]) (fun b hb => by cases hb) (by omega)
  have hj := h.put (d := doPut c [⟨sa, 1, 0⟩]) rfl
  have hcn := hc.step (doPut c [⟨sa, 1, 0⟩])
  rw [n1, List.nil_append] at hj hcn
  have hsnap : (step s (doPut c [⟨sa, 1, 0⟩])).1.snap = (Vw.fold s.snap [⟨sa, 1, 0⟩]).v := by
    rw [step_put rfl]
    rcases put_view s (doPut c [⟨sa, 1, 0⟩]) with ⟨_, h3 | h3⟩ | ⟨_, _, _, h4, _⟩
    · rw [step_put rfl] at e1; exact absurd e1 h3
    · obtain ⟨b, hb, _⟩ := (h.inv.seen _).1 h3; cases hb
    · exact h4
  refine ⟨⟨hj, hcn, fun b hb => ?_, fun b hb => ?_, ?_, ?_⟩, e1⟩
  · obtain rfl := List.mem_singleton.1 hb; simp
  · obtain rfl := List.mem_singleton.1 hb; show c < c + 1; omega
  · rw [hsnap, hf.2.1, hsn]; rfl
  · rw [hsnap, hf.2.1, hsn]; rfl
theorem put_right (h : Tp s X H K c S) {l : List Evt.Ev} {c' : Int} (hc : c ≤ c') (h1 : 1 ≤ c') (h2 : c' ≤ 1000000) (hl : 1 ≤ l.length) (hl2 : l.length ≤ 2) (hw : ∀ e ∈ l, Evt.wrongEv e = 0) (hX : X.length ≤ 38) (hf : (Vw.fold s.snap l).err = 0) :
    (step s (doPut c' l)).2.err = 0 ∧ J (step s (doPut c' l)).1 (X ++ [⟨c', l⟩]) [] H (K + 1) ∧ Cnt (step s (doPut c' l)).1 (X ++ [⟨c', l⟩]) ∧ (step s (doPut c' l)).1.snap = (Vw.fold s.snap l).v := by
  have hsg := h.cnt.segs h.j.ok
  obtain ⟨e1, n1⟩ := put_good h.j (d := doPut c' l) rfl (ba_right h1 h2 hl (by omega) hw) (fun b hb => by have := h.less b hb; show b.c ≠ c'; omega) (show (-1 : Int) < 0 by decide) hf hl2 h.small (by omega)
  have hj := h.j.put (d := doPut c' l) rfl
  have hcn := h.cnt.step (doPut c' l)
  rw [n1] at hj hcn
  refine ⟨e1, hj, hcn, ?_⟩
  rw [step_put rfl]
  rcases put_view s (doPut c' l) with ⟨_, h3 | h3⟩ | ⟨_, _, _, h4, _⟩
  · rw [step_put rfl] at e1; exact absurd e1 h3
  · obtain ⟨b, hb, e⟩ := (h.j.inv.seen _).1 h3
    have := h.less b hb
    have e : b.c = c' := e
    omega
  · exact h4
theorem Tp.upto (h : Tp s X H K c S) (hX : X.length ≤ 38) : s.snap.upto < 100 := by
  have := events_le h.small
  rw [h.j.inv.upto]; omega
/-- a number is added to a -/
theorem Tp.add (h : Tp s X H K c S) {n c' : Int} (h0 : 0 ≤ n) (hn : n ≤ 1000000) (hc : c ≤ c') (h1 : 1 ≤ c') (h2 : c' ≤ 1000000) (hX : X.length ≤ 38) :
    Tp (step s (doPut c' [⟨sa, 2, n⟩])).1 (X ++ [⟨c', [⟨sa, 2, n⟩]⟩]) H (K + 1) (c' + 1) (S + n) ∧ (step s (doPut c' [⟨sa, 2, n⟩])).2.err = 0 := by
  have hu := h.upto hX
  have hw := num_right sa (.inl rfl) 2 n (.inl rfl) h0 hn
  have hf := fold_one (v := s.snap) (e := ⟨sa, 2, n⟩) h.j.good hw (by omega) (by show Vw.may (Vw.get s.snap.accs sa) _ = true; unfold Vw.may; rw [if_neg (show ¬ ((2 : Int) = 1) by decide), if_pos (.inl rfl)]; exact h.opn)
  obtain ⟨e1, e2, e3, e4⟩ := put_right h (l := [⟨sa, 2, n⟩]) hc h1 h2 (by simp) (by simp) (fun e he => by obtain rfl := List.mem_singleton.1 he; exact hw) hX hf.1
  have hg : Vw.get (step s (doPut c' [⟨sa, 2, n⟩])).1.snap.accs sa = Vw.plus (Vw.get s.snap.accs sa) ⟨sa, 2, n⟩ := by
    rw [e4, hf.2.1]
    have h5 := Vw.get_ins_same (Vw.plus (Vw.get s.snap.accs sa) ⟨sa, 2, n⟩) s.snap.accs
    rwa [Vw.plus_s, Vw.get_s] at h5
  refine ⟨⟨e2, e3, fun b hb => ?_, fun b hb => ?_, ?_, ?_⟩, e1⟩
  · rcases List.mem_append.1 hb with hb | hb
    · exact h.small b hb
    · obtain rfl := List.mem_singleton.1 hb; simp
  · rcases List.mem_append.1 hb with hb | hb
    · have := h.less b hb; omega
    · obtain rfl := List.mem_singleton.1 hb; show c' < c' + 1; omega
  · rw [hg]; exact h.opn
  · rw [hg]; show (Vw.get s.snap.accs sa).sum + n = S + n; rw [h.sum]
end
/-- numbers are added, one batch each -/
def addsD : List Int → Int → List Do
  | [], _ => []
  | n :: r, c => doPut c [⟨sa, 2, n⟩] :: addsD r (c + 1)
def addsB : List Int → Int → List Evt.Ba
  | [], _ => []
  | n :: r, c => ⟨c, [⟨sa, 2, n⟩]⟩ :: addsB r (c + 1)
theorem addsD_len (l : List Int) : ∀ c, (addsD l c).length = l.length := by
  induction l with
  | nil => intro c; rfl
  | cons n r ih => intro c; unfold addsD; rw [List.length_cons, ih, List.length_cons]
theorem events_adds (l : List Int) : ∀ c, events (addsB l c) = l.map fun n => (⟨sa, 2, n⟩ : Evt.Ev) := by
  induction l with
  | nil => intro c; rfl
  | cons n r ih =>
    intro c
    show events (⟨c, [⟨sa, 2, n⟩]⟩ :: addsB r (c + 1)) = _
    rw [show events (⟨c, [⟨sa, 2, n⟩]⟩ :: addsB r (c + 1)) = [⟨sa, 2, n⟩] ++ events (addsB r (c + 1)) from rfl, ih (c + 1)]
    rfl
theorem Tp.adds {s : St} {X : List Evt.Ba} {H : Nat → Prop} {K : Nat} {c S : Int} (h : Tp s X H K c S) (l : List Int) (hl : ∀ n ∈ l, 0 ≤ n ∧ n ≤ 1000000) (h1 : 1 ≤ c) (h2 : c + l.length ≤ 1000000) (hX : X.length + l.length ≤ 38) :
    ∃ S', Tp (run s (addsD l c)).1 (X ++ addsB l c) H (K + l.length) (c + l.length) S' := by
  induction l generalizing s X K c S with
  | nil => exact ⟨S, by simpa [addsD, addsB, run] using h⟩
  | cons n r ih =>
    have hn := hl n (by simp)
    rw [List.length_cons] at h2 hX
    obtain ⟨h3, _⟩ := h.add (n := n) (c' := c) hn.1 hn.2 (Int.le_refl _) h1 (by omega) (by omega)
    obtain ⟨S', h4⟩ := ih h3 (fun x hx => hl x (by simp [hx])) (by omega) (by omega) (by rw [List.length_append]; simp only [List.length_cons, List.length_nil]; omega)
    refine ⟨S', ?_⟩
    unfold addsD addsB
    rw [run_cons, List.length_cons]
    have e1 : X ++ (⟨c, [⟨sa, 2, n⟩]⟩ :: addsB r (c + 1)) = X ++ [⟨c, [⟨sa, 2, n⟩]⟩] ++ addsB r (c + 1) := by simp
    rw [e1, show K + (r.length + 1) = K + 1 + r.length by omega, show c + ((r.length + 1 : Nat) : Int) = c + 1 + (r.length : Int) by omega]
    exact h4
theorem start_J {d p b : Int} (h : wrongS d p b = 0) : J (start d p b) [] [] (fun _ => False) 0 := J.start h _
/-- a is opened, numbers are added -/
theorem opened {d p b : Int} (hw : wrongS d p b = 0) (l : List Int) (hl : ∀ n ∈ l, 0 ≤ n ∧ n ≤ 1000000) (hlen : l.length ≤ 30) :
    ∃ K S, Tp (run (start d p b) (doPut 1 [⟨sa, 1, 0⟩] :: addsD l 2)).1 (⟨1, [⟨sa, 1, 0⟩]⟩ :: addsB l 2) (fun _ => False) K (2 + l.length) S := by
  obtain ⟨h1, _⟩ := Tp.open (start_J hw) (Cnt.start d p b) rfl 1 (by decide) (by decide)
  obtain ⟨S, h2⟩ := h1.adds l hl (by decide) (by omega) (by simp only [List.length_cons, List.length_nil]; omega)
  rw [run_cons]
  exact ⟨_, S, h2⟩
/-! ### harmed disks -/
def hurtD (k : Int) (U : List Int) : List Do := U.map fun u => doOf k u
theorem J.hurts {s : St} {X : List Evt.Ba} {had : List (Int × Int)} {H : Nat → Prop} {K : Nat} (h : J s X had H K) (k : Int) (hk : k = 5 ∨ k = 6) (U : List Int) : J (Sto.run s (hurtD k U)).1 X had (fun i => H i ∨ (i : Int) ∈ U) (K + U.length) := by
  induction U generalizing s H K with
  | nil => exact h.mono (fun i hi => .inl hi)
  | cons u r ih =>
    have h1 := h.harm (d := doOf k u) (by rcases hk with rfl | rfl; exact .inl rfl; exact .inr (.inl rfl))
    have e : hadN had (doOf k u) = had := by unfold hadN; rw [if_neg]; intro h; have h1 : k = 7 := h.1; omega
    rw [e] at h1
    have h2 := ih h1
    unfold hurtD at *
    rw [List.map_cons, run_cons, List.length_cons, show K + (r.length + 1) = K + 1 + r.length by omega]
    refine h2.mono (fun i hi => ?_)
    rcases hi with (hi | hi) | hi
    · exact .inl hi
    · have hi : (i : Int) = u := hi
      exact .inr (by simp [hi])
    · exact .inr (by simp [hi])
theorem run_spare (s : St) (l : List Do) : (run s l).1.spare = s.spare := by
  induction l generalizing s with
  | nil => rfl
  | cons d r ih => rw [run_cons]; show (run _ r).1.spare = _; rw [ih, step_spare]
theorem run_batches (s : St) (l : List Do) : (run s l).1.batches = s.batches ∧ (run s l).1.data = s.data := by
  induction l generalizing s with
  | nil => exact ⟨rfl, rfl⟩
  | cons d r ih => rw [run_cons]; have := ih (step s d).1; rw [(step_batches s d).1, (step_batches s d).2] at this; exact this
/-- swapped disks are there -/
theorem swapped {s : St} {X : List Evt.Ba} {had : List (Int × Int)} {H : Nat → Prop} {K : Nat} (h : J s X had H K) (U : List Int) : ∀ i : Nat, isGone (run s (hurtD 6 U)).1 i → isGone s i ∧ ((i : Int) ∈ U → (i : Int) < 0 ∨ (s.disks.length : Int) ≤ i) := by
  induction U generalizing s H K with
  | nil => intro i hi; exact ⟨hi, fun h => by cases h⟩
  | cons u r ih =>
    intro i hi
    have h1 := h.harm (d := doOf 6 u) (.inr (.inl rfl))
    unfold hurtD at hi ih
    rw [List.map_cons, run_cons] at hi
    obtain ⟨h2, h3⟩ := ih h1 i hi
    have h4 := gone_step h (doOf 6 u) h2
    have hl : (step s (doOf 6 u)).1.disks.length = s.disks.length := by
      rw [step_harm (.inr (.inl rfl))]
      rcases harm_cases s (doOf 6 u) with ⟨e1, _⟩ | ⟨_, _, _, ⟨_, e1⟩ | ⟨_, _, e1⟩ | ⟨_, _, _, _, _, _, e1⟩⟩ <;> rw [e1]
      · show (s.disks.set _ _).length = _; rw [List.length_set]
      · show (s.disks.set _ _).length = _; rw [List.length_set]
      · show (s.disks.set _ _).length = _; rw [List.length_set]
    rw [hl] at h3
    by_cases he : (step s (doOf 6 u)).2.err = 0
    · rw [if_pos ⟨.inr (.inl rfl), he⟩] at h4
      rcases h4 with ⟨_, h4⟩ | ⟨h4, h5⟩
      · rcases h4 with h4 | h4
        · exact absurd h4 (show ¬ (6 : Int) = 5 by decide)
        · exact absurd h4.1 (show ¬ (6 : Int) = 7 by decide)
      · refine ⟨h5, fun hm => ?_⟩
        rcases List.mem_cons.1 hm with hm | hm
        · exact absurd hm h4
        · exact h3 hm
    · rw [if_neg (fun q => he q.2)] at h4
      refine ⟨h4, fun hm => ?_⟩
      rcases List.mem_cons.1 hm with hm | hm
      · -- swapping fails only where there is no such disk
        have : (step s (doOf 6 u)).2.err ≠ 0 := he
        rw [step_harm (.inr (.inl rfl))] at this
        unfold Sto.harm at this
        have h66 : (doOf 6 u).kind = 6 := rfl
        by_cases hr : (doOf 6 u).n < 0 ∨ (s.disks.length : Int) ≤ (doOf 6 u).n
        · have hr : u < 0 ∨ (s.disks.length : Int) ≤ u := hr
          rw [hm]; exact hr
        · rw [if_neg hr, if_pos h66] at this
          exact absurd rfl this
      · exact h3 hm
/-- none is wrong where none is harmed -/
theorem J.healthy {s : St} {X : List Evt.Ba} {had : List (Int × Int)} {H : Nat → Prop} {K : Nat} (h : J s X had H K) (hH : ∀ i, ¬ H i) : healthTo s.disks s.segs = 0 := by
  obtain ⟨G, L, hc, _⟩ := h.core
  have : ∀ k, k ≤ s.segs → healthTo s.disks k = 0 := by
    intro k
    induction k with
    | zero => intro _; rfl
    | succ k ih =>
      intro hk
      unfold healthTo
      rw [ih (by omega), hc.bad_len h.ok (by omega)]
      have : wr s.disks k (L k) = [] := List.eq_nil_iff_forall_not_mem.2 fun u hu => hH u (hc.wr_safe h.ok (by omega) hu)
      rw [this]; rfl
  exact this s.segs (Nat.le_refl _)
theorem step_health {s : St} {d : Do} (h : d.kind = 9) : step s d = (s, anN (healthTo s.disks s.segs)) := by
  unfold step
  rw [if_neg (by omega), if_neg (by omega), if_neg (by omega), if_neg (by omega), if_neg (by omega), if_pos h]
end Go.Proofs.Ythhcdfjijagalaa.Sto
