/- Joined, and what is not used struck: SpF, SoE, SpH, SoF, SoG, SpL, SoH, SpM, SpN, SpO, SpQ. -/
import Derived.Test.YthhcdfjijagalaaM37
import Derived.Test.YthhcdfjijagalaaM24
import Derived.Test.YthhcdfjijagalaaM10
import Derived.Test.YthhcdfjijagalaaM35
import Derived.Test.YthhcdfjijagalaaM36
import Derived.Test.YthhcdfjijagalaaM03
import Derived.Test.YthhcdfjijagalaaM26
import Derived.Test.YthhcdfjijagalaaM11
import Derived.DeepKeys4
namespace Go.Proofs.Ythhcdfjijagalaa
open Go.RowKit Go.Maps
set_option linter.unusedVariables false
set_option linter.unusedSimpArgs false
set_option linter.unusedSectionVars false
set_option maxRecDepth 100000
section
variable {α : Type} [DecidableEq α]
variable {kt : TypeId} {mk : α → Value} {w w' : World} {b n n' : Nat} {f : α → Bool} {D : DataW Unit}
end
/-! ### answers that are read -/
structure Amv (w : World) (a : Option Addr) (n cap : Nat) (L : List Am) : Prop where
  sl : Sl w 5 a n cap (rows am5 L)
  cnt : L.length = n
  evs : ∀ x ∈ L, Es w x.ea x.evs.length x.ec x.evs
  accs : ∀ x ∈ L, As w x.aa x.accs.length x.ac x.accs
theorem Ams.amv {w : World} {base : Nat} {a : Option Addr} {n cap : Nat} {L : List Am} (h : Ams w base (.slice a n cap) L) : n = L.length ∧ Amv w a n cap L := by
  obtain ⟨a', c', e, hs⟩ := own_sl h.own
  cases e
  exact ⟨rfl, hs, rfl, fun x hx => (h.evs x hx).es, fun x hx => (h.accs x hx).as⟩
theorem Amv.at {w : World} {b off n cap : Nat} {L : List Am} (h : Amv w (some ⟨b, off, none⟩) n cap L) (i : Nat) (hi : i < L.length) :
    w.cell? ⟨b, off + i * 5, none⟩ = some (.int .i64 L[i].err) ∧ w.cell? ⟨b, off + i * 5 + 1, none⟩ = some (.int .i64 L[i].n) ∧ w.cell? ⟨b, off + i * 5 + 2, none⟩ = some (.slice L[i].ea L[i].evs.length L[i].ec) ∧ w.cell? ⟨b, off + i * 5 + 3, none⟩ = some (.int .i64 L[i].u) ∧ w.cell? ⟨b, off + i * 5 + 4, none⟩ = some (.slice L[i].aa L[i].accs.length L[i].ac) := by
  have hn := h.cnt
  have g : ∀ j, j < 5 → w.cell? ⟨b, off + (i * 5 + j), none⟩ = (am5 L[i])[j]? := fun j hj => by
    have h1 := rows_get am5_len L i j hi hj
    obtain ⟨b', off', e, hc⟩ := h.sl.addr (by omega)
    cases e
    have hlt : j < (am5 L[i]).length := hj
    rw [List.getElem?_eq_getElem hlt] at h1 ⊢
    exact hc _ _ h1
  exact ⟨g 0 (by omega), g 1 (by omega), g 2 (by omega), g 3 (by omega), g 4 (by omega)⟩
theorem Amv.free {w : World} {a : Option Addr} {n cap : Nat} {L : List Am} (h : Amv w a n cap L) (hn : 0 < n) : ∃ b off, a = some ⟨b, off, none⟩ := by
  obtain ⟨b, off, e, _⟩ := h.sl.addr hn
  exact ⟨b, off, e⟩
end Go.Proofs.Ythhcdfjijagalaa
namespace Go.Proofs.Ythhcdfjijagalaa.Evt
set_option linter.unusedVariables false
theorem fb_all (l : List Ba) (h : ∀ b ∈ l, (wrongBa b).1 = 0) : ∀ i, (fb l i).1 = 0 := by
  induction l with
  | nil => intro i; rfl
  | cons b r ih =>
    intro i
    unfold fb
    rw [if_neg (by rw [h b (by simp)]; exact fun e => e rfl)]
    exact ih (fun x hx => h x (by simp [hx])) _
theorem evBytes_le {e : Ev} (h : wrongEv e = 0) : (evBytes e).length ≤ 15 := by
  have := (named_len (wrongEv_zero h).1).2
  unfold evBytes
  simp only [List.length_cons, List.length_append, three_length]
  omega
theorem baBytes_le {b : Ba} (h : (wrongBa b).1 = 0) (h2 : b.evs.length ≤ 2) : (baBytes b).length ≤ 34 := by
  have hw := (wrongBa_zero h).2.2.2.2
  have : ∀ l : List Ev, (∀ e ∈ l, wrongEv e = 0) → (l.flatMap evBytes).length ≤ 15 * l.length := by
    intro l hl
    induction l with
    | nil => simp
    | cons e r ih =>
      have h1 := evBytes_le (hl e (by simp))
      have h2 := ih (fun x hx => hl x (by simp [hx]))
      rw [List.flatMap_cons, List.length_append, List.length_cons]; omega
  have := this b.evs hw
  unfold baBytes
  rw [List.length_append, List.length_cons, three_length]
  omega
theorem bytes_le {l : List Ba} (h : ∀ b ∈ l, (wrongBa b).1 = 0 ∧ b.evs.length ≤ 2) : (bytes l).length ≤ 1 + 34 * l.length := by
  have : (l.flatMap baBytes).length ≤ 34 * l.length := by
    induction l with
    | nil => simp
    | cons e r ih =>
      have h1 := baBytes_le (h e (by simp)).1 (h e (by simp)).2
      have h2 := ih (fun x hx => h x (by simp [hx]))
      rw [List.flatMap_cons, List.length_append, List.length_cons]; omega
  unfold bytes
  rw [List.length_cons]; omega
end Go.Proofs.Ythhcdfjijagalaa.Evt
namespace Go.Proofs.Ythhcdfjijagalaa.Sto
set_option linter.unusedVariables false
theorem layF_ok {b : List UInt8} {g d s : Int} (h1 : Mat.wrongC d s = 0) (h2 : 0 ≤ g ∧ g ≤ 39) (h3 : (b.length : Int) ≤ 400 * d) : (Stp.layF b g d s).2 = 0 := by
  have h := Stp.layF_spec b g d s
  unfold Stp.LayR at h
  rw [if_neg (fun e => e h1), if_neg (by omega), if_neg (by omega)] at h
  obtain ⟨S, _, _, h⟩ := h
  exact h
theorem Ok.code {s : St} {K : Nat} (h : Ok s K) : Mat.wrongC s.data s.spare = 0 := by
  have := h.d; have := h.sp
  unfold Mat.wrongC
  rw [if_neg (by omega)]
theorem J.tail {s : St} {X : List Evt.Ba} {had : List (Int × Int)} {H : Nat → Prop} {K : Nat} (h : J s X had H K) : ∀ b ∈ s.tail, b ∈ X := fun b hb => by
  obtain ⟨G, L, _, ht⟩ := h.core
  rw [← ht]
  exact List.mem_append_right _ hb
theorem put_good {s : St} {X : List Evt.Ba} {had : List (Int × Int)} {H : Nat → Prop} {K : Nat} (h : J s X had H K) {d : Do} (hk : d.kind = 1) (hw : (Evt.wrongBa d.b).1 = 0) (hc : ∀ b ∈ X, b.c ≠ d.b.c) (hv : d.ver < 0) (hf : (Vw.fold s.snap d.b.evs).err = 0)
    (h2 : d.b.evs.length ≤ 2) (ht : ∀ b ∈ X, b.evs.length ≤ 2) (hs : s.segs ≤ 39) : (step s d).2.err = 0 ∧ newB s d = [d.b] := by
  have hns : ¬ d.b.c ∈ s.seen := fun hm => by
    obtain ⟨b, hb, e⟩ := (h.inv.seen _).1 hm
    exact hc b hb e
  have hall : ∀ b ∈ s.tail ++ [d.b], (Evt.wrongBa b).1 = 0 ∧ b.evs.length ≤ 2 := fun b hb => by
    rcases List.mem_append.1 hb with hb | hb
    · exact ⟨h.ok.te b hb, ht b (h.tail b hb)⟩
    · obtain rfl := List.mem_singleton.1 hb
      exact ⟨hw, h2⟩
  have htl := h.ok.t
  have hb10 := h.ok.b
  have hlen : (s.tail ++ [d.b]).length ≤ 10 := by rw [List.length_append]; simp only [List.length_cons, List.length_nil]; omega
  have hby : Evt.bytesR (s.tail ++ [d.b]) = ⟨Evt.bytes (s.tail ++ [d.b]), 0, 0⟩ := by
    unfold Evt.bytesR
    rw [if_neg (by omega), if_neg (by rw [Evt.fb_all _ (fun b hb => (hall b hb).1)]; exact fun e => e rfl)]
  have hbl := Evt.bytes_le hall
  have hd := h.ok.d
  have hlay : (Stp.layF (Evt.bytes (s.tail ++ [d.b])) (s.segs : Int) s.data s.spare).2 = 0 := layF_ok h.ok.code (by omega) (by omega)
  have hseal : (sealS { s with tail := s.tail ++ [d.b] }).2 = 0 := by
    unfold sealS
    rw [if_neg (show ¬ (Evt.bytesR (s.tail ++ [d.b])).err ≠ 0 by rw [hby]; exact fun e => e rfl), if_neg (show ¬ (Stp.layF (Evt.bytesR (s.tail ++ [d.b])).l (s.segs : Int) s.data s.spare).2 ≠ 0 by rw [hby]; exact fun e => e hlay)]
  have he : (put s d).2.err = 0 := by
    unfold put
    rw [if_neg (by rw [hw]; exact fun e => e rfl), if_neg hns, if_neg (by omega), if_neg (by rw [hf]; exact fun e => e rfl)]
    split
    · rw [if_neg (by rw [hseal]; exact fun e => e rfl)]; rfl
    · rfl
  refine ⟨by rw [step_put hk]; exact he, ?_⟩
  unfold newB
  rw [step_put hk, if_pos ⟨hk, he, hns⟩]
/-- how many batches there are -/
def Cnt (s : St) (X : List Evt.Ba) : Prop := (s.segs : Int) * s.batches + (s.tail.length : Int) = (X.length : Int)
theorem Cnt.start (d p b : Int) : Cnt (start d p b) [] := by
  show ((0 : Nat) : Int) * b + ((0 : Nat) : Int) = ((0 : Nat) : Int)
  simp
theorem step_batches (s : St) (d : Do) : (step s d).1.batches = s.batches ∧ (step s d).1.data = s.data := by
  by_cases h1 : d.kind = 1
  · rw [step_put h1]
    rcases put_cases s d with ⟨e1, _⟩ | ⟨_, _, e, _, e', _⟩
    · rw [e1]; exact ⟨rfl, rfl⟩
    · exact ⟨e', e⟩
  · by_cases h5 : d.kind = 5 ∨ d.kind = 6 ∨ d.kind = 7
    · rw [step_harm h5]
      rcases harm_cases s d with ⟨e1, _⟩ | ⟨_, _, _, ⟨_, e1⟩ | ⟨_, _, e1⟩ | ⟨_, _, _, _, _, _, e1⟩⟩ <;> rw [e1] <;> exact ⟨rfl, rfl⟩
    · by_cases h8 : d.kind = 8
      · rw [step_scrub h8]; exact ⟨rfl, rfl⟩
      · rw [step_other h1 h5 h8]; exact ⟨rfl, rfl⟩
theorem Cnt.step {s : St} {X : List Evt.Ba} (h : Cnt s X) (d : Do) : Cnt (step s d).1 (X ++ newB s d) := by
  unfold Cnt at *
  by_cases h1 : d.kind = 1
  · unfold newB
    rw [step_put h1]
    rcases put_cases s d with ⟨e1, e2⟩ | ⟨e1, e2, _, _, e5, e6⟩
    · rw [if_neg (by rintro ⟨_, h3, h4⟩; rcases e2 with h2 | h2; exact h2 h3; exact h4 h2), List.append_nil, e1]; exact h
    · rw [if_pos ⟨h1, e1, e2⟩, e5, List.length_append]
      rcases e6 with ⟨_, f2, f3, _⟩ | ⟨L', _, _, _, f2, f3, f4⟩
      · rw [f2, f3, List.length_append]
        simp only [List.length_cons, List.length_nil]
        omega
      · rw [f2, f3]
        simp only [List.length_cons, List.length_nil]
        have : ((s.segs + 1 : Nat) : Int) * s.batches = (s.segs : Int) * s.batches + s.batches := by
          rw [Int.natCast_add, Int.add_mul]; simp
        rw [this]
        omega
  · rw [newB_no h1, List.append_nil]
    by_cases h5 : d.kind = 5 ∨ d.kind = 6 ∨ d.kind = 7
    · rw [step_harm h5, (harm_rest s d).1, (harm_rest s d).2, ← step_harm h5, (step_batches s d).1]; exact h
    · by_cases h8 : d.kind = 8
      · rw [step_scrub h8]; exact h
      · rw [step_other h1 h5 h8]; exact h
theorem Cnt.segs {s : St} {X : List Evt.Ba} {K : Nat} (h : Cnt s X) (ho : Ok s K) : s.segs ≤ X.length := by
  unfold Cnt at h
  have hb := ho.b
  have : (s.segs : Int) * 1 ≤ (s.segs : Int) * s.batches := Int.mul_le_mul_of_nonneg_left hb.1 (by omega)
  omega
/-- one event comes -/
theorem fold_one {v : Vw.Vi} {e : Evt.Ev} (hg : Vw.Good v) (h1 : Evt.wrongEv e = 0) (h2 : v.upto ≠ 150) (h3 : Vw.may (Vw.get v.accs e.s) e = true) :
    (Vw.fold v [e]).err = 0 ∧ (Vw.fold v [e]).v = ⟨v.upto + 1, Vw.ins (Vw.plus (Vw.get v.accs e.s) e) v.accs⟩ ∧ Vw.Good (Vw.fold v [e]).v := by
  have ha := Vw.apply_of hg h1 h2 h3
  have he : (Vw.fold v [e]).err = 0 := by
    rw [Vw.fold_of hg, Vw.fo_cons, ha]
    rfl
  have hv : (Vw.fold v [e]).v = ⟨v.upto + 1, Vw.ins (Vw.plus (Vw.get v.accs e.s) e) v.accs⟩ := by
    rw [Vw.fold_of hg, Vw.fo_cons, ha]
    rfl
  refine ⟨he, hv, ?_⟩
  rw [Vw.fold_of hg] at he ⊢
  exact (Vw.fo_good _ _ 0 hg he).1
theorem J.good {s : St} {X : List Evt.Ba} {had : List (Int × Int)} {H : Nat → Prop} {K : Nat} (h : J s X had H K) : Vw.Good s.snap := by
  obtain ⟨hg, e1⟩ := Vw.fold_ok h.inv.err
  rw [← h.inv.snap, e1]
  have := h.inv.err
  rw [e1] at this
  exact (Vw.fo_good _ _ 0 hg this).1
def doPut (c : Int) (l : List Evt.Ev) : Do := ⟨1, 0, 0, 0, 0, ⟨c, l⟩, ⟨#[]⟩, -1⟩
def doOf (k n : Int) : Do := ⟨k, n, 0, 0, 0, ⟨0, []⟩, ⟨#[]⟩, 0⟩
def sa : ByteArray := ⟨#[97]⟩
def sb : ByteArray := ⟨#[98]⟩
theorem open_right (s : ByteArray) (h : s = sa ∨ s = sb) : Evt.wrongEv ⟨s, 1, 0⟩ = 0 := by
  rcases h with rfl | rfl <;> decide
theorem num_right (s : ByteArray) (h : s = sa ∨ s = sb) (k n : Int) (hk : k = 2 ∨ k = 3) (h0 : 0 ≤ n) (h1 : n ≤ 1000000) : Evt.wrongEv ⟨s, k, n⟩ = 0 := by
  have hn : Evt.named (Evt.lst s) = true := by rcases h with rfl | rfl <;> decide
  unfold Evt.wrongEv
  rw [if_neg (by rw [hn]; decide), if_neg (by show ¬ (k < 1 ∨ 4 < k); omega), if_neg (by show ¬ (n < 0 ∨ 1000000 < n ∨ ((k = 1 ∨ k = 4) ∧ n ≠ 0)); omega)]
theorem ba_right {c : Int} {l : List Evt.Ev} (h1 : 1 ≤ c) (h2 : c ≤ 1000000) (h3 : 1 ≤ l.length) (h4 : l.length ≤ 10) (h : ∀ e ∈ l, Evt.wrongEv e = 0) : (Evt.wrongBa ⟨c, l⟩).1 = 0 := by
  unfold Evt.wrongBa
  rw [if_neg (by show ¬ (c < 1 ∨ 1000000 < c); omega), if_neg (by show ¬ (l.length < 1 ∨ 10 < l.length); omega)]
  have : ∀ (l : List Evt.Ev), (∀ e ∈ l, Evt.wrongEv e = 0) → ∀ i, (Evt.fw l i).1 = 0 := by
    intro l hl
    induction l with
    | nil => intro i; rfl
    | cons e r ih =>
      intro i
      unfold Evt.fw
      rw [if_neg (by rw [hl e (by simp)]; exact fun e => e rfl)]
      exact ih (fun x hx => hl x (by simp [hx])) _
  exact this l h 0
section
variable {s : St} {X : List Evt.Ba} {had : List (Int × Int)} {H : Nat → Prop} {K : Nat}
theorem J.put (h : J s X had H K) {d : Do} (hd : d.kind = 1) : J (Sto.step s d).1 (X ++ newB s d) had H (K + 1) := by
  have := h.step d (fun e => absurd (hd.symm.trans e) (by decide))
  unfold hurtN hadN at this
  rwa [if_neg (show ¬ (d.kind = 5 ∨ d.kind = 6 ∨ d.kind = 7) by omega), if_neg (show ¬ d.kind = 8 by omega), if_neg (show ¬ (d.kind = 7 ∧ d.y ≠ 0) by omega)] at this
end
end Go.Proofs.Ythhcdfjijagalaa.Sto
namespace Go.Proofs.Ythhcdfjijagalaa
open Go.RowKit Go.Maps
set_option linter.unusedVariables false
set_option linter.unusedSimpArgs false
set_option maxRecDepth 100000
/-- what is done, with its events' row -/
structure Dod where
  d : Sto.Do
  a : Option Addr
  n : Nat
  cap : Nat
def do9 (x : Dod) : List Value := [.int .i64 x.d.kind, .int .i64 x.d.n, .int .i64 x.d.seg, .int .i64 x.d.t, .int .u8 (x.d.y.toNat : Int), .int .i64 x.d.b.c, .slice x.a x.n x.cap, .string x.d.stream, .int .i64 x.d.ver]
theorem do9_len (x : Dod) : (do9 x).length = 9 := rfl
theorem do9_one (x : Dod) : ∀ u ∈ do9 x, u.oneCell' = true := by
  intro u hu
  simp only [do9, List.mem_cons, List.not_mem_nil, or_false] at hu
  rcases hu with rfl | rfl | rfl | rfl | rfl | rfl | rfl | rfl | rfl <;> rfl
theorem dos_of {w : World} {a : Option Addr} {n cap : Nat} {X : List Dod} (h : Sl w 9 a n cap (rows do9 X)) (he : ∀ x ∈ X, Es w x.a x.n x.cap x.d.b.evs) (hs : ∀ x ∈ X, x.d.stream.size ≤ maxLen) : Dos w a n cap (X.map Dod.d) := by
  have hn : X.length = n := by have := h.len; rw [rows_length do9_len] at this; omega
  refine ⟨h.le, h.max, by rw [List.length_map]; exact hn, fun h0 => ?_⟩
  obtain ⟨b, off, e, hc⟩ := h.addr h0
  refine ⟨b, off, e, fun i hi => ?_⟩
  have hi' : i < X.length := by simpa using hi
  have g : ∀ j, j < 9 → w.cell? ⟨b, off + (i * 9 + j), none⟩ = (do9 X[i])[j]? := fun j hj => by
    have h1 := rows_get do9_len X i j hi' hj
    have hlt : j < (do9 X[i]).length := hj
    rw [List.getElem?_eq_getElem hlt] at h1 ⊢
    exact hc _ _ h1
  have hm := List.getElem_mem hi'
  rw [List.getElem_map]
  exact ⟨g 0 (by omega), g 1 (by omega), g 2 (by omega), g 3 (by omega), g 4 (by omega), g 5 (by omega), ⟨_, _, _, g 6 (by omega), he _ hm⟩, g 7 (by omega), g 8 (by omega), hs _ hm⟩
/-- the store as a value whose rows are slices -/
theorem StM.val {w : World} {base : Nat} {m : Mst} (h : StM w base m) : ∃ da dc ta tc sa sc aa ac, stVal m = .agg #[.int .i64 m.d, .int .i64 m.s, .int .i64 m.b, .slice da m.D.length dc, .int .i64 (m.g : Int), .slice ta m.T.length tc, .slice sa m.seen.length sc, .int .i64 m.u, .slice aa m.A.length ac] ∧
    m.dv = .slice da m.D.length dc ∧ m.tv = .slice ta m.T.length tc ∧ m.sv = .slice sa m.seen.length sc ∧ m.av = .slice aa m.A.length ac := by
  obtain ⟨da, dc, h1, -⟩ := own_sl h.dks
  obtain ⟨ta, tc, h2, -⟩ := own_sl h.tail
  obtain ⟨sa, sc, h3, -⟩ := own_sl h.seen
  obtain ⟨aa, ac, h4, -⟩ := own_sl h.accs
  exact ⟨da, dc, ta, tc, sa, sc, aa, ac, by unfold stVal; rw [h1, h2, h3, h4], h1, h2, h3, h4⟩
theorem own_one {w : World} {e : TypeId} {cs : Array Value} (n k : Nat) (hs : cs.size = n * k) (hm : n ≤ maxLen) : (w.alloc (.cells cs e)).ownsRow w.heap.size e k (.slice (some ⟨w.heap.size, 0, none⟩) n n) n cs.toList := World.ownsRow_lit w cs n (Nat.le_refl _) hm hs
end Go.Proofs.Ythhcdfjijagalaa
namespace Go.Proofs.Ythhcdfjijagalaa.Sto
set_option linter.unusedVariables false
/-- a store into which small batches were put, the stream a being open with the sum S -/
structure Tp (s : St) (X : List Evt.Ba) (H : Nat → Prop) (K : Nat) (c S : Int) : Prop where
  j : J s X [] H K
  cnt : Cnt s X
  small : ∀ b ∈ X, b.evs.length ≤ 2
  less : ∀ b ∈ X, b.c < c
  opn : (Vw.get s.snap.accs sa).opn = true
  sum : (Vw.get s.snap.accs sa).sum = S
theorem events_le {X : List Evt.Ba} (h : ∀ b ∈ X, b.evs.length ≤ 2) : (events X).length ≤ 2 * X.length := by
  induction X with
  | nil => simp [events]
  | cons b r ih =>
    have h1 := h b (by simp)
    have h2 := ih (fun x hx => h x (by simp [hx]))
    unfold events at *
    rw [List.flatMap_cons, List.length_append, List.length_cons]; omega
section
variable {s : St} {X : List Evt.Ba} {H : Nat → Prop} {K : Nat} {c S : Int}
theorem put_right (h : Tp s X H K c S) {l : List Evt.Ev} {c' : Int} (hc : c ≤ c') (h1 : 1 ≤ c') (h2 : c' ≤ 1000000) (hl : 1 ≤ l.length) (hl2 : l.length ≤ 2) (hw : ∀ e ∈ l, Evt.wrongEv e = 0) (hX : X.length ≤ 38) (hf : (Vw.fold s.snap l).err = 0) :
    (step s (doPut c' l)).2.err = 0 ∧ J (step s (doPut c' l)).1 (X ++ [⟨c', l⟩]) [] H (K + 1) ∧ Cnt (step s (doPut c' l)).1 (X ++ [⟨c', l⟩]) ∧ (step s (doPut c' l)).1.snap = (Vw.fold s.snap l).v := by
  have hsg := h.cnt.segs h.j.ok
  obtain ⟨e1, n1⟩ := put_good h.j (d := doPut c' l) rfl (ba_right h1 h2 hl (by omega) hw) (fun b hb => by have := h.less b hb; show b.c ≠ c'; omega) (show (-1 : Int) < 0 by decide) hf hl2 h.small (by omega)
  have hj := h.j.put (d := doPut c' l) rfl
  have hcn := h.cnt.step (doPut c' l)
  rw [n1] at hj hcn
  refine ⟨e1, hj, hcn, ?_⟩
  rw [step_put rfl]
  rcases put_view s (doPut c' l) with ⟨_, h3 | h3⟩ | ⟨_, _, _, h4, _⟩
  · rw [step_put rfl] at e1; exact absurd e1 h3
  · obtain ⟨b, hb, e⟩ := (h.j.inv.seen _).1 h3
    have := h.less b hb
    have e : b.c = c' := e
    omega
  · exact h4
theorem Tp.upto (h : Tp s X H K c S) (hX : X.length ≤ 38) : s.snap.upto < 100 := by
  have := events_le h.small
  rw [h.j.inv.upto]; omega
/-- a number is added to a -/
theorem Tp.add (h : Tp s X H K c S) {n c' : Int} (h0 : 0 ≤ n) (hn : n ≤ 1000000) (hc : c ≤ c') (h1 : 1 ≤ c') (h2 : c' ≤ 1000000) (hX : X.length ≤ 38) :
    Tp (step s (doPut c' [⟨sa, 2, n⟩])).1 (X ++ [⟨c', [⟨sa, 2, n⟩]⟩]) H (K + 1) (c' + 1) (S + n) ∧ (step s (doPut c' [⟨sa, 2, n⟩])).2.err = 0 := by
  have hu := h.upto hX
  have hw := num_right sa (.inl rfl) 2 n (.inl rfl) h0 hn
  have hf := fold_one (v := s.snap) (e := ⟨sa, 2, n⟩) h.j.good hw (by omega) (by show Vw.may (Vw.get s.snap.accs sa) _ = true; unfold Vw.may; rw [if_neg (show ¬ ((2 : Int) = 1) by decide), if_pos (.inl rfl)]; exact h.opn)
  obtain ⟨e1, e2, e3, e4⟩ := put_right h (l := [⟨sa, 2, n⟩]) hc h1 h2 (by simp) (by simp) (fun e he => by obtain rfl := List.mem_singleton.1 he; exact hw) hX hf.1
  have hg : Vw.get (step s (doPut c' [⟨sa, 2, n⟩])).1.snap.accs sa = Vw.plus (Vw.get s.snap.accs sa) ⟨sa, 2, n⟩ := by
    rw [e4, hf.2.1]
    have h5 := Vw.get_ins_same (Vw.plus (Vw.get s.snap.accs sa) ⟨sa, 2, n⟩) s.snap.accs
    rwa [Vw.plus_s, Vw.get_s] at h5
  refine ⟨⟨e2, e3, fun b hb => ?_, fun b hb => ?_, ?_, ?_⟩, e1⟩
  · rcases List.mem_append.1 hb with hb | hb
    · exact h.small b hb
    · obtain rfl := List.mem_singleton.1 hb; simp
  · rcases List.mem_append.1 hb with hb | hb
    · have := h.less b hb; omega
    · obtain rfl := List.mem_singleton.1 hb; show c' < c' + 1; omega
  · rw [hg]; exact h.opn
  · rw [hg]; show (Vw.get s.snap.accs sa).sum + n = S + n; rw [h.sum]
end
theorem start_J {d p b : Int} (h : wrongS d p b = 0) : J (start d p b) [] [] (fun _ => False) 0 := J.start h _
end Go.Proofs.Ythhcdfjijagalaa.Sto
namespace Go.Proofs.Ythhcdfjijagalaa.Sto
set_option linter.unusedVariables false
theorem few_none {n : Int} (hn : 0 ≤ n) : Few (fun _ => False) n := fun U _ hs => by
  cases U with
  | nil => simpa using hn
  | cons u r => exact absurd (hs u (by simp)) (fun h => h)
end Go.Proofs.Ythhcdfjijagalaa.Sto
namespace Go.Proofs.Ythhcdfjijagalaa
open Go.RowKit Go.Maps
set_option linter.unusedVariables false
set_option linter.unusedSimpArgs false
set_option maxRecDepth 100000
theorem info_Do : (Try.prog.info? 29).map (fun i => (i.zero, i.size, i.bytes)) = some (some (.agg #[.int .i64 0, .int .i64 0, .int .i64 0, .int .i64 0, .int .u8 0, .int .i64 0, .slice none 0 0, .string ⟨#[]⟩, .int .i64 0]), 9, 96) := by kernel_rfl
/-- a row of its own of what is done, whose events lie elsewhere -/
structure DoO (w : World) (base : Nat) (v : Value) (X : List Dod) : Prop where
  own : w.ownsRow base 29 9 v X.length (rows do9 X)
  evs : ∀ x ∈ X, Es w x.a x.n x.cap x.d.b.evs
  ok : ∀ x ∈ X, x.d.stream.size ≤ maxLen
  off : ∀ x ∈ X, 0 < x.n → ∀ b o, x.a = some ⟨b, o, none⟩ → v.ownBlock ≠ some b
theorem DoO.below {w w' : World} {base : Nat} {v : Value} {X : List Dod} (h : DoO w base v X) (hb : Below w.heap.size w w') : DoO w' base v X :=
  ⟨own_below h.own hb, fun x hx => (h.evs x hx).below hb, h.ok, h.off⟩
/-- a row grew -/
theorem DoO.more {w w' : World} {base n' : Nat} {v v' : Value} {X Y : List Dod} (h : DoO w base v X) (o : OT w w' v.ownBlock base 29 9 v' n' (rows do9 X ++ rows do9 Y)) (hn : n' = X.length + Y.length) (hg : w.grownBy w' v.ownBlock)
    (he : ∀ x ∈ Y, Es w x.a x.n x.cap x.d.b.evs) (hs : ∀ x ∈ Y, x.d.stream.size ≤ maxLen) (ho : ∀ x ∈ Y, 0 < x.n → ∀ b o, x.a = some ⟨b, o, none⟩ → v.ownBlock ≠ some b) : DoO w' base v' (X ++ Y) := by
  subst hn
  have hall : ∀ x ∈ X ++ Y, Es w x.a x.n x.cap x.d.b.evs ∧ x.d.stream.size ≤ maxLen ∧ (0 < x.n → ∀ b o, x.a = some ⟨b, o, none⟩ → v.ownBlock ≠ some b) := fun x hx => by
    rcases List.mem_append.1 hx with hx | hx
    · exact ⟨h.evs x hx, h.ok x hx, h.off x hx⟩
    · exact ⟨he x hx, hs x hx, ho x hx⟩
  refine ⟨by rw [List.length_append, rows_append]; exact o.own, fun x hx => ?_, fun x hx => (hall x hx).2.1, fun x hx hn b off e => ?_⟩
  · obtain ⟨h1, _, h3⟩ := hall x hx
    exact ⟨h1.sl.grown hg (fun hn b off e => h3 hn b off e), h1.ok⟩
  · obtain ⟨h1, _, h3⟩ := hall x hx
    rcases o.lies with hl | hl
    · rw [hl]; exact h3 hn b off e
    · intro e2
      have h4 := hl b e2
      have h5 := h1.sl
      rw [e] at h5
      have := Sl.lt h5 hn (by decide)
      omega
theorem DoO.dos {w : World} {base : Nat} {v : Value} {X : List Dod} (h : DoO w base v X) : ∃ a cap, v = .slice a X.length cap ∧ Dos w a X.length cap (X.map Dod.d) := by
  obtain ⟨a, cap, e, hs⟩ := own_sl h.own
  exact ⟨a, cap, e, dos_of hs h.evs h.ok⟩
/-- a row grew by a literal -/
theorem lit_src {w : World} {Y : List Dod} {tx : TypeId} (hk : Try.prog.underlying tx = some (.slice 29)) : Src Try.prog 9 tx (.slice (some ⟨w.heap.size, 0, none⟩) Y.length Y.length) Y.length (rows do9 Y) (w.alloc (.cells (rows do9 Y).toArray 29)) := by
  have := Src.ofLit (P := Try.prog) w (rows do9 Y).toArray 29 Y.length 9 hk (by simp [rows_length do9_len]) (by simpa using rows_one do9_one Y)
  simpa using this
theorem Es.nil (w : World) : Es w none 0 0 [] := ⟨Sl.none _ _, fun e he => by cases he⟩
/-- events in a literal -/
theorem lit_es {w : World} {l : List Evt.Ev} (hl : l.length ≤ maxLen) (ho : ∀ e ∈ l, e.s.size ≤ maxLen) : Es (w.alloc (.cells (evCells l).toArray 32)) (some ⟨w.heap.size, 0, none⟩) l.length l.length l := by
  have := own_sl (own_one (w := w) (e := 32) (cs := (evCells l).toArray) l.length 3 (by simp [evCells_length]) hl)
  obtain ⟨a, c, e, h⟩ := this
  cases e
  exact ⟨by simpa using h, ho⟩
set_option maxHeartbeats 2000000 in
theorem openT_call (s : ByteArray) (w : World) : Calls Try.prog 17 #[.string s] w (Grew (.agg #[.string s, .int .i64 1, .int .i64 0]) w) := by
  go_enter Try.func17, Try.ntmps17
  go_wp2_with fail
  have q := blk_new w (.cells #[.string s, .int .i64 1, .int .i64 0] 32)
  have q0 := blk_cell (i := 0) q
  have q1 := blk_cell (i := 1) q
  have q2 := blk_cell (i := 2) q
  exact bodyPost_ret (v := .agg #[.string s, .int .i64 1, .int .i64 0]) (by simp [results, Try.results17, go_sem, q0, q1, q2]) rfl ⟨rfl, (Below.refl _ _).alloc (Nat.le_refl _) _⟩
set_option maxHeartbeats 2000000 in
theorem addT_call (s : ByteArray) (n : Int) (w : World) : Calls Try.prog 18 #[.string s, .int .i64 n] w (Grew (.agg #[.string s, .int .i64 2, .int .i64 n]) w) := by
  go_enter Try.func18, Try.ntmps18
  go_wp2_with fail
  have q := blk_new w (.cells #[.string s, .int .i64 2, .int .i64 n] 32)
  have q0 := blk_cell (i := 0) q
  have q1 := blk_cell (i := 1) q
  have q2 := blk_cell (i := 2) q
  exact bodyPost_ret (v := .agg #[.string s, .int .i64 2, .int .i64 n]) (by simp [results, Try.results18, go_sem, q0, q1, q2]) rfl ⟨rfl, (Below.refl _ _).alloc (Nat.le_refl _) _⟩
set_option maxHeartbeats 2000000 in
theorem takeT_call (s : ByteArray) (n : Int) (w : World) : Calls Try.prog 29 #[.string s, .int .i64 n] w (Grew (.agg #[.string s, .int .i64 3, .int .i64 n]) w) := by
  go_enter Try.func29, Try.ntmps29
  go_wp2_with fail
  have q := blk_new w (.cells #[.string s, .int .i64 3, .int .i64 n] 32)
  have q0 := blk_cell (i := 0) q
  have q1 := blk_cell (i := 1) q
  have q2 := blk_cell (i := 2) q
  exact bodyPost_ret (v := .agg #[.string s, .int .i64 3, .int .i64 n]) (by simp [results, Try.results29, go_sem, q0, q1, q2]) rfl ⟨rfl, (Below.refl _ _).alloc (Nat.le_refl _) _⟩
set_option maxHeartbeats 2000000 in
theorem putT_call (c : Int) (ea : Option Addr) (en ec : Nat) (w : World) : Calls Try.prog 16 #[.int .i64 c, .slice ea en ec] w (Grew (.agg #[.int .i64 1, .int .i64 0, .int .i64 0, .int .i64 0, .int .u8 0, .int .i64 c, .slice ea en ec, .string ⟨#[]⟩, .int .i64 (-1)]) w) := by
  go_enter Try.func16, Try.ntmps16
  go_wp2_with fail
  have q := blk_new w (.cells #[.int .i64 1, .int .i64 0, .int .i64 0, .int .i64 0, .int .u8 0, .int .i64 c, .slice ea en ec, .string ⟨#[]⟩, .int .i64 (-1)] 29)
  have q0 := blk_cell (i := 0) q
  have q1 := blk_cell (i := 1) q
  have q2 := blk_cell (i := 2) q
  have q3 := blk_cell (i := 3) q
  have q4 := blk_cell (i := 4) q
  have q5 := blk_cell (i := 5) q
  have q6 := blk_cell (i := 6) q
  have q7 := blk_cell (i := 7) q
  have q8 := blk_cell (i := 8) q
  exact bodyPost_ret (v := .agg #[.int .i64 1, .int .i64 0, .int .i64 0, .int .i64 0, .int .u8 0, .int .i64 c, .slice ea en ec, .string ⟨#[]⟩, .int .i64 (-1)]) (by simp [results, Try.results16, go_sem, q0, q1, q2, q3, q4, q5, q6, q7, q8]) rfl ⟨rfl, (Below.refl _ _).alloc (Nat.le_refl _) _⟩
end Go.Proofs.Ythhcdfjijagalaa
namespace Go.Proofs.Ythhcdfjijagalaa.Sto
set_option linter.unusedVariables false
/-- two events come -/
theorem fold_pair {v : Vw.Vi} {e f : Evt.Ev} (h : (Vw.fold v [e]).err = 0) : (Vw.fold v [e, f]).err = (Vw.fold (Vw.fold v [e]).v [f]).err ∧ (Vw.fold v [e, f]).v = (Vw.fold (Vw.fold v [e]).v [f]).v := fold_two (X := [e]) (Y := [f]) h
def evs2 (n : Int) : List Evt.Ev := [⟨sa, 1, 0⟩, ⟨sa, 2, n⟩]
theorem evs2_right {n : Int} (h0 : 0 ≤ n) (hn : n ≤ 1000000) : ∀ e ∈ evs2 n, Evt.wrongEv e = 0 := by
  intro e he
  unfold evs2 at he
  simp only [List.mem_cons, List.not_mem_nil, or_false] at he
  rcases he with rfl | rfl
  · exact open_right sa (.inl rfl)
  · exact num_right sa (.inl rfl) 2 n (.inl rfl) h0 hn
theorem two_in {d p b n : Int} (hw : wrongS d p b = 0) (h0 : 0 ≤ n) (hn : n ≤ 1000000) :
    (step (start d p b) (doPut 1 (evs2 n))).2.err = 0 ∧ J (step (start d p b) (doPut 1 (evs2 n))).1 [⟨1, evs2 n⟩] [] (fun _ => False) 1 ∧ Cnt (step (start d p b) (doPut 1 (evs2 n))).1 [⟨1, evs2 n⟩] ∧ (Vw.get (step (start d p b) (doPut 1 (evs2 n))).1.snap.accs sa).sum = n := by
  have h := start_J hw
  have hc := Cnt.start d p b
  have hf1 := fold_one (v := (start d p b).snap) (e := ⟨sa, 1, 0⟩) h.good (open_right sa (.inl rfl)) (by show (0 : Int) ≠ 150; decide) rfl
  have hg1 : Vw.get (Vw.fold (start d p b).snap [⟨sa, 1, 0⟩]).v.accs sa = ⟨sa, 0, 1, true⟩ := by
    rw [hf1.2.1]; rfl
  have hf2 := fold_one (v := (Vw.fold (start d p b).snap [⟨sa, 1, 0⟩]).v) (e := ⟨sa, 2, n⟩) hf1.2.2 (num_right sa (.inl rfl) 2 n (.inl rfl) h0 hn) (by rw [hf1.2.1]; show (0 : Int) + 1 ≠ 150; decide) (by show Vw.may (Vw.get _ sa) _ = true; rw [hg1]; unfold Vw.may; rw [if_neg (show ¬ ((2 : Int) = 1) by decide), if_pos (.inl rfl)])
  have hfp := fold_pair (f := ⟨sa, 2, n⟩) hf1.1
  have hf : (Vw.fold (start d p b).snap (evs2 n)).err = 0 := hfp.1.trans hf2.1
  have hfv : (Vw.fold (start d p b).snap (evs2 n)).v = _ := hfp.2.trans hf2.2.1
  obtain ⟨e1, n1⟩ := put_good h (d := doPut 1 (evs2 n)) rfl (ba_right (by decide) (by decide) (by simp [evs2]) (by simp [evs2]) (evs2_right h0 hn)) (fun b hb => by cases hb) (show (-1 : Int) < 0 by decide) hf (by simp [doPut, evs2]) (fun b hb => by cases hb) (show 0 ≤ 39 by decide)
  have hj := h.put (d := doPut 1 (evs2 n)) rfl
  have hcn := hc.step (doPut 1 (evs2 n))
  rw [n1, List.nil_append] at hj hcn
  have hsnap : (step (start d p b) (doPut 1 (evs2 n))).1.snap = (Vw.fold (start d p b).snap (evs2 n)).v := by
    rw [step_put rfl]
    rcases put_view (start d p b) (doPut 1 (evs2 n)) with ⟨_, h3 | h3⟩ | ⟨_, _, _, h4, _⟩
    · rw [step_put rfl] at e1; exact absurd e1 h3
    · cases h3
    · exact h4
  refine ⟨e1, hj, hcn, ?_⟩
  rw [hsnap, hfv]
  have h5 := Vw.get_ins_same (Vw.plus (Vw.get (Vw.fold (start d p b).snap [⟨sa, 1, 0⟩]).v.accs sa) ⟨sa, 2, n⟩) (Vw.fold (start d p b).snap [⟨sa, 1, 0⟩]).v.accs
  rw [Vw.plus_s, Vw.get_s] at h5
  rw [h5, hg1]
  show (0 : Int) + n = n
  omega
theorem look_all {s : St} {X : List Evt.Ba} (hi : Inv s X) (ha : all s = (X, 0)) {d : Do} (h : d.kind = 4) : (step s d).2.err = 0 ∧ (step s d).2.view = s.snap := by
  have : (step s d).2 = look s := by unfold step; rw [if_neg (by omega), if_neg (by omega), if_pos h]
  rw [this]
  unfold look
  rw [ha, if_neg (show ¬ ((X, (0 : Int)).2 ≠ 0) from fun h => h rfl)]
  exact ⟨hi.err, hi.snap⟩
/-- the closed fact of the whole's laws -/
theorem aliveT_plain : ∃ s a1 a2, play 3 2 1 [doPut 1 (evs2 7), doOf 4 0] = (s, [a1, a2], 0) ∧ (Vw.get a2.view.accs sa).sum = 7 := by
  have hw : wrongS 3 2 1 = 0 := by decide
  obtain ⟨_, hj, _, hs⟩ := two_in hw (n := 7) (by decide) (by decide)
  have hsp := step_spare (start 3 2 1) (doPut 1 (evs2 7))
  have ha := hj.all_ok (few_none (by rw [hsp]; show (0 : Int) ≤ 2; decide))
  have hl := look_all hj.inv ha (d := doOf 4 0) rfl
  refine ⟨_, _, _, play_of hw (by decide), ?_⟩
  rw [hl.2]; exact hs
end Go.Proofs.Ythhcdfjijagalaa.Sto
namespace Go.Proofs.Ythhcdfjijagalaa
open Go.RowKit Go.Maps
set_option linter.unusedVariables false
set_option linter.unusedSimpArgs false
set_option maxRecDepth 100000
theorem field_sum (x : Vw.Acc) (W : World) : (Instr.field 65 (acVal x) 1).run Try.prog W = .ok (.int .i64 x.sum) W := by kernel_rfl
set_option maxHeartbeats 2000000 in
theorem aliveT_call (w : World) : Calls Try.prog 14 #[] w (Grew (.bool true) w) := by
  obtain ⟨s, a1, a2, hP, hsum⟩ := Sto.aliveT_plain
  have HP := hid hP
  have HS := hid hsum
  have DO := hid (fun W => openT_call Sto.sa W)
  have DA := hid (fun W => addT_call Sto.sa 7 W)
  unfold Sto.sa at DO DA
  clear hP hsum
  go_enter Try.func14, Try.ntmps14
  go_wp2_with fail
  go_at_call 17; refine (DO.out _).mono ?_; rintro e w1 ⟨rfl, b1⟩
  go_wp2_with fail
  go_at_call 18; refine (DA.out _).mono ?_; rintro e w2 ⟨rfl, b2⟩
  have bA := hid (bnext b1 b2)
  have HE := hid (lit_es (w := w2) (l := Sto.evs2 7) (by decide) (fun e he => by
    simp only [Sto.evs2, List.mem_cons, List.not_mem_nil, or_false] at he
    rcases he with rfl | rfl <;> decide))
  have DP := hid (fun W => putT_call 1 (some ⟨w2.heap.size, 0, none⟩) 2 2 W)
  have bB := hid (bA.out.alloc bA.out.size (.cells (evCells (Sto.evs2 7)).toArray 32))
  clear b1 b2 DO DA
  go_wp2_with fail
  go_at_call 16; refine (DP.out _).mono ?_; rintro e w3 ⟨rfl, b3⟩
  have bC := hid (bnext bB.out b3)
  have E1 := hid (HE.out.below b3)
  clear DP b3
  have h3 := own_sl (own_one (w := w3) (e := 29) (cs := (rows do9 [⟨Sto.doPut 1 (Sto.evs2 7), some ⟨w2.heap.size, 0, none⟩, 2, 2⟩, ⟨Sto.doOf 4 0, none, 0, 0⟩]).toArray) 2 9 rfl (by decide))
  obtain ⟨da, dc, e3, hsl3⟩ := h3
  cases e3
  have DD := hid (dos_of hsl3 (fun x hx => by
    simp only [List.mem_cons, List.not_mem_nil, or_false] at hx
    rcases hx with rfl | rfl
    · exact E1.out.below ((Below.refl _ _).alloc (Nat.le_refl _) _)
    · exact Es.nil _) (fun x hx => by
    simp only [List.mem_cons, List.not_mem_nil, or_false] at hx
    rcases hx with rfl | rfl <;> exact (by decide : (⟨#[]⟩ : ByteArray).size ≤ maxLen)))
  have DPL := hid (stPlay_call 3 2 1 _ _ _ _ _ DD.out)
  clear hsl3
  go_wp2_with fail
  go_at_call 19; refine DPL.out.mono ?_; rintro e w4 ⟨m, av, ac, L, er, rfl, hM, hA, hP2, b4⟩
  have hPP := HP.out.symm.trans hP2
  simp only [Prod.mk.injEq] at hPP
  obtain ⟨hp1, hp2, hp3⟩ := hPP
  subst hp3
  obtain ⟨x1, x2, rfl⟩ : ∃ x1 x2, L = [x1, x2] := by
    have hl := congrArg List.length hp2
    rw [List.length_map] at hl
    rcases L with _ | ⟨x1, _ | ⟨x2, _ | ⟨x3, L⟩⟩⟩ <;> simp at hl
    exact ⟨x1, x2, rfl⟩
  simp only [List.map_cons, List.map_nil, List.cons.injEq, and_true] at hp2
  obtain ⟨-, hx2⟩ := hp2
  have hsum : (Vw.get x2.accs ⟨#[97]⟩).sum = 7 := by have := HS.out; rw [hx2] at this; exact this
  obtain ⟨va, vc, ta, tc, sa, sc, aa, ac2, hv, -⟩ := hM.val
  obtain ⟨-, hAm⟩ := hA.amv
  obtain ⟨ab, aoff, rfl⟩ := hAm.free (show 0 < 2 by omega)
  obtain ⟨-, -, -, z3, z4⟩ := hAm.at 1 (show 1 < 2 by omega)
  have hac := hAm.accs x2 (by simp)
  have e2 : ([x1, x2] : List Am)[1] = x2 := rfl
  rw [e2] at z3 z4
  have bD := hid (bnext (bC.out.alloc bC.out.size _) b4)
  have y3 : ∀ o : Obj, (w4.alloc o).cell? ⟨ab, aoff + 1 * 5 + 3, none⟩ = some (.int .i64 x2.u) := fun o => calloc z3
  have y4 : ∀ o : Obj, (w4.alloc o).cell? ⟨ab, aoff + 1 * 5 + 4, none⟩ = some (.slice x2.aa x2.accs.length x2.ac) := fun o => calloc z4
  simp only [Nat.reduceMul] at y3 y4
  have bX := hid (bD.out.alloc bD.out.size (.cells #[.int .i64 m.d, .int .i64 m.s, .int .i64 m.b, .slice va m.D.length vc, .int .i64 (m.g : Int), .slice ta m.T.length tc, .slice sa m.seen.length sc, .int .i64 m.u, .slice aa m.A.length ac2] 44))
  have DG := hid (vGet_call x2.u x2.aa x2.accs.length x2.ac x2.accs ⟨#[97]⟩ _ (hac.below ((Below.refl _ _).alloc (Nat.le_refl _) (.cells #[.int .i64 m.d, .int .i64 m.s, .int .i64 m.b, .slice va m.D.length vc, .int .i64 (m.g : Int), .slice ta m.T.length tc, .slice sa m.seen.length sc, .int .i64 m.u, .slice aa m.A.length ac2] 44))))
  unfold viVal at DG
  rw [hv]
  have hfs := field_sum (Vw.get x2.accs ⟨#[97]⟩)
  rw [hsum] at hfs
  clear hv z3 z4 hA hM hAm hP2 hp1 hx2 hac b4 hsum
  generalize Vw.get x2.accs ⟨#[97]⟩ = X at *
  go_wp2_with fail
  go_at_call 26; refine DG.out.mono ?_; rintro e w5 ⟨rfl, b5⟩
  go_wp2_with fail
  go_ret
  exact ⟨rfl, bnext bX.out b5⟩
end Go.Proofs.Ythhcdfjijagalaa
namespace Go.Proofs.Ythhcdfjijagalaa
open Go.RowKit Go.Maps
set_option linter.unusedVariables false
set_option linter.unusedSimpArgs false
set_option maxRecDepth 100000
theorem DoO.lit {w : World} {base : Nat} (hb : base ≤ w.heap.size) (X : List Dod) (hX : X.length ≤ 100) (he : ∀ x ∈ X, Es w x.a x.n x.cap x.d.b.evs) (hs : ∀ x ∈ X, x.d.stream.size ≤ maxLen) :
    DoO (w.alloc (.cells (rows do9 X).toArray 29)) base (.slice (some ⟨w.heap.size, 0, none⟩) X.length X.length) X := by
  refine ⟨?_, fun x hx => (he x hx).alloc _, hs, fun x hx hn b o e e2 => ?_⟩
  · have := World.ownsRow_lit (e := 29) (base := base) (size := 9) w (rows do9 X).toArray X.length hb (by unfold maxLen; omega) (by simp [rows_length do9_len])
    simpa using this
  · have h1 := (he x hx).sl
    rw [e] at h1
    have := Sl.lt h1 hn (by decide)
    have e2 : some w.heap.size = some b := e2
    injection e2 with e2
    omega
def putX (c : Int) (l : List Evt.Ev) (B : Nat) : Dod := ⟨Sto.doPut c l, some ⟨B, 0, none⟩, l.length, l.length⟩
theorem putX_ok (c : Int) (l : List Evt.Ev) (B : Nat) : (putX c l B).d.stream.size ≤ maxLen := (by decide : (⟨#[]⟩ : ByteArray).size ≤ maxLen)
/-- an answer's cells, and what they hold -/
structure AnAt (w : World) (b off k : Nat) (y : Am) : Prop where
  c0 : w.cell? ⟨b, off + k * 5, none⟩ = some (.int .i64 y.err)
  c1 : w.cell? ⟨b, off + k * 5 + 1, none⟩ = some (.int .i64 y.n)
  c2 : w.cell? ⟨b, off + k * 5 + 2, none⟩ = some (.slice y.ea y.evs.length y.ec)
  c3 : w.cell? ⟨b, off + k * 5 + 3, none⟩ = some (.int .i64 y.u)
  c4 : w.cell? ⟨b, off + k * 5 + 4, none⟩ = some (.slice y.aa y.accs.length y.ac)
  evs : Es w y.ea y.evs.length y.ec y.evs
  accs : As w y.aa y.accs.length y.ac y.accs
theorem AnAt.below {w w' : World} {b off k : Nat} {y : Am} (h : AnAt w b off k y) (hb : Below w.heap.size w w') : AnAt w' b off k y :=
  have g : ∀ {q : Addr} {v : Value}, w.cell? q = some v → w'.cell? q = some v := fun e => (hb.cell (World.block_lt_of_cell? _ _ e)).trans e
  ⟨g h.c0, g h.c1, g h.c2, g h.c3, g h.c4, h.evs.below hb, h.accs.below hb⟩
theorem Ams.get {w : World} {base : Nat} {a : Option Addr} {n cap : Nat} {L : List Am} {A : List Sto.An} (h : Ams w base (.slice a n cap) L) (hA : A = L.map Am.an) {k : Nat} {x : Sto.An} (hx : A[k]? = some x) :
    ∃ b off y, a = some ⟨b, off, none⟩ ∧ k < L.length ∧ n = L.length ∧ Am.an y = x ∧ AnAt w b off k y := by
  subst hA
  obtain ⟨rfl, hv⟩ := h.amv
  have hk : k < L.length := by
    have := List.getElem?_eq_some_iff.1 hx
    simpa using this.1
  rw [List.getElem?_map, List.getElem?_eq_getElem hk] at hx
  obtain ⟨b, off, rfl⟩ := hv.free (by omega)
  obtain ⟨h0, h1, h2, h3, h4⟩ := hv.at k hk
  exact ⟨b, off, L[k], rfl, hk, rfl, by simpa using hx, h0, h1, h2, h3, h4, hv.evs _ (List.getElem_mem hk), hv.accs _ (List.getElem_mem hk)⟩
end Go.Proofs.Ythhcdfjijagalaa
namespace Go.Proofs.Ythhcdfjijagalaa
open Go.RowKit Go.Maps
set_option linter.unusedVariables false
set_option linter.unusedSimpArgs false
set_option maxRecDepth 100000
/-- a row of its own that is what is done -/
structure RowL (w wr : World) (v : Value) (l : List Sto.Do) (X : List Dod) : Prop where
  row : DoO wr w.heap.size v X
  eq : X.map Dod.d = l
  below : Below w.heap.size w wr
theorem RowL.len {w wr : World} {v : Value} {l : List Sto.Do} {X : List Dod} (h : RowL w wr v l X) : X.length = l.length := by rw [← h.eq, List.length_map]
theorem RowL.dos {w wr : World} {v : Value} {l : List Sto.Do} {X : List Dod} (h : RowL w wr v l X) : ∃ a cap, v = .slice a l.length cap ∧ Dos wr a l.length cap l := by
  obtain ⟨a, cap, e, hd⟩ := h.row.dos
  rw [h.eq] at hd
  rw [h.len] at hd e
  exact ⟨a, cap, e, hd⟩
theorem Ams.gets {w : World} {base : Nat} {a : Option Addr} {n cap : Nat} {L : List Am} {A : List Sto.An} (h : Ams w base (.slice a n cap) L) (hA : A = L.map Am.an) (hp : 0 < A.length) :
    ∃ b off, a = some ⟨b, off, none⟩ ∧ n = A.length ∧ L.length = A.length ∧ ∀ k x, A[k]? = some x → ∃ y, Am.an y = x ∧ k < A.length ∧ AnAt w b off k y := by
  subst hA
  obtain ⟨rfl, hv⟩ := h.amv
  rw [List.length_map] at hp ⊢
  obtain ⟨b, off, rfl⟩ := hv.free (by omega)
  refine ⟨b, off, rfl, rfl, rfl, fun k x hx => ?_⟩
  obtain ⟨b', off', y, e, h1, _, h2, h3⟩ := h.get rfl hx
  cases e
  exact ⟨y, h2, h1, h3⟩
end Go.Proofs.Ythhcdfjijagalaa
namespace Go.Proofs.Ythhcdfjijagalaa
open Go.RowKit Go.Maps
set_option linter.unusedVariables false
set_option linter.unusedSimpArgs false
set_option maxRecDepth 100000
theorem own_other {w w' : World} {base b2 : Nat} {e t : TypeId} {sz sz2 n n2 : Nat} {o o2 : Value} {xs xs2 : List Value} (h : w.ownsRow base e sz o n xs) (h2 : w.ownsRow b2 t sz2 o2 n2 xs2) (hg : w.grownBy w' o2.ownBlock) (hne : t ≠ e) : w'.ownsRow base e sz o n xs := by
  refine ⟨h.1, ?_⟩
  rcases h.2 with hn | ⟨g, cap, cur, hv, hb, hh, r⟩
  · exact .inl hn
  · exact .inr ⟨g, cap, cur, hv, hb, grown_other h2 hg hh hne, r⟩
theorem DoO.other {w w' : World} {base b2 sz2 n2 : Nat} {t : TypeId} {v o2 : Value} {X : List Dod} {xs2 : List Value} (h : DoO w base v X) (h2 : w.ownsRow b2 t sz2 o2 n2 xs2) (hg : w.grownBy w' o2.ownBlock) (hne : t ≠ 29)
    (hoff : ∀ x ∈ X, 0 < x.n → ∀ b o, x.a = some ⟨b, o, none⟩ → o2.ownBlock ≠ some b) : DoO w' base v X :=
  ⟨own_other h.own h2 hg hne, fun x hx => ⟨(h.evs x hx).sl.grown hg (fun hn b off e => hoff x hx hn b off e), (h.evs x hx).ok⟩, h.ok, h.off⟩
/-- blocks that events lie in are no block that is new -/
theorem DoO.old {w : World} {base : Nat} {v v5 : Value} {X : List Dod} {own : Option Nat} (h : DoO w base v X) (hl : v5.ownBlock = own ∨ ∀ k, v5.ownBlock = some k → w.heap.size ≤ k) (ho : ∀ x ∈ X, 0 < x.n → ∀ b o, x.a = some ⟨b, o, none⟩ → own ≠ some b) :
    ∀ x ∈ X, 0 < x.n → ∀ b o, x.a = some ⟨b, o, none⟩ → v5.ownBlock ≠ some b := fun x hx hn b o e e2 => by
  rcases hl with hl | hl
  · exact ho x hx hn b o e (hl ▸ e2)
  · have h4 := hl b e2
    have h5 := (h.evs x hx).sl
    rw [e] at h5
    have := Sl.lt h5 hn (by decide)
    omega
end Go.Proofs.Ythhcdfjijagalaa
