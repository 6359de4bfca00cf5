/- Joined, and what is not used struck: SoE, SpH, SpL, SpN, SpO, SpS. -/
import Derived.Test.YthhcdfjijagalaaM36
import Derived.Test.YthhcdfjijagalaaM38
namespace Go.Proofs.Ythhcdfjijagalaa.Evt
set_option linter.unusedVariables false
theorem fb_all (l : List Ba) (h : ∀ b ∈ l, (wrongBa b).1 = 0) : ∀ i, (fb l i).1 = 0 := by
  induction l with
  | nil => intro i; rfl
  | cons b r ih =>
    intro i
    unfold fb
    rw [if_neg (by rw [h b (by simp)]; exact fun e => e rfl)]
    exact ih (fun x hx => h x (by simp [hx])) _
theorem evBytes_le {e : Ev} (h : wrongEv e = 0) : (evBytes e).length ≤ 15 := by
  have := (named_len (wrongEv_zero h).1).2
  unfold evBytes
  simp only [List.length_cons, List.length_append, three_length]
  omega
theorem baBytes_le {b : Ba} (h : (wrongBa b).1 = 0) (h2 : b.evs.length ≤ 2) : (baBytes b).length ≤ 34 := by
  have hw := (wrongBa_zero h).2.2.2.2
  have : ∀ l : List Ev, (∀ e ∈ l, wrongEv e = 0) → (l.flatMap evBytes).length ≤ 15 * l.length := by
    intro l hl
    induction l with
    | nil => simp
    | cons e r ih =>
      have h1 := evBytes_le (hl e (by simp))
      have h2 := ih (fun x hx => hl x (by simp [hx]))
      rw [List.flatMap_cons, List.length_append, List.length_cons]; omega
  have := this b.evs hw
  unfold baBytes
  rw [List.length_append, List.length_cons, three_length]
  omega
theorem bytes_le {l : List Ba} (h : ∀ b ∈ l, (wrongBa b).1 = 0 ∧ b.evs.length ≤ 2) : (bytes l).length ≤ 1 + 34 * l.length := by
  have : (l.flatMap baBytes).length ≤ 34 * l.length := by
    induction l with
    | nil => simp
    | cons e r ih =>
      have h1 := baBytes_le (h e (by simp)).1 (h e (by simp)).2
      have h2 := ih (fun x hx => h x (by simp [hx]))
      rw [List.flatMap_cons, List.length_append, List.length_cons]; omega
  unfold bytes
  rw [List.length_cons]; omega
end Go.Proofs.Ythhcdfjijagalaa.Evt
namespace Go.Proofs.Ythhcdfjijagalaa.Sto
set_option linter.unusedVariables false
theorem layF_ok {b : List UInt8} {g d s : Int} (h1 : Mat.wrongC d s = 0) (h2 : 0 ≤ g ∧ g ≤ 39) (h3 : (b.length : Int) ≤ 400 * d) : (Stp.layF b g d s).2 = 0 := by
  have h := Stp.layF_spec b g d s
  unfold Stp.LayR at h
  rw [if_neg (fun e => e h1), if_neg (by omega), if_neg (by omega)] at h
  obtain ⟨S, _, _, h⟩ := h
  exact h
theorem Ok.code {s : St} {K : Nat} (h : Ok s K) : Mat.wrongC s.data s.spare = 0 := by
  have := h.d; have := h.sp
  unfold Mat.wrongC
  rw [if_neg (by omega)]
theorem J.tail {s : St} {X : List Evt.Ba} {had : List (Int × Int)} {H : Nat → Prop} {K : Nat} (h : J s X had H K) : ∀ b ∈ s.tail, b ∈ X := fun b hb => by
  obtain ⟨G, L, _, ht⟩ := h.core
  rw [← ht]
  exact List.mem_append_right _ hb
theorem put_good {s : St} {X : List Evt.Ba} {had : List (Int × Int)} {H : Nat → Prop} {K : Nat} (h : J s X had H K) {d : Do} (hk : d.kind = 1) (hw : (Evt.wrongBa d.b).1 = 0) (hc : ∀ b ∈ X, b.c ≠ d.b.c) (hv : d.ver < 0) (hf : (Vw.fold s.snap d.b.evs).err = 0)
    (h2 : d.b.evs.length ≤ 2) (ht : ∀ b ∈ X, b.evs.length ≤ 2) (hs : s.segs ≤ 39) : (step s d).2.err = 0 ∧ newB s d = [d.b] := by
  have hns : ¬ d.b.c ∈ s.seen := fun hm => by
    obtain ⟨b, hb, e⟩ := (h.inv.seen _).1 hm
    exact hc b hb e
  have hall : ∀ b ∈ s.tail ++ [d.b], (Evt.wrongBa b).1 = 0 ∧ b.evs.length ≤ 2 := fun b hb => by
    rcases List.mem_append.1 hb with hb | hb
    · exact ⟨h.ok.te b hb, ht b (h.tail b hb)⟩
    · obtain rfl := List.mem_singleton.1 hb
      exact ⟨hw, h2⟩
  have htl := h.ok.t
  have hb10 := h.ok.b
  have hlen : (s.tail ++ [d.b]).length ≤ 10 := by rw [List.length_append]; simp only [List.length_cons, List.length_nil]; omega
  have hby : Evt.bytesR (s.tail ++ [d.b]) = ⟨Evt.bytes (s.tail ++ [d.b]), 0, 0⟩ := by
    unfold Evt.bytesR
    rw [if_neg (by omega), if_neg (by rw [Evt.fb_all _ (fun b hb => (hall b hb).1)]; exact fun e => e rfl)]
  have hbl := Evt.bytes_le hall
  have hd := h.ok.d
  have hlay : (Stp.layF (Evt.bytes (s.tail ++ [d.b])) (s.segs : Int) s.data s.spare).2 = 0 := layF_ok h.ok.code (by omega) (by omega)
  have hseal : (sealS { s with tail := s.tail ++ [d.b] }).2 = 0 := by
    unfold sealS
    rw [if_neg (show ¬ (Evt.bytesR (s.tail ++ [d.b])).err ≠ 0 by rw [hby]; exact fun e => e rfl), if_neg (show ¬ (Stp.layF (Evt.bytesR (s.tail ++ [d.b])).l (s.segs : Int) s.data s.spare).2 ≠ 0 by rw [hby]; exact fun e => e hlay)]
  have he : (put s d).2.err = 0 := by
    unfold put
    rw [if_neg (by rw [hw]; exact fun e => e rfl), if_neg hns, if_neg (by omega), if_neg (by rw [hf]; exact fun e => e rfl)]
    split
    · rw [if_neg (by rw [hseal]; exact fun e => e rfl)]; rfl
    · rfl
  refine ⟨by rw [step_put hk]; exact he, ?_⟩
  unfold newB
  rw [step_put hk, if_pos ⟨hk, he, hns⟩]
/-- how many batches there are -/
def Cnt (s : St) (X : List Evt.Ba) : Prop := (s.segs : Int) * s.batches + (s.tail.length : Int) = (X.length : Int)
theorem Cnt.start (d p b : Int) : Cnt (start d p b) [] := by
  show ((0 : Nat) : Int) * b + ((0 : Nat) : Int) = ((0 : Nat) : Int)
  simp
theorem step_batches (s : St) (d : Do) : (step s d).1.batches = s.batches ∧ (step s d).1.data = s.data := by
  by_cases h1 : d.kind = 1
  · rw [step_put h1]
    rcases put_cases s d with ⟨e1, _⟩ | ⟨_, _, e, _, e', _⟩
    · rw [e1]; exact ⟨rfl, rfl⟩
    · exact ⟨e', e⟩
  · by_cases h5 : d.kind = 5 ∨ d.kind = 6 ∨ d.kind = 7
    · rw [step_harm h5]
      rcases harm_cases s d with ⟨e1, _⟩ | ⟨_, _, _, ⟨_, e1⟩ | ⟨_, _, e1⟩ | ⟨_, _, _, _, _, _, e1⟩⟩ <;> rw [e1] <;> exact ⟨rfl, rfl⟩
    · by_cases h8 : d.kind = 8
      · rw [step_scrub h8]; exact ⟨rfl, rfl⟩
      · rw [step_other h1 h5 h8]; exact ⟨rfl, rfl⟩
theorem Cnt.step {s : St} {X : List Evt.Ba} (h : Cnt s X) (d : Do) : Cnt (step s d).1 (X ++ newB s d) := by
  unfold Cnt at *
  by_cases h1 : d.kind = 1
  · unfold newB
    rw [step_put h1]
    rcases put_cases s d with ⟨e1, e2⟩ | ⟨e1, e2, _, _, e5, e6⟩
    · rw [if_neg (by rintro ⟨_, h3, h4⟩; rcases e2 with h2 | h2; exact h2 h3; exact h4 h2), List.append_nil, e1]; exact h
    · rw [if_pos ⟨h1, e1, e2⟩, e5, List.length_append]
      rcases e6 with ⟨_, f2, f3, _⟩ | ⟨L', _, _, _, f2, f3, f4⟩
      · rw [f2, f3, List.length_append]
        simp only [List.length_cons, List.length_nil]
        omega
      · rw [f2, f3]
        simp only [List.length_cons, List.length_nil]
        have : ((s.segs + 1 : Nat) : Int) * s.batches = (s.segs : Int) * s.batches + s.batches := by
          rw [Int.natCast_add, Int.add_mul]; simp
        rw [this]
        omega
  · rw [newB_no h1, List.append_nil]
    by_cases h5 : d.kind = 5 ∨ d.kind = 6 ∨ d.kind = 7
    · rw [step_harm h5, (harm_rest s d).1, (harm_rest s d).2, ← step_harm h5, (step_batches s d).1]; exact h
    · by_cases h8 : d.kind = 8
      · rw [step_scrub h8]; exact h
      · rw [step_other h1 h5 h8]; exact h
theorem read_all {s : St} {X : List Evt.Ba} (ha : all s = (X, 0)) {d : Do} (h3 : d.kind = 3) (hn : d.n = 0) : (step s d).2 = ⟨0, (events X).length, events X, Vw.none'⟩ := by
  have : (step s d).2 = read s d := by unfold step; rw [if_neg (by omega), if_pos (.inr h3)]
  rw [this, read_of ha, if_pos h3, hn, if_neg (by omega)]
  rfl
/-- one event comes -/
theorem fold_one {v : Vw.Vi} {e : Evt.Ev} (hg : Vw.Good v) (h1 : Evt.wrongEv e = 0) (h2 : v.upto ≠ 150) (h3 : Vw.may (Vw.get v.accs e.s) e = true) :
    (Vw.fold v [e]).err = 0 ∧ (Vw.fold v [e]).v = ⟨v.upto + 1, Vw.ins (Vw.plus (Vw.get v.accs e.s) e) v.accs⟩ ∧ Vw.Good (Vw.fold v [e]).v := by
  have ha := Vw.apply_of hg h1 h2 h3
  have he : (Vw.fold v [e]).err = 0 := by
    rw [Vw.fold_of hg, Vw.fo_cons, ha]
    rfl
  have hv : (Vw.fold v [e]).v = ⟨v.upto + 1, Vw.ins (Vw.plus (Vw.get v.accs e.s) e) v.accs⟩ := by
    rw [Vw.fold_of hg, Vw.fo_cons, ha]
    rfl
  refine ⟨he, hv, ?_⟩
  rw [Vw.fold_of hg] at he ⊢
  exact (Vw.fo_good _ _ 0 hg he).1
def doPut (c : Int) (l : List Evt.Ev) : Do := ⟨1, 0, 0, 0, 0, ⟨c, l⟩, ⟨#[]⟩, -1⟩
def doOf (k n : Int) : Do := ⟨k, n, 0, 0, 0, ⟨0, []⟩, ⟨#[]⟩, 0⟩
def sa : ByteArray := ⟨#[97]⟩
def sb : ByteArray := ⟨#[98]⟩
theorem open_right (s : ByteArray) (h : s = sa ∨ s = sb) : Evt.wrongEv ⟨s, 1, 0⟩ = 0 := by
  rcases h with rfl | rfl <;> decide
theorem ba_right {c : Int} {l : List Evt.Ev} (h1 : 1 ≤ c) (h2 : c ≤ 1000000) (h3 : 1 ≤ l.length) (h4 : l.length ≤ 10) (h : ∀ e ∈ l, Evt.wrongEv e = 0) : (Evt.wrongBa ⟨c, l⟩).1 = 0 := by
  unfold Evt.wrongBa
  rw [if_neg (by show ¬ (c < 1 ∨ 1000000 < c); omega), if_neg (by show ¬ (l.length < 1 ∨ 10 < l.length); omega)]
  have : ∀ (l : List Evt.Ev), (∀ e ∈ l, Evt.wrongEv e = 0) → ∀ i, (Evt.fw l i).1 = 0 := by
    intro l hl
    induction l with
    | nil => intro i; rfl
    | cons e r ih =>
      intro i
      unfold Evt.fw
      rw [if_neg (by rw [hl e (by simp)]; exact fun e => e rfl)]
      exact ih (fun x hx => hl x (by simp [hx])) _
  exact this l h 0
theorem few_one : Few (fun i => (i : Int) = 0) 1 := fun U hn hs => by
  have := few_list (U := [0]) (n := 1) (by decide) U hn (fun u hu => by simp [hs u hu])
  exact this
section
variable {s : St} {X : List Evt.Ba} {had : List (Int × Int)} {H : Nat → Prop} {K : Nat}
theorem J.put (h : J s X had H K) {d : Do} (hd : d.kind = 1) : J (Sto.step s d).1 (X ++ newB s d) had H (K + 1) := by
  have := h.step d (fun e => absurd (hd.symm.trans e) (by decide))
  unfold hurtN hadN at this
  rwa [if_neg (show ¬ (d.kind = 5 ∨ d.kind = 6 ∨ d.kind = 7) by omega), if_neg (show ¬ d.kind = 8 by omega), if_neg (show ¬ (d.kind = 7 ∧ d.y ≠ 0) by omega)] at this
/-- a disk is harmed, or not -/
theorem J.harm (h : J s X had H K) {d : Do} (hd : d.kind = 5 ∨ d.kind = 6 ∨ (d.kind = 7 ∧ (d.n, d.seg) ∉ had)) : J (Sto.step s d).1 X (hadN had d) (fun i => H i ∨ (i : Int) = d.n) (K + 1) := by
  have h1 := h.step d (fun e _ => by rcases hd with hd | hd | hd; omega; omega; exact hd.2)
  rw [newB_no (by omega), List.append_nil] at h1
  refine h1.mono (fun i hi => ?_)
  unfold hurtN at hi
  rw [if_pos (by omega)] at hi
  split at hi
  · exact hi
  · exact .inl hi
end
theorem Few.mono {H H' : Nat → Prop} {n m : Int} (h : Few H n) (hh : ∀ i, H' i → H i) (hn : n ≤ m) : Few H' m := fun U hU hs => by
  have := h U hU (fun u hu => hh u (hs u hu))
  omega
/-- the closed fact of chapter 8's laws -/
theorem alive8_plain : ∃ s a1 a2 a3, play 2 1 1 [doPut 1 [⟨sa, 1, 0⟩], doOf 5 0, doOf 3 0] = (s, [a1, a2, a3], 0) ∧ s.segs = 1 ∧ a3.err = 0 ∧ a3.evs.length = 1 := by
  have hw : wrongS 2 1 1 = 0 := by decide
  have hj0 := J.start hw (fun _ => False)
  have hf : (Vw.fold (start 2 1 1).snap (doPut 1 [⟨sa, 1, 0⟩]).b.evs).err = 0 := (fold_one Vw.good_none (open_right sa (.inl rfl)) (by decide) (by decide)).1
  obtain ⟨e1, n1⟩ := put_good hj0 (d := doPut 1 [⟨sa, 1, 0⟩]) rfl (ba_right (by decide) (by decide) (by decide) (by decide) (fun e he => by obtain rfl := List.mem_singleton.1 he; exact open_right sa (.inl rfl))) (fun b hb => by cases hb) (by decide) hf (by decide) (fun b hb => by cases hb) (by decide)
  have hj1 := hj0.put (d := doPut 1 [⟨sa, 1, 0⟩]) rfl
  have hc1 := (Cnt.start 2 1 1).step (doPut 1 [⟨sa, 1, 0⟩])
  rw [n1] at hj1 hc1
  have hb1 := (step_batches (start 2 1 1) (doPut 1 [⟨sa, 1, 0⟩])).1
  have hs1 : (step (start 2 1 1) (doPut 1 [⟨sa, 1, 0⟩])).1.segs = 1 := by
    have ht := hj1.ok.t
    unfold Cnt at hc1
    rw [hb1] at hc1 ht
    have hb : (start 2 1 1).batches = 1 := rfl
    rw [hb] at hc1 ht
    have : (([] ++ [(doPut 1 [⟨sa, 1, 0⟩]).b] : List Evt.Ba).length : Int) = 1 := rfl
    rw [this] at hc1
    omega
  have hsp1 := step_spare (start 2 1 1) (doPut 1 [⟨sa, 1, 0⟩])
  have hsp0 : (start 2 1 1).spare = 1 := rfl
  have hu : play 2 1 1 [doPut 1 [⟨sa, 1, 0⟩], doOf 5 0, doOf 3 0] = _ := play_of hw (by decide)
  rw [run_cons, run_cons, run_cons] at hu
  generalize step (start 2 1 1) (doPut 1 [⟨sa, 1, 0⟩]) = r1 at *
  have hj2 := hj1.harm (d := doOf 5 0) (.inl rfl)
  have hsp2 := step_spare r1.1 (doOf 5 0)
  have hs2 : (step r1.1 (doOf 5 0)).1.segs = 1 := by rw [step_harm (.inl rfl), (harm_rest _ _).1, hs1]
  generalize step r1.1 (doOf 5 0) = r2 at *
  have ha := hj2.all_ok (few_one.mono (fun i hi => by rcases hi with h | h; exact absurd h (fun q => q); exact h) (by omega))
  have hr := read_all ha (d := doOf 3 0) rfl rfl
  have hst : (step r2.1 (doOf 3 0)).1 = r2.1 := step_other (by decide) (by decide) (by decide)
  rw [hst, hr] at hu
  exact ⟨_, _, _, _, hu, hs2, rfl, rfl⟩
end Go.Proofs.Ythhcdfjijagalaa.Sto
namespace Go.Proofs.Ythhcdfjijagalaa
open Go.RowKit Go.Maps
set_option linter.unusedVariables false
set_option linter.unusedSimpArgs false
set_option maxRecDepth 100000
/-- what is done, with its events' row -/
structure Dod where
  d : Sto.Do
  a : Option Addr
  n : Nat
  cap : Nat
def do9 (x : Dod) : List Value := [.int .i64 x.d.kind, .int .i64 x.d.n, .int .i64 x.d.seg, .int .i64 x.d.t, .int .u8 (x.d.y.toNat : Int), .int .i64 x.d.b.c, .slice x.a x.n x.cap, .string x.d.stream, .int .i64 x.d.ver]
theorem do9_len (x : Dod) : (do9 x).length = 9 := rfl
theorem do9_one (x : Dod) : ∀ u ∈ do9 x, u.oneCell' = true := by
  intro u hu
  simp only [do9, List.mem_cons, List.not_mem_nil, or_false] at hu
  rcases hu with rfl | rfl | rfl | rfl | rfl | rfl | rfl | rfl | rfl <;> rfl
theorem dos_of {w : World} {a : Option Addr} {n cap : Nat} {X : List Dod} (h : Sl w 9 a n cap (rows do9 X)) (he : ∀ x ∈ X, Es w x.a x.n x.cap x.d.b.evs) (hs : ∀ x ∈ X, x.d.stream.size ≤ maxLen) : Dos w a n cap (X.map Dod.d) := by
  have hn : X.length = n := by have := h.len; rw [rows_length do9_len] at this; omega
  refine ⟨h.le, h.max, by rw [List.length_map]; exact hn, fun h0 => ?_⟩
  obtain ⟨b, off, e, hc⟩ := h.addr h0
  refine ⟨b, off, e, fun i hi => ?_⟩
  have hi' : i < X.length := by simpa using hi
  have g : ∀ j, j < 9 → w.cell? ⟨b, off + (i * 9 + j), none⟩ = (do9 X[i])[j]? := fun j hj => by
    have h1 := rows_get do9_len X i j hi' hj
    have hlt : j < (do9 X[i]).length := hj
    rw [List.getElem?_eq_getElem hlt] at h1 ⊢
    exact hc _ _ h1
  have hm := List.getElem_mem hi'
  rw [List.getElem_map]
  exact ⟨g 0 (by omega), g 1 (by omega), g 2 (by omega), g 3 (by omega), g 4 (by omega), g 5 (by omega), ⟨_, _, _, g 6 (by omega), he _ hm⟩, g 7 (by omega), g 8 (by omega), hs _ hm⟩
/-- the store as a value whose rows are slices -/
theorem StM.val {w : World} {base : Nat} {m : Mst} (h : StM w base m) : ∃ da dc ta tc sa sc aa ac, stVal m = .agg #[.int .i64 m.d, .int .i64 m.s, .int .i64 m.b, .slice da m.D.length dc, .int .i64 (m.g : Int), .slice ta m.T.length tc, .slice sa m.seen.length sc, .int .i64 m.u, .slice aa m.A.length ac] ∧
    m.dv = .slice da m.D.length dc ∧ m.tv = .slice ta m.T.length tc ∧ m.sv = .slice sa m.seen.length sc ∧ m.av = .slice aa m.A.length ac := by
  obtain ⟨da, dc, h1, -⟩ := own_sl h.dks
  obtain ⟨ta, tc, h2, -⟩ := own_sl h.tail
  obtain ⟨sa, sc, h3, -⟩ := own_sl h.seen
  obtain ⟨aa, ac, h4, -⟩ := own_sl h.accs
  exact ⟨da, dc, ta, tc, sa, sc, aa, ac, by unfold stVal; rw [h1, h2, h3, h4], h1, h2, h3, h4⟩
set_option maxHeartbeats 2000000 in
theorem put8_call (c : Int) (ea : Option Addr) (en ec : Nat) (evs : List Evt.Ev) (w : World) : Calls Try.prog 33 #[.int .i64 c, .slice ea en ec] w (Grew (doVal (Sto.doPut c evs) ea en ec) w) := by
  unfold doVal Sto.doPut
  simp only
  go_enter Try.func33, Try.ntmps33
  go_wp2_with fail
  have q := blk_new w (.cells #[.int .i64 1, .int .i64 0, .int .i64 0, .int .i64 0, .int .u8 0, .int .i64 c, .slice ea en ec, .string ⟨#[]⟩, .int .i64 (-1)] 29)
  have q0 := blk_cell (i := 0) q
  have q1 := blk_cell (i := 1) q
  have q2 := blk_cell (i := 2) q
  have q3 := blk_cell (i := 3) q
  have q4 := blk_cell (i := 4) q
  have q5 := blk_cell (i := 5) q
  have q6 := blk_cell (i := 6) q
  have q7 := blk_cell (i := 7) q
  have q8 := blk_cell (i := 8) q
  exact bodyPost_ret (v := .agg #[.int .i64 1, .int .i64 0, .int .i64 0, .int .i64 0, .int .u8 0, .int .i64 c, .slice ea en ec, .string ⟨#[]⟩, .int .i64 (-1)]) (by simp [results, Try.results33, go_sem, q0, q1, q2, q3, q4, q5, q6, q7, q8]) rfl ⟨rfl, (Below.refl _ _).alloc (Nat.le_refl _) _⟩
theorem own_one {w : World} {e : TypeId} {cs : Array Value} (n k : Nat) (hs : cs.size = n * k) (hm : n ≤ maxLen) : (w.alloc (.cells cs e)).ownsRow w.heap.size e k (.slice (some ⟨w.heap.size, 0, none⟩) n n) n cs.toList := World.ownsRow_lit w cs n (Nat.le_refl _) hm hs
set_option maxHeartbeats 2000000 in
theorem alive8_call (w : World) : Calls Try.prog 21 #[] w (Grew (.bool true) w) := by
  obtain ⟨s, a1, a2, a3, hP, hs1, he3, hl3⟩ := Sto.alive8_plain
  have H1 := own_sl (own_one (w := w) (e := 32) (cs := #[.string ⟨#[97]⟩, .int .i64 1, .int .i64 0]) 1 3 rfl (by decide))
  obtain ⟨ea, ec, e1, hsl⟩ := H1
  cases e1
  have HE := hid (show Es (w.alloc (.cells #[.string ⟨#[97]⟩, .int .i64 1, .int .i64 0] 32)) (some ⟨w.heap.size, 0, none⟩) 1 1 [⟨Sto.sa, 1, 0⟩] from ⟨hsl, fun e he => by obtain rfl := List.mem_singleton.1 he; decide⟩)
  have B1 := hid ((Below.refl w.heap.size w).alloc (Nat.le_refl _) (.cells #[.string ⟨#[97]⟩, .int .i64 1, .int .i64 0] 32))
  have DP := hid (put8_call 1 (some ⟨w.heap.size, 0, none⟩) 1 1 [⟨Sto.sa, 1, 0⟩] (w.alloc (.cells #[.string ⟨#[97]⟩, .int .i64 1, .int .i64 0] 32)))
  have HP := hid hP
  have HS1 := hid hs1
  have HE3 := hid he3
  have HL3 := hid hl3
  clear hP hs1 he3 hl3 hsl
  go_enter Try.func21, Try.ntmps21
  go_wp2_with fail
  go_at_call 33; refine DP.out.mono ?_; rintro e w1 ⟨rfl, b1⟩
  have bA := hid (bnext B1.out b1)
  have E1 := hid (HE.out.below b1)
  clear DP b1
  unfold doVal Sto.doPut
  simp only
  have h3 := own_sl (own_one (w := w1) (e := 29) (cs := (rows do9 [⟨Sto.doPut 1 [⟨Sto.sa, 1, 0⟩], some ⟨w.heap.size, 0, none⟩, 1, 1⟩, ⟨Sto.doOf 5 0, none, 0, 0⟩, ⟨Sto.doOf 3 0, none, 0, 0⟩]).toArray) 3 9 rfl (by decide))
  obtain ⟨da, dc, e3, hsl3⟩ := h3
  cases e3
  have DD := hid (dos_of hsl3 (fun x hx => by
    simp only [List.mem_cons, List.not_mem_nil, or_false] at hx
    rcases hx with rfl | rfl | rfl
    · exact E1.out.below ((Below.refl _ _).alloc (Nat.le_refl _) _)
    · exact ⟨Sl.none _ _, fun e he => by cases he⟩
    · exact ⟨Sl.none _ _, fun e he => by cases he⟩) (fun x hx => by
    simp only [List.mem_cons, List.not_mem_nil, or_false] at hx
    rcases hx with rfl | rfl | rfl <;> exact (by decide : (⟨#[]⟩ : ByteArray).size ≤ maxLen)))
  have DPL := hid (stPlay_call 2 1 1 _ _ _ _ _ DD.out)
  clear hsl3
  go_wp2_with fail
  go_at_call 19; refine DPL.out.mono ?_; rintro e w2 ⟨m, av, ac, L, er, rfl, hM, hA, hP2, b2⟩
  have hPP := HP.out.symm.trans hP2
  simp only [Prod.mk.injEq] at hPP
  obtain ⟨hp1, hp2, hp3⟩ := hPP
  subst hp3
  obtain ⟨x1, x2, x3, rfl⟩ : ∃ x1 x2 x3, L = [x1, x2, x3] := by
    have hl := congrArg List.length hp2
    rw [List.length_map] at hl
    rcases L with _ | ⟨x1, _ | ⟨x2, _ | ⟨x3, _ | ⟨x4, L⟩⟩⟩⟩ <;> simp at hl
    exact ⟨x1, x2, x3, rfl⟩
  simp only [List.map_cons, List.map_nil, List.cons.injEq, and_true] at hp2
  obtain ⟨-, -, hx3⟩ := hp2
  have hg : m.g = 1 := by have := HS1.out; rw [hp1] at this; exact this
  have hx3e : x3.err = 0 := by have := HE3.out; rw [hx3] at this; exact this
  have hx3l : x3.evs.length = 1 := by have := HL3.out; rw [hx3] at this; exact this
  obtain ⟨va, vc, ta, tc, sa, sc, aa, ac2, hv, -⟩ := hM.val
  obtain ⟨-, hAm⟩ := hA.amv
  obtain ⟨ab, aoff, rfl⟩ := hAm.free (show 0 < 3 by omega)
  obtain ⟨z0, -, z2, -, -⟩ := hAm.at 2 (show 2 < 3 by omega)
  have e2 : ([x1, x2, x3] : List Am)[2] = x3 := rfl
  rw [e2] at z0 z2
  rw [hx3e] at z0
  rw [hx3l] at z2
  rw [hg] at hv
  have bB := bnext (bA.out.alloc bA.out.size _) b2
  have y0 : ∀ o : Obj, (w2.alloc o).cell? ⟨ab, aoff + 2 * 5, none⟩ = some (.int .i64 0) := fun o => calloc z0
  have y2 : ∀ o : Obj, (w2.alloc o).cell? ⟨ab, aoff + 2 * 5 + 2, none⟩ = some (.slice x3.ea 1 x3.ec) := fun o => calloc z2
  simp only [Nat.reduceMul] at y0 y2
  rw [hv]
  clear hv z0 z2 hA hM hAm hP2 hp1 hx3 hx3e hx3l hg b2
  go_wp2_with fail
  go_ret
  exact ⟨rfl, bB.alloc bB.size _⟩
end Go.Proofs.Ythhcdfjijagalaa
namespace Go.Proofs.Ythhcdfjijagalaa
open Go.RowKit Go.Maps
set_option linter.unusedVariables false
set_option linter.unusedSimpArgs false
set_option maxRecDepth 100000
theorem info_Do : (Try.prog.info? 29).map (fun i => (i.zero, i.size, i.bytes)) = some (some (.agg #[.int .i64 0, .int .i64 0, .int .i64 0, .int .i64 0, .int .u8 0, .int .i64 0, .slice none 0 0, .string ⟨#[]⟩, .int .i64 0]), 9, 96) := by kernel_rfl
/-- events in a literal -/
theorem lit_es {w : World} {l : List Evt.Ev} (hl : l.length ≤ maxLen) (ho : ∀ e ∈ l, e.s.size ≤ maxLen) : Es (w.alloc (.cells (evCells l).toArray 32)) (some ⟨w.heap.size, 0, none⟩) l.length l.length l := by
  have := own_sl (own_one (w := w) (e := 32) (cs := (evCells l).toArray) l.length 3 (by simp [evCells_length]) hl)
  obtain ⟨a, c, e, h⟩ := this
  cases e
  exact ⟨by simpa using h, ho⟩
end Go.Proofs.Ythhcdfjijagalaa
namespace Go.Proofs.Ythhcdfjijagalaa
open Go.RowKit Go.Maps
set_option linter.unusedVariables false
set_option linter.unusedSimpArgs false
set_option maxRecDepth 100000
/-- an answer's cells, and what they hold -/
structure AnAt (w : World) (b off k : Nat) (y : Am) : Prop where
  c0 : w.cell? ⟨b, off + k * 5, none⟩ = some (.int .i64 y.err)
  c1 : w.cell? ⟨b, off + k * 5 + 1, none⟩ = some (.int .i64 y.n)
  c2 : w.cell? ⟨b, off + k * 5 + 2, none⟩ = some (.slice y.ea y.evs.length y.ec)
  c3 : w.cell? ⟨b, off + k * 5 + 3, none⟩ = some (.int .i64 y.u)
  c4 : w.cell? ⟨b, off + k * 5 + 4, none⟩ = some (.slice y.aa y.accs.length y.ac)
  evs : Es w y.ea y.evs.length y.ec y.evs
  accs : As w y.aa y.accs.length y.ac y.accs
theorem Ams.get {w : World} {base : Nat} {a : Option Addr} {n cap : Nat} {L : List Am} {A : List Sto.An} (h : Ams w base (.slice a n cap) L) (hA : A = L.map Am.an) {k : Nat} {x : Sto.An} (hx : A[k]? = some x) :
    ∃ b off y, a = some ⟨b, off, none⟩ ∧ k < L.length ∧ n = L.length ∧ Am.an y = x ∧ AnAt w b off k y := by
  subst hA
  obtain ⟨rfl, hv⟩ := h.amv
  have hk : k < L.length := by
    have := List.getElem?_eq_some_iff.1 hx
    simpa using this.1
  rw [List.getElem?_map, List.getElem?_eq_getElem hk] at hx
  obtain ⟨b, off, rfl⟩ := hv.free (by omega)
  obtain ⟨h0, h1, h2, h3, h4⟩ := hv.at k hk
  exact ⟨b, off, L[k], rfl, hk, rfl, by simpa using hx, h0, h1, h2, h3, h4, hv.evs _ (List.getElem_mem hk), hv.accs _ (List.getElem_mem hk)⟩
end Go.Proofs.Ythhcdfjijagalaa
namespace Go.Proofs.Ythhcdfjijagalaa
open Go.RowKit Go.Maps
set_option linter.unusedVariables false
set_option linter.unusedSimpArgs false
set_option maxRecDepth 100000
theorem Ams.gets {w : World} {base : Nat} {a : Option Addr} {n cap : Nat} {L : List Am} {A : List Sto.An} (h : Ams w base (.slice a n cap) L) (hA : A = L.map Am.an) (hp : 0 < A.length) :
    ∃ b off, a = some ⟨b, off, none⟩ ∧ n = A.length ∧ L.length = A.length ∧ ∀ k x, A[k]? = some x → ∃ y, Am.an y = x ∧ k < A.length ∧ AnAt w b off k y := by
  subst hA
  obtain ⟨rfl, hv⟩ := h.amv
  rw [List.length_map] at hp ⊢
  obtain ⟨b, off, rfl⟩ := hv.free (by omega)
  refine ⟨b, off, rfl, rfl, rfl, fun k x hx => ?_⟩
  obtain ⟨b', off', y, e, h1, _, h2, h3⟩ := h.get rfl hx
  cases e
  exact ⟨y, h2, h1, h3⟩
end Go.Proofs.Ythhcdfjijagalaa
namespace Go.Proofs.Ythhcdfjijagalaa
open Go.RowKit Go.Maps
set_option linter.unusedVariables false
set_option linter.unusedSimpArgs false
set_option maxRecDepth 100000
theorem heap_alloc (w : World) (o : Obj) : (w.alloc o).heap = w.heap.push o := rfl
theorem bdrew {w : World} {b : Nat} {o : Obj} (h : w.heap[b]? = some o) : w.drew.heap[b]? = some o := h
theorem heap_drew (w : World) : w.drew.heap = w.heap := rfl
theorem own0 {w : World} {base B : Nat} (hb : base ≤ B) (h : w.heap[B]? = some (.cells #[] 29 (0, 0))) : w.ownsRow base 29 9 (.slice (some ⟨B, 0, none⟩) 0 0) 0 [] :=
  ⟨rfl, .inr ⟨B, 0, #[], rfl, hb, h, Nat.le_refl _, by unfold maxLen; omega, rfl, rfl⟩⟩
theorem lit_kept {w w' : World} {b c n cap : Nat} {o : Obj} (g : w.grownBy w' (Value.slice (some ⟨c, 0, none⟩) n cap).ownBlock) (hne : b ≠ c) (h : w.heap[b]? = some o) : w'.heap[b]? = some o :=
  blk_grown h g (by simpa [Value.ownBlock] using hne)
/-- a literal that lies somewhere -/
theorem lit_at {W : World} {B : Nat} {Y : List Dod} (h : W.heap[B]? = some (.cells (rows do9 Y).toArray 29 (0, 0))) (hl : Y.length ≤ 100) : Src Try.prog 9 34 (.slice (some ⟨B, 0, none⟩) Y.length Y.length) Y.length (rows do9 Y) W := by
  refine Src.ofSlice W Try.underlying34 ⟨B, 0, none⟩ Y.length Y.length (rows do9 Y) (rows_length do9_len Y) (fun j u hj => ?_) (rows_one do9_one Y)
  have h1 : W.cell? ⟨B, j, none⟩ = (rows do9 Y).toArray[j]? := blk_cell h
  have h2 : (⟨B, 0, none⟩ : Addr).add j = ⟨B, j, none⟩ := by simp [Addr.add]; intro h; omega
  rw [h2, h1]; simpa using hj
theorem step_append_k {ops : Array Oper} {o : Oper} {a : Act} {K : Act → World → Prop} {Q : Exit → Act → World → Prop} {E : Prop} {w : World} (hgd : o.guard = none) (s xo : Operand) (t tx : TypeId)
    (ho : o.op = .call { callee := .builtin .append, args := #[s, xo], argTypes := #[t, tx] })
    {w0 : World} {row : Option Nat} (base : Nat) (e : TypeId) (size bytes : Nat) (z : Value) (ht : Try.prog.underlying t = some (.slice e)) (hinfo : (Try.prog.info? e).map (fun i => (i.zero, i.size, i.bytes)) = some (some z, size, bytes)) (hzs : z.cells.size = size) (hsz : 0 < size)
    (v : Value) (n : Nat) (xs : List Value) (hs : a.eval s = v) (hown : OT w0 w row base e size v n xs)
    (x : Value) (m : Nat) (news : List Value) (hxe : a.eval xo = x) (hx : Src Try.prog size tx x m news w)
    (h63 : n + m ≤ maxLen) (hbytes : (n + m) * bytes ≤ 140737488355328) (hbase : base ≤ w.heap.size)
    (h : ∀ v' w', OT w0 w' row base e size v' (n + m) (xs ++ news) → w.grownBy w' v.ownBlock → (∀ (b : Nat) (cs : Array Value) (t' : TypeId) (fr : Nat × Nat), e ≠ t' → w.heap[b]? = some (Obj.cells cs t' fr) → w'.heap[b]? = some (Obj.cells cs t' fr)) → K (a.put o.dst v') w') :
    if Region.wanted o (yielded ops a.tmps) = true then Oper.wp Try.prog o a w K Q else E :=
  step_append_t hgd s xo t tx ho base e size bytes z ht hinfo hzs hsz v n xs hs hown x m news hxe hx h63 hbytes hbase fun v' w' h1 h2 => h v' w' h1 h2 fun b cs t' fr hne hb => grown_other hown.own h2 hb hne
theorem dor_cells {w : World} {b : Nat} (l : List Sto.Do) : ∀ (off : Nat), (∀ (i : Nat) (h : i < l.length), DoR w b (off + i * 9) l[i]) →
    ∃ X : List Dod, X.map Dod.d = l ∧ (∀ x ∈ X, Es w x.a x.n x.cap x.d.b.evs ∧ x.d.stream.size ≤ maxLen) ∧ ∀ j u, (rows do9 X)[j]? = some u → w.cell? ⟨b, off + j, none⟩ = some u := by
  induction l with
  | nil => intro off _; exact ⟨[], rfl, (fun x hx => by cases hx), fun j u h => by simp [rows] at h⟩
  | cons d r ih =>
    intro off h
    have h0 := h 0 (by simp)
    rw [show off + 0 * 9 = off by omega] at h0
    have h0 : DoR w b off d := h0
    obtain ⟨X, hX, hE, hC⟩ := ih (off + 9) (fun i hi => by
      have := h (i + 1) (by simpa using hi)
      rw [show off + (i + 1) * 9 = off + 9 + i * 9 by omega] at this
      exact this)
    obtain ⟨ea, en, ec, h6, hEs⟩ := h0.evs
    refine ⟨⟨d, ea, en, ec⟩ :: X, by rw [List.map_cons, hX], fun x hx => ?_, fun j u hj => ?_⟩
    · rcases List.mem_cons.1 hx with rfl | hx
      · exact ⟨hEs, h0.ok⟩
      · exact hE x hx
    · have e : rows do9 (⟨d, ea, en, ec⟩ :: X) = do9 ⟨d, ea, en, ec⟩ ++ rows do9 X := by simp [rows]
      rw [e] at hj
      rcases Nat.lt_or_ge j 9 with h9 | h9
      · rw [List.getElem?_append_left (by exact h9)] at hj
        have h0' := h0
        obtain ⟨k0, k1, k2, k3, k4, k5, _, k7, k8, _⟩ := h0
        have hh : j = 0 ∨ j = 1 ∨ j = 2 ∨ j = 3 ∨ j = 4 ∨ j = 5 ∨ j = 6 ∨ j = 7 ∨ j = 8 := by omega
        rcases hh with rfl | rfl | rfl | rfl | rfl | rfl | rfl | rfl | rfl <;> (cases hj; assumption)
      · rw [List.getElem?_append_right (by exact h9)] at hj
        have h1 := hC (j - 9) u hj
        rw [show off + 9 + (j - 9) = off + j by omega] at h1
        exact h1
theorem Dos.cells {w : World} {a : Option Addr} {n cap : Nat} {l : List Sto.Do} (h : Dos w a n cap l) : ∃ X : List Dod, X.map Dod.d = l ∧ X.length = n ∧ (∀ x ∈ X, Es w x.a x.n x.cap x.d.b.evs ∧ x.d.stream.size ≤ maxLen) ∧
    ∀ W, Below w.heap.size w W → Src Try.prog 9 34 (.slice a n cap) n (rows do9 X) W := by
  have hcnt := h.cnt
  rcases Nat.eq_zero_or_pos n with rfl | hn
  · obtain rfl : l = [] := List.eq_nil_of_length_eq_zero hcnt
    refine ⟨[], rfl, rfl, (fun x hx => by cases hx), fun W _ => ?_⟩
    cases a with
    | none => exact Src.ofNil W Try.underlying34 cap
    | some p => exact Src.ofSlice W Try.underlying34 p 0 cap [] rfl (fun j u hj => by simp at hj) (fun u hu => by cases hu)
  · obtain ⟨b, off, rfl, hd⟩ := h.addr hn
    obtain ⟨X, hX, hE, hC⟩ := dor_cells l off hd
    have hl : X.length = n := by have := congrArg List.length hX; rw [List.length_map, hcnt] at this; exact this
    have hs : Sl w 9 (some ⟨b, off, none⟩) n cap (rows do9 X) := ⟨h.le, h.max, by rw [rows_length do9_len, hl], (fun e => by cases e), fun _ => ⟨b, off, rfl, hC⟩⟩
    exact ⟨X, hX, hl, hE, fun W hb => Sl.src (hs.below hb) Try.underlying34 (rows_one do9_one X)⟩
end Go.Proofs.Ythhcdfjijagalaa
