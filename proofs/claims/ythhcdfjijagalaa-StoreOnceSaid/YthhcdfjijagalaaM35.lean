/- Joined, and what is not used struck: StoG, SpD, StoH, SoA. -/
import Derived.Test.YthhcdfjijagalaaM32
import Derived.Test.YthhcdfjijagalaaM34
import Derived.Test.YthhcdfjijagalaaM14
namespace Go.Proofs.Ythhcdfjijagalaa.Sto
set_option linter.unusedVariables false
theorem Ok.mono {s : St} {K K' : Nat} (h : Ok s K) (hk : K ≤ K') : Ok s K' := { h with seen := Nat.le_trans h.seen hk }
theorem insS_mem (c : Int) : ∀ (l : List Int) (x : Int), x ∈ insS l c ↔ x = c ∨ x ∈ l
  | [], x => by simp [insS]
  | a :: t, x => by
    unfold insS
    split
    · rw [List.mem_cons, insS_mem c t x, List.mem_cons]
      constructor <;> (rintro (h | h | h) <;> simp [h])
    · simp
theorem insS_length (c : Int) : ∀ l : List Int, (insS l c).length = l.length + 1
  | [] => rfl
  | a :: t => by
    unfold insS
    split
    · rw [List.length_cons, insS_length c t, List.length_cons]
    · simp
theorem insS_rise (c : Int) : ∀ l : List Int, l.Pairwise (· < ·) → ¬ c ∈ l → (insS l c).Pairwise (· < ·)
  | [], _, _ => by simp [insS]
  | a :: t, hp, hn => by
    have hp' := List.pairwise_cons.1 hp
    have hn' : c ≠ a ∧ ¬ c ∈ t := by simpa using hn
    unfold insS
    split
    · rename_i hlt
      refine List.pairwise_cons.2 ⟨fun x hx => ?_, insS_rise c t hp'.2 hn'.2⟩
      rcases (insS_mem c t x).1 hx with rfl | hx
      · exact hlt
      · exact hp'.1 x hx
    · rename_i hge
      refine List.pairwise_cons.2 ⟨fun x hx => ?_, hp⟩
      have h1 : c < a := by have := hn'.1; omega
      rcases List.mem_cons.1 hx with rfl | hx
      · exact h1
      · have := hp'.1 x hx
        show c < x
        omega
theorem seal_ok {s : St} {K : Nat} {t : List Evt.Ba} (h : Ok s K) (h2 : (sealS { s with tail := t }).2 = 0) : Ok (sealS { s with tail := t }).1 K ∧ (sealS { s with tail := t }).1.seen = s.seen ∧ (sealS { s with tail := t }).1.snap = s.snap := by
  by_cases e1 : (Evt.bytesR t).err ≠ 0
  · have : sealS { s with tail := t } = ({ s with tail := t }, (Evt.bytesR t).err) := by unfold sealS; rw [if_pos e1]
    rw [this] at h2
    exact absurd h2 e1
  · by_cases e2 : (Stp.layF (Evt.bytesR t).l (s.segs : Int) s.data s.spare).2 ≠ 0
    · have : sealS { s with tail := t } = ({ s with tail := t }, (Stp.layF (Evt.bytesR t).l (s.segs : Int) s.data s.spare).2) := by unfold sealS; rw [if_neg e1, if_pos e2]
      rw [this] at h2
      exact absurd h2 e2
    · have : sealS { s with tail := t } = ({ s with disks := write s.disks s.segs (Stp.layF (Evt.bytesR t).l (s.segs : Int) s.data s.spare).1, segs := s.segs + 1, tail := [] }, 0) := by unfold sealS; rw [if_neg e1, if_neg e2]
      rw [this]
      have hl := Stp.layF_spec (Evt.bytesR t).l (s.segs : Int) s.data s.spare
      rw [Classical.not_not.1 e2] at hl
      have hf := hl.fit
      have hb := h.b
      refine ⟨⟨h.d, h.sp, h.b, by show ((write _ _ _).length : Int) = _; rw [write_length]; exact h.nd, by show s.segs + 1 ≤ 40; have := hf.2.1; omega, by show ((0 : Nat) : Int) < s.batches; omega, (fun b hb => by cases hb), h.seen, h.sup, fun x hx => ?_⟩, rfl, rfl⟩
      exact write_ok (g := ((s.segs + 1 : Nat) : Int)) (fun x hx => BlOk.mono (g := (s.segs : Int)) (h.bl x hx) (by omega)) (by omega) x hx
theorem Ok.put {s : St} {K : Nat} (h : Ok s K) (d : Do) : Ok (put s d).1 (K + 1) := by
  unfold Sto.put
  split
  · exact h.mono (by omega)
  · rename_i hw
    have hw : (Evt.wrongBa d.b).1 = 0 := Classical.not_not.1 hw
    split
    · exact h.mono (by omega)
    · rename_i hm
      split
      · exact h.mono (by omega)
      · split
        · exact h.mono (by omega)
        · split
          · split
            · exact h.mono (by omega)
            · rename_i he
              obtain ⟨h1, h2, h3⟩ := seal_ok h (t := s.tail ++ [d.b]) (Classical.not_not.1 he)
              exact ⟨h1.d, h1.sp, h1.b, h1.nd, h1.g, h1.t, h1.te, by show (insS s.seen d.b.c).length ≤ K + 1; rw [insS_length]; have := h.seen; omega, insS_rise _ _ h.sup hm, h1.bl⟩
          · rename_i hne
            refine ⟨h.d, h.sp, h.b, h.nd, h.g, ?_, fun b hb => ?_, by show (insS s.seen d.b.c).length ≤ K + 1; rw [insS_length]; have := h.seen; omega, insS_rise _ _ h.sup hm, h.bl⟩
            · show ((s.tail ++ [d.b]).length : Int) < s.batches
              have := h.t
              rw [List.length_append] at hne ⊢
              simp only [List.length_cons, List.length_nil] at hne ⊢
              omega
            · rcases List.mem_append.1 hb with hb | hb
              · exact h.te b hb
              · obtain rfl := List.mem_singleton.1 hb
                exact hw
theorem Ok.disks {s : St} {K : Nat} (h : Ok s K) (ds : List Dk) (hl : ds.length = s.disks.length) (hb : ∀ x ∈ ds, BlOk (s.segs : Int) x) : Ok { s with disks := ds } K :=
  ⟨h.d, h.sp, h.b, by show (ds.length : Int) = _; rw [hl]; exact h.nd, h.g, h.t, h.te, h.seen, h.sup, hb⟩
theorem Ok.harm {s : St} {K : Nat} (h : Ok s K) (d : Do) : Ok (harm s d).1 K := by
  have he : ∀ g, BlOk (s.segs : Int) ⟨g, []⟩ := fun g => ⟨List.Pairwise.nil, fun y hy => by cases hy⟩
  have hset : ∀ (i : Nat) (y : Dk), BlOk (s.segs : Int) y → Ok { s with disks := s.disks.set i y } K := fun i y hy => h.disks _ (by simp) (fun x hx => by
    rcases List.mem_or_eq_of_mem_set hx with hx | rfl
    · exact h.bl x hx
    · exact hy)
  unfold Sto.harm
  split
  · exact h
  · rename_i hn
    split
    · exact hset _ _ (he _)
    · split
      · split
        · exact h
        · exact hset _ _ (he _)
      · split
        · exact h
        · split
          · exact h
          · refine hset _ _ ?_
            have hi : d.n.toNat < s.disks.length := by omega
            have hx : BlOk (s.segs : Int) (s.disks.getD d.n.toNat ⟨false, []⟩) := by
              have : s.disks.getD d.n.toNat ⟨false, []⟩ = s.disks[d.n.toNat] := by simp [List.getD, hi]
              rw [this]; exact h.bl _ (List.getElem_mem hi)
            refine ⟨by show ((setB _ _ _).map Hd.seg).Pairwise _; rw [setB_segs]; exact hx.1, fun y hy => ?_⟩
            have h1 : y.seg ∈ (setB (s.disks.getD d.n.toNat ⟨false, []⟩).bl d.seg _).map Hd.seg := List.mem_map.2 ⟨y, hy, rfl⟩
            rw [setB_segs] at h1
            obtain ⟨z, hz, e⟩ := List.mem_map.1 h1
            rw [← e]; exact hx.2 z hz
theorem scrubTo_ok {ds : List Dk} {d g : Int} (hb : ∀ x ∈ ds, BlOk g x) : ∀ k : Nat, (k : Int) ≤ g → (scrubTo ds d k).1.length = ds.length ∧ ∀ x ∈ (scrubTo ds d k).1, BlOk g x
  | 0, _ => ⟨rfl, hb⟩
  | k + 1, hk => by
    obtain ⟨h1, h2⟩ := scrubTo_ok hb k (by omega)
    unfold scrubTo
    simp only
    split
    · exact ⟨h1, h2⟩
    · split
      · exact ⟨h1, h2⟩
      · exact ⟨by rw [write_length]; exact h1, write_ok h2 (by omega)⟩
theorem Ok.scrub {s : St} {K : Nat} (h : Ok s K) : Ok (scrub s).1 K := by
  obtain ⟨h1, h2⟩ := scrubTo_ok (d := s.data) (g := (s.segs : Int)) h.bl s.segs (by omega)
  exact h.disks _ h1 h2
theorem Ok.step {s : St} {K : Nat} (h : Ok s K) (d : Do) : Ok (step s d).1 (K + 1) := by
  unfold Sto.step
  split
  · exact h.put d
  · split
    · exact h.mono (by omega)
    · split
      · exact h.mono (by omega)
      · split
        · exact (h.harm d).mono (by omega)
        · split
          · exact h.scrub.mono (by omega)
          · split
            · exact h.mono (by omega)
            · exact h.mono (by omega)
theorem Ok.start {d s b : Int} (h : wrongS d s b = 0) : Ok (start d s b) 0 := by
  unfold wrongS at h
  split at h
  · rename_i h1; exact absurd h h1
  · rename_i h1
    have hc := Mat.wrongC_ok (Classical.not_not.1 h1)
    split at h
    · exact absurd h (by decide)
    · rename_i h2
      refine ⟨by show 1 ≤ d ∧ d ≤ 8; omega, by show 0 ≤ s ∧ s ≤ 4; omega, by show 1 ≤ b ∧ b ≤ 10; omega, ?_, by show 0 ≤ 40; omega, by show ((0 : Nat) : Int) < b; omega, (fun x hx => by cases hx), Nat.le_refl _, List.Pairwise.nil, fun x hx => ?_⟩
      · show ((List.replicate (d + s).toNat (⟨false, []⟩ : Dk)).length : Int) = d + s
        rw [List.length_replicate]; omega
      · have hx : x ∈ List.replicate (d + s).toNat (⟨false, []⟩ : Dk) := hx
        obtain ⟨_, rfl⟩ := List.mem_replicate.1 hx
        exact ⟨List.Pairwise.nil, fun y hy => by cases hy⟩
end Go.Proofs.Ythhcdfjijagalaa.Sto
namespace Go.Proofs.Ythhcdfjijagalaa
open Go.RowKit
set_option linter.unusedVariables false
set_option linter.unusedSimpArgs false
set_option maxRecDepth 100000
/-- an answer as memory has it -/
structure Am where
  err : Int
  n : Int
  ea : Option Addr
  ec : Nat
  evs : List Evt.Ev
  u : Int
  aa : Option Addr
  ac : Nat
  accs : List Vw.Acc
def am5 (a : Am) : List Value := [.int .i64 a.err, .int .i64 a.n, .slice a.ea a.evs.length a.ec, .int .i64 a.u, .slice a.aa a.accs.length a.ac]
def Am.an (a : Am) : Sto.An := ⟨a.err, a.n, a.evs, ⟨a.u, a.accs⟩⟩
theorem am5_len (a : Am) : (am5 a).length = 5 := rfl
/-- answers in a row of their own -/
structure Ams (w : World) (base : Nat) (v : Value) (L : List Am) : Prop where
  own : w.ownsRow base 50 5 v L.length (rows am5 L)
  evs : ∀ a ∈ L, EO w base a.ea a.ec a.evs
  accs : ∀ a ∈ L, AO w base a.aa a.ac a.accs
theorem Ams.kt {w w' : World} {base : Nat} {v : Value} {L : List Am} (h : Ams w base v L) (k : Kt w w') : Ams w' base v L :=
  ⟨k.own h.own (by decide), fun a ha => ⟨k.own (h.evs a ha).1 (by decide), (h.evs a ha).2⟩, fun a ha => ⟨k.own (h.accs a ha).1 (by decide), (h.accs a ha).2⟩⟩
theorem Ams.nil (w : World) (base : Nat) : Ams w base (.slice none 0 0) [] := ⟨World.ownsRow_nil _ _ _ _, (fun a ha => by cases ha), (fun a ha => by cases ha)⟩
/-- a list of what is done -/
structure Dos (w : World) (a : Option Addr) (n cap : Nat) (l : List Sto.Do) : Prop where
  le : n ≤ cap
  max : cap ≤ maxLen
  cnt : l.length = n
  addr : 0 < n → ∃ b off, a = some ⟨b, off, none⟩ ∧ ∀ (i : Nat) (h : i < l.length), DoR w b (off + i * 9) l[i]
theorem Dos.below {w w' : World} {a : Option Addr} {n cap : Nat} {l : List Sto.Do} (h : Dos w a n cap l) (hb : Below w.heap.size w w') : Dos w' a n cap l :=
  ⟨h.le, h.max, h.cnt, fun hn => by
    obtain ⟨b, off, e, hd⟩ := h.addr hn
    exact ⟨b, off, e, fun i hi => (hd i hi).below hb⟩⟩
/-- the store as a value -/
def stVal (m : Mst) : Value := .agg #[.int .i64 m.d, .int .i64 m.s, .int .i64 m.b, m.dv, .int .i64 (m.g : Int), m.tv, m.sv, .int .i64 m.u, m.av]
end Go.Proofs.Ythhcdfjijagalaa
namespace Go.Proofs.Ythhcdfjijagalaa.Sto
set_option linter.unusedVariables false
/-- a batch that one thing puts in -/
noncomputable def newB (s : St) (d : Do) : List Evt.Ba := if d.kind = 1 ∧ (step s d).2.err = 0 ∧ ¬ d.b.c ∈ s.seen then [d.b] else []
noncomputable def toldS (s : St) : List Do → List Evt.Ba
  | [] => []
  | d :: l => newB s d ++ toldS (step s d).1 l
structure Inv (s : St) (X : List Evt.Ba) : Prop where
  err : (Vw.fold Vw.none' (events X)).err = 0
  snap : (Vw.fold Vw.none' (events X)).v = s.snap
  seen : ∀ c, c ∈ s.seen ↔ ∃ b ∈ X, b.c = c
theorem events_app (X Y : List Evt.Ba) : events (X ++ Y) = events X ++ events Y := by simp [events]
theorem Inv.start (d s b : Int) : Inv (start d s b) [] := ⟨by rw [show events [] = [] from rfl]; decide, by rw [show events [] = [] from rfl]; show (Vw.fold Vw.none' []).v = Vw.none'; rfl, fun c => by simp [Sto.start]⟩
theorem fold_two {v : Vw.Vi} {X Y : List Evt.Ev} (h : (Vw.fold v X).err = 0) : (Vw.fold v (X ++ Y)).err = (Vw.fold (Vw.fold v X).v Y).err ∧ (Vw.fold v (X ++ Y)).v = (Vw.fold (Vw.fold v X).v Y).v := by
  obtain ⟨hg, e1⟩ := Vw.fold_ok h
  rw [e1] at h
  have hg2 := (Vw.fo_good X v 0 hg h).1
  rw [e1, Vw.fold_of hg, Vw.fo_app, if_neg (by rw [h]; exact fun e => e rfl), Vw.fold_of hg2]
  have := Vw.fo_shift Y (Vw.fo v X 0).v (0 + X.length) 0
  exact ⟨this.2, this.1⟩
theorem put_view (s : St) (d : Do) : ((put s d).1 = s ∧ ((put s d).2.err ≠ 0 ∨ d.b.c ∈ s.seen)) ∨ ((put s d).2.err = 0 ∧ ¬ d.b.c ∈ s.seen ∧ (Vw.fold s.snap d.b.evs).err = 0 ∧ (put s d).1.snap = (Vw.fold s.snap d.b.evs).v ∧ (put s d).1.seen = insS s.seen d.b.c) := by
  unfold put
  split
  · rename_i h; exact .inl ⟨rfl, .inl h⟩
  · split
    · rename_i h; exact .inl ⟨rfl, .inr h⟩
    · rename_i hm
      split
      · exact .inl ⟨rfl, .inl (show (11 : Int) ≠ 0 by decide)⟩
      · split
        · rename_i h; exact .inl ⟨rfl, .inl h⟩
        · rename_i hf
          have hf := Classical.not_not.1 hf
          split
          · split
            · rename_i h; exact .inl ⟨rfl, .inl h⟩
            · exact .inr ⟨rfl, hm, hf, rfl, rfl⟩
          · exact .inr ⟨rfl, hm, hf, rfl, rfl⟩
theorem harm_keeps (s : St) (d : Do) : (harm s d).1.seen = s.seen ∧ (harm s d).1.snap = s.snap := by
  unfold harm
  split
  · exact ⟨rfl, rfl⟩
  · split
    · exact ⟨rfl, rfl⟩
    · split
      · split <;> exact ⟨rfl, rfl⟩
      · split
        · exact ⟨rfl, rfl⟩
        · split <;> exact ⟨rfl, rfl⟩
theorem step_put {s : St} {d : Do} (h : d.kind = 1) : step s d = put s d := by unfold step; rw [if_pos h]
theorem step_keeps {s : St} {d : Do} (h : d.kind ≠ 1) : (step s d).1.seen = s.seen ∧ (step s d).1.snap = s.snap := by
  unfold step
  rw [if_neg h]
  split
  · exact ⟨rfl, rfl⟩
  · split
    · exact ⟨rfl, rfl⟩
    · split
      · exact harm_keeps s d
      · split
        · exact ⟨rfl, rfl⟩
        · split <;> exact ⟨rfl, rfl⟩
theorem Inv.step {s : St} {X : List Evt.Ba} (h : Inv s X) (d : Do) : Inv (step s d).1 (X ++ newB s d) := by
  by_cases hk : d.kind = 1
  · rw [step_put hk]
    unfold newB
    rw [step_put hk]
    rcases put_view s d with ⟨h1, h2⟩ | ⟨h1, h2, h3, h4, h5⟩
    · rw [if_neg (by rintro ⟨_, h3, h4⟩; rcases h2 with h2 | h2; exact h2 h3; exact h4 h2), List.append_nil, h1]
      exact h
    · rw [if_pos ⟨hk, h1, h2⟩]
      have hf := fold_two (Y := d.b.evs) h.err
      rw [h.snap] at hf
      have e : events (X ++ [d.b]) = events X ++ d.b.evs := by rw [events_app]; simp [events]
      refine ⟨by rw [e, hf.1]; exact h3, by rw [e, hf.2, h4], fun c => ?_⟩
      rw [h5, insS_mem, h.seen]
      constructor
      · rintro (rfl | ⟨b, hb, rfl⟩)
        · exact ⟨d.b, by simp, rfl⟩
        · exact ⟨b, by simp [hb], rfl⟩
      · rintro ⟨b, hb, rfl⟩
        rcases List.mem_append.1 hb with hb | hb
        · exact .inr ⟨b, hb, rfl⟩
        · exact .inl (by rw [List.mem_singleton.1 hb])
  · have hn : newB s d = [] := by unfold newB; rw [if_neg (fun h => hk h.1)]
    rw [hn, List.append_nil]
    obtain ⟨h1, h2⟩ := step_keeps (s := s) hk
    exact ⟨h.err, h.snap.trans h2.symm, fun c => by rw [h1]; exact h.seen c⟩
theorem Inv.run {s : St} {X : List Evt.Ba} (h : Inv s X) (l : List Do) : Inv (Sto.run s l).1 (X ++ toldS s l) := by
  induction l generalizing s X with
  | nil => unfold toldS Sto.run; rw [List.append_nil]; exact h
  | cons d l ih =>
    unfold toldS Sto.run
    rw [← List.append_assoc]
    exact ih (h.step d)
end Go.Proofs.Ythhcdfjijagalaa.Sto
namespace Go.Proofs.Ythhcdfjijagalaa.Sto
set_option linter.unusedVariables false
theorem find_cons (a : Hd) (t : List Hd) (k : Int) : find (a :: t) k = if a.seg = k then some a.b else find t k := rfl
theorem setB_cons (a : Hd) (t : List Hd) (k : Int) (x : List UInt8) : setB (a :: t) k x = if a.seg = k then ⟨a.seg, x⟩ :: t else a :: setB t k x := rfl
theorem insB_cons (a : Hd) (t : List Hd) (k : Int) (x : List UInt8) : insB (a :: t) k x = if a.seg < k then a :: insB t k x else ⟨k, x⟩ :: a :: t := rfl
theorem find_setB_same {l : List Hd} {k : Int} {b : List UInt8} (x : List UInt8) (h : find l k = some b) : find (setB l k x) k = some x := by
  induction l with
  | nil => cases h
  | cons a t ih =>
    rw [find_cons] at h
    rw [setB_cons]
    by_cases e : a.seg = k
    · rw [if_pos e, find_cons, if_pos e]
    · rw [if_neg e] at h ⊢
      rw [find_cons, if_neg e]; exact ih h
theorem find_setB_other (l : List Hd) {k j : Int} (x : List UInt8) (hj : j ≠ k) : find (setB l k x) j = find l j := by
  induction l with
  | nil => rfl
  | cons a t ih =>
    rw [setB_cons]
    by_cases e : a.seg = k
    · have h1 : ¬ a.seg = j := fun h => hj (h.symm.trans e)
      rw [if_pos e, find_cons, find_cons, if_neg h1, if_neg h1]
    · rw [if_neg e, find_cons, find_cons, ih]
theorem find_insB_same (l : List Hd) (k : Int) (x : List UInt8) : find (insB l k x) k = some x := by
  induction l with
  | nil => show find (⟨k, x⟩ :: []) k = _; rw [find_cons, if_pos rfl]
  | cons a t ih =>
    rw [insB_cons]
    by_cases e : a.seg < k
    · rw [if_pos e, find_cons, if_neg (by omega), ih]
    · rw [if_neg e, find_cons, if_pos rfl]
theorem find_insB_other (l : List Hd) {k j : Int} (x : List UInt8) (hj : j ≠ k) : find (insB l k x) j = find l j := by
  induction l with
  | nil => show find (⟨k, x⟩ :: []) j = _; rw [find_cons, if_neg (by intro h; exact hj h.symm)]
  | cons a t ih =>
    rw [insB_cons]
    by_cases e : a.seg < k
    · rw [if_pos e, find_cons, find_cons, ih]
    · rw [if_neg e, find_cons, if_neg (by intro h; exact hj h.symm)]
theorem find_putB_same (l : List Hd) (k : Int) (x : List UInt8) : find (putB l k x) k = some x := by
  cases h : find l k with
  | none => unfold putB; rw [h]; exact find_insB_same l k x
  | some b => unfold putB; rw [h]; exact find_setB_same x h
theorem find_putB_other (l : List Hd) {k j : Int} (x : List UInt8) (hj : j ≠ k) : find (putB l k x) j = find l j := by
  cases h : find l k with
  | none => unfold putB; rw [h]; exact find_insB_other l x hj
  | some b => unfold putB; rw [h]; exact find_setB_other l x hj
theorem find_mem {l : List Hd} {k : Int} {b : List UInt8} (h : find l k = some b) : ∃ a ∈ l, a.seg = k := by
  induction l with
  | nil => cases h
  | cons a t ih =>
    rw [find_cons] at h
    by_cases e : a.seg = k
    · exact ⟨a, by simp, e⟩
    · rw [if_neg e] at h
      obtain ⟨x, hx, e⟩ := ih h
      exact ⟨x, by simp [hx], e⟩
theorem wrD_gone (x : Dk) (k : Int) (b : List UInt8) : (wrD x k b).gone = x.gone := by unfold wrD; split <;> rfl
theorem wrD_same {x : Dk} (h : x.gone = false) (k : Int) (b : List UInt8) : find (wrD x k b).bl k = some b := by
  unfold wrD; rw [if_neg (by rw [h]; decide)]; exact find_putB_same _ _ _
theorem wrD_other (x : Dk) {k j : Int} (b : List UInt8) (hj : j ≠ k) : find (wrD x k b).bl j = find x.bl j := by
  unfold wrD
  split
  · rfl
  · exact find_putB_other _ _ hj
theorem wrD_no {x : Dk} (h : x.gone = true) (k : Int) (b : List UInt8) : wrD x k b = x := by unfold wrD; rw [if_pos h]
theorem write_get (ds : List Dk) (k : Int) (L : List (List UInt8)) (i : Nat) : (write ds k L)[i]? = ds[i]?.map fun x => wrD x k (L.getD i []) := by
  unfold write
  rw [List.getElem?_map]
  by_cases h : i < ds.length
  · rw [List.getElem?_range h, List.getElem?_eq_getElem h]
    simp [List.getD, h]
  · rw [List.getElem?_eq_none (by simpa using h), List.getElem?_eq_none (by omega)]; rfl
theorem write_at {ds : List Dk} {k : Int} {L : List (List UInt8)} {i : Nat} {y : Dk} (h : (write ds k L)[i]? = some y) : ∃ x, ds[i]? = some x ∧ y = wrD x k (L.getD i []) := by
  rw [write_get] at h
  obtain ⟨x, h1, h2⟩ := Option.map_eq_some_iff.1 h
  exact ⟨x, h1, h2.symm⟩
theorem blocks_row (ds : List Dk) (k : Int) (i : Nat) {x : Dk} (h : ds[i]? = some x) : (blocks ds k).getD i [] = blockOf x k := by
  unfold blocks; rw [List.getD, List.getElem?_map, h]; rfl
theorem nodup_sub {α : Type} [DecidableEq α] : ∀ (U V : List α), U.Nodup → (∀ u ∈ U, u ∈ V) → U.length ≤ V.length
  | [], V, _, _ => Nat.zero_le _
  | u :: U, V, hn, hs => by
    have h1 := List.nodup_cons.1 hn
    have h2 : u ∈ V := hs u (by simp)
    have := nodup_sub U (V.erase u) h1.2 (fun x hx => (List.mem_erase_of_ne (by intro e; subst e; exact h1.1 hx)).2 (hs x (by simp [hx])))
    rw [List.length_erase_of_mem h2] at this
    have := List.length_pos_of_mem h2
    rw [List.length_cons]; omega
/-- one byte is another one -/
def Turned (r b : List UInt8) : Prop := ∃ (t : Nat) (y : UInt8) (h : t < r.length), y ≠ r[t] ∧ b = r.set t y
/-- what disks hold: G are the batches of segments, L the blocks that were laid; had: what was spoilt; H: which disks were harmed -/
structure Core (s : St) (G : Nat → List Evt.Ba) (L : Nat → List (List UInt8)) (had : List (Int × Int)) (H : Nat → Prop) : Prop where
  fit : ∀ k : Nat, k < s.segs → (Evt.bytesR (G k)).err = 0 ∧ Stp.LayR (Evt.bytesR (G k)).l (k : Int) s.data s.spare (L k) 0
  gone : ∀ x ∈ s.disks, x.gone = true → x.bl = []
  hold : ∀ (i : Nat) (x : Dk), s.disks[i]? = some x → ∀ (k : Nat) (b : List UInt8), k < s.segs → find x.bl k = some b → b = (L k).getD i [] ∨ (((i : Int), (k : Int)) ∈ had ∧ Turned ((L k).getD i []) b)
  safe : ∀ (i : Nat) (x : Dk), s.disks[i]? = some x → ¬ H i → x.gone = false ∧ ∀ k : Nat, k < s.segs → find x.bl k = some ((L k).getD i [])
def tot (s : St) (G : Nat → List Evt.Ba) : List Evt.Ba := (List.range s.segs).flatMap G ++ s.tail
/-- places at which a block is not the one that was laid -/
def wr (ds : List Dk) (k : Nat) (L : List (List UInt8)) : List Nat := (List.range L.length).filter fun i => !decide ((blocks ds k).getD i [] = L.getD i [])
section
variable {s : St} {K : Nat} {G : Nat → List Evt.Ba} {L : Nat → List (List UInt8)} {had : List (Int × Int)} {H : Nat → Prop}
theorem Core.start (d p b : Int) (G : Nat → List Evt.Ba) (L : Nat → List (List UInt8)) (H : Nat → Prop) : Core (start d p b) G L [] H := by
  refine ⟨fun k hk => absurd hk (Nat.not_lt_zero _), fun x hx _ => ?_, fun i x hx k b hk => absurd hk (Nat.not_lt_zero _), fun i x hx _ => ⟨?_, fun k hk => absurd hk (Nat.not_lt_zero _)⟩⟩
  · have hx : x ∈ List.replicate (d + p).toNat (⟨false, []⟩ : Dk) := hx
    obtain ⟨_, rfl⟩ := List.mem_replicate.1 hx
    rfl
  · have hx : x ∈ List.replicate (d + p).toNat (⟨false, []⟩ : Dk) := List.mem_of_getElem? hx
    obtain ⟨_, rfl⟩ := List.mem_replicate.1 hx
    rfl
theorem Core.congr {s' : St} (h : Core s G L had H) (e1 : s'.data = s.data) (e2 : s'.spare = s.spare) (e3 : s'.disks = s.disks) (e4 : s'.segs = s.segs) : Core s' G L had H :=
  ⟨by rw [e1, e2, e4]; exact h.fit, by rw [e3]; exact h.gone, by rw [e3, e4]; exact h.hold, by rw [e3, e4]; exact h.safe⟩
theorem Core.mono {had' : List (Int × Int)} {H' : Nat → Prop} (h : Core s G L had H) (h1 : ∀ x ∈ had, x ∈ had') (h2 : ∀ i, H i → H' i) : Core s G L had' H' :=
  ⟨h.fit, h.gone, fun i x hx k b hk hb => (h.hold i x hx k b hk hb).imp id (fun e => ⟨h1 _ e.1, e.2⟩), fun i x hx hn => h.safe i x hx (fun e => hn (h2 i e))⟩
theorem Core.laid (h : Core s G L had H) (ho : Ok s K) {k : Nat} (hk : k < s.segs) : ∃ d' s' S, s.data = ((d' : Nat) : Int) ∧ s.spare = ((s' : Nat) : Int) ∧ s.disks.length = d' + s' ∧ Stp.Laid (Evt.bytesR (G k)).l k d' s' S (L k) := by
  obtain ⟨_, h2⟩ := h.fit k hk
  obtain ⟨g', d', s', S, e1, e2, e3, hl⟩ := h2.laid rfl
  obtain rfl : k = g' := by omega
  have := ho.nd
  exact ⟨d', s', S, e2, e3, by omega, hl⟩
theorem Core.len (h : Core s G L had H) (ho : Ok s K) {k : Nat} (hk : k < s.segs) : (L k).length = s.disks.length := by
  obtain ⟨d', s', S, e1, e2, e3, hl⟩ := h.laid ho hk
  rw [hl.len, e3]
theorem Core.ne (h : Core s G L had H) (ho : Ok s K) {k : Nat} (hk : k < s.segs) {i : Nat} (hi : i < s.disks.length) : (L k).getD i [] ≠ [] := by
  obtain ⟨d', s', S, e1, e2, e3, hl⟩ := h.laid ho hk
  intro e
  have h1 := hl.right (i := i) (by omega) (k : Int) (i : Int)
  rw [e, Stp.right_nil] at h1
  simp at h1
theorem Core.hurt (h : Core s G L had H) (ho : Ok s K) {k : Nat} (hk : k < s.segs) : Stp.Hurt (L k) (blocks s.disks k) (wr s.disks k (L k)) := by
  have hlen := h.len ho hk
  refine ⟨by rw [blocks_len, hlen], List.nodup_range.filter _, fun u hu => List.mem_range.1 (List.mem_filter.1 hu).1, fun i hi => ?_, fun i hi => ?_⟩
  · by_cases hlt : i < (L k).length
    · refine Classical.byContradiction fun hne => hi (List.mem_filter.2 ⟨List.mem_range.2 hlt, ?_⟩)
      rw [decide_eq_false hne]; rfl
    · rw [List.getD, List.getElem?_eq_none (by rw [blocks_len]; omega), List.getD, List.getElem?_eq_none (by omega)]
  · obtain ⟨h1, h2⟩ := List.mem_filter.1 hi
    have h1 : i < s.disks.length := by rw [← hlen]; exact List.mem_range.1 h1
    have hx : s.disks[i]? = some s.disks[i] := List.getElem?_eq_getElem h1
    have hne : (blocks s.disks k).getD i [] ≠ (L k).getD i [] := by simpa using h2
    rw [blocks_row _ _ _ hx] at hne ⊢
    unfold blockOf at hne ⊢
    by_cases hg : s.disks[i].gone = true
    · rw [if_pos hg]; exact .inl rfl
    · rw [if_neg hg] at hne ⊢
      cases hf : find s.disks[i].bl k with
      | none => exact .inl rfl
      | some b =>
        rw [hf] at hne
        rcases h.hold i _ hx k b hk hf with e | ⟨_, t, y, ht, hy, e⟩
        · exact absurd e hne
        · exact .inr ⟨t, y, ht, hy, e⟩
theorem Core.read (h : Core s G L had H) (ho : Ok s K) {k : Nat} (hk : k < s.segs) (hw : ((wr s.disks k (L k)).length : Int) ≤ s.spare) : Stp.readF (blocks s.disks k) k s.data = ((Evt.bytesR (G k)).l, 0) := by
  obtain ⟨d', s', S, e1, e2, e3, hl⟩ := h.laid ho hk
  have h1 := Stp.readF_spec (blocks s.disks k) k s.data
  rw [e1] at h1 ⊢
  obtain ⟨h2, h3⟩ := (h.hurt ho hk).read hl (by omega) h1
  exact Prod.ext h2 h3
theorem Core.lost (h : Core s G L had H) (ho : Ok s K) {k : Nat} (hk : k < s.segs) (hw : s.spare < ((wr s.disks k (L k)).length : Int)) : Stp.readF (blocks s.disks k) k s.data = ([], 10) := by
  obtain ⟨d', s', S, e1, e2, e3, hl⟩ := h.laid ho hk
  have h1 := Stp.readF_spec (blocks s.disks k) k s.data
  rw [e1] at h1 ⊢
  obtain ⟨h2, h3⟩ := (h.hurt ho hk).lost hl (by omega) h1
  exact Prod.ext h2 h3
theorem Core.one (h : Core s G L had H) (ho : Ok s K) {k : Nat} (hk : k < s.segs) (hw : ((wr s.disks k (L k)).length : Int) ≤ s.spare) {l : List Evt.Ba} (ha : allTo s.disks s.data k = (l, 0)) : allTo s.disks s.data (k + 1) = (l ++ G k, 0) := by
  have h1 := h.read ho hk hw
  have h2 := Evt.parse_bytes (G k) (h.fit k hk).1
  have := allTo_more ha (by rw [h1]) (by rw [h1]; show (Evt.parse (Evt.bytesR (G k)).l).err = 0; rw [h2])
  rw [h1] at this
  rw [this]
  show (l ++ (Evt.parse (Evt.bytesR (G k)).l).l, (0 : Int)) = _
  rw [h2]
theorem range_flat {α : Type} (G : Nat → List α) (k : Nat) : (List.range (k + 1)).flatMap G = (List.range k).flatMap G ++ G k := by
  rw [List.range_succ, List.flatMap_append]; simp
theorem Core.allTo (h : Core s G L had H) (ho : Ok s K) : ∀ k, k ≤ s.segs → (∀ j, j < k → ((wr s.disks j (L j)).length : Int) ≤ s.spare) → Sto.allTo s.disks s.data k = ((List.range k).flatMap G, 0)
  | 0, _, _ => rfl
  | k + 1, hk, hw => by
    have ih := Core.allTo h ho k (by omega) (fun j hj => hw j (by omega))
    rw [h.one ho (by omega) (hw k (by omega)) ih, range_flat]
theorem Core.all_ok (h : Core s G L had H) (ho : Ok s K) (hw : ∀ j, j < s.segs → ((wr s.disks j (L j)).length : Int) ≤ s.spare) : Sto.all s = (tot s G, 0) := Sto.all_ok (h.allTo ho s.segs (Nat.le_refl _) hw)
/-- what is wrong lies on harmed disks alone -/
theorem Core.wr_safe (h : Core s G L had H) (ho : Ok s K) {k : Nat} (hk : k < s.segs) {u : Nat} (hu : u ∈ wr s.disks k (L k)) : H u := by
  refine Classical.byContradiction fun hn => ?_
  obtain ⟨h1, h2⟩ := List.mem_filter.1 hu
  have h1 : u < s.disks.length := by rw [← h.len ho hk]; exact List.mem_range.1 h1
  have hx : s.disks[u]? = some s.disks[u] := List.getElem?_eq_getElem h1
  have hne : (blocks s.disks k).getD u [] ≠ (L k).getD u [] := by simpa using h2
  obtain ⟨hg, hf⟩ := h.safe u _ hx hn
  apply hne
  rw [blocks_row _ _ _ hx]
  unfold blockOf
  rw [if_neg (by rw [hg]; decide), hf k hk]; rfl
/-- no more than n disks are harmed -/
def Few (H : Nat → Prop) (n : Int) : Prop := ∀ U : List Nat, U.Nodup → (∀ u ∈ U, H u) → (U.length : Int) ≤ n
theorem Core.few (h : Core s G L had H) (ho : Ok s K) (hf : Few H s.spare) : ∀ j, j < s.segs → ((wr s.disks j (L j)).length : Int) ≤ s.spare := fun j hj =>
  hf _ (List.nodup_range.filter _) (fun u hu => h.wr_safe ho hj hu)
/-- a new segment -/
theorem Core.seal {s' : St} (h : Core s G L had H) (ho : Ok s K) (t : List Evt.Ba) (L' : List (List UInt8)) (ht : (Evt.bytesR t).err = 0) (hl : Stp.LayR (Evt.bytesR t).l (s.segs : Int) s.data s.spare L' 0) (e1 : s'.data = s.data) (e2 : s'.spare = s.spare) (e3 : s'.disks = write s.disks s.segs L') (e4 : s'.segs = s.segs + 1) :
    Core s' (fun k => if k = s.segs then t else G k) (fun k => if k = s.segs then L' else L k) had H := by
  refine ⟨fun k hk => ?_, fun x hx hg => ?_, fun i y hy k b hk hb => ?_, fun i y hy hn => ?_⟩
  · rw [e1, e2]
    by_cases e : k = s.segs
    · subst e; simp only [if_true]; exact ⟨ht, hl⟩
    · simp only [if_neg e]; exact h.fit k (by omega)
  · rw [e3] at hx
    obtain ⟨y, hy, b, rfl⟩ := write_mem hx
    rw [wrD_gone] at hg
    rw [wrD_no hg]
    exact h.gone y hy hg
  · rw [e3] at hy
    obtain ⟨x, hx, rfl⟩ := write_at hy
    by_cases e : k = s.segs
    · subst e
      simp only [if_true]
      by_cases hg : x.gone = true
      · rw [wrD_no hg, h.gone x (List.mem_of_getElem? hx) hg] at hb; cases hb
      · rw [wrD_same (by simpa using hg)] at hb
        injection hb with hb
        exact .inl hb.symm
    · simp only [if_neg e]
      rw [wrD_other _ _ (by omega)] at hb
      exact h.hold i x hx k b (by omega) hb
  · rw [e3] at hy
    obtain ⟨x, hx, rfl⟩ := write_at hy
    obtain ⟨hg, hf⟩ := h.safe i x hx hn
    refine ⟨by rw [wrD_gone]; exact hg, fun k hk => ?_⟩
    by_cases e : k = s.segs
    · subst e; simp only [if_true]; exact wrD_same hg _ _
    · simp only [if_neg e]
      rw [wrD_other _ _ (by omega)]
      exact hf k (by omega)
/-- a segment is written as it was laid -/
theorem Core.mend {ds : List Dk} (h : Core { s with disks := ds } G L had H) {k : Nat} (hk : k < s.segs) : Core { s with disks := write ds k (L k) } G L had H := by
  refine ⟨h.fit, fun x hx hg => ?_, fun i y hy j b hj hb => ?_, fun i y hy hn => ?_⟩
  · obtain ⟨y, hy, b, rfl⟩ := write_mem hx
    rw [wrD_gone] at hg
    rw [wrD_no hg]
    exact h.gone y hy hg
  · obtain ⟨x, hx, rfl⟩ := write_at hy
    by_cases e : j = k
    · subst e
      by_cases hg : x.gone = true
      · rw [wrD_no hg, h.gone x (List.mem_of_getElem? hx) hg] at hb; cases hb
      · rw [wrD_same (by simpa using hg)] at hb
        injection hb with hb
        exact .inl hb.symm
    · rw [wrD_other _ _ (by omega)] at hb
      exact h.hold i x hx j b hj hb
  · obtain ⟨x, hx, rfl⟩ := write_at hy
    obtain ⟨hg, hf⟩ := h.safe i x hx hn
    refine ⟨by rw [wrD_gone]; exact hg, fun j hj => ?_⟩
    by_cases e : j = k
    · subst e; exact wrD_same hg _ _
    · rw [wrD_other _ _ (by omega)]
      exact hf j hj
/-- a disk is another one, with nothing on it -/
theorem Core.fresh (h : Core s G L had H) (n : Nat) (g : Bool) : Core { s with disks := s.disks.set n ⟨g, []⟩ } G L had (fun i => H i ∨ i = n) := by
  have get : ∀ {i : Nat} {y : Dk}, (s.disks.set n ⟨g, []⟩)[i]? = some y → (i = n ∧ y = ⟨g, []⟩) ∨ (i ≠ n ∧ s.disks[i]? = some y) := by
    intro i y hy
    by_cases e : i = n
    · subst e
      rw [List.getElem?_set] at hy
      simp only [if_true] at hy
      split at hy
      · exact .inl ⟨rfl, (Option.some.inj hy).symm⟩
      · cases hy
    · rw [List.getElem?_set_ne (fun e' => e e'.symm)] at hy
      exact .inr ⟨e, hy⟩
  refine ⟨h.fit, fun x hx hg => ?_, fun i y hy j b hj hb => ?_, fun i y hy hn => ?_⟩
  · rcases List.mem_or_eq_of_mem_set hx with hx | rfl
    · exact h.gone x hx hg
    · rfl
  · rcases get hy with ⟨rfl, rfl⟩ | ⟨_, hy⟩
    · cases hb
    · exact h.hold i y hy j b hj hb
  · rcases get hy with ⟨rfl, rfl⟩ | ⟨_, hy⟩
    · exact absurd (Or.inr rfl) hn
    · exact h.safe i y hy (fun e => hn (.inl e))
theorem set_same {b : List UInt8} {t : Nat} (ht : t < b.length) : b.set t (b.getD t 0) = b := by
  apply List.ext_getElem (by simp)
  intro i h1 h2
  rw [List.getElem_set]
  split
  · rename_i e; subst e; simp [List.getD, ht]
  · rfl
theorem xor_ne {x y : UInt8} (hy : y ≠ 0) : x ^^^ y ≠ x := by
  intro h
  apply hy
  have : x ^^^ (x ^^^ y) = x ^^^ x := by rw [h]
  rw [← UInt8.xor_assoc, UInt8.xor_self, UInt8.zero_xor] at this
  exact this
/-- a byte is turned -/
theorem Core.spoil (h : Core s G L had H) (ho : Ok s K) {n t : Nat} {g : Int} {y : UInt8} {b : List UInt8} {x : Dk} (hx : s.disks[n]? = some x) (hb : find x.bl g = some b) (ht : t < b.length) (hy : y ≠ 0 → ((n : Int), g) ∉ had) :
    Core { s with disks := s.disks.set n ⟨x.gone, setB x.bl g (b.set t (b.getD t 0 ^^^ y))⟩ } G L (if y ≠ 0 then ((n : Int), g) :: had else had) (fun i => H i ∨ i = n) := by
  have hxm := List.mem_of_getElem? hx
  obtain ⟨a, ha, hag⟩ := find_mem hb
  have hg2 := (ho.bl x hxm).2 a ha
  rw [hag] at hg2
  have hsub : ∀ z ∈ had, z ∈ (if y ≠ 0 then ((n : Int), g) :: had else had) := by
    intro z hz
    split
    · exact List.mem_cons_of_mem _ hz
    · exact hz
  have hlt := (List.getElem?_eq_some_iff.1 hx).1
  have get : ∀ {i : Nat} {z : Dk}, (s.disks.set n ⟨x.gone, setB x.bl g (b.set t (b.getD t 0 ^^^ y))⟩)[i]? = some z → (i = n ∧ z = ⟨x.gone, setB x.bl g (b.set t (b.getD t 0 ^^^ y))⟩) ∨ (i ≠ n ∧ s.disks[i]? = some z) := by
    intro i z hz
    by_cases e : i = n
    · subst e
      rw [List.getElem?_set_self hlt] at hz
      exact .inl ⟨rfl, (Option.some.inj hz).symm⟩
    · rw [List.getElem?_set_ne (fun e' => e e'.symm)] at hz
      exact .inr ⟨e, hz⟩
  refine ⟨h.fit, fun z hz hg => ?_, fun i z hz j c hj hc => ?_, fun i z hz hn => ?_⟩
  · rcases List.mem_or_eq_of_mem_set hz with hz | rfl
    · exact h.gone z hz hg
    · have : x.bl = [] := h.gone x hxm hg
      rw [this] at hb; cases hb
  · rcases get hz with ⟨rfl, rfl⟩ | ⟨_, hz⟩
    · by_cases e : (j : Int) = g
      · subst e
        rw [find_setB_same _ hb] at hc
        injection hc with hc
        by_cases hy0 : y = 0
        · subst hy0
          rw [if_neg (fun e => e rfl)]
          have : b.getD t 0 ^^^ 0 = b.getD t 0 := UInt8.xor_zero
          rw [this, set_same ht] at hc
          rw [← hc]
          exact h.hold i x hx j b hj hb
        · rw [if_pos hy0]
          rcases h.hold i x hx j b hj hb with e | ⟨e, _⟩
          · refine .inr ⟨by simp, t, _, by rw [← e]; exact ht, ?_, by rw [← e]; exact hc.symm⟩
            have : ((L j).getD i [])[t]'(by rw [← e]; exact ht) = b.getD t 0 := by
              simp only [← e]
              simp [List.getD, ht]
            rw [this]
            exact xor_ne hy0
          · exact absurd e (hy hy0)
      · rw [find_setB_other _ _ e] at hc
        exact (h.hold i x hx j c hj hc).imp id (fun e => ⟨hsub _ e.1, e.2⟩)
    · exact (h.hold i z hz j c hj hc).imp id (fun e => ⟨hsub _ e.1, e.2⟩)
  · rcases get hz with ⟨rfl, rfl⟩ | ⟨_, hz⟩
    · exact absurd (Or.inr rfl) hn
    · exact h.safe i z hz (fun e => hn (.inl e))
end
end Go.Proofs.Ythhcdfjijagalaa.Sto
