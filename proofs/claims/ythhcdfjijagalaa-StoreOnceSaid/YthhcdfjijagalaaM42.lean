/- Joined, and what is not used struck: SpY, SpZ, SpV2. -/
import Derived.Test.YthhcdfjijagalaaM40
import Derived.Test.YthhcdfjijagalaaM36
import Derived.Test.YthhcdfjijagalaaM41
namespace Go.Proofs.Ythhcdfjijagalaa
open Go.RowKit Go.Maps
set_option linter.unusedVariables false
set_option linter.unusedSimpArgs false
set_option maxRecDepth 100000
theorem below_set {w w' : World} {base b i : Nat} {v : Value} (h : Below base w w') (hb : base ≤ b) : Below base w (w'.setCell ⟨b, i, none⟩ v) := h.setCell (p := ⟨b, i, none⟩) hb v
theorem plus_doX {w1 w5 : World} {base n n5 : Nat} {v5 : Value} {X Y : List Dod} {l : List Sto.Do} (hX : X.map Dod.d = l) (hl : X.length = n) (hE : ∀ x ∈ X, Es w1 x.a x.n x.cap x.d.b.evs ∧ x.d.stream.size ≤ maxLen) (hb : Below w1.heap.size w1 w5)
    (hY : ∀ x ∈ Y, Es w1 x.a x.n x.cap x.d.b.evs ∧ x.d.stream.size ≤ maxLen) (ho : w5.ownsRow base 29 9 v5 n5 (rows do9 X ++ rows do9 Y)) (hn : n5 = n + Y.length) : ∃ a5 c5, v5 = .slice a5 n5 c5 ∧ Dos w5 a5 n5 c5 (l ++ Y.map Dod.d) := by
  obtain ⟨a5, c5, e, hs⟩ := own_sl ho
  rw [← rows_append] at hs
  have h1 := dos_of hs (fun x hx => by
    rcases List.mem_append.1 hx with hx | hx
    · exact (hE x hx).1.below hb
    · exact (hY x hx).1.below hb) (fun x hx => by
    rcases List.mem_append.1 hx with hx | hx
    · exact (hE x hx).2
    · exact (hY x hx).2)
  rw [List.map_append, hX] at h1
  exact ⟨a5, c5, e, h1⟩
/-- how large a store may be -/
theorem Sto.Ok.sizes {s : Sto.St} {K : Nat} (h : Sto.Ok s K) : s.disks.length ≤ 12 ∧ (∀ x ∈ s.disks, x.bl.length ≤ 40) ∧ s.tail.length ≤ 10 ∧ s.seen.length ≤ K := by
  refine ⟨by have := h.nd; have := h.d; have := h.sp; omega, fun x hx => ?_, by have := h.t; have := h.b; omega, h.seen⟩
  obtain ⟨h1, h2⟩ := h.bl x hx
  have := Sto.rise_len (x.bl.map Sto.Hd.seg) 0 (s.segs : Int) h1 (fun g hg => by
    obtain ⟨y, hy, rfl⟩ := List.mem_map.1 hg
    exact h2 y hy)
  rw [List.length_map] at this
  have := h.g
  omega
/-- two stores in memory that are one -/
theorem same_st {w : World} {base base' K : Nat} {m m' : Mst} (h : StM w base m) (h' : StM w base' m') (hst : m'.st = m.st) (hok : Sto.Ok m.st K) (hK : K ≤ 100) : Calls Try.prog 25 #[stVal m, stVal m'] w (Grew (.bool true) w) := by
  obtain ⟨h1, h2, h3, h4⟩ := hok.sizes
  have e1 : m.st.disks = m.D.map Dm.dk := rfl
  have e3 : m.st.tail = m.T.map Rb.ba := rfl
  have e4 : m.st.seen = m.seen := rfl
  rw [e1] at h1 h2
  rw [e3] at h3
  rw [e4] at h4
  rw [List.length_map] at h1 h3
  exact rSameS_same base base' m m' w h h' hst.symm (by omega) (fun x hx => by
    have h5 := h2 _ (List.mem_map.2 ⟨x, hx, rfl⟩)
    have e : x.dk.bl.length = x.H.length := by show (x.H.map Hm.hd).length = _; rw [List.length_map]
    omega) (by omega) (by omega)
/-- said twice: what Play makes of it -/
theorem Sto.once_play {d p b : Int} {l : List Sto.Do} {k : Nat} (hw : Sto.wrongS d p b = 0) (h80 : l.length < 80) (hk : k < l.length) (h1 : l[k].kind = 1) {x : Sto.An} (hx : (Sto.run (Sto.start d p b) l).2[k]? = some x) (he : x.err = 0) (v : Int) :
    Sto.play d p b (l ++ [{ l[k] with ver := v }]) = ((Sto.run (Sto.start d p b) l).1, (Sto.run (Sto.start d p b) l).2 ++ [Sto.anN ((Sto.toldTo l (Sto.run (Sto.start d p b) l).2 l.length).2.length : Int)], 0) := by
  rw [Sto.play_of hw (by simp only [List.length_append, List.length_cons, List.length_nil]; omega), Sto.run_snoc', Sto.once_law hk h1 hx he v]
end Go.Proofs.Ythhcdfjijagalaa
namespace Go.Proofs.Ythhcdfjijagalaa
open Go.RowKit Go.Maps
set_option linter.unusedVariables false
set_option linter.unusedSimpArgs false
set_option maxRecDepth 100000
set_option maxHeartbeats 8000000 in
theorem StoreOnce_walk (sd ss sb : Int) (a : Option Addr) (n cap : Nat) (l : List Sto.Do) (p : Int) (w : World) (hD : Dos w a n cap l) (hF : ∀ d ∈ l, Fits d) : Calls Try.prog 8 #[.agg #[.int .i64 sd, .int .i64 ss, .int .i64 sb], .slice a n cap, .int .i64 p] w (Grew (.bool true) w) := by
  have HD := hid hD
  have HF := hid hF
  have HN := hid hD.cnt
  have hle := hD.le
  have hmax := hD.max
  unfold maxLen at hmax
  clear hD hF
  have B0 := blk_new w (.cells #[.int .i64 sd, .int .i64 ss, .int .i64 sb] 37)
  have bS := (Below.refl w.heap.size w).alloc (Nat.le_refl _) (.cells #[.int .i64 sd, .int .i64 ss, .int .i64 sb] 37)
  go_enter Try.func8, Try.ntmps8
  go_wp2_with fail
  go_at_call 21; refine (alive8_call _).mono ?_; rintro e w1 ⟨rfl, b1⟩
  have v1 := blk_below B0 b1
  have r0 : w1.cell? ⟨w.heap.size, 0, none⟩ = some (.int .i64 sd) := blk_cell v1
  have r1 : w1.cell? ⟨w.heap.size, 1, none⟩ = some (.int .i64 ss) := blk_cell v1
  have r2 : w1.cell? ⟨w.heap.size, 2, none⟩ = some (.int .i64 sb) := blk_cell v1
  have bA := hid (bnext bS b1)
  have SU1 := hid v1
  have DP := hid (stPlay_call sd ss sb a n cap l w1 (HD.out.below bA.out))
  clear b1 bS B0 v1
  go_wp2_with fail
  go_at_call 19; refine DP.out.mono ?_; rintro e w2 ⟨m, av, ac, L, er, rfl, hM, hA, hP, b2⟩
  have SU2 := hid (blk_below SU1.out b2)
  obtain ⟨va, vc, ta, tc, sa, sc, aa, ac2, hv, hv1, hv2, hv3, hv4⟩ := hM.val
  have HVV := hid hv
  rw [hv]
  replace hv4 := hid hv4
  replace hP := hid hP
  obtain ⟨-, hAm⟩ := hA.amv
  have HA := hid hAm
  have HMM := hid hM
  have bB := hid (bnext bA.out b2)
  have hs2 := bB.out.size
  clear hM hA hAm hv hv1 hv2 hv3 DP b2 r0 r1 r2
  by_cases he : er = 0
  · subst he
    obtain ⟨hw, h80, hst, hLm⟩ := Sto.play_ok hP.out
    rw [HN.out] at h80
    have HW := hid hw
    have HST := hid hst
    have HLM := hid hLm
    have H10 := hid (run_ten (Sto.start sd ss sb) l)
    rw [← hLm] at H10
    have hLl : L.length = n := by have := congrArg List.length hLm; rw [List.length_map, Sto.run_len, HN.out] at this; exact this
    have HLL := hid hLl
    rw [hLl] at HA
    rw [hLl]
    clear hw hst hLm hLl hP
    have bC := hid (bB.out.alloc hs2 (.cells #[.int .i64 m.d, .int .i64 m.s, .int .i64 m.b, .slice va m.D.length vc, .int .i64 (m.g : Int), .slice ta m.T.length tc, .slice sa m.seen.length sc, .int .i64 m.u, .slice aa m.A.length ac2] 44))
    have HA2 := hid (HA.out.below ((Below.refl _ _).alloc (Nat.le_refl _) (.cells #[.int .i64 m.d, .int .i64 m.s, .int .i64 m.b, .slice va m.D.length vc, .int .i64 (m.g : Int), .slice ta m.T.length tc, .slice sa m.seen.length sc, .int .i64 m.u, .slice aa m.A.length ac2] 44)))
    have hne : (29 : TypeId) ≠ 44 := by decide
    by_cases hp0 : p < 0
    · go_wp2_with fail
      go_ret
      exact ⟨rfl, bC.out⟩
    obtain ⟨k, rfl⟩ := Int.eq_ofNat_of_zero_le (a := p) (by omega)
    by_cases hpn : n ≤ k
    · have hpn' : (n : Int) ≤ (k : Int) := by omega
      have hp0' : (0 : Int) ≤ (k : Int) := by omega
      go_wp2_with fail
      go_ret
      exact ⟨rfl, bC.out⟩
    have hpn' : (k : Int) < (n : Int) := by omega
    have hp0' : (0 : Int) ≤ (k : Int) := by omega
    by_cases hn80 : n = 80
    · have hn80' : (80 : Int) ≤ (n : Int) := by omega
      replace hn80 := hid hn80
      go_wp2_with fail
      go_ret
      exact ⟨rfl, bC.out⟩
    have hn80' : (n : Int) < 80 := by omega
    have hkl : k < l.length := by rw [HN.out]; omega
    have hkL : k < L.length := by rw [HLL.out]; omega
    obtain ⟨db, off, rfl, hdo⟩ := HD.out.addr (by omega)
    obtain ⟨ab, aoff, rfl⟩ := HA.out.free (by omega)
    have hdr := (hdo k hkl).below bC.out
    obtain ⟨ea, en, ec, c6, hEs⟩ := hdr.evs
    have HDR := hid hdr
    have HES := hid hEs
    have hoA := HA2.out.at k hkL
    obtain ⟨z0, -⟩ := hoA
    have hLk : (L.map Am.an)[k]? = some L[k].an := by rw [List.getElem?_map, List.getElem?_eq_getElem hkL]; rfl
    have HPL := hid (fun (h1 : l[k].kind = 1) (h2 : L[k].an.err = 0) => Sto.once_play (v := 7) HW.out (by rw [HN.out]; omega) hkl h1 (by rw [← HLM.out]; exact hLk) h2)
    rw [← HLM.out, ← HST.out, HN.out] at HPL
    have hso := hid hdr.ok
    have k0 := hdr.kind
    have k1 := hdr.n
    have k2 := hdr.seg
    have k3 := hdr.t
    have k4 := hdr.y
    have k5 := hdr.c
    have k7 := hdr.stream
    have k8 := hdr.ver
    have HAT := hid HA2.out
    clear hdo hEs hLk hdr
    have HOK := hid (show Sto.Ok m.st (0 + l.length) from by rw [HST.out]; exact (Sto.Ok.start HW.out).run l)
    have DT := hid (fun W' (hW : Below w.heap.size w W') (hAW : Amv W' (some ⟨ab, aoff, none⟩) n ac L) => told8_call (some ⟨db, off, none⟩) n cap l (some ⟨ab, aoff, none⟩) n ac L n W' (HD.out.below hW) hAW (Nat.le_refl _) (Nat.le_refl _) (by omega) HF.out H10.out)
    have hRl := hid (Sto.toldTo_len l (L.map Am.an) H10.out n)
    generalize (Sto.toldTo l (L.map Am.an) n).2 = R at *
    generalize hdk : l[k] = d at *
    generalize L[k] = x at *
    replace hdk := hid hdk
    obtain ⟨W, hW⟩ : ∃ W, W = w2.alloc (.cells #[.int .i64 m.d, .int .i64 m.s, .int .i64 m.b, .slice va m.D.length vc, .int .i64 (m.g : Int), .slice ta m.T.length tc, .slice sa m.seen.length sc, .int .i64 m.u, .slice aa m.A.length ac2] 44) := ⟨_, rfl⟩
    rw [← hW] at k0 k1 k2 k3 k4 k5 c6 k7 k8 z0
    have C0 := hid (blk_new w2 (.cells #[.int .i64 m.d, .int .i64 m.s, .int .i64 m.b, .slice va m.D.length vc, .int .i64 (m.g : Int), .slice ta m.T.length tc, .slice sa m.seen.length sc, .int .i64 m.u, .slice aa m.A.length ac2] 44))
    have SUW := hid (blk_old (o' := (.cells #[.int .i64 m.d, .int .i64 m.s, .int .i64 m.b, .slice va m.D.length vc, .int .i64 (m.g : Int), .slice ta m.T.length tc, .slice sa m.seen.length sc, .int .i64 m.u, .slice aa m.A.length ac2] 44)) SU2.out)
    rw [← hW] at bC HA2 HAT HDR HES C0 SUW
    have hbW2 : Below w2.heap.size w2 W := by rw [hW]; exact (Below.refl _ _).alloc (Nat.le_refl _) _
    have hWs : w2.heap.size < W.heap.size := blk_lt C0.out
    have HW2 := hid hW
    clear hW
    go_upto_region 4 with (fail)
    rw [← HW2.out]
    by_cases hk1 : d.kind = 1
    · have t1 : (d.kind != 1) = false := by rw [hk1]; rfl
      by_cases hx0 : x.err = 0
      · have t2 : (x.err != 0) = false := by rw [hx0]; rfl
        have HP := hid (HPL.out hk1 hx0)
        replace hk1 := hid hk1
        replace hx0 := hid hx0
        clear HPL
        go_upto_region 8 with (fail)
        obtain ⟨V, hV⟩ : ∃ V, V = W.alloc (.cells #[.int .i64 d.kind, .int .i64 d.n, .int .i64 d.seg, .int .i64 d.t, .int .u8 (d.y.toNat : Int), .int .i64 d.b.c, .slice ea en ec, .string d.stream, .int .i64 7] 29) := ⟨_, rfl⟩
        rw [← hV]
        have vb : V.heap[W.heap.size]? = some (.cells #[.int .i64 d.kind, .int .i64 d.n, .int .i64 d.seg, .int .i64 d.t, .int .u8 (d.y.toNat : Int), .int .i64 d.b.c, .slice ea en ec, .string d.stream, .int .i64 7] 29 (0, 0)) := by rw [hV]; exact blk_new W _
        have hbWV : Below W.heap.size W V := by rw [hV]; exact (Below.refl _ _).alloc (Nat.le_refl _) _
        have bV := hid (bnext bC.out hbWV)
        have su : V.heap[w.heap.size]? = some (.cells #[.int .i64 sd, .int .i64 ss, .int .i64 sb] 37 (0, 0)) := blk_below SUW.out hbWV
        have hwV : w.heap.size < V.heap.size := blk_lt su
        have hDV : W.heap.size < V.heap.size := blk_lt vb
        replace hV := hid hV
        have CK := hid (show ∀ W', Below V.heap.size V W' → W'.cell? ⟨w.heap.size, 0, none⟩ = some (.int .i64 sd) ∧ W'.cell? ⟨w.heap.size, 1, none⟩ = some (.int .i64 ss) ∧ W'.cell? ⟨w.heap.size, 2, none⟩ = some (.int .i64 sb) ∧ W'.cell? ⟨W.heap.size, 0, none⟩ = some (.int .i64 d.kind) ∧ W'.cell? ⟨W.heap.size, 1, none⟩ = some (.int .i64 d.n) ∧ W'.cell? ⟨W.heap.size, 2, none⟩ = some (.int .i64 d.seg) ∧ W'.cell? ⟨W.heap.size, 3, none⟩ = some (.int .i64 d.t) ∧ W'.cell? ⟨W.heap.size, 4, none⟩ = some (.int .u8 (d.y.toNat : Int)) ∧ W'.cell? ⟨W.heap.size, 5, none⟩ = some (.int .i64 d.b.c) ∧ W'.cell? ⟨W.heap.size, 6, none⟩ = some (.slice ea en ec) ∧ W'.cell? ⟨W.heap.size, 7, none⟩ = some (.string d.stream) ∧ W'.cell? ⟨W.heap.size, 8, none⟩ = some (.int .i64 7) from fun W' hW' => ⟨blk_cell (blk_below su hW'), blk_cell (blk_below su hW'), blk_cell (blk_below su hW'), blk_cell (blk_below vb hW'), blk_cell (blk_below vb hW'), blk_cell (blk_below vb hW'), blk_cell (blk_below vb hW'), blk_cell (blk_below vb hW'), blk_cell (blk_below vb hW'), blk_cell (blk_below vb hW'), blk_cell (blk_below vb hW'), blk_cell (blk_below vb hW')⟩)
        obtain ⟨X, hX, hXl, hXE, hXS⟩ := (HD.out.below bV.out).cells
        have HX := hid hX
        have HXE := hid hXE
        have HXS := hid hXS
        have HYE := hid (show ∀ y ∈ [(⟨{ d with ver := 7 }, ea, en, ec⟩ : Dod)], Es V y.a y.n y.cap y.d.b.evs ∧ y.d.stream.size ≤ maxLen from fun y hy => by obtain rfl := List.mem_singleton.1 hy; exact ⟨HES.out.below hbWV, hso.out⟩)
        clear hX hXE hXS su vb k0 k1 k2 k3 k4 k5 c6 k7 k8 z0
        go_cut [11, 12, 9] (fun sB sA sE wc => BoxRes (Sto.play sd ss sb (l ++ [(⟨{ d with ver := 7 }, ea, en, ec⟩ : Dod)].map Dod.d)) V wc sB sA sE)
        case first =>
          go_region_held3 (fun w' => w'.cell? ⟨w.heap.size, 0, none⟩ = some (.int .i64 sd) ∧ w'.cell? ⟨w.heap.size, 1, none⟩ = some (.int .i64 ss) ∧ w'.cell? ⟨w.heap.size, 2, none⟩ = some (.int .i64 sb) ∧ w'.cell? ⟨W.heap.size, 0, none⟩ = some (.int .i64 d.kind) ∧ w'.cell? ⟨W.heap.size, 1, none⟩ = some (.int .i64 d.n) ∧ w'.cell? ⟨W.heap.size, 2, none⟩ = some (.int .i64 d.seg) ∧ w'.cell? ⟨W.heap.size, 3, none⟩ = some (.int .i64 d.t) ∧ w'.cell? ⟨W.heap.size, 4, none⟩ = some (.int .u8 (d.y.toNat : Int)) ∧ w'.cell? ⟨W.heap.size, 5, none⟩ = some (.int .i64 d.b.c) ∧ w'.cell? ⟨W.heap.size, 6, none⟩ = some (.slice ea en ec) ∧ w'.cell? ⟨W.heap.size, 7, none⟩ = some (.string d.stream) ∧ w'.cell? ⟨W.heap.size, 8, none⟩ = some (.int .i64 7)) ((refine CK.out _ ?_; (repeat (first | with_reducible assumption | with_reducible exact Below.refl _ _ | with_reducible refine below_drewN ?_ _ | with_reducible refine Below.drew ?_ | with_reducible refine Below.alloc ?_ (by (first | omega | (simp only [heap_alloc, heap_drew, Array.size_push]; omega))) _ | with_reducible refine below_set ?_ (by (first | omega | (simp only [heap_alloc, heap_drew, Array.size_push]; omega))))); done))
            (first
              | (go_at_call 19; refine (stPlay_call sd ss sb a5 (n + 1) c5 _ _ (hD5.below (by (repeat (first | with_reducible assumption | with_reducible exact Below.refl _ _ | with_reducible refine below_drewN ?_ _ | with_reducible refine Below.drew ?_ | with_reducible refine Below.alloc ?_ (by (first | omega | (simp only [heap_alloc, heap_drew, Array.size_push]; omega))) _ | with_reducible refine below_set ?_ (by (first | omega | (simp only [heap_alloc, heap_drew, Array.size_push]; omega)))))))).mono ?_; rintro e w6 ⟨m', av', ac', L', er', rfl, hM', hA', hP', b6⟩; have b7 : Below V.heap.size V w6 := (by refine bnext ?_ b6; (repeat (first | with_reducible assumption | with_reducible exact Below.refl _ _ | with_reducible refine below_drewN ?_ _ | with_reducible refine Below.drew ?_ | with_reducible refine Below.alloc ?_ (by (first | omega | (simp only [heap_alloc, heap_drew, Array.size_push]; omega))) _ | with_reducible refine below_set ?_ (by (first | omega | (simp only [heap_alloc, heap_drew, Array.size_push]; omega)))))); have z7 := b7.size; obtain ⟨va', vc', ta', tc', sa', sc', aa', ac2', hv', -⟩ := hM'.val; rw [hv']; replace hv' := hid hv'; replace hM' := hid hM'; replace hA' := hid hA'; replace hP' := hid hP'; (first | (with_reducible have pq := blk_below pq b6; (try simp only [World.size_alloc] at pq); have q0 := blk_cell (i := 0) pq; have q1 := blk_cell (i := 1) pq; have q2 := blk_cell (i := 2) pq; have q3 := blk_cell (i := 3) pq; have q4 := blk_cell (i := 4) pq; have q5 := blk_cell (i := 5) pq; have q6 := blk_cell (i := 6) pq; have q7 := blk_cell (i := 7) pq; have q8 := blk_cell (i := 8) pq; have qf := (fun i => blk_free (i := i) pq)) | (with_reducible have pq := blk_below (blk_old pq) b6; (try simp only [World.size_alloc] at pq); have q0 := blk_cell (i := 0) pq; have q1 := blk_cell (i := 1) pq; have q2 := blk_cell (i := 2) pq; have q3 := blk_cell (i := 3) pq; have q4 := blk_cell (i := 4) pq; have q5 := blk_cell (i := 5) pq; have q6 := blk_cell (i := 6) pq; have q7 := blk_cell (i := 7) pq; have q8 := blk_cell (i := 8) pq; have qf := (fun i => blk_free (i := i) pq)) | (with_reducible have pq := blk_below (blk_new w5 (.cells #[.int .i64 0, .int .i64 0, .int .i64 0, .slice none 0 0, .int .i64 0, .slice none 0 0, .slice none 0 0, .int .i64 0, .slice none 0 0] 44)) b6; (try simp only [World.size_alloc] at pq); have q0 := blk_cell (i := 0) pq; have q1 := blk_cell (i := 1) pq; have q2 := blk_cell (i := 2) pq; have q3 := blk_cell (i := 3) pq; have q4 := blk_cell (i := 4) pq; have q5 := blk_cell (i := 5) pq; have q6 := blk_cell (i := 6) pq; have q7 := blk_cell (i := 7) pq; have q8 := blk_cell (i := 8) pq; have qf := (fun i => blk_free (i := i) pq)) | skip); (try replace pq := hid pq); clear r4 r5 g4 g5 o4 o5)
              | (refine step_append_k rfl (.tmp 62) (.tmp 63) 34 34 rfl V.heap.size 29 9 96 (.agg #[.int .i64 0, .int .i64 0, .int .i64 0, .int .i64 0, .int .u8 0, .int .i64 0, .slice none 0 0, .string ⟨#[]⟩, .int .i64 0]) Try.underlying34 info_Do rfl (by decide) (.slice (some ⟨_, 0, none⟩) 0 0) 0 [] rfl (OT.fresh (w0 := V) (own0 (by (first | omega | (simp only [heap_alloc, heap_drew, Array.size_push]; omega))) (by (simp only [heap_alloc, heap_drew, Array.getElem?_push, Array.size_push]; repeat (first | assumption | rfl | rw [if_pos (by omega)] | rw [if_neg (by omega)])))) (by (repeat (first | with_reducible assumption | with_reducible exact Below.refl _ _ | with_reducible refine below_drewN ?_ _ | with_reducible refine Below.drew ?_ | with_reducible refine Below.alloc ?_ (by (first | omega | (simp only [heap_alloc, heap_drew, Array.size_push]; omega))) _ | with_reducible refine below_set ?_ (by (first | omega | (simp only [heap_alloc, heap_drew, Array.size_push]; omega)))))) (Nat.le_refl _)) (.slice (some ⟨db, off, none⟩) n cap) n (rows do9 X) rfl (HXS.out _ (by (repeat (first | with_reducible assumption | with_reducible exact Below.refl _ _ | with_reducible refine below_drewN ?_ _ | with_reducible refine Below.drew ?_ | with_reducible refine Below.alloc ?_ (by (first | omega | (simp only [heap_alloc, heap_drew, Array.size_push]; omega))) _ | with_reducible refine below_set ?_ (by (first | omega | (simp only [heap_alloc, heap_drew, Array.size_push]; omega))))))) (by unfold maxLen; omega) (by omega) (by (first | omega | (simp only [heap_alloc, heap_drew, Array.size_push]; omega))) ?_; intro v4 w4 o4 g4 r4; rw [Nat.zero_add, List.nil_append] at o4; have b4 := o4.belowOf (Nat.le_refl _) (fun k e => by cases e); have z4 := b4.size; (first | (with_reducible have pq := r4 _ _ _ _ hne (bdrew (blk_new _ (.cells #[.int .i64 0, .int .i64 0, .int .i64 0, .slice none 0 0, .int .i64 0, .slice none 0 0, .slice none 0 0, .int .i64 0, .slice none 0 0] 44)))) | (with_reducible have pq := r4 _ _ _ _ hne (bdrew (blk_old (blk_new _ (.cells #[.int .i64 0, .int .i64 0, .int .i64 0, .slice none 0 0, .int .i64 0, .slice none 0 0, .slice none 0 0, .int .i64 0, .slice none 0 0] 44))))) | (with_reducible have pq := r4 _ _ _ _ hne (bdrew (blk_old (blk_old (blk_new _ (.cells #[.int .i64 0, .int .i64 0, .int .i64 0, .slice none 0 0, .int .i64 0, .slice none 0 0, .slice none 0 0, .int .i64 0, .slice none 0 0] 44)))))) | skip))
              | (refine step_append_k rfl (.tmp 64) (.tmp 66) 34 34 rfl V.heap.size 29 9 96 (.agg #[.int .i64 0, .int .i64 0, .int .i64 0, .int .i64 0, .int .u8 0, .int .i64 0, .slice none 0 0, .string ⟨#[]⟩, .int .i64 0]) Try.underlying34 info_Do rfl (by decide) v4 n (rows do9 X) rfl (w0 := V) (row := none) (by (repeat (first | exact o4 | refine OT.alloc ?_ _ | refine OT.drew ?_))) (.slice (some ⟨_, 0, none⟩) 1 1) 1 (rows do9 [(⟨{ d with ver := 7 }, ea, en, ec⟩ : Dod)]) rfl (lit_at (Y := [(⟨{ d with ver := 7 }, ea, en, ec⟩ : Dod)]) (by first | ((simp only [heap_alloc, heap_drew, Array.getElem?_push, Array.size_push]; repeat (first | assumption | rfl | rw [if_pos (by omega)] | rw [if_neg (by omega)])); done) | ((with_reducible refine lit_kept g4 ?_ ?_) <;> first | omega | ((simp only [heap_alloc, heap_drew, Array.getElem?_push, Array.size_push]; repeat (first | assumption | rfl | rw [if_pos (by omega)] | rw [if_neg (by omega)])); done)) | ((with_reducible refine blk_old (lit_kept g4 ?_ ?_)) <;> first | omega | ((simp only [heap_alloc, heap_drew, Array.getElem?_push, Array.size_push]; repeat (first | assumption | rfl | rw [if_pos (by omega)] | rw [if_neg (by omega)])); done))) (by simp)) (by unfold maxLen; omega) (by omega) (by (first | omega | (simp only [heap_alloc, heap_drew, Array.size_push]; omega))) ?_; intro v5 w5 o5 g5 r5; have b5 := o5.belowOf (Nat.le_refl _) (fun k e => by cases e); have z5 := b5.size; obtain ⟨a5, c5, rfl, hD5⟩ := plus_doX HX.out hXl HXE.out b5 (Y := [(⟨{ d with ver := 7 }, ea, en, ec⟩ : Dod)]) HYE.out o5.own rfl; (first | (with_reducible have pq := r5 _ _ _ _ hne pq) | (with_reducible have pq := r5 _ _ _ _ hne (blk_old pq)) | (with_reducible have pq := r5 _ _ _ _ hne (blk_new w4 (.cells #[.int .i64 0, .int .i64 0, .int .i64 0, .slice none 0 0, .int .i64 0, .slice none 0 0, .slice none 0 0, .int .i64 0, .slice none 0 0] 44))) | (with_reducible have pq := r5 _ _ _ _ hne (blk_old (blk_new w4 (.cells #[.int .i64 0, .int .i64 0, .int .i64 0, .slice none 0 0, .int .i64 0, .slice none 0 0, .slice none 0 0, .int .i64 0, .slice none 0 0] 44)))) | (with_reducible have pq := r5 _ _ _ _ hne (blk_new (w4.alloc _) (.cells #[.int .i64 0, .int .i64 0, .int .i64 0, .slice none 0 0, .int .i64 0, .slice none 0 0, .slice none 0 0, .int .i64 0, .slice none 0 0] 44))) | skip)))
          all_goals (go_wp2_with fail; go_meet)
          all_goals first
            | with_reducible exact BoxRes.new hv'.out hM'.out hA'.out hP'.out b7
            | (with_reducible refine BoxRes.old pq.out ?_ hv'.out hM'.out hA'.out hP'.out b7; (first | omega | (simp only [heap_alloc, heap_drew, Array.size_push]; omega)))
        case rest =>
          obtain ⟨wD, rfl⟩ : ∃ wD : World, wD = wc := ⟨_, rfl⟩
          obtain ⟨m', av', ac', L', er', B, base, va', vc', ta', tc', sa', sc', aa', ac2', rfl, rfl, rfl, hv', hB, hM', hA', hP', bD⟩ := hcut
          have hPP := HP.out.symm.trans hP'
          simp only [Prod.mk.injEq] at hPP
          obtain ⟨hst', hA9, rfl⟩ := hPP
          obtain ⟨bb, bo, rfl, -, hl9, hat⟩ := hA'.gets hA9 (by simp)
          have hLn : L.length = n := HLL.out
          have hl9 : L'.length = n + 1 := by rw [hl9, List.length_append, List.length_map, hLn]; rfl
          rw [hl9]
          obtain ⟨y, hy, -, T⟩ := hat n _ (by rw [List.getElem?_append_right (by rw [List.length_map]; omega), List.length_map, hLn, Nat.sub_self]; rfl)
          have ye : y.err = 0 := congrArg Sto.An.err hy
          have yn : y.n = (R.length : Int) := congrArg Sto.An.n hy
          have T0 := T.c0
          have T1 := T.c1
          rw [ye] at T0
          rw [yn] at T1
          have sbx := blk_below (blk_below C0.out hbWV) bD
          have bW := hid (bnext bV.out bD)
          have HMD := hid (((HMM.out.below hbW2).below hbWV).below bD)
          have HAD := hid ((HAT.out.below hbWV).below bD)
          have hab : bb < wD.heap.size := World.block_lt_of_cell? _ _ T0
          have CK9 := hid (show ∀ W', Below wD.heap.size wD W' → W'.cell? ⟨bb, bo + n * 5, none⟩ = some (.int .i64 0) ∧ W'.cell? ⟨bb, bo + n * 5 + 1, none⟩ = some (.int .i64 (R.length : Int)) ∧ W'.cell? ⟨w2.heap.size, 0, none⟩ = some (.int .i64 m.d) ∧ W'.cell? ⟨w2.heap.size, 1, none⟩ = some (.int .i64 m.s) ∧ W'.cell? ⟨w2.heap.size, 2, none⟩ = some (.int .i64 m.b) ∧ W'.cell? ⟨w2.heap.size, 3, none⟩ = some (.slice va m.D.length vc) ∧ W'.cell? ⟨w2.heap.size, 4, none⟩ = some (.int .i64 (m.g : Int)) ∧ W'.cell? ⟨w2.heap.size, 5, none⟩ = some (.slice ta m.T.length tc) ∧ W'.cell? ⟨w2.heap.size, 6, none⟩ = some (.slice sa m.seen.length sc) ∧ W'.cell? ⟨w2.heap.size, 7, none⟩ = some (.int .i64 m.u) ∧ W'.cell? ⟨w2.heap.size, 8, none⟩ = some (.slice aa m.A.length ac2) ∧ W'.cell? ⟨B, 0, none⟩ = some (.int .i64 m'.d) ∧ W'.cell? ⟨B, 1, none⟩ = some (.int .i64 m'.s) ∧ W'.cell? ⟨B, 2, none⟩ = some (.int .i64 m'.b) ∧ W'.cell? ⟨B, 3, none⟩ = some (.slice va' m'.D.length vc') ∧ W'.cell? ⟨B, 4, none⟩ = some (.int .i64 (m'.g : Int)) ∧ W'.cell? ⟨B, 5, none⟩ = some (.slice ta' m'.T.length tc') ∧ W'.cell? ⟨B, 6, none⟩ = some (.slice sa' m'.seen.length sc') ∧ W'.cell? ⟨B, 7, none⟩ = some (.int .i64 m'.u) ∧ W'.cell? ⟨B, 8, none⟩ = some (.slice aa' m'.A.length ac2') from fun W' hW' => ⟨(hW'.cell (p := ⟨bb, _, none⟩) hab).trans T0, (hW'.cell (p := ⟨bb, _, none⟩) hab).trans T1, blk_cell (blk_below sbx hW'), blk_cell (blk_below sbx hW'), blk_cell (blk_below sbx hW'), blk_cell (blk_below sbx hW'), blk_cell (blk_below sbx hW'), blk_cell (blk_below sbx hW'), blk_cell (blk_below sbx hW'), blk_cell (blk_below sbx hW'), blk_cell (blk_below sbx hW'), blk_cell (blk_below hB hW'), blk_cell (blk_below hB hW'), blk_cell (blk_below hB hW'), blk_cell (blk_below hB hW'), blk_cell (blk_below hB hW'), blk_cell (blk_below hB hW'), blk_cell (blk_below hB hW'), blk_cell (blk_below hB hW'), blk_cell (blk_below hB hW')⟩)
          have C1 := hid (show ∀ W', Below wD.heap.size wD W' → Calls Try.prog 24 #[.slice (some ⟨db, off, none⟩) n cap, .slice (some ⟨ab, aoff, none⟩) n ac, .int .i64 (n : Int)] W' (fun e w' => ∃ oa oc, e = .returned (.slice oa R.length oc) ∧ Below wD.heap.size wD w') from fun W' hW' =>
            (DT.out W' (bnext bW.out hW') (HAD.out.below hW')).mono fun e w' ⟨oa, oc, h1, h2, h3⟩ => ⟨oa, oc, h1, bnext hW' h3⟩)
          have C2 := hid (show ∀ W', Below wD.heap.size wD W' → Calls Try.prog 25 #[.agg #[.int .i64 m.d, .int .i64 m.s, .int .i64 m.b, .slice va m.D.length vc, .int .i64 (m.g : Int), .slice ta m.T.length tc, .slice sa m.seen.length sc, .int .i64 m.u, .slice aa m.A.length ac2], .agg #[.int .i64 m'.d, .int .i64 m'.s, .int .i64 m'.b, .slice va' m'.D.length vc', .int .i64 (m'.g : Int), .slice ta' m'.T.length tc', .slice sa' m'.seen.length sc', .int .i64 m'.u, .slice aa' m'.A.length ac2']] W' (fun e w' => e = .returned (.bool true) ∧ Below wD.heap.size wD w') from fun W' hW' => by
            have h1 := same_st (HMD.out.below hW') (hM'.below hW') hst'.symm HOK.out (by rw [HN.out]; omega)
            rw [HVV.out, hv'] at h1
            exact h1.mono fun e w' ⟨h1, h2⟩ => ⟨h1, bnext hW' h2⟩)
          have i0 : (0 : Int) ≤ (n : Int) := by omega
          clear hP' hA9 hA' hat hy T sbx hst' hM' hv' hB
          go_upto_region 9 with (fail)
          obtain ⟨N1, hN1⟩ : ∃ N1 : Nat, N1 = n + 1 := ⟨_, rfl⟩
          rw [← hN1]
          have i1 : (n : Int) < (N1 : Int) := by omega
          replace hN1 := hid hN1
          go_region_held3 (fun w' => w'.cell? ⟨bb, bo + n * 5, none⟩ = some (.int .i64 0) ∧ w'.cell? ⟨bb, bo + n * 5 + 1, none⟩ = some (.int .i64 (R.length : Int)) ∧ w'.cell? ⟨w2.heap.size, 0, none⟩ = some (.int .i64 m.d) ∧ w'.cell? ⟨w2.heap.size, 1, none⟩ = some (.int .i64 m.s) ∧ w'.cell? ⟨w2.heap.size, 2, none⟩ = some (.int .i64 m.b) ∧ w'.cell? ⟨w2.heap.size, 3, none⟩ = some (.slice va m.D.length vc) ∧ w'.cell? ⟨w2.heap.size, 4, none⟩ = some (.int .i64 (m.g : Int)) ∧ w'.cell? ⟨w2.heap.size, 5, none⟩ = some (.slice ta m.T.length tc) ∧ w'.cell? ⟨w2.heap.size, 6, none⟩ = some (.slice sa m.seen.length sc) ∧ w'.cell? ⟨w2.heap.size, 7, none⟩ = some (.int .i64 m.u) ∧ w'.cell? ⟨w2.heap.size, 8, none⟩ = some (.slice aa m.A.length ac2) ∧ w'.cell? ⟨B, 0, none⟩ = some (.int .i64 m'.d) ∧ w'.cell? ⟨B, 1, none⟩ = some (.int .i64 m'.s) ∧ w'.cell? ⟨B, 2, none⟩ = some (.int .i64 m'.b) ∧ w'.cell? ⟨B, 3, none⟩ = some (.slice va' m'.D.length vc') ∧ w'.cell? ⟨B, 4, none⟩ = some (.int .i64 (m'.g : Int)) ∧ w'.cell? ⟨B, 5, none⟩ = some (.slice ta' m'.T.length tc') ∧ w'.cell? ⟨B, 6, none⟩ = some (.slice sa' m'.seen.length sc') ∧ w'.cell? ⟨B, 7, none⟩ = some (.int .i64 m'.u) ∧ w'.cell? ⟨B, 8, none⟩ = some (.slice aa' m'.A.length ac2')) (first | with_reducible exact CK9.out _ (Below.refl _ _) | (refine CK9.out _ ?_; (repeat (first | with_reducible assumption | with_reducible exact Below.refl _ _ | with_reducible refine below_drewN ?_ _ | with_reducible refine Below.drew ?_ | with_reducible refine Below.alloc ?_ (by (first | omega | (simp only [heap_alloc, heap_drew, Array.size_push]; omega))) _ | with_reducible refine below_set ?_ (by (first | omega | (simp only [heap_alloc, heap_drew, Array.size_push]; omega))))); done))
            (first
              | (go_at_call 24; refine (C1.out _ ?_).mono ?_; (repeat (first | with_reducible assumption | with_reducible exact Below.refl _ _ | with_reducible refine below_drewN ?_ _ | with_reducible refine Below.drew ?_ | with_reducible refine Below.alloc ?_ (by (first | omega | (simp only [heap_alloc, heap_drew, Array.size_push]; omega))) _ | with_reducible refine below_set ?_ (by (first | omega | (simp only [heap_alloc, heap_drew, Array.size_push]; omega))))); rintro e w4 ⟨oa, oc, rfl, kb⟩)
              | (go_at_call 25; refine (C2.out _ ?_).mono ?_; (repeat (first | with_reducible assumption | with_reducible exact Below.refl _ _ | with_reducible refine below_drewN ?_ _ | with_reducible refine Below.drew ?_ | with_reducible refine Below.alloc ?_ (by (first | omega | (simp only [heap_alloc, heap_drew, Array.size_push]; omega))) _ | with_reducible refine below_set ?_ (by (first | omega | (simp only [heap_alloc, heap_drew, Array.size_push]; omega))))); rintro e w5 ⟨rfl, kb5⟩))
          all_goals (go_wp2_with fail; go_ret; exact ⟨rfl, bnext bW.out kb5⟩)
      · have t2 : (x.err != 0) = true := bne_iff_ne.2 hx0
        replace hx0 := hid hx0
        replace hk1 := hid hk1
        go_wp2_with fail
        go_ret
        exact ⟨rfl, bC.out⟩
    · have t1 : (d.kind != 1) = true := bne_iff_ne.2 hk1
      replace hk1 := hid hk1
      go_wp2_with fail
      go_ret
      exact ⟨rfl, bC.out⟩
  · have t0 : (er != 0) = true := bne_iff_ne.2 he
    have t1 : (er == 0) = false := beq_eq_false_iff_ne.2 he
    replace he := hid he
    go_wp2_with fail
    go_ret
    exact ⟨rfl, bB.out.alloc hs2 _⟩
end Go.Proofs.Ythhcdfjijagalaa
namespace Go.Proofs.Ythhcdfjijagalaa
open Go.RowKit Go.Maps
set_option linter.unusedVariables false
set_option linter.unusedSimpArgs false
set_option maxRecDepth 100000
def Sto.verD (c : Int) (str : ByteArray) (kd v : Int) : Sto.Do := ⟨1, 0, 0, 0, 0, ⟨c, [⟨str, kd, 0⟩]⟩, str, v⟩
theorem Sto.version_play {d p b : Int} {l : List Sto.Do} {c kd : Int} {str : ByteArray} (hw : Sto.wrongS d p b = 0) (h80 : l.length + 2 ≤ 80) (h1 : 1 ≤ c) (h2 : c < 1000000)
    (n1 : ¬ c ∈ (Sto.run (Sto.start d p b) l).1.seen) (n2 : ¬ c + 1 ∈ (Sto.run (Sto.start d p b) l).1.seen) :
    ∃ s' x1 x2, Sto.play d p b (l ++ [Sto.verD c str kd (Vw.get (Sto.run (Sto.start d p b) l).1.snap.accs str).cnt, Sto.verD (c + 1) str kd (Vw.get (Sto.run (Sto.start d p b) l).1.snap.accs str).cnt]) = (s', (Sto.run (Sto.start d p b) l).2 ++ [x1, x2], 0) ∧ (x1.err = 0 → x2.err = 11) := by
  have hi := Sto.Inv.from d p b l
  obtain ⟨e2, e1⟩ := Sto.run_app (Sto.start d p b) l [Sto.verD c str kd (Vw.get (Sto.run (Sto.start d p b) l).1.snap.accs str).cnt, Sto.verD (c + 1) str kd (Vw.get (Sto.run (Sto.start d p b) l).1.snap.accs str).cnt]
  refine ⟨_, _, _, (Sto.play_of hw (by simp only [List.length_append, List.length_cons, List.length_nil]; omega)).trans (by rw [e2]; rfl), fun h => ?_⟩
  have s1 : Sto.step (Sto.run (Sto.start d p b) l).1 (Sto.verD c str kd (Vw.get (Sto.run (Sto.start d p b) l).1.snap.accs str).cnt) = Sto.put (Sto.run (Sto.start d p b) l).1 (Sto.verD c str kd (Vw.get (Sto.run (Sto.start d p b) l).1.snap.accs str).cnt) := Sto.step_put rfl
  rw [s1] at h ⊢
  rw [Sto.step_put (show (Sto.verD (c + 1) str kd (Vw.get (Sto.run (Sto.start d p b) l).1.snap.accs str).cnt).kind = 1 from rfl)]
  exact Sto.version_two hi (a := Sto.verD c str kd (Vw.get (Sto.run (Sto.start d p b) l).1.snap.accs str).cnt) ⟨str, kd, 0⟩ rfl rfl rfl rfl rfl rfl rfl h1 h2 n1 n2 h
end Go.Proofs.Ythhcdfjijagalaa
