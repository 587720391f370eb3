/-
  MixRounds: a round is handed to both.
-/
import Derived.Test.YtoclhecldmahiaaDoorMxU
set_option linter.unusedVariables false
set_option linter.unusedVariables false
set_option linter.unusedSimpArgs false
namespace Go.Proofs.YtoclhecldmahiaaDoor
open Go.Lf Go.RowKit

section
variable {W w w' : World} {L R Y K : List Asn} {y p pp a b stb nx tob xb ub : Addr} {A B B' T T1 : List Tm} {n m : Nat} {seS puS onS inS spS sr sr1 sr2 su oS yS vS rounds1 : Sl} {ss ss1 ss2 ssu : Nat → Sl} {st stn to sA : MxS} {Z : List (Sl × List Int)} {secs pubs onions inL out back ya : List Int} {raw : Bool} {r : Nat}
  {RR : Value → World → Prop} {N2 : Sl → Bool → Option Addr → Option Addr → Sl → Sl → Addr → Sl → Int → World → Prop}

theorem rndLens {T : List Tm} {st : MxS} {secs l : List Int} {P : Nat → List Int} (hl : l.length ≤ 100) (hin : RdIn (wordT T).1 (wordT T).2.1 secs P st l) (hT : T.length ≤ 700000) (h1 : st.regs.length ≤ 10000) (h2 : ∀ k, k < 3 → (st.seen k).length ≤ 10000) :
    ((roundT T st secs l P).2.1.regs.length ≤ 100000 ∧ ∀ k, k < 3 → ((roundT T st secs l P).2.1.seen k).length ≤ 100000) ∧ (roundT T st secs l P).2.2.length ≤ 100000 := by
  obtain ⟨_, _, _, _, g⟩ := wordT_good (T := T) (by omega)
  have gl := g.len
  obtain ⟨a1, a2⟩ := rnd_len (T := (wordT T).1) (nw := (wordT T).2.1) (secs := secs) (P := P) 3 (s := 0) (st := st) (l := l)
  obtain ⟨_, a3, _, _⟩ := rnd_good 3 (s := 0) rfl hin (by omega)
  unfold roundT
  exact ⟨⟨by omega, fun k hk => by have := a2 k; have := h2 k hk; omega⟩, by omega⟩

set_option maxRecDepth 20000 in
theorem mr_c10 (hm : m ≤ 16) (hn : n ≤ 200000) (h0 : Rnd0 B st onions secs pubs m) (hin : ∀ x ∈ inL, inT B x) (hZl : ∀ z ∈ Z, z.2.length ≤ 1000) (hZ1 : Z.length ≤ 1000) (hil : inL.length ≤ 1000)
    (h : PairAt W w pp a b A B n (pmxL stb sr ss st ++ (ownA onS onions :: ownA seS secs :: ownA puS pubs :: ownA inS inL :: (rowsL spS Z ++ []))))
    (hN : ∀ sr ss st A B w', PairAt W w' pp a b A B (n + 602) (pmxL stb sr ss st ++ (ownA onS onions :: ownA seS secs :: ownA puS pubs :: [])) → Rnd0 B st onions secs pubs (m + 1) → N2 rounds1 raw (some pp) (some b) seS puS stb onS (IntKind.i64.wrap ((r : Int) + 1)) w') :
    trystlaw24_MixRounds.c10 RR N2 rounds1 raw (some pp) (some b) seS puS onS stb r inS spS w := by
  have hseenl := h0.seenl
  have hregl := h0.regl
  have hsl3 := h0.secl
  unfold trystlaw24_MixRounds.c10
  obtain ⟨c0, c1, c2, c3⟩ := h.cells4 0 rfl
  refine ⟨_, _, _, c0, _, _, _, c1, _, _, _, c2, _, _, _, c3, ?_⟩
  refine (state_at h (by omega) (sr := sr) (ss := ss) (st := st) ((MixRd.of (R := ownA onS onions :: ownA seS secs :: ownA puS pubs :: ownA inS inL :: (rowsL spS Z ++ [])) (fun k hk => by have := hseenl k hk; omega)).up [boxA stb [sV sr, sV (ss 0), sV (ss 1), sV (ss 2)]]) (by omega) (fun k hk => by have := hseenl k hk; omega)).mono ?_
  rintro _ w1 ⟨sr1, ss1, sA, A1, rfl, h1, hE1, hr1, hs1⟩
  have hsAr : sA.regs.length ≤ 10000 := by have := hr1.1; omega
  have hsAs : ∀ k, k < 3 → (sA.seen k).length ≤ 10000 := fun k hk => by have := (hs1 k hk).1; have := hseenl k hk; omega
  refine ⟨_, _, _, _, _, _, _, _, _, _, _, _, rfl, ?_⟩
  refine (pTs_at h1 (by omega) (s := inS) (xs := inL) (by omega) (fun L w' hw => rowNow 12 rfl hw.dropL.s (by omega))).mono ?_
  rintro _ w2 ⟨yS, ya, A2, rfl, h2, hE2, hr2⟩
  have hyl : ya.length ≤ 1000 := by have := hr2.1; omega
  refine ⟨_, _, _, rfl, ?_⟩
  intro w16
  obtain ⟨wr3, h3⟩ := h2.mtmp 127 (zs := nil4) (cs := [sV sr1, sV (ss1 0), sV (ss1 1), sV (ss1 2)]) rfl
  refine ⟨wr3, ?_⟩
  intro w3
  have h3 : PairAt W w3 pp a b A2 B n (pmxL (newA w2) sr1 ss1 sA ++ (ownA yS ya :: (pmxL stb sr ss st ++ (ownA onS onions :: ownA seS secs :: ownA puS pubs :: ownA inS inL :: (rowsL spS Z ++ []))))) := h3.perm (List.Perm.cons _ (List.perm_middle (l₁ := mixL sr1 ss1 sA)).symm)
  clear_value w3
  generalize newA w2 = xb at h3 ⊢
  obtain ⟨x0, x1, x2, x3⟩ := h3.cells4 0 rfl
  refine ⟨_, _, _, x0, _, _, _, x1, _, _, _, x2, _, _, _, x3, ?_⟩
  obtain ⟨M, h3a, hr⟩ := h3
  refine (twinmix_at h3a (sr := sr1) (ss := ss1) (st := sA) ((MixRd.of (R := ownA yS ya :: (pmxL stb sr ss st ++ (ownA onS onions :: ownA seS secs :: ownA puS pubs :: ownA inS inL :: (rowsL spS Z ++ [])))) (fun k hk => by have := hsAs k hk; omega)).up [prA pp a b M, arT a A2, pgT b B, boxA xb [sV sr1, sV (ss1 0), sV (ss1 1), sV (ss1 2)]]) (by omega) (fun k hk => by have := hsAs k hk; omega)).mono ?_
  rintro _ w4 ⟨su, ssu, rfl, h4⟩
  refine ⟨_, _, _, _, _, _, _, _, _, _, _, _, rfl, ?_⟩
  refine (twin_spec (s := yS) (xs := ya) (rowNow 12 rfl h4.s (by omega)) (by omega)).mono ?_
  rintro _ w5 ⟨vS, rfl, ho5, hb5⟩
  have h5 := h4.own ho5 hb5
  refine ⟨_, _, _, rfl, ?_⟩
  refine (twinperms_at h5 (sp := spS) (Z := Z) (fun L w' hw => rowsRd (fun z hz => by have := hZl z hz; omega) (L ++ (ownA vS ya :: (mixL su ssu sA ++ (prA pp a b M :: arT a A2 :: pgT b B :: (pmxL xb sr1 ss1 sA ++ (ownA yS ya :: (pmxL stb sr ss st ++ [ownA onS onions, ownA seS secs, ownA puS pubs, ownA inS inL]))))))) w' (by rw [List.append_assoc]; exact hw)) (by omega) (fun z hz => by have := hZl z hz; omega)).mono ?_
  rintro _ w6 ⟨wS, Z', rfl, hZ', h6⟩
  refine ⟨_, _, _, rfl, ?_⟩
  have hZ'l : ∀ z ∈ Z', z.2.length ≤ 1000 := by
    intro z hz
    have : z.2 ∈ rowsP Z := by rw [← hZ']; exact List.mem_map.2 ⟨z, hz, rfl⟩
    obtain ⟨z', hz', e⟩ := List.mem_map.1 this
    rw [← e]; exact hZl z' hz'
  have h6a : PairAt W w6 pp a b A2 B n (rowsL wS Z' ++ (ownA vS ya :: (mixL su ssu sA ++ (pmxL xb sr1 ss1 sA ++ (ownA yS ya :: (pmxL stb sr ss st ++ (ownA onS onions :: ownA seS secs :: ownA puS pubs :: ownA inS inL :: (rowsL spS Z ++ [])))))))) := by
    have h6b : At W w6 ((rowsL wS Z' ++ (ownA vS ya :: mixL su ssu sA)) ++ (prA pp a b M :: arT a A2 :: pgT b B :: (pmxL xb sr1 ss1 sA ++ (ownA yS ya :: (pmxL stb sr ss st ++ (ownA onS onions :: ownA seS secs :: ownA puS pubs :: ownA inS inL :: (rowsL spS Z ++ []))))))) := by
      rw [List.append_assoc]; exact h6
    have := PairAt.addK (n := n) h6b hr
    rw [List.append_assoc] at this
    exact this
  have h6c := (h6a.perm List.perm_append_comm)
  have h7 : PairAt W w6 pp a b A2 B n ((ownA vS ya :: (mixL su ssu sA ++ (pmxL xb sr1 ss1 sA ++ (ownA yS ya :: (pmxL stb sr ss st ++ (ownA onS onions :: ownA seS secs :: ownA puS pubs :: ownA inS inL :: (rowsL spS Z ++ []))))))) ++ (rowsL wS Z' ++ [])) := by rw [List.append_nil (rowsL wS Z')]; exact h6c
  intro w7
  obtain ⟨wr8, h8⟩ := h7.mtmp 127 (zs := nil4) (cs := [sV su, sV (ssu 0), sV (ssu 1), sV (ssu 2)]) rfl
  refine ⟨wr8, ?_⟩
  intro w8
  have h8 : PairAt W w8 pp a b A2 B n ((pmxL (newA w6) su ssu sA ++ (ownA vS ya :: (pmxL xb sr1 ss1 sA ++ (ownA yS ya :: (pmxL stb sr ss st ++ (ownA onS onions :: ownA seS secs :: ownA puS pubs :: ownA inS inL :: (rowsL spS Z ++ []))))))) ++ (rowsL wS Z' ++ [])) := h8.perm (List.Perm.cons _ (List.Perm.append_right _ (List.perm_middle (l₁ := mixL su ssu sA)).symm))
  clear_value w8
  generalize newA w6 = ub at h8 ⊢
  have hd := h8.drew
  have cp := hd.cells.1
  have cu := hd.cells4 0 rfl
  -- behind the round
  have fin : ∀ {w' : World} {A3 A4 : List Tm} {nx : Addr} {sr2 oS s2 : Sl} {ss2 : Nat → Sl} {stn : MxS} {out za : List Int}, RelL A3 B za secs → Ext A2 A3 → TOk A3 → A3.length ≤ 600000 → TOk B → B.length ≤ 200000 →
      (wrongT A3 sA za ya (rowsP Z') = 0 → A4 = (roundT A3 sA za ya (rowP Z')).1 ∧ stn = (roundT A3 sA za ya (rowP Z')).2.1 ∧ out = (roundT A3 sA za ya (rowP Z')).2.2) → (wrongT A3 sA za ya (rowsP Z') ≠ 0 → stn = ⟨[], fun _ => []⟩ ∧ out = []) →
      PairAt W w' pp a b A4 B (n + 301) (pmxL nx sr2 ss2 stn ++ (ownA oS out :: ((pmxL ub su ssu sA ++ (ownA vS ya :: (pmxL xb sr1 ss1 sA ++ (ownA yS ya :: (pmxL stb sr ss st ++ (ownA onS onions :: ownA seS secs :: ownA puS pubs :: ownA inS inL :: (rowsL spS Z ++ []))))))) ++ (rowsL wS Z' ++ [])))) →
      trystlaw24_MixRounds.c9 RR N2 rounds1 raw (some pp) (some b) seS puS onS stb r inS spS xb yS ub vS nx oS (wrongT A3 sA za ya (rowsP Z')) w' := by
    intro w' A3 A4 nx sr2 oS s2 ss2 stn out za hz hE hA3 hl3 hB hlB good bad hP
    obtain ⟨q1, q2⟩ := round_rel (Z := Z) (Z' := Z') hA3 hB (by omega) (by omega) (hr1.mono (hE2.trans hE)) (fun k hk => (hs1 k hk).mono (hE2.trans hE)) hz (hr2.mono hE) h0.secl h0.regin h0.seenin h0.secin hin hZ'
    have hP2 : PairAt W w' pp a b A4 B (n + 301) ((pmxL nx sr2 ss2 stn ++ (ownA oS out :: (pmxL ub su ssu sA ++ (ownA vS ya :: (pmxL xb sr1 ss1 sA ++ (ownA yS ya :: (pmxL stb sr ss st ++ (ownA onS onions :: ownA seS secs :: ownA puS pubs :: ownA inS inL :: (rowsL spS Z ++ []))))))))) ++ (rowsL wS Z' ++ [])) := by
      have e := hP
      simpa [List.append_assoc] using e
    have lens : (stn.regs.length ≤ 100000 ∧ ∀ k, k < 3 → (stn.seen k).length ≤ 100000) ∧ out.length ≤ 100000 := by
      by_cases hw : wrongT A3 sA za ya (rowsP Z') = 0
      · obtain ⟨_, e1, e2⟩ := good hw
        obtain ⟨_, rA⟩ := wrongT_in (hA3.put _) (by omega) hw
        rw [e1, e2]
        exact rndLens rA.few rA (by omega) hsAr hsAs
      · obtain ⟨e1, e2⟩ := bad hw
        rw [e1, e2]
        exact ⟨⟨by simp, fun k _ => by simp⟩, by simp⟩
    rw [q1] at good bad ⊢
    refine mr_c9 hm (by omega) h0 hin hZl hZ1 hil hP2.dropT bad (fun hw => ?_) lens.1 lens.2 ⟨by omega, fun k hk => by have := hsAs k hk; omega⟩ hyl hN
    obtain ⟨e0, e1, e2⟩ := good hw
    rw [e0, e1, e2]
    exact q2 hw
  -- what the round reads
  have rdW : ∀ (K L : List Asn) (w' : World), At W w' (L ++ (K ++ ((pmxL ub su ssu sA ++ (ownA vS ya :: (pmxL xb sr1 ss1 sA ++ (ownA yS ya :: (pmxL stb sr ss st ++ (ownA onS onions :: ownA seS secs :: ownA puS pubs :: ownA inS inL :: (rowsL spS Z ++ []))))))) ++ (rowsL wS Z' ++ [])))) →
      Rw w' wS Z' ∧ Ints .i64 w' vS ya := fun K L w' hw => ⟨rowsRd (fun z hz => by have := hZ'l z hz; omega) (L ++ (K ++ (pmxL ub su ssu sA ++ (ownA vS ya :: (pmxL xb sr1 ss1 sA ++ (ownA yS ya :: (pmxL stb sr ss st ++ (ownA onS onions :: ownA seS secs :: ownA puS pubs :: ownA inS inL :: (rowsL spS Z ++ []))))))))) w' (by rw [List.append_assoc, List.append_assoc]; exact hw), rowNow 5 rfl hw.dropL.dropL.s (by omega)⟩
  have rdM : ∀ (K : List Asn), MixRd W (K ++ ((pmxL ub su ssu sA ++ (ownA vS ya :: (pmxL xb sr1 ss1 sA ++ (ownA yS ya :: (pmxL stb sr ss st ++ (ownA onS onions :: ownA seS secs :: ownA puS pubs :: ownA inS inL :: (rowsL spS Z ++ []))))))) ++ (rowsL wS Z' ++ []))) su ssu sA := fun K =>
    ((MixRd.of (R := (ownA vS ya :: (pmxL xb sr1 ss1 sA ++ (ownA yS ya :: (pmxL stb sr ss st ++ (ownA onS onions :: ownA seS secs :: ownA puS pubs :: ownA inS inL :: (rowsL spS Z ++ [])))))) ++ (rowsL wS Z' ++ [])) (fun k hk => by have := hsAs k hk; omega)).up [boxA ub [sV su, sV (ssu 0), sV (ssu 1), sV (ssu 2)]]).up K
  refine ⟨fun u => u.cell? pp = some (.pointer (some a)) ∧ Cells4 u ub (sV su) (sV (ssu 0)) (sV (ssu 1)) (sV (ssu 2)), ⟨cp, cu⟩, pp, rfl, _, fun u hu => hu.1, _, _, _, fun u hu => hu.2.1, _, _, _, fun u hu => hu.2.2.1, _, _, _, fun u hu => hu.2.2.2.1, _, _, _, fun u hu => hu.2.2.2.2, ?_, ?_⟩
  · refine (pTs_at hd (by omega) (s := seS) (xs := secs) (by omega) (fun L w' hw => rowNow 18 rfl hw.dropL.s (by omega))).mono ?_
    rintro _ w9 ⟨s2, za, A3, rfl, h9, hE3, hz⟩
    have hzl : za.length = 3 := by have := hz.1; omega
    obtain ⟨hA3, hB⟩ := h9.ok
    have hls : A3.length ≤ 600000 ∧ B.length ≤ 200000 := by obtain ⟨M, _, hp, _, l1, l2⟩ := h9; have := hp.len; exact ⟨by omega, by omega⟩
    refine ⟨_, _, _, rfl, ⟨h9.cells.1, h9.cells4 1 rfl⟩, ?_, ?_⟩
    · refine (mround_pair h9 (by omega) (sr := su) (ss := ssu) (st := sA) (sec := s2) (secs := za) (sl := vS) (l := ya) (sp := wS) (Z := Z') (rdM [_]) hsAr (fun k hk => by have := hsAs k hk; omega) (fun L w' hw => rowNow 0 rfl hw.dropL.s (by omega)) (fun L w' hw => (rdW [_] L w' hw).2) (fun L w' hw => (rdW [_] L w' hw).1)).mono ?_
      rintro _ w10 ⟨sr2, oS, ss2, stn, out, A4, rfl, h10, hE4, good, bad⟩
      refine ⟨_, _, _, _, _, _, _, _, _, _, _, _, _, _, _, _, rfl, ?_⟩
      intro w11
      obtain ⟨wr, h11⟩ := h10.mtmp 127 (zs := nil4) (cs := [sV sr2, sV (ss2 0), sV (ss2 1), sV (ss2 2)]) rfl
      refine ⟨wr, ?_⟩
      exact fin (s2 := s2) hz hE3 hA3 hls.1 hB hls.2 good bad (h11.mless 6 rfl)
    · intro w10
      have h10 : PairAt W w10 pp a b A3 B n (boxA (newA w9) nil4 :: (ownA s2 za :: ((pmxL ub su ssu sA ++ (ownA vS ya :: (pmxL xb sr1 ss1 sA ++ (ownA yS ya :: (pmxL stb sr ss st ++ (ownA onS onions :: ownA seS secs :: ownA puS pubs :: ownA inS inL :: (rowsL spS Z ++ []))))))) ++ (rowsL wS Z' ++ [])))) := h9.mbox 127 nil4
      clear_value w10
      generalize newA w9 = nb at h10 ⊢
      refine ⟨⟨h10.cells.1, h10.cells4 2 rfl⟩, ?_⟩
      refine (mround_pair h10 (by omega) (sr := su) (ss := ssu) (st := sA) (sec := s2) (secs := za) (sl := vS) (l := ya) (sp := wS) (Z := Z') (rdM [_, _]) hsAr (fun k hk => by have := hsAs k hk; omega) (fun L w' hw => rowNow 1 rfl hw.dropL.s (by omega)) (fun L w' hw => (rdW [_, _] L w' hw).2) (fun L w' hw => (rdW [_, _] L w' hw).1)).mono ?_
      rintro _ w11 ⟨sr2, oS, ss2, stn, out, A4, rfl, h11, hE4, good, bad⟩
      obtain ⟨wr, h12⟩ := h11.mset4 5 rfl (sV sr2) (sV (ss2 0)) (sV (ss2 1)) (sV (ss2 2))
      refine ⟨_, _, _, _, _, _, _, _, _, _, _, _, _, _, _, _, rfl, wr, ?_⟩
      have h13 := h12.mless 6 rfl
      have h13 : PairAt W _ pp a b A4 B (n + 301) ((mixL sr2 ss2 stn ++ [ownA oS out]) ++ (boxA nb [sV sr2, sV (ss2 0), sV (ss2 1), sV (ss2 2)] :: ((pmxL ub su ssu sA ++ (ownA vS ya :: (pmxL xb sr1 ss1 sA ++ (ownA yS ya :: (pmxL stb sr ss st ++ (ownA onS onions :: ownA seS secs :: ownA puS pubs :: ownA inS inL :: (rowsL spS Z ++ []))))))) ++ (rowsL wS Z' ++ [])))) := h13
      exact fin (s2 := s2) hz hE3 hA3 hls.1 hB hls.2 good bad (h13.perm List.perm_middle)
  · intro w10
    have h10 : PairAt W w10 pp a b A2 B n (boxA (newA w8.drew) nil4 :: ((pmxL ub su ssu sA ++ (ownA vS ya :: (pmxL xb sr1 ss1 sA ++ (ownA yS ya :: (pmxL stb sr ss st ++ (ownA onS onions :: ownA seS secs :: ownA puS pubs :: ownA inS inL :: (rowsL spS Z ++ []))))))) ++ (rowsL wS Z' ++ []))) := hd.mbox 127 nil4
    clear_value w10
    generalize newA w8.drew = nb at h10 ⊢
    refine ⟨⟨h10.cells.1, h10.cells4 1 rfl⟩, ?_⟩
    refine (pTs_at h10 (by omega) (s := seS) (xs := secs) (by omega) (fun L w' hw => rowNow 19 rfl hw.dropL.s (by omega))).mono ?_
    rintro _ w9 ⟨s2, za, A3, rfl, h9, hE3, hz⟩
    have hzl : za.length = 3 := by have := hz.1; omega
    obtain ⟨hA3, hB⟩ := h9.ok
    have hls : A3.length ≤ 600000 ∧ B.length ≤ 200000 := by obtain ⟨M, _, hp, _, l1, l2⟩ := h9; have := hp.len; exact ⟨by omega, by omega⟩
    refine ⟨_, _, _, rfl, ⟨h9.cells.1, h9.cells4 2 rfl⟩, ?_⟩
    refine (mround_pair h9 (by omega) (sr := su) (ss := ssu) (st := sA) (sec := s2) (secs := za) (sl := vS) (l := ya) (sp := wS) (Z := Z') (rdM [_, _]) hsAr (fun k hk => by have := hsAs k hk; omega) (fun L w' hw => rowNow 0 rfl hw.dropL.s (by omega)) (fun L w' hw => (rdW [_, _] L w' hw).2) (fun L w' hw => (rdW [_, _] L w' hw).1)).mono ?_
    rintro _ w11 ⟨sr2, oS, ss2, stn, out, A4, rfl, h11, hE4, good, bad⟩
    obtain ⟨wr, h12⟩ := h11.mset4 6 rfl (sV sr2) (sV (ss2 0)) (sV (ss2 1)) (sV (ss2 2))
    refine ⟨_, _, _, _, _, _, _, _, _, _, _, _, _, _, _, _, rfl, wr, ?_⟩
    have h13 := h12.mless 5 rfl
    have h13 : PairAt W _ pp a b A4 B (n + 301) ((mixL sr2 ss2 stn ++ [ownA oS out]) ++ (boxA nb [sV sr2, sV (ss2 0), sV (ss2 1), sV (ss2 2)] :: ((pmxL ub su ssu sA ++ (ownA vS ya :: (pmxL xb sr1 ss1 sA ++ (ownA yS ya :: (pmxL stb sr ss st ++ (ownA onS onions :: ownA seS secs :: ownA puS pubs :: ownA inS inL :: (rowsL spS Z ++ []))))))) ++ (rowsL wS Z' ++ [])))) := h13
    exact fin (s2 := s2) hz hE3 hA3 hls.1 hB hls.2 good bad (h13.perm List.perm_middle)
end

end Go.Proofs.YtoclhecldmahiaaDoor

/-
  MixRounds: what a round is made of.
-/
set_option linter.unusedVariables false
set_option linter.unusedSimpArgs false
namespace Go.Proofs.YtoclhecldmahiaaDoor
open Go.Lf Go.RowKit

/-! how rounds come in -/

structure RndI where
  asks : List AskI
  again : List Int
  perms : List (Sl × List Int)
  sa : Sl
  sg : Sl
  sp : Sl
theorem Rw.stab {w w' : World} {s : Sl} {Z : List (Sl × List Int)} (h : Rw w s Z) (hb : Below w.heap.size w w') : Rw w' s Z := h.below hb
def RndC (w : World) (cs : List Value) (x : RndI) : Prop := cs = [sV x.sa, sV x.sg, sV x.sp] ∧ Asks w x.sa x.asks ∧ Ints .i64 w x.sg x.again ∧ Rw w x.sp x.perms
abbrev Rnds (w : World) (s : Sl) (l : List RndI) : Prop := Els 3 RndC w s l
theorem RndC.stab : Stab RndC := fun _ _ _ _ hb ⟨h1, h2, h3, h4⟩ => ⟨h1, h2.keep AskC.stab hb, h3.keep hb, h4.below hb⟩
theorem Rnds.get {w : World} {s : Sl} {l : List RndI} (h : Rnds w s l) {i : Nat} (hi : i < l.length) : ∃ q, s.a = some q ∧ w.cell? (q.add (i * 3)) = some (sV l[i].sa) ∧ w.cell? ((q.add (i * 3)).add 1) = some (sV l[i].sg) ∧ w.cell? ((q.add (i * 3)).add 2) = some (sV l[i].sp) ∧ Asks w l[i].sa l[i].asks ∧ Ints .i64 w l[i].sg l[i].again ∧ Rw w l[i].sp l[i].perms := by
  obtain ⟨p, cs, hp, _, hc, he, h1, h2, h3⟩ := h.el i _ (List.getElem?_eq_getElem hi)
  subst he
  refine ⟨p, hp, ?_, ?_, ?_, h1, h2, h3⟩
  · have := hc 0 _ rfl; rwa [Nat.add_zero] at this
  · rw [add_add]; exact hc 1 _ rfl
  · rw [add_add]; exact hc 2 _ rfl

theorem rowsL_perm {t sp : Sl} {ys : List Int} {Z : List (Sl × List Int)} {R : List Asn} : (ownA t ys :: rowsA sp (Z ++ [(t, ys)]) :: ((Z.map fun z => ownA z.1 z.2) ++ R)).Perm (rowsL sp (Z ++ [(t, ys)]) ++ R) := by
  have h := (List.Perm.swap (rowsA sp (Z ++ [(t, ys)])) (ownA t ys) ((Z.map fun z => ownA z.1 z.2) ++ R)).trans (List.Perm.cons _ (List.perm_middle (l₁ := Z.map fun z => ownA z.1 z.2) (a := ownA t ys) (l₂ := R)).symm)
  have e : rowsL sp (Z ++ [(t, ys)]) ++ R = rowsA sp (Z ++ [(t, ys)]) :: ((Z.map fun z => ownA z.1 z.2) ++ ownA t ys :: R) := by
    unfold rowsL
    rw [List.map_append]
    show rowsA sp (Z ++ [(t, ys)]) :: (((Z.map fun z => ownA z.1 z.2) ++ [ownA t ys]) ++ R) = _
    rw [List.append_assoc]
    rfl
  rw [e]
  exact h

section
variable {W w w' : World} {L R Y K : List Asn} {y p pp a b stb : Addr} {A B B' T T1 : List Tm} {n m : Nat} {seS puS onS inS spS sr rounds1 xS : Sl} {ss : Nat → Sl} {st : MxS} {Z : List (Sl × List Int)} {secs pubs onions inL xs : List Int} {raw : Bool} {r k : Nat} {rl : List RndI}
  {RR : Value → World → Prop} {N2 : Sl → Bool → Option Addr → Option Addr → Sl → Sl → Addr → Sl → Int → World → Prop}

/-- behind an append to numbers -/
theorem PairAt.more_at (k : Nat) {s : Sl} {xs : List Int} (hk : R[k]? = some (ownA s xs)) (h : PairAt W w pp a b A B n R) (x : Int) (hx : xs.length ≤ 100000000) :
    ∃ (s' : Sl) (w' : World), (builtin .append #[29, 29] 29 #[] #[.slice s.a s.len s.cap, .slice (some (newA w)) 1 1]).run Tryd.prog (w.alloc (.cells #[.int .i64 x] 3)) = .ok (.value (.slice s'.a s'.len s'.cap)) w' ∧ PairAt W w' pp a b A B n (R.set k (ownA s' (xs ++ [x]))) := by
  obtain ⟨M, h1, h2⟩ := h
  obtain ⟨s', w', r, h3⟩ := Proofs.YtoclhecldmahiaaDoor.more_at (k + 3) (by simpa using hk) h1 x hx
  exact ⟨s', w', r, M, h3, h2⟩

theorem mr_c12 {N11 : Sl → Bool → Option Addr → Option Addr → Sl → Sl → Sl → Addr → Int → Sl → Sl → Int → World → Prop} (hil : inL.length ≤ 1000) (hxl : xs.length ≤ 200) (hZ1 : Z.length ≤ 1000)
    (h : PairAt W w pp a b A B n (pmxL stb sr ss st ++ (ownA onS onions :: ownA seS secs :: ownA puS pubs :: ownA inS inL :: (rowsL spS Z ++ [])))) (hx : ∀ w', Below W.heap.size W w' → Ints .i64 w' xS xs)
    (hN : ∀ sp' z w', z.2.length ≤ 1000 → PairAt W w' pp a b A B n (pmxL stb sr ss st ++ (ownA onS onions :: ownA seS secs :: ownA puS pubs :: ownA inS inL :: (rowsL sp' (Z ++ [z]) ++ []))) → N11 rounds1 raw (some pp) (some b) seS puS onS stb r inS sp' (IntKind.i64.wrap ((k : Int) + 1)) w') :
    trystlaw24_MixRounds.c12 RR N2 N11 rounds1 raw (some pp) (some b) seS puS onS stb r inS spS k xS w := by
  unfold trystlaw24_MixRounds.c12
  have his : inS.len = inL.length := h.mlen 8 rfl
  obtain ⟨M, h1, hr⟩ := h
  rw [his]
  refine (lawperm_at h1 raw (s := xS) (xs := xs) (n := inL.length) (by omega) (by omega) (fun L w' hw => hx w' hw.b)).mono ?_
  rintro _ w2 ⟨so, ys, rfl, hyl, _, h2⟩
  refine ⟨_, _, _, rfl, ?_⟩
  intro w3
  obtain ⟨s3, w4, run, h3⟩ := rows_more 13 rfl h2 so ys (by omega)
  refine ⟨_, _, _, w4, run, ?_⟩
  refine hN s3 (so, ys) w4 hyl ⟨M, ?_, hr⟩
  have h4 : At W w4 (ownA so ys :: ([prA pp a b M, arT a A, pgT b B, boxA stb [sV sr, sV (ss 0), sV (ss 1), sV (ss 2)], regA sr st.regs, ownA (ss 0) (st.seen 0), ownA (ss 1) (st.seen 1), ownA (ss 2) (st.seen 2), ownA onS onions, ownA seS secs, ownA puS pubs, ownA inS inL] ++ (rowsA s3 (Z ++ [(so, ys)]) :: ((Z.map fun z => ownA z.1 z.2) ++ [])))) := h3
  exact (h4.perm List.perm_middle.symm).perm (List.Perm.append_left _ rowsL_perm)

/-- the permutations of a round -/
theorem mr_c15 (hRR : ∀ w, Below W.heap.size W w → RR (.bool true) w) (hm : m ≤ 16) (hn : n ≤ 200000) (h0 : Rnd0 B st onions secs pubs m) (hin : ∀ x ∈ inL, inT B x) (hil : inL.length ≤ 1000) (hRd : Rnds W rounds1 rl) (hrl : r < rl.length) (hpl : (rl[r]'hrl).perms.length ≤ 10)
    (h : PairAt W w pp a b A B n (pmxL stb sr ss st ++ (ownA onS onions :: ownA seS secs :: ownA puS pubs :: ownA inS inL :: [])))
    (hN : ∀ sr ss st A B w', PairAt W w' pp a b A B (n + 602) (pmxL stb sr ss st ++ (ownA onS onions :: ownA seS secs :: ownA puS pubs :: [])) → Rnd0 B st onions secs pubs (m + 1) → N2 rounds1 raw (some pp) (some b) seS puS stb onS (IntKind.i64.wrap ((r : Int) + 1)) w') :
    trystlaw24_MixRounds.c15 RR N2 rounds1 raw (some pp) (some b) seS puS onS stb r inS w := by
  have hrs : rounds1.len = rl.length := hRd.len
  have rd : ∀ w', Below W.heap.size W w' → Rnds w' rounds1 rl := fun w' hb => hRd.keep RndC.stab hb
  have h' : PairAt W w pp a b A B n (pmxL stb sr ss st ++ (ownA onS onions :: ownA seS secs :: ownA puS pubs :: ownA inS inL :: (rowsL ⟨none, 0, 0⟩ [] ++ []))) := by
    obtain ⟨M, h1, hr⟩ := h
    have h2 := (PairAt.addK (K := rowsL ⟨none, 0, 0⟩ []) h1.rowsNil hr).perm List.perm_append_comm
    exact h2
  unfold trystlaw24_MixRounds.c15 trystlaw24_MixRounds.l11
  refine ⟨fun t w' => ∃ (k : Nat) (Z : List (Sl × List Int)), t.2 = k ∧ k ≤ 10 ∧ Z.length ≤ k ∧ (∀ z ∈ Z, z.2.length ≤ 1000) ∧ PairAt W w' pp a b A B n (pmxL stb sr ss st ++ (ownA onS onions :: ownA seS secs :: ownA puS pubs :: ownA inS inL :: (rowsL t.1 Z ++ []))), fun t _ => 10 - t.2.toNat, ⟨0, [], rfl, by omega, by simp, by simp, h'⟩, ?_⟩
  clear h' h
  rintro ⟨spS, _⟩ w1 ⟨k, Z, rfl, hk, hZk, hZl, h1⟩
  show trystlaw24_MixRounds.b11 _ _ _ _ _ _ _ _ _ _ _ _ _ spS (k : Int) w1
  have h1 : PairAt W w1 pp a b A B n (pmxL stb sr ss st ++ (ownA onS onions :: ownA seS secs :: ownA puS pubs :: ownA inS inL :: (rowsL spS Z ++ []))) := h1
  obtain ⟨q, hq, d0, d1, d2, _, _, hRw⟩ := (rd w1 h1.base).get hrl
  have hpl2 := hRw.len
  have c10 : trystlaw24_MixRounds.c10 RR N2 rounds1 raw (some pp) (some b) seS puS onS stb r inS spS w1 := mr_c10 hm hn h0 hin hZl (by omega) hil h1 hN
  -- one more row
  have c13 : ∀ {xS : Sl} {xs : List Int}, (k < 3 ∨ k < (rl[r]'hrl).perms.length) → (∀ w', Below W.heap.size W w' → Ints .i64 w' xS xs) → trystlaw24_MixRounds.c13 RR N2 (fun rounds1' raw2' p7' b9' secrets10' pubs11' onions12' st15' r16' in17' perms21' i22' w' => (rounds1' = rounds1 ∧ raw2' = raw ∧ p7' = some pp ∧ b9' = some b ∧ secrets10' = seS ∧ pubs11' = puS ∧ onions12' = onS ∧ st15' = stb ∧ r16' = (r : Int) ∧ in17' = inS ∧ ∃ (k : Nat) (Z : List (Sl × List Int)), i22' = k ∧ k ≤ 10 ∧ Z.length ≤ k ∧ (∀ z ∈ Z, z.2.length ≤ 1000) ∧ PairAt W w' pp a b A B n (pmxL stb sr ss st ++ (ownA onS onions :: ownA seS secs :: ownA puS pubs :: ownA inS inL :: (rowsL perms21' Z ++ [])))) ∧ 10 - i22'.toNat < 10 - ((k : Nat) : Int).toNat)
      rounds1 raw (some pp) (some b) seS puS onS stb r inS spS k xS w1 := by
    intro xS xs hk3 hx
    have hk10 : k < 10 := by omega
    have hxl := (hx w1 h1.base).len
    unfold trystlaw24_MixRounds.c13
    refine cond_d (fun hbig => hRR w1 h1.base) fun hsm => ?_
    have c12 : trystlaw24_MixRounds.c12 RR N2 (fun rounds1' raw2' p7' b9' secrets10' pubs11' onions12' st15' r16' in17' perms21' i22' w' => (rounds1' = rounds1 ∧ raw2' = raw ∧ p7' = some pp ∧ b9' = some b ∧ secrets10' = seS ∧ pubs11' = puS ∧ onions12' = onS ∧ st15' = stb ∧ r16' = (r : Int) ∧ in17' = inS ∧ ∃ (k : Nat) (Z : List (Sl × List Int)), i22' = k ∧ k ≤ 10 ∧ Z.length ≤ k ∧ (∀ z ∈ Z, z.2.length ≤ 1000) ∧ PairAt W w' pp a b A B n (pmxL stb sr ss st ++ (ownA onS onions :: ownA seS secs :: ownA puS pubs :: ownA inS inL :: (rowsL perms21' Z ++ [])))) ∧ 10 - i22'.toNat < 10 - ((k : Nat) : Int).toNat)
        rounds1 raw (some pp) (some b) seS puS onS stb r inS spS k xS w1 := by
      refine mr_c12 hil (xs := xs) (by omega) (by omega) h1 hx fun sp' z w' hz h2 => ?_
      rw [inc (by omega)]
      refine ⟨⟨rfl, rfl, rfl, rfl, rfl, rfl, rfl, rfl, rfl, rfl, k + 1, Z ++ [z], rfl, by omega, by rw [List.length_append]; simp; omega, fun z' hz' => ?_, h2⟩, by omega⟩
      rw [List.mem_append, List.mem_singleton] at hz'
      rcases hz' with hz' | rfl
      · exact hZl z' hz'
      · exact hz
    refine cond_d (p := ((k : Nat) : Int) < 3) (fun _ => c12) fun _ => cond_c (fun _ => c12) fun _ => ?_
    dsimp only
    rw [inc (by omega)]
    exact ⟨⟨rfl, rfl, rfl, rfl, rfl, rfl, rfl, rfl, rfl, rfl, k + 1, Z, rfl, by omega, by omega, hZl, h1⟩, by omega⟩
  have d2' : w1.cell? ((q.add (((r : Nat) : Int).toNat * 3)).add 2) = some (.slice (rl[r]'hrl).sp.a (rl[r]'hrl).sp.len (rl[r]'hrl).sp.cap) := by rw [Int.toNat_natCast]; exact d2
  have c14 : (k < 3 ∨ k < (rl[r]'hrl).perms.length) → trystlaw24_MixRounds.c14 RR N2 (fun rounds1' raw2' p7' b9' secrets10' pubs11' onions12' st15' r16' in17' perms21' i22' w' => (rounds1' = rounds1 ∧ raw2' = raw ∧ p7' = some pp ∧ b9' = some b ∧ secrets10' = seS ∧ pubs11' = puS ∧ onions12' = onS ∧ st15' = stb ∧ r16' = (r : Int) ∧ in17' = inS ∧ ∃ (k : Nat) (Z : List (Sl × List Int)), i22' = k ∧ k ≤ 10 ∧ Z.length ≤ k ∧ (∀ z ∈ Z, z.2.length ≤ 1000) ∧ PairAt W w' pp a b A B n (pmxL stb sr ss st ++ (ownA onS onions :: ownA seS secs :: ownA puS pubs :: ownA inS inL :: (rowsL perms21' Z ++ [])))) ∧ 10 - i22'.toNat < 10 - ((k : Nat) : Int).toNat)
      rounds1 raw (some pp) (some b) seS puS onS stb r inS spS k w1 := by
    intro hk3
    unfold trystlaw24_MixRounds.c14
    refine ⟨by omega, by omega, q, hq, _, _, _, d2', cond_d (p := ((k : Nat) : Int) < (((rl[r]'hrl).sp.len : Nat) : Int)) (fun hlt => ?_) fun hge => c13 hk3 (xs := []) fun w' _ => Ints.nil⟩
    have hkl : k < (rl[r]'hrl).perms.length := by omega
    obtain ⟨qs, hqs, hcs, hI⟩ := hRw.cell k _ (List.getElem?_eq_getElem hkl)
    refine ⟨by omega, by omega, q, hq, _, _, _, d2', by omega, hlt, qs, hqs, _, _, _, by rw [Int.toNat_natCast]; exact hcs, ?_⟩
    refine c13 hk3 (xS := ((rl[r]'hrl).perms[k]).1) (xs := ((rl[r]'hrl).perms[k]).2) fun w' hb => ?_
    obtain ⟨_, _, _, _, _, _, _, hRw'⟩ := (rd w' hb).get hrl
    obtain ⟨_, _, _, hI'⟩ := hRw'.cell k _ (List.getElem?_eq_getElem hkl)
    exact hI'
  unfold trystlaw24_MixRounds.b11
  refine ⟨by omega, by omega, q, hq, _, _, _, d2', cond_d (p := ((k : Nat) : Int) < (((rl[r]'hrl).sp.len : Nat) : Int)) (fun hlt => c14 (.inr (by omega))) fun hge => cond_d (p := ((k : Nat) : Int) < 3) (fun h3 => cond_not (fun _ => c14 (.inl (by omega))) fun _ => c10) fun _ => c10⟩
end

end Go.Proofs.YtoclhecldmahiaaDoor
