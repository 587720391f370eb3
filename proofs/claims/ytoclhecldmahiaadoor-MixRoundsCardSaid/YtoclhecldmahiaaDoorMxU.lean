/-
  MixRounds: one round.
-/
import Derived.Test.YtoclhecldmahiaaDoorMxS
set_option linter.unusedVariables false
set_option linter.unusedVariables false
set_option linter.unusedSimpArgs false
namespace Go.Proofs.YtoclhecldmahiaaDoor
open Go.Lf Go.RowKit

def Cells4 (u : World) (q : Addr) (a b c d : Value) : Prop := u.cell? q = some a ∧ u.cell? (q.add 1) = some b ∧ u.cell? (q.add 2) = some c ∧ u.cell? (q.add 3) = some d

/-- what the law holds from round to round -/
structure Rnd0 (B : List Tm) (st : MxS) (onions secs pubs : List Int) (m : Nat) : Prop where
  secl : secs.length = 3
  secin : ∀ x ∈ secs, inT B x
  publ : pubs.length = 3
  pubin : ∀ x ∈ pubs, inT B x ∧ (tmAt B x).kind = 5
  onin : ∀ x ∈ onions, inT B x
  regin : ∀ r ∈ st.regs, inT B r.1 ∧ inT B r.2
  seenin : ∀ k, k < 3 → ∀ x ∈ st.seen k, inT B x
  regl : st.regs.length ≤ 100 * m
  seenl : ∀ k, k < 3 → (st.seen k).length ≤ 300 * m
  onl : onions.length ≤ 100 * m
theorem Rnd0.mono {B B' : List Tm} (hE : Ext B B') {st : MxS} {onions secs pubs : List Int} {m : Nat} (h : Rnd0 B st onions secs pubs m) : Rnd0 B' st onions secs pubs m :=
  ⟨h.secl, fun x hx => hE.inT (h.secin x hx), h.publ, fun x hx => ⟨hE.inT (h.pubin x hx).1, by rw [tmAt_ext hE (h.pubin x hx).1]; exact (h.pubin x hx).2⟩, fun x hx => hE.inT (h.onin x hx), fun r hr => ⟨hE.inT (h.regin r hr).1, hE.inT (h.regin r hr).2⟩, fun k hk x hx => hE.inT (h.seenin k hk x hx), h.regl, h.seenl, h.onl⟩
theorem Rnd0.up {B : List Tm} {st : MxS} {onions secs pubs : List Int} {m : Nat} (h : Rnd0 B st onions secs pubs m) : Rnd0 B st onions secs pubs (m + 1) :=
  ⟨h.secl, h.secin, h.publ, h.pubin, h.onin, h.regin, h.seenin, by have := h.regl; omega, fun k hk => by have := h.seenl k hk; omega, by have := h.onl; omega⟩

def wrongB (l : List Int) (P : List (List Int)) : Int := if P.length ≠ 3 ∨ 100 < l.length then 2 else if ¬ ∀ p ∈ P, permOk p l.length then 1 else 0
theorem wrongT_B {T : List Tm} {st : MxS} {secs l la : List Int} {P : List (List Int)} (hs : secs.length = 3) (hl : la.length = l.length) (h : allIn T st secs la) : wrongT T st secs la P = wrongB l P := by
  unfold wrongT wrongB
  rw [hl]
  by_cases h1 : P.length ≠ 3 ∨ 100 < l.length
  · rw [if_pos (.inr h1), if_pos h1]
  · rw [if_neg (fun hh => hh.elim (fun hh => hh hs) h1), if_neg h1]
    by_cases h2 : ∀ p ∈ P, permOk p l.length
    · have a1 : ¬ ¬ ∀ p ∈ P, permOk p l.length := fun hh => hh h2
      have a2 : ¬ ¬ allIn T st secs la := fun hh => hh h
      rw [if_neg a1, if_neg a1, if_neg a2]
    · rw [if_pos h2, if_pos h2]

section
variable {W w w' : World} {L R Y K : List Asn} {y p pp a b stb nx tob : Addr} {A B B' T T1 : List Tm} {n m : Nat} {seS puS onS inS spS sr sr2 oS rounds1 : Sl} {ss ss2 : Nat → Sl} {st stn to : MxS} {Z : List (Sl × List Int)} {secs pubs onions inL out back : List Int} {raw : Bool} {r : Nat}
  {RR : Value → World → Prop} {N2 : Sl → Bool → Option Addr → Option Addr → Sl → Sl → Addr → Sl → Int → World → Prop}

theorem PairAt.cut (h : PairAt W w pp a b A B n (K ++ R)) : PairAt W w pp a b A B n R := h.onR fun M h1 => by
  have h2 : At W w (K ++ (prA pp a b M :: ([arT a A, pgT b B] ++ R))) := h1.perm (permK (K := K) (S := [arT a A, pgT b B])).symm
  exact h2.dropL
theorem PairAt.dropT (h : PairAt W w pp a b A B n (R ++ K)) : PairAt W w pp a b A B n R := (h.perm List.perm_append_comm).cut
theorem PairAt.cells4 (h : PairAt W w pp a b A B n R) (k : Nat) {q : Addr} {c d e f : Value} (hk : R[k]? = some (boxA q [c, d, e, f])) : Cells4 w q c d e f := ⟨h.mcell0 k hk, h.mcell k hk 1 rfl, h.mcell k hk 2 rfl, h.mcell k hk 3 rfl⟩

theorem mr_c3 (h : PairAt W w pp a b A B n (pmxL tob sr2 ss2 to ++ (pmxL stb sr ss st ++ R)))
    (hN : ∀ w', PairAt W w' pp a b A B n (pmxL stb sr2 ss2 to ++ R) → N2 rounds1 raw (some pp) (some b) seS puS stb onS (IntKind.i64.wrap ((r : Int) + 1)) w') : trystlaw24_MixRounds.c3 RR N2 rounds1 raw (some pp) (some b) seS puS onS stb r tob w := by
  unfold trystlaw24_MixRounds.c3
  obtain ⟨c0, c1, c2, c3⟩ := h.cells4 0 rfl
  obtain ⟨wr, h2⟩ := h.mset4 5 rfl (sV sr2) (sV (ss2 0)) (sV (ss2 1)) (sV (ss2 2))
  refine ⟨_, _, _, c0, _, _, _, c1, _, _, _, c2, _, _, _, c3, wr, ?_⟩
  refine hN _ ?_
  have h3 := ((((h2.mless 6 rfl).mless 6 rfl).mless 6 rfl).mless 6 rfl).mless 0 rfl
  have h3 : PairAt W _ pp a b A B n (mixL sr2 ss2 to ++ (boxA stb [sV sr2, sV (ss2 0), sV (ss2 1), sV (ss2 2)] :: R)) := h3
  exact h3.perm List.perm_middle

theorem to_in (h0 : Rnd0 B st onions secs pubs m) (hB : TOk B) {A' : List Tm} (hst : StEv A' (roundT B st secs inL (rowP Z)).1 stn (roundT B st secs inL (rowP Z)).2.1) (hout : EvL A' (roundT B st secs inL (rowP Z)).1 out (roundT B st secs inL (rowP Z)).2.2) :
    (∀ r ∈ (roundT B st secs inL (rowP Z)).2.1.regs, inT (if inL.length = 0 then B else (roundT B st secs inL (rowP Z)).1) r.1 ∧ inT (if inL.length = 0 then B else (roundT B st secs inL (rowP Z)).1) r.2) ∧
      (∀ k, k < 3 → ∀ x ∈ (roundT B st secs inL (rowP Z)).2.1.seen k, inT (if inL.length = 0 then B else (roundT B st secs inL (rowP Z)).1) x) ∧ ∀ x ∈ (roundT B st secs inL (rowP Z)).2.2, inT (if inL.length = 0 then B else (roundT B st secs inL (rowP Z)).1) x := by
  by_cases hz : inL.length = 0
  · have hz' := List.length_eq_zero_iff.1 hz
    subst hz'
    obtain ⟨e1, e2⟩ := rnd_nil (T := (wordT B).1) (nw := (wordT B).2.1) (secs := secs) (P := rowP Z) 3 (s := 0) (st := st)
    unfold roundT
    rw [e1, e2, if_pos (show ([] : List Int).length = 0 from rfl)]
    exact ⟨h0.regin, h0.seenin, by simp⟩
  · rw [if_neg hz]
    exact ⟨hst.regs.inB, fun k hk => (hst.seen k hk).inB, hout.inB⟩

set_option maxRecDepth 20000 in
theorem mr_c4 (hm : m ≤ 16) (hn : n ≤ 300000) (h0 : Rnd0 B st onions secs pubs m) (hin : ∀ x ∈ inL, inT B x) (hZl : ∀ z ∈ Z, z.2.length ≤ 1000)
    (h : PairAt W w pp a b A B n (pmxL nx sr2 ss2 stn ++ (ownA oS out :: (pmxL stb sr ss st ++ (ownA onS onions :: ownA seS secs :: ownA puS pubs :: ownA inS inL :: (rowsL spS Z ++ []))))))
    (hbad : wrongB inL (rowsP Z) ≠ 0 → stn = ⟨[], fun _ => []⟩ ∧ out = []) (hgood : wrongB inL (rowsP Z) = 0 → StEv A (roundT B st secs inL (rowP Z)).1 stn (roundT B st secs inL (rowP Z)).2.1 ∧ EvL A (roundT B st secs inL (rowP Z)).1 out (roundT B st secs inL (rowP Z)).2.2)
    (hsl : stn.regs.length ≤ 100000 ∧ ∀ k, k < 3 → (stn.seen k).length ≤ 100000) (hol : out.length ≤ 100000)
    (hN : ∀ sr ss st A B w', PairAt W w' pp a b A B (n + 301) (pmxL stb sr ss st ++ (ownA onS onions :: ownA seS secs :: ownA puS pubs :: [])) → Rnd0 B st onions secs pubs (m + 1) → N2 rounds1 raw (some pp) (some b) seS puS stb onS (IntKind.i64.wrap ((r : Int) + 1)) w') :
    trystlaw24_MixRounds.c4 RR N2 rounds1 raw (some pp) (some b) seS puS onS stb r inS spS nx oS (wrongB inL (rowsP Z)) (wrongB inL (rowsP Z)) w := by
  unfold trystlaw24_MixRounds.c4
  have hrn : ∀ k, k < 3 → (stn.seen k).length ≤ 100000000 := fun k hk => by have := hsl.2 k hk; omega
  refine cond_n (fun hne => cond_n (fun hh => absurd rfl hh) fun _ => ?_) fun he => ?_
  · obtain ⟨rfl, rfl⟩ := hbad hne
    have hoS : oS.len = 0 := h.mlen 5 rfl
    refine cond_d (fun hh => absurd hh (by omega)) fun _ => ?_
    obtain ⟨c0, c1, c2, c3⟩ := h.cells4 0 rfl
    refine ⟨_, _, _, c0, _, _, _, c1, _, _, _, c2, _, _, _, c3, ?_⟩
    obtain ⟨M, h1, hr⟩ := h
    have hM1 : MixRd W (prA pp a b M :: arT a A :: pgT b B :: (pmxL nx sr2 ss2 ⟨[], fun _ => []⟩ ++ (ownA oS [] :: (pmxL stb sr ss st ++ (ownA onS onions :: ownA seS secs :: ownA puS pubs :: ownA inS inL :: (rowsL spS Z ++ [])))))) sr2 ss2 ⟨[], fun _ => []⟩ := (MixRd.of hrn).up [_, _, _, _]
    have hM2 : MixRd W (prA pp a b M :: arT a A :: pgT b B :: (pmxL nx sr2 ss2 ⟨[], fun _ => []⟩ ++ (ownA oS [] :: (pmxL stb sr ss st ++ (ownA onS onions :: ownA seS secs :: ownA puS pubs :: ownA inS inL :: (rowsL spS Z ++ [])))))) ⟨none, 0, 0⟩ (fun _ => ⟨none, 0, 0⟩) ⟨[], fun _ => []⟩ := ⟨fun _ w' _ => Regs.nil w', fun _ _ _ _ _ => Ints.nil⟩
    refine (mixeq_at h1 hM1 hM2 (by simp)).mono ?_
    rintro _ w2 ⟨rfl, h2⟩
    refine ⟨_, rfl, cond_f' (by rw [decide_eq_true (show mixEq _ _ from ⟨rfl, fun _ _ => rfl⟩)]; rfl) ?_⟩
    have h3 : PairAt W w2 pp a b A B n ((pmxL nx sr2 ss2 ⟨[], fun _ => []⟩ ++ [ownA oS []]) ++ (pmxL stb sr ss st ++ (ownA onS onions :: ownA seS secs :: ownA puS pubs :: ownA inS inL :: (rowsL spS Z ++ [])))) := ⟨M, h2, hr⟩
    have h4 : PairAt W w2 pp a b A B n ((pmxL stb sr ss st ++ [ownA onS onions, ownA seS secs, ownA puS pubs]) ++ (ownA inS inL :: (rowsL spS Z ++ []))) := h3.cut
    exact hN _ _ _ _ _ _ (h4.dropT.mup (by omega)) h0.up
  · obtain ⟨hst, hout⟩ := hgood he
    obtain ⟨c0, c1, c2, c3⟩ := h.cells4 6 rfl
    refine ⟨_, _, _, c0, _, _, _, c1, _, _, _, c2, _, _, _, c3, ?_⟩
    obtain ⟨M, h1, hp, hnb, l1, l2⟩ := h.toB
    have hokB : TOk B := h1.pok
    have hBl : B.length ≤ 300000 := by omega
    have hwT : wrongT B st secs inL (rowsP Z) = 0 := by rw [wrongT_B h0.secl rfl ⟨h0.regin, h0.secin, hin, h0.seenin⟩]; exact he
    obtain ⟨hZ, hRd⟩ := wrongT_in (hokB.put _) (by omega) hwT
    have hfew := hRd.few
    have hregl := h0.regl
    have hseenl := h0.seenl
    have hM : MixRd W (prA pp a b M :: arT a A :: (pmxL nx sr2 ss2 stn ++ (ownA oS out :: (pmxL stb sr ss st ++ (ownA onS onions :: ownA seS secs :: ownA puS pubs :: ownA inS inL :: (rowsL spS Z ++ [])))))) sr ss st :=
      (MixRd.of (R := ownA onS onions :: ownA seS secs :: ownA puS pubs :: ownA inS inL :: (rowsL spS Z ++ [])) (fun k hk => by have := hseenl k hk; omega)).up [prA pp a b M, arT a A, boxA nx [sV sr2, sV (ss2 0), sV (ss2 1), sV (ss2 2)], regA sr2 stn.regs, ownA (ss2 0) (stn.seen 0), ownA (ss2 1) (stn.seen 1), ownA (ss2 2) (stn.seen 2), ownA oS out, boxA stb [sV sr, sV (ss 0), sV (ss 1), sV (ss 2)]]
    have hsl3 := h0.secl
    refine (rround_at h1 hM (by omega) (fun k hk => by have := hseenl k hk; omega) (by omega) hZ hRd h0.secin hin (fun L w' hw => rowNow 14 rfl hw.dropL.s (by omega)) (fun L w' hw => rowNow 16 rfl hw.dropL.s (by omega))
      (fun L w' hw => rowsRd (fun z hz => by have := hZl z hz; omega) (L ++ [prA pp a b M, arT a A, boxA nx [sV sr2, sV (ss2 0), sV (ss2 1), sV (ss2 2)], regA sr2 stn.regs, ownA (ss2 0) (stn.seen 0), ownA (ss2 1) (stn.seen 1), ownA (ss2 2) (stn.seen 2), ownA oS out, boxA stb [sV sr, sV (ss 0), sV (ss 1), sV (ss 2)], regA sr st.regs, ownA (ss 0) (st.seen 0), ownA (ss 1) (st.seen 1), ownA (ss 2) (st.seen 2), ownA onS onions, ownA seS secs, ownA puS pubs, ownA inS inL]) w' (by rw [List.append_assoc]; exact hw))).mono ?_
    rintro _ w4 ⟨sr3, bk, ss3, rfl, h4⟩
    refine ⟨_, _, _, _, _, _, _, _, _, _, _, _, _, _, _, rfl, ?_⟩
    obtain ⟨_, _, _, _, gw⟩ := wordT_good (T := B) (by omega)
    have gwl := gw.len
    obtain ⟨g, _, _, _⟩ := rnd_good 3 (s := 0) rfl hRd (by omega)
    have gl := g.len
    obtain ⟨t1, t2, t3⟩ := to_in h0 hokB hst hout
    have hl1 := (rnd_len (T := (wordT B).1) (nw := (wordT B).2.1) (secs := secs) (P := rowP Z) 3 (s := 0) (st := st) (l := inL)).1
    have hl2 := (rnd_len (T := (wordT B).1) (nw := (wordT B).2.1) (secs := secs) (P := rowP Z) 3 (s := 0) (st := st) (l := inL)).2
    have hbl : (roundT B st secs inL (rowP Z)).2.2.length ≤ 100 := by have := (rnd_good 3 (s := 0) rfl hRd (by omega)).2.1; show (rndT _ _ _ _ _ _ _ _).2.2.length ≤ _; omega
    have gB' : Grown B (roundT B st secs inL (rowP Z)).1 301 := ⟨gw.ext.trans g.ext, by show (rndT _ _ _ _ _ _ _ _).1.length ≤ _; omega, fun hb => g.nb (gw.nb hb)⟩
    generalize hto : (roundT B st secs inL (rowP Z)).2.1 = to at h4 hst t1 t2
    generalize hbk : (roundT B st secs inL (rowP Z)).2.2 = back at h4 hout t3 hbl
    generalize hB' : (roundT B st secs inL (rowP Z)).1 = B' at h4 hst hout t1 t2 t3 gB'
    have hto' : (rndT (wordT B).1 (wordT B).2.1 secs (rowP Z) 3 0 st inL).2.1 = to := hto
    rw [hto'] at hl1 hl2
    obtain ⟨B2, hB2⟩ : ∃ B2, B2 = if inL.length = 0 then B else B' := ⟨_, rfl⟩
    rw [← hB2] at h4 t1 t2 t3
    have gB2 : Grown B B2 301 ∧ Ext B2 B' := by
      rw [hB2]
      by_cases hz : inL.length = 0
      · rw [if_pos hz]; exact ⟨(Grown.refl B).up (by omega), gB'.ext⟩
      · rw [if_neg hz]; exact ⟨gB', Ext.refl _⟩
    have h5 : PairAt W w4 pp a b A B2 (n + 301) ((mixL sr3 ss3 to ++ [ownA bk back]) ++ (pmxL nx sr2 ss2 stn ++ (ownA oS out :: (pmxL stb sr ss st ++ (ownA onS onions :: ownA seS secs :: ownA puS pubs :: ownA inS inL :: (rowsL spS Z ++ [])))))) := by
      refine PairAt.ofB (M := M) ?_ hp gB2.1.ext gB2.1.len (gB2.1.nb hnb) l1 l2
      refine h4.perm (List.Perm.cons _ ?_)
      exact permK (K := mixL sr3 ss3 to ++ [ownA bk back]) (S := [arT a A])
    intro w5
    obtain ⟨wr6, h6⟩ := h5.mtmp 127 (zs := nil4) (cs := [sV sr3, sV (ss3 0), sV (ss3 1), sV (ss3 2)]) rfl
    refine ⟨wr6, ?_⟩
    intro w6
    have h6 : PairAt W w6 pp a b A B2 (n + 301) (pmxL (newA w4) sr3 ss3 to ++ (ownA bk back :: (pmxL nx sr2 ss2 stn ++ (ownA oS out :: (pmxL stb sr ss st ++ (ownA onS onions :: ownA seS secs :: ownA puS pubs :: ownA inS inL :: (rowsL spS Z ++ []))))))) := h6
    clear_value w6
    generalize newA w4 = tob at h6 ⊢
    have hd := h6.drew
    have d1 := hd.cells4 6 rfl
    have d2 := hd.cells4 0 rfl
    refine ⟨fun u => Cells4 u nx (sV sr2) (sV (ss2 0)) (sV (ss2 1)) (sV (ss2 2)) ∧ Cells4 u tob (sV sr3) (sV (ss3 0)) (sV (ss3 1)) (sV (ss3 2)), ⟨d1, d2⟩, cond_n (fun hh => absurd he hh) fun _ => ?_⟩
    refine ⟨_, _, _, fun u hu => hu.1.1, _, _, _, fun u hu => hu.1.2.1, _, _, _, fun u hu => hu.1.2.2.1, _, _, _, fun u hu => hu.1.2.2.2, _, _, _, fun u hu => hu.2.1, _, _, _, fun u hu => hu.2.2.1, _, _, _, fun u hu => hu.2.2.2.1, _, _, _, fun u hu => hu.2.2.2.2, ?_⟩
    refine (state_at hd (by omega) (sr := sr3) (ss := ss3) (st := to) ((MixRd.of (R := ownA bk back :: (pmxL nx sr2 ss2 stn ++ (ownA oS out :: (pmxL stb sr ss st ++ (ownA onS onions :: ownA seS secs :: ownA puS pubs :: ownA inS inL :: (rowsL spS Z ++ [])))))) (fun k hk => by have := hl2 k; have := hseenl k hk; omega)).up [boxA tob [sV sr3, sV (ss3 0), sV (ss3 1), sV (ss3 2)]]) (by omega) (fun k hk => by have := hl2 k; have := hseenl k hk; omega)).mono ?_
    rintro _ w7 ⟨sr4, ss4, st4, A4, rfl, h7, hE4, hr4, hs4⟩
    have f1 := h7.cells4 10 rfl
    have f2 := h7.cells4 4 rfl
    refine ⟨_, _, _, _, _, _, _, _, _, _, _, _, rfl, ⟨f1, f2⟩, ?_⟩
    have hokA : TOk A4 := h7.ok.1
    have he1 : stn.regs = st4.regs := RegEv.left hokA (hst.regs.mono hE4 (Ext.refl _)) ((hr4.ev t1).mono (Ext.refl _) gB2.2)
    have he2 : ∀ k, k < 3 → stn.seen k = st4.seen k := fun k hk => EvL.left hokA ((hst.seen k hk).mono hE4 (Ext.refl _)) (((hs4 k hk).ev (t2 k hk)).mono (Ext.refl _) gB2.2)
    obtain ⟨M7, h7a, hr7⟩ := h7
    have hM1 : MixRd W (prA pp a b M7 :: arT a A4 :: pgT b B2 :: (mixL sr4 ss4 st4 ++ (pmxL tob sr3 ss3 to ++ (ownA bk back :: (pmxL nx sr2 ss2 stn ++ (ownA oS out :: (pmxL stb sr ss st ++ (ownA onS onions :: ownA seS secs :: ownA puS pubs :: ownA inS inL :: (rowsL spS Z ++ []))))))))) sr2 ss2 stn :=
      (MixRd.of (R := ownA oS out :: (pmxL stb sr ss st ++ (ownA onS onions :: ownA seS secs :: ownA puS pubs :: ownA inS inL :: (rowsL spS Z ++ [])))) hrn).up [prA pp a b M7, arT a A4, pgT b B2, regA sr4 st4.regs, ownA (ss4 0) (st4.seen 0), ownA (ss4 1) (st4.seen 1), ownA (ss4 2) (st4.seen 2), boxA tob [sV sr3, sV (ss3 0), sV (ss3 1), sV (ss3 2)], regA sr3 to.regs, ownA (ss3 0) (to.seen 0), ownA (ss3 1) (to.seen 1), ownA (ss3 2) (to.seen 2), ownA bk back, boxA nx [sV sr2, sV (ss2 0), sV (ss2 1), sV (ss2 2)]]
    have hM2 : MixRd W (prA pp a b M7 :: arT a A4 :: pgT b B2 :: (mixL sr4 ss4 st4 ++ (pmxL tob sr3 ss3 to ++ (ownA bk back :: (pmxL nx sr2 ss2 stn ++ (ownA oS out :: (pmxL stb sr ss st ++ (ownA onS onions :: ownA seS secs :: ownA puS pubs :: ownA inS inL :: (rowsL spS Z ++ []))))))))) sr4 ss4 st4 :=
      (MixRd.of (R := pmxL tob sr3 ss3 to ++ (ownA bk back :: (pmxL nx sr2 ss2 stn ++ (ownA oS out :: (pmxL stb sr ss st ++ (ownA onS onions :: ownA seS secs :: ownA puS pubs :: ownA inS inL :: (rowsL spS Z ++ []))))))) (fun k hk => by rw [← he2 k hk]; exact hrn k hk)).up [prA pp a b M7, arT a A4, pgT b B2]
    refine (mixeq_at h7a hM1 hM2 (by omega)).mono ?_
    rintro _ w8 ⟨rfl, h8⟩
    refine ⟨_, rfl, cond_f' (by rw [decide_eq_true (show mixEq _ _ from ⟨he1, he2⟩)]; rfl) ?_⟩
    have h8 : PairAt W w8 pp a b A4 B2 (n + 301) (mixL sr4 ss4 st4 ++ (pmxL tob sr3 ss3 to ++ (ownA bk back :: (pmxL nx sr2 ss2 stn ++ (ownA oS out :: (pmxL stb sr ss st ++ (ownA onS onions :: ownA seS secs :: ownA puS pubs :: ownA inS inL :: (rowsL spS Z ++ [])))))))) := ⟨M7, h8, hr7⟩
    refine (pTs_at h8 (by omega) (s := bk) (xs := back) (by omega) (fun L w' hw => rowNow 9 rfl hw.dropL.s (by omega))).mono ?_
    rintro _ w9 ⟨tS, ts, A5, rfl, h9, hE5, hr9⟩
    refine ⟨_, _, _, rfl, ?_⟩
    have hokA5 : TOk A5 := h9.ok.1
    have he3 : out = ts := EvL.left hokA5 (hout.mono (hE4.trans hE5) (Ext.refl _)) ((hr9.ev t3).mono (Ext.refl _) gB2.2)
    have htl : ts.length ≤ 100000 := by rw [← he3]; exact hol
    obtain ⟨M9, h9a, hr9a⟩ := h9
    refine (ints_spec (s := oS) (t := tS) (xs := out) (ys := ts) (rowNow 19 rfl h9a.s (by omega)) (rowNow 3 rfl h9a.s (by omega))).mono ?_
    rintro _ w10 ⟨rfl, hsm⟩
    refine ⟨_, rfl, cond_f' (by rw [decide_eq_true he3]; rfl) ?_⟩
    have h10 : PairAt W w10 pp a b A5 B2 (n + 301) (ownA tS ts :: (mixL sr4 ss4 st4 ++ (pmxL tob sr3 ss3 to ++ (ownA bk back :: (pmxL nx sr2 ss2 stn ++ (ownA oS out :: (pmxL stb sr ss st ++ (ownA onS onions :: ownA seS secs :: ownA puS pubs :: ownA inS inL :: (rowsL spS Z ++ []))))))))) := ⟨M9, h9a.same hsm, hr9a⟩
    have h11 : PairAt W w10 pp a b A5 B2 (n + 301) (pmxL tob sr3 ss3 to ++ (ownA bk back :: (pmxL nx sr2 ss2 stn ++ (ownA oS out :: (pmxL stb sr ss st ++ (ownA onS onions :: ownA seS secs :: ownA puS pubs :: ownA inS inL :: (rowsL spS Z ++ []))))))) := h10.dropR.cut
    have h12 : PairAt W w10 pp a b A5 B2 (n + 301) (pmxL tob sr3 ss3 to ++ (pmxL stb sr ss st ++ (ownA onS onions :: ownA seS secs :: ownA puS pubs :: ownA inS inL :: (rowsL spS Z ++ [])))) := ((((((h11.mless 5 rfl).mless 5 rfl).mless 5 rfl).mless 5 rfl).mless 5 rfl).mless 5 rfl).mless 5 rfl
    refine mr_c3 h12 fun w11 h13 => ?_
    have h14 : PairAt W w11 pp a b A5 B2 (n + 301) ((pmxL stb sr3 ss3 to ++ [ownA onS onions, ownA seS secs, ownA puS pubs]) ++ (ownA inS inL :: (rowsL spS Z ++ []))) := h13
    have h0' := h0.mono gB2.1.ext
    exact hN _ _ _ _ _ _ h14.dropT ⟨h0'.secl, h0'.secin, h0'.publ, h0'.pubin, h0'.onin, t1, t2, by omega, fun k hk => by have := hl2 k; have := hseenl k hk; omega, by have := h0.onl; omega⟩
end

end Go.Proofs.YtoclhecldmahiaaDoor

/-
  MixRounds: a round on both arenas.
-/
set_option linter.unusedVariables false
set_option linter.unusedSimpArgs false
namespace Go.Proofs.YtoclhecldmahiaaDoor
open Go.Lf Go.RowKit

theorem rowP_eq {Z Z' : List (Sl × List Int)} (h : rowsP Z' = rowsP Z) : rowP Z' = rowP Z := by
  have e : ∀ (Z : List (Sl × List Int)) (k : Nat), rowP Z k = ((rowsP Z)[k]?).getD [] := by
    intro Z k
    unfold rowP rowsP
    rw [List.getElem?_map]
    cases Z[k]? <;> rfl
  funext k
  rw [e, e, h]

theorem round_rel {A B : List Tm} {sA st : MxS} {za secs ya inL : List Int} {Z Z' : List (Sl × List Int)} (hA : TOk A) (hB : TOk B) (hlA : A.length ≤ 600000) (hlB : B.length ≤ 600000) (hreg : RegRel A B sA.regs st.regs) (hseen : ∀ k, k < 3 → RelL A B (sA.seen k) (st.seen k)) (hz : RelL A B za secs) (hy : RelL A B ya inL)
    (hsl : secs.length = 3) (i1 : ∀ r ∈ st.regs, inT B r.1 ∧ inT B r.2) (i2 : ∀ k, k < 3 → ∀ x ∈ st.seen k, inT B x) (i3 : ∀ x ∈ secs, inT B x) (i4 : ∀ x ∈ inL, inT B x) (hP : rowsP Z' = rowsP Z) :
    wrongT A sA za ya (rowsP Z') = wrongB inL (rowsP Z) ∧ (wrongB inL (rowsP Z) = 0 → StEv (roundT A sA za ya (rowP Z')).1 (roundT B st secs inL (rowP Z)).1 (roundT A sA za ya (rowP Z')).2.1 (roundT B st secs inL (rowP Z)).2.1 ∧
      EvL (roundT A sA za ya (rowP Z')).1 (roundT B st secs inL (rowP Z)).1 (roundT A sA za ya (rowP Z')).2.2 (roundT B st secs inL (rowP Z)).2.2) := by
  have wA : wrongT A sA za ya (rowsP Z') = wrongB inL (rowsP Z) := by
    rw [hP]
    exact wrongT_B (by have := hz.1; omega) hy.1 ⟨hreg.inA.2 i1, (RelL.inA hz).2 i3, (RelL.inA hy).2 i4, fun k hk => (RelL.inA (hseen k hk)).2 (i2 k hk)⟩
  refine ⟨wA, fun h0 => ?_⟩
  have wB : wrongT B st secs inL (rowsP Z) = 0 := by rw [wrongT_B hsl rfl ⟨i1, i3, i4, i2⟩]; exact h0
  obtain ⟨_, rA⟩ := wrongT_in (hA.put _) (by omega) (show wrongT A sA za ya (rowsP Z') = 0 by rw [wA]; exact h0)
  obtain ⟨_, rB⟩ := wrongT_in (hB.put _) (by omega) wB
  obtain ⟨_, _, _, _, ga⟩ := wordT_good (T := A) (by omega)
  obtain ⟨_, _, _, _, gb⟩ := wordT_good (T := B) (by omega)
  have gal := ga.len
  have gbl := gb.len
  obtain ⟨_, _, hw⟩ := Ev.put (A := A) (B := B) (k := 2) (n := 0) (EvL.nil A B) (err_word (by omega)) (by omega) (by omega)
  rw [rowP_eq hP] at rA ⊢
  exact rnd_ev (A := (wordT A).1) (B := (wordT B).1) (hA.put _) (hB.put _) hw ((hz.ev i3).mono ga.ext gb.ext) 3 rfl rA rB (by omega) (by omega) (StEv.mono ga.ext gb.ext ⟨hreg.ev i1, fun k hk => (hseen k hk).ev (i2 k hk)⟩) ((hy.ev i4).mono ga.ext gb.ext)

section
variable {W w w' : World} {L R Y K : List Asn} {y p pp a b stb nx tob xb ub : Addr} {A B B' T T1 : List Tm} {n m : Nat} {seS puS onS inS spS sr sr1 sr2 su oS yS vS rounds1 : Sl} {ss ss1 ss2 ssu : Nat → Sl} {st stn to sA : MxS} {Z : List (Sl × List Int)} {secs pubs onions inL out back ya : List Int} {raw : Bool} {r : Nat}
  {RR : Value → World → Prop} {N2 : Sl → Bool → Option Addr → Option Addr → Sl → Sl → Addr → Sl → Int → World → Prop}

theorem mr_c8 (hm : m ≤ 16) (hn : n ≤ 300000) (h0 : Rnd0 B st onions secs pubs m) (hin : ∀ x ∈ inL, inT B x) (hZl : ∀ z ∈ Z, z.2.length ≤ 1000) (hZ1 : Z.length ≤ 1000) (hil : inL.length ≤ 1000)
    (h : PairAt W w pp a b A B n (pmxL nx sr2 ss2 stn ++ (ownA oS out :: (pmxL stb sr ss st ++ (ownA onS onions :: ownA seS secs :: ownA puS pubs :: ownA inS inL :: (rowsL spS Z ++ []))))))
    (hbad : wrongB inL (rowsP Z) ≠ 0 → stn = ⟨[], fun _ => []⟩ ∧ out = []) (hgood : wrongB inL (rowsP Z) = 0 → StEv A (roundT B st secs inL (rowP Z)).1 stn (roundT B st secs inL (rowP Z)).2.1 ∧ EvL A (roundT B st secs inL (rowP Z)).1 out (roundT B st secs inL (rowP Z)).2.2)
    (hsl : stn.regs.length ≤ 100000 ∧ ∀ k, k < 3 → (stn.seen k).length ≤ 100000) (hol : out.length ≤ 100000)
    (hN : ∀ sr ss st A B w', PairAt W w' pp a b A B (n + 301) (pmxL stb sr ss st ++ (ownA onS onions :: ownA seS secs :: ownA puS pubs :: [])) → Rnd0 B st onions secs pubs (m + 1) → N2 rounds1 raw (some pp) (some b) seS puS stb onS (IntKind.i64.wrap ((r : Int) + 1)) w') :
    trystlaw24_MixRounds.c8 RR N2 rounds1 raw (some pp) (some b) seS puS onS stb r inS spS nx oS (wrongB inL (rowsP Z)) w := by
  have rd : ∀ (M : List Nat) (L : List Asn) (w' : World), At W w' (L ++ (prA pp a b M :: arT a A :: pgT b B :: (pmxL nx sr2 ss2 stn ++ (ownA oS out :: (pmxL stb sr ss st ++ (ownA onS onions :: ownA seS secs :: ownA puS pubs :: ownA inS inL :: (rowsL spS Z ++ []))))))) → Rw w' spS Z := fun M L w' hw =>
    rowsRd (fun z hz => by have := hZl z hz; omega) (L ++ (prA pp a b M :: arT a A :: pgT b B :: (pmxL nx sr2 ss2 stn ++ (ownA oS out :: (pmxL stb sr ss st ++ [ownA onS onions, ownA seS secs, ownA puS pubs, ownA inS inL]))))) w' (by rw [List.append_assoc]; exact hw)
  have hsp : spS.len = Z.length := by obtain ⟨M, h1, _⟩ := h; exact (rd M [] w h1).len
  have his : inS.len = inL.length := h.mlen 14 rfl
  have hPl : (rowsP Z).length = Z.length := by simp [rowsP]
  have l5 : ∀ want0 : Int, (want0 = wrongB inL (rowsP Z) ∨ (want0 = 0 ∧ ¬ ((rowsP Z).length ≠ 3 ∨ 100 < inL.length))) → trystlaw24_MixRounds.c7 RR N2 rounds1 raw (some pp) (some b) seS puS onS stb r inS spS nx oS (wrongB inL (rowsP Z)) want0 w := by
    intro want0 hw0
    unfold trystlaw24_MixRounds.c7 trystlaw24_MixRounds.l5
    refine ⟨fun t w' => ∃ k : Nat, t.2 = k ∧ k ≤ Z.length ∧ (t.1 = wrongB inL (rowsP Z) ∨ (t.1 = 0 ∧ ¬ ((rowsP Z).length ≠ 3 ∨ 100 < inL.length) ∧ ∀ p ∈ (rowsP Z).take k, permOk p inL.length)) ∧ PairAt W w' pp a b A B n (pmxL nx sr2 ss2 stn ++ (ownA oS out :: (pmxL stb sr ss st ++ (ownA onS onions :: ownA seS secs :: ownA puS pubs :: ownA inS inL :: (rowsL spS Z ++ []))))), fun t _ => Z.length - t.2.toNat,
      ⟨0, rfl, Nat.zero_le _, hw0.imp id fun hh => ⟨hh.1, hh.2, by simp⟩, h⟩, ?_⟩
    clear h
    rintro ⟨want, _⟩ w1 ⟨k, rfl, hk, hwant, h1⟩
    show trystlaw24_MixRounds.b5 _ _ _ _ _ _ _ _ _ _ _ _ _ _ _ _ _ want (k : Int) w1
    have hwant : want = wrongB inL (rowsP Z) ∨ (want = 0 ∧ ¬ ((rowsP Z).length ≠ 3 ∨ 100 < inL.length) ∧ ∀ p ∈ (rowsP Z).take k, permOk p inL.length) := hwant
    have done : want = wrongB inL (rowsP Z) → trystlaw24_MixRounds.c4 RR N2 rounds1 raw (some pp) (some b) seS puS onS stb r inS spS nx oS (wrongB inL (rowsP Z)) want w1 := fun e => by
      rw [e]
      exact mr_c4 hm hn h0 hin hZl h1 hbad hgood hsl hol hN
    unfold trystlaw24_MixRounds.b5
    refine cond_d (p := ((k : Nat) : Int) < ((spS.len : Nat) : Int)) (fun hlt => cond_e (fun hz => ?_) fun hnz => ?_) fun hge => ?_
    · have hkl : k < Z.length := by omega
      subst hz
      rcases hwant with hwr | ⟨_, hsm, hall⟩
      · -- all is well anyway
        unfold trystlaw24_MixRounds.c6
        obtain ⟨M, h1a, hr⟩ := h1
        obtain ⟨q, hq, hc, hI⟩ := (rd M [] w1 h1a).cell k _ (List.getElem?_eq_getElem hkl)
        refine ⟨by omega, hlt, q, hq, _, _, _, by rw [Int.toNat_natCast]; exact hc, ?_⟩
        rw [his]
        refine (rperm_at h1a (s := Z[k].1) (ps := Z[k].2) (n := inL.length) (by omega) (fun L w' hw => by obtain ⟨_, _, _, hI⟩ := (rd M L w' hw).cell k _ (List.getElem?_eq_getElem hkl); exact hI)).mono ?_
        rintro _ w2 ⟨rfl, h2⟩
        have hok : ∀ p ∈ rowsP Z, permOk p inL.length := by
          have : wrongB inL (rowsP Z) = 0 := hwr.symm
          unfold wrongB at this
          split at this
          · omega
          · split at this
            · omega
            · rename_i h3; exact Classical.byContradiction h3
        refine ⟨_, rfl, cond_f' (by rw [decide_eq_true (hok _ (List.mem_map.2 ⟨_, List.getElem_mem hkl, rfl⟩))]; rfl) ?_⟩
        dsimp only
        rw [inc (by omega)]
        exact ⟨⟨rfl, rfl, rfl, rfl, rfl, rfl, rfl, rfl, rfl, rfl, rfl, rfl, rfl, rfl, k + 1, rfl, by omega, .inl hwr, M, h2, hr⟩, by (try dsimp only); omega⟩
      · unfold trystlaw24_MixRounds.c6
        obtain ⟨M, h1a, hr⟩ := h1
        obtain ⟨q, hq, hc, hI⟩ := (rd M [] w1 h1a).cell k _ (List.getElem?_eq_getElem hkl)
        refine ⟨by omega, hlt, q, hq, _, _, _, by rw [Int.toNat_natCast]; exact hc, ?_⟩
        rw [his]
        refine (rperm_at h1a (s := Z[k].1) (ps := Z[k].2) (n := inL.length) (by omega) (fun L w' hw => by obtain ⟨_, _, _, hI⟩ := (rd M L w' hw).cell k _ (List.getElem?_eq_getElem hkl); exact hI)).mono ?_
        rintro _ w2 ⟨rfl, h2⟩
        refine ⟨_, rfl, cond_not (fun hf => ?_) fun ht => ?_⟩
        · have hf := of_decide_eq_false hf
          dsimp only
          rw [inc (by omega)]
          refine ⟨⟨rfl, rfl, rfl, rfl, rfl, rfl, rfl, rfl, rfl, rfl, rfl, rfl, rfl, rfl, k + 1, rfl, by omega, .inl ?_, M, h2, hr⟩, by (try dsimp only); omega⟩
          unfold wrongB
          rw [if_neg hsm, if_pos (fun hh => hf (hh _ (List.mem_map.2 ⟨_, List.getElem_mem hkl, rfl⟩)))]
        · have ht := of_decide_eq_true ht
          dsimp only
          rw [inc (by omega)]
          refine ⟨⟨rfl, rfl, rfl, rfl, rfl, rfl, rfl, rfl, rfl, rfl, rfl, rfl, rfl, rfl, k + 1, rfl, by omega, .inr ⟨rfl, hsm, fun x hx => ?_⟩, M, h2, hr⟩, by (try dsimp only); omega⟩
          rw [List.take_succ_eq_append_getElem (by omega), List.mem_append, List.mem_singleton] at hx
          rcases hx with hx | rfl
          · exact hall x hx
          · simpa [rowsP] using ht
    · exact done (hwant.elim id fun hh => absurd hh.1 hnz)
    · refine done (hwant.elim id fun hh => ?_)
      obtain ⟨e, hsm, hall⟩ := hh
      rw [List.take_of_length_le (by omega)] at hall
      have a1 : ¬ ¬ ∀ p ∈ rowsP Z, permOk p inL.length := fun hh => hh hall
      unfold wrongB
      rw [e, if_neg hsm, if_neg a1]
  unfold trystlaw24_MixRounds.c8
  refine cond_n (fun hne => l5 2 (.inl ?_)) fun e3 => cond_d (fun hgt => l5 2 (.inl ?_)) fun hle => l5 0 (.inr ⟨rfl, by omega⟩)
  · unfold wrongB; rw [if_pos (.inl (by omega))]
  · unfold wrongB; rw [if_pos (.inr (by omega))]

theorem mr_c9 (hm : m ≤ 16) (hn : n ≤ 300000) (h0 : Rnd0 B st onions secs pubs m) (hin : ∀ x ∈ inL, inT B x) (hZl : ∀ z ∈ Z, z.2.length ≤ 1000) (hZ1 : Z.length ≤ 1000) (hil : inL.length ≤ 1000)
    (h : PairAt W w pp a b A B n (pmxL nx sr2 ss2 stn ++ (ownA oS out :: (pmxL ub su ssu sA ++ (ownA vS ya :: (pmxL xb sr1 ss1 sA ++ (ownA yS ya :: (pmxL stb sr ss st ++ (ownA onS onions :: ownA seS secs :: ownA puS pubs :: ownA inS inL :: (rowsL spS Z ++ []))))))))))
    (hbad : wrongB inL (rowsP Z) ≠ 0 → stn = ⟨[], fun _ => []⟩ ∧ out = []) (hgood : wrongB inL (rowsP Z) = 0 → StEv A (roundT B st secs inL (rowP Z)).1 stn (roundT B st secs inL (rowP Z)).2.1 ∧ EvL A (roundT B st secs inL (rowP Z)).1 out (roundT B st secs inL (rowP Z)).2.2)
    (hsl : stn.regs.length ≤ 100000 ∧ ∀ k, k < 3 → (stn.seen k).length ≤ 100000) (hol : out.length ≤ 100000) (hsA : sA.regs.length ≤ 100000 ∧ ∀ k, k < 3 → (sA.seen k).length ≤ 100000) (hyl : ya.length ≤ 1000)
    (hN : ∀ sr ss st A B w', PairAt W w' pp a b A B (n + 301) (pmxL stb sr ss st ++ (ownA onS onions :: ownA seS secs :: ownA puS pubs :: [])) → Rnd0 B st onions secs pubs (m + 1) → N2 rounds1 raw (some pp) (some b) seS puS stb onS (IntKind.i64.wrap ((r : Int) + 1)) w') :
    trystlaw24_MixRounds.c9 RR N2 rounds1 raw (some pp) (some b) seS puS onS stb r inS spS xb yS ub vS nx oS (wrongB inL (rowsP Z)) w := by
  unfold trystlaw24_MixRounds.c9
  obtain ⟨u0, u1, u2, u3⟩ := h.cells4 6 rfl
  obtain ⟨x0, x1, x2, x3⟩ := h.cells4 12 rfl
  refine ⟨_, _, _, u0, _, _, _, u1, _, _, _, u2, _, _, _, u3, _, _, _, x0, _, _, _, x1, _, _, _, x2, _, _, _, x3, ?_⟩
  obtain ⟨M, h1, hr⟩ := h
  have hk : ∀ k, k < 3 → (sA.seen k).length ≤ 100000000 := fun k hk => by have := hsA.2 k hk; omega
  refine (mixeq_at h1 (sr := su) (ss := ssu) (st := sA) (sr' := sr1) (ss' := ss1) (st' := sA)
    ((MixRd.of (R := ownA vS ya :: (pmxL xb sr1 ss1 sA ++ (ownA yS ya :: (pmxL stb sr ss st ++ (ownA onS onions :: ownA seS secs :: ownA puS pubs :: ownA inS inL :: (rowsL spS Z ++ [])))))) hk).up [prA pp a b M, arT a A, pgT b B, boxA nx [sV sr2, sV (ss2 0), sV (ss2 1), sV (ss2 2)], regA sr2 stn.regs, ownA (ss2 0) (stn.seen 0), ownA (ss2 1) (stn.seen 1), ownA (ss2 2) (stn.seen 2), ownA oS out, boxA ub [sV su, sV (ssu 0), sV (ssu 1), sV (ssu 2)]])
    ((MixRd.of (R := ownA yS ya :: (pmxL stb sr ss st ++ (ownA onS onions :: ownA seS secs :: ownA puS pubs :: ownA inS inL :: (rowsL spS Z ++ [])))) hk).up [prA pp a b M, arT a A, pgT b B, boxA nx [sV sr2, sV (ss2 0), sV (ss2 1), sV (ss2 2)], regA sr2 stn.regs, ownA (ss2 0) (stn.seen 0), ownA (ss2 1) (stn.seen 1), ownA (ss2 2) (stn.seen 2), ownA oS out, boxA ub [sV su, sV (ssu 0), sV (ssu 1), sV (ssu 2)], regA su sA.regs, ownA (ssu 0) (sA.seen 0), ownA (ssu 1) (sA.seen 1), ownA (ssu 2) (sA.seen 2), ownA vS ya, boxA xb [sV sr1, sV (ss1 0), sV (ss1 1), sV (ss1 2)]]) (by omega)).mono ?_
  rintro _ w2 ⟨rfl, h2⟩
  refine ⟨_, rfl, cond_f' (by rw [decide_eq_true (show mixEq sA sA from ⟨rfl, fun _ _ => rfl⟩)]; rfl) ?_⟩
  refine (ints_spec (s := vS) (t := yS) (xs := ya) (ys := ya) (rowNow 14 rfl h2.s (by omega)) (rowNow 20 rfl h2.s (by omega))).mono ?_
  rintro _ w3 ⟨rfl, hsm⟩
  refine ⟨_, rfl, cond_f' (by simp) ?_⟩
  have h3 : PairAt W w3 pp a b A B n (pmxL nx sr2 ss2 stn ++ (ownA oS out :: (pmxL ub su ssu sA ++ (ownA vS ya :: (pmxL xb sr1 ss1 sA ++ (ownA yS ya :: (pmxL stb sr ss st ++ (ownA onS onions :: ownA seS secs :: ownA puS pubs :: ownA inS inL :: (rowsL spS Z ++ [])))))))))  := ⟨M, h2.same hsm, hr⟩
  have h4 := (((((h3.mless 6 rfl).mless 6 rfl).mless 6 rfl).mless 6 rfl).mless 6 rfl).mless 6 rfl
  have h5 := (((((h4.mless 6 rfl).mless 6 rfl).mless 6 rfl).mless 6 rfl).mless 6 rfl).mless 6 rfl
  exact mr_c8 hm hn h0 hin hZl hZ1 hil h5 hbad hgood hsl hol hN
end

end Go.Proofs.YtoclhecldmahiaaDoor
