/-
  The onion and keys of any payload, what any term is peeled to, what is sealed back, and what is read, are the page's.
-/
import Derived.Test.YtoclhecldmahiaaDoorOnA
import Derived.Test.YtoclhecldmahiaaDoorOnW
import Derived.Test.YtoclhecldmahiaaDoorOnF
set_option linter.unusedVariables false
set_option linter.unusedVariables false
set_option linter.unusedSimpArgs false
namespace Go.Proofs.YtoclhecldmahiaaDoor
open Go.Lf Go.RowKit

theorem err_seal8 {T : List Tm} {k x : Int} (h : ¬ (inT T k ∧ inT T x)) : put T ⟨6, 0, [k, x]⟩ = (T, 0, 8) := by
  have e : errOf T ⟨6, 0, [k, x]⟩ = 8 := by
    unfold errOf
    rw [if_neg (by simp), if_neg (by simp), if_neg (by simp [least, mostOf]), if_pos]
    simpa using h
  rw [put_bad' (by rw [e]; decide), e]

theorem wrapT_grown {T : List Tm} {pubs : List Int} {s x : Int} (he : wrapErr T pubs s x = 0) (hl : T.length ≤ 900000) : Grown T (wrapT T pubs s x).1 9 := by
  obtain ⟨X, _, _, _, g⟩ := wrap_in he hl
  exact g

section
variable {W w w' : World} {R R' : List Asn} {pp a b : Addr} {A B A' B' : List Tm} {n : Nat}

/-- the slices that came in -/
def Kept (W : World) (R : List Asn) (s : Sl) (xs : List Int) : Prop := ∀ L w', At W w' (L ++ R) → Ints .i64 w' s xs
theorem Kept.of {s : Sl} {xs : List Int} (h : Ints .i64 W s xs) : Kept W R s xs := fun L w' hw => hw.ints h
theorem Kept.more {s : Sl} {xs : List Int} (h : Kept W R s xs) (X : List Asn) : Kept W (X ++ R) s xs := fun L w' hw => h (L ++ X) w' (by rw [List.append_assoc]; exact hw)
theorem Kept.cons {s : Sl} {xs : List Int} {X : Asn} (h : Kept W R s xs) : Kept W (X :: R) s xs := h.more [X]
theorem Kept.here {s : Sl} {xs : List Int} (hx : xs.length ≤ 1000000000) : Kept W (ownA s xs :: R) s xs := fun L w' hw => rowNow 0 rfl hw.dropL.s (by omega)
theorem PairAt.kept (h : PairAt W w pp a b A B n R) {s : Sl} {xs : List Int} (hk : Kept W R s xs) : Ints .i64 w s xs := hk [] w h.rest
end

set_option maxRecDepth 100000 in
theorem onionExact_spec {W : World} (hT : PT W.heap.size W) {s sp sk : Sl} {l : List Stp} {pubs keys : List Int} (h : Stps W s l) (hp : IntsW W sp pubs) (hk : IntsW W sk keys) (sec x : Int) (own : Bool) :
    CallsV Tryd.prog n_trystlaw23_OnionExact #[.slice s.a s.len s.cap, .slice sp.a sp.len sp.cap, .int .i64 sec, .int .i64 x, .slice sk.a sk.len sk.cap, .bool own] W fun v w' => v = .bool true ∧ Below W.heap.size W w' := by
  refine trystlaw23_OnionExact.lift ?_
  unfold trystlaw23_OnionExact.main
  have hpl := hp.i.len
  have hkl := hk.i.len
  refine (heavy_spec h).mono ?_
  rintro _ _ ⟨rfl, rfl⟩
  refine ⟨_, rfl, cond_c (fun _ => ⟨rfl, Below.refl _ _⟩) fun hh => cond_d (fun _ => ⟨rfl, Below.refl _ _⟩) fun hp10 => cond_d (fun _ => ⟨rfl, Below.refl _ _⟩) fun hk10 => ?_⟩
  generalize hRR : (fun (v : Value) (w' : World) => v = .bool true ∧ Below W.heap.size W w') = RR
  unfold trystlaw23_OnionExact.c12
  refine (pairs_at hT h hh).mono ?_
  rintro _ w1 ⟨pp, a, b, rfl, h1, c0, c1⟩
  have hTl := buildT_len l
  have hTn : Nb (buildT l) := build_n h
  generalize buildT l = T at h1 hTl hTn
  have hP : PairAt W w1 pp a b T T 300 [] := ⟨[], h1, ⟨Nat.zero_le _, fun n x h => by simp at h⟩, hTn, by simp; omega, by omega⟩
  refine ⟨_, _, rfl, cond_f' rfl ⟨pp, rfl, some b, c1, ?_⟩⟩
  have wk : ∀ {w' : World} {R : List Asn} {X : Value → World → Prop}, At W w' R → (∀ b w'', X (.bool b) w'' = RR (.bool b) w'') → CallsV Tryd.prog n_trystlaw23_wakes #[] w' (fun v_4 w2 => ∃ b_5 : Bool, v_4 = .bool b_5 ∧ RR (.bool b_5) w2) := by
    intro w' R X h' _
    refine (wakes23 h').mono ?_
    rintro _ w'' ⟨rfl, h''⟩
    refine ⟨_, rfl, ?_⟩
    rw [← hRR]
    exact ⟨rfl, h''.b⟩
  have wk : ∀ {w' : World} {R : List Asn}, At W w' R → CallsV Tryd.prog n_trystlaw23_wakes #[] w' (fun v_4 w2 => ∃ b_5 : Bool, v_4 = .bool b_5 ∧ RR (.bool b_5) w2) := fun h => wk (X := RR) h fun _ _ => rfl
  clear h1 c0 c1
  -- reading
  have c3 : ∀ (A B : List Tm) (R : List Asn) (sk : Sl) (keys : List Int) (x : Int) w', PairAt W w' pp a b A B 700 R → Kept W R sk keys → sk.len = keys.length → keys.length ≤ 10 → trystlaw23_OnionExact.c3 RR x sk (some pp) (some b) w' := by
    intro A B R sk keys x w2 h2 hkk hkl hk10
    unfold trystlaw23_OnionExact.c3
    have h2 := h2.drew
    refine ⟨fun y => y.cell? pp = some (.pointer (some a)), h2.cells.1, pp, rfl, some a, fun y hy => hy, (pTs_at h2 (by omega) (by omega) hkk).mono ?_⟩
    rintro _ w3 ⟨s3, ks, A3, rfl, h3, e3, r3⟩
    refine ⟨_, _, _, rfl, h3.cells.1, (pT_at h3 (by omega) x).mono ?_⟩
    rintro _ w4 ⟨y, A4, rfl, h4, e4, r4⟩
    refine ⟨_, rfl, h4.cells.1, ?_⟩
    obtain ⟨M, g1, g2, g3, g4, g5⟩ := h4.toA
    have r3l := r3.1
    refine (read_at g1 (s := s3) (keys := ks) (by omega) y (rowsI 2 rfl (by omega))).mono ?_
    rintro _ w5 ⟨rfl, h5⟩
    have h5 : PairAt W w5 pp a b A4 B 700 (ownA s3 ks :: R) := PairAt.ofA (i := 0) h5 g2 (Ext.refl _) (by omega) g3 g4 g5
    have r3' := r3.mono e4
    refine ⟨_, _, rfl, ?_⟩
    unfold readP
    rw [r3.1]
    refine cond_n (fun hne => ?_) fun heq => ?_
    · rw [if_pos (by omega)]
      exact cond_t rfl (cond_t rfl (wk h5.rest))
    rw [if_neg (by omega)]
    have hiff : (∀ y ∈ ks, inT A4 y) ↔ ∀ x ∈ keys, inT B x := r3'.all
    obtain ⟨M, f1, f2, f3, f4, f5⟩ := h5.toB
    refine (rhas_at f1 (hkk [_, _, _, _] w5 f1)).mono ?_
    rintro _ w6 ⟨rfl, hsame⟩
    have h6 := h5.same hsame
    have c2 : ∀ w', At W w' (ownA s3 ks :: R) → trystlaw23_OnionExact.c2 RR 8 0 w' := by
      intro w' h'
      unfold trystlaw23_OnionExact.c2
      exact cond_t rfl (cond_t rfl (wk h'))
    refine ⟨_, rfl, cond_not (fun hf => ?_) fun ht => ?_⟩
    · rw [if_pos (fun hn => of_decide_eq_false hf (hiff.1 hn.1))]
      exact c2 w6 h6.rest
    have ht := of_decide_eq_true ht
    obtain ⟨M, f1, f2, f3, f4, f5⟩ := h6.toB
    intro w7
    refine (rhas_new [x] f1 (by simp)).mono ?_
    rintro _ w8 ⟨rfl, h8⟩
    have h8 : PairAt W w8 pp a b A4 B 700 (ownA s3 ks :: R) := PairAt.ofB (i := 0) h8 f2 (Ext.refl _) (by omega) f3 f4 f5
    refine ⟨_, rfl, cond_not (fun hf => ?_) fun hx => ?_⟩
    · have hx : ¬ inT B x := fun hx => of_decide_eq_false hf (by simpa using hx)
      rw [if_pos (fun hn => hx (r4.inT.1 hn.2))]
      exact c2 w8 h8.rest
    have hx : inT B x := by simpa using of_decide_eq_true hx
    rw [if_neg (fun hn => hn ⟨hiff.2 ht, r4.inT.2 hx⟩)]
    unfold trystlaw23_OnionExact.c1
    obtain ⟨okA, okB⟩ := h8.ok
    obtain ⟨q1, q2, q3⟩ := read_rel okA okB r3' r4
    obtain ⟨M, f1, f2, f3, f4, f5⟩ := h8.toB
    refine (rread_at f1 (s := sk) (keys := keys) (by omega) x ((hkk.cons (X := ownA s3 ks)).more [prA pp a b M, arT a A4])).mono ?_
    rintro _ w9 ⟨rfl, h9⟩
    have h9 : PairAt W w9 pp a b A4 B 700 (ownA s3 ks :: R) := PairAt.ofB (i := 0) h9 f2 (Ext.refl _) (by omega) f3 f4 f5
    refine ⟨_, _, rfl, cond_n (fun hne => ?_) fun heq => ?_⟩
    · exact cond_e (fun _ => cond_e (fun _ => wk h9.rest) fun hn => absurd (q2 hne) hn) fun hn => absurd q1 hn
    · refine cond_e (fun _ => ?_) fun hn => absurd (by rw [q1, heq]) hn
      refine (pT_at h9 (by omega) _).mono ?_
      rintro _ w10 ⟨z, A10, rfl, h10, e10, r10⟩
      refine ⟨_, rfl, cond_e (fun _ => wk h10.rest) fun hn => absurd ?_ hn⟩
      exact ((q3 heq).mono e10).eq h10.ok.1 r10
  -- sealing back
  have c4 : ∀ (A B : List Tm) (R : List Asn) (sk : Sl) (keys : List Int) (sec x : Int) w', PairAt W w' pp a b A B 600 R → Kept W R sk keys → sk.len = keys.length → keys.length ≤ 10 → trystlaw23_OnionExact.c4 RR sec x sk (some pp) (some b) w' := by
    intro A B R sk keys sec x w2 h2 hkk hkl hk10
    unfold trystlaw23_OnionExact.c4
    have h2 := h2.drew
    refine ⟨fun y => y.cell? pp = some (.pointer (some a)), h2.cells.1, pp, rfl, some a, fun y hy => hy, (pT_at h2 (by omega) sec).mono ?_⟩
    rintro _ w3 ⟨k1, A3, rfl, h3, e3, r3⟩
    refine ⟨_, rfl, h3.cells.1, (pT_at h3 (by omega) x).mono ?_⟩
    rintro _ w4 ⟨k2, A4, rfl, h4, e4, r4⟩
    refine ⟨_, rfl, h4.cells.1, ?_⟩
    have r3' := r3.mono e4
    obtain ⟨M, g1, g2, g3, g4, g5⟩ := h4.toA
    refine (back_at g1 k1 k2).mono ?_
    rintro _ w5 ⟨rfl, h5⟩
    have hl := put_len1 A4 ⟨6, 0, [k1, k2]⟩
    have h5 : PairAt W w5 pp a b (put A4 ⟨6, 0, [k1, k2]⟩).1 B 601 R := PairAt.ofA (i := 1) h5 g2 (Ext.put _ _) (by omega) g3 g4 g5
    refine ⟨_, _, rfl, ?_⟩
    obtain ⟨M, f1, f2, f3, f4, f5⟩ := h5.toB
    intro w6
    refine (rhas_new [sec, x] f1 (by simp)).mono ?_
    rintro _ w7 ⟨rfl, h7⟩
    have h7 : PairAt W w7 pp a b (put A4 ⟨6, 0, [k1, k2]⟩).1 B 601 R := PairAt.ofB (i := 0) h7 f2 (Ext.refl _) (by omega) f3 f4 f5
    have hiff : (∀ y ∈ [sec, x], inT B y) ↔ inT B sec ∧ inT B x := by simp
    refine ⟨_, rfl, cond_not (fun hf => ?_) fun ht => ?_⟩
    · have hn : ¬ (inT A4 k1 ∧ inT A4 k2) := fun hn => of_decide_eq_false hf (hiff.2 ⟨r3'.inT.1 hn.1, r4.inT.1 hn.2⟩)
      rw [err_seal8 hn] at h7 ⊢
      exact cond_n (fun h => absurd rfl h) fun _ => cond_n (fun h => absurd rfl h) fun _ => c3 _ _ _ _ _ _ _ (h7.more (by omega)) hkk hkl hk10
    · have ht := hiff.1 (of_decide_eq_true ht)
      have ev1 := r3'.ev ht.1
      have ev2 := r4.ev ht.2
      have hlens := h4.lens
      obtain ⟨p1, p2, p3⟩ := Ev.put (k := 6) (n := 0) (((EvL.nil A4 B).cons ev2).cons ev1) (err_seal ht.1 ht.2) (by omega) (by omega)
      rw [p1]
      refine cond_n (fun h => absurd rfl h) fun _ => ?_
      obtain ⟨M, f1, f2, f3, f4, f5⟩ := h7.toB
      have hl2 := put_len1 B ⟨6, 0, [sec, x]⟩
      intro w8
      refine (rmk 6 0 [sec, x] f1 (by simp)).mono ?_
      rintro _ w9 ⟨rfl, h9⟩
      have h9 : PairAt W w9 pp a b (put A4 ⟨6, 0, [k1, k2]⟩).1 (put B ⟨6, 0, [sec, x]⟩).1 602 R := PairAt.ofB (i := 1) h9 f2 (Ext.put _ _) (by omega) (f3.put (by simp)) f4 f5
      refine ⟨_, rfl, (pT_at h9 (by omega) _).mono ?_⟩
      rintro _ w10 ⟨z, A10, rfl, h10, e10, r10⟩
      refine ⟨_, rfl, cond_n (fun hn => absurd ?_ hn) fun _ => c3 _ _ _ _ _ _ _ (h10.more (by omega)) hkk hkl hk10⟩
      exact (p3.rel.mono e10).eq h10.ok.1 r10
  -- peeling
  have c5 : ∀ (A B : List Tm) (R : List Asn) (sk : Sl) (keys : List Int) (sec x y : Int) w', PairAt W w' pp a b A B 500 R → Kept W R sk keys → sk.len = keys.length → keys.length ≤ 10 → trystlaw23_OnionExact.c5 RR sec x sk (some pp) (some b) y w' := by
    intro A B R sk keys sec x y w2 h2 hkk hkl hk10
    unfold trystlaw23_OnionExact.c5
    have h2 := h2.drew
    refine ⟨fun y => y.cell? pp = some (.pointer (some a)), h2.cells.1, pp, rfl, some a, fun y hy => hy, (pT_at h2 (by omega) sec).mono ?_⟩
    rintro _ w3 ⟨k1, A3, rfl, h3, e3, r3⟩
    refine ⟨_, rfl, h3.cells.1, (pT_at h3 (by omega) y).mono ?_⟩
    rintro _ w4 ⟨k2, A4, rfl, h4, e4, r4⟩
    refine ⟨_, rfl, h4.cells.1, ?_⟩
    have r3' := r3.mono e4
    obtain ⟨M, g1, g2, g3, g4, g5⟩ := h4.toA
    refine (peel_at g1 k1 k2).mono ?_
    rintro _ w5 ⟨rfl, h5⟩
    have h5 : PairAt W w5 pp a b A4 B 500 R := PairAt.ofA (i := 0) h5 g2 (Ext.refl _) (by omega) g3 g4 g5
    refine ⟨_, _, _, rfl, ?_⟩
    obtain ⟨M, f1, f2, f3, f4, f5⟩ := h5.toB
    refine (rpeel_at f1 sec y).mono ?_
    rintro _ w6 ⟨rfl, h6⟩
    have h6 : PairAt W w6 pp a b A4 B 500 R := PairAt.ofB (i := 0) h6 f2 (Ext.refl _) (by omega) f3 f4 f5
    obtain ⟨okA, okB⟩ := h6.ok
    obtain ⟨p1, p2, p3⟩ := peel_rel okA okB r3' r4
    refine ⟨_, _, _, rfl, cond_n (fun hn => absurd p1 hn) fun _ => ?_⟩
    refine cond_n (fun hne => ?_) fun heq => ?_
    · rw [p2 hne]
      exact cond_n (fun h => absurd rfl h) fun _ => cond_n (fun h => absurd rfl h) fun _ => cond_e (fun h => absurd h hne) fun _ => c4 _ _ _ _ _ _ _ _ (h6.more (by omega)) hkk hkl hk10
    · obtain ⟨v1, v2⟩ := p3 heq
      refine cond_e (fun _ => ?_) fun h => absurd heq h
      refine (pT_at h6 (by omega) _).mono ?_
      rintro _ w7 ⟨z, A7, rfl, h7, e7, r7⟩
      refine ⟨_, rfl, cond_n (fun hn => absurd ((v1.rel.mono e7).eq h7.ok.1 r7) hn) fun _ => ?_⟩
      refine (pT_at h7 (by omega) _).mono ?_
      rintro _ w8 ⟨z2, A8, rfl, h8, e8, r8⟩
      exact ⟨_, rfl, cond_n (fun hn => absurd ((v2.rel.mono (e7.trans e8)).eq h8.ok.1 r8) hn) fun _ => c4 _ _ _ _ _ _ _ _ (h8.more (by omega)) hkk hkl hk10⟩
  -- wrapping
  have c8 : ∀ (T : List Tm) (R : List Asn) (sp sk : Sl) (pubs keys : List Int) (sec x : Int) (A B : List Tm) w', PairAt W w' pp a b A B 310 R → Kept W R sp pubs → sp.len = pubs.length → pubs.length ≤ 10 → Kept W R sk keys → sk.len = keys.length → keys.length ≤ 10 → trystlaw23_OnionExact.c8 RR sp sec x sk (some pp) (some b) w' := by
    intro _ R sp sk pubs keys sec x A B w2 h2 hpp hpl hp10 hkk hkl hk10
    unfold trystlaw23_OnionExact.c8
    refine (pTs_at h2 (by omega) (by omega) hpp).mono ?_
    rintro _ w3 ⟨s3, ps, A3, rfl, h3, e3, r3⟩
    have r3l := r3.1
    refine ⟨_, _, _, rfl, (twin_spec (h3.kept (Kept.here (by omega))) (by omega)).mono ?_⟩
    rintro _ w4 ⟨s4, rfl, ho4, hb4⟩
    have h4 : PairAt W w4 pp a b A3 B 310 (ownA s4 ps :: ownA s3 ps :: R) := h3.onR fun M hM => ((hM.own ho4 hb4).perm (by
      show ([ownA s4 ps] ++ [prA pp a b M, arT a A3, pgT b B] ++ (ownA s3 ps :: R)).Perm ([prA pp a b M, arT a A3, pgT b B] ++ [ownA s4 ps] ++ (ownA s3 ps :: R))
      exact List.Perm.append_right _ List.perm_append_comm))
    have h4 := h4.drew
    refine ⟨_, _, _, rfl, fun y => y.cell? pp = some (.pointer (some a)), h4.cells.1, pp, rfl, some a, fun y hy => hy, (pT_at h4 (by omega) sec).mono ?_⟩
    rintro _ w5 ⟨k1, A5, rfl, h5, e5, r5⟩
    refine ⟨_, rfl, h5.cells.1, (pT_at h5 (by omega) x).mono ?_⟩
    rintro _ w6 ⟨k2, A6, rfl, h6, e6, r6⟩
    refine ⟨_, rfl, h6.cells.1, ?_⟩
    obtain ⟨M, g1, g2, g3, g4, g5⟩ := h6.toA
    have hlens := h6.lens
    refine (wrap_at g1 (sp := s4) (pubs := ps) (by omega) k1 k2 (by omega) (rowsI 2 rfl (by omega))).mono ?_
    rintro _ w7 ⟨s7, rfl, h7⟩
    have r5' := r5.mono e6
    have r3' := r3.mono (e5.trans e6)
    have ee := wrapErr_rel r5' r6 r3'
    obtain ⟨WA, hWA⟩ : ∃ WA, WA = wrapR A6 ps k1 k2 := ⟨_, rfl⟩
    have hgA : Grown A6 WA.1 9 := by
      rw [hWA]
      by_cases he : wrapErr A6 ps k1 k2 = 0
      · rw [wrapR_good he]; exact wrapT_grown he (by omega)
      · rw [wrapR_bad rfl he]; exact (Grown.refl _).mono (by omega)
    have hgAl := hgA.len
    rw [← hWA] at h7 ⊢
    have h7 : PairAt W w7 pp a b WA.1 B 319 (ownA s7 WA.2.2.1 :: ownA s4 ps :: ownA s3 ps :: R) := PairAt.ofA (i := 9) (h7.perm (by
      show ([ownA s7 WA.2.2.1] ++ [arT a WA.1, prA pp a b M, pgT b B] ++ (ownA s4 ps :: ownA s3 ps :: R)).Perm ([arT a WA.1, prA pp a b M, pgT b B] ++ [ownA s7 WA.2.2.1] ++ (ownA s4 ps :: ownA s3 ps :: R))
      exact List.Perm.append_right _ List.perm_append_comm)) g2 hgA.ext hgAl g3 g4 g5
    have hsl7 : s7.len = WA.2.2.1.length := h7.rest.numLen 0 rfl
    refine ⟨_, _, _, _, _, rfl, ?_⟩
    refine (ints_spec (rowNow 1 rfl h7.rest.s (by omega)) (rowNow 2 rfl h7.rest.s (by omega))).mono ?_
    rintro _ w8 ⟨rfl, hs8⟩
    have h8 := h7.same hs8
    refine ⟨_, rfl, cond_f' (by simp) ?_⟩
    have hpp8 : Kept W (ownA s7 WA.2.2.1 :: ownA s4 ps :: ownA s3 ps :: R) sp pubs := hpp.cons.cons.cons
    have hkk8 : Kept W (ownA s7 WA.2.2.1 :: ownA s4 ps :: ownA s3 ps :: R) sk keys := hkk.cons.cons.cons
    have c6 : ∀ (want : Int) w', PairAt W w' pp a b WA.1 B 319 (ownA s7 WA.2.2.1 :: ownA s4 ps :: ownA s3 ps :: R) → want = wrapErr B pubs sec x → trystlaw23_OnionExact.c6 RR sp sec x sk (some pp) (some b) WA.2.1 s7 WA.2.2.2 want w' := by
      intro want w' h' hw
      unfold trystlaw23_OnionExact.c6
      refine cond_n (fun hne => ?_) fun h0 => ?_
      · have : WA = (A6, 0, [], want) := by rw [hWA, wrapR_bad (by rw [ee, ← hw]) hne]
        refine cond_n (fun hn => absurd (by rw [this]) hn) fun _ => cond_n (fun hn => absurd (by rw [this]) hn) fun _ => cond_d (fun hgt => ?_) fun _ => c5 _ _ _ _ _ _ _ _ _ (h'.more (by omega)) hkk8 hkl hk10
        rw [hsl7, this] at hgt
        simp at hgt
      · subst h0
        have eB : wrapErr B pubs sec x = 0 := hw.symm
        have eA : wrapErr A6 ps k1 k2 = 0 := by rw [ee]; exact eB
        obtain ⟨b1, b2, b3, b4, _⟩ := wrapErr0.1 eB
        have eW : WA = ((wrapT A6 ps k1 k2).1, (wrapT A6 ps k1 k2).2.1, (wrapT A6 ps k1 k2).2.2, 0) := by rw [hWA, wrapR_good eA]
        obtain ⟨M, f1, f2, f3, f4, f5⟩ := h'.toB
        refine (rwrap_at f1 (sp := sp) (pubs := pubs) eB (by omega) (hpp8.more [prA pp a b M, arT a WA.1])).mono ?_
        rintro _ w9 ⟨s9, rfl, h9⟩
        have hgB := wrapT_grown eB (by omega)
        have hgBl := hgB.len
        have h9 : PairAt W w9 pp a b WA.1 (wrapT B pubs sec x).1 328 (ownA s9 (wrapT B pubs sec x).2.2 :: ownA s7 WA.2.2.1 :: ownA s4 ps :: ownA s3 ps :: R) := PairAt.ofB (i := 9) (h9.perm (by
          show ([ownA s9 (wrapT B pubs sec x).2.2] ++ [pgT b (wrapT B pubs sec x).1, prA pp a b M, arT a WA.1] ++ (ownA s7 WA.2.2.1 :: ownA s4 ps :: ownA s3 ps :: R)).Perm ([pgT b (wrapT B pubs sec x).1, prA pp a b M, arT a WA.1] ++ [ownA s9 (wrapT B pubs sec x).2.2] ++ (ownA s7 WA.2.2.1 :: ownA s4 ps :: ownA s3 ps :: R))
          exact List.Perm.append_right _ List.perm_append_comm)) f2 hgB.ext hgBl (hgB.nb f3) f4 f5
        refine ⟨_, _, _, _, rfl, cond_n (fun hn => absurd (by rw [eW]) hn) fun _ => ?_⟩
        obtain ⟨v1, v2⟩ := wrap_ev (r5'.ev b3) (r6.ev b4) (RelL.ev r3' b2) b1 (by omega) (by omega)
        have v1 : Ev WA.1 (wrapT B pubs sec x).1 WA.2.1 (wrapT B pubs sec x).2.1 := by rw [eW]; exact v1
        have v2 : EvL WA.1 (wrapT B pubs sec x).1 WA.2.2.1 (wrapT B pubs sec x).2.2 := by rw [eW]; exact v2
        have hkl3 : (wrapT B pubs sec x).2.2.length = 3 := (keyS_good b3 (by omega) 3 (by omega)).2.1
        have v2l := v2.1
        refine (pT_at h9 (by omega) _).mono ?_
        rintro _ w10 ⟨z, A10, rfl, h10, e10, r10⟩
        refine ⟨_, rfl, cond_n (fun hn => absurd ((v1.rel.mono e10).eq h10.ok.1 r10) hn) fun _ => ?_⟩
        refine (pTs_at h10 (by omega) (by omega) (Kept.here (by omega))).mono ?_
        rintro _ w11 ⟨s11, ks, A11, rfl, h11, e11, r11⟩
        refine ⟨_, _, _, rfl, ?_⟩
        have eks := RelL.left h11.ok.1 (v2.rel.mono (e10.trans e11)) r11
        refine (ints_spec (rowNow 2 rfl h11.rest.s (by omega)) (rowNow 0 rfl h11.rest.s (by rw [← eks]; omega))).mono ?_
        rintro _ w12 ⟨rfl, hs12⟩
        have h12 := h11.same hs12
        refine ⟨_, rfl, cond_f' (by rw [eks]; simp) ?_⟩
        exact c5 _ _ _ _ _ _ _ _ _ (h12.more (by omega)) hkk8.cons.cons hkl hk10
    refine cond_n (fun h3 => ?_) fun h3 => ?_
    · exact c6 2 w8 h8 (by unfold wrapErr; rw [if_pos (by omega)])
    have hp3 : pubs.length = 3 := by omega
    obtain ⟨M, f1, f2, f3, f4, f5⟩ := h8.toB
    refine (rhas_at f1 (hpp8 [_, _, _] w8 f1)).mono ?_
    rintro _ w9 ⟨rfl, hs9⟩
    have h9 := h8.same hs9
    refine ⟨_, rfl, cond_not (fun hf => ?_) fun ht => ?_⟩
    · exact c6 8 w9 h9 (by unfold wrapErr; rw [if_neg (by omega), if_pos (fun h => of_decide_eq_false hf h.1)])
    have ht := of_decide_eq_true ht
    obtain ⟨M, f1, f2, f3, f4, f5⟩ := h9.toB
    intro w10
    refine (rhas_new [sec, x] f1 (by simp)).mono ?_
    rintro _ w11 ⟨rfl, h11⟩
    have h11 : PairAt W w11 pp a b WA.1 B 319 (ownA s7 WA.2.2.1 :: ownA s4 ps :: ownA s3 ps :: R) := PairAt.ofB (i := 0) h11 f2 (Ext.refl _) (by omega) f3 f4 f5
    refine ⟨_, rfl, cond_not (fun hf => ?_) fun hsx => ?_⟩
    · exact c6 8 w11 h11 (by unfold wrapErr; rw [if_neg (by omega), if_pos (fun h => of_decide_eq_false hf (by simpa using h.2))])
    have hsx : inT B sec ∧ inT B x := by simpa using of_decide_eq_true hsx
    unfold trystlaw23_OnionExact.c7
    have kind : ∀ (i : Nat) (hi : i < 3) w', PairAt W w' pp a b WA.1 B 319 (ownA s7 WA.2.2.1 :: ownA s4 ps :: ownA s3 ps :: R) → ∃ q, sp.a = some q ∧ w'.cell? (q.add i) = some (.int .i64 (pubs[i]?.getD 0)) := by
      intro i hi w' h'
      obtain ⟨q, hq, hc⟩ := (h'.kept hpp8).get (i := (i : Int)) (by omega) (by omega)
      rw [Int.toNat_natCast] at hc
      exact ⟨q, hq, hc⟩
    have bad6 : ∀ (i : Nat), i < 3 → ¬ (inT B (pubs[i]?.getD 0) ∧ (tmAt B (pubs[i]?.getD 0)).kind = 5) → (6 : Int) = wrapErr B pubs sec x := by
      intro i hi hn
      unfold wrapErr
      rw [if_neg (by omega), if_neg (fun h => h ⟨ht, hsx⟩), if_pos]
      rw [List.getElem?_eq_getElem (by omega)] at hn
      exact ⟨pubs[i], List.getElem_mem _, fun hk => hn ⟨ht _ (List.getElem_mem _), hk⟩⟩
    have isAt : ∀ (i : Nat) (hi : i < 3) w', PairAt W w' pp a b WA.1 B 319 (ownA s7 WA.2.2.1 :: ownA s4 ps :: ownA s3 ps :: R) → CallsV Tryd.prog n_trystref10_Arena_Is #[.pointer (some b), .int .i64 (pubs[i]?.getD 0), .int .i64 5] w' fun v w'' => v = .bool (decide (inT B (pubs[i]?.getD 0) ∧ (tmAt B (pubs[i]?.getD 0)).kind = 5)) ∧ PairAt W w'' pp a b WA.1 B 319 (ownA s7 WA.2.2.1 :: ownA s4 ps :: ownA s3 ps :: R) := by
      intro i hi w' h'
      obtain ⟨M, f1, f2, f3, f4, f5⟩ := h'.toB
      refine (ris_at f1 _ _).mono ?_
      rintro _ w'' ⟨rfl, h''⟩
      exact ⟨rfl, PairAt.ofB (i := 0) h'' f2 (Ext.refl _) (by omega) f3 f4 f5⟩
    obtain ⟨q, hq, hc⟩ := kind 0 (by omega) w11 h11
    refine ⟨by omega, by omega, q, hq, _, hc, (isAt 0 (by omega) w11 h11).mono ?_⟩
    rintro _ w12 ⟨rfl, h12⟩
    refine ⟨_, rfl, cond_not (fun hf => c6 6 w12 h12 (bad6 0 (by omega) (of_decide_eq_false hf))) fun k0 => ?_⟩
    obtain ⟨q, hq, hc⟩ := kind 1 (by omega) w12 h12
    refine ⟨by omega, by omega, q, hq, _, hc, (isAt 1 (by omega) w12 h12).mono ?_⟩
    rintro _ w13 ⟨rfl, h13⟩
    refine ⟨_, rfl, cond_not (fun hf => c6 6 w13 h13 (bad6 1 (by omega) (of_decide_eq_false hf))) fun k1' => ?_⟩
    obtain ⟨q, hq, hc⟩ := kind 2 (by omega) w13 h13
    refine ⟨by omega, by omega, q, hq, _, hc, (isAt 2 (by omega) w13 h13).mono ?_⟩
    rintro _ w14 ⟨rfl, h14⟩
    refine ⟨_, rfl, cond_not (fun hf => c6 6 w14 h14 (bad6 2 (by omega) (of_decide_eq_false hf))) fun k2' => ?_⟩
    refine c6 0 w14 h14 (Eq.symm (wrapErr0.2 ⟨hp3, ht, hsx.1, hsx.2, fun y hy => ?_⟩))
    obtain ⟨j, hj⟩ := List.getElem?_of_mem hy
    have hjl := (List.getElem?_eq_some_iff.1 hj).1
    have e0 := (of_decide_eq_true k0).2
    have e1 := (of_decide_eq_true k1').2
    have e2 := (of_decide_eq_true k2').2
    have : j = 0 ∨ j = 1 ∨ j = 2 := by omega
    rcases this with rfl | rfl | rfl
    · rw [hj] at e0; exact e0
    · rw [hj] at e1; exact e1
    · rw [hj] at e2; exact e2
  -- its own ones
  have plain : trystlaw23_OnionExact.c8 RR sp sec x sk (some pp) (some b) w1 := c8 T [] sp sk pubs keys sec x T T w1 (hP.more (by omega)) (Kept.of hp.i) hpl (by omega) (Kept.of hk.i) hkl (by omega)
  obtain ⟨ba, bc, hbc⟩ := hP.pages
  cases own with
  | false => exact cond_f' rfl plain
  | true =>
    refine cond_t rfl ⟨b, rfl, _, _, _, hbc, cond_d (fun hpos => ?_) fun _ => plain⟩
    refine cond_d (fun hsec => ?_) fun _ => plain
    unfold trystlaw23_OnionExact.c11
    have hTpos : 0 < T.length := by omega
    refine ⟨b, rfl, _, _, _, hbc, by omega, ?_⟩
    dsimp only
    obtain ⟨t1, t2⟩ := tmod_in (x := sec) (by omega) hTpos
    generalize Int.tmod sec (T.length : Int) = se at t1 t2
    unfold trystlaw23_OnionExact.l10
    refine ⟨fun t w' => ∃ (i : Nat) (ps : List Int) (B : List Tm), t.2 = i ∧ i ≤ 3 ∧ ps.length = i ∧ T.length ≤ B.length ∧ PairAt W w' pp a b T B (300 + i) (ownA t.1 ps :: []), fun t _ => 3 - t.2.toNat, ⟨0, [], T, rfl, by omega, rfl, Nat.le_refl _, hP.onR fun M hM => hM.nil.perm (by
      show ([ownA _ _] ++ [prA pp a b M, arT a T, pgT b T]).Perm ([prA pp a b M, arT a T, pgT b T] ++ [ownA _ _])
      exact List.perm_append_comm)⟩, ?_⟩
    clear hbc
    rintro ⟨s2, _⟩ w2 ⟨i, ps, B, rfl, hi, hpsl, hBl, h2⟩
    show trystlaw23_OnionExact.b10 _ _ se x sk (some pp) (some b) s2 (i : Int) w2
    have h2 : PairAt W w2 pp a b T B (300 + i) (ownA s2 ps :: []) := h2
    unfold trystlaw23_OnionExact.b10
    obtain ⟨ba, bc, hbc⟩ := h2.pages
    refine cond_d (p := ((i : Nat) : Int) < 3) (fun hlt => ?_) fun hge => ?_
    · refine ⟨b, rfl, _, _, _, hbc, by omega, ?_⟩
      obtain ⟨M, f1, f2, f3, f4, f5⟩ := h2.toB
      refine (rpub _ f1).mono ?_
      rintro _ w3 ⟨rfl, h3⟩
      obtain ⟨u, hu⟩ : ∃ u, u = Int.tmod (IntKind.i64.wrap (se + (i : Int))) (B.length : Int) := ⟨_, rfl⟩
      rw [← hu] at h3 ⊢
      have hl := put_len1 B ⟨5, 0, [u]⟩
      have h3 : PairAt W w3 pp a b T (put B ⟨5, 0, [u]⟩).1 (300 + i + 1) (ownA s2 ps :: []) := PairAt.ofB (i := 1) h3 f2 (Ext.put _ _) (by omega) (f3.put (by simp)) f4 f5
      refine ⟨_, rfl, ?_⟩
      obtain ⟨M, g1, g2, g3, g4, g5⟩ := h3.toA
      intro w4
      obtain ⟨s5, w5, hr5, h5⟩ := more_at 3 rfl g1 (put B ⟨5, 0, [u]⟩).2.1 (by omega)
      refine ⟨_, _, _, _, hr5, ?_⟩
      dsimp only
      rw [inc (by omega)]
      refine ⟨⟨rfl, rfl, rfl, rfl, rfl, i + 1, ps ++ [(put B ⟨5, 0, [u]⟩).2.1], (put B ⟨5, 0, [u]⟩).1, rfl, by omega, by simp [hpsl], by omega, PairAt.ofA (i := 0) h5 g2 (Ext.refl _) (by omega) g3 g4 g5⟩, by (try dsimp only); omega⟩
    · unfold trystlaw23_OnionExact.c9
      intro w3
      obtain ⟨M, g1, g2, g3, g4, g5⟩ := h2.toA
      have g6 := g1.row [x] (by simp)
      have h3 : PairAt W w3 pp a b T B (300 + i) (ownA ⟨some (newA w2), 1, 1⟩ [x] :: ownA s2 ps :: []) := by
        exact ⟨M, ((g6.front 3 rfl).front 2 rfl).front 3 rfl, g2, g3, g4, g5⟩
      clear_value w3
      obtain ⟨ba, bc, hbc⟩ := h3.pages
      refine ⟨b, rfl, _, _, _, hbc, (some_spec (s := ⟨some (newA w2), 1, 1⟩) (xs := [x]) (rowNow 0 rfl h3.rest.s (by simp)) (by simp) _).mono ?_⟩
      rintro _ w4 ⟨s4, rfl, ho4, hb4⟩
      have h4 : PairAt W w4 pp a b T B (300 + i) (ownA s4 (someI [x] (B.length : Int)) :: ownA ⟨some (newA w2), 1, 1⟩ [x] :: ownA s2 ps :: []) := h3.onR fun M hM => ((hM.own ho4 hb4).perm (by
        show ([ownA s4 _] ++ [prA pp a b M, arT a T, pgT b B] ++ (ownA ⟨some (newA w2), 1, 1⟩ [x] :: ownA s2 ps :: [])).Perm ([prA pp a b M, arT a T, pgT b B] ++ [ownA s4 _] ++ (ownA ⟨some (newA w2), 1, 1⟩ [x] :: ownA s2 ps :: []))
        exact List.Perm.append_right _ List.perm_append_comm))
      have hsl4 := h4.rest.numLen 0 rfl
      have esl : (someI [x] (B.length : Int)).length = 1 := by simp [someI]
      obtain ⟨q, hq, hc⟩ := h4.rest.num 0 rfl (i := 0) (by omega)
      obtain ⟨ba, bc, hbc⟩ := h4.pages
      refine ⟨_, _, _, rfl, by omega, by omega, q, hq, _, hc, b, rfl, _, _, _, hbc, (some_spec (h4.rest.ints hk.i) (by omega) _).mono ?_⟩
      rintro _ w5 ⟨s5, rfl, ho5, hb5⟩
      have h5 : PairAt W w5 pp a b T B (300 + i) (ownA s5 (someI keys (B.length : Int)) :: ownA s4 (someI [x] (B.length : Int)) :: ownA ⟨some (newA w2), 1, 1⟩ [x] :: ownA s2 ps :: []) := h4.onR fun M hM => ((hM.own ho5 hb5).perm (by
        show ([ownA s5 _] ++ [prA pp a b M, arT a T, pgT b B] ++ (ownA s4 _ :: ownA ⟨some (newA w2), 1, 1⟩ [x] :: ownA s2 ps :: [])).Perm ([prA pp a b M, arT a T, pgT b B] ++ [ownA s5 _] ++ (ownA s4 _ :: ownA ⟨some (newA w2), 1, 1⟩ [x] :: ownA s2 ps :: []))
        exact List.Perm.append_right _ List.perm_append_comm))
      have ekl : (someI keys (B.length : Int)).length = keys.length := by simp [someI]
      refine ⟨_, _, _, rfl, c8 T _ s2 s5 ps (someI keys (B.length : Int)) se _ T B w5 (h5.more (by omega)) (rowsI 3 rfl (by omega)) ?_ (by omega) (Kept.here (by omega)) ?_ (by omega)⟩
      · exact h5.rest.numLen 3 rfl
      · exact h5.rest.numLen 0 rfl

end Go.Proofs.YtoclhecldmahiaaDoor
