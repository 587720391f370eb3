/-
  MixOrder: the onions; the law.
-/
import Derived.Test.YtoclhecldmahiaaDoorMyK
set_option linter.unusedVariables false
set_option linter.unusedVariables false
set_option linter.unusedSimpArgs false
namespace Go.Proofs.YtoclhecldmahiaaDoor
open Go.Lf Go.RowKit

section
variable {W w w' : World} {pp a b : Addr} {A B : List Tm} {n : Nat} {R L : List Asn} {S P : List Nat} {os : List Oi} {inA wantA : List Int} {Zk Z : List (Sl × List Int)} {inS waS seS puS keS peS : Sl} {RR : Value → World → Prop} {m : Nat} {Z0 : List (Sl × List Int)}

theorem rowP_app {Z : List (Sl × List Int)} {t : Sl} {ys : List Int} {j : Nat} : rowP (Z ++ [(t, ys)]) j = if j < Z.length then rowP Z j else if j = Z.length then ys else [] := by
  unfold rowP
  rw [List.getElem?_append]
  split
  · rfl
  · rename_i h
    split
    · rename_i h2
      rw [h2, Nat.sub_self]; rfl
    · rename_i h2
      rw [List.getElem?_eq_none (by simp; omega)]
      rfl
theorem app_getD {l : List Int} {x : Int} {j : Nat} : (l ++ [x])[j]?.getD 0 = if j < l.length then l[j]?.getD 0 else if j = l.length then x else 0 := by
  rw [List.getElem?_append]
  split
  · rfl
  · split
    · rename_i h2
      rw [h2, Nat.sub_self]; rfl
    · rw [List.getElem?_eq_none (by simp; omega)]; rfl

set_option maxRecDepth 100000 in
/-- onion by onion -/
theorem mo_l11 (hRR : ∀ w, Below W.heap.size W w → RR (.bool true) w) (hS : SrvIn B 9000 S P 3) (hm : 1 ≤ m ∧ m ≤ 6) (hn : n ≤ 310) (hZ0 : Rw W peS Z0) (hZ03 : Z0.length = 3) (hZ0l : ∀ z ∈ Z0, z.2.length ≤ 100)
    (h : PairAt W w pp a b A B n (orR ⟨none, 0, 0⟩ ⟨none, 0, 0⟩ seS puS ⟨none, 0, 0⟩ [] [] S P [])) : trystlaw24_MixOrder.c12 RR (m : Int) peS (some pp) (some b) seS puS ⟨none, 0, 0⟩ ⟨none, 0, 0⟩ ⟨none, 0, 0⟩ w := by
  unfold trystlaw24_MixOrder.c12 trystlaw24_MixOrder.l11
  refine ⟨fun t w' => ∃ (os : List Oi) (inA wantA : List Int) (Zk : List (Sl × List Int)) (A B : List Tm), t.2.2.2 = os.length ∧ os.length ≤ 2 * m ∧ OrIn A B S P os inA wantA Zk ∧ PairAt W w' pp a b A B (310 + 20 * os.length) (orR t.1 t.2.1 seS puS t.2.2.1 inA wantA S P Zk), fun t _ => 2 * m - t.2.2.2.toNat,
    ⟨[], [], [], [], A, B, rfl, by simp, ⟨hS, OnsL.nil, EvL.nil A B, ⟨rfl, fun j hj => by simp at hj, rfl, fun j hj => by simp at hj⟩⟩, h.mup (by omega)⟩, ?_⟩
  clear h hS
  rintro ⟨inS, waS, keS, _⟩ w1 ⟨os, inA, wantA, Zk, A, B, rfl, hol, hI, h1⟩
  show trystlaw24_MixOrder.b11 _ _ _ _ _ _ _ _ inS waS keS ((os.length : Nat) : Int) w1
  have h1 : PairAt W w1 pp a b A B (310 + 20 * os.length) (orR inS waS seS puS keS inA wantA S P Zk) := h1
  obtain ⟨i, hi⟩ : ∃ i, i = os.length := ⟨_, rfl⟩
  have xl : (onsX os).length = os.length := by simp [onsX]
  have yl := hI.inp.1
  have kl := hI.k.kl
  have wl := hI.k.wl
  unfold trystlaw24_MixOrder.b11
  have e2m : IntKind.i64.wrap (2 * (m : Int)) = ((2 * m : Nat) : Int) := by rw [w64 (by omega)]; omega
  rw [e2m, ← hi]
  refine cond_d (p := ((i : Nat) : Int) < ((2 * m : Nat) : Int)) (fun hlt => ?_) fun hge => ?_
  · have hi12 : i ∈ List.range 12 := List.mem_range.2 (by omega)
    have eD : IntKind.i64.wrap (100 + IntKind.i64.wrap (Int.tdiv ((i : Nat) : Int) 2)) = ((100 + i / 2 : Nat) : Int) := by
      rw [div_go i hi12]
      have a1 : IntKind.i64.wrap ((i / 2 : Nat) : Int) = ((i / 2 : Nat) : Int) := w64 (by omega)
      rw [a1, w64 (by omega)]; omega
    have eC : IntKind.i64.wrap (200 + ((i : Nat) : Int)) = ((200 + i : Nat) : Int) := by rw [w64 (by omega)]; omega
    have eR : IntKind.i64.wrap (300 + ((i : Nat) : Int)) = ((300 + i : Nat) : Int) := by rw [w64 (by omega)]; omega
    have ho12 : oth i ≤ 20 := by unfold oth; split <;> omega
    have eO : IntKind.i64.wrap (200 + Go.bits BinOp.xor .i64 ((i : Nat) : Int) 1) = ((200 + oth i : Nat) : Int) := by
      rw [oth_go i hi12, w64 (by omega)]; omega
    rw [eD, eC, eR, eO]
    refine ⟨by omega, (pmk0 h1 (by omega) (.inl rfl) (by omega) (by omega)).mono ?_⟩
    rintro _ w2 ⟨d, B1, rfl, d1, x1, h2⟩
    refine ⟨_, rfl, (pmk0 h2 (by omega) (.inl rfl) (by omega) (by omega)).mono ?_⟩
    rintro _ w3 ⟨c, B2, rfl, c1, x2, h3⟩
    refine ⟨_, rfl, (pmk0 h3 (by omega) (.inl rfl) (by omega) (by omega)).mono ?_⟩
    rintro _ w4 ⟨dr, B3, rfl, r1, x3, h4⟩
    refine ⟨_, rfl, (pword h4 (by omega) (by omega) (by omega)).mono ?_⟩
    rintro _ w5 ⟨wd, B4, rfl, p1, x4, h5⟩
    refine ⟨_, rfl, ?_⟩
    intro w6
    have d4 := x4 _ _ (x3 _ _ (x2 _ _ d1))
    have c4 := x4 _ _ (x3 _ _ c1)
    have r4 := x4 _ _ r1
    refine (plist [(wd : Int), (d : Int), (c : Int)] h5 (by omega) (by simp) (by simpa using ⟨inT_of p1, inT_of d4, inT_of c4⟩)).mono ?_
    rintro _ w7 ⟨x0, B5, rfl, q1, x5, h7⟩
    have hS5 := hI.srv.mono (x1.trans (x2.trans (x3.trans (x4.trans x5))))
    refine ⟨_, rfl, (pwrap h7 (by omega) hS5 (s := puS) (inT_of (x5 _ _ r4)) (inT_of q1) (rowsI 3 rfl (by rw [toI_len]; have := hS5.pl; omega))).mono ?_⟩
    rintro _ w8 ⟨sk, K, X, B6, rfl, hX0, hX, x6, h8⟩
    have hE6 : Ext B B6 := x1.trans (x2.trans (x3.trans (x4.trans (x5.trans x6))))
    refine ⟨_, _, _, _, rfl, (pT_at h8 (by omega) (X 3)).mono ?_⟩
    rintro _ w9 ⟨tx, A2, rfl, h9, y1, ht⟩
    have htx : Ev A2 B6 tx (X 3) := ht.ev (hX.xin 3 (by omega))
    refine ⟨_, rfl, ?_⟩
    intro w10
    obtain ⟨s11, w11, run, h11⟩ := h9.more_at 1 rfl tx (by omega)
    refine ⟨_, _, _, w11, run, ?_⟩
    refine (pTs_at h11 (by omega) (s := sk) (xs := K) (by rw [hX.kl]; omega) (rowsI 0 rfl (by rw [hX.kl]; omega))).mono ?_
    rintro _ w12 ⟨sk2, ks, A3, rfl, h12, y2, hks⟩
    have hksE : EvL A3 B6 ks K := hks.ev hX.kin
    refine ⟨_, _, _, rfl, ?_⟩
    intro w13
    obtain ⟨s14, w14, run14, h14⟩ := h12.mrows 6 rfl (by omega) sk2 ks
    refine ⟨_, _, _, w14, run14, ?_⟩
    have h14 : PairAt W w14 pp a b A3 B6 (310 + 20 * os.length + 1 + 1 + 1 + 1 + 1 + 9) (ownA sk2 ks :: ownA sk K :: ownA s11 (inA ++ [tx]) :: ownA waS wantA :: ownA seS (toI S) :: ownA puS (toI P) :: (rowsA s14 (Zk ++ [(sk2, ks)]) :: ((Zk.map fun z => ownA z.1 z.2) ++ []))) := h14
    have h15 : PairAt W w14 pp a b A3 B6 (310 + 20 * os.length + 1 + 1 + 1 + 1 + 1 + 9) (ownA sk2 ks :: ([ownA s11 (inA ++ [tx]), ownA waS wantA, ownA seS (toI S), ownA puS (toI P)] ++ (rowsA s14 (Zk ++ [(sk2, ks)]) :: ((Zk.map fun z => ownA z.1 z.2) ++ [])))) := h14.mless 1 rfl
    have h16 : PairAt W w14 pp a b A3 B6 (310 + 20 * os.length + 1 + 1 + 1 + 1 + 1 + 9) (orR s11 waS seS puS s14 (inA ++ [tx]) wantA S P (Zk ++ [(sk2, ks)])) := (h15.perm List.perm_middle.symm).perm (List.Perm.append_left _ rowsL_perm)
    refine (pmk0 h16 (by omega) (.inl rfl) (by omega) (by omega)).mono ?_
    rintro _ w17 ⟨ot, B7, rfl, o1, x7, h17⟩
    refine ⟨_, rfl, (pT_at h17 (by omega) (ot : Int)).mono ?_⟩
    rintro _ w18 ⟨tw, A4, rfl, h18, y3, htw⟩
    have htwE : Ev A4 B7 tw (ot : Int) := htw.ev (inT_of o1)
    refine ⟨_, rfl, ?_⟩
    intro w19
    obtain ⟨s20, w20, run20, h20⟩ := h18.more_at 1 rfl tw (by omega)
    refine ⟨_, _, _, w20, run20, ?_⟩
    dsimp only
    rw [inc (by omega)]
    have hE7 := hE6.trans x7
    have hEA := y1.trans (y2.trans y3)
    have hI7 := hI.mono hEA hE7
    have hc56 := x5.trans (x6.trans x7)
    have hO7 : OiOk B7 P 300 orQ os.length ⟨K, dr, X, (73, [(d : Int), (c : Int)])⟩ := by
      refine ⟨hX.mono x7, ⟨dr, rfl, ?_⟩, ⟨x0, wd, hX0, (x6.trans x7) _ _ q1, hc56 _ _ p1, ?_, by simp⟩, ⟨d, c, rfl, ?_, ?_⟩⟩
      · rw [← hi]; exact hc56 _ _ r4
      · show rqWord 73 [(d : Int), (c : Int)] = _
        unfold rqWord
        rw [if_neg (by simp)]
      · rw [← hi]; exact hc56 _ _ d4
      · rw [← hi]; exact hc56 _ _ c4
    refine ⟨⟨rfl, rfl, rfl, rfl, rfl, rfl, os ++ [⟨K, dr, X, (73, [(d : Int), (c : Int)])⟩], inA ++ [tx], wantA ++ [tw], Zk ++ [(sk2, ks)], A4, B7, by rw [List.length_append, hi]; rfl, by rw [List.length_append]; simp; omega, ⟨hI7.srv, hI7.ons.add hO7, ?_, ⟨by simp [kl], fun j hj => ?_, by simp [wl], fun j hj => ?_⟩⟩, ?_⟩, ?_⟩
    · have e : onsX (os ++ [⟨K, dr, X, (73, [(d : Int), (c : Int)])⟩]) = onsX os ++ [X 3] := by simp [onsX]
      rw [e]
      exact hI7.inp.app (htx.mono (y2.trans y3) x7)
    · rw [List.length_append] at hj
      have hj : j < os.length + 1 := hj
      rw [rowP_app, kl]
      by_cases hjo : j < os.length
      · rw [if_pos hjo]
        have := hI7.k.keys j hjo
        unfold oiK at this ⊢
        rw [List.getElem?_append_left hjo]
        exact this
      · obtain rfl : j = os.length := by omega
        rw [if_neg hjo, if_pos rfl]
        unfold oiK
        rw [List.getElem?_append_right (Nat.le_refl _), Nat.sub_self]
        exact hksE.mono y3 x7
    · rw [List.length_append] at hj
      have hj : j < os.length + 1 := hj
      rw [app_getD, wl]
      by_cases hjo : j < os.length
      · rw [if_pos hjo]
        exact hI7.k.want j hjo
      · obtain rfl : j = os.length := by omega
        rw [if_neg hjo, if_pos rfl]
        exact ⟨ot, htwE, by rw [← hi]; exact o1⟩
    · have : (os ++ [(⟨K, dr, X, (73, [(d : Int), (c : Int)])⟩ : Oi)]).length = os.length + 1 := by simp
      rw [this]
      exact h20.mup (by omega)
    · (try dsimp only); omega
  · exact mo_l9 hRR hI (by omega : os.length = 2 * m) hm.2 rfl (by omega) hZ0 hZ03 hZ0l h1
end

theorem _root_.Go.Proofs.YtoclhecldmahiaaDoor.PairAt.nilEnd' {W w : World} {pp a b : Addr} {A B : List Tm} {n : Nat} {L : List Asn} (h : PairAt W w pp a b A B n L) : PairAt W w pp a b A B n (L ++ [ownA ⟨none, 0, 0⟩ []]) := by
  obtain ⟨M, h1, hr⟩ := h
  exact (PairAt.addK (K := [_]) h1.nil hr).perm List.perm_append_comm

set_option maxRecDepth 100000 in
theorem morder_spec {W : World} (hT : PT W.heap.size W) {ps : Sl} {Z0 : List (Sl × List Int)} (hZ0 : Rw W ps Z0) (pairs : Int) :
    CallsV Tryd.prog n_trystlaw24_MixOrder #[.int .i64 pairs, .slice ps.a ps.len ps.cap] W fun v w' => v = .bool true ∧ Below W.heap.size W w' := by
  refine trystlaw24_MixOrder.lift ?_
  unfold trystlaw24_MixOrder.main
  generalize hRR : (fun (v : Value) (w' : World) => v = .bool true ∧ Below W.heap.size W w') = RR
  have hRR' : ∀ w, Below W.heap.size W w → RR (.bool true) w := fun w hb => by rw [← hRR]; exact ⟨rfl, hb⟩
  refine ⟨by omega, ?_⟩
  obtain ⟨u1, u2, _⟩ := umod pairs (n := 6) (by omega) (by omega)
  have e6 : IntKind.u64.wrap ((6 : Nat) : Int) = 6 := by decide
  rw [e6] at u1 u2
  have hmod : IntKind.i64.wrap (Int.tmod (IntKind.u64.wrap pairs) 6) = Int.tmod (IntKind.u64.wrap pairs) 6 ∨ True := .inr trivial
  obtain ⟨m, hm1, hm6, hm⟩ : ∃ m : Nat, 1 ≤ m ∧ m ≤ 6 ∧ IntKind.i64.wrap (1 + IntKind.i64.wrap (Int.tmod (IntKind.u64.wrap pairs) 6)) = (m : Int) := by
    generalize IntKind.i64.wrap (Int.tmod (IntKind.u64.wrap pairs) 6) = mm at u1 u2
    refine ⟨(1 + mm).toNat, by omega, by omega, ?_⟩
    rw [w64 (by omega)]; omega
  rw [hm]
  have hpl := hZ0.len
  intro pairs0
  refine cond_n (fun _ => hRR' _ (Below.refl _ _)) fun h3 => ?_
  have h03 : Z0.length = 3 := by omega
  refine (pairs_at hT (s := ⟨none, 0, 0⟩) (l := []) ⟨rfl, by simp, fun i x h => by simp at h⟩ (by decide)).mono ?_
  rintro _ w1 ⟨pp, a, b, rfl, h1, c0, c1⟩
  refine ⟨_, _, rfl, cond_f' rfl ⟨pp, rfl, _, c1, ?_⟩⟩
  obtain ⟨T, hTT⟩ : ∃ T, T = buildT [] := ⟨_, rfl⟩
  have hTe : T = [] := hTT
  have P1 : PairAt W w1 pp a b T T 300 [] := by
    rw [← hTT] at h1
    exact ⟨[], h1, ⟨Nat.zero_le _, fun n x h => by simp at h⟩, (by rw [hTe]; intro u hu; cases hu), (by rw [hTe]; simp), (by rw [hTe]; simp)⟩
  clear h1
  have P2 : PairAt W w1 pp a b T T 300 [ownA ⟨none, 0, 0⟩ [], ownA ⟨none, 0, 0⟩ []] := P1.nilEnd'.nilEnd'
  unfold trystlaw24_MixOrder.l13
  refine ⟨fun t w' => ∃ (k : Nat) (S Pu : List Nat) (B : List Tm), t.2.2 = k ∧ k ≤ 3 ∧ SrvIn B 9000 S Pu k ∧ (∀ j, j < k → (Z0[j]?.getD (⟨none, 0, 0⟩, [])).2.length ≤ 100) ∧ PairAt W w' pp a b T B (300 + 2 * k) [ownA t.1 (toI S), ownA t.2.1 (toI Pu)], fun t _ => 3 - t.2.2.toNat,
    ⟨0, [], [], T, rfl, by omega, SrvIn.nil _ _, fun j hj => by omega, P2⟩, ?_⟩
  clear P2 P1 c0 c1
  rintro ⟨seS, puS, _⟩ w2 ⟨k, S, Pu, B, rfl, hk, hS, hlen, P2⟩
  show trystlaw24_MixOrder.b13 RR _ pairs0 ps (some pp) (some b) ⟨none, 0, 0⟩ ⟨none, 0, 0⟩ ⟨none, 0, 0⟩ seS puS (k : Int) w2
  have P2 : PairAt W w2 pp a b T B (300 + 2 * k) [ownA seS (toI S), ownA puS (toI Pu)] := P2
  have hSl := hS.sl
  have hPl := hS.pl
  unfold trystlaw24_MixOrder.b13
  refine cond_d (p := ((k : Nat) : Int) < 3) (fun hlt => ?_) fun hge => ?_
  · have eN : IntKind.i64.wrap (9000 + ((k : Nat) : Int)) = ((9000 + k : Nat) : Int) := by rw [w64 (by omega)]; omega
    rw [eN]
    refine (pmk0 P2 (by omega) (.inl rfl) (by omega) (by omega)).mono ?_
    rintro _ w3 ⟨sx, B2, rfl, s1, x1, P3⟩
    refine ⟨_, rfl, ?_⟩
    intro w4
    obtain ⟨s5, w5, run, P5⟩ := P3.more_at 0 rfl (sx : Int) (by rw [toI_len]; omega)
    refine ⟨_, _, _, w5, run, (ppub P5 (by omega) (inT_of s1)).mono ?_⟩
    rintro _ w6 ⟨px, B3, rfl, p1, x2, P6⟩
    refine ⟨_, rfl, ?_⟩
    intro w7
    obtain ⟨s8, w8, run8, P8⟩ := P6.more_at 1 rfl (px : Int) (by rw [toI_len]; omega)
    refine ⟨_, _, _, w8, run8, ?_⟩
    obtain ⟨q, hq, hc, hI0⟩ := (hZ0.below P8.base).at2 (i := k) (by omega)
    have hIl := hI0.len
    refine ⟨by omega, by omega, q, hq, _, _, _, by rw [Int.toNat_natCast]; exact hc, cond_d (fun _ => hRR' _ P8.base) fun hle => ?_⟩
    dsimp only
    rw [inc (by omega)]
    have P9 : PairAt W w8 pp a b T B3 (300 + 2 * k + 1 + 1) [ownA s5 (toI (S ++ [sx])), ownA s8 (toI (Pu ++ [px]))] := by
      rw [toI_app, toI_app]
      exact P8
    refine ⟨⟨rfl, rfl, rfl, rfl, rfl, rfl, rfl, k + 1, S ++ [sx], Pu ++ [px], B3, rfl, by omega, ((hS.mono x1).mono x2).add (x2 _ _ s1) p1, fun j hj => ?_, P9.mup (by omega)⟩, by (try dsimp only); omega⟩
    by_cases hjk : j < k
    · exact hlen j hjk
    · obtain rfl : j = k := by omega
      rw [List.getElem?_eq_getElem (by omega)]
      show Z0[j].2.length ≤ 100
      omega
  · have hk3 : k = 3 := by omega
    subst hk3
    have P3 : PairAt W w2 pp a b T B 310 (orR ⟨none, 0, 0⟩ ⟨none, 0, 0⟩ seS puS ⟨none, 0, 0⟩ [] [] S Pu []) := by
      obtain ⟨M, h1, hr⟩ := P2
      have h2 : PairAt W w2 pp a b T B (300 + 2 * 3) (rowsL ⟨none, 0, 0⟩ [] ++ (ownA ⟨none, 0, 0⟩ [] :: ownA ⟨none, 0, 0⟩ [] :: [ownA seS (toI S), ownA puS (toI Pu)])) := PairAt.addK (K := rowsL ⟨none, 0, 0⟩ [] ++ [ownA ⟨none, 0, 0⟩ [], ownA ⟨none, 0, 0⟩ []]) (h1.nil.nil.rowsNil) hr
      exact (h2.perm (List.perm_append_comm (l₁ := rowsL ⟨none, 0, 0⟩ []))).mup (by omega)
    refine mo_l11 hRR' hS ⟨hm1, hm6⟩ (by omega) hZ0 h03 (fun z hz => ?_) P3
    obtain ⟨j, hj⟩ := List.getElem?_of_mem hz
    have hjl := (List.getElem?_eq_some_iff.1 hj).1
    have := hlen j (by omega)
    rw [hj] at this
    exact this

end Go.Proofs.YtoclhecldmahiaaDoor
