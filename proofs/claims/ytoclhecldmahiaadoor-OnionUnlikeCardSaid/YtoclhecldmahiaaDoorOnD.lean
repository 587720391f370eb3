/-
  Onions of unlike draws, or payloads, are unlike, and so are their layers on the way, and their keys.
-/
import Derived.Test.YtoclhecldmahiaaDoorOnA
set_option linter.unusedVariables false
set_option linter.unusedVariables false
set_option linter.unusedSimpArgs false
namespace Go.Proofs.YtoclhecldmahiaaDoor
open Go.Lf Go.RowKit

theorem nat_of_eq {a b : Nat} (h : (a : Int) = (b : Int)) : a = b := by omega

theorem unlike_law {T : List Tm} (hT : TOk T) {pubs K J : List Int} {c d : Int} {X Y : Nat → Int} (h1 : OnionIn T pubs K c X) (h2 : OnionIn T pubs J d Y) :
    (∀ i, i < 3 → ((K[i]?.getD 0 = J[i]?.getD 0) ↔ c = d)) ∧ ∀ m, m ≤ 3 → 1 ≤ m → (X m = Y m ↔ c = d ∧ X 0 = Y 0) := by
  have hk : ∀ i, i < 3 → ((K[i]?.getD 0 = J[i]?.getD 0) ↔ c = d) := by
    intro i hi
    have hKl := h1.kl
    have hJl := h2.kl
    obtain ⟨n, e1, e2⟩ := h1.key i K[i] (List.getElem?_eq_getElem (by omega))
    obtain ⟨n', f1, f2⟩ := h2.key i J[i] (List.getElem?_eq_getElem (by omega))
    rw [List.getElem?_eq_getElem (by omega), List.getElem?_eq_getElem (by omega), Option.getD_some, Option.getD_some, e1, f1]
    constructor
    · intro h
      rw [nat_of_eq h] at e2
      have := some_two e2 f2
      simpa using this
    · rintro rfl
      rw [hT.once _ _ _ e2 f2]
  refine ⟨hk, fun m => ?_⟩
  have step : ∀ j, j < 3 → (X (j + 1) = Y (j + 1) ↔ c = d ∧ X j = Y j) := by
    intro j hj
    obtain ⟨o, w, e1, e2, e3⟩ := h1.lay j hj
    obtain ⟨o', w', f1, f2, f3⟩ := h2.lay j hj
    rw [e1, f1]
    constructor
    · intro h
      rw [nat_of_eq h] at e2
      have := some_two e2 f2
      simp only [Tm.mk.injEq, List.cons.injEq, true_and, and_true] at this
      rw [nat_of_eq this.1] at e3
      have h3 := some_two e3 f3
      simp only [Tm.mk.injEq, List.cons.injEq, true_and, and_true] at h3
      exact ⟨h3, this.2.1⟩
    · rintro ⟨rfl, hx⟩
      have ew := hT.once _ _ _ e3 f3
      rw [(hk (2 - j) (by omega)).2 rfl, hx, ew] at e2
      rw [hT.once _ _ _ e2 f2]
  induction m with
  | zero => intro _ h; omega
  | succ m ih =>
    intro hm _
    rw [step m (by omega)]
    rcases Nat.eq_zero_or_pos m with rfl | h0
    · exact Iff.rfl
    · rw [ih (by omega) h0]
      constructor
      · rintro ⟨h, _, h'⟩; exact ⟨h, h'⟩
      · rintro ⟨h, h'⟩; exact ⟨h, h, h'⟩

/-- where a term without args stands -/
theorem put_plain {T : List Tm} {k n : Int} (hk : k = 1 ∨ k = 2) (hn : 0 ≤ n) (hn2 : n ≤ 9223372036854775807) (hl : T.length ≤ 1000000) : ∃ x : Nat, (put T ⟨k, n, []⟩).2.1 = x ∧ (put T ⟨k, n, []⟩).2.2 = 0 ∧ (put T ⟨k, n, []⟩).1[x]? = some ⟨k, n, []⟩ ∧ Grown T (put T ⟨k, n, []⟩).1 1 := by
  have he : errOf T ⟨k, n, []⟩ = 0 := errOk (by simp; omega) hn (.inl (by rcases hk with rfl | rfl <;> simp [numbered])) (by rcases hk with rfl | rfl <;> simp [least]) (by simp) (by simp)
  obtain ⟨x, h1, h2, h3⟩ := putAt he (by omega)
  exact ⟨x, h1, h2, h3, Grown.put _ hn2⟩
theorem put_pub {T : List Tm} {x : Nat} (hx : inT T x) (hl : T.length ≤ 1000000) : ∃ y : Nat, (put T ⟨5, 0, [(x : Int)]⟩).2.1 = y ∧ (put T ⟨5, 0, [(x : Int)]⟩).2.2 = 0 ∧ (put T ⟨5, 0, [(x : Int)]⟩).1[y]? = some ⟨5, 0, [(x : Int)]⟩ ∧ Grown T (put T ⟨5, 0, [(x : Int)]⟩).1 1 := by
  have he : errOf T ⟨5, 0, [(x : Int)]⟩ = 0 := errOk (by simp) (by simp) (.inr rfl) (by simp [least]) (by simp [mostOf]) (by simpa using hx)
  obtain ⟨y, h1, h2, h3⟩ := putAt he (by omega)
  exact ⟨y, h1, h2, h3, Grown.put _ (by simp)⟩

set_option maxRecDepth 100000 in
theorem unlike_spec {W : World} (hT : PT W.heap.size W) (n m x y : Int) (hn : n ≤ 9223372036854775807) (hm : m ≤ 9223372036854775807) (hx : x ≤ 9223372036854775807) (hy : y ≤ 9223372036854775807) :
    CallsV Tryd.prog n_trystlaw23_OnionUnlike #[.int .i64 n, .int .i64 m, .int .i64 x, .int .i64 y] W fun v w' => v = .bool true ∧ Below W.heap.size W w' := by
  refine trystlaw23_OnionUnlike.lift ?_
  unfold trystlaw23_OnionUnlike.main
  refine cond_d (fun _ => ⟨rfl, Below.refl _ _⟩) fun n1 => cond_d (fun _ => ⟨rfl, Below.refl _ _⟩) fun n2 => cond_d (fun _ => ⟨rfl, Below.refl _ _⟩) fun n3 => cond_d (fun _ => ⟨rfl, Below.refl _ _⟩) fun n4 => ?_
  generalize hRR : (fun (v : Value) (w' : World) => v = .bool true ∧ Below W.heap.size W w') = RR
  unfold trystlaw23_OnionUnlike.c9
  refine (new_at (At.start hT)).mono ?_
  rintro _ w1 ⟨a, rfl, h1⟩
  refine ⟨_, rfl, cond_f' rfl ?_⟩
  unfold trystlaw23_OnionUnlike.l7
  refine ⟨fun x w' => ∃ (i : Nat) (S P : List Nat) (T : List Tm), x.2.2 = i ∧ i ≤ 3 ∧ SrvIn T 1 S P i ∧ T.length ≤ 2 * i ∧ At W w' [ownA x.1 (toI S), ownA x.2.1 (toI P), arT a T], fun x _ => 3 - x.2.2.toNat,
    ⟨0, [], [], [], rfl, by omega, SrvIn.nil _ _, by simp, h1.nil.nil⟩, ?_⟩
  clear h1
  rintro ⟨ss, sp, _⟩ w2 ⟨i, S, P, T, rfl, hi, hsrv, hTl, h2⟩
  show trystlaw23_OnionUnlike.b7 _ _ n m x y (some a) ss sp (i : Int) w2
  have h2 : At W w2 [ownA ss (toI S), ownA sp (toI P), arT a T] := h2
  have hSl := hsrv.sl
  have hPl := hsrv.pl
  unfold trystlaw23_OnionUnlike.b7
  refine cond_d (p := ((i : Nat) : Int) < 3) (fun hlt => ?_) fun hge => ?_
  · have e7 : IntKind.i64.wrap (1 + (i : Int)) = ((1 + i : Nat) : Int) := by rw [w64 (by omega)]; omega
    rw [e7]
    refine (mk0 1 ((1 + i : Nat) : Int) (h2.front 2 rfl) (by omega)).mono ?_
    rintro _ w3 ⟨rfl, h3⟩
    obtain ⟨x1, f1, f2, f3, hg1⟩ := put_plain (T := T) (k := 1) (n := ((1 + i : Nat) : Int)) (.inl rfl) (by omega) (by omega) (by omega)
    have hg1l := hg1.len
    rw [f1, f2]
    generalize (put T ⟨1, ((1 + i : Nat) : Int), []⟩).1 = T1 at h3 f3 hg1 hg1l
    refine ⟨_, _, rfl, ?_⟩
    intro w4
    refine (mk 5 0 [(x1 : Int)] h3 (by omega) (by simp)).mono ?_
    rintro _ w5 ⟨rfl, h5⟩
    obtain ⟨y1, d1, d2, d3, hg2⟩ := put_pub (inT_of f3) (by omega)
    have hg2l := hg2.len
    rw [d1, d2]
    generalize (put T1 ⟨5, 0, [(x1 : Int)]⟩).1 = T2 at h5 d3 hg2 hg2l
    refine ⟨_, _, rfl, cond_n (fun h => absurd rfl h) fun _ => cond_n (fun h => absurd rfl h) fun _ => ?_⟩
    unfold trystlaw23_OnionUnlike.c8
    intro w6
    obtain ⟨s7, w7, hr7, h7⟩ := more_at 1 rfl h5 (x1 : Int) (by rw [toI_len]; omega)
    refine ⟨_, _, _, _, hr7, ?_⟩
    intro w8
    obtain ⟨s9, w9, hr9, h9⟩ := more_at 2 rfl h7 (y1 : Int) (by rw [toI_len]; omega)
    refine ⟨_, _, _, _, hr9, ?_⟩
    dsimp only
    rw [inc (by omega)]
    have h9 : At W w9 [arT a T2, ownA s7 (toI S ++ [(x1 : Int)]), ownA s9 (toI P ++ [(y1 : Int)])] := h9
    have h9' : At W w9 [ownA s7 (toI (S ++ [x1])), ownA s9 (toI (P ++ [y1])), arT a T2] := by
      rw [toI_app, toI_app]
      exact (h9.front 2 rfl).front 2 rfl
    exact ⟨⟨rfl, rfl, rfl, rfl, rfl, i + 1, S ++ [x1], P ++ [y1], T2, rfl, by omega, ((hsrv.mono hg1.ext).mono hg2.ext).add (hg2.ext _ _ f3) d3, by omega, h9'⟩, by (try dsimp only); omega⟩
  · have hi3 : i = 3 := by omega
    subst hi3
    unfold trystlaw23_OnionUnlike.c6
    refine (mk0 1 n (h2.front 2 rfl) hn).mono ?_
    rintro _ w3 ⟨rfl, h3⟩
    obtain ⟨c, c1, c2, c3, cg⟩ := put_plain (T := T) (k := 1) (n := n) (.inl rfl) (by omega) hn (by omega)
    have cgl := cg.len
    rw [c1, c2]
    generalize (put T ⟨1, n, []⟩).1 = T1 at h3 c3 cg cgl
    refine ⟨_, _, rfl, (mk0 1 m h3 hm).mono ?_⟩
    rintro _ w4 ⟨rfl, h4⟩
    obtain ⟨d, d1, d2, d3, dg⟩ := put_plain (T := T1) (k := 1) (n := m) (.inl rfl) (by omega) hm (by omega)
    have dgl := dg.len
    rw [d1, d2]
    generalize (put T1 ⟨1, m, []⟩).1 = T2 at h4 d3 dg dgl
    refine ⟨_, _, rfl, (mk0 2 x h4 hx).mono ?_⟩
    rintro _ w5 ⟨rfl, h5⟩
    obtain ⟨u, u1, u2, u3, ug⟩ := put_plain (T := T2) (k := 2) (n := x) (.inr rfl) (by omega) hx (by omega)
    have ugl := ug.len
    rw [u1, u2]
    generalize (put T2 ⟨2, x, []⟩).1 = T3 at h5 u3 ug ugl
    refine ⟨_, _, rfl, (mk0 2 y h5 hy).mono ?_⟩
    rintro _ w6 ⟨rfl, h6⟩
    obtain ⟨v, v1, v2, v3, vg⟩ := put_plain (T := T3) (k := 2) (n := y) (.inr rfl) (by omega) hy (by omega)
    have vgl := vg.len
    rw [v1, v2]
    generalize (put T3 ⟨2, y, []⟩).1 = T4 at h6 v3 vg vgl
    refine ⟨_, _, rfl, cond_n (fun h => absurd rfl h) fun _ => cond_n (fun h => absurd rfl h) fun _ => cond_n (fun h => absurd rfl h) fun _ => cond_n (fun h => absurd rfl h) fun _ => ?_⟩
    have hT4 : TOk T4 := h6.ok
    have c4 := vg.ext _ _ (ug.ext _ _ (dg.ext _ _ c3))
    have d4 := vg.ext _ _ (ug.ext _ _ d3)
    have u4 := vg.ext _ _ u3
    have hcd : (c : Int) = d ↔ n = m := by
      constructor
      · intro h
        rw [nat_of_eq h] at c4
        have := some_two c4 d4
        simpa using this
      · rintro rfl
        rw [hT4.once _ _ _ c4 d4]
    have huv : (u : Int) = v ↔ x = y := by
      constructor
      · intro h
        rw [nat_of_eq h] at u4
        have := some_two u4 v3
        simpa using this
      · rintro rfl
        rw [hT4.once _ _ _ u4 v3]
    have hs4 := hsrv.mono (cg.ext.trans (dg.ext.trans (ug.ext.trans vg.ext)))
    have h6 : At W w6 [arT a T4, ownA ss (toI S), ownA sp (toI P)] := h6
    unfold trystlaw23_OnionUnlike.c5
    obtain ⟨pl, pk⟩ := hs4.pubs
    have he1 : wrapErr T4 (toI P) c u = 0 := wrapErr0.2 ⟨pl, fun z hz => (pk z hz).1, inT_of c4, inT_of u4, fun z hz => (pk z hz).2⟩
    refine (wrap_at h6 (sp := sp) (pubs := toI P) (by omega) c u (by omega) (rowsI 1 rfl (by omega))).mono ?_
    rintro _ w7 ⟨sk, rfl, h7⟩
    obtain ⟨X, hX0, hX3, hX, gX⟩ := wrap_in he1 (by omega)
    rw [wrapR_good he1] at h7 ⊢
    dsimp only at h7 ⊢
    rw [← hX3]
    have gXl := gX.len
    generalize (wrapT T4 (toI P) c u).2.2 = K at h7 hX
    generalize (wrapT T4 (toI P) c u).1 = T5 at h7 hX gX gXl
    have hs5 := hs4.mono gX.ext
    obtain ⟨pl5, pk5⟩ := hs5.pubs
    have he2 : wrapErr T5 (toI P) d v = 0 := wrapErr0.2 ⟨pl5, fun z hz => (pk5 z hz).1, gX.ext.inT (inT_of d4), gX.ext.inT (inT_of v3), fun z hz => (pk5 z hz).2⟩
    have h7 : At W w7 (arT a T5 :: [ownA sk K, ownA ss (toI S), ownA sp (toI P)]) := h7.swap
    refine ⟨_, _, _, _, _, rfl, (wrap_at h7 (sp := sp) (pubs := toI P) (by omega) d v (by omega) (rowsI 2 rfl (by omega))).mono ?_⟩
    rintro _ w8 ⟨sj, rfl, h8⟩
    obtain ⟨Y, hY0, hY3, hY, gY⟩ := wrap_in he2 (by omega)
    rw [wrapR_good he2] at h8 ⊢
    dsimp only at h8 ⊢
    rw [← hY3]
    have gYl := gY.len
    generalize (wrapT T5 (toI P) d v).2.2 = J at h8 hY
    generalize (wrapT T5 (toI P) d v).1 = T6 at h8 hY gY gYl
    have hX' := hX.mono gY.ext
    have hs6 := hs5.mono gY.ext
    have h8 : At W w8 [ownA sj J, arT a T6, ownA sk K, ownA ss (toI S), ownA sp (toI P)] := h8
    have hT6 : TOk T6 := h8.swap.ok
    obtain ⟨lk, lx⟩ := unlike_law hT6 hX' hY
    rw [hX0, hY0, huv, hcd] at lx
    rw [hcd] at lk
    have hskl : sk.len = 3 := by rw [h8.numLen 2 rfl, hX'.kl]
    have hsjl : sj.len = 3 := by rw [h8.numLen 0 rfl, hY.kl]
    have hssl : ss.len = 3 := by rw [h8.numLen 3 rfl, toI_len, hs6.sl]
    refine ⟨_, _, _, _, _, rfl, cond_n (fun h => absurd rfl h) fun _ => cond_n (fun h => absurd rfl h) fun _ => cond_n (fun h => absurd (by rw [hskl, hsjl]) h) fun _ => ?_⟩
    unfold trystlaw23_OnionUnlike.c4 trystlaw23_OnionUnlike.l2
    refine ⟨fun t w' => ∃ i : Nat, t.2.2 = i ∧ i ≤ 3 ∧ t.1 = X (3 - i) ∧ t.2.1 = Y (3 - i) ∧ At W w' [ownA sj J, arT a T6, ownA sk K, ownA ss (toI S), ownA sp (toI P)], fun t _ => 3 - t.2.2.toNat, ⟨0, rfl, by omega, rfl, rfl, h8⟩, ?_⟩
    clear h8
    rintro ⟨_, _, _⟩ w9 ⟨i, rfl, hi, rfl, rfl, h9⟩
    show trystlaw23_OnionUnlike.b2 _ _ n m x y (some a) ss sk sj (X (3 - i)) (Y (3 - i)) (i : Int) w9
    unfold trystlaw23_OnionUnlike.b2
    refine cond_d (p := ((i : Nat) : Int) < 3) (fun hlt => ?_) fun hge => ?_
    · have hi3 : i < 3 := by omega
      have eqo := lx (3 - i) (by omega) (by omega)
      have eqk := lk i hi3
      have e1 : (X (3 - i) == Y (3 - i)) = (decide (n = m ∧ x = y)) := by
        rw [show (X (3 - i) == Y (3 - i)) = decide (X (3 - i) = Y (3 - i)) from rfl]
        exact decide_eq_decide.2 eqo
      have hKl := hX'.kl
      have hJl := hY.kl
      have e2 : (K[i] == J[i]) = decide (n = m) := by
        rw [show (K[i] == J[i]) = decide (K[i] = J[i]) from rfl]
        rw [List.getElem?_eq_getElem (by omega), List.getElem?_eq_getElem (by omega)] at eqk
        exact decide_eq_decide.2 eqk
      have c3 : ∀ w', At W w' [ownA sj J, arT a T6, ownA sk K, ownA ss (toI S), ownA sp (toI P)] → trystlaw23_OnionUnlike.c3 RR (fun n0' m1' x2' y3' a9' s10' k26' j28' o25' p27' i29' w' => (n0' = n ∧ m1' = m ∧ x2' = x ∧ y3' = y ∧ a9' = some a ∧ s10' = ss ∧ k26' = sk ∧ j28' = sj ∧ ∃ i : Nat, i29' = i ∧ i ≤ 3 ∧ o25' = X (3 - i) ∧ p27' = Y (3 - i) ∧ At W w' [ownA sj J, arT a T6, ownA sk K, ownA ss (toI S), ownA sp (toI P)]) ∧ 3 - i29'.toNat < 3 - ((i : Nat) : Int).toNat) n m x y (some a) ss (X (3 - i)) sk (Y (3 - i)) sj (i : Int) w' := by
        intro w' h'
        unfold trystlaw23_OnionUnlike.c3
        obtain ⟨z, hz, pz, _⟩ := hs6.peel hX' hi3
        obtain ⟨z', hz', pz', _⟩ := hs6.peel hY hi3
        rw [hz] at hz'
        obtain rfl := Option.some.inj hz'
        have zi : (toI S)[i]? = some (z : Int) := by unfold toI; rw [List.getElem?_map, hz]; rfl
        have sCell : ∀ {w' : World}, At W w' [ownA sj J, arT a T6, ownA sk K, ownA ss (toI S), ownA sp (toI P)] → ∃ q, ss.a = some q ∧ w'.cell? (q.add i) = some (.int .i64 (z : Int)) := by
          intro w' h'
          obtain ⟨q, hq, hc⟩ := h'.num 3 rfl (i := i) (List.getElem?_eq_some_iff.1 zi).1
          refine ⟨q, hq, ?_⟩
          rw [hc, (List.getElem?_eq_some_iff.1 zi).2]
        obtain ⟨q, hq, hc⟩ := sCell h'
        refine ⟨by omega, by rw [hssl]; exact hlt, q, hq, _, by rw [Int.toNat_natCast]; exact hc, (peel_at h'.swap _ _).mono ?_⟩
        rintro _ w10 ⟨rfl, h10⟩
        rw [pz]
        have h10 : At W w10 [ownA sj J, arT a T6, ownA sk K, ownA ss (toI S), ownA sp (toI P)] := h10.swap
        obtain ⟨q, hq, hc⟩ := sCell h10
        refine ⟨_, _, _, rfl, by omega, by rw [hssl]; exact hlt, q, hq, _, by rw [Int.toNat_natCast]; exact hc, (peel_at h10.swap _ _).mono ?_⟩
        rintro _ w11 ⟨rfl, h11⟩
        rw [pz']
        refine ⟨_, _, _, rfl, cond_n (fun h => absurd rfl h) fun _ => cond_n (fun h => absurd rfl h) fun _ => ?_⟩
        dsimp only
        rw [inc (by omega)]
        exact ⟨⟨rfl, rfl, rfl, rfl, rfl, rfl, rfl, rfl, i + 1, rfl, by omega, by rw [show 3 - (i + 1) = 2 - i by omega], by rw [show 3 - (i + 1) = 2 - i by omega], h11.swap⟩, by omega⟩
      obtain ⟨q1, hq1, hc1⟩ := h9.num 2 rfl (i := i) (by omega)
      obtain ⟨q2, hq2, hc2⟩ := h9.num 0 rfl (i := i) (by omega)
      refine cond_e (fun hnm => ?_) fun hnm => ?_
      · refine cond_f' (by rw [e1]; simp [hnm]; by_cases hxy : x = y <;> simp [hxy]) ⟨by omega, by rw [hskl]; exact hlt, q1, hq1, _, by rw [Int.toNat_natCast]; exact hc1, by omega, by rw [hsjl]; exact hlt, q2, hq2, _, by rw [Int.toNat_natCast]; exact hc2, cond_f' (by rw [e2]; simp [hnm]) (c3 _ h9.drew)⟩
      · refine cond_f' (by rw [e1]; simp [hnm]) ⟨by omega, by rw [hskl]; exact hlt, q1, hq1, _, by rw [Int.toNat_natCast]; exact hc1, by omega, by rw [hsjl]; exact hlt, q2, hq2, _, by rw [Int.toNat_natCast]; exact hc2, cond_f' (by rw [e2]; simp [hnm]) (c3 _ h9.drew)⟩
    · have hi3 : i = 3 := by omega
      subst hi3
      unfold trystlaw23_OnionUnlike.c1
      have e0 : X (3 - 3) = Y (3 - 3) ↔ x = y := by
        show X 0 = Y 0 ↔ _
        rw [hX0, hY0]; exact huv
      have e1 : (X (3 - 3) == Y (3 - 3)) = decide (x = y) := by
        rw [show (X (3 - 3) == Y (3 - 3)) = decide (X (3 - 3) = Y (3 - 3)) from rfl]
        exact decide_eq_decide.2 e0
      refine cond_t (by rw [e1]; by_cases hxy : x = y <;> simp [hxy]) ((wakes23 h9).mono ?_)
      rintro _ w10 ⟨rfl, h10⟩
      refine ⟨_, rfl, ?_⟩
      rw [← hRR]
      exact ⟨rfl, h10.b⟩

end Go.Proofs.YtoclhecldmahiaaDoor
