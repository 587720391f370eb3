/-
  An epoch's keys are the page's: each leaf's chain, where two meet.
-/
import Derived.Test.YtoclhecldmahiaaDoorScC
set_option linter.unusedVariables false
set_option linter.unusedVariables false
set_option linter.unusedSimpArgs false
namespace Go.Proofs.YtoclhecldmahiaaDoor
open Go.Lf Go.RowKit

theorem tagP_good {T : List Tm} {s x : Int} (hs : inT T s) (hx : inT T x) (hl : T.length ≤ 1000000) : inT (tagP T s x).1 (tagP T s x).2 ∧ Grown T (tagP T s x).1 2 := by
  obtain ⟨g1, g2⟩ := putG (err_kdf (n := 22) hs (by omega)) (by omega)
  have gl := put_len1 T ⟨4, 22, [s]⟩
  obtain ⟨g3, g4⟩ := putG (T := (put T ⟨4, 22, [s]⟩).1) (err_hash (xs := [(put T ⟨4, 22, [s]⟩).2.1, x]) (by simp) (by simp; exact ⟨g2, (Ext.put _ _).inT hx⟩)) (by omega)
  exact ⟨g4, (Grown.put T (by simp)).trans (Grown.put _ (by simp))⟩
theorem chainP_good {T : List Tm} {s i : Int} (hs : inT T s) (hi : 0 ≤ i) (hi2 : i ≤ 9223372036854775807) (hl : T.length ≤ 1000000) : inT (chainP T s i).1 (chainP T s i).2 ∧ Grown T (chainP T s i).1 3 := by
  obtain ⟨g1, g2⟩ := putG (err_kdf (n := 23) hs (by omega)) (by omega)
  have gl := put_len1 T ⟨4, 23, [s]⟩
  obtain ⟨g3, g4⟩ := putG (T := (put T ⟨4, 23, [s]⟩).1) (err_word (n := i) hi) (by omega)
  have gl2 := put_len1 (put T ⟨4, 23, [s]⟩).1 ⟨2, i, []⟩
  obtain ⟨g5, g6⟩ := putG (T := (put (put T ⟨4, 23, [s]⟩).1 ⟨2, i, []⟩).1) (err_hash (xs := [(put T ⟨4, 23, [s]⟩).2.1, (put (put T ⟨4, 23, [s]⟩).1 ⟨2, i, []⟩).2.1]) (by simp) (by simp; exact ⟨(Ext.put _ _).inT g2, g4⟩)) (by omega)
  exact ⟨g6, ((Grown.put T (by simp)).trans (Grown.put _ hi2)).trans (Grown.put _ (by simp))⟩
theorem meetP_good {T : List Tm} {s i j n : Int} (hs : inT T s) (hi : isLeaf i) (hj : isLeaf j) (hn : 0 ≤ n) (hn2 : n ≤ 9223372036854775807) (hl : T.length ≤ 1000000) : inT (meetP T s i j n).1 (meetP T s i j n).2 ∧ Grown T (meetP T s i j n).1 5 := by
  unfold isLeaf at hi hj
  unfold meetP
  obtain ⟨lo, hlo⟩ : ∃ lo, lo = if j < i then j else i := ⟨_, rfl⟩
  obtain ⟨hh, hhi⟩ : ∃ hi, hi = if j > i then j else i := ⟨_, rfl⟩
  have hlo2 : 0 ≤ lo ∧ lo < 8 := by rw [hlo]; split <;> omega
  have hhi2 : 0 ≤ hh ∧ hh < 8 := by rw [hhi]; split <;> omega
  rw [← hlo, ← hhi]
  dsimp only
  have k1 := Grown.put T (t := ⟨4, 24, [s]⟩) (by simp)
  obtain ⟨g1, g2⟩ := putG (err_kdf (n := 24) hs (by omega)) (by omega)
  have gl := put_len1 T ⟨4, 24, [s]⟩
  generalize put T ⟨4, 24, [s]⟩ = q1 at *
  have k2 := Grown.put q1.1 (t := ⟨2, lo, []⟩) (by show lo ≤ _; omega)
  obtain ⟨g3, g4⟩ := putG (T := q1.1) (err_word (n := lo) (by omega)) (by omega)
  have gl2 := put_len1 q1.1 ⟨2, lo, []⟩
  generalize put q1.1 ⟨2, lo, []⟩ = q2 at *
  have k3 := Grown.put q2.1 (t := ⟨2, hh, []⟩) (by show hh ≤ _; omega)
  obtain ⟨g5, g6⟩ := putG (T := q2.1) (err_word (n := hh) (by omega)) (by omega)
  have gl3 := put_len1 q2.1 ⟨2, hh, []⟩
  generalize put q2.1 ⟨2, hh, []⟩ = q3 at *
  have k4 := Grown.put q3.1 (t := ⟨2, n, []⟩) (by show n ≤ _; omega)
  obtain ⟨g7, g8⟩ := putG (T := q3.1) (err_word (n := n) (by omega)) (by omega)
  have gl4 := put_len1 q3.1 ⟨2, n, []⟩
  generalize put q3.1 ⟨2, n, []⟩ = q4 at *
  have k5 := Grown.put q4.1 (t := ⟨3, 0, [q1.2.1, q2.2.1, q3.2.1, q4.2.1]⟩) (by simp)
  obtain ⟨g9, g10⟩ := putG (T := q4.1) (err_hash (xs := [q1.2.1, q2.2.1, q3.2.1, q4.2.1]) (by simp) (by simp; exact ⟨k4.ext.inT (k3.ext.inT (k2.ext.inT g2)), k4.ext.inT (k3.ext.inT g4), k4.ext.inT g6, g8⟩)) (by omega)
  exact ⟨g10, (((k1.trans k2).trans k3).trans k4).trans k5⟩

section
variable {W w : World} {R : List Asn} {pp a b : Addr} {A B : List Tm} {M : List Nat}

theorem like_at (h : At W w (pairL pp a b M A B ++ R)) (hp : PairOk A B M) (hnb : Nb B) (hs : A.length + B.length ≤ 1000000) (hE : Ext B A) {got e want x : Int} (h1 : want ≠ 0 → e = want ∧ got = 0) (h2 : want = 0 → e = 0 ∧ got = x ∧ inT B x) :
    CallsV Tryd.prog n_trystlaw18_like #[.pointer (some pp), .int .i64 got, .int .i64 e, .int .i64 want, .int .i64 x] w fun v w' => v = .bool true ∧ ∃ M', At W w' (pairL pp a b M' A B ++ R) ∧ PairOk A B M' := by
  refine trystlaw18_like.lift ?_
  unfold trystlaw18_like.main
  refine cond_n (fun hw => ?_) fun hw => ?_
  · obtain ⟨rfl, rfl⟩ := h1 hw
    exact cond_e (fun _ => ⟨rfl, M, h, hp⟩) fun h => absurd rfl h
  · obtain ⟨rfl, rfl, hx⟩ := h2 hw
    refine cond_e (fun _ => ?_) fun h => absurd rfl h
    refine (pairT h hp hnb (by omega) got).mono ?_
    rintro _ w1 ⟨k, A', M', rfl, h3, hto, hr⟩
    obtain rfl := hto.same hE
    obtain ⟨hA, hB⟩ := h.okB
    have := hr.same hA hB hE
    rw [if_pos hx] at this
    subst this
    exact ⟨_, rfl, by simp, M', h3, hto.ok⟩

theorem wakes18 (h : At W w R) : CallsV Tryd.prog n_trystlaw18_wakes #[] w fun v w' => v = .bool true ∧ At W w' R := by
  refine trystlaw18_wakes.lift ?_
  unfold trystlaw18_wakes.main
  refine (new_at h).mono ?_
  rintro _ w1 ⟨p, rfl, h1⟩
  refine ⟨_, rfl, cond_f' rfl ?_⟩
  refine (mk0 1 1 h1 (by omega)).mono ?_
  rintro _ w2 ⟨rfl, h2⟩
  have p2 : put [] ⟨1, 1, []⟩ = ([⟨1, 1, []⟩], 0, 0) := by decide
  rw [p2] at h2 ⊢
  have e1 : meetP [⟨1, 1, []⟩] 0 3 1 5 = ([⟨1, 1, []⟩, ⟨4, 24, [0]⟩, ⟨2, 1, []⟩, ⟨2, 3, []⟩, ⟨2, 5, []⟩, ⟨3, 0, [1, 2, 3, 4]⟩], 5) := by decide
  have e2 : meetP [⟨1, 1, []⟩, ⟨4, 24, [0]⟩, ⟨2, 1, []⟩, ⟨2, 3, []⟩, ⟨2, 5, []⟩, ⟨3, 0, [1, 2, 3, 4]⟩] 0 1 3 5 = ([⟨1, 1, []⟩, ⟨4, 24, [0]⟩, ⟨2, 1, []⟩, ⟨2, 3, []⟩, ⟨2, 5, []⟩, ⟨3, 0, [1, 2, 3, 4]⟩], 5) := by decide
  have e3 : meetP [⟨1, 1, []⟩, ⟨4, 24, [0]⟩, ⟨2, 1, []⟩, ⟨2, 3, []⟩, ⟨2, 5, []⟩, ⟨3, 0, [1, 2, 3, 4]⟩] 0 1 3 6 = ([⟨1, 1, []⟩, ⟨4, 24, [0]⟩, ⟨2, 1, []⟩, ⟨2, 3, []⟩, ⟨2, 5, []⟩, ⟨3, 0, [1, 2, 3, 4]⟩, ⟨2, 6, []⟩, ⟨3, 0, [1, 2, 3, 6]⟩], 7) := by decide
  refine ⟨_, _, rfl, (meet_at 0 3 1 5 h2 (by simp) (by omega)).mono ?_⟩
  rintro v3 w3 ⟨q3, _⟩
  obtain ⟨rfl, h3⟩ := q3 (by decide) (by decide)
  simp only [e1] at h3 ⊢
  refine ⟨_, _, rfl, (meet_at 0 1 3 5 h3 (by simp) (by omega)).mono ?_⟩
  rintro v4 w4 ⟨q4, _⟩
  obtain ⟨rfl, h4⟩ := q4 (by decide) (by decide)
  simp only [e2] at h4 ⊢
  refine ⟨_, _, rfl, (meet_at 0 1 3 6 h4 (by simp) (by omega)).mono ?_⟩
  rintro v5 w5 ⟨q5, _⟩
  obtain ⟨rfl, h5⟩ := q5 (by decide) (by decide)
  simp only [e3] at h5 ⊢
  exact ⟨_, _, rfl, cond_t rfl (cond_t rfl (cond_t rfl (cond_t rfl ⟨rfl, h5.drop⟩)))⟩

theorem rleaf_at (i : Int) (w : World) : CallsV Tryd.prog n_trystlaw18_leaf #[.int .i64 i] w fun v w' => v = .bool (decide (isLeaf i)) ∧ w = w' := by
  refine trystlaw18_leaf.lift ?_
  unfold trystlaw18_leaf.main
  refine cond_d (fun h0 => ?_) fun h0 => ?_
  · refine ⟨?_, rfl⟩
    congr 1
    rw [decide_eq_decide]
    unfold isLeaf; omega
  · exact ⟨by rw [decide_eq_false]; unfold isLeaf; omega, rfl⟩
end

set_option maxRecDepth 100000 in
theorem leaves_spec {W : World} (hT : PT W.heap.size W) {s : Sl} {l : List Stp} (h : Stps W s l) (x i j n : Int) (hn : n ≤ 9223372036854775807) :
    CallsV Tryd.prog n_trystlaw18_SchedLeaves #[.slice s.a s.len s.cap, .int .i64 x, .int .i64 i, .int .i64 j, .int .i64 n] W fun v w' => v = .bool true ∧ Below W.heap.size W w' := by
  refine trystlaw18_SchedLeaves.lift ?_
  unfold trystlaw18_SchedLeaves.main
  refine (heavy_spec h).mono ?_
  rintro _ _ ⟨rfl, rfl⟩
  refine ⟨_, rfl, cond_c (fun _ => ⟨rfl, Below.refl _ _⟩) fun hh => ?_⟩
  refine (pairs_at hT h hh).mono ?_
  rintro _ w1 ⟨pp, a, b, rfl, h1, c0, c1⟩
  refine ⟨_, _, rfl, cond_f' rfl ⟨pp, rfl, some b, c1, pp, rfl, some a, c0, ?_⟩⟩
  have hTl := buildT_len l
  have hTn : Nb (buildT l) := build_n h
  generalize buildT l = T at h1 hTl hTn
  generalize hRR : (fun (v : Value) (w' : World) => v = .bool true ∧ Below W.heap.size W w') = RR
  have c3 : ∀ (T : List Tm) (M : List Nat) w' (wv k e f : Int), At W w' (pairL pp a b M T T) → PairOk T T M → Nb T → T.length ≤ 160 → (f ≠ 0 → e = f ∧ k = 0) → (f = 0 → e = 0 ∧ k = wv ∧ inT T wv) → trystlaw18_SchedLeaves.c3 RR x i j n (some pp) (some b) wv k e f w' := by
    intro T M w' wv k e f h2 hp hnb hl g1 g2
    unfold trystlaw18_SchedLeaves.c3
    refine (like_at (R := []) h2 hp hnb (by omega) (Ext.refl _) g1 g2).mono ?_
    rintro _ w3 ⟨rfl, M', h3, hp3⟩
    have h3 : At W w3 [prA pp a b M', arT a T, pgT b T] := h3
    obtain ⟨d0, d1⟩ := prCells h3.s
    refine ⟨_, rfl, cond_f' rfl ⟨pp, rfl, some a, d0, ?_⟩⟩
    have c1 : ∀ (T A : List Tm) w' (wv k e f : Int), At W w' [prA pp a b M', arT a T, pgT b T] → PairOk T T M' → Nb T → T.length ≤ 170 → (f ≠ 0 → e = f ∧ k = 0) → (f = 0 → e = 0 ∧ k = wv ∧ inT T wv) → trystlaw18_SchedLeaves.c1 RR (some pp) wv k e f w' := by
      intro T A w' wv k e f h4 hp4 hnb4 hl4 g1 g2
      unfold trystlaw18_SchedLeaves.c1
      refine (like_at (R := []) h4 hp4 hnb4 (by omega) (Ext.refl _) g1 g2).mono ?_
      rintro _ w5 ⟨rfl, M5, h5, _⟩
      refine ⟨_, rfl, cond_t rfl ((wakes18 h5).mono ?_)⟩
      rintro _ w6 ⟨rfl, h6⟩
      refine ⟨_, rfl, ?_⟩
      rw [← hRR]
      exact ⟨rfl, h6.b⟩
    refine (meet_at x i j n h3.swap (by omega) hn).mono ?_
    rintro v4 w4 ⟨good, bad⟩
    have hc2 : ∀ (f : Int) w' (A : List Tm) (k e : Int), At W w' [arT a A, prA pp a b M', pgT b T] → (f ≠ 0 → A = T ∧ e = f ∧ k = 0) → (f = 0 → e = 0 ∧ A = (meetP T x i j n).1 ∧ k = (meetP T x i j n).2 ∧ isLeaf i ∧ isLeaf j ∧ 0 ≤ n ∧ inT T x) → trystlaw18_SchedLeaves.c2 RR x i j n (some pp) (some b) wv k e f w' := by
      intro f w' A k e h4 q1 q2
      unfold trystlaw18_SchedLeaves.c2
      refine cond_e (fun hf => ?_) fun hf => ?_
      · obtain ⟨rfl, rfl, rfl, li, lj, ln, hx⟩ := q2 hf
        obtain ⟨r1, r2⟩ := meetP_good hx li lj ln hn (by omega)
        have r2l := r2.len
        refine (rmeet_at x i j n (h4.front 2 rfl)).mono ?_
        rintro _ w5 ⟨rfl, h5⟩
        exact ⟨_, rfl, c1 _ T w5 _ _ _ f ((h5.front 2 rfl).perm (List.Perm.cons _ (List.Perm.swap _ _ _))) (hp3.mono r2.ext r2.ext) (r2.nb hnb) (by omega) (fun h => absurd hf h) fun _ => ⟨rfl, rfl, r1⟩⟩
      · obtain ⟨rfl, rfl, rfl⟩ := q1 hf
        exact c1 _ A w' _ _ _ _ h4.swap hp3 hnb (by omega) (fun _ => ⟨rfl, rfl⟩) fun h => absurd h hf
    by_cases hin : (isLeaf i ∧ isLeaf j ∧ 0 ≤ n) ∧ inT T x
    · obtain ⟨rfl, h4⟩ := good hin.1 hin.2
      refine ⟨_, _, rfl, ?_⟩
      intro w6
      refine (nodes_new [x] (h4.front 2 rfl) (by simp)).mono ?_
      rintro _ w7 ⟨rfl, h7⟩
      rw [if_pos (by simpa using hin.2)]
      refine ⟨_, rfl, (rleaf_at i w7).mono ?_⟩
      rintro _ _ ⟨rfl, rfl⟩
      refine ⟨_, rfl, cond_not (fun hf => absurd hin.1.1 (of_decide_eq_false hf)) fun _ => (rleaf_at j w7).mono ?_⟩
      rintro _ _ ⟨rfl, rfl⟩
      refine ⟨_, rfl, cond_not (fun hf => absurd hin.1.2.1 (of_decide_eq_false hf)) fun _ => cond_d (fun hneg => by omega) fun _ => ?_⟩
      exact hc2 0 w7 _ _ _ (h7.front 1 rfl |>.perm (List.Perm.cons _ (List.Perm.swap _ _ _))) (fun h => absurd rfl h) fun _ => ⟨rfl, rfl, rfl, hin.1.1, hin.1.2.1, hin.1.2.2, hin.2⟩
    · obtain ⟨rfl, h4⟩ := bad hin
      refine ⟨_, _, rfl, ?_⟩
      intro w6
      refine (nodes_new [x] (h4.front 2 rfl) (by simp)).mono ?_
      rintro _ w7 ⟨rfl, h7⟩
      have h8 := h7.front 1 rfl |>.perm (List.Perm.cons _ (List.Perm.swap _ _ _))
      refine ⟨_, rfl, (rleaf_at i w7).mono ?_⟩
      rintro _ _ ⟨rfl, rfl⟩
      have b1 : ¬ (isLeaf i ∧ isLeaf j ∧ 0 ≤ n) → trystlaw18_SchedLeaves.c2 RR x i j n (some pp) (some b) wv 0 (if isLeaf i ∧ isLeaf j ∧ 0 ≤ n then 8 else 1) 1 w7 := fun hb => by
        rw [if_neg hb]
        exact hc2 1 w7 _ _ _ h8 (fun _ => ⟨rfl, rfl, rfl⟩) fun h => absurd h (by decide)
      refine ⟨_, rfl, cond_not (fun hf => b1 fun h => of_decide_eq_false hf h.1) fun ht1 => (rleaf_at j w7).mono ?_⟩
      rintro _ _ ⟨rfl, rfl⟩
      refine ⟨_, rfl, cond_not (fun hf => b1 fun h => of_decide_eq_false hf h.2.1) fun ht2 => cond_d (fun hneg => b1 fun h => by omega) fun hpos => ?_⟩
      have hok : isLeaf i ∧ isLeaf j ∧ 0 ≤ n := ⟨of_decide_eq_true ht1, of_decide_eq_true ht2, by omega⟩
      have hx : ¬ inT T x := fun h => hin ⟨hok, h⟩
      rw [if_pos hok, if_neg (show ¬ ∀ y ∈ [x], inT T y by simpa using hx)]
      exact hc2 8 w7 _ _ _ h8 (fun _ => ⟨rfl, rfl, rfl⟩) fun h => absurd h (by decide)
  -- the chain
  have h1 : At W w1 [prA pp a b [], arT a T, pgT b T] := h1
  have hp0 : PairOk T T [] := ⟨Nat.zero_le _, fun n x h => by simp at h⟩
  refine (chain_at x i h1.swap (by omega)).mono ?_
  rintro v2 w2 ⟨good, bad⟩
  have hc4 : ∀ (f : Int) w' (A : List Tm) (k e : Int), At W w' [arT a A, prA pp a b [], pgT b T] → (f ≠ 0 → A = T ∧ e = f ∧ k = 0) → (f = 0 → e = 0 ∧ A = (chainP T x i).1 ∧ k = (chainP T x i).2 ∧ isLeaf i ∧ inT T x) → trystlaw18_SchedLeaves.c4 RR x i j n (some pp) (some b) 0 k e f w' := by
    intro f w' A k e h4 q1 q2
    unfold trystlaw18_SchedLeaves.c4
    refine cond_e (fun hf => ?_) fun hf => ?_
    · obtain ⟨rfl, rfl, rfl, li, hx⟩ := q2 hf
      have li' := li
      unfold isLeaf at li'
      obtain ⟨r1, r2⟩ := chainP_good hx li'.1 (by omega) (by omega)
      have r2l := r2.len
      refine (rchain_at x i (h4.front 2 rfl)).mono ?_
      rintro _ w5 ⟨rfl, h5⟩
      exact ⟨_, rfl, c3 _ [] w5 _ _ _ f ((h5.front 2 rfl).perm (List.Perm.cons _ (List.Perm.swap _ _ _))) (hp0.mono r2.ext r2.ext) (r2.nb hTn) (by omega) (fun h => absurd hf h) fun _ => ⟨rfl, rfl, r1⟩⟩
    · obtain ⟨rfl, rfl, rfl⟩ := q1 hf
      exact c3 _ [] w' _ _ _ _ h4.swap hp0 hTn (by omega) (fun _ => ⟨rfl, rfl⟩) fun h => absurd h hf
  by_cases hin : isLeaf i ∧ inT T x
  · obtain ⟨rfl, h4⟩ := good hin.1 hin.2
    refine ⟨_, _, rfl, ?_⟩
    intro w6
    refine (nodes_new [x] (h4.front 2 rfl) (by simp)).mono ?_
    rintro _ w7 ⟨rfl, h7⟩
    rw [if_pos (by simpa using hin.2)]
    refine ⟨_, rfl, (rleaf_at i w7).mono ?_⟩
    rintro _ _ ⟨rfl, rfl⟩
    refine ⟨_, rfl, cond_not (fun hf => absurd hin.1 (of_decide_eq_false hf)) fun _ => ?_⟩
    exact hc4 0 w7 _ _ _ (h7.front 1 rfl |>.perm (List.Perm.cons _ (List.Perm.swap _ _ _))) (fun h => absurd rfl h) fun _ => ⟨rfl, rfl, rfl, hin.1, hin.2⟩
  · obtain ⟨rfl, h4⟩ := bad hin
    refine ⟨_, _, rfl, ?_⟩
    intro w6
    refine (nodes_new [x] (h4.front 2 rfl) (by simp)).mono ?_
    rintro _ w7 ⟨rfl, h7⟩
    have h8 := h7.front 1 rfl |>.perm (List.Perm.cons _ (List.Perm.swap _ _ _))
    refine ⟨_, rfl, (rleaf_at i w7).mono ?_⟩
    rintro _ _ ⟨rfl, rfl⟩
    refine ⟨_, rfl, cond_not (fun hf => ?_) fun ht => ?_⟩
    · rw [if_neg (of_decide_eq_false hf)]
      exact hc4 1 w7 _ _ _ h8 (fun _ => ⟨rfl, rfl, rfl⟩) fun h => absurd h (by decide)
    · have hl : isLeaf i := of_decide_eq_true ht
      rw [if_pos hl, if_neg (show ¬ ∀ y ∈ [x], inT T y from fun h => hin ⟨hl, by simpa using h⟩)]
      exact hc4 8 w7 _ _ _ h8 (fun _ => ⟨rfl, rfl, rfl⟩) fun h => absurd h (by decide)

end Go.Proofs.YtoclhecldmahiaaDoor

/-
  An epoch's keys, of any terms, are the page's.
-/
set_option linter.unusedVariables false
set_option linter.unusedSimpArgs false
namespace Go.Proofs.YtoclhecldmahiaaDoor
open Go.Lf Go.RowKit

set_option maxRecDepth 100000 in
theorem schedExact_spec {W : World} (hT : PT W.heap.size W) {s : Sl} {l : List Stp} (h : Stps W s l) (x y z : Int) :
    CallsV Tryd.prog n_trystlaw18_SchedExact #[.slice s.a s.len s.cap, .int .i64 x, .int .i64 y, .int .i64 z] W fun v w' => v = .bool true ∧ Below W.heap.size W w' := by
  refine trystlaw18_SchedExact.lift ?_
  unfold trystlaw18_SchedExact.main
  refine (heavy_spec h).mono ?_
  rintro _ _ ⟨rfl, rfl⟩
  refine ⟨_, rfl, cond_c (fun _ => ⟨rfl, Below.refl _ _⟩) fun hh => ?_⟩
  refine (pairs_at hT h hh).mono ?_
  rintro _ w1 ⟨pp, a, b, rfl, h1, c0, c1⟩
  refine ⟨_, _, rfl, cond_f' rfl ⟨pp, rfl, some b, c1, pp, rfl, some a, c0, ?_⟩⟩
  have hTl := buildT_len l
  have hTn : Nb (buildT l) := build_n h
  generalize buildT l = T at h1 hTl hTn
  generalize hRR : (fun (v : Value) (w' : World) => v = .bool true ∧ Below W.heap.size W w') = RR
  have c1 : ∀ (T : List Tm) (M : List Nat) w' (wv k e f : Int), At W w' [prA pp a b M, arT a T, pgT b T] → PairOk T T M → Nb T → T.length ≤ 200 → (f ≠ 0 → e = f ∧ k = 0) → (f = 0 → e = 0 ∧ k = wv ∧ inT T wv) → trystlaw18_SchedExact.c1 RR (some pp) wv k e f w' := by
    intro T M w' wv k e f h4 hp4 hnb4 hl4 g1 g2
    unfold trystlaw18_SchedExact.c1
    refine (like_at (R := []) h4 hp4 hnb4 (by omega) (Ext.refl _) g1 g2).mono ?_
    rintro _ w5 ⟨rfl, M5, h5, _⟩
    refine ⟨_, rfl, cond_t rfl ((wakes18 h5).mono ?_)⟩
    rintro _ w6 ⟨rfl, h6⟩
    refine ⟨_, rfl, ?_⟩
    rw [← hRR]
    exact ⟨rfl, h6.b⟩
  have c2 : ∀ (T : List Tm) (M : List Nat) w' (wv k e f : Int), At W w' [prA pp a b M, arT a T, pgT b T] → PairOk T T M → Nb T → T.length ≤ 190 → (f ≠ 0 → e = f ∧ k = 0) → (f = 0 → e = 0 ∧ k = wv ∧ inT T wv) → (f = if inT T x then 0 else 8) → trystlaw18_SchedExact.c2 RR x (some pp) (some b) wv k e f w' := by
    intro T M w' wv k e f h4 hp4 hnb4 hl4 g1 g2 hf
    unfold trystlaw18_SchedExact.c2
    refine (like_at (R := []) h4 hp4 hnb4 (by omega) (Ext.refl _) g1 g2).mono ?_
    rintro _ w5 ⟨rfl, M5, h5, hp5⟩
    have h5 : At W w5 [prA pp a b M5, arT a T, pgT b T] := h5
    refine ⟨_, rfl, cond_f' rfl ⟨pp, rfl, some a, (prCells h5.s).1, ?_⟩⟩
    refine (first_at x h5.swap).mono ?_
    rintro _ w6 ⟨rfl, h6⟩
    refine ⟨_, _, rfl, cond_e (fun hf0 => ?_) fun hf0 => ?_⟩
    · have hin : inT T x := Classical.byContradiction fun hn => by rw [if_neg hn] at hf; omega
      obtain ⟨k1, k2, k3⟩ := hashGood (T := T) (xs := [x]) (by simp) (by simpa using hin) (by omega)
      have := k3.len
      intro w7
      refine (rmk 3 0 [x] (h6.front 2 rfl) (by simp)).mono ?_
      rintro _ w8 ⟨rfl, h8⟩
      exact ⟨_, rfl, c1 _ M5 w8 _ _ _ _ (h8.front 2 rfl |>.perm (List.Perm.cons _ (List.Perm.swap _ _ _))) (hp5.mono k3.ext k3.ext) (k3.nb hnb4) (by omega) (fun h => absurd hf0 h) fun _ => ⟨k1, rfl, k2⟩⟩
    · have hin : ¬ inT T x := fun hn => by rw [if_pos hn] at hf; omega
      rw [if_neg hin] at hf
      rw [hashBad (T := T) (xs := [x]) (by simp) (by simpa using hin)] at h6 ⊢
      exact c1 T M5 w6 _ _ _ _ h6.swap hp5 hnb4 (by omega) (fun _ => ⟨hf.symm, rfl⟩) fun h => absurd h hf0
  have c3 : ∀ (T : List Tm) (M : List Nat) w' (wv k e f : Int), At W w' [prA pp a b M, arT a T, pgT b T] → PairOk T T M → Nb T → T.length ≤ 180 → (f ≠ 0 → e = f ∧ k = 0) → (f = 0 → e = 0 ∧ k = wv ∧ inT T wv) → (f = if inT T x then 0 else 8) → trystlaw18_SchedExact.c3 RR x (some pp) (some b) wv k e f w' := by
    intro T M w' wv k e f h4 hp4 hnb4 hl4 g1 g2 hf
    unfold trystlaw18_SchedExact.c3
    refine (like_at (R := []) h4 hp4 hnb4 (by omega) (Ext.refl _) g1 g2).mono ?_
    rintro _ w5 ⟨rfl, M5, h5, hp5⟩
    have h5 : At W w5 [prA pp a b M5, arT a T, pgT b T] := h5
    refine ⟨_, rfl, cond_f' rfl ⟨pp, rfl, some a, (prCells h5.s).1, ?_⟩⟩
    refine (register_at x h5.swap).mono ?_
    rintro _ w6 ⟨rfl, h6⟩
    refine ⟨_, _, rfl, cond_e (fun hf0 => ?_) fun hf0 => ?_⟩
    · have hin : inT T x := Classical.byContradiction fun hn => by rw [if_neg hn] at hf; omega
      obtain ⟨k1, k2, k3⟩ := kdfGood (T := T) (n := 25) hin (by omega) (by omega) (by omega)
      have := k3.len
      refine (rkdf x 25 (h6.front 2 rfl)).mono ?_
      rintro _ w8 ⟨rfl, h8⟩
      exact ⟨_, rfl, c2 _ M5 w8 _ _ _ _ (h8.front 2 rfl |>.perm (List.Perm.cons _ (List.Perm.swap _ _ _))) (hp5.mono k3.ext k3.ext) (k3.nb hnb4) (by omega) (fun h => absurd hf0 h) (fun _ => ⟨k1, rfl, k2⟩) (by rw [if_pos (k3.ext.inT hin)]; exact hf0)⟩
    · have hin : ¬ inT T x := fun hn => by rw [if_pos hn] at hf; omega
      have hf' := hf
      rw [if_neg hin] at hf
      rw [kdfBad (T := T) (n := 25) hin (by omega)] at h6 ⊢
      exact c2 T M5 w6 _ _ _ _ h6.swap hp5 hnb4 (by omega) (fun _ => ⟨hf.symm, rfl⟩) (fun h => absurd h hf0) hf'
  have c4 : ∀ (T : List Tm) (M : List Nat) w' (wv k e f : Int), At W w' [prA pp a b M, arT a T, pgT b T] → PairOk T T M → Nb T → T.length ≤ 175 → (f ≠ 0 → e = f ∧ k = 0) → (f = 0 → e = 0 ∧ k = wv ∧ inT T wv) → trystlaw18_SchedExact.c4 RR x (some pp) (some b) wv k e f w' := by
    intro T M w' wv k e f h4 hp4 hnb4 hl4 g1 g2
    unfold trystlaw18_SchedExact.c4
    refine (like_at (R := []) h4 hp4 hnb4 (by omega) (Ext.refl _) g1 g2).mono ?_
    rintro _ w5 ⟨rfl, M5, h5, hp5⟩
    have h5 : At W w5 [prA pp a b M5, arT a T, pgT b T] := h5
    refine ⟨_, rfl, cond_f' rfl ⟨pp, rfl, some a, (prCells h5.s).1, ?_⟩⟩
    refine (start_at x h5.swap).mono ?_
    rintro _ w6 ⟨rfl, h6⟩
    refine ⟨_, _, rfl, ?_⟩
    intro w7
    refine (nodes_new [x] (h6.front 2 rfl) (by simp)).mono ?_
    rintro _ w8 ⟨rfl, h8⟩
    by_cases hin : inT T x
    · rw [if_pos (by simpa using hin)]
      refine ⟨_, rfl, cond_t rfl ?_⟩
      obtain ⟨k1, k2, k3⟩ := kdfGood (T := T) (n := 21) hin (by omega) (by omega) (by omega)
      have := k3.len
      refine (rkdf x 21 h8).mono ?_
      rintro _ w9 ⟨rfl, h9⟩
      exact ⟨_, rfl, c3 _ M5 w9 _ _ _ _ (h9.front 2 rfl |>.perm (List.Perm.cons _ (List.Perm.swap _ _ _))) (hp5.mono k3.ext k3.ext) (k3.nb hnb4) (by omega) (fun h => absurd rfl h) (fun _ => ⟨k1, rfl, k2⟩) (by rw [if_pos (k3.ext.inT hin)])⟩
    · rw [if_neg (show ¬ ∀ q ∈ [x], inT T q by simpa using hin)]
      refine ⟨_, rfl, cond_f' rfl ?_⟩
      rw [kdfBad (T := T) (n := 21) hin (by omega)] at h8 ⊢
      exact c3 T M5 w8 _ _ _ _ (h8.front 2 rfl |>.perm (List.Perm.cons _ (List.Perm.swap _ _ _))) hp5 hnb4 (by omega) (fun _ => ⟨rfl, rfl⟩) (fun h => absurd h (by decide)) (by rw [if_neg hin])
  have c5 : ∀ (T : List Tm) (M : List Nat) w' (wv k e f : Int), At W w' [prA pp a b M, arT a T, pgT b T] → PairOk T T M → Nb T → T.length ≤ 170 → (f ≠ 0 → e = f ∧ k = 0) → (f = 0 → e = 0 ∧ k = wv ∧ inT T wv) → (f = if inT T x ∧ inT T y then 0 else 8) → trystlaw18_SchedExact.c5 RR x y (some pp) (some b) wv k e f w' := by
    intro T M w' wv k e f h4 hp4 hnb4 hl4 g1 g2 hf
    unfold trystlaw18_SchedExact.c5
    refine (like_at (R := []) h4 hp4 hnb4 (by omega) (Ext.refl _) g1 g2).mono ?_
    rintro _ w5 ⟨rfl, M5, h5, hp5⟩
    have h5 : At W w5 [prA pp a b M5, arT a T, pgT b T] := h5
    refine ⟨_, rfl, cond_f' rfl ⟨pp, rfl, some a, (prCells h5.s).1, ?_⟩⟩
    refine (history_at x y h5.swap).mono ?_
    rintro _ w6 ⟨rfl, h6⟩
    have hiff : (∀ q ∈ [x, y], inT T q) ↔ inT T x ∧ inT T y := by simp
    refine ⟨_, _, rfl, cond_e (fun hf0 => ?_) fun hf0 => ?_⟩
    · have hin : inT T x ∧ inT T y := Classical.byContradiction fun hn => by rw [if_neg hn] at hf; omega
      obtain ⟨k1, k2, k3⟩ := hashGood (T := T) (xs := [x, y]) (by simp) (hiff.2 hin) (by omega)
      have := k3.len
      intro w7
      refine (rmk 3 0 [x, y] (h6.front 2 rfl) (by simp)).mono ?_
      rintro _ w8 ⟨rfl, h8⟩
      exact ⟨_, rfl, c4 _ M5 w8 _ _ _ _ (h8.front 2 rfl |>.perm (List.Perm.cons _ (List.Perm.swap _ _ _))) (hp5.mono k3.ext k3.ext) (k3.nb hnb4) (by omega) (fun h => absurd hf0 h) fun _ => ⟨k1, rfl, k2⟩⟩
    · have hin : ¬ (inT T x ∧ inT T y) := fun hn => by rw [if_pos hn] at hf; omega
      rw [if_neg hin] at hf
      rw [hashBad (T := T) (xs := [x, y]) (by simp) (fun h => hin (hiff.1 h))] at h6 ⊢
      exact c4 T M5 w6 _ _ _ _ h6.swap hp5 hnb4 (by omega) (fun _ => ⟨hf.symm, rfl⟩) fun h => absurd h hf0
  have c6 : ∀ (T : List Tm) (M : List Nat) w' (wv k e f : Int), At W w' [prA pp a b M, arT a T, pgT b T] → PairOk T T M → Nb T → T.length ≤ 165 → (f ≠ 0 → e = f ∧ k = 0) → (f = 0 → e = 0 ∧ k = wv ∧ inT T wv) → trystlaw18_SchedExact.c6 RR x y (some pp) (some b) wv k e f w' := by
    intro T M w' wv k e f h4 hp4 hnb4 hl4 g1 g2
    unfold trystlaw18_SchedExact.c6
    refine (like_at (R := []) h4 hp4 hnb4 (by omega) (Ext.refl _) g1 g2).mono ?_
    rintro _ w5 ⟨rfl, M5, h5, hp5⟩
    have h5 : At W w5 [prA pp a b M5, arT a T, pgT b T] := h5
    refine ⟨_, rfl, cond_f' rfl ⟨pp, rfl, some a, (prCells h5.s).1, ?_⟩⟩
    refine (tag_at x y h5.swap (by omega)).mono ?_
    rintro v6 w6 ⟨good, bad⟩
    have hiff : (∀ q ∈ [x, y], inT T q) ↔ inT T x ∧ inT T y := by simp
    by_cases hin : inT T x ∧ inT T y
    · obtain ⟨rfl, h6⟩ := good hin
      refine ⟨_, _, rfl, ?_⟩
      intro w7
      refine (nodes_new [x, y] (h6.front 2 rfl) (by simp)).mono ?_
      rintro _ w8 ⟨rfl, h8⟩
      rw [if_pos (hiff.2 hin)]
      refine ⟨_, rfl, cond_t rfl ?_⟩
      obtain ⟨k2, k3⟩ := tagP_good hin.1 hin.2 (T := T) (by omega)
      have := k3.len
      refine (rtag_at x y h8).mono ?_
      rintro _ w9 ⟨rfl, h9⟩
      exact ⟨_, rfl, c5 _ M5 w9 _ _ _ _ (h9.front 2 rfl |>.perm (List.Perm.cons _ (List.Perm.swap _ _ _))) (hp5.mono k3.ext k3.ext) (k3.nb hnb4) (by omega) (fun h => absurd rfl h) (fun _ => ⟨rfl, rfl, k2⟩) (by rw [if_pos ⟨k3.ext.inT hin.1, k3.ext.inT hin.2⟩])⟩
    · obtain ⟨rfl, h6⟩ := bad hin
      refine ⟨_, _, rfl, ?_⟩
      intro w7
      refine (nodes_new [x, y] (h6.front 2 rfl) (by simp)).mono ?_
      rintro _ w8 ⟨rfl, h8⟩
      rw [if_neg (fun h => hin (hiff.1 h))]
      refine ⟨_, rfl, cond_f' rfl ?_⟩
      exact c5 T M5 w8 _ _ _ _ (h8.front 2 rfl |>.perm (List.Perm.cons _ (List.Perm.swap _ _ _))) hp5 hnb4 (by omega) (fun _ => ⟨rfl, rfl⟩) (fun h => absurd h (by decide)) (by rw [if_neg hin])
  have c7 : ∀ (T : List Tm) (M : List Nat) w' (wv k e f : Int), At W w' [prA pp a b M, arT a T, pgT b T] → PairOk T T M → Nb T → T.length ≤ 160 → (f ≠ 0 → e = f ∧ k = 0) → (f = 0 → e = 0 ∧ k = wv ∧ inT T wv) → trystlaw18_SchedExact.c7 RR x y z (some pp) (some b) wv k e f w' := by
    intro T M w' wv k e f h4 hp4 hnb4 hl4 g1 g2
    unfold trystlaw18_SchedExact.c7
    refine (like_at (R := []) h4 hp4 hnb4 (by omega) (Ext.refl _) g1 g2).mono ?_
    rintro _ w5 ⟨rfl, M5, h5, hp5⟩
    have h5 : At W w5 [prA pp a b M5, arT a T, pgT b T] := h5
    refine ⟨_, rfl, cond_f' rfl ⟨pp, rfl, some a, (prCells h5.s).1, ?_⟩⟩
    refine (secret_at x y z h5.swap).mono ?_
    rintro _ w6 ⟨rfl, h6⟩
    refine ⟨_, _, rfl, ?_⟩
    intro w7
    refine (nodes_new [x, y, z] (h6.front 2 rfl) (by simp)).mono ?_
    rintro _ w8 ⟨rfl, h8⟩
    by_cases hin : ∀ q ∈ [x, y, z], inT T q
    · rw [if_pos hin]
      refine ⟨_, rfl, cond_t rfl ?_⟩
      obtain ⟨k1, k2, k3⟩ := hashGood (T := T) (xs := [x, y, z]) (by simp) hin (by omega)
      have := k3.len
      refine (rsecret_at x y z h8).mono ?_
      rintro _ w9 ⟨rfl, h9⟩
      exact ⟨_, rfl, c6 _ M5 w9 _ _ _ _ (h9.front 2 rfl |>.perm (List.Perm.cons _ (List.Perm.swap _ _ _))) (hp5.mono k3.ext k3.ext) (k3.nb hnb4) (by omega) (fun h => absurd rfl h) fun _ => ⟨k1, rfl, k2⟩⟩
    · rw [if_neg hin]
      refine ⟨_, rfl, cond_f' rfl ?_⟩
      rw [hashBad (T := T) (xs := [x, y, z]) (by simp) hin] at h8 ⊢
      exact c6 T M5 w8 _ _ _ _ (h8.front 2 rfl |>.perm (List.Perm.cons _ (List.Perm.swap _ _ _))) hp5 hnb4 (by omega) (fun _ => ⟨rfl, rfl⟩) fun h => absurd h (by decide)
  have h1 : At W w1 [prA pp a b [], arT a T, pgT b T] := h1
  have hp0 : PairOk T T [] := ⟨Nat.zero_le _, fun n x h => by simp at h⟩
  refine (joiner_at x y h1.swap).mono ?_
  rintro _ w6 ⟨rfl, h6⟩
  refine ⟨_, _, rfl, ?_⟩
  intro w7
  refine (nodes_new [x, y] (h6.front 2 rfl) (by simp)).mono ?_
  rintro _ w8 ⟨rfl, h8⟩
  by_cases hin : ∀ q ∈ [x, y], inT T q
  · rw [if_pos hin]
    refine ⟨_, rfl, cond_t rfl ?_⟩
    obtain ⟨k1, k2, k3⟩ := hashGood (T := T) (xs := [x, y]) (by simp) hin (by omega)
    have := k3.len
    refine (rjoiner_at x y h8).mono ?_
    rintro _ w9 ⟨rfl, h9⟩
    exact ⟨_, rfl, c7 _ [] w9 _ _ _ _ (h9.front 2 rfl |>.perm (List.Perm.cons _ (List.Perm.swap _ _ _))) (hp0.mono k3.ext k3.ext) (k3.nb hTn) (by omega) (fun h => absurd rfl h) fun _ => ⟨k1, rfl, k2⟩⟩
  · rw [if_neg hin]
    refine ⟨_, rfl, cond_f' rfl ?_⟩
    rw [hashBad (T := T) (xs := [x, y]) (by simp) hin] at h8 ⊢
    exact c7 T [] w8 _ _ _ _ (h8.front 2 rfl |>.perm (List.Perm.cons _ (List.Perm.swap _ _ _))) hp0 hTn (by omega) (fun _ => ⟨rfl, rfl⟩) fun h => absurd h (by decide)

end Go.Proofs.YtoclhecldmahiaaDoor
